/- What the claim rests on, part 7: the value-level engine and contracts of functions; no condition. -/
import Derived.Test.YtmiojnibngncaaaGreatZQd
import Derived.Test.YtmiojnibngncaaaGreatZQf
import Derived.Test.YtmiojnibngncaaaGreatZQc
import Derived.Test.YtmiojnibngncaaaGreatZQe
namespace Go.Proofs.YtmiojnibngncaaaGreat
open Go Go.RowKit
set_option linter.unusedVariables false
set_option linter.unusedSimpArgs false
set_option maxRecDepth 100000
set_option maxHeartbeats 4000000
attribute [local irreducible] VWP Qb5 Qbn Qbs Qbu Qbj Qbt Qa3 Qbq Qcq Qc6 Qbk Qdb Qc4 Qbr Qbm Qa8
structure FrameD where
  desc : Int
  phase : Int
  place : Int
  deriving DecidableEq
def FrameD.enc (e : FrameD) : List PT := [.int .i64 e.desc, .int .i64 e.phase, .int .i64 e.place]
def FrameD.cells (e : FrameD) : List VV := [.int .i64 e.desc, .int .i64 e.phase, .int .i64 e.place]
def Qaq (es : List FrameD) : List (List PT) := es.map FrameD.enc
theorem Qag (es : List FrameD) : (Qaq es).length = es.length := by simp [Qaq]
theorem Qah (es : List FrameD) : Qbb (Qaq es) := by
  intro r hr c hc
  obtain ⟨e, _, rfl⟩ := List.mem_map.1 hr
  simp only [FrameD.enc, List.mem_cons, List.not_mem_nil, or_false] at hc
  rcases hc with rfl | rfl | rfl <;> constructor
theorem Qap (es : List FrameD) : (Qaq es).take es.length = Qaq es := by rw [List.take_of_length_le (by rw [Qag]; exact Nat.le_refl _)]
theorem Qe1 {es : List FrameD} {i : Nat} {e : FrameD} (h : es[i]? = some e) : (Qaq es)[i]? = some [.int .i64 e.desc, .int .i64 e.phase, .int .i64 e.place] := by simp [Qaq, h, FrameD.enc]
theorem Qoc (es : List FrameD) : (Qaq es).all (·.all Qt1) = true := by
  simp [Qaq, FrameD.enc, Qt1, List.all_eq_true]
theorem Xcn (es : List FrameD) (k : Nat) (e : FrameD) : (Qaq es).set k [.int .i64 e.desc, .int .i64 e.phase, .int .i64 e.place] = Qaq (es.set k e) := by simp [Qaq, List.map_set, FrameD.enc]
theorem Qyt (e : FrameD) : SatP Tryz.prog 124 [.agg e.cells] (.agg e.cells) [] := by
  refine wEp Tryz.func124 [.cell 2 160] 14 fun E hE => ?_
  unfold FrameD.cells
  have F := (Eq.refl 0)
  repeat' first | refine wSq fun _ hK => ?_ | refine ww1 ?_ | (refine wK ?_; clear hK) | (simp only [wHb, reduceCtorEq] at hb <;> try (exfalso; omega)) | refine wCd (fun hb => ?_) fun hb => ?_ | refine ww3 ?_ | refine ww4 ?_ | refine wGd (fun hb => ?_) fun hb => ?_ | exact trivial
  all_goals refine Qbw (vs := _) (acc := _) (by simp only [go_sem, Qcd]; rfl) (by simp only [go_sem, wrap, exV, exA, Qen, exC]; rfl) (by simp) (by simp) (by simp)
theorem Qoh (e f : FrameD) : SatP Tryz.prog 144 [.agg e.cells, .agg f.cells] (.bool (decide (e = f))) [] := by
  refine wEp Tryz.func144 [.tmp 4] 20 fun E hE => ?_
  unfold FrameD.cells
  have F := (Eq.refl 0)
  repeat' first | refine wSq fun _ hK => ?_ | refine ww1 ?_ | (refine wK ?_; clear hK) | (simp only [wHb, reduceCtorEq] at hb <;> try (exfalso; omega)) | refine wCd (fun hb => ?_) fun hb => ?_ | refine ww3 ?_ | refine ww4 ?_ | refine wGd (fun hb => ?_) fun hb => ?_ | exact trivial
  all_goals refine wLf ?_
  all_goals (cases e; cases f; simp_all)
theorem Qt3 (es : List FrameD) (left : Int) (h0 : 0 ≤ left) (h1 : left ≤ 1048576) (hl : es.length ≤ 9223372036854775807) : SatP Tryz.prog 55 [.fr 162 (Qaq es), .int .i64 left] (.int .i64 (szB es.length left)) [] := by
  have hw : IntKind.i64.wrap (left - es.length) = left - es.length := Qax (by omega)
  refine wEp Tryz.func55 [.tmp 4] 12 fun E hE => ?_
  have F := wwA @Qag hw
  repeat' first | refine wSq fun _ hK => ?_ | refine ww1 ?_ | (refine wK ?_; clear hK) | (simp only [wHb, reduceCtorEq] at hb <;> try (exfalso; omega)) | refine wCd (fun hb => ?_) fun hb => ?_ | refine ww3 ?_ | refine ww4 ?_ | refine wGd (fun hb => ?_) fun hb => ?_ | exact trivial
  all_goals refine wLf ?_
  all_goals simp only [szB]
  · rw [if_pos hb]
  · rw [if_neg hb]
theorem Qvb (es : List FrameD) (hl : es.length ≤ 1048576) : SatP Tryz.prog 65 [.fr 162 (Qaq es)] (.rf 0 es.length) [(160, Qaq es)] := by
  refine wEp Tryz.func65 [.tmp 2] 23 (hp := (by simpa using Qah es)) fun E hE => ?_
  have F := @Qag
  repeat' first | refine wSq fun _ hK => ?_ | refine ww1 ?_ | (refine wK ?_; clear hK) | (simp only [wHb, reduceCtorEq] at hb <;> try (exfalso; omega)) | refine wCd (fun hb => ?_) fun hb => ?_ | refine ww3 ?_ | refine ww4 ?_ | refine wGd (fun hb => ?_) fun hb => ?_ | exact trivial
  refine Qa4 (X := Nat × List (List PT)) (fun x => [(0, .fr 162 (Qaq es)), (3, .rf 0 es.length), (4, .int .i64 x.1)]) (fun x => [(0, .root 160 x.2)]) (fun x => es.length - x.1)
    (fun x => x.1 ≤ es.length ∧ x.2.length = es.length ∧ (∀ j e, j < x.1 → es[j]? = some e → x.2[j]? = some e.enc) ∧ (∀ j, x.1 ≤ j → j < es.length → x.2[j]? = some [.int .i64 0, .int .i64 0, .int .i64 0]))
    1 (0, List.replicate es.length [.int .i64 0, .int .i64 0, .int .i64 0]) ⟨by simp, by simp, by simp, fun j _ hj => by simp [hj]⟩ (by simp [Qbo]) (by simp [Qbd]) (by simp) ?_
  rintro ⟨i, rows⟩ nx ⟨hi, hlen, hdone, hrest⟩ hB
  rcases Nat.lt_or_ge i es.length with hlt | hge
  · obtain ⟨e, he⟩ : ∃ e, es[i]? = some e := ⟨_, List.getElem?_eq_getElem hlt⟩
    have hr := hrest i (Nat.le_refl _) hlt
    simp only at hr hi hlen hdone hrest
    have hre := Qe1 he
    have F := wwA @Qag (wwA hre (wwA hr (wwA hlen @FrameD.cells.eq_1)))
    repeat' first | refine wSq fun _ hK => ?_ | refine ww1 ?_ | (refine wK ?_; clear hK) | (simp only [wHb, reduceCtorEq] at hb <;> try (exfalso; omega)) | refine wCd (fun hb => ?_) fun hb => ?_ | refine wCa (c := by first | exact Qyt _) (k := ?_) | refine ww3 ?_ | refine ww4 ?_ | refine wGd (fun hb => ?_) fun hb => ?_ | exact trivial
    have hw := Qax (x := (i : Int) + 1) (by omega)
    refine Qcj (i + 1, rows.set i e.enc) ⟨?_, ?_, ?_, ?_⟩ ?_ (by simp [Qbo, tmL, hw]) (by simp [Qbd, hpL, FrameD.enc]) (by simpa using hB)
    · simp only; omega
    · simpa using hlen
    · intro j f hj hf
      rcases Nat.lt_or_ge j i with h | h
      · simp only; rw [List.getElem?_set_ne (by omega)]; exact hdone j f h hf
      · obtain rfl : j = i := by simp only at hj; omega
        rw [he] at hf
        cases hf
        simp [hlen, hlt]
    · intro j hj hj2
      simp only at hj
      simp only
      rw [List.getElem?_set_ne (by omega)]
      exact hrest j (by omega) hj2
    · simp only; omega
  · simp only at hi hlen hdone hrest
    obtain rfl : i = es.length := by omega
    have hrows : rows = Qaq es := by
      refine List.ext_getElem? fun j => ?_
      rcases Nat.lt_or_ge j es.length with h | h
      · obtain ⟨e, he⟩ : ∃ e, es[j]? = some e := ⟨_, List.getElem?_eq_getElem h⟩
        rw [hdone j e h he, Qe1 he]
        rfl
      · rw [List.getElem?_eq_none (by omega), List.getElem?_eq_none (by rw [Qag]; omega)]
    subst hrows
    have F := @Qag
    repeat' first | refine wSq fun _ hK => ?_ | refine ww1 ?_ | (refine wK ?_; clear hK) | (simp only [wHb, reduceCtorEq] at hb <;> try (exfalso; omega)) | refine wCd (fun hb => ?_) fun hb => ?_ | refine ww3 ?_ | refine ww4 ?_ | refine wGd (fun hb => ?_) fun hb => ?_ | exact trivial
    refine Qhz (T := 0) (by simp only [go_sem]) (by simp only [go_sem]) (Qag es).symm (Qah es)
theorem Qt2 (es fs : List FrameD) (hl : es.length ≤ 1099511627776) : SatP Tryz.prog 75 [.fr 160 (Qaq es), .fr 160 (Qaq fs)] (.bool (decide (es = fs))) [] := by
  refine wEp Tryz.func75 [.tmp 4] 27 fun E hE => ?_
  have F := @Qag
  repeat' first | refine wSq fun _ hK => ?_ | refine ww1 ?_ | (refine wK ?_; clear hK) | (simp only [wHb, reduceCtorEq] at hb <;> try (exfalso; omega)) | refine wCd (fun hb => ?_) fun hb => ?_ | refine wCa (c := by first | exact Qoh _ _) (k := ?_) | refine ww3 ?_ | refine ww4 ?_ | refine wGd (fun hb => ?_) fun hb => ?_ | exact trivial
  · refine wLf ?_
    have : es ≠ fs := fun h => by subst h; simp at hb
    simp [this]
  have hlen : es.length = fs.length := by simp at hb; omega
  clear hb
  refine Qa4 (X := Nat) (fun i => [(0, .fr 160 (Qaq es)), (1, .fr 160 (Qaq fs)), (5, .int .i64 i)]) (fun _ => []) (fun i => es.length - i) (fun i => i ≤ es.length ∧ ∀ j, j < i → es[j]? = fs[j]?) 0 0 ⟨by simp, by simp⟩ (by simp [Qbo]) (by simp) (by simp) ?_
  rintro i nx ⟨hi, hdone⟩ hB
  rcases Nat.lt_or_ge i es.length with hlt | hge
  · obtain ⟨e, he⟩ : ∃ e, es[i]? = some e := ⟨_, List.getElem?_eq_getElem hlt⟩
    obtain ⟨f, hf⟩ : ∃ f, fs[i]? = some f := ⟨_, List.getElem?_eq_getElem (by omega)⟩
    have hre := Qe1 he
    have hrf := Qe1 hf
    have F := wwA @Qag (wwA hre hrf)
    repeat' first | refine wSq fun _ hK => ?_ | refine ww1 ?_ | (refine wK ?_; clear hK) | (simp only [wHb, reduceCtorEq] at hb <;> try (exfalso; omega)) | refine wCd (fun hb => ?_) fun hb => ?_ | refine wCa (c := by first | exact Qoh e f) (k := ?_) | refine ww3 ?_ | refine ww4 ?_ | refine wGd (fun hb => ?_) fun hb => ?_ | exact trivial
    · refine wLf ?_
      have : es ≠ fs := fun h => by subst h; rw [he] at hf; cases hf; simp_all
      simp [this]
    · have hef : e = f := by assumption
      have hw := Qax (x := (i : Int) + 1) (by omega)
      refine Qcj (i + 1) ⟨by omega, fun j hj => ?_⟩ (by omega) (by simp [Qbo, tmL, hw]) (by simp) (by simp)
      rcases Nat.lt_or_ge j i with h | h
      · exact hdone j h
      · obtain rfl : j = i := by omega
        rw [he, hf, hef]
  · obtain rfl : i = es.length := by omega
    have : es = fs := List.ext_getElem? fun j => by
      rcases Nat.lt_or_ge j es.length with h | h
      · exact hdone j h
      · rw [List.getElem?_eq_none (by omega), List.getElem?_eq_none (by omega)]
    subst this
    have F := @Qag
    repeat' first | refine wSq fun _ hK => ?_ | refine ww1 ?_ | (refine wK ?_; clear hK) | (simp only [wHb, reduceCtorEq] at hb <;> try (exfalso; omega)) | refine wCd (fun hb => ?_) fun hb => ?_ | refine ww3 ?_ | refine ww4 ?_ | refine wGd (fun hb => ?_) fun hb => ?_ | exact trivial
    refine wLf ?_
    simp
def Qxk (k : Int) : FrameD := ⟨k, k + 1, k + 2⟩
def Qgy (k : Int) (n : Nat) : List FrameD := (List.range n).map fun j => Qxk (k + 3 * (j : Nat))
theorem Qgi (k : Int) (n : Nat) : (Qgy k n).length = n := by simp [Qgy]
theorem Qrq {k : Int} {n i : Nat} (h : i < n) : (Qgy k n)[i]? = some (Qxk (k + 3 * (i : Nat))) := by simp [Qgy, h]
theorem Qqr (es : List FrameD) (k : Int) (h0 : 0 ≤ k) (h1 : k ≤ 1099511627776) (hl : es.length ≤ 1099511627776) :
    SatO Tryz.prog 81 [.rf 0 es.length, .int .i64 k] [.root 160 (Qaq es)] (.int .i64 (k + 3 * es.length)) [.root 160 (Qaq (Qgy k es.length))] := by
  refine wEo Tryz.func81 [.tmp 4] 34 1 ⟨⟨rfl, Qah _⟩, by simp [Qbc]⟩ fun E hE => ?_
  have F := @Qag
  repeat' first | refine wSq fun _ hK => ?_ | refine ww1 ?_ | (refine wK ?_; clear hK) | (simp only [wHb, reduceCtorEq] at hb <;> try (exfalso; omega)) | refine wCd (fun hb => ?_) fun hb => ?_ | refine ww3 ?_ | refine ww4 ?_ | refine wGd (fun hb => ?_) fun hb => ?_ | exact trivial
  refine Qa4 (X := Nat × List (List PT)) (fun x => [(0, .rf 0 es.length), (1, .int .i64 (k + 3 * (x.1 : Nat))), (5, .int .i64 x.1)]) (fun x => [(0, .root 160 x.2)]) (fun x => es.length - x.1)
    (fun x => x.1 ≤ es.length ∧ x.2.length = es.length ∧ (∀ (j : Nat), j < x.1 → x.2[j]? = some (Qxk (k + 3 * (j : Nat))).enc) ∧ ∀ (j : Nat), x.1 ≤ j → x.2[j]? = (Qaq es)[j]?)
    1 (0, Qaq es) ⟨by simp, by simp [Qag], by simp, by simp⟩ (by simp [Qbo]) (by simp [HpE]) (by simp) ?_
  rintro ⟨i, rows⟩ nx ⟨hi, hlen, hdone, hrest⟩ hB
  simp only at hi hlen hdone hrest
  rcases Nat.lt_or_ge i es.length with hlt | hge
  · obtain ⟨e, he⟩ : ∃ e, es[i]? = some e := ⟨_, List.getElem?_eq_getElem hlt⟩
    have hr := hrest i (Nat.le_refl _)
    rw [Qe1 he] at hr
    have hli : i < rows.length := by omega
    have hle : es.length ≤ rows.length := by omega
    have a2 : k + 3 * (i : Nat) + 1 + 1 = k + 3 * (i : Nat) + 2 := by omega
    have a3 : k + 3 * (i : Nat) + 2 + 1 = k + 3 * ((i + 1 : Nat) : Int) := by omega
    have w1 := Qax (x := k + 3 * (i : Nat) + 1) (by omega)
    have w2 := Qax (x := k + 3 * (i : Nat) + 2) (by omega)
    have w3 := Qax (x := k + 3 * ((i + 1 : Nat) : Int)) (by omega)
    have w0 := Qax (x := (i : Int) + 1) (by omega)
    have F := wwA @Qag (wwA hr (wwA hle (wwA @List.set_set.{0} (wwA @List.length_set.{0} (wwA (fun a => List.getElem?_set_self (a := a) hli) (wwA a2 (wwA a3 (wwA w0 (wwA w1 (wwA w2 w3))))))))))
    repeat' first | refine wSq fun _ hK => ?_ | refine ww1 ?_ | (refine wK ?_; clear hK) | (simp only [wHb, reduceCtorEq] at hb <;> try (exfalso; omega)) | refine wCd (fun hb => ?_) fun hb => ?_ | refine ww3 ?_ | refine ww4 ?_ | refine wGd (fun hb => ?_) fun hb => ?_ | exact trivial
    refine Qcj (i + 1, rows.set i (Qxk (k + 3 * (i : Nat))).enc) ⟨by simp only; omega, by simpa using hlen, fun j hj => ?_, fun j hj => ?_⟩ (by simp only; omega) ?_ ?_ (by simpa using hB)
    · simp only at hj ⊢
      rcases Nat.lt_or_ge j i with h | h
      · rw [List.getElem?_set_ne (by omega)]; exact hdone j h
      · obtain rfl : j = i := by omega
        simp [hli]
    · simp only at hj ⊢
      rw [List.getElem?_set_ne (by omega)]
      exact hrest j (by omega)
    · simp [Qbo, tmL, w0]
    · simp [Qbd, hpL, Qxk, FrameD.enc]
  · obtain rfl : i = es.length := by omega
    have hrows : rows = Qaq (Qgy k es.length) := by
      refine List.ext_getElem? fun j => ?_
      rcases Nat.lt_or_ge j es.length with h | h
      · rw [hdone j h, Qe1 (Qrq h)]
        rfl
      · rw [List.getElem?_eq_none (by omega), List.getElem?_eq_none (by rw [Qag, Qgi]; omega)]
    have F := wwA @Qag hlen
    repeat' first | refine wSq fun _ hK => ?_ | refine ww1 ?_ | (refine wK ?_; clear hK) | (simp only [wHb, reduceCtorEq] at hb <;> try (exfalso; omega)) | refine wCd (fun hb => ?_) fun hb => ?_ | refine ww3 ?_ | refine ww4 ?_ | refine wGd (fun hb => ?_) fun hb => ?_ | exact trivial
    exact Qh6 (by simp only [go_sem]) rfl (by simp only [go_sem]) rfl hrows
theorem Qqb (n : Nat) (k : Int) (h0 : 0 ≤ k) (h1 : k ≤ 1099511627776) (hl : n ≤ 1099511627776) :
    SatP Tryz.prog 86 [.fr 160 (Qaq (Qgy k n)), .int .i64 k] (.int .i64 (k + 3 * n)) [] := by
  refine wEp Tryz.func86 [.tmp 4] 40 fun E hE => ?_
  have F := wwA @Qag @Qgi
  repeat' first | refine wSq fun _ hK => ?_ | refine ww1 ?_ | (refine wK ?_; clear hK) | (simp only [wHb, reduceCtorEq] at hb <;> try (exfalso; omega)) | refine wCd (fun hb => ?_) fun hb => ?_ | refine ww3 ?_ | refine ww4 ?_ | refine wGd (fun hb => ?_) fun hb => ?_ | exact trivial
  refine Qa4 (X := Nat) (fun i => [(0, .fr 160 (Qaq (Qgy k n))), (1, .int .i64 (k + 3 * (i : Nat))), (5, .int .i64 i)]) (fun _ => []) (fun i => n - i)
    (fun i => i ≤ n) 0 0 (by simp) (by simp [Qbo]) (by simp) (by simp) ?_
  rintro i nx hi hB
  rcases Nat.lt_or_ge i n with hlt | hge
  · have hre := Qe1 (Qrq (k := k) hlt)
    simp only [Qxk] at hre
    have a2 : k + 3 * (i : Nat) + 1 + 1 = k + 3 * (i : Nat) + 2 := by omega
    have a3 : k + 3 * (i : Nat) + 2 + 1 = k + 3 * ((i + 1 : Nat) : Int) := by omega
    have w1 := Qax (x := k + 3 * (i : Nat) + 1) (by omega)
    have w2 := Qax (x := k + 3 * (i : Nat) + 2) (by omega)
    have w3 := Qax (x := k + 3 * ((i + 1 : Nat) : Int)) (by omega)
    have w0 := Qax (x := (i : Int) + 1) (by omega)
    have F := wwA @Qag (wwA @Qgi (wwA hre (wwA a2 (wwA a3 (wwA w0 (wwA w1 (wwA w2 (wwA w3 @bne_self_eq_false.{0}))))))))
    repeat' first | refine wSq fun _ hK => ?_ | refine ww1 ?_ | (refine wK ?_; clear hK) | (simp only [wHb, reduceCtorEq] at hb <;> try (exfalso; omega)) | refine wCd (fun hb => ?_) fun hb => ?_ | refine ww3 ?_ | refine ww4 ?_ | refine wGd (fun hb => ?_) fun hb => ?_ | exact trivial
    refine Qcj (i + 1) (by omega) (by omega) ?_ (by simp) (by simp)
    simp [Qbo, tmL, w0]
  · obtain rfl : i = n := by omega
    have F := wwA @Qag @Qgi
    repeat' first | refine wSq fun _ hK => ?_ | refine ww1 ?_ | (refine wK ?_; clear hK) | (simp only [wHb, reduceCtorEq] at hb <;> try (exfalso; omega)) | refine wCd (fun hb => ?_) fun hb => ?_ | refine ww3 ?_ | refine ww4 ?_ | refine wGd (fun hb => ?_) fun hb => ?_ | exact trivial
    refine wLf ?_
    rfl
noncomputable def lookL (s : StoreD) (o : Int) : HeadD × Bool := if bP (Qd2 s) = true ∧ inB o 0 ((s.heads.length : Int) - 1) = true then ((s.heads[o.toNat]?).getD ⟨0, 0, 0⟩, true) else (⟨0, 0, 0⟩, false)
def Qzv (s : StoreD) (f : FrameD) : Bool := inB f.desc 0 ((s.descs.length : Int) - 1) && inB f.phase 0 5 &&
  (if f.phase = 1 ∨ f.phase = 4 then (match s.descs[f.desc.toNat]? with | some d => inB f.place 0 ((d.entries.length : Int) - 1) | none => false) else f.place == 0)
theorem Qyg (s : StoreD) (f : FrameD) (hs : s.small) : SatP Tryz.prog 167 [.agg (s.cells 151 89 91), .agg f.cells] (.bool (Qzv s f)) [] := by
  obtain ⟨f1, f2, f3⟩ := hs
  refine wEp Tryz.func167 [.tmp 4] 42 fun E hE => ?_
  unfold StoreD.cells FrameD.cells
  have hws := Qax (x := (s.descs.length : Int) - 1) (by omega)
  by_cases hin : 0 ≤ f.desc ∧ f.desc < s.descs.length
  · obtain ⟨k, hk⟩ : ∃ k : Nat, f.desc = k := ⟨f.desc.toNat, by omega⟩
    have hkl : k < s.descs.length := by omega
    obtain ⟨d, hd⟩ : ∃ d, s.descs[k]? = some d := ⟨_, List.getElem?_eq_getElem hkl⟩
    have hre := Qbl (te := 91) hd
    have hde := f3 d (List.mem_of_getElem? hd)
    have hwe := Qax (x := (d.entries.length : Int) - 1) (by omega)
    have h1 : inB k 0 ((s.descs.length : Int) - 1) = true := by simp [inB]; omega
    have hf : Qzv s f = (inB f.phase 0 5 && (if f.phase = 1 ∨ f.phase = 4 then inB f.place 0 ((d.entries.length : Int) - 1) else f.place == 0)) := by
      simp [Qzv, hk, h1, hd]
    rw [hf]
    clear hf
    have F := wwA @Qab (wwA @Qaa (wwA hws (wwA hwe (wwA h1 (wwA hre (wwA hkl hk))))))
    repeat' first | refine wSq fun _ hK => ?_ | refine ww1 ?_ | (refine wK ?_; clear hK) | (simp only [wHb, reduceCtorEq] at hb <;> try (exfalso; omega)) | refine wCd (fun hb => ?_) fun hb => ?_ | refine wCa (c := by first | exact Qhr _ _ _) (k := ?_) | refine ww3 ?_ | refine ww4 ?_ | refine wGd (fun hb => ?_) fun hb => ?_ | exact trivial
    all_goals refine wLf ?_
    all_goals simp_all
  · have h1 : inB f.desc 0 ((s.descs.length : Int) - 1) = false := by
      simp [inB]
      omega
    have hf : Qzv s f = false := by simp [Qzv, h1]
    rw [hf]
    clear hf
    have F := wwA @Qab (wwA hws h1)
    repeat' first | refine wSq fun _ hK => ?_ | refine ww1 ?_ | (refine wK ?_; clear hK) | (simp only [wHb, reduceCtorEq] at hb <;> try (exfalso; omega)) | refine wCd (fun hb => ?_) fun hb => ?_ | refine wCa (c := by first | exact Qhr _ _ _) (k := ?_) | refine ww3 ?_ | refine ww4 ?_ | refine wGd (fun hb => ?_) fun hb => ?_ | exact trivial
    all_goals refine wLf ?_
    all_goals rfl
noncomputable def Qj1 (s : StoreD) (f : FrameD) : Bool := bP (Qd2 s) && Qzv s f
theorem Qng (s : StoreD) (f : FrameD) (hs : s.small) : SatP Tryz.prog 154 [.agg (s.cells 151 89 91), .agg f.cells] (.bool (Qj1 s f)) [] := by
  have hc := Qf8 s hs
  obtain ⟨f1, f2, f3⟩ := hs
  refine wEp Tryz.func154 [.tmp 4] 47 fun E hE => ?_
  unfold StoreD.cells FrameD.cells at *
  have hws := Qax (x := (s.descs.length : Int) - 1) (by omega)
  by_cases hin : 0 ≤ f.desc ∧ f.desc < s.descs.length
  · obtain ⟨k, hk⟩ : ∃ k : Nat, f.desc = k := ⟨f.desc.toNat, by omega⟩
    have hkl : k < s.descs.length := by omega
    obtain ⟨d, hd⟩ : ∃ d, s.descs[k]? = some d := ⟨_, List.getElem?_eq_getElem hkl⟩
    have hre := Qbl (te := 91) hd
    have hde := f3 d (List.mem_of_getElem? hd)
    have hwe := Qax (x := (d.entries.length : Int) - 1) (by omega)
    have h1 : inB k 0 ((s.descs.length : Int) - 1) = true := by simp [inB]; omega
    have hf : Qj1 s f = (bP (Qd2 s) && (inB f.phase 0 5 && (if f.phase = 1 ∨ f.phase = 4 then inB f.place 0 ((d.entries.length : Int) - 1) else f.place == 0))) := by
      simp [Qj1, Qzv, hk, h1, hd]
    rw [hf]
    clear hf
    have F := wwA @Qab (wwA @Qaa (wwA hws (wwA hwe (wwA h1 (wwA hre (wwA hkl hk))))))
    repeat' first | refine wSq fun _ hK => ?_ | refine ww1 ?_ | (refine wK ?_; clear hK) | (simp only [wHb, reduceCtorEq] at hb <;> try (exfalso; omega)) | refine wCd (fun hb => ?_) fun hb => ?_ | refine wCa (c := by first | exact hc | exact Qc9 _ _ _) (k := ?_) | refine ww3 ?_ | refine ww4 ?_ | refine wGd (fun hb => ?_) fun hb => ?_ | exact trivial
    all_goals refine wLf ?_
    all_goals simp_all
  · have h1 : inB f.desc 0 ((s.descs.length : Int) - 1) = false := by
      simp [inB]
      omega
    have hf : Qj1 s f = false := by simp [Qj1, Qzv, h1]
    rw [hf]
    clear hf
    have F := wwA @Qab (wwA hws h1)
    repeat' first | refine wSq fun _ hK => ?_ | refine ww1 ?_ | (refine wK ?_; clear hK) | (simp only [wHb, reduceCtorEq] at hb <;> try (exfalso; omega)) | refine wCd (fun hb => ?_) fun hb => ?_ | refine wCa (c := by first | exact hc | exact Qc9 _ _ _) (k := ?_) | refine ww3 ?_ | refine ww4 ?_ | refine wGd (fun hb => ?_) fun hb => ?_ | exact trivial
    all_goals refine wLf ?_
    all_goals rfl
theorem Qqh (xs : List FrameD) (f : FuncId) (row : List PT) (p : FrameD → Bool) (hl : xs.length ≤ 1048576) (hf : ∀ x, SatP Tryz.prog f [.agg x.cells, .fp row] (.bool (p x)) []) : SatP Tryz.prog 188 [.fr 160 (Qaq xs), .clo f [.fp row]] (.int .i64 (Qge p xs)) [] := by
  refine wEp Tryz.func188 [.tmp 4] 19 fun E hE => ?_
  have F := @Qag
  repeat' first | refine wSq fun _ hK => ?_ | refine ww1 ?_ | (refine wK ?_; clear hK) | (simp only [wHb, reduceCtorEq] at hb <;> try (exfalso; omega)) | refine wCd (fun hb => ?_) fun hb => ?_ | refine ww3 ?_ | refine ww4 ?_ | refine wGd (fun hb => ?_) fun hb => ?_ | exact trivial
  refine Qa4 (X := Nat) (fun i => [(0, .fr 160 (Qaq xs)), (1, .clo f [.fp row]), (7, .int .i64 xs.length), (8, .int .i64 i)]) (fun _ => []) (fun i => xs.length - i)
    (fun i => i ≤ xs.length ∧ ∀ (j : Nat) (y : FrameD), j < i → xs[j]? = some y → p y = false) 0 0 ⟨by simp, by simp⟩ (by simp [Qbo]) (by simp) (by simp) ?_
  rintro i nx ⟨hi, hdone⟩ hB
  rcases Nat.lt_or_ge i xs.length with hlt | hge
  · obtain ⟨e, he⟩ : ∃ e, xs[i]? = some e := ⟨_, List.getElem?_eq_getElem hlt⟩
    have hre := Qe1 he
    have F := wwA @Qag hre
    repeat' first | refine wSq fun _ hK => ?_ | refine ww1 ?_ | (refine wK ?_; clear hK) | (simp only [wHb, reduceCtorEq] at hb <;> try (exfalso; omega)) | refine wCd (fun hb => ?_) fun hb => ?_ | refine wCa (c := by first | exact hf e) (k := ?_) | refine ww3 ?_ | refine ww4 ?_ | refine wGd (fun hb => ?_) fun hb => ?_ | exact trivial
    · refine wLf ?_
      have hp : p e = true := by assumption
      rw [Qgk he hp hdone]
    · have hp : p e = false := by assumption
      have hw := Qax (x := (i : Int) + 1) (by omega)
      refine Qcj (i + 1) ⟨by omega, fun j y hj hy => ?_⟩ (by omega) (by simp [Qbo, tmL, hw]) (by simp) (by simp)
      rcases Nat.lt_or_ge j i with h | h
      · exact hdone j y h hy
      · obtain rfl : j = i := by omega
        rw [he] at hy; cases hy; exact hp
  · obtain rfl : i = xs.length := by omega
    have F := @Qag
    repeat' first | refine wSq fun _ hK => ?_ | refine ww1 ?_ | (refine wK ?_; clear hK) | (simp only [wHb, reduceCtorEq] at hb <;> try (exfalso; omega)) | refine wCd (fun hb => ?_) fun hb => ?_ | refine ww3 ?_ | refine ww4 ?_ | refine wGd (fun hb => ?_) fun hb => ?_ | exact trivial
    refine wLf ?_
    rw [Qfo fun j y hy => hdone j y (List.getElem?_eq_some_iff.1 hy).1 hy]
theorem Qsv (xs : List FrameD) (f : FuncId) (row : List PT) (p : FrameD → Bool) (hl : xs.length ≤ 1048576) (hf : ∀ x, SatP Tryz.prog f [.agg x.cells, .fp row] (.bool (p x)) []) : SatP Tryz.prog 165 [.fr 160 (Qaq xs), .clo f [.fp row]] (.bool (xs.any p)) [] := by
  refine wEp Tryz.func165 [.tmp 4] 9 fun E hE => ?_
  have F := (Eq.refl 0)
  repeat' first | refine wSq fun _ hK => ?_ | refine ww1 ?_ | (refine wK ?_; clear hK) | (simp only [wHb, reduceCtorEq] at hb <;> try (exfalso; omega)) | refine wCd (fun hb => ?_) fun hb => ?_ | refine wCa (c := by first | exact Qqh xs f row p hl hf) (k := ?_) | refine ww3 ?_ | refine ww4 ?_ | refine wGd (fun hb => ?_) fun hb => ?_ | exact trivial
  refine wLf ?_
  rw [← Qj6]
def stB (s : StoreD) (f : FrameD) : Bool := Qzv s f && !(f.phase == 5)
noncomputable def Qe3 (s : StoreD) (st : List FrameD) : Bool := bP (Qd2 s) && decide (st.length ≤ 130) && st.all (stB s)
def StoreD.row (th td te : TypeId) (s : StoreD) : List PT := [.list th (Qat s.heads), .list td (Qar te s.descs)]
theorem Qr5 (s : StoreD) (f : FrameD) (hs : s.small) : SatP Tryz.prog 166 [.agg f.cells, .fp (s.row 151 89 91)] (.bool (!stB s f)) [] := by
  have hc := Qyg s f hs
  refine wEp Tryz.func166 [.tmp 3] 13 fun E hE => ?_
  unfold StoreD.cells FrameD.cells at *
  unfold StoreD.row
  have F := (Eq.refl 0)
  repeat' first | refine wSq fun _ hK => ?_ | refine ww1 ?_ | (refine wK ?_; clear hK) | (simp only [wHb, reduceCtorEq] at hb <;> try (exfalso; omega)) | refine wCd (fun hb => ?_) fun hb => ?_ | refine wCa (c := by first | exact hc) (k := ?_) | refine ww3 ?_ | refine ww4 ?_ | refine wGd (fun hb => ?_) fun hb => ?_ | exact trivial
  all_goals refine wLf ?_
  all_goals simp_all [stB]
theorem Xaq {α : Type} (p : α → Bool) : ∀ (xs : List α), (xs.any fun x => !p x) = !xs.all p
  | [] => rfl
  | x :: xs => by simp [List.any_cons, List.all_cons, Xaq p xs]
theorem Qnl (s : StoreD) (st : List FrameD) (hs : s.small) (hl : st.length ≤ 1048576) : SatP Tryz.prog 128 [.agg (s.cells 151 89 91), .fr 160 (Qaq st)] (.bool (Qe3 s st)) [] := by
  have hc := Qii s hs
  have hn : ∀ f : FrameD, SatP Tryz.prog 166 [.agg f.cells, .fp (s.row 151 89 91)] (.bool (!stB s f)) [] := fun f => Qr5 s f hs
  have hc2 := Qsv st 166 (s.row 151 89 91) (fun f => !stB s f) hl hn
  rw [Xaq] at hc2
  have he : Qe3 s st = (bP (Qd2 s) && decide (st.length ≤ 130) && st.all (stB s)) := rfl
  rw [he]
  clear hn he
  generalize st.all (stB s) = A at *
  generalize bP (Qd2 s) = B at *
  refine wEp Tryz.func128 [.tmp 4] 18 fun E hE => ?_
  unfold StoreD.cells at *
  unfold StoreD.row at hc2
  have F := @Qag
  repeat' first | refine wSq fun _ hK => ?_ | refine ww1 ?_ | (refine wK ?_; clear hK) | (simp only [wHb, reduceCtorEq] at hb <;> try (exfalso; omega)) | refine wCd (fun hb => ?_) fun hb => ?_ | refine wCa (c := by first | exact hc | exact hc2) (k := ?_) | refine ww3 ?_ | refine ww4 ?_ | refine wGd (fun hb => ?_) fun hb => ?_ | exact trivial
  all_goals refine wLf ?_
  all_goals cases A
  all_goals cases B
  all_goals simp_all
  all_goals omega
theorem Qni (s : StoreD) (st : List FrameD) (hs : s.small) (hl : st.length ≤ 1048576) : SatP Tryz.prog 113 [.agg (s.cells 151 89 91), .fr 160 (Qaq st)] (.bool (Qe3 s st)) [] := by
  have hc := Qf8 s hs
  have hc2 := fun f => Qng s f hs
  refine wEp Tryz.func113 [.tmp 4] 34 fun E hE => ?_
  unfold StoreD.cells at *
  have F := @Qag
  repeat' first | refine wSq fun _ hK => ?_ | refine ww1 ?_ | (refine wK ?_; clear hK) | (simp only [wHb, reduceCtorEq] at hb <;> try (exfalso; omega)) | refine wCd (fun hb => ?_) fun hb => ?_ | refine ww3 ?_ | refine ww4 ?_ | refine wGd (fun hb => ?_) fun hb => ?_ | exact trivial
  refine Qa4 (X := Nat) (fun i => [(2, .bp 0 0), (1, .fr 160 (Qaq st)), (5, .int .i64 i)]) (fun _ => [(0, .box [.fr 151 (Qat s.heads), .fr 89 (Qar 91 s.descs)])]) (fun i => st.length - i)
    (fun i => i ≤ st.length ∧ ∀ (j : Nat) (f : FrameD), j < i → st[j]? = some f → f.phase ≠ 5 ∧ Qj1 s f = true) 1 0 ⟨by simp, by simp⟩ (by simp [Qbo]) (by simp [Qbd]) (by simp) ?_
  rintro i nx ⟨hi, hdone⟩ hB
  rcases Nat.lt_or_ge i st.length with hlt | hge
  · obtain ⟨f, hf⟩ : ∃ f, st[i]? = some f := ⟨_, List.getElem?_eq_getElem hlt⟩
    have hre := Qe1 hf
    have hcf := hc2 f
    unfold FrameD.cells at hcf
    have hno : (f.phase = 5 ∨ Qj1 s f = false) → Qe3 s st = false := fun h => by
      cases hp : bP (Qd2 s) with
      | false => simp [Qe3, hp]
      | true =>
        have : st.all (stB s) = false := List.all_eq_false.2 ⟨f, List.mem_of_getElem? hf, by
          rcases h with h | h
          · simp [stB, h]
          · simp [Qj1, hp] at h; simp [stB, h]⟩
        simp [Qe3, this]
    have F := wwA @Qag hre
    repeat' first | refine wSq fun _ hK => ?_ | refine ww1 ?_ | (refine wK ?_; clear hK) | (simp only [wHb, reduceCtorEq] at hb <;> try (exfalso; omega)) | refine wCd (fun hb => ?_) fun hb => ?_ | refine wCa (c := by first | exact hcf) (k := ?_) | refine ww3 ?_ | refine ww4 ?_ | refine wGd (fun hb => ?_) fun hb => ?_ | exact trivial
    all_goals first
      | (refine wLf ?_
         rw [hno (by simp_all)]
         done)
      | skip
    · have hw := Qax (x := (i : Int) + 1) (by omega)
      refine Qcj (i + 1) ⟨by omega, fun j y hj hy => ?_⟩ (by omega) (by simp [Qbo, tmL, hw]) (by simp [Qbd, hpL]) (by simp; try omega)
      rcases Nat.lt_or_ge j i with h | h
      · exact hdone j y h hy
      · obtain rfl : j = i := by omega
        rw [hf] at hy; cases hy
        exact ⟨by simp_all, by simp_all⟩
  · obtain rfl : i = st.length := by omega
    have hdd : decide ((st.length : Int) ≤ 130) = decide (st.length ≤ 130) := decide_eq_decide.2 (by omega)
    have hall : bP (Qd2 s) = true → st.all (stB s) = true := fun hp => List.all_eq_true.2 fun f hf => by
      obtain ⟨j, hj⟩ := List.getElem?_of_mem hf
      obtain ⟨k1, k2⟩ := hdone j f (List.getElem?_eq_some_iff.1 hj).1 hj
      simp [Qj1, hp] at k2
      simp [stB, k1, k2]
    have F := wwA @Qag hdd
    repeat' first | refine wSq fun _ hK => ?_ | refine ww1 ?_ | (refine wK ?_; clear hK) | (simp only [wHb, reduceCtorEq] at hb <;> try (exfalso; omega)) | refine wCd (fun hb => ?_) fun hb => ?_ | refine wCa (c := by first | exact hc) (k := ?_) | refine ww3 ?_ | refine ww4 ?_ | refine wGd (fun hb => ?_) fun hb => ?_ | exact trivial
    all_goals refine wLf ?_
    all_goals
      cases hp : bP (Qd2 s) with
      | false => simp [Qe3, hp] <;> simp_all
      | true =>
        first
          | (exfalso; rw [hp] at hb; cases hb; done)
          | (rw [Qe3, hall hp, hp, Bool.and_true, Bool.true_and]; done)
          | (rw [Qe3, hall hp, hp, Bool.and_true, Bool.true_and]; exact decide_eq_decide.2 (by omega))
theorem Xd1 (n : Int) : SatP Tryz.prog 190 [.int .i64 n] (.bool (inB n 0 3)) [] := by
  refine wEp Tryz.func190 [.tmp 2] 5 fun E hE => ?_
  have F := (Eq.refl 0)
  repeat' first | refine wSq fun _ hK => ?_ | refine ww1 ?_ | (refine wK ?_; clear hK) | (simp only [wHb, reduceCtorEq] at hb <;> try (exfalso; omega)) | refine wCd (fun hb => ?_) fun hb => ?_ | refine wCa (c := by first | exact Qhr _ _ _) (k := ?_) | refine ww3 ?_ | refine ww4 ?_ | refine wGd (fun hb => ?_) fun hb => ?_ | exact trivial
  all_goals refine wLf ?_
  all_goals rfl
theorem Xdq (n : Int) : SatP Tryz.prog 183 [.int .i64 n] (.bool (inB n 0 3)) [] := by
  refine wEp Tryz.func183 [.tmp 2] 5 fun E hE => ?_
  have F := (Eq.refl 0)
  repeat' first | refine wSq fun _ hK => ?_ | refine ww1 ?_ | (refine wK ?_; clear hK) | (simp only [wHb, reduceCtorEq] at hb <;> try (exfalso; omega)) | refine wCd (fun hb => ?_) fun hb => ?_ | refine wCa (c := by first | exact Qc9 _ _ _) (k := ?_) | refine ww3 ?_ | refine ww4 ?_ | refine wGd (fun hb => ?_) fun hb => ?_ | exact trivial
  all_goals refine wLf ?_
  all_goals rfl
theorem Qvh (n : Int) : SatP Tryz.prog 184 [.int .i64 n] (.bool (inB n 0 7)) [] := by
  refine wEp Tryz.func184 [.tmp 2] 5 fun E hE => ?_
  have F := (Eq.refl 0)
  repeat' first | refine wSq fun _ hK => ?_ | refine ww1 ?_ | (refine wK ?_; clear hK) | (simp only [wHb, reduceCtorEq] at hb <;> try (exfalso; omega)) | refine wCd (fun hb => ?_) fun hb => ?_ | refine wCa (c := by first | exact Qc9 _ _ _) (k := ?_) | refine ww3 ?_ | refine ww4 ?_ | refine wGd (fun hb => ?_) fun hb => ?_ | exact trivial
  all_goals refine wLf ?_
  all_goals rfl
def InsS.ok (n : Int) (e : InsS) : Bool :=
  if e.op = 1 then inB e.a 0 3 && inB e.b 0 7
  else if e.op = 2 then inB e.a 0 7 && inB e.b 0 3
  else if e.op = 3 then inB e.a 0 3 && inB e.b (-1000000000) 1000000000
  else if e.op = 4 then inB e.a 0 3 && inB e.b 0 3
  else if e.op = 5 then inB e.a 0 3 && inB e.b 0 n
  else if e.op = 6 then e.a == 0 && e.b == 0
  else if e.op = 7 then e.a == 0 && e.b == 0
  else if e.op = 8 then inB e.a 0 n && e.b == 0
  else false
theorem Qwz (e : InsS) (n : Int) : SatP Tryz.prog 170 [.agg e.cells, .int .i64 n] (.bool (e.ok n)) [] := by
  refine wEp Tryz.func170 [.tmp 4] 80 fun E hE => ?_
  unfold InsS.cells
  have F := (Eq.refl 0)
  repeat' first | refine wSq fun _ hK => ?_ | refine ww1 ?_ | (refine wK ?_; clear hK) | (simp only [wHb, reduceCtorEq] at hb <;> try (exfalso; omega)) | refine wCd (fun hb => ?_) fun hb => ?_ | refine wCa (c := by first | exact Xd1 _ | exact Qml _ | exact Qdu _ | exact Qhr _ _ _) (k := ?_) | refine ww3 ?_ | refine ww4 ?_ | refine wGd (fun hb => ?_) fun hb => ?_ | exact trivial
  all_goals refine wLf ?_
  all_goals simp_all [InsS.ok]
theorem Qxr (e : InsS) (n : Int) : SatP Tryz.prog 155 [.agg e.cells, .int .i64 n] (.bool (e.ok n)) [] := by
  refine wEp Tryz.func155 [.tmp 4] 80 fun E hE => ?_
  unfold InsS.cells
  have F := (Eq.refl 0)
  repeat' first | refine wSq fun _ hK => ?_ | refine ww1 ?_ | (refine wK ?_; clear hK) | (simp only [wHb, reduceCtorEq] at hb <;> try (exfalso; omega)) | refine wCd (fun hb => ?_) fun hb => ?_ | refine wCa (c := by first | exact Xdq _ | exact Qvh _ | exact Qcu _ | exact Qc9 _ _ _) (k := ?_) | refine ww3 ?_ | refine ww4 ?_ | refine wGd (fun hb => ?_) fun hb => ?_ | exact trivial
  all_goals refine wLf ?_
  all_goals simp_all [InsS.ok]
theorem Qze (e : InsS) : SatP Tryz.prog 122 [.agg e.cells] (.agg e.cells) [] := by
  refine wEp Tryz.func122 [.cell 2 146] 14 fun E hE => ?_
  unfold InsS.cells
  have F := (Eq.refl 0)
  repeat' first | refine wSq fun _ hK => ?_ | refine ww1 ?_ | (refine wK ?_; clear hK) | (simp only [wHb, reduceCtorEq] at hb <;> try (exfalso; omega)) | refine wCd (fun hb => ?_) fun hb => ?_ | refine ww3 ?_ | refine ww4 ?_ | refine wGd (fun hb => ?_) fun hb => ?_ | exact trivial
  all_goals refine Qbw (vs := _) (acc := _) (by simp only [go_sem, Qcd]; rfl) (by simp only [go_sem, wrap, exV, exA, Qen, exC]; rfl) (by simp) (by simp) (by simp)
theorem Qog (e f : InsS) : SatP Tryz.prog 142 [.agg e.cells, .agg f.cells] (.bool (decide (e = f))) [] := by
  refine wEp Tryz.func142 [.tmp 4] 20 fun E hE => ?_
  unfold InsS.cells
  have F := (Eq.refl 0)
  repeat' first | refine wSq fun _ hK => ?_ | refine ww1 ?_ | (refine wK ?_; clear hK) | (simp only [wHb, reduceCtorEq] at hb <;> try (exfalso; omega)) | refine wCd (fun hb => ?_) fun hb => ?_ | refine ww3 ?_ | refine ww4 ?_ | refine wGd (fun hb => ?_) fun hb => ?_ | exact trivial
  all_goals refine wLf ?_
  all_goals (cases e; cases f; simp_all)
end Go.Proofs.YtmiojnibngncaaaGreat
