/- What the claim rests on, part 4: the value-level engine and contracts of functions; no condition. -/
import Derived.Test.YtmiojnibngncaaaGreatZQc
namespace Go.Proofs.YtmiojnibngncaaaGreat
open Go Go.RowKit
set_option linter.unusedVariables false
set_option linter.unusedSimpArgs false
set_option maxRecDepth 100000
set_option maxHeartbeats 4000000
attribute [local irreducible] VWP Qb5 Qbn Qbs Qbu Qbj Qbt Qa3 Qbq Qcq Qc6 Qbk Qdb Qc4 Qbr Qbm Qa8
def inB (n lo hi : Int) : Bool := decide (lo ≤ n) && decide (n ≤ hi)
structure EntS where
  object : Int
  version : Int
  old : Int
  new : Int
  write : Bool
  deriving DecidableEq
def EntS.enc (e : EntS) : List PT := [.int .i64 e.object, .int .i64 e.version, .int .i64 e.old, .int .i64 e.new, .bool e.write]
def EntS.cells (e : EntS) : List VV := [.int .i64 e.object, .int .i64 e.version, .int .i64 e.old, .int .i64 e.new, .bool e.write]
def EntS.ok (e : EntS) : Bool := inB e.object 0 7 && inB e.version 0 1000000 && inB e.old (-1000000000) 1000000000 && inB e.new (-1000000000) 1000000000 && (e.write || e.new == e.old)
theorem EntS.pur (es : List EntS) : Qbb (es.map EntS.enc) := by
  intro r hr c hc
  obtain ⟨e, _, rfl⟩ := List.mem_map.1 hr
  simp only [EntS.enc, List.mem_cons, List.not_mem_nil, or_false] at hc
  rcases hc with rfl | rfl | rfl | rfl | rfl <;> constructor
theorem Qhr (n lo hi : Int) : SatP Tryz.prog 96 [.int .i64 n, .int .i64 lo, .int .i64 hi] (.bool (inB n lo hi)) [] := by
  refine wEp Tryz.func96 [.tmp 6] 15 fun E hE => ?_
  have F := (Eq.refl 0)
  repeat' first | refine wSq fun _ hK => ?_ | refine ww1 ?_ | (refine wK ?_; clear hK) | (simp only [wHb, reduceCtorEq] at hb <;> try (exfalso; omega)) | refine wCd (fun hb => ?_) fun hb => ?_ | refine ww3 ?_ | refine ww4 ?_ | refine wGd (fun hb => ?_) fun hb => ?_ | exact trivial
  all_goals refine wLf ?_
  all_goals simp_all [inB]
  all_goals omega
theorem Qc9 (n lo hi : Int) : SatP Tryz.prog 94 [.int .i64 n, .int .i64 lo, .int .i64 hi] (.bool (inB n lo hi)) [] := by
  refine wEp Tryz.func94 [.tmp 6] 15 fun E hE => ?_
  have F := (Eq.refl 0)
  repeat' first | refine wSq fun _ hK => ?_ | refine ww1 ?_ | (refine wK ?_; clear hK) | (simp only [wHb, reduceCtorEq] at hb <;> try (exfalso; omega)) | refine wCd (fun hb => ?_) fun hb => ?_ | refine ww3 ?_ | refine ww4 ?_ | refine wGd (fun hb => ?_) fun hb => ?_ | exact trivial
  all_goals refine wLf ?_
  all_goals simp_all [inB]
  all_goals omega
theorem Qiu (n : Int) : SatP Tryz.prog 129 [.int .i64 n] (.bool (inB n 0 3)) [] := by
  refine wEp Tryz.func129 [.tmp 2] 5 fun E hE => ?_
  have F := (Eq.refl 0)
  repeat' first | refine wSq fun _ hK => ?_ | refine ww1 ?_ | (refine wK ?_; clear hK) | (simp only [wHb, reduceCtorEq] at hb <;> try (exfalso; omega)) | refine wCd (fun hb => ?_) fun hb => ?_ | refine wCa (c := by first | exact Qhr _ _ _) (k := ?_) | refine ww3 ?_ | refine ww4 ?_ | refine wGd (fun hb => ?_) fun hb => ?_ | exact trivial
  all_goals refine wLf ?_
  all_goals rfl
theorem Qml (n : Int) : SatP Tryz.prog 191 [.int .i64 n] (.bool (inB n 0 7)) [] := by
  refine wEp Tryz.func191 [.tmp 2] 5 fun E hE => ?_
  have F := (Eq.refl 0)
  repeat' first | refine wSq fun _ hK => ?_ | refine ww1 ?_ | (refine wK ?_; clear hK) | (simp only [wHb, reduceCtorEq] at hb <;> try (exfalso; omega)) | refine wCd (fun hb => ?_) fun hb => ?_ | refine wCa (c := by first | exact Qhr _ _ _) (k := ?_) | refine ww3 ?_ | refine ww4 ?_ | refine wGd (fun hb => ?_) fun hb => ?_ | exact trivial
  all_goals refine wLf ?_
  all_goals rfl
theorem Qfy (n : Int) : SatP Tryz.prog 152 [.int .i64 n] (.bool (inB n 0 1000000)) [] := by
  refine wEp Tryz.func152 [.tmp 2] 5 fun E hE => ?_
  have F := (Eq.refl 0)
  repeat' first | refine wSq fun _ hK => ?_ | refine ww1 ?_ | (refine wK ?_; clear hK) | (simp only [wHb, reduceCtorEq] at hb <;> try (exfalso; omega)) | refine wCd (fun hb => ?_) fun hb => ?_ | refine wCa (c := by first | exact Qhr _ _ _) (k := ?_) | refine ww3 ?_ | refine ww4 ?_ | refine wGd (fun hb => ?_) fun hb => ?_ | exact trivial
  all_goals refine wLf ?_
  all_goals rfl
theorem Qdu (n : Int) : SatP Tryz.prog 150 [.int .i64 n] (.bool (inB n (-1000000000) 1000000000)) [] := by
  refine wEp Tryz.func150 [.tmp 2] 5 fun E hE => ?_
  have F := (Eq.refl 0)
  repeat' first | refine wSq fun _ hK => ?_ | refine ww1 ?_ | (refine wK ?_; clear hK) | (simp only [wHb, reduceCtorEq] at hb <;> try (exfalso; omega)) | refine wCd (fun hb => ?_) fun hb => ?_ | refine wCa (c := by first | exact Qhr _ _ _) (k := ?_) | refine ww3 ?_ | refine ww4 ?_ | refine wGd (fun hb => ?_) fun hb => ?_ | exact trivial
  all_goals refine wLf ?_
  all_goals rfl
theorem Qcu (n : Int) : SatP Tryz.prog 116 [.int .i64 n] (.bool (inB n (-1000000000) 1000000000)) [] := by
  refine wEp Tryz.func116 [.tmp 2] 5 fun E hE => ?_
  have F := (Eq.refl 0)
  repeat' first | refine wSq fun _ hK => ?_ | refine ww1 ?_ | (refine wK ?_; clear hK) | (simp only [wHb, reduceCtorEq] at hb <;> try (exfalso; omega)) | refine wCd (fun hb => ?_) fun hb => ?_ | refine wCa (c := by first | exact Qc9 _ _ _) (k := ?_) | refine ww3 ?_ | refine ww4 ?_ | refine wGd (fun hb => ?_) fun hb => ?_ | exact trivial
  all_goals refine wLf ?_
  all_goals rfl
theorem Qh7 (e : EntS) : SatP Tryz.prog 171 [.agg e.cells] (.bool e.ok) [] := by
  refine wEp Tryz.func171 [.tmp 2] 32 fun E hE => ?_
  unfold EntS.cells
  have F := (Eq.refl 0)
  repeat' first | refine wSq fun _ hK => ?_ | refine ww1 ?_ | (refine wK ?_; clear hK) | (simp only [wHb, reduceCtorEq] at hb <;> try (exfalso; omega)) | refine wCd (fun hb => ?_) fun hb => ?_ | refine wCa (c := by first | exact Qml _ | exact Qfy _ | exact Qdu _) (k := ?_) | refine ww3 ?_ | refine ww4 ?_ | refine wGd (fun hb => ?_) fun hb => ?_ | exact trivial
  all_goals refine wLf ?_
  all_goals simp_all [EntS.ok]
theorem Qos (e : EntS) : SatP Tryz.prog 156 [.agg e.cells] (.bool e.ok) [] := by
  refine wEp Tryz.func156 [.tmp 2] 32 fun E hE => ?_
  unfold EntS.cells
  have F := (Eq.refl 0)
  repeat' first | refine wSq fun _ hK => ?_ | refine ww1 ?_ | (refine wK ?_; clear hK) | (simp only [wHb, reduceCtorEq] at hb <;> try (exfalso; omega)) | refine wCd (fun hb => ?_) fun hb => ?_ | refine wCa (c := by first | exact Qc9 _ _ _ | exact Qcu _) (k := ?_) | refine ww3 ?_ | refine ww4 ?_ | refine wGd (fun hb => ?_) fun hb => ?_ | exact trivial
  all_goals refine wLf ?_
  all_goals simp_all [EntS.ok]
theorem Qzl (e : EntS) : SatP Tryz.prog 123 [.agg e.cells] (.agg e.cells) [] := by
  refine wEp Tryz.func123 [.cell 2 91] 20 fun E hE => ?_
  unfold EntS.cells
  have F := (Eq.refl 0)
  repeat' first | refine wSq fun _ hK => ?_ | refine ww1 ?_ | (refine wK ?_; clear hK) | (simp only [wHb, reduceCtorEq] at hb <;> try (exfalso; omega)) | refine wCd (fun hb => ?_) fun hb => ?_ | refine ww3 ?_ | refine ww4 ?_ | refine wGd (fun hb => ?_) fun hb => ?_ | exact trivial
  all_goals refine Qbw (vs := _) (acc := _) (by simp only [go_sem, Qcd]; rfl) (by simp only [go_sem, wrap, exV, exA, Qen, exC]; rfl) (by simp) (by simp) (by simp)
theorem Qoi (e f : EntS) : SatP Tryz.prog 143 [.agg e.cells, .agg f.cells] (.bool (decide (e = f))) [] := by
  refine wEp Tryz.func143 [.tmp 4] 30 fun E hE => ?_
  unfold EntS.cells
  have F := (Eq.refl 0)
  repeat' first | refine wSq fun _ hK => ?_ | refine ww1 ?_ | (refine wK ?_; clear hK) | (simp only [wHb, reduceCtorEq] at hb <;> try (exfalso; omega)) | refine wCd (fun hb => ?_) fun hb => ?_ | refine ww3 ?_ | refine ww4 ?_ | refine wGd (fun hb => ?_) fun hb => ?_ | exact trivial
  all_goals refine wLf ?_
  all_goals (cases e; cases f; simp_all)
def Qav (es : List EntS) : List (List PT) := es.map EntS.enc
theorem Qaa (es : List EntS) : (Qav es).length = es.length := by simp [Qav]
theorem Qac (es : List EntS) : Qbb (Qav es) := EntS.pur es
theorem Qbe {es : List EntS} {i : Nat} {e : EntS} (h : es[i]? = some e) : (Qav es)[i]? = some [.int .i64 e.object, .int .i64 e.version, .int .i64 e.old, .int .i64 e.new, .bool e.write] := by simp [Qav, h, EntS.enc]
def szB (n left : Int) : Int := if left - n < 0 then -1 else left - n
theorem Qma (es : List EntS) (left : Int) (h0 : 0 ≤ left) (h1 : left ≤ 1048576) (hl : es.length ≤ 9223372036854775807) : SatP Tryz.prog 54 [.fr 158 (Qav es), .int .i64 left] (.int .i64 (szB es.length left)) [] := by
  have hw : IntKind.i64.wrap (left - es.length) = left - es.length := Qax (by omega)
  refine wEp Tryz.func54 [.tmp 4] 12 fun E hE => ?_
  have F := wwA @Qaa hw
  repeat' first | refine wSq fun _ hK => ?_ | refine ww1 ?_ | (refine wK ?_; clear hK) | (simp only [wHb, reduceCtorEq] at hb <;> try (exfalso; omega)) | refine wCd (fun hb => ?_) fun hb => ?_ | refine ww3 ?_ | refine ww4 ?_ | refine wGd (fun hb => ?_) fun hb => ?_ | exact trivial
  all_goals refine wLf ?_
  all_goals simp only [szB]
  · rw [if_pos hb]
  · rw [if_neg hb]
theorem Qm2 (es : List EntS) (hl : es.length ≤ 1048576) : SatP Tryz.prog 64 [.fr 158 (Qav es)] (.rf 0 es.length) [(91, Qav es)] := by
  refine wEp Tryz.func64 [.tmp 2] 23 (hp := (by simpa using Qac es)) fun E hE => ?_
  have F := @Qaa
  repeat' first | refine wSq fun _ hK => ?_ | refine ww1 ?_ | (refine wK ?_; clear hK) | (simp only [wHb, reduceCtorEq] at hb <;> try (exfalso; omega)) | refine wCd (fun hb => ?_) fun hb => ?_ | refine ww3 ?_ | refine ww4 ?_ | refine wGd (fun hb => ?_) fun hb => ?_ | exact trivial
  refine Qa4 (X := Nat × List (List PT)) (fun x => [(0, .fr 158 (Qav es)), (3, .rf 0 es.length), (4, .int .i64 x.1)]) (fun x => [(0, .root 91 x.2)]) (fun x => es.length - x.1)
    (fun x => x.1 ≤ es.length ∧ x.2.length = es.length ∧ (∀ j e, j < x.1 → es[j]? = some e → x.2[j]? = some e.enc) ∧ (∀ j, x.1 ≤ j → j < es.length → x.2[j]? = some [.int .i64 0, .int .i64 0, .int .i64 0, .int .i64 0, .bool false]))
    1 (0, List.replicate es.length [.int .i64 0, .int .i64 0, .int .i64 0, .int .i64 0, .bool false]) ⟨by simp, by simp, by simp, fun j _ hj => by simp [hj]⟩ (by simp [Qbo]) (by simp [Qbd]) (by simp) ?_
  rintro ⟨i, rows⟩ nx ⟨hi, hlen, hdone, hrest⟩ hB
  rcases Nat.lt_or_ge i es.length with hlt | hge
  · obtain ⟨e, he⟩ : ∃ e, es[i]? = some e := ⟨_, List.getElem?_eq_getElem hlt⟩
    have hr := hrest i (Nat.le_refl _) hlt
    simp only at hr hi hlen hdone hrest
    have hre := Qbe he
    have F := wwA @Qaa (wwA hre (wwA hr (wwA hlen @EntS.cells.eq_1)))
    repeat' first | refine wSq fun _ hK => ?_ | refine ww1 ?_ | (refine wK ?_; clear hK) | (simp only [wHb, reduceCtorEq] at hb <;> try (exfalso; omega)) | refine wCd (fun hb => ?_) fun hb => ?_ | refine wCa (c := by first | exact Qzl _) (k := ?_) | refine ww3 ?_ | refine ww4 ?_ | refine wGd (fun hb => ?_) fun hb => ?_ | exact trivial
    have hw := Qax (x := (i : Int) + 1) (by omega)
    refine Qcj (i + 1, rows.set i e.enc) ⟨?_, ?_, ?_, ?_⟩ ?_ (by simp [Qbo, tmL, hw]) (by simp [Qbd, hpL, EntS.enc]) (by simpa using hB)
    · simp only; omega
    · simpa using hlen
    · intro j f hj hf
      rcases Nat.lt_or_ge j i with h | h
      · simp only; rw [List.getElem?_set_ne (by omega)]; exact hdone j f h hf
      · obtain rfl : j = i := by simp only at hj; omega
        rw [he] at hf
        cases hf
        simp [hlen, hlt]
    · intro j hj hj2
      simp only at hj
      simp only
      rw [List.getElem?_set_ne (by omega)]
      exact hrest j (by omega) hj2
    · simp only; omega
  · simp only at hi hlen hdone hrest
    obtain rfl : i = es.length := by omega
    have hrows : rows = Qav es := by
      refine List.ext_getElem? fun j => ?_
      rcases Nat.lt_or_ge j es.length with h | h
      · obtain ⟨e, he⟩ : ∃ e, es[j]? = some e := ⟨_, List.getElem?_eq_getElem h⟩
        rw [hdone j e h he, Qbe he]
        rfl
      · rw [List.getElem?_eq_none (by omega), List.getElem?_eq_none (by rw [Qaa]; omega)]
    subst hrows
    have F := @Qaa
    repeat' first | refine wSq fun _ hK => ?_ | refine ww1 ?_ | (refine wK ?_; clear hK) | (simp only [wHb, reduceCtorEq] at hb <;> try (exfalso; omega)) | refine wCd (fun hb => ?_) fun hb => ?_ | refine ww3 ?_ | refine ww4 ?_ | refine wGd (fun hb => ?_) fun hb => ?_ | exact trivial
    refine Qhz (T := 0) (by simp only [go_sem]) (by simp only [go_sem]) (Qaa es).symm (Qac es)
theorem Qm9 (es fs : List EntS) (hl : es.length ≤ 1048576) : SatP Tryz.prog 74 [.fr 91 (Qav es), .fr 91 (Qav fs)] (.bool (decide (es = fs))) [] := by
  refine wEp Tryz.func74 [.tmp 4] 27 fun E hE => ?_
  have F := @Qaa
  repeat' first | refine wSq fun _ hK => ?_ | refine ww1 ?_ | (refine wK ?_; clear hK) | (simp only [wHb, reduceCtorEq] at hb <;> try (exfalso; omega)) | refine wCd (fun hb => ?_) fun hb => ?_ | refine wCa (c := by first | exact Qoi _ _) (k := ?_) | refine ww3 ?_ | refine ww4 ?_ | refine wGd (fun hb => ?_) fun hb => ?_ | exact trivial
  · refine wLf ?_
    have : es ≠ fs := fun h => by subst h; simp at hb
    simp [this]
  have hlen : es.length = fs.length := by simp at hb; omega
  clear hb
  refine Qa4 (X := Nat) (fun i => [(0, .fr 91 (Qav es)), (1, .fr 91 (Qav fs)), (5, .int .i64 i)]) (fun _ => []) (fun i => es.length - i) (fun i => i ≤ es.length ∧ ∀ j, j < i → es[j]? = fs[j]?) 0 0 ⟨by simp, by simp⟩ (by simp [Qbo]) (by simp) (by simp) ?_
  rintro i nx ⟨hi, hdone⟩ hB
  rcases Nat.lt_or_ge i es.length with hlt | hge
  · obtain ⟨e, he⟩ : ∃ e, es[i]? = some e := ⟨_, List.getElem?_eq_getElem hlt⟩
    obtain ⟨f, hf⟩ : ∃ f, fs[i]? = some f := ⟨_, List.getElem?_eq_getElem (by omega)⟩
    have hre := Qbe he
    have hrf := Qbe hf
    have F := wwA @Qaa (wwA hre hrf)
    repeat' first | refine wSq fun _ hK => ?_ | refine ww1 ?_ | (refine wK ?_; clear hK) | (simp only [wHb, reduceCtorEq] at hb <;> try (exfalso; omega)) | refine wCd (fun hb => ?_) fun hb => ?_ | refine wCa (c := by first | exact Qoi _ _) (k := ?_) | refine ww3 ?_ | refine ww4 ?_ | refine wGd (fun hb => ?_) fun hb => ?_ | exact trivial
    · refine wLf ?_
      have : es ≠ fs := fun h => by subst h; rw [he] at hf; cases hf; simp_all
      simp [this]
    · have hef : e = f := by assumption
      have hw := Qax (x := (i : Int) + 1) (by omega)
      refine Qcj (i + 1) ⟨by omega, fun j hj => ?_⟩ (by omega) (by simp [Qbo, tmL, hw]) (by simp) (by simp)
      rcases Nat.lt_or_ge j i with h | h
      · exact hdone j h
      · obtain rfl : j = i := by omega
        rw [he, hf, hef]
  · obtain rfl : i = es.length := by omega
    have : es = fs := List.ext_getElem? fun j => by
      rcases Nat.lt_or_ge j es.length with h | h
      · exact hdone j h
      · rw [List.getElem?_eq_none (by omega), List.getElem?_eq_none (by omega)]
    subst this
    have F := @Qaa
    repeat' first | refine wSq fun _ hK => ?_ | refine ww1 ?_ | (refine wK ?_; clear hK) | (simp only [wHb, reduceCtorEq] at hb <;> try (exfalso; omega)) | refine wCd (fun hb => ?_) fun hb => ?_ | refine ww3 ?_ | refine ww4 ?_ | refine wGd (fun hb => ?_) fun hb => ?_ | exact trivial
    refine wLf ?_
    simp
structure HeadD where
  value : Int
  version : Int
  desc : Int
  deriving DecidableEq
def HeadD.enc (e : HeadD) : List PT := [.int .i64 e.value, .int .i64 e.version, .int .i64 e.desc]
def HeadD.cells (e : HeadD) : List VV := [.int .i64 e.value, .int .i64 e.version, .int .i64 e.desc]
def Qat (es : List HeadD) : List (List PT) := es.map HeadD.enc
theorem Qad (es : List HeadD) : (Qat es).length = es.length := by simp [Qat]
theorem Qaf (es : List HeadD) : Qbb (Qat es) := by
  intro r hr c hc
  obtain ⟨e, _, rfl⟩ := List.mem_map.1 hr
  simp only [HeadD.enc, List.mem_cons, List.not_mem_nil, or_false] at hc
  rcases hc with rfl | rfl | rfl <;> constructor
theorem Qaj (es : List HeadD) : (Qat es).take es.length = Qat es := by rw [List.take_of_length_le (by rw [Qad]; exact Nat.le_refl _)]
theorem Qb0 {es : List HeadD} {i : Nat} {e : HeadD} (h : es[i]? = some e) : (Qat es)[i]? = some [.int .i64 e.value, .int .i64 e.version, .int .i64 e.desc] := by simp [Qat, h, HeadD.enc]
theorem Qoa (es : List HeadD) : (Qat es).all (·.all Qt1) = true := by
  simp [Qat, HeadD.enc, Qt1, List.all_eq_true]
theorem Qb7 (es : List HeadD) (k : Nat) (e : HeadD) : (Qat es).set k [.int .i64 e.value, .int .i64 e.version, .int .i64 e.desc] = Qat (es.set k e) := by simp [Qat, List.map_set, HeadD.enc]
theorem Xb6 (e : HeadD) : SatP Tryz.prog 120 [.agg e.cells] (.agg e.cells) [] := by
  refine wEp Tryz.func120 [.cell 2 151] 14 fun E hE => ?_
  unfold HeadD.cells
  have F := (Eq.refl 0)
  repeat' first | refine wSq fun _ hK => ?_ | refine ww1 ?_ | (refine wK ?_; clear hK) | (simp only [wHb, reduceCtorEq] at hb <;> try (exfalso; omega)) | refine wCd (fun hb => ?_) fun hb => ?_ | refine ww3 ?_ | refine ww4 ?_ | refine wGd (fun hb => ?_) fun hb => ?_ | exact trivial
  all_goals refine Qbw (vs := _) (acc := _) (by simp only [go_sem, Qcd]; rfl) (by simp only [go_sem, wrap, exV, exA, Qen, exC]; rfl) (by simp) (by simp) (by simp)
theorem Qsj (e f : HeadD) : SatP Tryz.prog 140 [.agg e.cells, .agg f.cells] (.bool (decide (e = f))) [] := by
  refine wEp Tryz.func140 [.tmp 4] 20 fun E hE => ?_
  unfold HeadD.cells
  have F := (Eq.refl 0)
  repeat' first | refine wSq fun _ hK => ?_ | refine ww1 ?_ | (refine wK ?_; clear hK) | (simp only [wHb, reduceCtorEq] at hb <;> try (exfalso; omega)) | refine wCd (fun hb => ?_) fun hb => ?_ | refine ww3 ?_ | refine ww4 ?_ | refine wGd (fun hb => ?_) fun hb => ?_ | exact trivial
  all_goals refine wLf ?_
  all_goals (cases e; cases f; simp_all)
theorem Qyk (es : List HeadD) (left : Int) (h0 : 0 ≤ left) (h1 : left ≤ 1048576) (hl : es.length ≤ 9223372036854775807) : SatP Tryz.prog 51 [.fr 153 (Qat es), .int .i64 left] (.int .i64 (szB es.length left)) [] := by
  have hw : IntKind.i64.wrap (left - es.length) = left - es.length := Qax (by omega)
  refine wEp Tryz.func51 [.tmp 4] 12 fun E hE => ?_
  have F := wwA @Qad hw
  repeat' first | refine wSq fun _ hK => ?_ | refine ww1 ?_ | (refine wK ?_; clear hK) | (simp only [wHb, reduceCtorEq] at hb <;> try (exfalso; omega)) | refine wCd (fun hb => ?_) fun hb => ?_ | refine ww3 ?_ | refine ww4 ?_ | refine wGd (fun hb => ?_) fun hb => ?_ | exact trivial
  all_goals refine wLf ?_
  all_goals simp only [szB]
  · rw [if_pos hb]
  · rw [if_neg hb]
theorem Qy8 (es : List HeadD) (hl : es.length ≤ 1048576) : SatP Tryz.prog 60 [.fr 153 (Qat es)] (.rf 0 es.length) [(151, Qat es)] := by
  refine wEp Tryz.func60 [.tmp 2] 23 (hp := (by simpa using Qaf es)) fun E hE => ?_
  have F := @Qad
  repeat' first | refine wSq fun _ hK => ?_ | refine ww1 ?_ | (refine wK ?_; clear hK) | (simp only [wHb, reduceCtorEq] at hb <;> try (exfalso; omega)) | refine wCd (fun hb => ?_) fun hb => ?_ | refine ww3 ?_ | refine ww4 ?_ | refine wGd (fun hb => ?_) fun hb => ?_ | exact trivial
  refine Qa4 (X := Nat × List (List PT)) (fun x => [(0, .fr 153 (Qat es)), (3, .rf 0 es.length), (4, .int .i64 x.1)]) (fun x => [(0, .root 151 x.2)]) (fun x => es.length - x.1)
    (fun x => x.1 ≤ es.length ∧ x.2.length = es.length ∧ (∀ j e, j < x.1 → es[j]? = some e → x.2[j]? = some e.enc) ∧ (∀ j, x.1 ≤ j → j < es.length → x.2[j]? = some [.int .i64 0, .int .i64 0, .int .i64 0]))
    1 (0, List.replicate es.length [.int .i64 0, .int .i64 0, .int .i64 0]) ⟨by simp, by simp, by simp, fun j _ hj => by simp [hj]⟩ (by simp [Qbo]) (by simp [Qbd]) (by simp) ?_
  rintro ⟨i, rows⟩ nx ⟨hi, hlen, hdone, hrest⟩ hB
  rcases Nat.lt_or_ge i es.length with hlt | hge
  · obtain ⟨e, he⟩ : ∃ e, es[i]? = some e := ⟨_, List.getElem?_eq_getElem hlt⟩
    have hr := hrest i (Nat.le_refl _) hlt
    simp only at hr hi hlen hdone hrest
    have hre := Qb0 he
    have F := wwA @Qad (wwA hre (wwA hr (wwA hlen @HeadD.cells.eq_1)))
    repeat' first | refine wSq fun _ hK => ?_ | refine ww1 ?_ | (refine wK ?_; clear hK) | (simp only [wHb, reduceCtorEq] at hb <;> try (exfalso; omega)) | refine wCd (fun hb => ?_) fun hb => ?_ | refine wCa (c := by first | exact Xb6 _) (k := ?_) | refine ww3 ?_ | refine ww4 ?_ | refine wGd (fun hb => ?_) fun hb => ?_ | exact trivial
    have hw := Qax (x := (i : Int) + 1) (by omega)
    refine Qcj (i + 1, rows.set i e.enc) ⟨?_, ?_, ?_, ?_⟩ ?_ (by simp [Qbo, tmL, hw]) (by simp [Qbd, hpL, HeadD.enc]) (by simpa using hB)
    · simp only; omega
    · simpa using hlen
    · intro j f hj hf
      rcases Nat.lt_or_ge j i with h | h
      · simp only; rw [List.getElem?_set_ne (by omega)]; exact hdone j f h hf
      · obtain rfl : j = i := by simp only at hj; omega
        rw [he] at hf
        cases hf
        simp [hlen, hlt]
    · intro j hj hj2
      simp only at hj
      simp only
      rw [List.getElem?_set_ne (by omega)]
      exact hrest j (by omega) hj2
    · simp only; omega
  · simp only at hi hlen hdone hrest
    obtain rfl : i = es.length := by omega
    have hrows : rows = Qat es := by
      refine List.ext_getElem? fun j => ?_
      rcases Nat.lt_or_ge j es.length with h | h
      · obtain ⟨e, he⟩ : ∃ e, es[j]? = some e := ⟨_, List.getElem?_eq_getElem h⟩
        rw [hdone j e h he, Qb0 he]
        rfl
      · rw [List.getElem?_eq_none (by omega), List.getElem?_eq_none (by rw [Qad]; omega)]
    subst hrows
    have F := @Qad
    repeat' first | refine wSq fun _ hK => ?_ | refine ww1 ?_ | (refine wK ?_; clear hK) | (simp only [wHb, reduceCtorEq] at hb <;> try (exfalso; omega)) | refine wCd (fun hb => ?_) fun hb => ?_ | refine ww3 ?_ | refine ww4 ?_ | refine wGd (fun hb => ?_) fun hb => ?_ | exact trivial
    refine Qhz (T := 0) (by simp only [go_sem]) (by simp only [go_sem]) (Qad es).symm (Qaf es)
theorem Qy2 (es fs : List HeadD) (hl : es.length ≤ 1099511627776) : SatP Tryz.prog 70 [.fr 151 (Qat es), .fr 151 (Qat fs)] (.bool (decide (es = fs))) [] := by
  refine wEp Tryz.func70 [.tmp 4] 27 fun E hE => ?_
  have F := @Qad
  repeat' first | refine wSq fun _ hK => ?_ | refine ww1 ?_ | (refine wK ?_; clear hK) | (simp only [wHb, reduceCtorEq] at hb <;> try (exfalso; omega)) | refine wCd (fun hb => ?_) fun hb => ?_ | refine wCa (c := by first | exact Qsj _ _) (k := ?_) | refine ww3 ?_ | refine ww4 ?_ | refine wGd (fun hb => ?_) fun hb => ?_ | exact trivial
  · refine wLf ?_
    have : es ≠ fs := fun h => by subst h; simp at hb
    simp [this]
  have hlen : es.length = fs.length := by simp at hb; omega
  clear hb
  refine Qa4 (X := Nat) (fun i => [(0, .fr 151 (Qat es)), (1, .fr 151 (Qat fs)), (5, .int .i64 i)]) (fun _ => []) (fun i => es.length - i) (fun i => i ≤ es.length ∧ ∀ j, j < i → es[j]? = fs[j]?) 0 0 ⟨by simp, by simp⟩ (by simp [Qbo]) (by simp) (by simp) ?_
  rintro i nx ⟨hi, hdone⟩ hB
  rcases Nat.lt_or_ge i es.length with hlt | hge
  · obtain ⟨e, he⟩ : ∃ e, es[i]? = some e := ⟨_, List.getElem?_eq_getElem hlt⟩
    obtain ⟨f, hf⟩ : ∃ f, fs[i]? = some f := ⟨_, List.getElem?_eq_getElem (by omega)⟩
    have hre := Qb0 he
    have hrf := Qb0 hf
    have F := wwA @Qad (wwA hre hrf)
    repeat' first | refine wSq fun _ hK => ?_ | refine ww1 ?_ | (refine wK ?_; clear hK) | (simp only [wHb, reduceCtorEq] at hb <;> try (exfalso; omega)) | refine wCd (fun hb => ?_) fun hb => ?_ | refine wCa (c := by first | exact Qsj e f) (k := ?_) | refine ww3 ?_ | refine ww4 ?_ | refine wGd (fun hb => ?_) fun hb => ?_ | exact trivial
    · refine wLf ?_
      have : es ≠ fs := fun h => by subst h; rw [he] at hf; cases hf; simp_all
      simp [this]
    · have hef : e = f := by assumption
      have hw := Qax (x := (i : Int) + 1) (by omega)
      refine Qcj (i + 1) ⟨by omega, fun j hj => ?_⟩ (by omega) (by simp [Qbo, tmL, hw]) (by simp) (by simp)
      rcases Nat.lt_or_ge j i with h | h
      · exact hdone j h
      · obtain rfl : j = i := by omega
        rw [he, hf, hef]
  · obtain rfl : i = es.length := by omega
    have : es = fs := List.ext_getElem? fun j => by
      rcases Nat.lt_or_ge j es.length with h | h
      · exact hdone j h
      · rw [List.getElem?_eq_none (by omega), List.getElem?_eq_none (by omega)]
    subst this
    have F := @Qad
    repeat' first | refine wSq fun _ hK => ?_ | refine ww1 ?_ | (refine wK ?_; clear hK) | (simp only [wHb, reduceCtorEq] at hb <;> try (exfalso; omega)) | refine wCd (fun hb => ?_) fun hb => ?_ | refine ww3 ?_ | refine ww4 ?_ | refine wGd (fun hb => ?_) fun hb => ?_ | exact trivial
    refine wLf ?_
    simp
def Qx4 (k : Int) : HeadD := ⟨k, k + 1, k + 2⟩
def Qji (k : Int) (n : Nat) : List HeadD := (List.range n).map fun j => Qx4 (k + 3 * (j : Nat))
theorem Qgc (k : Int) (n : Nat) : (Qji k n).length = n := by simp [Qji]
theorem Qrt {k : Int} {n i : Nat} (h : i < n) : (Qji k n)[i]? = some (Qx4 (k + 3 * (i : Nat))) := by simp [Qji, h]
theorem Qs4 (es : List HeadD) (k : Int) (h0 : 0 ≤ k) (h1 : k ≤ 1099511627776) (hl : es.length ≤ 1099511627776) :
    SatO Tryz.prog 77 [.rf 0 es.length, .int .i64 k] [.root 151 (Qat es)] (.int .i64 (k + 3 * es.length)) [.root 151 (Qat (Qji k es.length))] := by
  refine wEo Tryz.func77 [.tmp 4] 34 1 ⟨⟨rfl, Qaf _⟩, by simp [Qbc]⟩ fun E hE => ?_
  have F := @Qad
  repeat' first | refine wSq fun _ hK => ?_ | refine ww1 ?_ | (refine wK ?_; clear hK) | (simp only [wHb, reduceCtorEq] at hb <;> try (exfalso; omega)) | refine wCd (fun hb => ?_) fun hb => ?_ | refine ww3 ?_ | refine ww4 ?_ | refine wGd (fun hb => ?_) fun hb => ?_ | exact trivial
  refine Qa4 (X := Nat × List (List PT)) (fun x => [(0, .rf 0 es.length), (1, .int .i64 (k + 3 * (x.1 : Nat))), (5, .int .i64 x.1)]) (fun x => [(0, .root 151 x.2)]) (fun x => es.length - x.1)
    (fun x => x.1 ≤ es.length ∧ x.2.length = es.length ∧ (∀ (j : Nat), j < x.1 → x.2[j]? = some (Qx4 (k + 3 * (j : Nat))).enc) ∧ ∀ (j : Nat), x.1 ≤ j → x.2[j]? = (Qat es)[j]?)
    1 (0, Qat es) ⟨by simp, by simp [Qad], by simp, by simp⟩ (by simp [Qbo]) (by simp [HpE]) (by simp) ?_
  rintro ⟨i, rows⟩ nx ⟨hi, hlen, hdone, hrest⟩ hB
  simp only at hi hlen hdone hrest
  rcases Nat.lt_or_ge i es.length with hlt | hge
  · obtain ⟨e, he⟩ : ∃ e, es[i]? = some e := ⟨_, List.getElem?_eq_getElem hlt⟩
    have hr := hrest i (Nat.le_refl _)
    rw [Qb0 he] at hr
    have hli : i < rows.length := by omega
    have hle : es.length ≤ rows.length := by omega
    have a2 : k + 3 * (i : Nat) + 1 + 1 = k + 3 * (i : Nat) + 2 := by omega
    have a3 : k + 3 * (i : Nat) + 2 + 1 = k + 3 * ((i + 1 : Nat) : Int) := by omega
    have w1 := Qax (x := k + 3 * (i : Nat) + 1) (by omega)
    have w2 := Qax (x := k + 3 * (i : Nat) + 2) (by omega)
    have w3 := Qax (x := k + 3 * ((i + 1 : Nat) : Int)) (by omega)
    have w0 := Qax (x := (i : Int) + 1) (by omega)
    have F := wwA @Qad (wwA hr (wwA hle (wwA @List.set_set.{0} (wwA @List.length_set.{0} (wwA (fun a => List.getElem?_set_self (a := a) hli) (wwA a2 (wwA a3 (wwA w0 (wwA w1 (wwA w2 w3))))))))))
    repeat' first | refine wSq fun _ hK => ?_ | refine ww1 ?_ | (refine wK ?_; clear hK) | (simp only [wHb, reduceCtorEq] at hb <;> try (exfalso; omega)) | refine wCd (fun hb => ?_) fun hb => ?_ | refine ww3 ?_ | refine ww4 ?_ | refine wGd (fun hb => ?_) fun hb => ?_ | exact trivial
    refine Qcj (i + 1, rows.set i (Qx4 (k + 3 * (i : Nat))).enc) ⟨by simp only; omega, by simpa using hlen, fun j hj => ?_, fun j hj => ?_⟩ (by simp only; omega) ?_ ?_ (by simpa using hB)
    · simp only at hj ⊢
      rcases Nat.lt_or_ge j i with h | h
      · rw [List.getElem?_set_ne (by omega)]; exact hdone j h
      · obtain rfl : j = i := by omega
        simp [hli]
    · simp only at hj ⊢
      rw [List.getElem?_set_ne (by omega)]
      exact hrest j (by omega)
    · simp [Qbo, tmL, w0]
    · simp [Qbd, hpL, Qx4, HeadD.enc]
  · obtain rfl : i = es.length := by omega
    have hrows : rows = Qat (Qji k es.length) := by
      refine List.ext_getElem? fun j => ?_
      rcases Nat.lt_or_ge j es.length with h | h
      · rw [hdone j h, Qb0 (Qrt h)]
        rfl
      · rw [List.getElem?_eq_none (by omega), List.getElem?_eq_none (by rw [Qad, Qgc]; omega)]
    have F := wwA @Qad hlen
    repeat' first | refine wSq fun _ hK => ?_ | refine ww1 ?_ | (refine wK ?_; clear hK) | (simp only [wHb, reduceCtorEq] at hb <;> try (exfalso; omega)) | refine wCd (fun hb => ?_) fun hb => ?_ | refine ww3 ?_ | refine ww4 ?_ | refine wGd (fun hb => ?_) fun hb => ?_ | exact trivial
    exact Qh6 (by simp only [go_sem]) rfl (by simp only [go_sem]) rfl hrows
theorem Qsu (n : Nat) (k : Int) (h0 : 0 ≤ k) (h1 : k ≤ 1099511627776) (hl : n ≤ 1099511627776) :
    SatP Tryz.prog 82 [.fr 151 (Qat (Qji k n)), .int .i64 k] (.int .i64 (k + 3 * n)) [] := by
  refine wEp Tryz.func82 [.tmp 4] 40 fun E hE => ?_
  have F := wwA @Qad @Qgc
  repeat' first | refine wSq fun _ hK => ?_ | refine ww1 ?_ | (refine wK ?_; clear hK) | (simp only [wHb, reduceCtorEq] at hb <;> try (exfalso; omega)) | refine wCd (fun hb => ?_) fun hb => ?_ | refine ww3 ?_ | refine ww4 ?_ | refine wGd (fun hb => ?_) fun hb => ?_ | exact trivial
  refine Qa4 (X := Nat) (fun i => [(0, .fr 151 (Qat (Qji k n))), (1, .int .i64 (k + 3 * (i : Nat))), (5, .int .i64 i)]) (fun _ => []) (fun i => n - i)
    (fun i => i ≤ n) 0 0 (by simp) (by simp [Qbo]) (by simp) (by simp) ?_
  rintro i nx hi hB
  rcases Nat.lt_or_ge i n with hlt | hge
  · have hre := Qb0 (Qrt (k := k) hlt)
    simp only [Qx4] at hre
    have a2 : k + 3 * (i : Nat) + 1 + 1 = k + 3 * (i : Nat) + 2 := by omega
    have a3 : k + 3 * (i : Nat) + 2 + 1 = k + 3 * ((i + 1 : Nat) : Int) := by omega
    have w1 := Qax (x := k + 3 * (i : Nat) + 1) (by omega)
    have w2 := Qax (x := k + 3 * (i : Nat) + 2) (by omega)
    have w3 := Qax (x := k + 3 * ((i + 1 : Nat) : Int)) (by omega)
    have w0 := Qax (x := (i : Int) + 1) (by omega)
    have F := wwA @Qad (wwA @Qgc (wwA hre (wwA a2 (wwA a3 (wwA w0 (wwA w1 (wwA w2 (wwA w3 @bne_self_eq_false.{0}))))))))
    repeat' first | refine wSq fun _ hK => ?_ | refine ww1 ?_ | (refine wK ?_; clear hK) | (simp only [wHb, reduceCtorEq] at hb <;> try (exfalso; omega)) | refine wCd (fun hb => ?_) fun hb => ?_ | refine ww3 ?_ | refine ww4 ?_ | refine wGd (fun hb => ?_) fun hb => ?_ | exact trivial
    refine Qcj (i + 1) (by omega) (by omega) ?_ (by simp) (by simp)
    simp [Qbo, tmL, w0]
  · obtain rfl : i = n := by omega
    have F := wwA @Qad @Qgc
    repeat' first | refine wSq fun _ hK => ?_ | refine ww1 ?_ | (refine wK ?_; clear hK) | (simp only [wHb, reduceCtorEq] at hb <;> try (exfalso; omega)) | refine wCd (fun hb => ?_) fun hb => ?_ | refine ww3 ?_ | refine ww4 ?_ | refine wGd (fun hb => ?_) fun hb => ?_ | exact trivial
    refine wLf ?_
    rfl
structure DescS where
  owner : Int
  status : Int
  entries : List EntS
  deriving DecidableEq
def DescS.cells (t : TypeId) (d : DescS) : List VV := [.int .i64 d.owner, .int .i64 d.status, .fr t (Qav d.entries)]
theorem Xbs {n left : Int} (h0 : 0 ≤ n) (h1 : left ≤ 1048576) : -1 ≤ szB n left ∧ szB n left ≤ 1048576 := by
  unfold szB
  split <;> omega
theorem Xby (d : DescS) (left : Int) (h0 : 0 ≤ left) (h1 : left ≤ 1048576) (hl : d.entries.length ≤ 9223372036854775807) : SatP Tryz.prog 110 [.agg (d.cells 158), .int .i64 left] (.int .i64 (szB d.entries.length left)) [] := by
  refine wEp Tryz.func110 [.tmp 4] 12 fun E hE => ?_
  unfold DescS.cells
  have F := (Eq.refl 0)
  repeat' first | refine wSq fun _ hK => ?_ | refine ww1 ?_ | (refine wK ?_; clear hK) | (simp only [wHb, reduceCtorEq] at hb <;> try (exfalso; omega)) | refine wCd (fun hb => ?_) fun hb => ?_ | refine wCa (c := by first | exact Qma _ _ h0 h1 hl) (k := ?_) | refine ww3 ?_ | refine ww4 ?_ | refine wGd (fun hb => ?_) fun hb => ?_ | exact trivial
  all_goals refine wLf ?_
  · have : szB d.entries.length left = -1 := by unfold szB at hb ⊢; split at hb <;> simp_all
    rw [this]
  · rfl
theorem Xbl (d : DescS) (hl : d.entries.length ≤ 1048576) : SatP Tryz.prog 121 [.agg (d.cells 158)] (.agg [.int .i64 d.owner, .int .i64 d.status, .rf 0 d.entries.length]) [(91, Qav d.entries)] := by
  refine wEp Tryz.func121 [.cell 2 89] 15 (hp := (by simpa using Qac d.entries)) fun E hE => ?_
  unfold DescS.cells
  have F := (Eq.refl 0)
  repeat' first | refine wSq fun _ hK => ?_ | refine ww1 ?_ | (refine wK ?_; clear hK) | (simp only [wHb, reduceCtorEq] at hb <;> try (exfalso; omega)) | refine wCd (fun hb => ?_) fun hb => ?_ | refine wCa (c := by first | exact Qm2 _ hl) (k := ?_) | refine ww3 ?_ | refine ww4 ?_ | refine wGd (fun hb => ?_) fun hb => ?_ | exact trivial
  refine Qbw (vs := _) (acc := _) (by simp only [go_sem, Qcd]; rfl) (by simp only [go_sem, wrap, exV, exA, Qen, exC, Qaa, Nat.le_refl]; rfl) (by simp) (by simp [List.take_of_length_le, Qaa]) (by simpa using Qac d.entries)
theorem Qzz (a b : DescS) (hl : a.entries.length ≤ 1048576) : SatP Tryz.prog 141 [.agg (a.cells 91), .agg (b.cells 91)] (.bool (decide (a = b))) [] := by
  refine wEp Tryz.func141 [.tmp 4] 21 fun E hE => ?_
  unfold DescS.cells
  have F := (Eq.refl 0)
  repeat' first | refine wSq fun _ hK => ?_ | refine ww1 ?_ | (refine wK ?_; clear hK) | (simp only [wHb, reduceCtorEq] at hb <;> try (exfalso; omega)) | refine wCd (fun hb => ?_) fun hb => ?_ | refine wCa (c := by first | exact Qm9 _ _ hl) (k := ?_) | refine ww3 ?_ | refine ww4 ?_ | refine wGd (fun hb => ?_) fun hb => ?_ | exact trivial
  all_goals refine wLf ?_
  all_goals (cases a; cases b; simp_all)
noncomputable def bP (p : Prop) : Bool := @decide p (Classical.propDecidable p)
theorem Qcs {p : Prop} (h : p) : bP p = true := by unfold bP; exact @decide_eq_true p (Classical.propDecidable p) h
theorem Qbv {p : Prop} (h : ¬ p) : bP p = false := by unfold bP; exact @decide_eq_false p (Classical.propDecidable p) h
def Qeb (es : List EntS) : Prop := (∀ (i : Nat) (e : EntS), es[i]? = some e → e.ok = true ∧ ∀ (k : Nat) (f : EntS), k < i → es[k]? = some f → f.object ≠ e.object) ∧ es.length ≤ 6
theorem Qfn (es : List EntS) (hl : es.length ≤ 1048576) : SatP Tryz.prog 115 [.fr 91 (Qav es)] (.bool (bP (Qeb es))) [] := by
  refine wEp Tryz.func115 [.tmp 2] 36 fun E hE => ?_
  have F := @Qaa
  repeat' first | refine wSq fun _ hK => ?_ | refine ww1 ?_ | (refine wK ?_; clear hK) | (simp only [wHb, reduceCtorEq] at hb <;> try (exfalso; omega)) | refine wCd (fun hb => ?_) fun hb => ?_ | refine ww3 ?_ | refine ww4 ?_ | refine wGd (fun hb => ?_) fun hb => ?_ | exact trivial
  refine Qa4 (X := Nat) (fun i => [(0, .fr 91 (Qav es)), (3, .int .i64 i)]) (fun _ => []) (fun i => es.length - i)
    (fun i => i ≤ es.length ∧ ∀ (j : Nat) (e : EntS), j < i → es[j]? = some e → e.ok = true ∧ ∀ (k : Nat) (f : EntS), k < j → es[k]? = some f → f.object ≠ e.object) 0 0 ⟨by simp, by simp⟩ (by simp [Qbo]) (by simp) (by simp) ?_
  rintro i nx ⟨hi, hdone⟩ hB
  rcases Nat.lt_or_ge i es.length with hlt | hge
  · obtain ⟨e, he⟩ : ∃ e, es[i]? = some e := ⟨_, List.getElem?_eq_getElem hlt⟩
    have hre := Qbe he
    have F := wwA @Qaa hre
    repeat' first | refine wSq fun _ hK => ?_ | refine ww1 ?_ | (refine wK ?_; clear hK) | (simp only [wHb, reduceCtorEq] at hb <;> try (exfalso; omega)) | refine wCd (fun hb => ?_) fun hb => ?_ | refine wCa (c := by first | exact Qos e) (k := ?_) | refine ww3 ?_ | refine ww4 ?_ | refine wGd (fun hb => ?_) fun hb => ?_ | exact trivial
    · refine wLf ?_
      have hne : e.ok = false := by assumption
      rw [Qbv]
      intro h
      have := (h.1 i e he).1
      rw [hne] at this
      cases this
    · have hok : e.ok = true := by assumption
      refine Qa4 (X := Nat) (fun k => [(0, .fr 91 (Qav es)), (3, .int .i64 i), (4, .int .i64 k)]) (fun _ => []) (fun k => i - k)
        (fun k => k ≤ i ∧ ∀ (j : Nat) (f : EntS), j < k → es[j]? = some f → f.object ≠ e.object) 0 0 ⟨by simp, by simp⟩ (by simp [Qbo, tmL]) (by simp) (by simp) ?_
      rintro k nx2 ⟨hk, hkd⟩ hB2
      rcases Nat.lt_or_ge k i with hlt2 | hge2
      · obtain ⟨f, hf⟩ : ∃ f, es[k]? = some f := ⟨_, List.getElem?_eq_getElem (by omega)⟩
        have hrf := Qbe hf
        have F := wwA @Qaa (wwA hre hrf)
        repeat' first | refine wSq fun _ hK => ?_ | refine ww1 ?_ | (refine wK ?_; clear hK) | (simp only [wHb, reduceCtorEq] at hb <;> try (exfalso; omega)) | refine wCd (fun hb => ?_) fun hb => ?_ | refine ww3 ?_ | refine ww4 ?_ | refine wGd (fun hb => ?_) fun hb => ?_ | exact trivial
        · refine wLf ?_
          have heq : f.object = e.object := by simp_all
          rw [Qbv]
          intro h
          exact (h.1 i e he).2 k f hlt2 hf heq
        · have hne : f.object ≠ e.object := by simp_all
          have hw := Qax (x := (k : Int) + 1) (by omega)
          refine Qcj (k + 1) ⟨by omega, fun j g hj hg => ?_⟩ (by omega) (by simp [Qbo, tmL, hw]) (by simp) (by simp)
          rcases Nat.lt_or_ge j k with h | h
          · exact hkd j g h hg
          · obtain rfl : j = k := by omega
            rw [hf] at hg
            cases hg
            exact hne
      · obtain rfl : k = i := by omega
        have F := wwA @Qaa hre
        repeat' first | refine wSq fun _ hK => ?_ | refine ww1 ?_ | (refine wK ?_; clear hK) | (simp only [wHb, reduceCtorEq] at hb <;> try (exfalso; omega)) | refine wCd (fun hb => ?_) fun hb => ?_ | refine ww3 ?_ | refine ww4 ?_ | refine wGd (fun hb => ?_) fun hb => ?_ | exact trivial
        have hw := Qax (x := (k : Int) + 1) (by omega)
        refine Qcj (k + 1) ⟨by omega, fun j g hj hg => ?_⟩ (by omega) (by simp [Qbo, tmL, hw]) (by simp) (by simp)
        rcases Nat.lt_or_ge j k with h | h
        · exact hdone j g h hg
        · obtain rfl : j = k := by omega
          rw [he] at hg
          cases hg
          exact ⟨hok, hkd⟩
  · obtain rfl : i = es.length := by omega
    have F := @Qaa
    repeat' first | refine wSq fun _ hK => ?_ | refine ww1 ?_ | (refine wK ?_; clear hK) | (simp only [wHb, reduceCtorEq] at hb <;> try (exfalso; omega)) | refine wCd (fun hb => ?_) fun hb => ?_ | refine ww3 ?_ | refine ww4 ?_ | refine wGd (fun hb => ?_) fun hb => ?_ | exact trivial
    refine wLf ?_
    by_cases h6 : es.length ≤ 6
    · rw [Qcs ⟨fun i e he => hdone i e (List.getElem?_eq_some_iff.1 he).1 he, h6⟩]
      have : (es.length : Int) ≤ 6 := by omega
      simp [this]
    · rw [Qbv (fun h => h6 h.2)]
      have : ¬ (es.length : Int) ≤ 6 := by omega
      simp [this]
end Go.Proofs.YtmiojnibngncaaaGreat
