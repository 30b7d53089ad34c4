/- What the claim rests on, part 6: the value-level engine and contracts of functions; no condition. -/
import Derived.Test.YtmiojnibngncaaaGreatZQd
import Derived.Test.YtmiojnibngncaaaGreatZQe
namespace Go.Proofs.YtmiojnibngncaaaGreat
open Go Go.RowKit
set_option linter.unusedVariables false
set_option linter.unusedSimpArgs false
set_option maxRecDepth 100000
set_option maxHeartbeats 4000000
attribute [local irreducible] VWP Qb5 Qbn Qbs Qbu Qbj Qbt Qa3 Qbq Qcq Qc6 Qbk Qdb Qc4 Qbr Qbm Qa8
def Quq (te : TypeId) (d : DescS) : List PT := [.int .i64 d.owner, .int .i64 d.status, .list te (Qav d.entries)]
def Qar (te : TypeId) (ds : List DescS) : List (List PT) := ds.map (Quq te)
theorem Qab (te : TypeId) (ds : List DescS) : (Qar te ds).length = ds.length := by simp [Qar]
theorem Qae (te : TypeId) (ds : List DescS) : Qbb (Qar te ds) := by
  intro r hr c hc
  obtain ⟨d, _, rfl⟩ := List.mem_map.1 hr
  simp only [Quq, List.mem_cons, List.not_mem_nil, or_false] at hc
  rcases hc with rfl | rfl | rfl
  · constructor
  · constructor
  · exact .list _ _ (Qac d.entries)
theorem Qak (te : TypeId) (ds : List DescS) : (Qar te ds).take ds.length = Qar te ds := by rw [List.take_of_length_le (by rw [Qab]; exact Nat.le_refl _)]
theorem Qbl {te : TypeId} {ds : List DescS} {i : Nat} {d : DescS} (h : ds[i]? = some d) : (Qar te ds)[i]? = some [.int .i64 d.owner, .int .i64 d.status, .list te (Qav d.entries)] := by simp [Qar, h, Quq]
def Qdf : List DescS → Nat
  | [] => 0
  | d :: ds => d.entries.length + Qdf ds
theorem Qja : ∀ (xs bs : List DescS), Qdf (xs ++ bs) = Qdf xs + Qdf bs
  | [], bs => by simp [Qdf]
  | a :: xs, bs => by simp only [List.cons_append, Qdf, Qja xs bs]; omega
theorem Qn4 {ds : List DescS} {i : Nat} {d : DescS} (h : ds[i]? = some d) : Qdf (ds.take (i + 1)) = Qdf (ds.take i) + d.entries.length := by
  rw [List.take_add_one, h, Qja]
  simp [Qdf]
theorem Qou (ds : List DescS) (i : Nat) : Qdf (ds.take i) ≤ Qdf ds := by
  have := Qja (ds.take i) (ds.drop i)
  rw [List.take_append_drop] at this
  omega
def Xc4 (ds : List DescS) (left : Int) : Int := if (ds.length : Int) + Qdf ds ≤ left then left - ds.length - Qdf ds else -1
theorem Qws (ds : List DescS) (left : Int) (h0 : 0 ≤ left) (h1 : left ≤ 1048576) (hl : ds.length ≤ 9223372036854775807) (he : ∀ d ∈ ds, d.entries.length ≤ 9223372036854775807) :
    SatP Tryz.prog 52 [.fr 139 (Qar 158 ds), .int .i64 left] (.int .i64 (Xc4 ds left)) [] := by
  have hw : IntKind.i64.wrap (left - ds.length) = left - ds.length := Qax (by omega)
  refine wEp Tryz.func52 [.tmp 4] 27 fun E hE => ?_
  have F := wwA @Qab hw
  repeat' first | refine wSq fun _ hK => ?_ | refine ww1 ?_ | (refine wK ?_; clear hK) | (simp only [wHb, reduceCtorEq] at hb <;> try (exfalso; omega)) | refine wCd (fun hb => ?_) fun hb => ?_ | refine ww3 ?_ | refine ww4 ?_ | refine wGd (fun hb => ?_) fun hb => ?_ | exact trivial
  · refine wLf ?_
    rw [Xc4, if_neg (by omega)]
  refine Qa4 (X := Nat) (fun i => [(0, .fr 139 (Qar 158 ds)), (1, .int .i64 (left - ds.length - Qdf (ds.take i))), (5, .int .i64 i)]) (fun _ => []) (fun i => ds.length - i)
    (fun i => i ≤ ds.length ∧ (0 : Int) ≤ left - ds.length - Qdf (ds.take i)) 0 0 ⟨by simp, by simp [Qdf]; omega⟩ (by simp [Qbo, Qdf]) (by simp) (by simp) ?_
  rintro i nx ⟨hi, hpos⟩ hB
  rcases Nat.lt_or_ge i ds.length with hlt | hge
  · obtain ⟨d, hd⟩ : ∃ d, ds[i]? = some d := ⟨_, List.getElem?_eq_getElem hlt⟩
    have hre := Qbl (te := 158) hd
    have hde := he d (List.mem_of_getElem? hd)
    have hs := Qn4 hd
    have ht := Qou ds (i + 1)
    have F := wwA @Qab (wwA hre @DescS.cells.eq_1)
    repeat' first | refine wSq fun _ hK => ?_ | refine ww1 ?_ | (refine wK ?_; clear hK) | (simp only [wHb, reduceCtorEq] at hb <;> try (exfalso; omega)) | refine wCd (fun hb => ?_) fun hb => ?_ | refine wCa (c := by first | exact Xby d _ (by omega) (by omega) hde) (k := ?_) | refine ww3 ?_ | refine ww4 ?_ | refine wGd (fun hb => ?_) fun hb => ?_ | exact trivial
    · refine wLf ?_
      rw [Xc4, if_neg]
      unfold szB at hb
      split at hb <;> omega
    · have hw2 := Qax (x := (i : Int) + 1) (by omega)
      have hz : szB d.entries.length (left - ds.length - Qdf (ds.take i)) = left - ds.length - Qdf (ds.take (i + 1)) := by
        unfold szB at hb ⊢
        split at hb
        · omega
        · rename_i h2; rw [if_neg h2]; omega
      refine Qcj (i + 1) ⟨by omega, by rw [← hz]; omega⟩ (by omega) (by simp [Qbo, tmL, hw2, hz]) (by simp) (by simp)
  · obtain rfl : i = ds.length := by omega
    have F := @Qab
    repeat' first | refine wSq fun _ hK => ?_ | refine ww1 ?_ | (refine wK ?_; clear hK) | (simp only [wHb, reduceCtorEq] at hb <;> try (exfalso; omega)) | refine wCd (fun hb => ?_) fun hb => ?_ | refine ww3 ?_ | refine ww4 ?_ | refine wGd (fun hb => ?_) fun hb => ?_ | exact trivial
    refine wLf ?_
    rw [List.take_length] at hpos ⊢
    rw [Xc4, if_pos (by omega)]
theorem Qx8 (ds : List DescS) (hl : ds.length ≤ 1048576) (he : ∀ d ∈ ds, d.entries.length ≤ 1048576) : SatP Tryz.prog 61 [.fr 139 (Qar 158 ds)] (.rf 0 ds.length) [(89, Qar 91 ds)] := by
  refine wEp Tryz.func61 [.tmp 2] 23 (hp := (by simpa using Qae _ ds)) fun E hE => ?_
  have F := @Qab
  repeat' first | refine wSq fun _ hK => ?_ | refine ww1 ?_ | (refine wK ?_; clear hK) | (simp only [wHb, reduceCtorEq] at hb <;> try (exfalso; omega)) | refine wCd (fun hb => ?_) fun hb => ?_ | refine ww3 ?_ | refine ww4 ?_ | refine wGd (fun hb => ?_) fun hb => ?_ | exact trivial
  refine Qa4 (X := Nat × List (List PT)) (fun x => [(0, .fr 139 (Qar 158 ds)), (3, .rf 0 ds.length), (4, .int .i64 x.1)]) (fun x => [(0, .root 89 x.2)]) (fun x => ds.length - x.1)
    (fun x => x.1 ≤ ds.length ∧ x.2.length = ds.length ∧ (∀ j e, j < x.1 → ds[j]? = some e → x.2[j]? = some (Quq 91 e)) ∧ (∀ j, x.1 ≤ j → j < ds.length → x.2[j]? = some [.int .i64 0, .int .i64 0, .list 91 []]))
    1 (0, List.replicate ds.length [.int .i64 0, .int .i64 0, .list 91 []]) ⟨by simp, by simp, by simp, fun j _ hj => by simp [hj]⟩ (by simp [Qbo]) (by simp [Qbd, zPT]) (by simp) ?_
  rintro ⟨i, rows⟩ nx ⟨hi, hlen, hdone, hrest⟩ hB
  rcases Nat.lt_or_ge i ds.length with hlt | hge
  · obtain ⟨e, hei⟩ : ∃ e, ds[i]? = some e := ⟨_, List.getElem?_eq_getElem hlt⟩
    have hr := hrest i (Nat.le_refl _) hlt
    simp only at hr hi hlen hdone hrest
    have hre := Qbl (te := 158) hei
    have hli : i < rows.length := by omega
    have F := wwA @Qab (wwA hre (wwA hr (wwA hlen @DescS.cells.eq_1)))
    repeat' first | refine wSq fun _ hK => ?_ | refine ww1 ?_ | (refine wK ?_; clear hK) | (simp only [wHb, reduceCtorEq] at hb <;> try (exfalso; omega)) | refine wCd (fun hb => ?_) fun hb => ?_ | refine wCa (c := by first | exact Xbl e (he e (List.mem_of_getElem? hei))) (k := ?_) | refine ww3 ?_ | refine ww4 ?_ | refine wGd (fun hb => ?_) fun hb => ?_ | exact trivial
    have hw := Qax (x := (i : Int) + 1) (by omega)
    have hne : nx ≠ 0 := by omega
    refine Xhv [(0, i, 2)] (by simp only [Qb1, Qco, go_sem, List.getElem?_set_self hli, hne, Ne.symm hne, Qaa, Nat.le_refl, List.set_set, List.set_cons_succ, List.set_cons_zero]; rfl) (i + 1, rows.set i (Quq 91 e)) ⟨?_, ?_, ?_, ?_⟩ ?_ (by simp [Qbo, tmL, hw]) (by simp [Qbd, hpL, Quq, Qai]) (by omega)
    · simp only; omega
    · simpa using hlen
    · intro j f hj hf
      rcases Nat.lt_or_ge j i with h | h
      · simp only; rw [List.getElem?_set_ne (by omega)]; exact hdone j f h hf
      · obtain rfl : j = i := by simp only at hj; omega
        rw [hei] at hf
        cases hf
        simp [hlen, hlt]
    · intro j hj hj2
      simp only at hj
      simp only
      rw [List.getElem?_set_ne (by omega)]
      exact hrest j (by omega) hj2
    · simp only; omega
  · simp only at hi hlen hdone hrest
    obtain rfl : i = ds.length := by omega
    have hrows : rows = Qar 91 ds := by
      refine List.ext_getElem? fun j => ?_
      rcases Nat.lt_or_ge j ds.length with h | h
      · obtain ⟨e, he⟩ : ∃ e, ds[j]? = some e := ⟨_, List.getElem?_eq_getElem h⟩
        rw [hdone j e h he, Qbl he]
        rfl
      · rw [List.getElem?_eq_none (by omega), List.getElem?_eq_none (by rw [Qab]; omega)]
    subst hrows
    have F := @Qab
    repeat' first | refine wSq fun _ hK => ?_ | refine ww1 ?_ | (refine wK ?_; clear hK) | (simp only [wHb, reduceCtorEq] at hb <;> try (exfalso; omega)) | refine wCd (fun hb => ?_) fun hb => ?_ | refine ww3 ?_ | refine ww4 ?_ | refine wGd (fun hb => ?_) fun hb => ?_ | exact trivial
    refine Qhz (T := 0) (by simp only [go_sem]) (by simp only [go_sem]) (Qab _ ds).symm (Qae _ ds)
structure StoreD where
  heads : List HeadD
  descs : List DescS
  deriving DecidableEq
def StoreD.cells (th td te : TypeId) (s : StoreD) : List VV := [.fr th (Qat s.heads), .fr td (Qar te s.descs)]
def szS (s : StoreD) (left : Int) : Int := if szB s.heads.length left < 0 then -1 else Xc4 s.descs (szB s.heads.length left)
theorem Xc2 {ds : List DescS} {left : Int} (h : Xc4 ds left < 0) (h0 : 0 ≤ left) : Xc4 ds left = -1 := by
  unfold Xc4 at *
  split
  · rename_i h2
    rw [if_pos h2] at h
    omega
  · rfl
theorem Qpk (s : StoreD) (left : Int) (h0 : 0 ≤ left) : (0 ≤ szS s left → (s.heads.length : Int) + s.descs.length + Qdf s.descs ≤ left ∧ szS s left = left - s.heads.length - s.descs.length - Qdf s.descs) ∧ (szS s left < 0 → szS s left = -1) := by
  unfold szS Xc4 szB
  repeat' split
  all_goals omega
theorem Qhg : ∀ {ds : List DescS} {d : DescS}, d ∈ ds → d.entries.length ≤ Qdf ds
  | [], d, h => by simp at h
  | a :: ds, d, h => by
    simp only [Qdf]
    rcases List.mem_cons.1 h with rfl | h
    · omega
    · have := Qhg h
      omega
def StoreD.fits (s : StoreD) : Prop := s.heads.length ≤ 9223372036854775807 ∧ s.descs.length ≤ 9223372036854775807 ∧ ∀ d ∈ s.descs, d.entries.length ≤ 9223372036854775807
def StoreD.small (s : StoreD) : Prop := s.heads.length ≤ 1048576 ∧ s.descs.length ≤ 1048576 ∧ ∀ d ∈ s.descs, d.entries.length ≤ 1048576
theorem Xce {s : StoreD} {left : Int} (h0 : 0 ≤ left) (h1 : left ≤ 1048576) (h : 0 ≤ szS s left) : s.small := by
  obtain ⟨k1, _⟩ := (Qpk s left h0).1 h
  exact ⟨by omega, by omega, fun d hd => by have := Qhg hd; omega⟩
theorem Qj5 (s : StoreD) (left : Int) (h0 : 0 ≤ left) (h1 : left ≤ 1048576) (hf : s.fits) :
    SatP Tryz.prog 13 [.agg (s.cells 153 139 158), .int .i64 left] (.int .i64 (szS s left)) [] := by
  obtain ⟨f1, f2, f3⟩ := hf
  have k1 := Xbs (n := s.heads.length) (left := left) (by omega) h1
  refine wEp Tryz.func13 [.tmp 4] 18 fun E hE => ?_
  unfold StoreD.cells
  have F := (Eq.refl 0)
  repeat' first | refine wSq fun _ hK => ?_ | refine ww1 ?_ | (refine wK ?_; clear hK) | (simp only [wHb, reduceCtorEq] at hb <;> try (exfalso; omega)) | refine wCd (fun hb => ?_) fun hb => ?_ | refine wCa (c := by first | exact Qyk s.heads left h0 h1 f1 | exact Qws s.descs _ (by omega) (by omega) f2 f3) (k := ?_) | refine ww3 ?_ | refine ww4 ?_ | refine wGd (fun hb => ?_) fun hb => ?_ | exact trivial
  all_goals refine wLf ?_
  · rw [szS, if_pos (by assumption)]
  · rw [szS, if_neg (by omega), Xc2 (by omega) (by omega)]
  · rw [szS, if_neg (by omega)]
theorem Qxa (s : StoreD) (hs : s.small) :
    SatP Tryz.prog 16 [.agg (s.cells 153 139 158)] (.agg [.rf 0 s.heads.length, .rf 1 s.descs.length]) [(151, Qat s.heads), (89, Qar 91 s.descs)] := by
  obtain ⟨f1, f2, f3⟩ := hs
  refine wEp Tryz.func16 [.cell 2 37] 13 (hp := (by simp [Qaf, Qae])) fun E hE => ?_
  unfold StoreD.cells
  have F := (Eq.refl 0)
  repeat' first | refine wSq fun _ hK => ?_ | refine ww1 ?_ | (refine wK ?_; clear hK) | (simp only [wHb, reduceCtorEq] at hb <;> try (exfalso; omega)) | refine wCd (fun hb => ?_) fun hb => ?_ | refine wCa (c := by first | exact Qy8 s.heads f1 | exact Qx8 s.descs f2 f3) (k := ?_) | refine ww3 ?_ | refine ww4 ?_ | refine wGd (fun hb => ?_) fun hb => ?_ | exact trivial
  refine Qbw (vs := _) (acc := _) (by simp only [go_sem, Qcd]; rfl) (by simp only [go_sem, wrap, exV, exA, Qen, exC, Qad, Qab, Nat.le_refl]; rfl) (by simp) (by simp [List.take_of_length_le, Qad, Qab]) (by simp [Qaf, Qae])
theorem Qyx (es fs : List DescS) (hl : es.length ≤ 1099511627776) (he : ∀ d ∈ es, d.entries.length ≤ 1048576) : SatP Tryz.prog 71 [.fr 89 (Qar 91 es), .fr 89 (Qar 91 fs)] (.bool (decide (es = fs))) [] := by
  refine wEp Tryz.func71 [.tmp 4] 27 fun E hE => ?_
  have F := @Qab
  repeat' first | refine wSq fun _ hK => ?_ | refine ww1 ?_ | (refine wK ?_; clear hK) | (simp only [wHb, reduceCtorEq] at hb <;> try (exfalso; omega)) | refine wCd (fun hb => ?_) fun hb => ?_ | refine ww3 ?_ | refine ww4 ?_ | refine wGd (fun hb => ?_) fun hb => ?_ | exact trivial
  · refine wLf ?_
    have : es ≠ fs := fun h => by subst h; simp at hb
    simp [this]
  have hlen : es.length = fs.length := by simp at hb; omega
  clear hb
  refine Qa4 (X := Nat) (fun i => [(0, .fr 89 (Qar 91 es)), (1, .fr 89 (Qar 91 fs)), (5, .int .i64 i)]) (fun _ => []) (fun i => es.length - i) (fun i => i ≤ es.length ∧ ∀ j, j < i → es[j]? = fs[j]?) 0 0 ⟨by simp, by simp⟩ (by simp [Qbo]) (by simp) (by simp) ?_
  rintro i nx ⟨hi, hdone⟩ hB
  rcases Nat.lt_or_ge i es.length with hlt | hge
  · obtain ⟨e, hei⟩ : ∃ e, es[i]? = some e := ⟨_, List.getElem?_eq_getElem hlt⟩
    obtain ⟨f, hfi⟩ : ∃ f, fs[i]? = some f := ⟨_, List.getElem?_eq_getElem (by omega)⟩
    have hre := Qbl (te := 91) hei
    have hrf := Qbl (te := 91) hfi
    have F := wwA @Qab (wwA hre (wwA hrf @DescS.cells.eq_1))
    repeat' first | refine wSq fun _ hK => ?_ | refine ww1 ?_ | (refine wK ?_; clear hK) | (simp only [wHb, reduceCtorEq] at hb <;> try (exfalso; omega)) | refine wCd (fun hb => ?_) fun hb => ?_ | refine wCa (c := by first | exact Qzz e f (he e (List.mem_of_getElem? hei))) (k := ?_) | refine ww3 ?_ | refine ww4 ?_ | refine wGd (fun hb => ?_) fun hb => ?_ | exact trivial
    · refine wLf ?_
      have : es ≠ fs := fun h => by subst h; rw [hei] at hfi; cases hfi; simp_all
      simp [this]
    · have hef : e = f := by assumption
      have hw := Qax (x := (i : Int) + 1) (by omega)
      refine Qcj (i + 1) ⟨by omega, fun j hj => ?_⟩ (by omega) (by simp [Qbo, tmL, hw]) (by simp) (by simp)
      rcases Nat.lt_or_ge j i with h | h
      · exact hdone j h
      · obtain rfl : j = i := by omega
        rw [hei, hfi, hef]
  · obtain rfl : i = es.length := by omega
    have : es = fs := List.ext_getElem? fun j => by
      rcases Nat.lt_or_ge j es.length with h | h
      · exact hdone j h
      · rw [List.getElem?_eq_none (by omega), List.getElem?_eq_none (by omega)]
    subst this
    have F := @Qab
    repeat' first | refine wSq fun _ hK => ?_ | refine ww1 ?_ | (refine wK ?_; clear hK) | (simp only [wHb, reduceCtorEq] at hb <;> try (exfalso; omega)) | refine wCd (fun hb => ?_) fun hb => ?_ | refine ww3 ?_ | refine ww4 ?_ | refine wGd (fun hb => ?_) fun hb => ?_ | exact trivial
    refine wLf ?_
    simp
theorem Qo6 (a b : StoreD) (hs : a.small) :
    SatP Tryz.prog 19 [.agg (a.cells 151 89 91), .agg (b.cells 151 89 91)] (.bool (decide (a = b))) [] := by
  obtain ⟨f1, f2, f3⟩ := hs
  refine wEp Tryz.func19 [.tmp 4] 17 fun E hE => ?_
  unfold StoreD.cells
  have F := (Eq.refl 0)
  repeat' first | refine wSq fun _ hK => ?_ | refine ww1 ?_ | (refine wK ?_; clear hK) | (simp only [wHb, reduceCtorEq] at hb <;> try (exfalso; omega)) | refine wCd (fun hb => ?_) fun hb => ?_ | refine wCa (c := by first | exact Qy2 a.heads b.heads (by omega) | exact Qyx a.descs b.descs (by omega) f3) (k := ?_) | refine ww3 ?_ | refine ww4 ?_ | refine wGd (fun hb => ?_) fun hb => ?_ | exact trivial
  all_goals refine wLf ?_
  all_goals (cases a; cases b; simp_all)
theorem Qq0 {p : Prop} : bP p = true ↔ p := by
  constructor
  · intro h
    by_cases hp : p
    · exact hp
    · rw [Qbv hp] at h; cases h
  · exact Qcs
def Qkf (n : Nat) (d : DescS) : Prop := Quj d ∧ ∀ e, d.entries[d.entries.length - 1]? = some e → e.object < n
noncomputable def Qg6 (s : StoreD) (i : Nat) (h : HeadD) : Bool := inB h.value (-1000000000) 1000000000 && inB h.version 0 1000000 && inB h.desc (-1) ((s.descs.length : Int) - 1) &&
  (if 0 ≤ h.desc then (match s.descs[h.desc.toNat]? with | some d => decide (0 ≤ Qdl d.entries i) | none => false) else true)
def Qd2 (s : StoreD) : Prop := 1 ≤ s.heads.length ∧ s.heads.length ≤ 8 ∧ s.descs.length ≤ 60 ∧ (∀ d ∈ s.descs, Qkf s.heads.length d) ∧ ∀ (i : Nat) (h : HeadD), s.heads[i]? = some h → Qg6 s i h = true
theorem Quh {n : Nat} {d : DescS} (h : Quj d) : ∃ (k : Nat) (e : EntS), (d.entries.length : Int) - 1 = k ∧ k < d.entries.length ∧ d.entries[k]? = some e ∧ (Qkf n d ↔ e.object < n) := by
  have h1 := h.2.2.2.2.1
  have h2 : d.entries.length - 1 < d.entries.length := by omega
  refine ⟨d.entries.length - 1, d.entries[d.entries.length - 1], by omega, h2, List.getElem?_eq_getElem h2, fun hf => hf.2 _ (List.getElem?_eq_getElem h2), fun hf => ⟨h, fun e he => ?_⟩⟩
  rw [List.getElem?_eq_getElem h2] at he
  cases he
  exact hf
theorem Qkq (s : StoreD) (d : DescS) (hs : s.heads.length ≤ 1048576) (hd : d.entries.length ≤ 1048576) :
    SatP Tryz.prog 151 [.agg (s.cells 151 89 91), .agg (d.cells 91)] (.bool (bP (Qkf s.heads.length d))) [] := by
  refine wEp Tryz.func151 [.tmp 4] 22 fun E hE => ?_
  unfold StoreD.cells DescS.cells
  by_cases hp : Quj d
  · have hb0 := Qcs hp
    obtain ⟨k, e, hk, hkl, he, hiff⟩ := Quh (n := s.heads.length) hp
    have hre := Qbe he
    have F := wwA hb0 (wwA @Qaa (wwA @Qad (wwA hk (wwA hkl hre))))
    repeat' first | refine wSq fun _ hK => ?_ | refine ww1 ?_ | (refine wK ?_; clear hK) | (simp only [wHb, reduceCtorEq] at hb <;> try (exfalso; omega)) | refine wCd (fun hb => ?_) fun hb => ?_ | refine wCa (c := by first | exact Qjc d hd) (k := ?_) | refine ww3 ?_ | refine ww4 ?_ | refine wGd (fun hb => ?_) fun hb => ?_ | exact trivial
    all_goals refine wLf ?_
    all_goals
      by_cases h : e.object < s.heads.length
      · rw [Qcs (hiff.2 h)]; simp_all
      · rw [Qbv (fun hh => h (hiff.1 hh))]; simp_all
  · have hb0 := Qbv hp
    have F := wwA hb0 (wwA @Qaa @Qad)
    repeat' first | refine wSq fun _ hK => ?_ | refine ww1 ?_ | (refine wK ?_; clear hK) | (simp only [wHb, reduceCtorEq] at hb <;> try (exfalso; omega)) | refine wCd (fun hb => ?_) fun hb => ?_ | refine wCa (c := by first | exact Qjc d hd) (k := ?_) | refine ww3 ?_ | refine ww4 ?_ | refine wGd (fun hb => ?_) fun hb => ?_ | exact trivial
    all_goals refine wLf ?_
    all_goals rw [Qbv fun hh => hp hh.1]
theorem Qpy {s : StoreD} {d : DescS} (hd : d ∈ s.descs) (h : ¬ Qkf s.heads.length d) : bP (Qd2 s) = false := Qbv fun hh => h (hh.2.2.2.1 d hd)
theorem Qv7 {s : StoreD} {i : Nat} {h : HeadD} (hi : s.heads[i]? = some h) (hb : Qg6 s i h = false) : bP (Qd2 s) = false := Qbv fun hh => by rw [hh.2.2.2.2 i h hi] at hb; cases hb
theorem Qsx {s : StoreD} {i : Nat} {h : HeadD} (hn : h.desc < 0) : Qg6 s i h = (inB h.value (-1000000000) 1000000000 && inB h.version 0 1000000 && inB h.desc (-1) ((s.descs.length : Int) - 1)) := by
  unfold Qg6
  rw [if_neg (by omega)]
  simp
theorem Qwo {s : StoreD} {i k : Nat} {h : HeadD} {d : DescS} (hk : h.desc = k) (hd : s.descs[k]? = some d) : Qg6 s i h = (inB h.value (-1000000000) 1000000000 && inB h.version 0 1000000 && decide (0 ≤ Qdl d.entries i)) := by
  have hlt := (List.getElem?_eq_some_iff.1 hd).1
  have h1 : inB h.desc (-1) ((s.descs.length : Int) - 1) = true := by simp [inB]; omega
  unfold Qg6
  rw [if_pos (by omega), h1, hk, Int.toNat_natCast, hd]
  simp
theorem Qtj {s : StoreD} {i : Nat} {h : HeadD} (hn : (s.descs.length : Int) ≤ h.desc) : inB h.desc (-1) ((s.descs.length : Int) - 1) = false ∧ Qg6 s i h = false := by
  have h1 : inB h.desc (-1) ((s.descs.length : Int) - 1) = false := by simp [inB]; omega
  refine ⟨h1, ?_⟩
  unfold Qg6
  rw [h1]
  simp
theorem Qii (s : StoreD) (hs : s.small) : SatP Tryz.prog 106 [.agg (s.cells 151 89 91)] (.bool (bP (Qd2 s))) [] := by
  obtain ⟨f1, f2, f3⟩ := hs
  refine wEp Tryz.func106 [.tmp 2] 76 fun E hE => ?_
  unfold StoreD.cells
  have hfit : ∀ d, d ∈ s.descs → SatP Tryz.prog 151 [.agg [.fr 151 (Qat s.heads), .fr 89 (Qar 91 s.descs)], .agg (d.cells 91)] (.bool (bP (Qkf s.heads.length d))) [] := fun d hd => Qkq s d f1 (f3 d hd)
  have F := wwA @Qad @Qab
  repeat' first | refine wSq fun _ hK => ?_ | refine ww1 ?_ | (refine wK ?_; clear hK) | (simp only [wHb, reduceCtorEq] at hb <;> try (exfalso; omega)) | refine wCd (fun hb => ?_) fun hb => ?_ | refine wCa (c := by first | exact Qhr _ _ _) (k := ?_) | refine ww3 ?_ | refine ww4 ?_ | refine wGd (fun hb => ?_) fun hb => ?_ | exact trivial
  · refine wLf ?_
    have hf : inB s.heads.length 1 8 = false := by simp_all
    rw [Qbv fun h => by have h1 := h.1; have h2 := h.2.1; simp [inB] at hf; omega]
  · refine wLf ?_
    rw [Qbv fun h => by have := h.2.2.1; omega]
  have hin : inB s.heads.length 1 8 = true := by assumption
  have h60 : ¬ (60 : Int) < s.descs.length := by assumption
  refine Qa4 (X := Nat) (fun i => [(1, .bp 0 0), (19, .fr 89 (Qar 91 s.descs)), (20, .int .i64 s.descs.length), (21, .int .i64 i)]) (fun _ => [(0, .box [.fr 151 (Qat s.heads), .fr 89 (Qar 91 s.descs)])]) (fun i => s.descs.length - i)
    (fun i => i ≤ s.descs.length ∧ ∀ (j : Nat) (d : DescS), j < i → s.descs[j]? = some d → Qkf s.heads.length d) 1 0 ⟨by simp, by simp⟩ (by simp [Qbo]) (by simp [Qbd]) (by simp) ?_
  rintro i nx ⟨hi, hdone⟩ hB
  rcases Nat.lt_or_ge i s.descs.length with hlt | hge
  · obtain ⟨d, hd⟩ : ∃ d, s.descs[i]? = some d := ⟨_, List.getElem?_eq_getElem hlt⟩
    have hre := Qbl (te := 91) hd
    have hm := List.mem_of_getElem? hd
    have hne : nx ≠ 0 := by omega
    have hne2 : (0 : Nat) ≠ nx := by omega
    have F := wwA @Qab (wwA @Qad (wwA hre (wwA @DescS.cells.eq_1 (wwA hne hne2))))
    repeat' first | refine wSq fun _ hK => ?_ | refine ww1 ?_ | (refine wK ?_; clear hK) | (simp only [wHb, reduceCtorEq] at hb <;> try (exfalso; omega)) | refine wCd (fun hb => ?_) fun hb => ?_ | refine wCa (c := by first | exact hfit d hm) (k := ?_) | refine ww3 ?_ | refine ww4 ?_ | refine wGd (fun hb => ?_) fun hb => ?_ | exact trivial
    · refine wLf ?_
      rw [Qpy hm fun hh => by rw [Qcs hh] at hb; cases hb]
    · have hw := Qax (x := (i : Int) + 1) (by omega)
      refine Qcj (i + 1) ⟨by omega, fun j e hj he => ?_⟩ (by omega) (by simp [Qbo, tmL, hw]) (by simp [Qbd, hpL, hne2]) (by omega)
      rcases Nat.lt_or_ge j i with h | h
      · exact hdone j e h he
      · obtain rfl : j = i := by omega
        rw [hd] at he; cases he
        exact Qq0.1 (by assumption)
  · obtain rfl : i = s.descs.length := by omega
    have F := wwA @Qab @Qad
    repeat' first | refine wSq fun _ hK => ?_ | refine ww1 ?_ | (refine wK ?_; clear hK) | (simp only [wHb, reduceCtorEq] at hb <;> try (exfalso; omega)) | refine wCd (fun hb => ?_) fun hb => ?_ | refine ww3 ?_ | refine ww4 ?_ | refine wGd (fun hb => ?_) fun hb => ?_ | exact trivial
    refine Qa4 (X := Nat) (fun i => [(1, .bp 0 0), (31, .fr 151 (Qat s.heads)), (32, .int .i64 s.heads.length), (33, .int .i64 i)]) (fun _ => [(0, .box [.fr 151 (Qat s.heads), .fr 89 (Qar 91 s.descs)])]) (fun i => s.heads.length - i)
      (fun i => i ≤ s.heads.length ∧ ∀ (j : Nat) (h : HeadD), j < i → s.heads[j]? = some h → Qg6 s j h = true) 1 0 ⟨by simp, by simp⟩ (by simp [Qbo, tmL]) (by simp [Qbd, hpL]) (by omega) ?_
    rintro i nx2 ⟨hi, hdone2⟩ hB2
    rcases Nat.lt_or_ge i s.heads.length with hlt | hge
    · obtain ⟨h, hh⟩ : ∃ h, s.heads[i]? = some h := ⟨_, List.getElem?_eq_getElem hlt⟩
      have hre := Qb0 hh
      have hne : nx2 ≠ 0 := by omega
      have hne2 : (0 : Nat) ≠ nx2 := by omega
      have hw := Qax (x := (i : Int) + 1) (by omega)
      have hno : Qg6 s i h = false → bP (Qd2 s) = false := Qv7 hh
      have hyes : Qg6 s i h = true → ∀ (j : Nat) (g : HeadD), j < i + 1 → s.heads[j]? = some g → Qg6 s j g = true := fun hb j g hj hg => by
        rcases Nat.lt_or_ge j i with h1 | h1
        · exact hdone2 j g h1 hg
        · obtain rfl : j = i := by omega
          rw [hh] at hg; cases hg; exact hb
      have hws := Qax (x := (s.descs.length : Int) - 1) (by omega)
      rcases Int.lt_or_le h.desc 0 with hneg | hpos
      · rw [Qsx hneg] at hno hyes
        have hng : ¬ 0 ≤ h.desc := by omega
        have F := wwA @Qab (wwA @Qad (wwA hre (wwA hne (wwA hne2 (wwA hws hng)))))
        repeat' first | refine wSq fun _ hK => ?_ | refine ww1 ?_ | (refine wK ?_; clear hK) | (simp only [wHb, reduceCtorEq] at hb <;> try (exfalso; omega)) | refine wCd (fun hb => ?_) fun hb => ?_ | refine wCa (c := by first | exact Qdu _ | exact Qfy _ | exact Qhr _ _ _) (k := ?_) | refine ww3 ?_ | refine ww4 ?_ | refine wGd (fun hb => ?_) fun hb => ?_ | exact trivial
        all_goals first
          | (refine wLf ?_
             rw [hno (by simp_all)]
             done)
          | (refine Qcj (i + 1) ⟨by omega, hyes (by simp_all)⟩ (by omega) (by simp [Qbo, tmL, hw]) (by simp [Qbd, hpL, hne2]) (by omega))
      · rcases Int.lt_or_le h.desc s.descs.length with hlt2 | hbig
        · obtain ⟨k, hk⟩ : ∃ k : Nat, h.desc = k := ⟨h.desc.toNat, by omega⟩
          obtain ⟨d, hd⟩ : ∃ d, s.descs[k]? = some d := ⟨_, List.getElem?_eq_getElem (by omega)⟩
          have hrd := Qbl (te := 91) hd
          rw [Qwo hk hd] at hno hyes
          have hk0 : (0 : Int) ≤ (k : Nat) := by omega
          have hkl : k < s.descs.length := by omega
          have h1 : inB k (-1) ((s.descs.length : Int) - 1) = true := by simp [inB]; omega
          have F := wwA @Qab (wwA @Qad (wwA hre (wwA hrd (wwA hne (wwA hne2 (wwA hws (wwA hk (wwA hk0 (wwA hkl h1)))))))))
          repeat' first | refine wSq fun _ hK => ?_ | refine ww1 ?_ | (refine wK ?_; clear hK) | (simp only [wHb, reduceCtorEq] at hb <;> try (exfalso; omega)) | refine wCd (fun hb => ?_) fun hb => ?_ | refine wCa (c := by first | exact Qdu _ | exact Qfy _ | exact Qhr _ _ _ | exact Qdt d.entries i (f3 d (List.mem_of_getElem? hd))) (k := ?_) | refine ww3 ?_ | refine ww4 ?_ | refine wGd (fun hb => ?_) fun hb => ?_ | exact trivial
          all_goals first
            | (refine wLf ?_
               rw [hno (by simp_all)]
               done)
            | (refine Qcj (i + 1) ⟨by omega, hyes (by simp_all)⟩ (by omega) (by simp [Qbo, tmL, hw]) (by simp [Qbd, hpL, hne2]) (by omega))
        · obtain ⟨h1, h2⟩ := Qtj (s := s) (i := i) hbig
          have hno := hno h2
          clear hyes
          have F := wwA @Qab (wwA @Qad (wwA hre (wwA hne (wwA hne2 (wwA hws h1)))))
          repeat' first | refine wSq fun _ hK => ?_ | refine ww1 ?_ | (refine wK ?_; clear hK) | (simp only [wHb, reduceCtorEq] at hb <;> try (exfalso; omega)) | refine wCd (fun hb => ?_) fun hb => ?_ | refine wCa (c := by first | exact Qdu _ | exact Qfy _ | exact Qhr _ _ _) (k := ?_) | refine ww3 ?_ | refine ww4 ?_ | refine wGd (fun hb => ?_) fun hb => ?_ | exact trivial
          all_goals refine wLf ?_
          all_goals rw [hno]
    · obtain rfl : i = s.heads.length := by omega
      have F := wwA @Qab @Qad
      repeat' first | refine wSq fun _ hK => ?_ | refine ww1 ?_ | (refine wK ?_; clear hK) | (simp only [wHb, reduceCtorEq] at hb <;> try (exfalso; omega)) | refine wCd (fun hb => ?_) fun hb => ?_ | refine ww3 ?_ | refine ww4 ?_ | refine wGd (fun hb => ?_) fun hb => ?_ | exact trivial
      refine wLf ?_
      rw [Qcs]
      refine ⟨by simp [inB] at hin; omega, by simp [inB] at hin; omega, by omega, fun d hd => ?_, fun j h hj => hdone2 j h (List.getElem?_eq_some_iff.1 hj).1 hj⟩
      obtain ⟨j, hj⟩ := List.getElem?_of_mem hd
      exact hdone j d (List.getElem?_eq_some_iff.1 hj).1 hj
theorem Qf8 (s : StoreD) (hs : s.small) : SatP Tryz.prog 98 [.agg (s.cells 151 89 91)] (.bool (bP (Qd2 s))) [] := by
  obtain ⟨f1, f2, f3⟩ := hs
  refine wEp Tryz.func98 [.tmp 2] 95 fun E hE => ?_
  unfold StoreD.cells
  have F := wwA @Qad @Qab
  repeat' first | refine wSq fun _ hK => ?_ | refine ww1 ?_ | (refine wK ?_; clear hK) | (simp only [wHb, reduceCtorEq] at hb <;> try (exfalso; omega)) | refine wCd (fun hb => ?_) fun hb => ?_ | refine wCa (c := by first | exact Qc9 _ _ _) (k := ?_) | refine ww3 ?_ | refine ww4 ?_ | refine wGd (fun hb => ?_) fun hb => ?_ | exact trivial
  · refine wLf ?_
    have hf : inB s.heads.length 1 8 = false := by simp_all
    rw [Qbv fun h => by have h1 := h.1; have h2 := h.2.1; simp [inB] at hf; omega]
  · refine wLf ?_
    rw [Qbv fun h => by have := h.2.2.1; omega]
  have hin : inB s.heads.length 1 8 = true := by assumption
  have h60 : ¬ (60 : Int) < s.descs.length := by assumption
  refine Qa4 (X := Nat) (fun i => [(1, .bp 0 0), (3, .int .i64 i)]) (fun _ => [(0, .box [.fr 151 (Qat s.heads), .fr 89 (Qar 91 s.descs)])]) (fun i => s.descs.length - i)
    (fun i => i ≤ s.descs.length ∧ ∀ (j : Nat) (d : DescS), j < i → s.descs[j]? = some d → Qkf s.heads.length d) 1 0 ⟨by simp, by simp⟩ (by simp [Qbo]) (by simp [Qbd]) (by simp) ?_
  rintro i nx ⟨hi, hdone⟩ hB
  rcases Nat.lt_or_ge i s.descs.length with hlt | hge
  · obtain ⟨d, hd⟩ : ∃ d, s.descs[i]? = some d := ⟨_, List.getElem?_eq_getElem hlt⟩
    have hre := Qbl (te := 91) hd
    have hm := List.mem_of_getElem? hd
    have hne : nx ≠ 0 := by omega
    have hne2 : (0 : Nat) ≠ nx := by omega
    have hw := Qax (x := (i : Int) + 1) (by omega)
    have hde := f3 d hm
    by_cases hp : Quj d
    · have hb0 := Qcs hp
      obtain ⟨k, e, hk, hkl, he, hiff⟩ := Quh (n := s.heads.length) hp
      have hrx := Qbe he
      have F := wwA @Qab (wwA @Qad (wwA @Qaa (wwA hre (wwA hrx (wwA hk (wwA hkl (wwA hb0 (wwA @DescS.cells.eq_1 (wwA hne hne2)))))))))
      repeat' first | refine wSq fun _ hK => ?_ | refine ww1 ?_ | (refine wK ?_; clear hK) | (simp only [wHb, reduceCtorEq] at hb <;> try (exfalso; omega)) | refine wCd (fun hb => ?_) fun hb => ?_ | refine wCa (c := by first | exact Qgl d (f3 d hm)) (k := ?_) | refine ww3 ?_ | refine ww4 ?_ | refine wGd (fun hb => ?_) fun hb => ?_ | exact trivial
      all_goals first
        | (refine wLf ?_
           rw [Qpy hm fun hh => by have := hiff.1 hh; omega]
           done)
        | (refine Qcj (i + 1) ⟨by omega, fun j e2 hj he2 => by
             rcases Nat.lt_or_ge j i with h | h
             · exact hdone j e2 h he2
             · obtain rfl : j = i := by omega
               rw [hd] at he2; cases he2
               exact hiff.2 (by omega)⟩ (by omega) (by simp [Qbo, tmL, hw]) (by simp [Qbd, hpL, hne2]) (by omega))
    · have hb0 := Qbv hp
      have F := wwA @Qab (wwA @Qad (wwA hre (wwA hb0 (wwA @DescS.cells.eq_1 (wwA hne hne2)))))
      repeat' first | refine wSq fun _ hK => ?_ | refine ww1 ?_ | (refine wK ?_; clear hK) | (simp only [wHb, reduceCtorEq] at hb <;> try (exfalso; omega)) | refine wCd (fun hb => ?_) fun hb => ?_ | refine wCa (c := by first | exact Qgl d (f3 d hm)) (k := ?_) | refine ww3 ?_ | refine ww4 ?_ | refine wGd (fun hb => ?_) fun hb => ?_ | exact trivial
      all_goals refine wLf ?_
      all_goals rw [Qpy hm fun hh => hp hh.1]
  · obtain rfl : i = s.descs.length := by omega
    have F := wwA @Qab @Qad
    repeat' first | refine wSq fun _ hK => ?_ | refine ww1 ?_ | (refine wK ?_; clear hK) | (simp only [wHb, reduceCtorEq] at hb <;> try (exfalso; omega)) | refine wCd (fun hb => ?_) fun hb => ?_ | refine ww3 ?_ | refine ww4 ?_ | refine wGd (fun hb => ?_) fun hb => ?_ | exact trivial
    refine Qa4 (X := Nat) (fun i => [(1, .bp 0 0), (5, .int .i64 i)]) (fun _ => [(0, .box [.fr 151 (Qat s.heads), .fr 89 (Qar 91 s.descs)])]) (fun i => s.heads.length - i)
      (fun i => i ≤ s.heads.length ∧ ∀ (j : Nat) (h : HeadD), j < i → s.heads[j]? = some h → Qg6 s j h = true) 1 0 ⟨by simp, by simp⟩ (by simp [Qbo, tmL]) (by simp [Qbd, hpL]) (by omega) ?_
    rintro i nx2 ⟨hi, hdone2⟩ hB2
    rcases Nat.lt_or_ge i s.heads.length with hlt | hge
    · obtain ⟨h, hh⟩ : ∃ h, s.heads[i]? = some h := ⟨_, List.getElem?_eq_getElem hlt⟩
      have hre := Qb0 hh
      have hne : nx2 ≠ 0 := by omega
      have hne2 : (0 : Nat) ≠ nx2 := by omega
      have hw := Qax (x := (i : Int) + 1) (by omega)
      have hno : Qg6 s i h = false → bP (Qd2 s) = false := Qv7 hh
      have hyes : Qg6 s i h = true → ∀ (j : Nat) (g : HeadD), j < i + 1 → s.heads[j]? = some g → Qg6 s j g = true := fun hb j g hj hg => by
        rcases Nat.lt_or_ge j i with h1 | h1
        · exact hdone2 j g h1 hg
        · obtain rfl : j = i := by omega
          rw [hh] at hg; cases hg; exact hb
      have hws := Qax (x := (s.descs.length : Int) - 1) (by omega)
      rcases Int.lt_or_le h.desc 0 with hneg | hpos
      · rw [Qsx hneg] at hno hyes
        have hng : ¬ 0 ≤ h.desc := by omega
        have F := wwA @Qab (wwA @Qad (wwA hre (wwA hne (wwA hne2 (wwA hws hng)))))
        repeat' first | refine wSq fun _ hK => ?_ | refine ww1 ?_ | (refine wK ?_; clear hK) | (simp only [wHb, reduceCtorEq] at hb <;> try (exfalso; omega)) | refine wCd (fun hb => ?_) fun hb => ?_ | refine wCa (c := by first | exact Qcu _ | exact Qc9 _ _ _) (k := ?_) | refine ww3 ?_ | refine ww4 ?_ | refine wGd (fun hb => ?_) fun hb => ?_ | exact trivial
        all_goals first
          | (refine wLf ?_
             rw [hno (by simp_all)]
             done)
          | (refine Qcj (i + 1) ⟨by omega, hyes (by simp_all)⟩ (by omega) (by simp [Qbo, tmL, hw]) (by simp [Qbd, hpL, hne2]) (by omega))
      · rcases Int.lt_or_le h.desc s.descs.length with hlt2 | hbig
        · obtain ⟨k, hk⟩ : ∃ k : Nat, h.desc = k := ⟨h.desc.toNat, by omega⟩
          obtain ⟨d, hd⟩ : ∃ d, s.descs[k]? = some d := ⟨_, List.getElem?_eq_getElem (by omega)⟩
          have hrd := Qbl (te := 91) hd
          rw [Qwo hk hd] at hno hyes
          have hk0 : (0 : Int) ≤ (k : Nat) := by omega
          have hkl : k < s.descs.length := by omega
          have h1 : inB k (-1) ((s.descs.length : Int) - 1) = true := by simp [inB]; omega
          have hop : Qbp d.entries i = Qdl d.entries i := by
            have hd1 := (hdone k d (List.getElem?_eq_some_iff.1 hd).1 hd).1
            rw [Qbp, if_pos (Qcs ((Qio hd1.1).2 ⟨hd1.2.1, hd1.2.2.2.2.2⟩))]
          have F := wwA @Qab (wwA @Qad (wwA hre (wwA hrd (wwA hne (wwA hne2 (wwA hws (wwA hk (wwA hk0 (wwA hkl (wwA h1 hop))))))))))
          repeat' first | refine wSq fun _ hK => ?_ | refine ww1 ?_ | (refine wK ?_; clear hK) | (simp only [wHb, reduceCtorEq] at hb <;> try (exfalso; omega)) | refine wCd (fun hb => ?_) fun hb => ?_ | refine wCa (c := by first | exact Qcu _ | exact Qc9 _ _ _ | exact Qb9 d.entries i (f3 d (List.mem_of_getElem? hd))) (k := ?_) | refine ww3 ?_ | refine ww4 ?_ | refine wGd (fun hb => ?_) fun hb => ?_ | exact trivial
          all_goals first
            | (refine wLf ?_
               rw [hno (by simp_all)]
               done)
            | (refine Qcj (i + 1) ⟨by omega, hyes (by simp_all)⟩ (by omega) (by simp [Qbo, tmL, hw]) (by simp [Qbd, hpL, hne2]) (by omega))
        · obtain ⟨h1, h2⟩ := Qtj (s := s) (i := i) hbig
          have hno := hno h2
          clear hyes
          have F := wwA @Qab (wwA @Qad (wwA hre (wwA hne (wwA hne2 (wwA hws h1)))))
          repeat' first | refine wSq fun _ hK => ?_ | refine ww1 ?_ | (refine wK ?_; clear hK) | (simp only [wHb, reduceCtorEq] at hb <;> try (exfalso; omega)) | refine wCd (fun hb => ?_) fun hb => ?_ | refine wCa (c := by first | exact Qcu _ | exact Qc9 _ _ _) (k := ?_) | refine ww3 ?_ | refine ww4 ?_ | refine wGd (fun hb => ?_) fun hb => ?_ | exact trivial
          all_goals refine wLf ?_
          all_goals rw [hno]
    · obtain rfl : i = s.heads.length := by omega
      have F := wwA @Qab @Qad
      repeat' first | refine wSq fun _ hK => ?_ | refine ww1 ?_ | (refine wK ?_; clear hK) | (simp only [wHb, reduceCtorEq] at hb <;> try (exfalso; omega)) | refine wCd (fun hb => ?_) fun hb => ?_ | refine ww3 ?_ | refine ww4 ?_ | refine wGd (fun hb => ?_) fun hb => ?_ | exact trivial
      refine wLf ?_
      rw [Qcs]
      refine ⟨by simp [inB] at hin; omega, by simp [inB] at hin; omega, by omega, fun d hd => ?_, fun j h hj => hdone2 j h (List.getElem?_eq_some_iff.1 hj).1 hj⟩
      obtain ⟨j, hj⟩ := List.getElem?_of_mem hd
      exact hdone j d (List.getElem?_eq_some_iff.1 hj).1 hj
end Go.Proofs.YtmiojnibngncaaaGreat
