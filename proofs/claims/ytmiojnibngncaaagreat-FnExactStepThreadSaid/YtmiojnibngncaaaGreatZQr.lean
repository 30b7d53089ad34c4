/- What the claim rests on, part 18: the value-level engine and contracts of functions; no condition. -/
import Derived.Test.YtmiojnibngncaaaGreatZQq
import Derived.Test.YtmiojnibngncaaaGreatZQe
import Derived.Test.YtmiojnibngncaaaGreatZQh
import Derived.Test.YtmiojnibngncaaaGreatZQp
namespace Go.Proofs.YtmiojnibngncaaaGreat
open Go Go.RowKit
set_option linter.unusedVariables false
set_option linter.unusedSimpArgs false
set_option maxRecDepth 100000
set_option maxHeartbeats 4000000
attribute [local irreducible] VWP Qb5 Qbn Qbs Qbu Qbj Qbt Qa3 Qbq Qcq Qc6 Qbk Qdb Qc4 Qbr Qbm Qa8
attribute [local irreducible] Qdo
def Qi2 (a : EntS) : List EntS → List EntS
  | [] => [a]
  | b :: l => if a.object < b.object then b :: Qi2 a l else a :: b :: l
def Xcz (es : List EntS) : List EntS := es.foldl (fun acc a => Qi2 a acc) []
theorem Qrz (a : EntS) : ∀ l : List EntS, (Qi2 a l).length = l.length + 1
  | [] => rfl
  | b :: l => by
    rw [Qi2]
    split
    · simp [Qrz a l]
    · rfl
theorem Qti (a : EntS) : ∀ (l S : List EntS), Qj2 l.length (l.reverse ++ a :: S) = (Qi2 a l).reverse ++ S
  | [], S => rfl
  | b :: l, S => by
    have h1 : (l.reverse ++ b :: a :: S)[l.length + 1]? = some a := by
      rw [List.getElem?_append_right (by simp)]; simp
    have h2 : (l.reverse ++ b :: a :: S)[l.length]? = some b := by
      rw [List.getElem?_append_right (by simp)]; simp
    have h3 : ((l.reverse ++ b :: a :: S).set (l.length + 1) b).set l.length a = l.reverse ++ a :: b :: S := by
      rw [List.set_append_right _ _ (by simp), List.set_append_right _ _ (by simp)]
      simp
    have e : (b :: l).reverse ++ a :: S = l.reverse ++ b :: a :: S := by simp
    rw [e, List.length_cons, Qj2, h1, h2]
    simp only
    rw [Qi2]
    split
    · rw [h3, Qti a l (b :: S)]
      simp
    · simp
theorem Xbo (es : List EntS) : ∀ m : Nat, m ≤ es.length → Qm7 m es = (Xcz (es.take m)).reverse ++ es.drop m ∧ (Xcz (es.take m)).length = m
  | 0, _ => ⟨by simp [Qm7, Xcz], rfl⟩
  | m + 1, hm => by
    obtain ⟨h1, h2⟩ := Xbo es m (by omega)
    have hx : es[m]? = some es[m] := List.getElem?_eq_getElem (by omega)
    have hs : Xcz (es.take (m + 1)) = Qi2 es[m] (Xcz (es.take m)) := by
      unfold Xcz
      rw [List.take_add_one, hx, List.foldl_append]
      rfl
    refine ⟨?_, by rw [hs, Qrz, h2]⟩
    rw [Qm7, h1, List.drop_eq_getElem_cons (by omega), hs]
    have := Qti es[m] (Xcz (es.take m)) (es.drop (m + 1))
    rw [h2] at this
    exact this
theorem Qlj (a : EntS) : ∀ (l : List EntS) (e : EntS), e ∈ Qi2 a l ↔ e = a ∨ e ∈ l
  | [], e => by simp [Qi2]
  | b :: l, e => by
    rw [Qi2]
    split
    · rw [List.mem_cons, Qlj a l e, List.mem_cons]
      constructor
      · rintro (h | h | h)
        · exact .inr (.inl h)
        · exact .inl h
        · exact .inr (.inr h)
      · rintro (h | h | h)
        · exact .inr (.inl h)
        · exact .inl h
        · exact .inr (.inr h)
    · rw [List.mem_cons]
theorem Xfc (es : List EntS) : ∀ e : EntS, e ∈ Xcz es ↔ e ∈ es := by
  have key : ∀ (es acc : List EntS) (e : EntS), e ∈ es.foldl (fun acc a => Qi2 a acc) acc ↔ e ∈ acc ∨ e ∈ es := by
    intro es
    induction es with
    | nil => intro acc e; simp
    | cons a es ih =>
      intro acc e
      rw [List.foldl_cons, ih, Qlj, List.mem_cons]
      constructor
      · rintro ((h | h) | h)
        · exact .inr (.inl h)
        · exact .inl h
        · exact .inr (.inr h)
      · rintro (h | h | h)
        · exact .inl (.inr h)
        · exact .inl (.inl h)
        · exact .inr h
  intro e
  rw [Xcz, key]
  simp
def Qnh (l : List EntS) : Prop := l.Pairwise fun x y => y.object < x.object
theorem Qm0 (a : EntS) : ∀ l : List EntS, Qnh l → (∀ e ∈ l, e.object ≠ a.object) → Qnh (Qi2 a l)
  | [], _, _ => by simp [Qi2, Qnh]
  | b :: l, h, hne => by
    unfold Qnh at h
    rw [List.pairwise_cons] at h
    rw [Qi2]
    have hb := hne b (List.mem_cons_self ..)
    split
    · rename_i hlt
      unfold Qnh
      rw [List.pairwise_cons]
      refine ⟨fun e he => ?_, Qm0 a l h.2 fun e he => hne e (List.mem_cons_of_mem _ he)⟩
      rcases (Qlj a l e).1 he with rfl | he
      · exact hlt
      · exact h.1 e he
    · rename_i hge
      unfold Qnh
      rw [List.pairwise_cons, List.pairwise_cons]
      refine ⟨fun e he => ?_, h⟩
      rcases List.mem_cons.1 he with rfl | he
      · omega
      · have := h.1 e he
        omega
def Xc7 (es : List EntS) : Prop := es.Pairwise fun x y => x.object ≠ y.object
theorem Xd0 (es : List EntS) (h : Xc7 es) : Qnh (Xcz es) := by
  have key : ∀ (es acc : List EntS), Qnh acc → (acc ++ es).Pairwise (fun x y => x.object ≠ y.object) → Qnh (es.foldl (fun acc a => Qi2 a acc) acc) := by
    intro es
    induction es with
    | nil => intro acc h _; exact h
    | cons a es ih =>
      intro acc h ho
      rw [List.foldl_cons]
      rw [List.pairwise_append, List.pairwise_cons] at ho
      obtain ⟨o1, ⟨o2, o3⟩, o4⟩ := ho
      refine ih _ (Qm0 a acc h fun e he => o4 e he a (List.mem_cons_self ..)) ?_
      rw [List.pairwise_append]
      refine ⟨?_, o3, fun x hx y hy => ?_⟩
      · have hd := Qm0 a acc h fun e he => o4 e he a (List.mem_cons_self ..)
        exact hd.imp fun h => by omega
      · rcases (Qlj a acc x).1 hx with rfl | hx
        · exact o2 y hy
        · exact o4 x hx y (List.mem_cons_of_mem _ hy)
  exact key es [] (by simp [Qnh]) (by simpa [Xc7] using h)
theorem Qz8 : ∀ xs ys : List EntS, xs.Pairwise (fun x y => x.object < y.object) → ys.Pairwise (fun x y => x.object < y.object) → (∀ e, e ∈ xs ↔ e ∈ ys) → xs = ys
  | [], [], _, _, _ => rfl
  | [], y :: ys, _, _, h => by have := (h y).2 (List.mem_cons_self ..); simp at this
  | x :: xs, [], _, _, h => by have := (h x).1 (List.mem_cons_self ..); simp at this
  | x :: xs, y :: ys, h1, h2, h => by
    rw [List.pairwise_cons] at h1 h2
    have hxy : x = y := by
      rcases List.mem_cons.1 ((h x).1 (List.mem_cons_self ..)) with h3 | h3
      · exact h3
      · rcases List.mem_cons.1 ((h y).2 (List.mem_cons_self ..)) with h4 | h4
        · exact h4.symm
        · have a1 := h2.1 x h3
          have a2 := h1.1 y h4
          omega
    subst hxy
    have := Qz8 xs ys h1.2 h2.2 fun e => by
      have he := h e
      simp only [List.mem_cons] at he
      constructor
      · intro hx
        rcases he.1 (.inr hx) with rfl | h5
        · have := h1.1 e hx; omega
        · exact h5
      · intro hy
        rcases he.2 (.inr hy) with rfl | h5
        · have := h2.1 e hy; omega
        · exact h5
    rw [this]
def Qsq (es : List EntS) (o : Nat) : Option EntS := es.find? fun e => e.object == (o : Int)
def Qdg (es : List EntS) (k : Nat) : List EntS := (List.range k).filterMap (Qsq es)
theorem Qoo {es : List EntS} {k : Nat} {e : EntS} (h : Qsq es k = some e) : Qdg es (k + 1) = Qdg es k ++ [e] := by
  unfold Qdg
  rw [List.range_succ, List.filterMap_append]
  simp [h]
theorem Qoj {es : List EntS} {k : Nat} (h : Qsq es k = none) : Qdg es (k + 1) = Qdg es k := by
  unfold Qdg
  rw [List.range_succ, List.filterMap_append]
  simp [h]
theorem Qtc (es : List EntS) (k : Nat) : (Qdg es k).length ≤ k := by
  unfold Qdg
  exact Nat.le_trans (List.length_filterMap_le _ _) (by simp)
theorem Qr2 {es : List EntS} {k : Nat} {e : EntS} (h : e ∈ Qdg es k) : e ∈ es ∧ 0 ≤ e.object ∧ e.object < k := by
  unfold Qdg at h
  rw [List.mem_filterMap] at h
  obtain ⟨o, ho, he⟩ := h
  rw [List.mem_range] at ho
  have h1 := List.mem_of_find?_eq_some he
  have h2 := List.find?_some he
  simp only [beq_iff_eq] at h2
  exact ⟨h1, by omega, by omega⟩
theorem Qly (es : List EntS) : ∀ k : Nat, (Qdg es k).Pairwise fun x y => x.object < y.object
  | 0 => by simp [Qdg]
  | k + 1 => by
    cases h : Qsq es k with
    | none => rw [Qoj h]; exact Qly es k
    | some e =>
      rw [Qoo h, List.pairwise_append]
      have h2 := List.find?_some h
      simp only [beq_iff_eq] at h2
      refine ⟨Qly es k, by simp, fun x hx y hy => ?_⟩
      rw [List.mem_singleton.1 hy, h2]
      exact (Qr2 hx).2.2
theorem Xfg {es : List EntS} (h : Qeb es) : Xc7 es := by
  unfold Xc7
  rw [List.pairwise_iff_getElem]
  intro i j hi hj hij
  exact (h.1 j es[j] (List.getElem?_eq_getElem hj)).2 i es[i] hij (List.getElem?_eq_getElem hi)
theorem Xep {es : List EntS} (h : Qeb es) : Qy5 es := fun e he => by
  obtain ⟨i, hi⟩ := List.getElem?_of_mem he
  have := (h.1 i e hi).1
  simp only [EntS.ok, Bool.and_eq_true] at this
  have h2 := this.1.1.1.1
  simp [inB] at h2
  exact h2
theorem Qsk {es : List EntS} (h : Qeb es) : Qm7 es.length es = Qdg es 8 := by
  have h1 := (Xbo es es.length (Nat.le_refl _)).1
  rw [List.take_length, List.drop_length, List.append_nil] at h1
  rw [h1]
  have hd := Xd0 es (Xfg h)
  refine Qz8 _ _ ?_ (Qly es 8) fun e => ?_
  · rw [List.pairwise_reverse]; exact hd
  · rw [List.mem_reverse, Xfc]
    refine ⟨fun he => ?_, fun he => (Qr2 he).1⟩
    have ho := Xep h e he
    obtain ⟨o, hoe⟩ : ∃ o : Nat, e.object = o := ⟨e.object.toNat, by omega⟩
    unfold Qdg
    rw [List.mem_filterMap]
    refine ⟨o, by rw [List.mem_range]; omega, ?_⟩
    unfold Qsq
    obtain ⟨f, hf⟩ : ∃ f, es.find? (fun x => x.object == (o : Int)) = some f := by
      cases hx : es.find? (fun x => x.object == (o : Int)) with
      | some f => exact ⟨f, rfl⟩
      | none =>
        have := List.find?_eq_none.1 hx e he
        simp [hoe] at this
    have f1 := List.mem_of_find?_eq_some hf
    have f2 := List.find?_some hf
    simp only [beq_iff_eq] at f2
    rw [hf]
    by_cases hfe : f = e
    · rw [hfe]
    · exfalso
      obtain ⟨i, hi⟩ := List.getElem?_of_mem f1
      obtain ⟨j, hj⟩ := List.getElem?_of_mem he
      rcases Nat.lt_trichotomy i j with h3 | h3 | h3
      · exact (h.1 j e hj).2 i f h3 hi (by omega)
      · subst h3
        rw [hi] at hj
        exact hfe (Option.some.inj hj)
      · exact (h.1 i f hi).2 j e h3 hj (by omega)
theorem Xhg {p : Prop} (h : bP p = true) : p := by
  unfold bP at h
  simpa using h
noncomputable def Qjp (o : Int) (es : List EntS) : Bool := inB o 0 3 && bP (Qeb es) && !(es.length == 0)
noncomputable def Qia (o : Int) (es : List EntS) : DescS × Bool := if Qjp o es = true then (⟨o, 0, Qdg es 8⟩, true) else (⟨0, 0, []⟩, false)
theorem Qhq (o : Int) (es : List EntS) (r : DescS × Bool) (hr : Qia o es = r) (hl : es.length ≤ 1048576) :
    SatP Tryz.prog 175 [.int .i64 o, .fr 91 (Qav es)] (.tup [.agg [.int .i64 r.1.owner, .int .i64 r.1.status, .rf 0 r.1.entries.length], .bool r.2]) [(91, Qav r.1.entries)] := by
  have h1 := Qiu o
  have h2 := Qfe es hl
  have h3 := Qde es (by omega)
  refine wEp Tryz.func175 [.cell 4 89, .tmp 5] 29 (hp := (by simpa using Qac _)) fun E hE => ?_
  rcases (Bool.eq_false_or_eq_true (Qjp o es)).symm with hp | hp
  · rw [Qia, if_neg (by rw [hp]; exact fun h => nomatch h)] at hr
    subst hr
    have hbad : inB o 0 3 = true → bP (Qeb es) = true → (es.length : Int) = 0 := fun a b => by
      have := hp
      simp [Qjp, a, b] at this
      simp [this]
    generalize inB o 0 3 = A at *
    generalize bP (Qeb es) = B at *
    have F := @Qaa
    repeat' first | refine wSq fun _ hK => ?_ | refine ww1 ?_ | (refine wK ?_; clear hK) | (simp only [wHb, reduceCtorEq] at hb <;> try (exfalso; omega)) | refine wCd (fun hb => ?_) fun hb => ?_ | refine wCa (c := by first | exact h1 | exact h2 | exact h3) (k := ?_) | refine ww3 ?_ | refine ww4 ?_ | refine wGd (fun hb => ?_) fun hb => ?_ | exact trivial
    all_goals first
      | (exfalso; simp_all; done)
      | (exfalso; have := hbad (by simp_all) (by simp_all); simp_all; omega)
      | skip
    all_goals refine Qbw (vs := _) (acc := _) (by simp only [go_sem, Qcd]; rfl) (by simp only [go_sem, wrap, exV, Qf0, exA, Qen, exC]; rfl) (by simp) (by simp [Qav]) (by simp [Qac])
  · rw [Qia, if_pos hp] at hr
    have hp2 : (inB o 0 3 = true ∧ bP (Qeb es) = true) ∧ ¬ es.length = 0 := by simpa [Qjp] using hp
    obtain ⟨⟨q1, q2⟩, q3⟩ := hp2
    have hO := Xhg q2
    rw [q1] at h1
    rw [q2] at h2
    have hz : ((es.length : Int) == 0) = false := by simpa using q3
    have hs := Quv es (by have := hO.2; omega) (Xep hO)
    rw [Qsk hO] at hs
    have hlen : (Qdg es 8).length = es.length := by rw [← Qsk hO, Qi4]
    have htk := Qai (Qdg es 8)
    rw [hlen] at htk
    subst hr
    have F := wwA @Qaa (wwA @Qac hz)
    repeat' first | refine wSq fun _ hK => ?_ | refine ww1 ?_ | (refine wK ?_; clear hK) | (simp only [wHb, reduceCtorEq] at hb <;> try (exfalso; omega)) | refine wCd (fun hb => ?_) fun hb => ?_ | refine wCa (c := by first | exact h1 | exact h2 | exact h3) (k := ?_) | refine wOw [1] (c := by exact hs) (k := ?_) | refine ww3 ?_ | refine ww4 ?_ | refine wGd (fun hb => ?_) fun hb => ?_ | exact trivial
    refine Qbw (vs := _) (acc := _) (by simp only [go_sem, Qcd]; rfl) (by simp only [go_sem, wrap, exV, Qf0, exA, Qen, exC, Qaa, hlen, htk, Nat.le_refl]; rfl) (by simp) (by simp) (by simp [Qac])
theorem Qhe (o : Int) (es : List EntS) (r : DescS × Bool) (hr : Qia o es = r) (hl : es.length ≤ 1048576) :
    SatP Tryz.prog 163 [.int .i64 o, .fr 91 (Qav es)] (.tup [.agg [.int .i64 r.1.owner, .int .i64 r.1.status, .rf 0 r.1.entries.length], .bool r.2]) [(91, Qav r.1.entries)] := by
  have h1 := Qc9 o 0 3
  have h2 := Qfn es hl
  refine wEp Tryz.func163 [.cell 4 89, .tmp 5] 44 (hp := (by simpa using Qac _)) fun E hE => ?_
  rcases (Bool.eq_false_or_eq_true (Qjp o es)).symm with hp | hp
  · rw [Qia, if_neg (by rw [hp]; exact fun h => nomatch h)] at hr
    subst hr
    have hbad : inB o 0 3 = true → bP (Qeb es) = true → (es.length : Int) = 0 := fun a b => by
      have := hp
      simp [Qjp, a, b] at this
      simp [this]
    generalize inB o 0 3 = A at *
    generalize bP (Qeb es) = B at *
    have F := @Qaa
    repeat' first | refine wSq fun _ hK => ?_ | refine ww1 ?_ | (refine wK ?_; clear hK) | (simp only [wHb, reduceCtorEq] at hb <;> try (exfalso; omega)) | refine wCd (fun hb => ?_) fun hb => ?_ | refine wCa (c := by first | exact h1 | exact h2) (k := ?_) | refine ww3 ?_ | refine ww4 ?_ | refine wGd (fun hb => ?_) fun hb => ?_ | exact trivial
    all_goals first
      | (exfalso; simp_all; done)
      | (exfalso; have := hbad (by simp_all) (by simp_all); simp_all; omega)
      | skip
    all_goals refine Qbw (vs := _) (acc := _) (by simp only [go_sem, Qcd]; rfl) (by simp only [go_sem, wrap, exV, Qf0, exA, Qen, exC]; rfl) (by simp) (by simp [Qav]) (by simp [Qac])
  · rw [Qia, if_pos hp] at hr
    have hp2 : (inB o 0 3 = true ∧ bP (Qeb es) = true) ∧ ¬ es.length = 0 := by simpa [Qjp] using hp
    obtain ⟨⟨q1, q2⟩, q3⟩ := hp2
    have hO := Xhg q2
    rw [q1] at h1
    rw [q2] at h2
    have hz : ((es.length : Int) == 0) = false := by simpa using q3
    subst hr
    have F := wwA @Qaa hz
    repeat' first | refine wSq fun _ hK => ?_ | refine ww1 ?_ | (refine wK ?_; clear hK) | (simp only [wHb, reduceCtorEq] at hb <;> try (exfalso; omega)) | refine wCd (fun hb => ?_) fun hb => ?_ | refine wCa (c := by first | exact h1 | exact h2) (k := ?_) | refine ww3 ?_ | refine ww4 ?_ | refine wGd (fun hb => ?_) fun hb => ?_ | exact trivial
    clear F
    refine Qd5 hE (X := Nat) (fun k => [(4, .bp 0 0), (6, .bp 1 0), (1, .fr 91 (Qav es)), (7, .int .i64 k)]) (fun k => if Qdg es k = [] then [(0, .box [.int .i64 0, .int .i64 0, .nl 91]), (1, .box [.int .i64 o, .int .i64 0, .nl 91])] else [(0, .box [.int .i64 0, .int .i64 0, .nl 91]), (1, .box [.int .i64 o, .int .i64 0, .rf 2 (Qdg es k).length]), (2, .root 91 (Qav (Qdg es k)))]) (fun k => 8 - k)
      (fun k => k ≤ 8) [0, 1, 2] 0 (by simp) (by decide) (by decide) (by simp [Qbo, Qfa, Qe2, Qc3]) (by simp [Qbd, Qb6, Qg4, Qc3, Qdg]) ?_
    intro k hk
    have hw := Qax (x := (k : Int) + 1) (by omega)
    have hbl := Qtc es k
    rcases Nat.lt_or_ge k 8 with hlt | hge
    · have hlt2 : (k : Int) < 8 := by omega
      have h4 := Qb9 es k hl
      rw [Qbp, if_pos q2] at h4
      rcases Qdp es k with ⟨p1, p2⟩ | ⟨i, e, p1, p2, p3, p4⟩
      · have hnone : Qsq es k = none := List.find?_eq_none.2 fun e he => by
          obtain ⟨j, hj⟩ := List.getElem?_of_mem he
          simpa using p2 j e hj
        have hsame := Qoj hnone
        rw [p1] at h4
        have hneg : ¬ (0 : Int) ≤ -1 := by omega
        by_cases hnil : Qdg es k = []
        · rw [if_pos hnil]
          have F := wwA @Qaa (wwA hlt2 hneg)
          repeat' first | refine wSq fun _ hK => ?_ | refine ww1 ?_ | (refine wK ?_; clear hK) | (simp only [wHb, reduceCtorEq] at hb <;> try (exfalso; omega)) | refine wCd (fun hb => ?_) fun hb => ?_ | refine wCa (c := by first | exact h4) (k := ?_) | refine ww3 ?_ | refine ww4 ?_ | refine wGd (fun hb => ?_) fun hb => ?_ | exact trivial
          exact Qfb [] rfl [0, 1, 2] (k + 1) rfl (by decide) (by decide) hlt (by omega) (by simp [Qbo, tmL, Qfa, Qe2, Qc3, hw]) (by rw [hsame, if_pos hnil]; simp [Qbd, hpL, Qb6, Qg4, Qc3])
        · rw [if_neg hnil]
          have F := wwA @Qaa (wwA hlt2 hneg)
          repeat' first | refine wSq fun _ hK => ?_ | refine ww1 ?_ | (refine wK ?_; clear hK) | (simp only [wHb, reduceCtorEq] at hb <;> try (exfalso; omega)) | refine wCd (fun hb => ?_) fun hb => ?_ | refine wCa (c := by first | exact h4) (k := ?_) | refine ww3 ?_ | refine ww4 ?_ | refine wGd (fun hb => ?_) fun hb => ?_ | exact trivial
          exact Qfb [] rfl [0, 1, 2] (k + 1) rfl (by decide) (by decide) hlt (by omega) (by simp [Qbo, tmL, Qfa, Qe2, Qc3, hw]) (by rw [hsame, if_neg hnil]; simp [Qbd, hpL, Qb6, Qg4, Qc3, Qac])
      · have hsome : Qsq es k = some e := by
          unfold Qsq
          rw [List.find?_eq_some_iff_getElem]
          obtain ⟨hil, hie⟩ := List.getElem?_eq_some_iff.1 p2
          exact ⟨by simpa using p3, i, hil, hie, fun j hj => by simpa using p4 j es[j] hj (List.getElem?_eq_getElem (by omega))⟩
        have happ := Qoo hsome
        have hne : Qdg es (k + 1) ≠ [] := by rw [happ]; simp
        have hre := Qbe p2
        have hil := (List.getElem?_eq_some_iff.1 p2).1
        have hi0 : (0 : Int) ≤ ((i : Nat) : Int) := by omega
        rw [p1] at h4
        by_cases hnil : Qdg es k = []
        · rw [if_pos hnil]
          have F := wwA @Qaa (wwA hlt2 (wwA hi0 (wwA hil hre)))
          repeat' first | refine wSq fun _ hK => ?_ | refine ww1 ?_ | (refine wK ?_; clear hK) | (simp only [wHb, reduceCtorEq] at hb <;> try (exfalso; omega)) | refine wCd (fun hb => ?_) fun hb => ?_ | refine wCa (c := by first | exact h4) (k := ?_) | refine ww3 ?_ | refine ww4 ?_ | refine wGd (fun hb => ?_) fun hb => ?_ | exact trivial
          have hone : Qav (Qdg es (k + 1)) = [[.int .i64 e.object, .int .i64 e.version, .int .i64 e.old, .int .i64 e.new, .bool e.write]] := by rw [happ, hnil]; rfl
          have hln : (Qdg es (k + 1)).length = 1 := by rw [happ, hnil]; rfl
          have hpu := Qac (Qdg es (k + 1))
          exact Qfb [] rfl [0, 1, 452] (k + 1) rfl (by decide) (by decide) hlt (by omega) (by simp [Qbo, tmL, Qfa, Qe2, Qc3, hw]) (by rw [if_neg hne, hln]; rw [hone] at hpu ⊢; simp [Qbd, hpL, Qb6, Qg4, Qc3, hpu])
        · rw [if_neg hnil]
          have htk := Qai (Qdg es k)
          have F := wwA @Qaa (wwA htk (wwA hlt2 (wwA hi0 (wwA hil (wwA hre @Nat.le_refl)))))
          repeat' first | refine wSq fun _ hK => ?_ | refine ww1 ?_ | (refine wK ?_; clear hK) | (simp only [wHb, reduceCtorEq] at hb <;> try (exfalso; omega)) | refine wCd (fun hb => ?_) fun hb => ?_ | refine wCa (c := by first | exact h4) (k := ?_) | refine ww3 ?_ | refine ww4 ?_ | refine wGd (fun hb => ?_) fun hb => ?_ | exact trivial
          have hone : Qav (Qdg es (k + 1)) = Qav (Qdg es k) ++ [[.int .i64 e.object, .int .i64 e.version, .int .i64 e.old, .int .i64 e.new, .bool e.write]] := by rw [happ]; simp [Qav, EntS.enc]
          have hln : (Qdg es (k + 1)).length = (Qdg es k).length + 1 := by rw [happ]; simp
          have hpu := Qac (Qdg es (k + 1))
          exact Qfb [] rfl [0, 1, 451] (k + 1) rfl (by decide) (by decide) hlt (by omega) (by simp [Qbo, tmL, Qfa, Qe2, Qc3, hw]) (by rw [if_neg hne, hln]; rw [hone] at hpu ⊢; simp [Qbd, hpL, Qb6, Qg4, Qc3, hpu])
    · obtain rfl : k = 8 := by omega
      have hge2 : ¬ (((8 : Nat) : Int) < 8) := by omega
      have htk := Qai (Qdg es 8)
      by_cases hnil : Qdg es 8 = []
      · rw [if_pos hnil]
        have F := hge2
        repeat' first | refine wSq fun _ hK => ?_ | refine ww1 ?_ | (refine wK ?_; clear hK) | (simp only [wHb, reduceCtorEq] at hb <;> try (exfalso; omega)) | refine wCd (fun hb => ?_) fun hb => ?_ | refine ww3 ?_ | refine ww4 ?_ | refine wGd (fun hb => ?_) fun hb => ?_ | exact trivial
        refine Qbw (vs := _) (acc := _) (by simp only [go_sem, Qcd]; rfl) (by simp only [go_sem, wrap, exV, Qf0, exA, Qen, exC, hnil, List.length_nil]; rfl) (by simp) (by simp [hnil, Qav]) (by simp [Qac])
      · rw [if_neg hnil]
        have F := hge2
        repeat' first | refine wSq fun _ hK => ?_ | refine ww1 ?_ | (refine wK ?_; clear hK) | (simp only [wHb, reduceCtorEq] at hb <;> try (exfalso; omega)) | refine wCd (fun hb => ?_) fun hb => ?_ | refine ww3 ?_ | refine ww4 ?_ | refine wGd (fun hb => ?_) fun hb => ?_ | exact trivial
        refine Qbw (vs := _) (acc := _) (by simp only [go_sem, Qcd]; rfl) (by simp only [go_sem, wrap, exV, Qf0, exA, Qen, exC, Qaa, htk, Nat.le_refl]; rfl) (by simp) (by simp) (by simp [Qac])
end Go.Proofs.YtmiojnibngncaaaGreat
namespace Go.Proofs.YtmiojnibngncaaaGreat
open Go Go.RowKit
set_option linter.unusedVariables false
set_option linter.unusedSimpArgs false
set_option maxRecDepth 100000
set_option maxHeartbeats 4000000
attribute [local irreducible] VWP Qb5 Qbn Qbs Qbu Qbj Qbt Qa3 Qbq Qcq Qc6 Qbk Qdb Qc4 Qbr Qbm Qa8
noncomputable def Qn2 (es : List EntS) (e : EntS) : Bool := !bP (Qeb es) || !e.ok || decide (0 ≤ Qbp es e.object)
noncomputable def Qc2 (es : List EntS) (e : EntS) : List EntS × Int := if Qn2 es e = true then (es, 1) else if es.length = 6 then (es, 2) else (es ++ [e], 0)
theorem Qss (es : List EntS) (e : EntS) : Qav es ++ [[.int .i64 e.object, .int .i64 e.version, .int .i64 e.old, .int .i64 e.new, .bool e.write]] = Qav (es ++ [e]) := by simp [Qav, EntS.enc]
theorem Qwc {es : List EntS} {e : EntS} (h : bP (Qeb es) = false) : Qc2 es e = (es, 1) := by simp [Qc2, Qn2, h]
theorem Qvs {es : List EntS} {e : EntS} (h : e.ok = false) : Qc2 es e = (es, 1) := by simp [Qc2, Qn2, h]
theorem Qvq {es : List EntS} {e : EntS} (h : 0 ≤ Qbp es e.object) : Qc2 es e = (es, 1) := by simp [Qc2, Qn2, h]
theorem Qqk {es : List EntS} {e : EntS} (h1 : bP (Qeb es) = true) (h2 : e.ok = true) (h3 : ¬ 0 ≤ Qbp es e.object) (h : es.length = 6) : Qc2 es e = (es, 2) := by simp [Qc2, Qn2, h1, h2, h3, h]
theorem Qp3 {es : List EntS} {e : EntS} (h1 : bP (Qeb es) = true) (h2 : e.ok = true) (h3 : ¬ 0 ≤ Qbp es e.object) (h : es.length ≠ 6) : Qc2 es e = (es ++ [e], 0) := by simp [Qc2, Qn2, h1, h2, h3, h]
theorem Qf3 (es : List EntS) (o ver x : Int) (r : List EntS × Int) (hr : Qc2 es ⟨o, ver, x, x, false⟩ = r) (hl : es.length ≤ 1048576) : SatP Tryz.prog 187 [.fr 91 (Qav es), .int .i64 o, .int .i64 ver, .int .i64 x]
    (.tup [.rf 0 r.1.length, .int .i64 r.2]) [(91, Qav r.1)] := by
  refine wEp Tryz.func187 [.tmp 8, .tmp 9] 44 (hp := (by simpa using Qac _)) fun E hE => ?_
  have F := wwA @Qaa @Qh5
  repeat' first | refine wSq fun _ hK => ?_ | refine ww1 ?_ | (refine wK ?_; clear hK) | (simp only [wHb, reduceCtorEq] at hb <;> try (exfalso; omega)) | refine wCd (fun hb => ?_) fun hb => ?_ | refine wCa (c := by first | exact Qfn es hl | exact Qos ⟨o, ver, x, x, false⟩ | exact Qb9 es o hl | exact Qfm es (by omega)) (k := ?_) | refine ww3 ?_ | refine ww4 ?_ | refine wGd (fun hb => ?_) fun hb => ?_ | exact trivial
  · have h := Qwc (e := ⟨o, ver, x, x, false⟩) (es := es) (by assumption)
    rw [h] at hr
    subst hr
    exact Qdh (T := 1) (by simp only [go_sem]) (by simp only [go_sem]) rfl (by simp only [go_sem]; try rfl) rfl (Qaa es).symm (Qac es)
  · have h := Qvs (e := ⟨o, ver, x, x, false⟩) (es := es) (by assumption)
    rw [h] at hr
    subst hr
    exact Qdh (T := 1) (by simp only [go_sem]) (by simp only [go_sem]) rfl (by simp only [go_sem]; try rfl) rfl (Qaa es).symm (Qac es)
  · have h := Qvq (e := ⟨o, ver, x, x, false⟩) (es := es) (by assumption)
    rw [h] at hr
    subst hr
    exact Qdh (T := 1) (by simp only [go_sem]) (by simp only [go_sem]) rfl (by simp only [go_sem]; try rfl) rfl (Qaa es).symm (Qac es)
  · have h := Qqk (e := ⟨o, ver, x, x, false⟩) (es := es) (by assumption) (by assumption) (by assumption) (by simp at hb; omega)
    rw [h] at hr
    subst hr
    exact Qdh (T := 1) (by simp only [go_sem]) (by simp only [go_sem]) rfl (by simp only [go_sem]; try rfl) rfl (Qaa es).symm (Qac es)
  · have h := Qp3 (e := ⟨o, ver, x, x, false⟩) (es := es) (by assumption) (by assumption) (by assumption) (by simp at hb; omega)
    rw [h] at hr
    subst hr
    exact Qdh (T := 257) (by simp only [go_sem]; simp) (by simp only [go_sem]) rfl (by simp only [go_sem, Qai]; rw [← Qss]) rfl (by simp [Qaa]) (Qac _)
theorem Qij (es : List EntS) (o ver x : Int) (r : List EntS × Int) (hr : Qc2 es ⟨o, ver, x, x, false⟩ = r) (hl : es.length ≤ 1048576) : SatP Tryz.prog 179 [.fr 91 (Qav es), .int .i64 o, .int .i64 ver, .int .i64 x]
    (.tup [.rf 0 r.1.length, .int .i64 r.2]) [(91, Qav r.1)] := by
  refine wEp Tryz.func179 [.tmp 8, .tmp 9] 44 (hp := (by simpa using Qac _)) fun E hE => ?_
  have F := wwA @Qaa @Qh5
  repeat' first | refine wSq fun _ hK => ?_ | refine ww1 ?_ | (refine wK ?_; clear hK) | (simp only [wHb, reduceCtorEq] at hb <;> try (exfalso; omega)) | refine wCd (fun hb => ?_) fun hb => ?_ | refine wCa (c := by first | exact Qfe es hl | exact Qh7 ⟨o, ver, x, x, false⟩ | exact Qdt es o hl | exact Qde es (by omega)) (k := ?_) | refine ww3 ?_ | refine ww4 ?_ | refine wGd (fun hb => ?_) fun hb => ?_ | exact trivial
  · have h := Qwc (e := ⟨o, ver, x, x, false⟩) (es := es) (by assumption)
    rw [h] at hr
    subst hr
    exact Qdh (T := 1) (by simp only [go_sem]) (by simp only [go_sem]) rfl (by simp only [go_sem]; try rfl) rfl (Qaa es).symm (Qac es)
  · have h := Qvs (e := ⟨o, ver, x, x, false⟩) (es := es) (by assumption)
    rw [h] at hr
    subst hr
    exact Qdh (T := 1) (by simp only [go_sem]) (by simp only [go_sem]) rfl (by simp only [go_sem]; try rfl) rfl (Qaa es).symm (Qac es)
  · have h := Qvq (e := ⟨o, ver, x, x, false⟩) (es := es) (by rw [Qbp, if_pos (by assumption)]; assumption)
    rw [h] at hr
    subst hr
    exact Qdh (T := 1) (by simp only [go_sem]) (by simp only [go_sem]) rfl (by simp only [go_sem]; try rfl) rfl (Qaa es).symm (Qac es)
  · have h := Qqk (e := ⟨o, ver, x, x, false⟩) (es := es) (by assumption) (by assumption) (by rw [Qbp, if_pos (by assumption)]; assumption) (by simp at hb; omega)
    rw [h] at hr
    subst hr
    exact Qdh (T := 1) (by simp only [go_sem]) (by simp only [go_sem]) rfl (by simp only [go_sem]; try rfl) rfl (Qaa es).symm (Qac es)
  · have h := Qp3 (e := ⟨o, ver, x, x, false⟩) (es := es) (by assumption) (by assumption) (by rw [Qbp, if_pos (by assumption)]; assumption) (by simp at hb; omega)
    rw [h] at hr
    subst hr
    exact Qdh (T := 257) (by simp only [go_sem]; simp) (by simp only [go_sem]) rfl (by simp only [go_sem, Qai]; rw [← Qss]) rfl (by simp [Qaa]) (Qac _)
end Go.Proofs.YtmiojnibngncaaaGreat
namespace Go.Proofs.YtmiojnibngncaaaGreat
open Go Go.RowKit
set_option linter.unusedVariables false
set_option linter.unusedSimpArgs false
set_option maxRecDepth 100000
set_option maxHeartbeats 4000000
attribute [local irreducible] Qdo VWP Qb5 Qbn Qbs Qbu Qbj Qbt Qa3 Qbq Qcq Qc6 Qbk Qdb Qc4 Qbr Qbm Qa8
theorem Qne (s : StoreD) (t : ThreadD) (j : Nat) (e : EntS) (o : Nat) (h : HeadD) (hj : t.check = j) (he : t.opens[j]? = some e) (ho : e.object = o) (hh : s.heads[o]? = some h) (hjl : j ≤ 1048576) (hd : 0 ≤ h.desc) (hl : t.stack.length ≤ 1048576) : SatO Tryz.prog 133 [.bp 0 0, .bp 4 0] [.box (thB t (.rf 1 t.prog.length) (.rf 2 t.opens.length) (.rf 3 t.stack.length)), .root 146 (Qaw t.prog), .root 91 (Qav t.opens), .root 160 (Qaq t.stack), .box [.rf 5 s.heads.length, .rf 6 s.descs.length], .root 151 (Qat s.heads), .root 89 (Qar 91 s.descs)] (.rf 8 0) [.box (thB t (.rf 1 t.prog.length) (.rf 2 t.opens.length) (.rf 7 (t.stack.length + 1))), .root 146 (Qaw t.prog), .root 91 (Qav t.opens), .dead, .box [.rf 5 s.heads.length, .rf 6 s.descs.length], .root 151 (Qat s.heads), .root 89 (Qar 91 s.descs), .root 160 (Qaq (t.stack ++ [⟨h.desc, 0, 0⟩])), .root 86 (Qa0 [])] := by
  have hre := Qbe he
  have hrh := Qb0 hh
  have hlj := (List.getElem?_eq_some_iff.1 he).1
  have hlo := (List.getElem?_eq_some_iff.1 hh).1
  have hj0 : (0 : Int) ≤ (j : Int) := by omega
  have ho0 : (0 : Int) ≤ (o : Int) := by omega
  have hw : IntKind.i64.wrap ((j : Int) + 1) = j + 1 := Qax (by omega)
  obtain ⟨ti, tp, tpc, r0, r1, r2, r3, top, tck, tst, tmn, tsa, tco, tfa⟩ := t
  simp only at *
  subst hj
  have htk : (Qaq (tst ++ [(⟨h.desc, 0, 0⟩ : FrameD)])).take (tst.length + 1) = Qaq (tst ++ [⟨h.desc, 0, 0⟩]) := by rw [List.take_of_length_le (by rw [Qag]; simp)]
  have hlt : tst.length + 1 ≤ (tst ++ [(⟨h.desc, 0, 0⟩ : FrameD)]).length := by simp
  have hdr := Qmz (⟨ti, tp, tpc, r0, r1, r2, r3, top, (j : Int), tst, tmn, tsa, tco, tfa⟩ : ThreadD) h.desc hl
  simp only [thB] at hdr
  simp only [thB]
  refine wEo Tryz.func133 [.tmp 4] 64 7 (by simp [Qbc, Qa6, Qbg, Qcr, Qda]) fun E hE => ?_
  have F := wwA @Qao (wwA @Qam (wwA @Qaa (wwA @Qac (wwA @Qag (wwA @Qah (wwA @Qau (wwA @Qai (wwA @Qap (wwA @Qas (wwA @Qan (wwA @Qal (wwA @Qay (wwA @Nat.le_refl (wwA @Qad (wwA @Qaf (wwA @Qab (wwA @Qae (wwA @Qaj (wwA @Qak (wwA hre (wwA hrh (wwA hlj (wwA hlo (wwA hj0 (wwA ho0 (wwA ho (wwA hd (wwA htk hlt))))))))))))))))))))))))))))
  repeat' first | refine wSq fun _ hK => ?_ | refine ww1 ?_ | (refine wK ?_; clear hK) | (simp only [wHb, reduceCtorEq] at hb <;> try (exfalso; omega)) | refine Qcf (fun hb => ?_) fun hb => ?_ | refine Qiz [0, 1, 2, 3] (hdr) ?_ | refine Qce ?_ | ((fail_if_success refine wwN ?_); refine ww4 ?_) | refine Qcc (fun hb => ?_) fun hb => ?_ | exact trivial
  all_goals refine wRo [] [_, _, _, _, _, _, _]
theorem Qqa (s : StoreD) (t : ThreadD) (j : Nat) (e : EntS) (o : Nat) (h : HeadD) (hj : t.check = j) (he : t.opens[j]? = some e) (ho : e.object = o) (hh : s.heads[o]? = some h) (hjl : j ≤ 1048576) (hd : h.desc < 0) (hv : ¬ h.version = e.version) (h0 : 0 ≤ t.fails) (h1 : t.fails ≤ 1000000) : SatO Tryz.prog 133 [.bp 0 0, .bp 4 0] [.box (thB t (.rf 1 t.prog.length) (.rf 2 t.opens.length) (.rf 3 t.stack.length)), .root 146 (Qaw t.prog), .root 91 (Qav t.opens), .root 160 (Qaq t.stack), .box [.rf 5 s.heads.length, .rf 6 s.descs.length], .root 151 (Qat s.heads), .root 89 (Qar 91 s.descs)] (.rf 7 1) [.box (thB {t with pc := 0, r0 := 0, r1 := 0, r2 := 0, r3 := 0, check := -1, fails := Qlr t.fails} (.rf 1 t.prog.length) (.nl 91) (.rf 3 t.stack.length)), .root 146 (Qaw t.prog), .root 91 (Qav t.opens), .root 160 (Qaq t.stack), .box [.rf 5 s.heads.length, .rf 6 s.descs.length], .root 151 (Qat s.heads), .root 89 (Qar 91 s.descs), .root 86 (Qa0 [⟨4, t.id, 0, 0⟩])] := by
  have hre := Qbe he
  have hrh := Qb0 hh
  have hlj := (List.getElem?_eq_some_iff.1 he).1
  have hlo := (List.getElem?_eq_some_iff.1 hh).1
  have hj0 : (0 : Int) ≤ (j : Int) := by omega
  have ho0 : (0 : Int) ≤ (o : Int) := by omega
  have hw : IntKind.i64.wrap ((j : Int) + 1) = j + 1 := Qax (by omega)
  obtain ⟨ti, tp, tpc, r0, r1, r2, r3, top, tck, tst, tmn, tsa, tco, tfa⟩ := t
  simp only at *
  subst hj
  have hdn : ¬ 0 ≤ h.desc := by omega
  have hvb : (h.version != e.version) = true := by simpa using hv
  have hfl := Xgg (⟨ti, tp, tpc, r0, r1, r2, r3, top, (j : Int), tst, tmn, tsa, tco, tfa⟩ : ThreadD) h0 h1
  simp only [thB] at hfl
  simp only [thB]
  refine wEo Tryz.func133 [.tmp 4] 64 7 (by simp [Qbc, Qa6, Qbg, Qcr, Qda]) fun E hE => ?_
  have F := wwA @Qao (wwA @Qam (wwA @Qaa (wwA @Qac (wwA @Qag (wwA @Qah (wwA @Qau (wwA @Qai (wwA @Qap (wwA @Qas (wwA @Qan (wwA @Qal (wwA @Qay (wwA @Nat.le_refl (wwA @Qad (wwA @Qaf (wwA @Qab (wwA @Qae (wwA @Qaj (wwA @Qak (wwA hre (wwA hrh (wwA hlj (wwA hlo (wwA hj0 (wwA ho0 (wwA ho (wwA hdn hvb)))))))))))))))))))))))))))
  repeat' first | refine wSq fun _ hK => ?_ | refine ww1 ?_ | (refine wK ?_; clear hK) | (simp only [wHb, reduceCtorEq] at hb <;> try (exfalso; omega)) | refine Qcf (fun hb => ?_) fun hb => ?_ | refine Qiz [0, 1, 2, 3] (hfl) ?_ | refine Qce ?_ | ((fail_if_success refine wwN ?_); refine ww4 ?_) | refine Qcc (fun hb => ?_) fun hb => ?_ | exact trivial
  all_goals refine wRo [] [_, _, _, _, _, _, _]
theorem Qqn (s : StoreD) (t : ThreadD) (j : Nat) (e : EntS) (o : Nat) (h : HeadD) (hj : t.check = j) (he : t.opens[j]? = some e) (ho : e.object = o) (hh : s.heads[o]? = some h) (hjl : j ≤ 1048576) (hd : h.desc < 0) (hv : h.version = e.version) (hn : (j : Int) + 1 < (t.opens.length : Int) - 1) (hlo2 : t.opens.length ≤ 1048576) : SatO Tryz.prog 133 [.bp 0 0, .bp 4 0] [.box (thB t (.rf 1 t.prog.length) (.rf 2 t.opens.length) (.rf 3 t.stack.length)), .root 146 (Qaw t.prog), .root 91 (Qav t.opens), .root 160 (Qaq t.stack), .box [.rf 5 s.heads.length, .rf 6 s.descs.length], .root 151 (Qat s.heads), .root 89 (Qar 91 s.descs)] (.rf 7 0) [.box (thB {t with check := (j : Int) + 1} (.rf 1 t.prog.length) (.rf 2 t.opens.length) (.rf 3 t.stack.length)), .root 146 (Qaw t.prog), .root 91 (Qav t.opens), .root 160 (Qaq t.stack), .box [.rf 5 s.heads.length, .rf 6 s.descs.length], .root 151 (Qat s.heads), .root 89 (Qar 91 s.descs), .root 86 (Qa0 [])] := by
  have hre := Qbe he
  have hrh := Qb0 hh
  have hlj := (List.getElem?_eq_some_iff.1 he).1
  have hlo := (List.getElem?_eq_some_iff.1 hh).1
  have hj0 : (0 : Int) ≤ (j : Int) := by omega
  have ho0 : (0 : Int) ≤ (o : Int) := by omega
  have hw : IntKind.i64.wrap ((j : Int) + 1) = j + 1 := Qax (by omega)
  obtain ⟨ti, tp, tpc, r0, r1, r2, r3, top, tck, tst, tmn, tsa, tco, tfa⟩ := t
  simp only at *
  subst hj
  have hdn : ¬ 0 ≤ h.desc := by omega
  have hvb : (h.version != e.version) = false := by simpa using hv
  have hw2 : IntKind.i64.wrap ((top.length : Int) - 1) = top.length - 1 := Qax (by omega)
  simp only [thB]
  refine wEo Tryz.func133 [.tmp 4] 64 7 (by simp [Qbc, Qa6, Qbg, Qcr, Qda]) fun E hE => ?_
  have F := wwA @Qao (wwA @Qam (wwA @Qaa (wwA @Qac (wwA @Qag (wwA @Qah (wwA @Qau (wwA @Qai (wwA @Qap (wwA @Qas (wwA @Qan (wwA @Qal (wwA @Qay (wwA @Nat.le_refl (wwA @Qad (wwA @Qaf (wwA @Qab (wwA @Qae (wwA @Qaj (wwA @Qak (wwA hre (wwA hrh (wwA hlj (wwA hlo (wwA hj0 (wwA ho0 (wwA ho (wwA hdn (wwA hvb (wwA hw (wwA hw2 hn))))))))))))))))))))))))))))))
  repeat' first | refine wSq fun _ hK => ?_ | refine ww1 ?_ | (refine wK ?_; clear hK) | (simp only [wHb, reduceCtorEq] at hb <;> try (exfalso; omega)) | refine Qcf (fun hb => ?_) fun hb => ?_ | refine Qce ?_ | ((fail_if_success refine wwN ?_); refine ww4 ?_) | refine Qcc (fun hb => ?_) fun hb => ?_ | exact trivial
  all_goals refine wRo [] [_, _, _, _, _, _, _]
theorem Qph (s : StoreD) (t : ThreadD) (j : Nat) (e : EntS) (o : Nat) (h : HeadD) (hj : t.check = j) (he : t.opens[j]? = some e) (ho : e.object = o) (hh : s.heads[o]? = some h) (hjl : j ≤ 1048576) (hd : h.desc < 0) (hv : h.version = e.version) (hn : ¬ (j : Int) + 1 < (t.opens.length : Int) - 1) (hlo2 : t.opens.length ≤ 1048576) : SatO Tryz.prog 133 [.bp 0 0, .bp 4 0] [.box (thB t (.rf 1 t.prog.length) (.rf 2 t.opens.length) (.rf 3 t.stack.length)), .root 146 (Qaw t.prog), .root 91 (Qav t.opens), .root 160 (Qaq t.stack), .box [.rf 5 s.heads.length, .rf 6 s.descs.length], .root 151 (Qat s.heads), .root 89 (Qar 91 s.descs)] (.rf 7 1) [.box (thB {t with check := -1} (.rf 1 t.prog.length) (.rf 2 t.opens.length) (.rf 3 t.stack.length)), .root 146 (Qaw t.prog), .root 91 (Qav t.opens), .root 160 (Qaq t.stack), .box [.rf 5 s.heads.length, .rf 6 s.descs.length], .root 151 (Qat s.heads), .root 89 (Qar 91 s.descs), .root 86 (Qa0 [⟨2, t.id, 0, 0⟩])] := by
  have hre := Qbe he
  have hrh := Qb0 hh
  have hlj := (List.getElem?_eq_some_iff.1 he).1
  have hlo := (List.getElem?_eq_some_iff.1 hh).1
  have hj0 : (0 : Int) ≤ (j : Int) := by omega
  have ho0 : (0 : Int) ≤ (o : Int) := by omega
  have hw : IntKind.i64.wrap ((j : Int) + 1) = j + 1 := Qax (by omega)
  obtain ⟨ti, tp, tpc, r0, r1, r2, r3, top, tck, tst, tmn, tsa, tco, tfa⟩ := t
  simp only at *
  subst hj
  have hdn : ¬ 0 ≤ h.desc := by omega
  have hvb : (h.version != e.version) = false := by simpa using hv
  have hw2 : IntKind.i64.wrap ((top.length : Int) - 1) = top.length - 1 := Qax (by omega)
  simp only [thB]
  refine wEo Tryz.func133 [.tmp 4] 64 7 (by simp [Qbc, Qa6, Qbg, Qcr, Qda]) fun E hE => ?_
  have F := wwA @Qao (wwA @Qam (wwA @Qaa (wwA @Qac (wwA @Qag (wwA @Qah (wwA @Qau (wwA @Qai (wwA @Qap (wwA @Qas (wwA @Qan (wwA @Qal (wwA @Qay (wwA @Nat.le_refl (wwA @Qad (wwA @Qaf (wwA @Qab (wwA @Qae (wwA @Qaj (wwA @Qak (wwA hre (wwA hrh (wwA hlj (wwA hlo (wwA hj0 (wwA ho0 (wwA ho (wwA hdn (wwA hvb (wwA hw (wwA hw2 hn))))))))))))))))))))))))))))))
  repeat' first | refine wSq fun _ hK => ?_ | refine ww1 ?_ | (refine wK ?_; clear hK) | (simp only [wHb, reduceCtorEq] at hb <;> try (exfalso; omega)) | refine Qcf (fun hb => ?_) fun hb => ?_ | refine Qgs (c := by first | exact Qli _) (k := ?_) | refine Qce ?_ | ((fail_if_success refine wwN ?_); refine ww4 ?_) | refine Qcc (fun hb => ?_) fun hb => ?_ | exact trivial
  all_goals refine wRo [] [_, _, _, _, _, _, _]
theorem Qr1 (s : StoreD) (t : ThreadD) (o : Nat) (ho2 : o ≤ 1048576) (hh : s.heads.length ≤ o) : SatO Tryz.prog 138 [.bp 0 0, .bp 4 0, .int .i64 o] [.box (thB t (.rf 1 t.prog.length) (.rf 2 t.opens.length) (.rf 3 t.stack.length)), .root 146 (Qaw t.prog), .root 91 (Qav t.opens), .root 160 (Qaq t.stack), .box [.rf 5 s.heads.length, .rf 6 s.descs.length], .root 151 (Qat s.heads), .root 89 (Qar 91 s.descs)] (.rf 7 0) [.box (thB {t with state := 3} (.rf 1 t.prog.length) (.rf 2 t.opens.length) (.rf 3 t.stack.length)), .root 146 (Qaw t.prog), .root 91 (Qav t.opens), .root 160 (Qaq t.stack), .box [.rf 5 s.heads.length, .rf 6 s.descs.length], .root 151 (Qat s.heads), .root 89 (Qar 91 s.descs), .root 86 (Qa0 [])] := by
  have ho0 : (0 : Int) ≤ (o : Int) := by omega
  have hge : (s.heads.length : Int) ≤ o := by omega
  simp only [thB]
  refine wEo Tryz.func138 [.tmp 6] 83 7 (by simp [Qbc, Qa6, Qbg, Qcr, Qda]) fun E hE => ?_
  have F := wwA @Qao (wwA @Qam (wwA @Qaa (wwA @Qac (wwA @Qag (wwA @Qah (wwA @Qau (wwA @Qai (wwA @Qap (wwA @Qas (wwA @Qan (wwA @Qal (wwA @Qay (wwA @Nat.le_refl (wwA @Qad (wwA @Qaf (wwA @Qab (wwA @Qae (wwA @Qaj (wwA @Qak (wwA ho0 hge))))))))))))))))))))
  repeat' first | refine wSq fun _ hK => ?_ | refine ww1 ?_ | (refine wK ?_; clear hK) | (simp only [wHb, reduceCtorEq] at hb <;> try (exfalso; omega)) | refine Qcf (fun hb => ?_) fun hb => ?_ | refine Qce ?_ | ((fail_if_success refine wwN ?_); refine ww4 ?_) | refine Qcc (fun hb => ?_) fun hb => ?_ | exact trivial
  all_goals refine wRo [] [_, _, _, _, _, _, _]
theorem Qqi (s : StoreD) (t : ThreadD) (o : Nat) (ho2 : o ≤ 1048576) (h : HeadD) (hh : s.heads[o]? = some h) (hsl : s.heads.length ≤ 1048576) (hd : 0 ≤ h.desc) (hl : t.stack.length ≤ 1048576) : SatO Tryz.prog 138 [.bp 0 0, .bp 4 0, .int .i64 o] [.box (thB t (.rf 1 t.prog.length) (.rf 2 t.opens.length) (.rf 3 t.stack.length)), .root 146 (Qaw t.prog), .root 91 (Qav t.opens), .root 160 (Qaq t.stack), .box [.rf 5 s.heads.length, .rf 6 s.descs.length], .root 151 (Qat s.heads), .root 89 (Qar 91 s.descs)] (.rf 8 0) [.box (thB t (.rf 1 t.prog.length) (.rf 2 t.opens.length) (.rf 7 (t.stack.length + 1))), .root 146 (Qaw t.prog), .root 91 (Qav t.opens), .dead, .box [.rf 5 s.heads.length, .rf 6 s.descs.length], .root 151 (Qat s.heads), .root 89 (Qar 91 s.descs), .root 160 (Qaq (t.stack ++ [⟨h.desc, 0, 0⟩])), .root 86 (Qa0 [])] := by
  have ho0 : (0 : Int) ≤ (o : Int) := by omega
  have hrh := Qb0 hh
  have hlo := (List.getElem?_eq_some_iff.1 hh).1
  have hge : ¬ (s.heads.length : Int) ≤ o := by omega
  have htk : (Qaq (t.stack ++ [(⟨h.desc, 0, 0⟩ : FrameD)])).take (t.stack.length + 1) = Qaq (t.stack ++ [⟨h.desc, 0, 0⟩]) := by rw [List.take_of_length_le (by rw [Qag]; simp)]
  have hlt : t.stack.length + 1 ≤ (t.stack ++ [(⟨h.desc, 0, 0⟩ : FrameD)]).length := by simp
  have hdr := Qmz t h.desc hl
  simp only [thB] at hdr
  simp only [thB]
  refine wEo Tryz.func138 [.tmp 6] 83 7 (by simp [Qbc, Qa6, Qbg, Qcr, Qda]) fun E hE => ?_
  have F := wwA @Qao (wwA @Qam (wwA @Qaa (wwA @Qac (wwA @Qag (wwA @Qah (wwA @Qau (wwA @Qai (wwA @Qap (wwA @Qas (wwA @Qan (wwA @Qal (wwA @Qay (wwA @Nat.le_refl (wwA @Qad (wwA @Qaf (wwA @Qab (wwA @Qae (wwA @Qaj (wwA @Qak (wwA ho0 (wwA hge (wwA hrh (wwA hlo (wwA hd (wwA htk hlt)))))))))))))))))))))))))
  repeat' first | refine wSq fun _ hK => ?_ | refine ww1 ?_ | (refine wK ?_; clear hK) | (simp only [wHb, reduceCtorEq] at hb <;> try (exfalso; omega)) | refine Qcf (fun hb => ?_) fun hb => ?_ | refine Qiz [0, 1, 2, 3] (hdr) ?_ | refine Qce ?_ | ((fail_if_success refine wwN ?_); refine ww4 ?_) | refine Qcc (fun hb => ?_) fun hb => ?_ | exact trivial
  all_goals refine wRo [] [_, _, _, _, _, _, _]
theorem Qry (s : StoreD) (t : ThreadD) (o : Nat) (ho2 : o ≤ 1048576) (h : HeadD) (hh : s.heads[o]? = some h) (hsl : s.heads.length ≤ 1048576) (hd : h.desc < 0) (hm : t.opens.length = 6) : SatO Tryz.prog 138 [.bp 0 0, .bp 4 0, .int .i64 o] [.box (thB t (.rf 1 t.prog.length) (.rf 2 t.opens.length) (.rf 3 t.stack.length)), .root 146 (Qaw t.prog), .root 91 (Qav t.opens), .root 160 (Qaq t.stack), .box [.rf 5 s.heads.length, .rf 6 s.descs.length], .root 151 (Qat s.heads), .root 89 (Qar 91 s.descs)] (.rf 7 0) [.box (thB {t with state := 2} (.rf 1 t.prog.length) (.rf 2 t.opens.length) (.rf 3 t.stack.length)), .root 146 (Qaw t.prog), .root 91 (Qav t.opens), .root 160 (Qaq t.stack), .box [.rf 5 s.heads.length, .rf 6 s.descs.length], .root 151 (Qat s.heads), .root 89 (Qar 91 s.descs), .root 86 (Qa0 [])] := by
  have ho0 : (0 : Int) ≤ (o : Int) := by omega
  have hrh := Qb0 hh
  have hlo := (List.getElem?_eq_some_iff.1 hh).1
  have hge : ¬ (s.heads.length : Int) ≤ o := by omega
  have hdn : ¬ 0 ≤ h.desc := by omega
  have hmb : ((t.opens.length : Int) == 6) = true := by simp; omega
  simp only [thB]
  refine wEo Tryz.func138 [.tmp 6] 83 7 (by simp [Qbc, Qa6, Qbg, Qcr, Qda]) fun E hE => ?_
  have F := wwA @Qao (wwA @Qam (wwA @Qaa (wwA @Qac (wwA @Qag (wwA @Qah (wwA @Qau (wwA @Qai (wwA @Qap (wwA @Qas (wwA @Qan (wwA @Qal (wwA @Qay (wwA @Nat.le_refl (wwA @Qad (wwA @Qaf (wwA @Qab (wwA @Qae (wwA @Qaj (wwA @Qak (wwA ho0 (wwA hge (wwA hrh (wwA hlo (wwA hdn hmb))))))))))))))))))))))))
  repeat' first | refine wSq fun _ hK => ?_ | refine ww1 ?_ | (refine wK ?_; clear hK) | (simp only [wHb, reduceCtorEq] at hb <;> try (exfalso; omega)) | refine Qcf (fun hb => ?_) fun hb => ?_ | refine Qce ?_ | ((fail_if_success refine wwN ?_); refine ww4 ?_) | refine Qcc (fun hb => ?_) fun hb => ?_ | exact trivial
  all_goals refine wRo [] [_, _, _, _, _, _, _]
theorem Qtq (s : StoreD) (t : ThreadD) (o : Nat) (ho2 : o ≤ 1048576) (h : HeadD) (hh : s.heads[o]? = some h) (hsl : s.heads.length ≤ 1048576) (hd : h.desc < 0) (hm : t.opens.length < 6) (ha : Qc2 t.opens ⟨o, h.version, h.value, h.value, false⟩ = (t.opens ++ [⟨o, h.version, h.value, h.value, false⟩], 0)) (hg : 1 ≤ t.opens.length) : SatO Tryz.prog 138 [.bp 0 0, .bp 4 0, .int .i64 o] [.box (thB t (.rf 1 t.prog.length) (.rf 2 t.opens.length) (.rf 3 t.stack.length)), .root 146 (Qaw t.prog), .root 91 (Qav t.opens), .root 160 (Qaq t.stack), .box [.rf 5 s.heads.length, .rf 6 s.descs.length], .root 151 (Qat s.heads), .root 89 (Qar 91 s.descs)] (.rf 8 1) [.box (thB {t with check := 0} (.rf 1 t.prog.length) (.rf 7 (t.opens.length + 1)) (.rf 3 t.stack.length)), .root 146 (Qaw t.prog), .root 91 (Qav t.opens), .root 160 (Qaq t.stack), .box [.rf 5 s.heads.length, .rf 6 s.descs.length], .root 151 (Qat s.heads), .root 89 (Qar 91 s.descs), .root 91 (Qav (t.opens ++ [⟨o, h.version, h.value, h.value, false⟩])), .root 86 (Qa0 [⟨1, t.id, o, h.value⟩])] := by
  have ho0 : (0 : Int) ≤ (o : Int) := by omega
  have hrh := Qb0 hh
  have hlo := (List.getElem?_eq_some_iff.1 hh).1
  have hge : ¬ (s.heads.length : Int) ≤ o := by omega
  have hdn : ¬ 0 ≤ h.desc := by omega
  have hmb : ((t.opens.length : Int) == 6) = false := by simp; omega
  have had := Qij t.opens o h.version h.value _ ha (by omega)
  have hel : (t.opens ++ [(⟨o, h.version, h.value, h.value, false⟩ : EntS)]).length = t.opens.length + 1 := by simp
  have hetk : (Qav (t.opens ++ [(⟨o, h.version, h.value, h.value, false⟩ : EntS)])).take (t.opens.length + 1) = Qav (t.opens ++ [⟨o, h.version, h.value, h.value, false⟩]) := by rw [List.take_of_length_le (by rw [Qaa, hel]; exact Nat.le_refl _)]
  simp only [hel] at had
  have hgt : (1 : Int) < ((t.opens.length + 1 : Nat) : Int) := by omega
  simp only [thB]
  refine wEo Tryz.func138 [.tmp 6] 83 7 (by simp [Qbc, Qa6, Qbg, Qcr, Qda]) fun E hE => ?_
  have F := wwA @Qao (wwA @Qam (wwA @Qaa (wwA @Qac (wwA @Qag (wwA @Qah (wwA @Qau (wwA @Qai (wwA @Qap (wwA @Qas (wwA @Qan (wwA @Qal (wwA @Qay (wwA @Nat.le_refl (wwA @Qad (wwA @Qaf (wwA @Qab (wwA @Qae (wwA @Qaj (wwA @Qak (wwA ho0 (wwA hge (wwA hrh (wwA hlo (wwA hdn (wwA hmb (wwA hel (wwA hetk hgt)))))))))))))))))))))))))))
  repeat' first | refine wSq fun _ hK => ?_ | refine ww1 ?_ | (refine wK ?_; clear hK) | (simp only [wHb, reduceCtorEq] at hb <;> try (exfalso; omega)) | refine Qcf (fun hb => ?_) fun hb => ?_ | refine Qgs (c := by first | exact had | exact Qli _) (k := ?_) | refine Qce ?_ | ((fail_if_success refine wwN ?_); refine ww4 ?_) | refine Qcc (fun hb => ?_) fun hb => ?_ | exact trivial
  all_goals refine wRo [] [_, _, _, _, _, _, _]
theorem Qqc (s : StoreD) (t : ThreadD) (o : Nat) (ho2 : o ≤ 1048576) (h : HeadD) (hh : s.heads[o]? = some h) (hsl : s.heads.length ≤ 1048576) (hd : h.desc < 0) (hm : t.opens.length < 6) (ha : Qc2 t.opens ⟨o, h.version, h.value, h.value, false⟩ = (t.opens ++ [⟨o, h.version, h.value, h.value, false⟩], 0)) (hg : t.opens.length = 0) : SatO Tryz.prog 138 [.bp 0 0, .bp 4 0, .int .i64 o] [.box (thB t (.rf 1 t.prog.length) (.rf 2 t.opens.length) (.rf 3 t.stack.length)), .root 146 (Qaw t.prog), .root 91 (Qav t.opens), .root 160 (Qaq t.stack), .box [.rf 5 s.heads.length, .rf 6 s.descs.length], .root 151 (Qat s.heads), .root 89 (Qar 91 s.descs)] (.rf 8 2) [.box (thB t (.rf 1 t.prog.length) (.rf 7 (t.opens.length + 1)) (.rf 3 t.stack.length)), .root 146 (Qaw t.prog), .root 91 (Qav t.opens), .root 160 (Qaq t.stack), .box [.rf 5 s.heads.length, .rf 6 s.descs.length], .root 151 (Qat s.heads), .root 89 (Qar 91 s.descs), .root 91 (Qav (t.opens ++ [⟨o, h.version, h.value, h.value, false⟩])), .root 86 (Qa0 [⟨1, t.id, o, h.value⟩, ⟨2, t.id, 0, 0⟩])] := by
  have ho0 : (0 : Int) ≤ (o : Int) := by omega
  have hrh := Qb0 hh
  have hlo := (List.getElem?_eq_some_iff.1 hh).1
  have hge : ¬ (s.heads.length : Int) ≤ o := by omega
  have hdn : ¬ 0 ≤ h.desc := by omega
  have hmb : ((t.opens.length : Int) == 6) = false := by simp; omega
  have had := Qij t.opens o h.version h.value _ ha (by omega)
  have hel : (t.opens ++ [(⟨o, h.version, h.value, h.value, false⟩ : EntS)]).length = t.opens.length + 1 := by simp
  have hetk : (Qav (t.opens ++ [(⟨o, h.version, h.value, h.value, false⟩ : EntS)])).take (t.opens.length + 1) = Qav (t.opens ++ [⟨o, h.version, h.value, h.value, false⟩]) := by rw [List.take_of_length_le (by rw [Qaa, hel]; exact Nat.le_refl _)]
  simp only [hel] at had
  have hgt : ¬ (1 : Int) < ((t.opens.length + 1 : Nat) : Int) := by omega
  have htv : (Qa0 [⟨2, t.id, 0, 0⟩]).take 1 = [[.int .i64 2, .int .i64 t.id, .int .i64 0, .int .i64 0]] := rfl
  have hpc : ([[.int .i64 2, .int .i64 t.id, .int .i64 0, .int .i64 0]] : List (List PT)).all (fun x => x.all Qcy) = true := rfl
  simp only [thB]
  refine wEo Tryz.func138 [.tmp 6] 83 7 (by simp [Qbc, Qa6, Qbg, Qcr, Qda]) fun E hE => ?_
  have F := wwA @Qao (wwA @Qam (wwA @Qaa (wwA @Qac (wwA @Qag (wwA @Qah (wwA @Qau (wwA @Qai (wwA @Qap (wwA @Qas (wwA @Qan (wwA @Qal (wwA @Qay (wwA @Nat.le_refl (wwA @Qad (wwA @Qaf (wwA @Qab (wwA @Qae (wwA @Qaj (wwA @Qak (wwA ho0 (wwA hge (wwA hrh (wwA hlo (wwA hdn (wwA hmb (wwA hel (wwA hetk (wwA hgt (wwA htv hpc)))))))))))))))))))))))))))))
  repeat' first | refine wSq fun _ hK => ?_ | refine ww1 ?_ | (refine wK ?_; clear hK) | (simp only [wHb, reduceCtorEq] at hb <;> try (exfalso; omega)) | refine Qcf (fun hb => ?_) fun hb => ?_ | refine Qgs (c := by first | exact had | exact Qli _) (k := ?_) | refine Qce ?_ | ((fail_if_success refine wwN ?_); refine ww4 ?_) | refine Qcc (fun hb => ?_) fun hb => ?_ | exact trivial
  all_goals refine wRo [] [_, _, _, _, _, _, _]
theorem Qnv (s : StoreD) (t : ThreadD) (hz : t.opens.length = 0) (h0 : 0 ≤ t.pc) (h1 : t.pc ≤ 1048576) (g0 : 0 ≤ t.commits) (g1 : t.commits ≤ 1000000) : SatO Tryz.prog 135 [.bp 0 0, .bp 4 0] [.box (thB t (.rf 1 t.prog.length) (.rf 2 t.opens.length) (.rf 3 t.stack.length)), .root 146 (Qaw t.prog), .root 91 (Qav t.opens), .root 160 (Qaq t.stack), .box [.rf 5 s.heads.length, .rf 6 s.descs.length], .root 151 (Qat s.heads), .root 89 (Qar 91 s.descs)] (.tup []) [.box (thB {t with pc := t.pc + 1, commits := Qlr t.commits} (.rf 1 t.prog.length) (.rf 2 t.opens.length) (.rf 3 t.stack.length)), .root 146 (Qaw t.prog), .root 91 (Qav t.opens), .root 160 (Qaq t.stack), .box [.rf 5 s.heads.length, .rf 6 s.descs.length], .root 151 (Qat s.heads), .root 89 (Qar 91 s.descs)] := by
  have hzb : ((t.opens.length : Int) == 0) = true := by simp; exact List.eq_nil_of_length_eq_zero hz
  have hw : IntKind.i64.wrap (t.pc + 1) = t.pc + 1 := Qax (by omega)
  have hw2 : IntKind.i64.wrap (t.commits + 1) = t.commits + 1 := Qax (by omega)
  have hmn : (if 1000000 < t.commits + 1 then 1000000 else t.commits + 1) = Qlr t.commits := rfl
  simp only [thB]
  refine wEo Tryz.func135 [] 67 7 (by simp [Qbc, Qa6, Qbg, Qcr, Qda]) fun E hE => ?_
  have F := wwA @Qao (wwA @Qam (wwA @Qaa (wwA @Qac (wwA @Qag (wwA @Qah (wwA @Qau (wwA @Qai (wwA @Qap (wwA @Qas (wwA @Qan (wwA @Qal (wwA @Qay (wwA @Nat.le_refl (wwA @Qad (wwA @Qaf (wwA @Qab (wwA @Qae (wwA @Qaj (wwA @Qak (wwA hzb (wwA hw (wwA hw2 hmn))))))))))))))))))))))
  repeat' first | refine wSq fun _ hK => ?_ | refine ww1 ?_ | (refine wK ?_; clear hK) | (simp only [wHb, reduceCtorEq] at hb <;> try (exfalso; omega)) | refine Qcf (fun hb => ?_) fun hb => ?_ | refine Qce ?_ | ((fail_if_success refine wwN ?_); refine ww4 ?_) | refine Qcc (fun hb => ?_) fun hb => ?_ | exact trivial
  all_goals refine wRo [] [_, _, _, _, _, _, _]
theorem Qnq (s : StoreD) (t : ThreadD) (d : DescS) (hz : ¬ t.opens.length = 0) (hl : t.opens.length ≤ 1048576) (hs : s.small) (hm : Qia t.id t.opens = (d, true)) (hdl : d.entries.length ≤ 1048576) (ha : Qcb s d = (s, -1, false)) : SatO Tryz.prog 135 [.bp 0 0, .bp 4 0] [.box (thB t (.rf 1 t.prog.length) (.rf 2 t.opens.length) (.rf 3 t.stack.length)), .root 146 (Qaw t.prog), .root 91 (Qav t.opens), .root 160 (Qaq t.stack), .box [.rf 5 s.heads.length, .rf 6 s.descs.length], .root 151 (Qat s.heads), .root 89 (Qar 91 s.descs)] (.tup []) [.box (thB {t with state := 3} (.rf 1 t.prog.length) (.rf 2 t.opens.length) (.rf 3 t.stack.length)), .root 146 (Qaw t.prog), .root 91 (Qav t.opens), .root 160 (Qaq t.stack), .box [.rf 5 s.heads.length, .rf 6 s.descs.length], .root 151 (Qat s.heads), .root 89 (Qar 91 s.descs)] := by
  have hzb : ((t.opens.length : Int) == 0) = false := by simp; intro hc; exact hz (by rw [hc]; rfl)
  have hmk := Qhq t.id t.opens _ hm hl
  have han := Qhf s d _ ha hs hdl
  have htk := Qai d.entries
  unfold StoreD.cells DescS.cells at han
  simp only at hmk han
  simp only [thB]
  refine wEo Tryz.func135 [] 67 7 (by simp [Qbc, Qa6, Qbg, Qcr, Qda]) fun E hE => ?_
  have F := wwA @Qao (wwA @Qam (wwA @Qaa (wwA @Qac (wwA @Qag (wwA @Qah (wwA @Qau (wwA @Qai (wwA @Qap (wwA @Qas (wwA @Qan (wwA @Qal (wwA @Qay (wwA @Nat.le_refl (wwA @Qad (wwA @Qaf (wwA @Qab (wwA @Qae (wwA @Qaj (wwA @Qak (wwA hzb htk))))))))))))))))))))
  repeat' first | refine wSq fun _ hK => ?_ | refine ww1 ?_ | (refine wK ?_; clear hK) | (simp only [wHb, reduceCtorEq] at hb <;> try (exfalso; omega)) | refine Qcf (fun hb => ?_) fun hb => ?_ | refine Qgs (c := by first | exact hmk | exact han) (k := ?_) | refine Qce ?_ | ((fail_if_success refine wwN ?_); refine ww4 ?_) | refine Qcc (fun hb => ?_) fun hb => ?_ | exact trivial
  all_goals refine wRo [] [_, _, _, _, _, _, _]
theorem Qnn (s : StoreD) (t : ThreadD) (d : DescS) (hz : ¬ t.opens.length = 0) (hl : t.opens.length ≤ 1048576) (hs : s.small) (hm : Qia t.id t.opens = (d, true)) (hdl : d.entries.length ≤ 1048576) (r : StoreD) (n : Int) (ha : Qcb s d = (r, n, true)) (hsl : t.stack.length ≤ 1048576) : SatO Tryz.prog 135 [.bp 0 0, .bp 4 0] [.box (thB t (.rf 1 t.prog.length) (.rf 2 t.opens.length) (.rf 3 t.stack.length)), .root 146 (Qaw t.prog), .root 91 (Qav t.opens), .root 160 (Qaq t.stack), .box [.rf 5 s.heads.length, .rf 6 s.descs.length], .root 151 (Qat s.heads), .root 89 (Qar 91 s.descs)] (.tup []) [.box (thB {t with mine := n} (.rf 1 t.prog.length) (.rf 2 t.opens.length) (.rf 7 (t.stack.length + 1))), .root 146 (Qaw t.prog), .root 91 (Qav t.opens), .dead, .box [.rf 8 r.heads.length, .rf 9 r.descs.length], .root 151 (Qat s.heads), .root 89 (Qar 91 s.descs), .root 160 (Qaq (t.stack ++ [⟨n, 0, 0⟩])), .root 151 (Qat r.heads), .root 89 (Qar 91 r.descs)] := by
  have hzb : ((t.opens.length : Int) == 0) = false := by simp; intro hc; exact hz (by rw [hc]; rfl)
  have hmk := Qhq t.id t.opens _ hm hl
  have han := Qhf s d _ ha hs hdl
  have htk := Qai d.entries
  unfold StoreD.cells DescS.cells at han
  simp only at hmk han
  have hdtk : (Qaq (t.stack ++ [(⟨n, 0, 0⟩ : FrameD)])).take (t.stack.length + 1) = Qaq (t.stack ++ [⟨n, 0, 0⟩]) := by rw [List.take_of_length_le (by rw [Qag]; simp)]
  have hlt : t.stack.length + 1 ≤ (t.stack ++ [(⟨n, 0, 0⟩ : FrameD)]).length := by simp
  have hdr := Qmz {t with mine := n} n hsl
  simp only [thB] at hdr
  simp only [thB]
  refine wEo Tryz.func135 [] 67 7 (by simp [Qbc, Qa6, Qbg, Qcr, Qda]) fun E hE => ?_
  have F := wwA @Qao (wwA @Qam (wwA @Qaa (wwA @Qac (wwA @Qag (wwA @Qah (wwA @Qau (wwA @Qai (wwA @Qap (wwA @Qas (wwA @Qan (wwA @Qal (wwA @Qay (wwA @Nat.le_refl (wwA @Qad (wwA @Qaf (wwA @Qab (wwA @Qae (wwA @Qaj (wwA @Qak (wwA hzb (wwA htk (wwA hdtk hlt))))))))))))))))))))))
  repeat' first | refine wSq fun _ hK => ?_ | refine ww1 ?_ | (refine wK ?_; clear hK) | (simp only [wHb, reduceCtorEq] at hb <;> try (exfalso; omega)) | refine Qcf (fun hb => ?_) fun hb => ?_ | refine Qgs (c := by first | exact hmk | exact han) (k := ?_) | refine Qiz [0, 1, 2, 3] (hdr) ?_ | refine Qce ?_ | ((fail_if_success refine wwN ?_); refine ww4 ?_) | refine Qcc (fun hb => ?_) fun hb => ?_ | exact trivial
  all_goals refine wRo [] [_, _, _, _, _, _, _]
end Go.Proofs.YtmiojnibngncaaaGreat
