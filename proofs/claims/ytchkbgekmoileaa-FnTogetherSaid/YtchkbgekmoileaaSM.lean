/- What both MakeDesc give. -/
import Derived.Test.YtchkbgekmoileaaSR
import Derived.Test.YtchkbgekmoileaaDG
namespace Go.Proofs.Ytchkbgekmoileaa
open Go Go.RowKit
set_option linter.unusedVariables false
set_option linter.unusedSimpArgs false
set_option maxRecDepth 100000
set_option maxHeartbeats 4000000
attribute [local irreducible] VWP vops vdraw contV contD CallK Guard GuardV NextL Puts Runs RetOK RetQ RetO RetQO thenQ blockQ
attribute [local irreducible] NextN

/-! ### Sorting, plain -/
def rinsE (a : EntS) : List EntS → List EntS
  | [] => [a]
  | b :: l => if a.object < b.object then b :: rinsE a l else a :: b :: l
def srtE (es : List EntS) : List EntS := es.foldl (fun acc a => rinsE a acc) []
theorem rinsE_len (a : EntS) : ∀ l : List EntS, (rinsE a l).length = l.length + 1
  | [] => rfl
  | b :: l => by
    rw [rinsE]
    split
    · simp [rinsE_len a l]
    · rfl
theorem sink_rins (a : EntS) : ∀ (l S : List EntS), sinkE l.length (l.reverse ++ a :: S) = (rinsE a l).reverse ++ S
  | [], S => rfl
  | b :: l, S => by
    have h1 : (l.reverse ++ b :: a :: S)[l.length + 1]? = some a := by
      rw [List.getElem?_append_right (by simp)]; simp
    have h2 : (l.reverse ++ b :: a :: S)[l.length]? = some b := by
      rw [List.getElem?_append_right (by simp)]; simp
    have h3 : ((l.reverse ++ b :: a :: S).set (l.length + 1) b).set l.length a = l.reverse ++ a :: b :: S := by
      rw [List.set_append_right _ _ (by simp), List.set_append_right _ _ (by simp)]
      simp
    have e : (b :: l).reverse ++ a :: S = l.reverse ++ b :: a :: S := by simp
    rw [e, List.length_cons, sinkE, h1, h2]
    simp only
    rw [rinsE]
    split
    · rw [h3, sink_rins a l (b :: S)]
      simp
    · simp
theorem ins_srt (es : List EntS) : ∀ m : Nat, m ≤ es.length → insE m es = (srtE (es.take m)).reverse ++ es.drop m ∧ (srtE (es.take m)).length = m
  | 0, _ => ⟨by simp [insE, srtE], rfl⟩
  | m + 1, hm => by
    obtain ⟨h1, h2⟩ := ins_srt es m (by omega)
    have hx : es[m]? = some es[m] := List.getElem?_eq_getElem (by omega)
    have hs : srtE (es.take (m + 1)) = rinsE es[m] (srtE (es.take m)) := by
      unfold srtE
      rw [List.take_add_one, hx, List.foldl_append]
      rfl
    refine ⟨?_, by rw [hs, rinsE_len, h2]⟩
    rw [insE, h1, List.drop_eq_getElem_cons (by omega), hs]
    have := sink_rins es[m] (srtE (es.take m)) (es.drop (m + 1))
    rw [h2] at this
    exact this
theorem rins_mem (a : EntS) : ∀ (l : List EntS) (e : EntS), e ∈ rinsE a l ↔ e = a ∨ e ∈ l
  | [], e => by simp [rinsE]
  | b :: l, e => by
    rw [rinsE]
    split
    · rw [List.mem_cons, rins_mem a l e, List.mem_cons]
      constructor
      · rintro (h | h | h)
        · exact .inr (.inl h)
        · exact .inl h
        · exact .inr (.inr h)
      · rintro (h | h | h)
        · exact .inr (.inl h)
        · exact .inl h
        · exact .inr (.inr h)
    · rw [List.mem_cons]
theorem srt_mem (es : List EntS) : ∀ e : EntS, e ∈ srtE es ↔ e ∈ es := by
  have key : ∀ (es acc : List EntS) (e : EntS), e ∈ es.foldl (fun acc a => rinsE a acc) acc ↔ e ∈ acc ∨ e ∈ es := by
    intro es
    induction es with
    | nil => intro acc e; simp
    | cons a es ih =>
      intro acc e
      rw [List.foldl_cons, ih, rins_mem, List.mem_cons]
      constructor
      · rintro ((h | h) | h)
        · exact .inr (.inl h)
        · exact .inl h
        · exact .inr (.inr h)
      · rintro (h | h | h)
        · exact .inl (.inr h)
        · exact .inl (.inl h)
        · exact .inr h
  intro e
  rw [srtE, key]
  simp
def descE (l : List EntS) : Prop := l.Pairwise fun x y => y.object < x.object
theorem rins_desc (a : EntS) : ∀ l : List EntS, descE l → (∀ e ∈ l, e.object ≠ a.object) → descE (rinsE a l)
  | [], _, _ => by simp [rinsE, descE]
  | b :: l, h, hne => by
    unfold descE at h
    rw [List.pairwise_cons] at h
    rw [rinsE]
    have hb := hne b (List.mem_cons_self ..)
    split
    · rename_i hlt
      unfold descE
      rw [List.pairwise_cons]
      refine ⟨fun e he => ?_, rins_desc a l h.2 fun e he => hne e (List.mem_cons_of_mem _ he)⟩
      rcases (rins_mem a l e).1 he with rfl | he
      · exact hlt
      · exact h.1 e he
    · rename_i hge
      unfold descE
      rw [List.pairwise_cons, List.pairwise_cons]
      refine ⟨fun e he => ?_, h⟩
      rcases List.mem_cons.1 he with rfl | he
      · omega
      · have := h.1 e he
        omega
/-- Each object once. -/
def onceE (es : List EntS) : Prop := es.Pairwise fun x y => x.object ≠ y.object
theorem srt_desc (es : List EntS) (h : onceE es) : descE (srtE es) := by
  have key : ∀ (es acc : List EntS), descE acc → (acc ++ es).Pairwise (fun x y => x.object ≠ y.object) → descE (es.foldl (fun acc a => rinsE a acc) acc) := by
    intro es
    induction es with
    | nil => intro acc h _; exact h
    | cons a es ih =>
      intro acc h ho
      rw [List.foldl_cons]
      rw [List.pairwise_append, List.pairwise_cons] at ho
      obtain ⟨o1, ⟨o2, o3⟩, o4⟩ := ho
      refine ih _ (rins_desc a acc h fun e he => o4 e he a (List.mem_cons_self ..)) ?_
      rw [List.pairwise_append]
      refine ⟨?_, o3, fun x hx y hy => ?_⟩
      · have hd := rins_desc a acc h fun e he => o4 e he a (List.mem_cons_self ..)
        exact hd.imp fun h => by omega
      · rcases (rins_mem a acc x).1 hx with rfl | hx
        · exact o2 y hy
        · exact o4 x hx y (List.mem_cons_of_mem _ hy)
  exact key es [] (by simp [descE]) (by simpa [onceE] using h)
theorem asc_ext : ∀ xs ys : List EntS, xs.Pairwise (fun x y => x.object < y.object) → ys.Pairwise (fun x y => x.object < y.object) → (∀ e, e ∈ xs ↔ e ∈ ys) → xs = ys
  | [], [], _, _, _ => rfl
  | [], y :: ys, _, _, h => by have := (h y).2 (List.mem_cons_self ..); simp at this
  | x :: xs, [], _, _, h => by have := (h x).1 (List.mem_cons_self ..); simp at this
  | x :: xs, y :: ys, h1, h2, h => by
    rw [List.pairwise_cons] at h1 h2
    have hxy : x = y := by
      rcases List.mem_cons.1 ((h x).1 (List.mem_cons_self ..)) with h3 | h3
      · exact h3
      · rcases List.mem_cons.1 ((h y).2 (List.mem_cons_self ..)) with h4 | h4
        · exact h4.symm
        · have a1 := h2.1 x h3
          have a2 := h1.1 y h4
          omega
    subst hxy
    have := asc_ext xs ys h1.2 h2.2 fun e => by
      have he := h e
      simp only [List.mem_cons] at he
      constructor
      · intro hx
        rcases he.1 (.inr hx) with rfl | h5
        · have := h1.1 e hx; omega
        · exact h5
      · intro hy
        rcases he.2 (.inr hy) with rfl | h5
        · have := h2.1 e hy; omega
        · exact h5
    rw [this]
/-- The entries by their objects, below a number. -/
def atObj (es : List EntS) (o : Nat) : Option EntS := es.find? fun e => e.object == (o : Int)
def byObj (es : List EntS) (k : Nat) : List EntS := (List.range k).filterMap (atObj es)
theorem byObj_some {es : List EntS} {k : Nat} {e : EntS} (h : atObj es k = some e) : byObj es (k + 1) = byObj es k ++ [e] := by
  unfold byObj
  rw [List.range_succ, List.filterMap_append]
  simp [h]
theorem byObj_none {es : List EntS} {k : Nat} (h : atObj es k = none) : byObj es (k + 1) = byObj es k := by
  unfold byObj
  rw [List.range_succ, List.filterMap_append]
  simp [h]
theorem byObj_len (es : List EntS) (k : Nat) : (byObj es k).length ≤ k := by
  unfold byObj
  exact Nat.le_trans (List.length_filterMap_le _ _) (by simp)
theorem byObj_mem {es : List EntS} {k : Nat} {e : EntS} (h : e ∈ byObj es k) : e ∈ es ∧ 0 ≤ e.object ∧ e.object < k := by
  unfold byObj at h
  rw [List.mem_filterMap] at h
  obtain ⟨o, ho, he⟩ := h
  rw [List.mem_range] at ho
  have h1 := List.mem_of_find?_eq_some he
  have h2 := List.find?_some he
  simp only [beq_iff_eq] at h2
  exact ⟨h1, by omega, by omega⟩
theorem byObj_asc (es : List EntS) : ∀ k : Nat, (byObj es k).Pairwise fun x y => x.object < y.object
  | 0 => by simp [byObj]
  | k + 1 => by
    cases h : atObj es k with
    | none => rw [byObj_none h]; exact byObj_asc es k
    | some e =>
      rw [byObj_some h, List.pairwise_append]
      have h2 := List.find?_some h
      simp only [beq_iff_eq] at h2
      refine ⟨byObj_asc es k, by simp, fun x hx y hy => ?_⟩
      rw [List.mem_singleton.1 hy, h2]
      exact (byObj_mem hx).2.2
theorem once_of {es : List EntS} (h : OpenP es) : onceE es := by
  unfold onceE
  rw [List.pairwise_iff_getElem]
  intro i j hi hj hij
  exact (h.1 j es[j] (List.getElem?_eq_getElem hj)).2 i es[i] hij (List.getElem?_eq_getElem hi)
theorem obj_of {es : List EntS} (h : OpenP es) : objOk es := fun e he => by
  obtain ⟨i, hi⟩ := List.getElem?_of_mem he
  have := (h.1 i e hi).1
  simp only [EntS.ok, Bool.and_eq_true] at this
  have h2 := this.1.1.1.1
  simp [inB] at h2
  exact h2
theorem sorted_eq {es : List EntS} (h : OpenP es) : insE es.length es = byObj es 8 := by
  have h1 := (ins_srt es es.length (Nat.le_refl _)).1
  rw [List.take_length, List.drop_length, List.append_nil] at h1
  rw [h1]
  have hd := srt_desc es (once_of h)
  refine asc_ext _ _ ?_ (byObj_asc es 8) fun e => ?_
  · rw [List.pairwise_reverse]; exact hd
  · rw [List.mem_reverse, srt_mem]
    refine ⟨fun he => ?_, fun he => (byObj_mem he).1⟩
    have ho := obj_of h e he
    obtain ⟨o, hoe⟩ : ∃ o : Nat, e.object = o := ⟨e.object.toNat, by omega⟩
    unfold byObj
    rw [List.mem_filterMap]
    refine ⟨o, by rw [List.mem_range]; omega, ?_⟩
    unfold atObj
    obtain ⟨f, hf⟩ : ∃ f, es.find? (fun x => x.object == (o : Int)) = some f := by
      cases hx : es.find? (fun x => x.object == (o : Int)) with
      | some f => exact ⟨f, rfl⟩
      | none =>
        have := List.find?_eq_none.1 hx e he
        simp [hoe] at this
    have f1 := List.mem_of_find?_eq_some hf
    have f2 := List.find?_some hf
    simp only [beq_iff_eq] at f2
    rw [hf]
    by_cases hfe : f = e
    · rw [hfe]
    · exfalso
      obtain ⟨i, hi⟩ := List.getElem?_of_mem f1
      obtain ⟨j, hj⟩ := List.getElem?_of_mem he
      rcases Nat.lt_trichotomy i j with h3 | h3 | h3
      · exact (h.1 j e hj).2 i f h3 hi (by omega)
      · subst h3
        rw [hi] at hj
        exact hfe (Option.some.inj hj)
      · exact (h.1 i f hi).2 j e h3 hj (by omega)
/-! ### MakeDesc -/
theorem bP_of {p : Prop} (h : bP p = true) : p := by
  unfold bP at h
  simpa using h
noncomputable def makeOk (o : Int) (es : List EntS) : Bool := inB o 0 3 && bP (OpenP es) && !(es.length == 0)
noncomputable def makeL (o : Int) (es : List EntS) : DescS × Bool := if makeOk o es = true then (⟨o, 0, byObj es 8⟩, true) else (⟨0, 0, []⟩, false)
theorem implMakeDesc_ok (o : Int) (es : List EntS) (r : DescS × Bool) (hr : makeL o es = r) (hl : es.length ≤ 1048576) :
    SatP Try.prog 11 [.int .i64 o, .fr 70 (rowsE es)] (.tup [.agg [.int .i64 r.1.owner, .int .i64 r.1.status, .rf 0 r.1.entries.length], .bool r.2]) [(70, rowsE r.1.entries)] := by
  have h1 := isThread_ok o
  have h2 := implOpenOk_ok es hl
  have h3 := ownEntries_ok es (by omega)
  refine satP_of_body hT Try.func11 (by kernel_rfl) rfl (rs := [.cell 4 40, .tmp 5]) rfl (n := 29) rfl (by simp) rfl (by simpa using rowsE_pur _) fun E hE => ?_
  unfold St.init
  rcases (Bool.eq_false_or_eq_true (makeOk o es)).symm with hp | hp
  · rw [makeL, if_neg (by rw [hp]; exact fun h => nomatch h)] at hr
    subst hr
    have hbad : inB o 0 3 = true → bP (OpenP es) = true → (es.length : Int) = 0 := fun a b => by
      have := hp
      simp [makeOk, a, b] at this
      simp [this]
    generalize inB o 0 3 = A at *
    generalize bP (OpenP es) = B at *
    have F := @rowsE_len
    repeat' first
      | refine wSq fun _ hK => ?_
      | refine wRg ?_
      | refine wDr ?_
      | refine VWP_block ?_
      | refine VWP_skip ?_
      | refine VWP_exit ?_
      | refine VWP_ret ?_
      | (refine hK _ ?_; clear hK)
      | (clear hK; refine hK _ ?_; clear hK)
      | (clear hK; clear hK; refine hK _ ?_; clear hK)
      | (clear hK; clear hK; clear hK; refine hK _ ?_; clear hK)
      | (simp only [wHb, reduceCtorEq] at hb <;> try (exfalso; omega))
      | refine wCd (fun hb => ?_) fun hb => ?_
      | refine wCa (c := by first | exact h1 | exact h2 | exact h3) (k := ?_)
      | simp only [go_sem, Nat.reduceLT, Nat.reduceLeDiff, Nat.reduceEqDiff, Nat.reduceAdd, Nat.reduceMul, Nat.reduceSub, reduceCtorEq, F]
      | simp (disch := omega) only [decide_eq_true_eq, if_pos, if_neg, wrap_id, le_maxLen, and_true, true_and, if_true, ite_true]
      | refine wGd (fun hb => ?_) fun hb => ?_
    all_goals first
      | (exfalso; simp_all; done)
      | (exfalso; have := hbad (by simp_all) (by simp_all); simp_all; omega)
      | skip
    all_goals refine ret_mk (vs := _) (acc := _) (by simp only [go_sem, Nat.reduceLT, Nat.reduceLeDiff, Nat.reduceEqDiff, Nat.reduceAdd, Nat.reduceMul, Nat.reduceSub, reduceCtorEq, vres]; rfl) (by simp only [go_sem, Nat.reduceLT, Nat.reduceLeDiff, Nat.reduceEqDiff, Nat.reduceAdd, Nat.reduceMul, Nat.reduceSub, reduceCtorEq, wrap, exV, exAs, exA, exCs, exC]; rfl) (by simp) (by simp [rowsE]) (by simp [rowsE_pur])
  · rw [makeL, if_pos hp] at hr
    have hp2 : (inB o 0 3 = true ∧ bP (OpenP es) = true) ∧ ¬ es.length = 0 := by simpa [makeOk] using hp
    obtain ⟨⟨q1, q2⟩, q3⟩ := hp2
    have hO := bP_of q2
    rw [q1] at h1
    rw [q2] at h2
    have hz : ((es.length : Int) == 0) = false := by simpa using q3
    have hs := sortFunc_ok es (by have := hO.2; omega) (obj_of hO)
    rw [sorted_eq hO] at hs
    have hlen : (byObj es 8).length = es.length := by rw [← sorted_eq hO, insE_len]
    have htk := rowsE_take (byObj es 8)
    rw [hlen] at htk
    subst hr
    have F := And.intro @rowsE_len (And.intro @rowsE_pur hz)
    repeat' first
      | refine wSq fun _ hK => ?_
      | refine wRg ?_
      | refine wDr ?_
      | refine VWP_block ?_
      | refine VWP_skip ?_
      | refine VWP_exit ?_
      | refine VWP_ret ?_
      | (refine hK _ ?_; clear hK)
      | (clear hK; refine hK _ ?_; clear hK)
      | (clear hK; clear hK; refine hK _ ?_; clear hK)
      | (clear hK; clear hK; clear hK; refine hK _ ?_; clear hK)
      | (simp only [wHb, reduceCtorEq] at hb <;> try (exfalso; omega))
      | refine wCd (fun hb => ?_) fun hb => ?_
      | refine wCa (c := by first | exact h1 | exact h2 | exact h3) (k := ?_)
      | refine wOw [1] (c := by exact hs) (k := ?_)
      | simp only [go_sem, Nat.reduceLT, Nat.reduceLeDiff, Nat.reduceEqDiff, Nat.reduceAdd, Nat.reduceMul, Nat.reduceSub, reduceCtorEq, F]
      | simp (disch := omega) only [decide_eq_true_eq, if_pos, if_neg, wrap_id, le_maxLen, and_true, true_and, if_true, ite_true]
      | refine wGd (fun hb => ?_) fun hb => ?_
    refine ret_mk (vs := _) (acc := _) (by simp only [go_sem, Nat.reduceLT, Nat.reduceLeDiff, Nat.reduceEqDiff, Nat.reduceAdd, Nat.reduceMul, Nat.reduceSub, reduceCtorEq, vres]; rfl) (by simp only [go_sem, Nat.reduceLT, Nat.reduceLeDiff, Nat.reduceEqDiff, Nat.reduceAdd, Nat.reduceMul, Nat.reduceSub, reduceCtorEq, wrap, exV, exAs, exA, exCs, exC, rowsE_len, hlen, htk, Nat.le_refl]; rfl) (by simp) (by simp) (by simp [rowsE_pur])
theorem specMakeDesc_ok (o : Int) (es : List EntS) (r : DescS × Bool) (hr : makeL o es = r) (hl : es.length ≤ 1048576) :
    SatP Try.prog 55 [.int .i64 o, .fr 70 (rowsE es)] (.tup [.agg [.int .i64 r.1.owner, .int .i64 r.1.status, .rf 0 r.1.entries.length], .bool r.2]) [(70, rowsE r.1.entries)] := by
  have h1 := l1In_ok o 0 3
  have h2 := specOpen_ok es hl
  refine satP_of_body hT Try.func55 (by kernel_rfl) rfl (rs := [.cell 4 40, .tmp 5]) rfl (n := 44) rfl (by simp) rfl (by simpa using rowsE_pur _) fun E hE => ?_
  unfold St.init
  rcases (Bool.eq_false_or_eq_true (makeOk o es)).symm with hp | hp
  · rw [makeL, if_neg (by rw [hp]; exact fun h => nomatch h)] at hr
    subst hr
    have hbad : inB o 0 3 = true → bP (OpenP es) = true → (es.length : Int) = 0 := fun a b => by
      have := hp
      simp [makeOk, a, b] at this
      simp [this]
    generalize inB o 0 3 = A at *
    generalize bP (OpenP es) = B at *
    have F := @rowsE_len
    repeat' first
      | refine wSq fun _ hK => ?_
      | refine wRg ?_
      | refine wDr ?_
      | refine VWP_block ?_
      | refine VWP_skip ?_
      | refine VWP_exit ?_
      | refine VWP_ret ?_
      | (refine hK _ ?_; clear hK)
      | (clear hK; refine hK _ ?_; clear hK)
      | (clear hK; clear hK; refine hK _ ?_; clear hK)
      | (clear hK; clear hK; clear hK; refine hK _ ?_; clear hK)
      | (simp only [wHb, reduceCtorEq] at hb <;> try (exfalso; omega))
      | refine wCd (fun hb => ?_) fun hb => ?_
      | refine wCa (c := by first | exact h1 | exact h2) (k := ?_)
      | simp only [go_sem, Nat.reduceLT, Nat.reduceLeDiff, Nat.reduceEqDiff, Nat.reduceAdd, Nat.reduceMul, Nat.reduceSub, reduceCtorEq, F]
      | simp (disch := omega) only [decide_eq_true_eq, if_pos, if_neg, wrap_id, le_maxLen, and_true, true_and, if_true, ite_true]
      | refine wGd (fun hb => ?_) fun hb => ?_
    all_goals first
      | (exfalso; simp_all; done)
      | (exfalso; have := hbad (by simp_all) (by simp_all); simp_all; omega)
      | skip
    all_goals refine ret_mk (vs := _) (acc := _) (by simp only [go_sem, Nat.reduceLT, Nat.reduceLeDiff, Nat.reduceEqDiff, Nat.reduceAdd, Nat.reduceMul, Nat.reduceSub, reduceCtorEq, vres]; rfl) (by simp only [go_sem, Nat.reduceLT, Nat.reduceLeDiff, Nat.reduceEqDiff, Nat.reduceAdd, Nat.reduceMul, Nat.reduceSub, reduceCtorEq, wrap, exV, exAs, exA, exCs, exC]; rfl) (by simp) (by simp [rowsE]) (by simp [rowsE_pur])
  · rw [makeL, if_pos hp] at hr
    have hp2 : (inB o 0 3 = true ∧ bP (OpenP es) = true) ∧ ¬ es.length = 0 := by simpa [makeOk] using hp
    obtain ⟨⟨q1, q2⟩, q3⟩ := hp2
    have hO := bP_of q2
    rw [q1] at h1
    rw [q2] at h2
    have hz : ((es.length : Int) == 0) = false := by simpa using q3
    subst hr
    have F := And.intro @rowsE_len hz
    repeat' first
      | refine wSq fun _ hK => ?_
      | refine wRg ?_
      | refine wDr ?_
      | refine VWP_block ?_
      | refine VWP_skip ?_
      | refine VWP_exit ?_
      | refine VWP_ret ?_
      | (refine hK _ ?_; clear hK)
      | (clear hK; refine hK _ ?_; clear hK)
      | (clear hK; clear hK; refine hK _ ?_; clear hK)
      | (clear hK; clear hK; clear hK; refine hK _ ?_; clear hK)
      | (simp only [wHb, reduceCtorEq] at hb <;> try (exfalso; omega))
      | refine wCd (fun hb => ?_) fun hb => ?_
      | refine wCa (c := by first | exact h1 | exact h2) (k := ?_)
      | simp only [go_sem, Nat.reduceLT, Nat.reduceLeDiff, Nat.reduceEqDiff, Nat.reduceAdd, Nat.reduceMul, Nat.reduceSub, reduceCtorEq, F]
      | simp (disch := omega) only [decide_eq_true_eq, if_pos, if_neg, wrap_id, le_maxLen, and_true, true_and, if_true, ite_true]
      | refine wGd (fun hb => ?_) fun hb => ?_
    clear F
    refine VWP_loopN hE (X := Nat) (fun k => [(4, .bp 0 0), (6, .bp 1 0), (1, .fr 70 (rowsE es)), (7, .int .i64 k)]) (fun k => if byObj es k = [] then [(0, .box [.int .i64 0, .int .i64 0, .nl 70]), (1, .box [.int .i64 o, .int .i64 0, .nl 70])] else [(0, .box [.int .i64 0, .int .i64 0, .nl 70]), (1, .box [.int .i64 o, .int .i64 0, .rf 2 (byObj es k).length]), (2, .root 70 (rowsE (byObj es k)))]) (fun k => 8 - k)
      (fun k => k ≤ 8) [0, 1, 2] 0 (by simp) (by decide) (by decide) (by simp [updV, renV, renA, renC]) (by simp [updH, renH_at, renE, renC, byObj]) ?_
    intro k hk
    have hw := wrap_id (x := (k : Int) + 1) (by omega)
    have hbl := byObj_len es k
    rcases Nat.lt_or_ge k 8 with hlt | hge
    · have hlt2 : (k : Int) < 8 := by omega
      have h4 := specOpened_ok es k hl
      rw [openedI, if_pos q2] at h4
      rcases placeE_cases es k with ⟨p1, p2⟩ | ⟨i, e, p1, p2, p3, p4⟩
      · have hnone : atObj es k = none := List.find?_eq_none.2 fun e he => by
          obtain ⟨j, hj⟩ := List.getElem?_of_mem he
          simpa using p2 j e hj
        have hsame := byObj_none hnone
        rw [p1] at h4
        have hneg : ¬ (0 : Int) ≤ -1 := by omega
        by_cases hnil : byObj es k = []
        · rw [if_pos hnil]
          have F := And.intro @rowsE_len (And.intro hlt2 hneg)
          repeat' first
            | refine wSq fun _ hK => ?_
            | refine wRg ?_
            | refine wDr ?_
            | refine VWP_block ?_
            | refine VWP_skip ?_
            | refine VWP_exit ?_
            | refine VWP_ret ?_
            | (refine hK _ ?_; clear hK)
            | (clear hK; refine hK _ ?_; clear hK)
            | (clear hK; clear hK; refine hK _ ?_; clear hK)
            | (clear hK; clear hK; clear hK; refine hK _ ?_; clear hK)
            | (simp only [wHb, reduceCtorEq] at hb <;> try (exfalso; omega))
            | refine wCd (fun hb => ?_) fun hb => ?_
            | refine wCa (c := by first | exact h4) (k := ?_)
            | simp only [go_sem, Nat.reduceLT, Nat.reduceLeDiff, Nat.reduceEqDiff, Nat.reduceAdd, Nat.reduceMul, Nat.reduceSub, reduceCtorEq, F]
            | simp (disch := omega) only [decide_eq_true_eq, if_pos, if_neg, wrap_id, le_maxLen, and_true, true_and, if_true, ite_true]
            | refine wGd (fun hb => ?_) fun hb => ?_
          exact nextN [] rfl [0, 1, 2] (k + 1) rfl (by decide) (by decide) hlt (by omega) (by simp [updV, tmL, renV, renA, renC, hw]) (by rw [hsame, if_pos hnil]; simp [updH, hpL, renH_at, renE, renC])
        · rw [if_neg hnil]
          have F := And.intro @rowsE_len (And.intro hlt2 hneg)
          repeat' first
            | refine wSq fun _ hK => ?_
            | refine wRg ?_
            | refine wDr ?_
            | refine VWP_block ?_
            | refine VWP_skip ?_
            | refine VWP_exit ?_
            | refine VWP_ret ?_
            | (refine hK _ ?_; clear hK)
            | (clear hK; refine hK _ ?_; clear hK)
            | (clear hK; clear hK; refine hK _ ?_; clear hK)
            | (clear hK; clear hK; clear hK; refine hK _ ?_; clear hK)
            | (simp only [wHb, reduceCtorEq] at hb <;> try (exfalso; omega))
            | refine wCd (fun hb => ?_) fun hb => ?_
            | refine wCa (c := by first | exact h4) (k := ?_)
            | simp only [go_sem, Nat.reduceLT, Nat.reduceLeDiff, Nat.reduceEqDiff, Nat.reduceAdd, Nat.reduceMul, Nat.reduceSub, reduceCtorEq, F]
            | simp (disch := omega) only [decide_eq_true_eq, if_pos, if_neg, wrap_id, le_maxLen, and_true, true_and, if_true, ite_true]
            | refine wGd (fun hb => ?_) fun hb => ?_
          exact nextN [] rfl [0, 1, 2] (k + 1) rfl (by decide) (by decide) hlt (by omega) (by simp [updV, tmL, renV, renA, renC, hw]) (by rw [hsame, if_neg hnil]; simp [updH, hpL, renH_at, renE, renC, rowsE_pur])
      · have hsome : atObj es k = some e := by
          unfold atObj
          rw [List.find?_eq_some_iff_getElem]
          obtain ⟨hil, hie⟩ := List.getElem?_eq_some_iff.1 p2
          exact ⟨by simpa using p3, i, hil, hie, fun j hj => by simpa using p4 j es[j] hj (List.getElem?_eq_getElem (by omega))⟩
        have happ := byObj_some hsome
        have hne : byObj es (k + 1) ≠ [] := by rw [happ]; simp
        have hre := rowsE_at p2
        have hil := (List.getElem?_eq_some_iff.1 p2).1
        have hi0 : (0 : Int) ≤ ((i : Nat) : Int) := by omega
        rw [p1] at h4
        by_cases hnil : byObj es k = []
        · rw [if_pos hnil]
          have F := And.intro @rowsE_len (And.intro hlt2 (And.intro hi0 (And.intro hil hre)))
          repeat' first
            | refine wSq fun _ hK => ?_
            | refine wRg ?_
            | refine wDr ?_
            | refine VWP_block ?_
            | refine VWP_skip ?_
            | refine VWP_exit ?_
            | refine VWP_ret ?_
            | (refine hK _ ?_; clear hK)
            | (clear hK; refine hK _ ?_; clear hK)
            | (clear hK; clear hK; refine hK _ ?_; clear hK)
            | (clear hK; clear hK; clear hK; refine hK _ ?_; clear hK)
            | (simp only [wHb, reduceCtorEq] at hb <;> try (exfalso; omega))
            | refine wCd (fun hb => ?_) fun hb => ?_
            | refine wCa (c := by first | exact h4) (k := ?_)
            | simp only [go_sem, Nat.reduceLT, Nat.reduceLeDiff, Nat.reduceEqDiff, Nat.reduceAdd, Nat.reduceMul, Nat.reduceSub, reduceCtorEq, F]
            | simp (disch := omega) only [decide_eq_true_eq, if_pos, if_neg, wrap_id, le_maxLen, and_true, true_and, if_true, ite_true]
            | refine wGd (fun hb => ?_) fun hb => ?_
          have hone : rowsE (byObj es (k + 1)) = [[.int .i64 e.object, .int .i64 e.version, .int .i64 e.old, .int .i64 e.new, .bool e.write]] := by rw [happ, hnil]; rfl
          have hln : (byObj es (k + 1)).length = 1 := by rw [happ, hnil]; rfl
          have hpu := rowsE_pur (byObj es (k + 1))
          exact nextN [] rfl [0, 1, 452] (k + 1) rfl (by decide) (by decide) hlt (by omega) (by simp [updV, tmL, renV, renA, renC, hw]) (by rw [if_neg hne, hln]; rw [hone] at hpu ⊢; simp [updH, hpL, renH_at, renE, renC, hpu])
        · rw [if_neg hnil]
          have htk := rowsE_take (byObj es k)
          have F := And.intro @rowsE_len (And.intro htk (And.intro hlt2 (And.intro hi0 (And.intro hil (And.intro hre @Nat.le_refl)))))
          repeat' first
            | refine wSq fun _ hK => ?_
            | refine wRg ?_
            | refine wDr ?_
            | refine VWP_block ?_
            | refine VWP_skip ?_
            | refine VWP_exit ?_
            | refine VWP_ret ?_
            | (refine hK _ ?_; clear hK)
            | (clear hK; refine hK _ ?_; clear hK)
            | (clear hK; clear hK; refine hK _ ?_; clear hK)
            | (clear hK; clear hK; clear hK; refine hK _ ?_; clear hK)
            | (simp only [wHb, reduceCtorEq] at hb <;> try (exfalso; omega))
            | refine wCd (fun hb => ?_) fun hb => ?_
            | refine wCa (c := by first | exact h4) (k := ?_)
            | simp only [go_sem, Nat.reduceLT, Nat.reduceLeDiff, Nat.reduceEqDiff, Nat.reduceAdd, Nat.reduceMul, Nat.reduceSub, reduceCtorEq, F]
            | simp (disch := omega) only [decide_eq_true_eq, if_pos, if_neg, wrap_id, le_maxLen, and_true, true_and, if_true, ite_true]
            | refine wGd (fun hb => ?_) fun hb => ?_
          have hone : rowsE (byObj es (k + 1)) = rowsE (byObj es k) ++ [[.int .i64 e.object, .int .i64 e.version, .int .i64 e.old, .int .i64 e.new, .bool e.write]] := by rw [happ]; simp [rowsE, EntS.enc]
          have hln : (byObj es (k + 1)).length = (byObj es k).length + 1 := by rw [happ]; simp
          have hpu := rowsE_pur (byObj es (k + 1))
          exact nextN [] rfl [0, 1, 451] (k + 1) rfl (by decide) (by decide) hlt (by omega) (by simp [updV, tmL, renV, renA, renC, hw]) (by rw [if_neg hne, hln]; rw [hone] at hpu ⊢; simp [updH, hpL, renH_at, renE, renC, hpu])
    · obtain rfl : k = 8 := by omega
      have hge2 : ¬ (((8 : Nat) : Int) < 8) := by omega
      have htk := rowsE_take (byObj es 8)
      by_cases hnil : byObj es 8 = []
      · rw [if_pos hnil]
        have F := hge2
        repeat' first
          | refine wSq fun _ hK => ?_
          | refine wRg ?_
          | refine wDr ?_
          | refine VWP_block ?_
          | refine VWP_skip ?_
          | refine VWP_exit ?_
          | refine VWP_ret ?_
          | (refine hK _ ?_; clear hK)
          | (clear hK; refine hK _ ?_; clear hK)
          | (clear hK; clear hK; refine hK _ ?_; clear hK)
          | (clear hK; clear hK; clear hK; refine hK _ ?_; clear hK)
          | (simp only [wHb, reduceCtorEq] at hb <;> try (exfalso; omega))
          | refine wCd (fun hb => ?_) fun hb => ?_
          | simp only [go_sem, Nat.reduceLT, Nat.reduceLeDiff, Nat.reduceEqDiff, Nat.reduceAdd, Nat.reduceMul, Nat.reduceSub, reduceCtorEq, F]
          | simp (disch := omega) only [decide_eq_true_eq, if_pos, if_neg, wrap_id, le_maxLen, and_true, true_and, if_true, ite_true]
          | refine wGd (fun hb => ?_) fun hb => ?_
        refine ret_mk (vs := _) (acc := _) (by simp only [go_sem, Nat.reduceLT, Nat.reduceLeDiff, Nat.reduceEqDiff, Nat.reduceAdd, Nat.reduceMul, Nat.reduceSub, reduceCtorEq, vres]; rfl) (by simp only [go_sem, Nat.reduceLT, Nat.reduceLeDiff, Nat.reduceEqDiff, Nat.reduceAdd, Nat.reduceMul, Nat.reduceSub, reduceCtorEq, wrap, exV, exAs, exA, exCs, exC, hnil, List.length_nil]; rfl) (by simp) (by simp [hnil, rowsE]) (by simp [rowsE_pur])
      · rw [if_neg hnil]
        have F := hge2
        repeat' first
          | refine wSq fun _ hK => ?_
          | refine wRg ?_
          | refine wDr ?_
          | refine VWP_block ?_
          | refine VWP_skip ?_
          | refine VWP_exit ?_
          | refine VWP_ret ?_
          | (refine hK _ ?_; clear hK)
          | (clear hK; refine hK _ ?_; clear hK)
          | (clear hK; clear hK; refine hK _ ?_; clear hK)
          | (clear hK; clear hK; clear hK; refine hK _ ?_; clear hK)
          | (simp only [wHb, reduceCtorEq] at hb <;> try (exfalso; omega))
          | refine wCd (fun hb => ?_) fun hb => ?_
          | simp only [go_sem, Nat.reduceLT, Nat.reduceLeDiff, Nat.reduceEqDiff, Nat.reduceAdd, Nat.reduceMul, Nat.reduceSub, reduceCtorEq, F]
          | simp (disch := omega) only [decide_eq_true_eq, if_pos, if_neg, wrap_id, le_maxLen, and_true, true_and, if_true, ite_true]
          | refine wGd (fun hb => ?_) fun hb => ?_
        refine ret_mk (vs := _) (acc := _) (by simp only [go_sem, Nat.reduceLT, Nat.reduceLeDiff, Nat.reduceEqDiff, Nat.reduceAdd, Nat.reduceMul, Nat.reduceSub, reduceCtorEq, vres]; rfl) (by simp only [go_sem, Nat.reduceLT, Nat.reduceLeDiff, Nat.reduceEqDiff, Nat.reduceAdd, Nat.reduceMul, Nat.reduceSub, reduceCtorEq, wrap, exV, exAs, exA, exCs, exC, rowsE_len, htk, Nat.le_refl]; rfl) (by simp) (by simp) (by simp [rowsE_pur])
end Go.Proofs.Ytchkbgekmoileaa
