/- What both SetNew give. -/
import Derived.Test.YtchkbgekmoileaaDJ
namespace Go.Proofs.Ytchkbgekmoileaa
open Go Go.RowKit
set_option linter.unusedVariables false
set_option linter.unusedSimpArgs false
set_option maxRecDepth 100000
set_option maxHeartbeats 4000000
attribute [local irreducible] VWP vops vdraw contV contD CallK Guard GuardV NextL Puts Runs RetOK RetQ RetO RetQO thenQ blockQ

/-- What comes of a value that is to be written. -/
noncomputable def setNewL (es : List EntS) (o v : Int) : List EntS × Bool :=
  match es.findIdx? (isAt o) with
  | some k => match es[k]? with
    | some e => if bP (OpenP es) = true ∧ inB v (-1000000000) 1000000000 = true then (es.set k ⟨e.object, e.version, e.old, v, true⟩, true) else (es, false)
    | none => (es, false)
  | none => (es, false)
theorem setNewL_len (es : List EntS) (o v : Int) : (setNewL es o v).1.length = es.length := by
  unfold setNewL
  repeat' split
  all_goals simp
theorem rowsE_set (es : List EntS) (k : Nat) (e : EntS) : (rowsE es).set k [.int .i64 e.object, .int .i64 e.version, .int .i64 e.old, .int .i64 e.new, .bool e.write] = rowsE (es.set k e) := by simp [rowsE, List.map_set, EntS.enc]
theorem placeE_find (es : List EntS) (o : Int) : (es.findIdx? (isAt o) = none ∧ placeE es o = -1) ∨ ∃ (k : Nat) (e : EntS), es.findIdx? (isAt o) = some k ∧ placeE es o = k ∧ es[k]? = some e := by
  cases h : es.findIdx? (isAt o) with
  | none => exact .inl ⟨rfl, by simp [placeE, firstI, h]⟩
  | some k =>
    right
    have h2 := h
    rw [List.findIdx?_eq_some_iff_getElem] at h2
    obtain ⟨h1, _⟩ := h2
    exact ⟨k, es[k], rfl, by simp [placeE, firstI, h], List.getElem?_eq_getElem h1⟩

theorem specSetNew_ok (es : List EntS) (o v : Int) (r : List EntS × Bool) (hr : setNewL es o v = r) (hl : es.length ≤ 1048576) : SatP Try.prog 54 [.fr 70 (rowsE es), .int .i64 o, .int .i64 v]
    (.tup [.rf 0 r.1.length, .bool r.2]) [(70, rowsE r.1)] := by
  refine satP_of_body hT Try.func54 (by kernel_rfl) rfl (rs := [.tmp 6, .tmp 7]) rfl (n := 33) rfl (by simp) rfl (by simpa using rowsE_pur _) fun E hE => ?_
  unfold St.init
  rcases placeE_find es o with ⟨hf, hp⟩ | ⟨k, e, hf, hp, he⟩
  · have ho : openedI es o = -1 := by rw [openedI, hp]; split <;> rfl
    have h : setNewL es o v = (es, false) := by simp [setNewL, hf]
    rw [h] at hr
    subst hr
    have F := And.intro @rowsE_len ho
    repeat' first
      | refine wSq fun _ hK => ?_
      | refine wRg ?_
      | refine wDr ?_
      | refine VWP_block ?_
      | refine VWP_skip ?_
      | refine VWP_exit ?_
      | refine VWP_ret ?_
      | (refine hK _ ?_; clear hK)
      | (clear hK; refine hK _ ?_; clear hK)
      | (clear hK; clear hK; refine hK _ ?_; clear hK)
      | (clear hK; clear hK; clear hK; refine hK _ ?_; clear hK)
      | (simp only [wHb, reduceCtorEq] at hb <;> try (exfalso; omega))
      | refine wCd (fun hb => ?_) fun hb => ?_
      | refine wCa (c := by first | exact l6Copy_ok es (by omega) | exact specOpened_ok es o hl | exact l1Value_ok _) (k := ?_)
      | simp only [go_sem, Nat.reduceLT, Nat.reduceLeDiff, Nat.reduceEqDiff, Nat.reduceAdd, Nat.reduceMul, Nat.reduceSub, reduceCtorEq, F]
      | simp (disch := omega) only [decide_eq_true_eq, if_pos, if_neg, wrap_id, le_maxLen, and_true, true_and, if_true, ite_true]
      | refine wGd (fun hb => ?_) fun hb => ?_
    exact ret_rfs (T := 0) (by simp only [go_sem, Nat.reduceLT, Nat.reduceLeDiff, Nat.reduceEqDiff, Nat.reduceAdd, Nat.reduceMul, Nat.reduceSub, reduceCtorEq]) (by simp only [go_sem, Nat.reduceLT, Nat.reduceLeDiff, Nat.reduceEqDiff, Nat.reduceAdd, Nat.reduceMul, Nat.reduceSub, reduceCtorEq]) rfl (by simp only [go_sem, Nat.reduceLT, Nat.reduceLeDiff, Nat.reduceEqDiff, Nat.reduceAdd, Nat.reduceMul, Nat.reduceSub, reduceCtorEq]; try rfl) rfl (rowsE_len es).symm (rowsE_pur es)
  · have hk := (List.getElem?_eq_some_iff.1 he).1
    have hre := rowsE_at he
    have hkr : k < (rowsE es).length := by rw [rowsE_len]; exact hk
    cases hb0 : bP (OpenP es) with
    | false =>
      have ho : openedI es o = -1 := by rw [openedI, hb0]; rfl
      have h : setNewL es o v = (es, false) := by simp [setNewL, hf, he, hb0]
      rw [h] at hr
      subst hr
      have F := And.intro @rowsE_len ho
      repeat' first
        | refine wSq fun _ hK => ?_
        | refine wRg ?_
        | refine wDr ?_
        | refine VWP_block ?_
        | refine VWP_skip ?_
        | refine VWP_exit ?_
        | refine VWP_ret ?_
        | (refine hK _ ?_; clear hK)
        | (clear hK; refine hK _ ?_; clear hK)
        | (clear hK; clear hK; refine hK _ ?_; clear hK)
        | (clear hK; clear hK; clear hK; refine hK _ ?_; clear hK)
        | (simp only [wHb, reduceCtorEq] at hb <;> try (exfalso; omega))
        | refine wCd (fun hb => ?_) fun hb => ?_
        | refine wCa (c := by first | exact l6Copy_ok es (by omega) | exact specOpened_ok es o hl | exact l1Value_ok _) (k := ?_)
        | simp only [go_sem, Nat.reduceLT, Nat.reduceLeDiff, Nat.reduceEqDiff, Nat.reduceAdd, Nat.reduceMul, Nat.reduceSub, reduceCtorEq, F]
        | simp (disch := omega) only [decide_eq_true_eq, if_pos, if_neg, wrap_id, le_maxLen, and_true, true_and, if_true, ite_true]
        | refine wGd (fun hb => ?_) fun hb => ?_
      exact ret_rfs (T := 0) (by simp only [go_sem, Nat.reduceLT, Nat.reduceLeDiff, Nat.reduceEqDiff, Nat.reduceAdd, Nat.reduceMul, Nat.reduceSub, reduceCtorEq]) (by simp only [go_sem, Nat.reduceLT, Nat.reduceLeDiff, Nat.reduceEqDiff, Nat.reduceAdd, Nat.reduceMul, Nat.reduceSub, reduceCtorEq]) rfl (by simp only [go_sem, Nat.reduceLT, Nat.reduceLeDiff, Nat.reduceEqDiff, Nat.reduceAdd, Nat.reduceMul, Nat.reduceSub, reduceCtorEq]; try rfl) rfl (rowsE_len es).symm (rowsE_pur es)
    | true =>
      have ho : openedI es o = k := by rw [openedI, if_pos hb0, hp]
      repeat' first
        | refine VWP_seq_k fun _ hK => ?_
        | refine VWP_region_k hT ?_
        | refine VWP_draw_k hT hM (by kernel_rfl) rfl ?_
        | refine VWP_block ?_
        | refine VWP_skip ?_
        | refine VWP_exit ?_
        | refine VWP_ret ?_
        | (refine hK _ ?_; clear hK)
        | (clear hK; refine hK _ ?_; clear hK)
        | (clear hK; clear hK; refine hK _ ?_; clear hK)
        | (clear hK; clear hK; clear hK; refine hK _ ?_; clear hK)
        | (simp only [decide_eq_true_eq, decide_eq_false_iff_not, bne_iff_ne, ne_eq, Bool.not_eq_true', Bool.not_eq_false', Bool.true_eq_false, Bool.false_eq_true, reduceCtorEq, not_true_eq_false, eq_self] at hb <;> try (exfalso; omega))
        | refine VWP_cond2 _ (by simp only [go_sem, Nat.reduceLT, Nat.reduceLeDiff, Nat.reduceEqDiff, Nat.reduceAdd, Nat.reduceMul, Nat.reduceSub, reduceCtorEq, rowsE_len, ho, hre, hk, set_set, List.length_set, set_at _ hkr]; rfl) (fun hb => ?_) (fun hb => ?_)
        | refine callK (by simp only [go_sem, Nat.reduceLT, Nat.reduceLeDiff, Nat.reduceEqDiff, Nat.reduceAdd, Nat.reduceMul, Nat.reduceSub, reduceCtorEq, rowsE_len, ho, hre, hk, set_set, List.length_set, set_at _ hkr, List.mem_cons, List.not_mem_nil, or_false, forall_eq_or_imp, forall_eq, frzOk, frzOkC]; try simp) (args' := _) (by simp only [go_sem, Nat.reduceLT, Nat.reduceLeDiff, Nat.reduceEqDiff, Nat.reduceAdd, Nat.reduceMul, Nat.reduceSub, reduceCtorEq, rowsE_len, ho, hre, hk, set_set, List.length_set, set_at _ hkr, frzA, frzC]; try rfl) (by first | exact l6Copy_ok es (by omega) | exact specOpened_ok es o hl | exact l1Value_ok _) (by simp only [go_sem, Nat.reduceLT, Nat.reduceLeDiff, Nat.reduceEqDiff, Nat.reduceAdd, Nat.reduceMul, Nat.reduceSub, reduceCtorEq, rowsE_len, ho, hre, hk, set_set, List.length_set, set_at _ hkr]; try simp) (by decide) ?_
        | simp only [go_sem, Nat.reduceLT, Nat.reduceLeDiff, Nat.reduceEqDiff, Nat.reduceAdd, Nat.reduceMul, Nat.reduceSub, reduceCtorEq, rowsE_len, ho, hre, hk, set_set, List.length_set, set_at _ hkr]
        | simp (disch := omega) only [decide_eq_true_eq, if_pos, if_neg, wrap_id, le_maxLen, and_true, true_and, if_true, ite_true]
        | refine guard_split (by simp only [go_sem, Nat.reduceLT, Nat.reduceLeDiff, Nat.reduceEqDiff, Nat.reduceAdd, Nat.reduceMul, Nat.reduceSub, reduceCtorEq, rowsE_len, ho, hre, hk, set_set, List.length_set, set_at _ hkr]) rfl (fun hb => ?_) (fun hb => ?_)
      · have hv : inB v (-1000000000) 1000000000 = false := by simp_all
        have h : setNewL es o v = (es, false) := by simp [setNewL, hf, he, hv]
        rw [h] at hr
        subst hr
        exact ret_rfs (T := 0) (by simp only [go_sem, Nat.reduceLT, Nat.reduceLeDiff, Nat.reduceEqDiff, Nat.reduceAdd, Nat.reduceMul, Nat.reduceSub, reduceCtorEq]) (by simp only [go_sem, Nat.reduceLT, Nat.reduceLeDiff, Nat.reduceEqDiff, Nat.reduceAdd, Nat.reduceMul, Nat.reduceSub, reduceCtorEq]) rfl (by simp only [go_sem, Nat.reduceLT, Nat.reduceLeDiff, Nat.reduceEqDiff, Nat.reduceAdd, Nat.reduceMul, Nat.reduceSub, reduceCtorEq]; try rfl) rfl (rowsE_len es).symm (rowsE_pur es)
      · have hv : inB v (-1000000000) 1000000000 = true := by simp_all
        have h : setNewL es o v = (es.set k ⟨e.object, e.version, e.old, v, true⟩, true) := by simp [setNewL, hf, he, hb0, hv]
        rw [h] at hr
        subst hr
        exact ret_rfs (T := 0) (by simp only [go_sem, Nat.reduceLT, Nat.reduceLeDiff, Nat.reduceEqDiff, Nat.reduceAdd, Nat.reduceMul, Nat.reduceSub, reduceCtorEq]; simp) (by simp only [go_sem, Nat.reduceLT, Nat.reduceLeDiff, Nat.reduceEqDiff, Nat.reduceAdd, Nat.reduceMul, Nat.reduceSub, reduceCtorEq]) rfl (by simp only [go_sem, Nat.reduceLT, Nat.reduceLeDiff, Nat.reduceEqDiff, Nat.reduceAdd, Nat.reduceMul, Nat.reduceSub, reduceCtorEq]; rw [← rowsE_set]) rfl (by simp [rowsE_len]) (rowsE_pur _)
theorem implSetNew_ok (es : List EntS) (o v : Int) (r : List EntS × Bool) (hr : setNewL es o v = r) (hl : es.length ≤ 1048576) : SatP Try.prog 10 [.fr 70 (rowsE es), .int .i64 o, .int .i64 v]
    (.tup [.rf 0 r.1.length, .bool r.2]) [(70, rowsE r.1)] := by
  refine satP_of_body hT Try.func10 (by kernel_rfl) rfl (rs := [.tmp 6, .tmp 7]) rfl (n := 33) rfl (by simp) rfl (by simpa using rowsE_pur _) fun E hE => ?_
  unfold St.init
  rcases placeE_find es o with ⟨hf, hp⟩ | ⟨k, e, hf, hp, he⟩
  · have ho : openedI es o = -1 := by rw [openedI, hp]; split <;> rfl
    have h : setNewL es o v = (es, false) := by simp [setNewL, hf]
    rw [h] at hr
    subst hr
    have F := And.intro @rowsE_len ho
    repeat' first
      | refine wSq fun _ hK => ?_
      | refine wRg ?_
      | refine wDr ?_
      | refine VWP_block ?_
      | refine VWP_skip ?_
      | refine VWP_exit ?_
      | refine VWP_ret ?_
      | (refine hK _ ?_; clear hK)
      | (clear hK; refine hK _ ?_; clear hK)
      | (clear hK; clear hK; refine hK _ ?_; clear hK)
      | (clear hK; clear hK; clear hK; refine hK _ ?_; clear hK)
      | (simp only [wHb, reduceCtorEq] at hb <;> try (exfalso; omega))
      | refine wCd (fun hb => ?_) fun hb => ?_
      | refine wCa (c := by first | exact ownEntries_ok es (by omega) | exact implOpened_ok es o hl | exact isValue_ok _) (k := ?_)
      | simp only [go_sem, Nat.reduceLT, Nat.reduceLeDiff, Nat.reduceEqDiff, Nat.reduceAdd, Nat.reduceMul, Nat.reduceSub, reduceCtorEq, F]
      | simp (disch := omega) only [decide_eq_true_eq, if_pos, if_neg, wrap_id, le_maxLen, and_true, true_and, if_true, ite_true]
      | refine wGd (fun hb => ?_) fun hb => ?_
    exact ret_rfs (T := 0) (by simp only [go_sem, Nat.reduceLT, Nat.reduceLeDiff, Nat.reduceEqDiff, Nat.reduceAdd, Nat.reduceMul, Nat.reduceSub, reduceCtorEq]) (by simp only [go_sem, Nat.reduceLT, Nat.reduceLeDiff, Nat.reduceEqDiff, Nat.reduceAdd, Nat.reduceMul, Nat.reduceSub, reduceCtorEq]) rfl (by simp only [go_sem, Nat.reduceLT, Nat.reduceLeDiff, Nat.reduceEqDiff, Nat.reduceAdd, Nat.reduceMul, Nat.reduceSub, reduceCtorEq]; try rfl) rfl (rowsE_len es).symm (rowsE_pur es)
  · have hk := (List.getElem?_eq_some_iff.1 he).1
    have hre := rowsE_at he
    have hkr : k < (rowsE es).length := by rw [rowsE_len]; exact hk
    cases hb0 : bP (OpenP es) with
    | false =>
      have ho : openedI es o = -1 := by rw [openedI, hb0]; rfl
      have h : setNewL es o v = (es, false) := by simp [setNewL, hf, he, hb0]
      rw [h] at hr
      subst hr
      have F := And.intro @rowsE_len ho
      repeat' first
        | refine wSq fun _ hK => ?_
        | refine wRg ?_
        | refine wDr ?_
        | refine VWP_block ?_
        | refine VWP_skip ?_
        | refine VWP_exit ?_
        | refine VWP_ret ?_
        | (refine hK _ ?_; clear hK)
        | (clear hK; refine hK _ ?_; clear hK)
        | (clear hK; clear hK; refine hK _ ?_; clear hK)
        | (clear hK; clear hK; clear hK; refine hK _ ?_; clear hK)
        | (simp only [wHb, reduceCtorEq] at hb <;> try (exfalso; omega))
        | refine wCd (fun hb => ?_) fun hb => ?_
        | refine wCa (c := by first | exact ownEntries_ok es (by omega) | exact implOpened_ok es o hl | exact isValue_ok _) (k := ?_)
        | simp only [go_sem, Nat.reduceLT, Nat.reduceLeDiff, Nat.reduceEqDiff, Nat.reduceAdd, Nat.reduceMul, Nat.reduceSub, reduceCtorEq, F]
        | simp (disch := omega) only [decide_eq_true_eq, if_pos, if_neg, wrap_id, le_maxLen, and_true, true_and, if_true, ite_true]
        | refine wGd (fun hb => ?_) fun hb => ?_
      exact ret_rfs (T := 0) (by simp only [go_sem, Nat.reduceLT, Nat.reduceLeDiff, Nat.reduceEqDiff, Nat.reduceAdd, Nat.reduceMul, Nat.reduceSub, reduceCtorEq]) (by simp only [go_sem, Nat.reduceLT, Nat.reduceLeDiff, Nat.reduceEqDiff, Nat.reduceAdd, Nat.reduceMul, Nat.reduceSub, reduceCtorEq]) rfl (by simp only [go_sem, Nat.reduceLT, Nat.reduceLeDiff, Nat.reduceEqDiff, Nat.reduceAdd, Nat.reduceMul, Nat.reduceSub, reduceCtorEq]; try rfl) rfl (rowsE_len es).symm (rowsE_pur es)
    | true =>
      have ho : openedI es o = k := by rw [openedI, if_pos hb0, hp]
      repeat' first
        | refine VWP_seq_k fun _ hK => ?_
        | refine VWP_region_k hT ?_
        | refine VWP_draw_k hT hM (by kernel_rfl) rfl ?_
        | refine VWP_block ?_
        | refine VWP_skip ?_
        | refine VWP_exit ?_
        | refine VWP_ret ?_
        | (refine hK _ ?_; clear hK)
        | (clear hK; refine hK _ ?_; clear hK)
        | (clear hK; clear hK; refine hK _ ?_; clear hK)
        | (clear hK; clear hK; clear hK; refine hK _ ?_; clear hK)
        | (simp only [decide_eq_true_eq, decide_eq_false_iff_not, bne_iff_ne, ne_eq, Bool.not_eq_true', Bool.not_eq_false', Bool.true_eq_false, Bool.false_eq_true, reduceCtorEq, not_true_eq_false, eq_self] at hb <;> try (exfalso; omega))
        | refine VWP_cond2 _ (by simp only [go_sem, Nat.reduceLT, Nat.reduceLeDiff, Nat.reduceEqDiff, Nat.reduceAdd, Nat.reduceMul, Nat.reduceSub, reduceCtorEq, rowsE_len, ho, hre, hk, set_set, List.length_set, set_at _ hkr]; rfl) (fun hb => ?_) (fun hb => ?_)
        | refine callK (by simp only [go_sem, Nat.reduceLT, Nat.reduceLeDiff, Nat.reduceEqDiff, Nat.reduceAdd, Nat.reduceMul, Nat.reduceSub, reduceCtorEq, rowsE_len, ho, hre, hk, set_set, List.length_set, set_at _ hkr, List.mem_cons, List.not_mem_nil, or_false, forall_eq_or_imp, forall_eq, frzOk, frzOkC]; try simp) (args' := _) (by simp only [go_sem, Nat.reduceLT, Nat.reduceLeDiff, Nat.reduceEqDiff, Nat.reduceAdd, Nat.reduceMul, Nat.reduceSub, reduceCtorEq, rowsE_len, ho, hre, hk, set_set, List.length_set, set_at _ hkr, frzA, frzC]; try rfl) (by first | exact ownEntries_ok es (by omega) | exact implOpened_ok es o hl | exact isValue_ok _) (by simp only [go_sem, Nat.reduceLT, Nat.reduceLeDiff, Nat.reduceEqDiff, Nat.reduceAdd, Nat.reduceMul, Nat.reduceSub, reduceCtorEq, rowsE_len, ho, hre, hk, set_set, List.length_set, set_at _ hkr]; try simp) (by decide) ?_
        | simp only [go_sem, Nat.reduceLT, Nat.reduceLeDiff, Nat.reduceEqDiff, Nat.reduceAdd, Nat.reduceMul, Nat.reduceSub, reduceCtorEq, rowsE_len, ho, hre, hk, set_set, List.length_set, set_at _ hkr]
        | simp (disch := omega) only [decide_eq_true_eq, if_pos, if_neg, wrap_id, le_maxLen, and_true, true_and, if_true, ite_true]
        | refine guard_split (by simp only [go_sem, Nat.reduceLT, Nat.reduceLeDiff, Nat.reduceEqDiff, Nat.reduceAdd, Nat.reduceMul, Nat.reduceSub, reduceCtorEq, rowsE_len, ho, hre, hk, set_set, List.length_set, set_at _ hkr]) rfl (fun hb => ?_) (fun hb => ?_)
      · have hv : inB v (-1000000000) 1000000000 = false := by simp_all
        have h : setNewL es o v = (es, false) := by simp [setNewL, hf, he, hv]
        rw [h] at hr
        subst hr
        exact ret_rfs (T := 0) (by simp only [go_sem, Nat.reduceLT, Nat.reduceLeDiff, Nat.reduceEqDiff, Nat.reduceAdd, Nat.reduceMul, Nat.reduceSub, reduceCtorEq]) (by simp only [go_sem, Nat.reduceLT, Nat.reduceLeDiff, Nat.reduceEqDiff, Nat.reduceAdd, Nat.reduceMul, Nat.reduceSub, reduceCtorEq]) rfl (by simp only [go_sem, Nat.reduceLT, Nat.reduceLeDiff, Nat.reduceEqDiff, Nat.reduceAdd, Nat.reduceMul, Nat.reduceSub, reduceCtorEq]; try rfl) rfl (rowsE_len es).symm (rowsE_pur es)
      · have hv : inB v (-1000000000) 1000000000 = true := by simp_all
        have h : setNewL es o v = (es.set k ⟨e.object, e.version, e.old, v, true⟩, true) := by simp [setNewL, hf, he, hb0, hv]
        rw [h] at hr
        subst hr
        exact ret_rfs (T := 0) (by simp only [go_sem, Nat.reduceLT, Nat.reduceLeDiff, Nat.reduceEqDiff, Nat.reduceAdd, Nat.reduceMul, Nat.reduceSub, reduceCtorEq]; simp) (by simp only [go_sem, Nat.reduceLT, Nat.reduceLeDiff, Nat.reduceEqDiff, Nat.reduceAdd, Nat.reduceMul, Nat.reduceSub, reduceCtorEq]) rfl (by simp only [go_sem, Nat.reduceLT, Nat.reduceLeDiff, Nat.reduceEqDiff, Nat.reduceAdd, Nat.reduceMul, Nat.reduceSub, reduceCtorEq]; rw [← rowsE_set]) rfl (by simp [rowsE_len]) (rowsE_pur _)
end Go.Proofs.Ytchkbgekmoileaa
