/- The law of Idle on values. -/
import Derived.Test.YtfkefjcopbcmlaaTA
namespace Go.Proofs.Ytfkefjcopbcmlaa
open Go Go.RowKit
set_option linter.unusedVariables false
set_option linter.unusedSimpArgs false
set_option maxRecDepth 100000
set_option maxHeartbeats 4000000
attribute [local irreducible] VWP vops vdraw contV contD CallK Guard GuardV NextL Puts Runs RetOK RetQ RetO RetQO thenQ blockQ

theorem specIdle_ok (t : ThreadD) : SatP Try.prog 25 [.agg (t.cells 166 121 50)] (.bool (t.state != 0)) [] := by
  refine satP_of_body hT Try.func25 (by kernel_rfl) rfl (rs := [.tmp 2]) rfl (n := 6) rfl (by simp) rfl (by simp) fun E => ?_
  unfold St.init
  unfold ThreadD.cells
  repeat' first
    | refine VWP_seq_k fun _ hK => ?_
    | refine VWP_region_k hT ?_
    | refine VWP_draw_k hT hM (by kernel_rfl) rfl ?_
    | refine VWP_block ?_
    | refine VWP_skip ?_
    | refine VWP_exit ?_
    | refine VWP_ret ?_
    | (refine hK _ ?_; clear hK)
    | (clear hK; refine hK _ ?_; clear hK)
    | (clear hK; clear hK; refine hK _ ?_; clear hK)
    | (clear hK; clear hK; clear hK; refine hK _ ?_; clear hK)
    | (simp only [decide_eq_true_eq, decide_eq_false_iff_not, bne_iff_ne, ne_eq, Bool.not_eq_true', Bool.not_eq_false', Bool.true_eq_false, Bool.false_eq_true, reduceCtorEq, not_true_eq_false, eq_self] at hb <;> try (exfalso; omega))
    | refine VWP_cond2 _ (by simp only [go_sem, Nat.reduceLT, Nat.reduceLeDiff, Nat.reduceEqDiff, Nat.reduceAdd, Nat.reduceMul, Nat.reduceSub, reduceCtorEq]; rfl) (fun hb => ?_) (fun hb => ?_)
    | refine callK (by simp only [go_sem, Nat.reduceLT, Nat.reduceLeDiff, Nat.reduceEqDiff, Nat.reduceAdd, Nat.reduceMul, Nat.reduceSub, reduceCtorEq, List.mem_cons, List.not_mem_nil, or_false, forall_eq_or_imp, forall_eq, frzOk, frzOkC]; try simp) (args' := _) (by simp only [go_sem, Nat.reduceLT, Nat.reduceLeDiff, Nat.reduceEqDiff, Nat.reduceAdd, Nat.reduceMul, Nat.reduceSub, reduceCtorEq, frzA, frzC]; try rfl) (by first | fail) (by simp only [go_sem, Nat.reduceLT, Nat.reduceLeDiff, Nat.reduceEqDiff, Nat.reduceAdd, Nat.reduceMul, Nat.reduceSub, reduceCtorEq]; try simp) (by decide) ?_
    | simp only [go_sem, Nat.reduceLT, Nat.reduceLeDiff, Nat.reduceEqDiff, Nat.reduceAdd, Nat.reduceMul, Nat.reduceSub, reduceCtorEq]
    | simp (disch := omega) only [if_pos, if_neg, wrap_id, le_maxLen, and_true, true_and, if_true, ite_true]
    | refine guard_split (by simp only [go_sem, Nat.reduceLT, Nat.reduceLeDiff, Nat.reduceEqDiff, Nat.reduceAdd, Nat.reduceMul, Nat.reduceSub, reduceCtorEq]) rfl (fun hb => ?_) (fun hb => ?_)
  all_goals refine ret_scal (by simp only [go_sem, Nat.reduceLT, Nat.reduceLeDiff, Nat.reduceEqDiff, Nat.reduceAdd, Nat.reduceMul, Nat.reduceSub, reduceCtorEq]; rfl) rfl ?_
  all_goals rfl
theorem implIdle_ok (t : ThreadD) : SatP Try.prog 27 [.agg (t.cells 166 121 50)] (.bool (t.state != 0)) [] := by
  refine satP_of_body hT Try.func27 (by kernel_rfl) rfl (rs := [.tmp 2]) rfl (n := 6) rfl (by simp) rfl (by simp) fun E => ?_
  unfold St.init
  unfold ThreadD.cells
  repeat' first
    | refine VWP_seq_k fun _ hK => ?_
    | refine VWP_region_k hT ?_
    | refine VWP_draw_k hT hM (by kernel_rfl) rfl ?_
    | refine VWP_block ?_
    | refine VWP_skip ?_
    | refine VWP_exit ?_
    | refine VWP_ret ?_
    | (refine hK _ ?_; clear hK)
    | (clear hK; refine hK _ ?_; clear hK)
    | (clear hK; clear hK; refine hK _ ?_; clear hK)
    | (clear hK; clear hK; clear hK; refine hK _ ?_; clear hK)
    | (simp only [decide_eq_true_eq, decide_eq_false_iff_not, bne_iff_ne, ne_eq, Bool.not_eq_true', Bool.not_eq_false', Bool.true_eq_false, Bool.false_eq_true, reduceCtorEq, not_true_eq_false, eq_self] at hb <;> try (exfalso; omega))
    | refine VWP_cond2 _ (by simp only [go_sem, Nat.reduceLT, Nat.reduceLeDiff, Nat.reduceEqDiff, Nat.reduceAdd, Nat.reduceMul, Nat.reduceSub, reduceCtorEq]; rfl) (fun hb => ?_) (fun hb => ?_)
    | refine callK (by simp only [go_sem, Nat.reduceLT, Nat.reduceLeDiff, Nat.reduceEqDiff, Nat.reduceAdd, Nat.reduceMul, Nat.reduceSub, reduceCtorEq, List.mem_cons, List.not_mem_nil, or_false, forall_eq_or_imp, forall_eq, frzOk, frzOkC]; try simp) (args' := _) (by simp only [go_sem, Nat.reduceLT, Nat.reduceLeDiff, Nat.reduceEqDiff, Nat.reduceAdd, Nat.reduceMul, Nat.reduceSub, reduceCtorEq, frzA, frzC]; try rfl) (by first | fail) (by simp only [go_sem, Nat.reduceLT, Nat.reduceLeDiff, Nat.reduceEqDiff, Nat.reduceAdd, Nat.reduceMul, Nat.reduceSub, reduceCtorEq]; try simp) (by decide) ?_
    | simp only [go_sem, Nat.reduceLT, Nat.reduceLeDiff, Nat.reduceEqDiff, Nat.reduceAdd, Nat.reduceMul, Nat.reduceSub, reduceCtorEq]
    | simp (disch := omega) only [if_pos, if_neg, wrap_id, le_maxLen, and_true, true_and, if_true, ite_true]
    | refine guard_split (by simp only [go_sem, Nat.reduceLT, Nat.reduceLeDiff, Nat.reduceEqDiff, Nat.reduceAdd, Nat.reduceMul, Nat.reduceSub, reduceCtorEq]) rfl (fun hb => ?_) (fun hb => ?_)
  all_goals refine ret_scal (by simp only [go_sem, Nat.reduceLT, Nat.reduceLeDiff, Nat.reduceEqDiff, Nat.reduceAdd, Nat.reduceMul, Nat.reduceSub, reduceCtorEq]; rfl) rfl ?_
  all_goals rfl
theorem idleLaw_ok (t : ThreadD) (hp : t.prog.length ≤ 9223372036854775807) (ho : t.opens.length ≤ 9223372036854775807) (hs : t.stack.length ≤ 9223372036854775807) : SatP Try.prog 4 [.agg (t.cells 168 186 86)] (.bool true) [] := by
  have hz := szT_fits t 1048576
  refine satP_of_body hT Try.func4 (by kernel_rfl) rfl (rs := [.tmp 2]) rfl (n := 27) rfl (by simp) rfl (by simp) fun E => ?_
  unfold St.init
  rcases Int.lt_or_le (szT t 1048576) 0 with hbig | hsm
  · have hz2 := hz.2 hbig
    unfold ThreadD.cells
    repeat' first
      | refine VWP_seq_k fun _ hK => ?_
      | refine VWP_region_k hT ?_
      | refine VWP_draw_k hT hM (by kernel_rfl) rfl ?_
      | refine VWP_block ?_
      | refine VWP_skip ?_
      | refine VWP_exit ?_
      | refine VWP_ret ?_
      | (refine hK _ ?_; clear hK)
      | (clear hK; refine hK _ ?_; clear hK)
      | (clear hK; clear hK; refine hK _ ?_; clear hK)
      | (clear hK; clear hK; clear hK; refine hK _ ?_; clear hK)
      | (simp only [decide_eq_true_eq, decide_eq_false_iff_not, bne_iff_ne, ne_eq, Bool.not_eq_true', Bool.not_eq_false', Bool.true_eq_false, Bool.false_eq_true, reduceCtorEq, not_true_eq_false, eq_self] at hb <;> try (exfalso; omega))
      | refine VWP_cond2 _ (by simp only [go_sem, Nat.reduceLT, Nat.reduceLeDiff, Nat.reduceEqDiff, Nat.reduceAdd, Nat.reduceMul, Nat.reduceSub, reduceCtorEq, hz2]; rfl) (fun hb => ?_) (fun hb => ?_)
      | refine callK (by simp only [go_sem, Nat.reduceLT, Nat.reduceLeDiff, Nat.reduceEqDiff, Nat.reduceAdd, Nat.reduceMul, Nat.reduceSub, reduceCtorEq, hz2, List.mem_cons, List.not_mem_nil, or_false, forall_eq_or_imp, forall_eq, frzOk, frzOkC]; try simp) (args' := _) (by simp only [go_sem, Nat.reduceLT, Nat.reduceLeDiff, Nat.reduceEqDiff, Nat.reduceAdd, Nat.reduceMul, Nat.reduceSub, reduceCtorEq, hz2, frzA, frzC]; try rfl) (by first | exact szThread_ok t _ (by omega) (by omega) hp ho hs) (by simp only [go_sem, Nat.reduceLT, Nat.reduceLeDiff, Nat.reduceEqDiff, Nat.reduceAdd, Nat.reduceMul, Nat.reduceSub, reduceCtorEq, hz2]; try simp) (by decide) ?_
      | simp only [go_sem, Nat.reduceLT, Nat.reduceLeDiff, Nat.reduceEqDiff, Nat.reduceAdd, Nat.reduceMul, Nat.reduceSub, reduceCtorEq, hz2]
      | simp (disch := omega) only [if_pos, if_neg, wrap_id, le_maxLen, and_true, true_and, if_true, ite_true]
      | refine guard_split (by simp only [go_sem, Nat.reduceLT, Nat.reduceLeDiff, Nat.reduceEqDiff, Nat.reduceAdd, Nat.reduceMul, Nat.reduceSub, reduceCtorEq, hz2]) rfl (fun hb => ?_) (fun hb => ?_)
    refine ret_scal (by simp only [go_sem, Nat.reduceLT, Nat.reduceLeDiff, Nat.reduceEqDiff, Nat.reduceAdd, Nat.reduceMul, Nat.reduceSub, reduceCtorEq]; rfl) rfl ?_
    rfl
  · obtain ⟨hz1, hz2⟩ := hz.1 hsm
    have hn : ¬ szT t 1048576 < 0 := by omega
    have l1 : t.prog.length ≤ 1048576 := by omega
    have l2 : t.opens.length ≤ 1048576 := by omega
    have l3 : t.stack.length ≤ 1048576 := by omega
    unfold ThreadD.cells
    repeat' first
      | refine VWP_seq_k fun _ hK => ?_
      | refine VWP_region_k hT ?_
      | refine VWP_draw_k hT hM (by kernel_rfl) rfl ?_
      | refine VWP_block ?_
      | refine VWP_skip ?_
      | refine VWP_exit ?_
      | refine VWP_ret ?_
      | (refine hK _ ?_; clear hK)
      | (clear hK; refine hK _ ?_; clear hK)
      | (clear hK; clear hK; refine hK _ ?_; clear hK)
      | (clear hK; clear hK; clear hK; refine hK _ ?_; clear hK)
      | (simp only [decide_eq_true_eq, decide_eq_false_iff_not, bne_iff_ne, ne_eq, Bool.not_eq_true', Bool.not_eq_false', Bool.true_eq_false, Bool.false_eq_true, reduceCtorEq, not_true_eq_false, eq_self] at hb <;> try (exfalso; omega))
      | refine VWP_cond2 _ (by simp only [go_sem, Nat.reduceLT, Nat.reduceLeDiff, Nat.reduceEqDiff, Nat.reduceAdd, Nat.reduceMul, Nat.reduceSub, reduceCtorEq, hn, rowsI_len, rowsI_pur, rowsI_take, rowsE_len, rowsE_pur, rowsE_take, rowsF_len, rowsF_pur, rowsF_take, Nat.le_refl]; rfl) (fun hb => ?_) (fun hb => ?_)
      | refine callK (by simp only [go_sem, Nat.reduceLT, Nat.reduceLeDiff, Nat.reduceEqDiff, Nat.reduceAdd, Nat.reduceMul, Nat.reduceSub, reduceCtorEq, hn, rowsI_len, rowsI_pur, rowsI_take, rowsE_len, rowsE_pur, rowsE_take, rowsF_len, rowsF_pur, rowsF_take, Nat.le_refl, List.mem_cons, List.not_mem_nil, or_false, forall_eq_or_imp, forall_eq, frzOk, frzOkC]; try simp) (args' := _) (by simp only [go_sem, Nat.reduceLT, Nat.reduceLeDiff, Nat.reduceEqDiff, Nat.reduceAdd, Nat.reduceMul, Nat.reduceSub, reduceCtorEq, hn, rowsI_len, rowsI_pur, rowsI_take, rowsE_len, rowsE_pur, rowsE_take, rowsF_len, rowsF_pur, rowsF_take, Nat.le_refl, frzA, frzC]; try rfl) (by first | exact szThread_ok t _ (by omega) (by omega) hp ho hs | exact toThread_ok t l1 l2 l3 | exact specIdle_ok t | exact implIdle_ok t | exact eqThread_ok t t l1 l2 l3) (by simp only [go_sem, Nat.reduceLT, Nat.reduceLeDiff, Nat.reduceEqDiff, Nat.reduceAdd, Nat.reduceMul, Nat.reduceSub, reduceCtorEq, hn, rowsI_len, rowsI_pur, rowsI_take, rowsE_len, rowsE_pur, rowsE_take, rowsF_len, rowsF_pur, rowsF_take, Nat.le_refl]; try simp) (by decide) ?_
      | simp only [go_sem, Nat.reduceLT, Nat.reduceLeDiff, Nat.reduceEqDiff, Nat.reduceAdd, Nat.reduceMul, Nat.reduceSub, reduceCtorEq, hn, rowsI_len, rowsI_pur, rowsI_take, rowsE_len, rowsE_pur, rowsE_take, rowsF_len, rowsF_pur, rowsF_take, Nat.le_refl]
      | simp (disch := omega) only [if_pos, if_neg, wrap_id, le_maxLen, and_true, true_and, if_true, ite_true]
      | refine guard_split (by simp only [go_sem, Nat.reduceLT, Nat.reduceLeDiff, Nat.reduceEqDiff, Nat.reduceAdd, Nat.reduceMul, Nat.reduceSub, reduceCtorEq, hn, rowsI_len, rowsI_pur, rowsI_take, rowsE_len, rowsE_pur, rowsE_take, rowsF_len, rowsF_pur, rowsF_take, Nat.le_refl]) rfl (fun hb => ?_) (fun hb => ?_)
    refine ret_scal (by simp only [go_sem, Nat.reduceLT, Nat.reduceLeDiff, Nat.reduceEqDiff, Nat.reduceAdd, Nat.reduceMul, Nat.reduceSub, reduceCtorEq]; rfl) rfl ?_
    rfl
end Go.Proofs.Ytfkefjcopbcmlaa
