/- The law of Depth on values. -/
import Derived.Test.YtfkefjcopbcmlaaWD
namespace Go.Proofs.Ytfkefjcopbcmlaa
open Go Go.RowKit
set_option linter.unusedVariables false
set_option linter.unusedSimpArgs false
set_option maxRecDepth 100000
set_option maxHeartbeats 4000000
attribute [local irreducible] VWP vops vdraw contV contD CallK Guard GuardV NextL Puts Runs RetOK RetQ RetO RetQO thenQ blockQ

theorem depthLaw_ok (s : StoreD) (o : Int) (hf : s.fits) : SatP Try.prog 12 [.agg (s.cells 191 157 186), .int .i64 o] (.bool true) [] := by
  have hz := szS_fits s 1048576 (by omega)
  refine satP_of_body hT Try.func12 (by kernel_rfl) rfl (rs := [.tmp 4]) rfl (n := 31) rfl (by simp) rfl (by simp) fun E => ?_
  unfold St.init
  rcases Int.lt_or_le (szS s 1048576) 0 with hbig | hsm
  · have hz2 := hz.2 hbig
    unfold StoreD.cells
    repeat' first
      | refine VWP_seq_k fun _ hK => ?_
      | refine VWP_region_k hT ?_
      | refine VWP_draw_k hT hM (by kernel_rfl) rfl ?_
      | refine VWP_block ?_
      | refine VWP_skip ?_
      | refine VWP_exit ?_
      | refine VWP_ret ?_
      | (refine hK _ ?_; clear hK)
      | (clear hK; refine hK _ ?_; clear hK)
      | (clear hK; clear hK; refine hK _ ?_; clear hK)
      | (clear hK; clear hK; clear hK; refine hK _ ?_; clear hK)
      | (simp only [decide_eq_true_eq, decide_eq_false_iff_not, bne_iff_ne, ne_eq, Bool.not_eq_true', Bool.not_eq_false', Bool.true_eq_false, Bool.false_eq_true, reduceCtorEq, not_true_eq_false, eq_self] at hb <;> try (exfalso; omega))
      | refine VWP_cond2 _ (by simp only [go_sem, Nat.reduceLT, Nat.reduceLeDiff, Nat.reduceEqDiff, Nat.reduceAdd, Nat.reduceMul, Nat.reduceSub, reduceCtorEq, hz2]; rfl) (fun hb => ?_) (fun hb => ?_)
      | refine callK (by simp only [go_sem, Nat.reduceLT, Nat.reduceLeDiff, Nat.reduceEqDiff, Nat.reduceAdd, Nat.reduceMul, Nat.reduceSub, reduceCtorEq, hz2, List.mem_cons, List.not_mem_nil, or_false, forall_eq_or_imp, forall_eq, frzOk, frzOkC]; try simp) (args' := _) (by simp only [go_sem, Nat.reduceLT, Nat.reduceLeDiff, Nat.reduceEqDiff, Nat.reduceAdd, Nat.reduceMul, Nat.reduceSub, reduceCtorEq, hz2, frzA, frzC]; try rfl) (by first | exact szStore_ok s _ (by omega) (by omega) hf) (by simp only [go_sem, Nat.reduceLT, Nat.reduceLeDiff, Nat.reduceEqDiff, Nat.reduceAdd, Nat.reduceMul, Nat.reduceSub, reduceCtorEq, hz2]; try simp) (by decide) ?_
      | simp only [go_sem, Nat.reduceLT, Nat.reduceLeDiff, Nat.reduceEqDiff, Nat.reduceAdd, Nat.reduceMul, Nat.reduceSub, reduceCtorEq, hz2]
      | simp (disch := omega) only [decide_eq_true_eq, if_pos, if_neg, wrap_id, le_maxLen, and_true, true_and, if_true, ite_true]
      | refine guard_split (by simp only [go_sem, Nat.reduceLT, Nat.reduceLeDiff, Nat.reduceEqDiff, Nat.reduceAdd, Nat.reduceMul, Nat.reduceSub, reduceCtorEq, hz2]) rfl (fun hb => ?_) (fun hb => ?_)
    refine ret_scal (by simp only [go_sem, Nat.reduceLT, Nat.reduceLeDiff, Nat.reduceEqDiff, Nat.reduceAdd, Nat.reduceMul, Nat.reduceSub, reduceCtorEq]; rfl) rfl ?_
    rfl
  · have hn : ¬ szS s 1048576 < 0 := by omega
    have hs := szS_small (by omega) (by omega) hsm
    obtain ⟨r, hr⟩ := depth_ex s o
    unfold StoreD.cells
    repeat' first
      | refine VWP_seq_k fun _ hK => ?_
      | refine VWP_region_k hT ?_
      | refine VWP_draw_k hT hM (by kernel_rfl) rfl ?_
      | refine VWP_block ?_
      | refine VWP_skip ?_
      | refine VWP_exit ?_
      | refine VWP_ret ?_
      | (refine hK _ ?_; clear hK)
      | (clear hK; refine hK _ ?_; clear hK)
      | (clear hK; clear hK; refine hK _ ?_; clear hK)
      | (clear hK; clear hK; clear hK; refine hK _ ?_; clear hK)
      | (simp only [decide_eq_true_eq, decide_eq_false_iff_not, bne_iff_ne, ne_eq, Bool.not_eq_true', Bool.not_eq_false', Bool.true_eq_false, Bool.false_eq_true, reduceCtorEq, not_true_eq_false, eq_self] at hb <;> try (exfalso; omega))
      | refine VWP_cond2 _ (by simp only [go_sem, Nat.reduceLT, Nat.reduceLeDiff, Nat.reduceEqDiff, Nat.reduceAdd, Nat.reduceMul, Nat.reduceSub, reduceCtorEq, hn, rowsH_len, rowsH_pur, rowsH_take, rowsD_len, rowsD_pur, rowsD_take, Nat.le_refl]; rfl) (fun hb => ?_) (fun hb => ?_)
      | refine callK (by simp only [go_sem, Nat.reduceLT, Nat.reduceLeDiff, Nat.reduceEqDiff, Nat.reduceAdd, Nat.reduceMul, Nat.reduceSub, reduceCtorEq, hn, rowsH_len, rowsH_pur, rowsH_take, rowsD_len, rowsD_pur, rowsD_take, Nat.le_refl, List.mem_cons, List.not_mem_nil, or_false, forall_eq_or_imp, forall_eq, frzOk, frzOkC]; try simp) (args' := _) (by simp only [go_sem, Nat.reduceLT, Nat.reduceLeDiff, Nat.reduceEqDiff, Nat.reduceAdd, Nat.reduceMul, Nat.reduceSub, reduceCtorEq, hn, rowsH_len, rowsH_pur, rowsH_take, rowsD_len, rowsD_pur, rowsD_take, Nat.le_refl, frzA, frzC]; try rfl) (by first | exact szStore_ok s _ (by omega) (by omega) hf | exact toStore_ok s hs | exact specDepth_ok s o r hr hs | exact implDepth_ok s o r hr hs | exact eqStore_ok s s hs) (by simp only [go_sem, Nat.reduceLT, Nat.reduceLeDiff, Nat.reduceEqDiff, Nat.reduceAdd, Nat.reduceMul, Nat.reduceSub, reduceCtorEq, hn, rowsH_len, rowsH_pur, rowsH_take, rowsD_len, rowsD_pur, rowsD_take, Nat.le_refl]; try simp) (by decide) ?_
      | simp only [go_sem, Nat.reduceLT, Nat.reduceLeDiff, Nat.reduceEqDiff, Nat.reduceAdd, Nat.reduceMul, Nat.reduceSub, reduceCtorEq, hn, rowsH_len, rowsH_pur, rowsH_take, rowsD_len, rowsD_pur, rowsD_take, Nat.le_refl]
      | simp (disch := omega) only [decide_eq_true_eq, if_pos, if_neg, wrap_id, le_maxLen, and_true, true_and, if_true, ite_true]
      | refine guard_split (by simp only [go_sem, Nat.reduceLT, Nat.reduceLeDiff, Nat.reduceEqDiff, Nat.reduceAdd, Nat.reduceMul, Nat.reduceSub, reduceCtorEq, hn, rowsH_len, rowsH_pur, rowsH_take, rowsD_len, rowsD_pur, rowsD_take, Nat.le_refl]) rfl (fun hb => ?_) (fun hb => ?_)
    refine ret_scal (by simp only [go_sem, Nat.reduceLT, Nat.reduceLeDiff, Nat.reduceEqDiff, Nat.reduceAdd, Nat.reduceMul, Nat.reduceSub, reduceCtorEq]; rfl) rfl ?_
    rfl
end Go.Proofs.Ytfkefjcopbcmlaa
