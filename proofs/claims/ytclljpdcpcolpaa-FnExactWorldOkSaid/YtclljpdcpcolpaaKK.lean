/- The law of WorldOk on values. -/
import Derived.Test.YtclljpdcpcolpaaKJ
namespace Go.Proofs.Ytclljpdcpcolpaa
open Go Go.RowKit
set_option linter.unusedVariables false
set_option linter.unusedSimpArgs false
set_option maxRecDepth 100000
set_option maxHeartbeats 4000000
attribute [local irreducible] VWP vops vdraw contV contD CallK Guard GuardV NextL Puts Runs RetOK RetQ RetO RetQO thenQ blockQ

theorem worldLaw_ok (w : WorldD) (hf : w.fits) : SatP Try.prog 11 [.agg (w.cells 3 170 56 174 78 184 68 196)] (.bool true) [] := by
  obtain ⟨z1, z2⟩ := szW_tiny (w := w) (left := 1048576) (by omega) (by omega)
  refine satP_of_body hT Try.func11 (by kernel_rfl) rfl (rs := [.tmp 2]) rfl (n := 27) rfl (by simp) rfl (by simp) fun E => ?_
  unfold St.init
  rcases Int.lt_or_le (szW w 1048576) 0 with hbig | hsm
  · have hz2 := z2 hbig
    have hc := szWorld_ok w 1048576 (by omega) (by omega) hf
    rw [hz2] at hc
    unfold WorldD.cells at *
    repeat' first
      | refine VWP_seq_k fun _ hK => ?_
      | refine VWP_region_k hT ?_
      | refine VWP_draw_k hT hM (by kernel_rfl) rfl ?_
      | refine VWP_block ?_
      | refine VWP_skip ?_
      | refine VWP_exit ?_
      | refine VWP_ret ?_
      | (refine hK _ ?_; clear hK)
      | (clear hK; refine hK _ ?_; clear hK)
      | (clear hK; clear hK; refine hK _ ?_; clear hK)
      | (clear hK; clear hK; clear hK; refine hK _ ?_; clear hK)
      | (simp only [decide_eq_true_eq, decide_eq_false_iff_not, bne_iff_ne, ne_eq, Bool.not_eq_true', Bool.not_eq_false', Bool.true_eq_false, Bool.false_eq_true, reduceCtorEq, not_true_eq_false, eq_self] at hb <;> try (exfalso; omega))
      | refine VWP_cond2 _ (by simp only [go_sem, Nat.reduceLT, Nat.reduceLeDiff, Nat.reduceEqDiff, Nat.reduceAdd, Nat.reduceMul, Nat.reduceSub, reduceCtorEq]; rfl) (fun hb => ?_) (fun hb => ?_)
      | refine callK (by simp only [go_sem, Nat.reduceLT, Nat.reduceLeDiff, Nat.reduceEqDiff, Nat.reduceAdd, Nat.reduceMul, Nat.reduceSub, reduceCtorEq, List.mem_cons, List.not_mem_nil, or_false, forall_eq_or_imp, forall_eq, frzOk, frzOkC]; try simp) (args' := _) (by simp only [go_sem, Nat.reduceLT, Nat.reduceLeDiff, Nat.reduceEqDiff, Nat.reduceAdd, Nat.reduceMul, Nat.reduceSub, reduceCtorEq, frzA, frzC]; try rfl) (by first | exact hc) (by simp only [go_sem, Nat.reduceLT, Nat.reduceLeDiff, Nat.reduceEqDiff, Nat.reduceAdd, Nat.reduceMul, Nat.reduceSub, reduceCtorEq]; try simp) (by decide) ?_
      | simp only [go_sem, Nat.reduceLT, Nat.reduceLeDiff, Nat.reduceEqDiff, Nat.reduceAdd, Nat.reduceMul, Nat.reduceSub, reduceCtorEq]
      | simp (disch := omega) only [decide_eq_true_eq, if_pos, if_neg, wrap_id, le_maxLen, and_true, true_and, if_true, ite_true]
      | refine guard_split (by simp only [go_sem, Nat.reduceLT, Nat.reduceLeDiff, Nat.reduceEqDiff, Nat.reduceAdd, Nat.reduceMul, Nat.reduceSub, reduceCtorEq]) rfl (fun hb => ?_) (fun hb => ?_)
    refine ret_scal (by simp only [go_sem, Nat.reduceLT, Nat.reduceLeDiff, Nat.reduceEqDiff, Nat.reduceAdd, Nat.reduceMul, Nat.reduceSub, reduceCtorEq]; rfl) rfl ?_
    rfl
  · have hn : ¬ szW w 1048576 < 0 := by omega
    have hs := z1 hsm
    have hc := szWorld_ok w 1048576 (by omega) (by omega) hf
    have ht := toWorld_ok w hs
    have hi := implWorldOk_ok w hs
    have hp := specWorldOk_ok w hs
    have hq := eqWorld_ok w w hs
    unfold WorldD.cells at *
    repeat' first
      | refine VWP_seq_k fun _ hK => ?_
      | refine VWP_region_k hT ?_
      | refine VWP_draw_k hT hM (by kernel_rfl) rfl ?_
      | refine VWP_block ?_
      | refine VWP_skip ?_
      | refine VWP_exit ?_
      | refine VWP_ret ?_
      | (refine hK _ ?_; clear hK)
      | (clear hK; refine hK _ ?_; clear hK)
      | (clear hK; clear hK; refine hK _ ?_; clear hK)
      | (clear hK; clear hK; clear hK; refine hK _ ?_; clear hK)
      | (simp only [decide_eq_true_eq, decide_eq_false_iff_not, bne_iff_ne, ne_eq, Bool.not_eq_true', Bool.not_eq_false', Bool.true_eq_false, Bool.false_eq_true, reduceCtorEq, not_true_eq_false, eq_self] at hb <;> try (exfalso; omega))
      | refine VWP_cond2 _ (by simp only [go_sem, Nat.reduceLT, Nat.reduceLeDiff, Nat.reduceEqDiff, Nat.reduceAdd, Nat.reduceMul, Nat.reduceSub, reduceCtorEq, hn, rowsN_len, rowsN_pur, rowsN_take, rowsH_len, rowsH_pur, rowsH_take, rowsD_len, rowsD_pur, rowsD_take, rowsTh_len, rowsTh_pur, rowsTh_take, rowsV_len, rowsV_pur, rowsV_take, Nat.le_refl]; rfl) (fun hb => ?_) (fun hb => ?_)
      | refine callK (by simp only [go_sem, Nat.reduceLT, Nat.reduceLeDiff, Nat.reduceEqDiff, Nat.reduceAdd, Nat.reduceMul, Nat.reduceSub, reduceCtorEq, hn, rowsN_len, rowsN_pur, rowsN_take, rowsH_len, rowsH_pur, rowsH_take, rowsD_len, rowsD_pur, rowsD_take, rowsTh_len, rowsTh_pur, rowsTh_take, rowsV_len, rowsV_pur, rowsV_take, Nat.le_refl, List.mem_cons, List.not_mem_nil, or_false, forall_eq_or_imp, forall_eq, frzOk, frzOkC]; try simp) (args' := _) (by simp only [go_sem, Nat.reduceLT, Nat.reduceLeDiff, Nat.reduceEqDiff, Nat.reduceAdd, Nat.reduceMul, Nat.reduceSub, reduceCtorEq, hn, rowsN_len, rowsN_pur, rowsN_take, rowsH_len, rowsH_pur, rowsH_take, rowsD_len, rowsD_pur, rowsD_take, rowsTh_len, rowsTh_pur, rowsTh_take, rowsV_len, rowsV_pur, rowsV_take, Nat.le_refl, frzA, frzC]; try rfl) (by first | exact hc | exact ht | exact hi | exact hp | exact hq) (by simp only [go_sem, Nat.reduceLT, Nat.reduceLeDiff, Nat.reduceEqDiff, Nat.reduceAdd, Nat.reduceMul, Nat.reduceSub, reduceCtorEq, hn, rowsN_len, rowsN_pur, rowsN_take, rowsH_len, rowsH_pur, rowsH_take, rowsD_len, rowsD_pur, rowsD_take, rowsTh_len, rowsTh_pur, rowsTh_take, rowsV_len, rowsV_pur, rowsV_take, Nat.le_refl]; try simp) (by decide) ?_
      | simp only [go_sem, Nat.reduceLT, Nat.reduceLeDiff, Nat.reduceEqDiff, Nat.reduceAdd, Nat.reduceMul, Nat.reduceSub, reduceCtorEq, hn, rowsN_len, rowsN_pur, rowsN_take, rowsH_len, rowsH_pur, rowsH_take, rowsD_len, rowsD_pur, rowsD_take, rowsTh_len, rowsTh_pur, rowsTh_take, rowsV_len, rowsV_pur, rowsV_take, Nat.le_refl]
      | simp (disch := omega) only [decide_eq_true_eq, if_pos, if_neg, wrap_id, le_maxLen, and_true, true_and, if_true, ite_true]
      | refine guard_split (by simp only [go_sem, Nat.reduceLT, Nat.reduceLeDiff, Nat.reduceEqDiff, Nat.reduceAdd, Nat.reduceMul, Nat.reduceSub, reduceCtorEq, hn, rowsN_len, rowsN_pur, rowsN_take, rowsH_len, rowsH_pur, rowsH_take, rowsD_len, rowsD_pur, rowsD_take, rowsTh_len, rowsTh_pur, rowsTh_take, rowsV_len, rowsV_pur, rowsV_take, Nat.le_refl]) rfl (fun hb => ?_) (fun hb => ?_)
    refine ret_scal (by simp only [go_sem, Nat.reduceLT, Nat.reduceLeDiff, Nat.reduceEqDiff, Nat.reduceAdd, Nat.reduceMul, Nat.reduceSub, reduceCtorEq]; rfl) rfl ?_
    rfl
end Go.Proofs.Ytclljpdcpcolpaa
