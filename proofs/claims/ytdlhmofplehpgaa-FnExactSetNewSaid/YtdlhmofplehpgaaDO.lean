/- The law of SetNew on values. -/
import Derived.Test.YtdlhmofplehpgaaDN
namespace Go.Proofs.Ytdlhmofplehpgaa
open Go Go.RowKit
set_option linter.unusedVariables false
set_option linter.unusedSimpArgs false
set_option maxRecDepth 100000
set_option maxHeartbeats 4000000
attribute [local irreducible] VWP vops vdraw contV contD CallK Guard GuardV NextL Puts Runs RetOK RetQ RetO RetQO thenQ blockQ


theorem setLaw_ok (es : List EntS) (o v : Int) (hl : es.length ≤ 9223372036854775807) : SatP Try.prog 8 [.fr 68 (rowsE es), .int .i64 o, .int .i64 v] (.bool true) [] := by
  refine satP_of_body hT Try.func8 (by kernel_rfl) rfl (rs := [.tmp 6]) rfl (n := 106) rfl (by simp) rfl (by simp) fun E => ?_
  unfold St.init
  rcases Nat.lt_or_ge 1048576 es.length with hbig | hsm
  · have hz : szB es.length 1048576 = -1 := by unfold szB; rw [if_pos (by omega)]
    repeat' first
      | refine VWP_seq_k fun _ hK => ?_
      | refine VWP_region_k hT ?_
      | refine VWP_draw_k hT hM (by kernel_rfl) rfl ?_
      | refine VWP_block ?_
      | refine VWP_skip ?_
      | refine VWP_exit ?_
      | refine VWP_ret ?_
      | (refine hK _ ?_; clear hK)
      | (clear hK; refine hK _ ?_; clear hK)
      | (clear hK; clear hK; refine hK _ ?_; clear hK)
      | (clear hK; clear hK; clear hK; refine hK _ ?_; clear hK)
      | (simp only [decide_eq_true_eq, decide_eq_false_iff_not, bne_iff_ne, ne_eq, Bool.not_eq_true', Bool.not_eq_false', Bool.true_eq_false, Bool.false_eq_true, reduceCtorEq, not_true_eq_false, eq_self] at hb <;> try (exfalso; omega))
      | refine VWP_cond2 _ (by simp only [go_sem, Nat.reduceLT, Nat.reduceLeDiff, Nat.reduceEqDiff, Nat.reduceAdd, Nat.reduceMul, Nat.reduceSub, reduceCtorEq, hz]; rfl) (fun hb => ?_) (fun hb => ?_)
      | refine callK (by simp only [go_sem, Nat.reduceLT, Nat.reduceLeDiff, Nat.reduceEqDiff, Nat.reduceAdd, Nat.reduceMul, Nat.reduceSub, reduceCtorEq, hz, List.mem_cons, List.not_mem_nil, or_false, forall_eq_or_imp, forall_eq, frzOk, frzOkC]; try simp) (args' := _) (by simp only [go_sem, Nat.reduceLT, Nat.reduceLeDiff, Nat.reduceEqDiff, Nat.reduceAdd, Nat.reduceMul, Nat.reduceSub, reduceCtorEq, hz, frzA, frzC]; try rfl) (by first | exact szEntryS_ok es _ (by omega) (by omega) hl) (by simp only [go_sem, Nat.reduceLT, Nat.reduceLeDiff, Nat.reduceEqDiff, Nat.reduceAdd, Nat.reduceMul, Nat.reduceSub, reduceCtorEq, hz]; try simp) (by decide) ?_
      | simp only [go_sem, Nat.reduceLT, Nat.reduceLeDiff, Nat.reduceEqDiff, Nat.reduceAdd, Nat.reduceMul, Nat.reduceSub, reduceCtorEq, hz]
      | simp (disch := omega) only [if_pos, if_neg, wrap_id, le_maxLen, and_true, true_and, if_true, ite_true]
      | refine guard_split (by simp only [go_sem, Nat.reduceLT, Nat.reduceLeDiff, Nat.reduceEqDiff, Nat.reduceAdd, Nat.reduceMul, Nat.reduceSub, reduceCtorEq, hz]) rfl (fun hb => ?_) (fun hb => ?_)
    refine ret_scal (by simp only [go_sem, Nat.reduceLT, Nat.reduceLeDiff, Nat.reduceEqDiff, Nat.reduceAdd, Nat.reduceMul, Nat.reduceSub, reduceCtorEq]; rfl) rfl ?_
    rfl
  have hz : szB es.length 1048576 = 1048576 - es.length := by unfold szB; rw [if_neg (by omega)]
  obtain ⟨rs, c, hr⟩ : ∃ rs c, setNewL es o v = (rs, c) := ⟨_, _, rfl⟩
  have hrl : rs.length ≤ 1048576 := by
    have := setNewL_len es o v
    rw [hr] at this
    simp only at this
    omega
  have hmt := rowsE_take (marksE 1 rs.length)
  rw [marksE_len] at hmt
  have hmt2 := rowsE_take (marksE 1 es.length)
  rw [marksE_len] at hmt2
  repeat' first
    | refine VWP_seq_k fun _ hK => ?_
    | refine VWP_region_k hT ?_
    | refine VWP_draw_k hT hM (by kernel_rfl) rfl ?_
    | refine VWP_block ?_
    | refine VWP_skip ?_
    | refine VWP_exit ?_
    | refine VWP_ret ?_
    | (refine hK _ ?_; clear hK)
    | (clear hK; refine hK _ ?_; clear hK)
    | (clear hK; clear hK; refine hK _ ?_; clear hK)
    | (clear hK; clear hK; clear hK; refine hK _ ?_; clear hK)
    | (simp only [decide_eq_true_eq, decide_eq_false_iff_not, bne_iff_ne, ne_eq, Bool.not_eq_true', Bool.not_eq_false', Bool.true_eq_false, Bool.false_eq_true, reduceCtorEq, not_true_eq_false, eq_self] at hb <;> try (exfalso; omega))
    | refine VWP_cond2 _ (by simp only [go_sem, Nat.reduceLT, Nat.reduceLeDiff, Nat.reduceEqDiff, Nat.reduceAdd, Nat.reduceMul, Nat.reduceSub, reduceCtorEq, hz, hmt, hmt2, rowsE_len, rowsE_pur, rowsE_take, marksE_len, Nat.le_refl]; rfl) (fun hb => ?_) (fun hb => ?_)
    | refine callK (by simp only [go_sem, Nat.reduceLT, Nat.reduceLeDiff, Nat.reduceEqDiff, Nat.reduceAdd, Nat.reduceMul, Nat.reduceSub, reduceCtorEq, hz, hmt, hmt2, rowsE_len, rowsE_pur, rowsE_take, marksE_len, Nat.le_refl, List.mem_cons, List.not_mem_nil, or_false, forall_eq_or_imp, forall_eq, frzOk, frzOkC]; try simp) (args' := _) (by simp only [go_sem, Nat.reduceLT, Nat.reduceLeDiff, Nat.reduceEqDiff, Nat.reduceAdd, Nat.reduceMul, Nat.reduceSub, reduceCtorEq, hz, hmt, hmt2, rowsE_len, rowsE_pur, rowsE_take, marksE_len, Nat.le_refl, frzA, frzC]; try rfl) (by first | exact szEntryS_ok es _ (by omega) (by omega) hl | exact toEntryS_ok es hsm | exact specSetNew_ok es o v (rs, c) hr hsm | exact implSetNew_ok es o v (rs, c) hr hsm | exact eqEntryS_ok es es hsm | exact eqEntryS_ok rs rs hrl | exact heldEntryS_ok rs.length 1 (by omega) (by omega) (by omega)) (by simp only [go_sem, Nat.reduceLT, Nat.reduceLeDiff, Nat.reduceEqDiff, Nat.reduceAdd, Nat.reduceMul, Nat.reduceSub, reduceCtorEq, hz, hmt, hmt2, rowsE_len, rowsE_pur, rowsE_take, marksE_len, Nat.le_refl]; try simp) (by decide) ?_
    | refine callO [2] (by simp) (by simp only [go_sem, Nat.reduceLT, Nat.reduceLeDiff, Nat.reduceEqDiff, Nat.reduceAdd, Nat.reduceMul, Nat.reduceSub, reduceCtorEq, hz, hmt, hmt2, rowsE_len, rowsE_pur, rowsE_take, marksE_len, Nat.le_refl, List.mem_cons, List.not_mem_nil, or_false, forall_eq_or_imp, forall_eq, viewOkE, viewOkC]; try simp) (by simp only [go_sem, Nat.reduceLT, Nat.reduceLeDiff, Nat.reduceEqDiff, Nat.reduceAdd, Nat.reduceMul, Nat.reduceSub, reduceCtorEq, hz, hmt, hmt2, rowsE_len, rowsE_pur, rowsE_take, marksE_len, Nat.le_refl, List.mem_cons, List.not_mem_nil, or_false, forall_eq_or_imp, forall_eq, viewOk, viewOkC, frzOk, frzOkC]; try simp) (args' := _) (by simp only [go_sem, Nat.reduceLT, Nat.reduceLeDiff, Nat.reduceEqDiff, Nat.reduceAdd, Nat.reduceMul, Nat.reduceSub, reduceCtorEq, hz, hmt, hmt2, rowsE_len, rowsE_pur, rowsE_take, marksE_len, Nat.le_refl, frzA, frzC]; try rfl) (I := _) (by simp only [go_sem, Nat.reduceLT, Nat.reduceLeDiff, Nat.reduceEqDiff, Nat.reduceAdd, Nat.reduceMul, Nat.reduceSub, reduceCtorEq, hz, hmt, hmt2, rowsE_len, rowsE_pur, rowsE_take, marksE_len, Nat.le_refl]; try rfl) (by exact markEntryS_ok es 1 (by omega) (by omega) (by omega)) (by decide) ?_
    | refine callO [3] (by simp) (by simp only [go_sem, Nat.reduceLT, Nat.reduceLeDiff, Nat.reduceEqDiff, Nat.reduceAdd, Nat.reduceMul, Nat.reduceSub, reduceCtorEq, hz, hmt, hmt2, rowsE_len, rowsE_pur, rowsE_take, marksE_len, Nat.le_refl, List.mem_cons, List.not_mem_nil, or_false, forall_eq_or_imp, forall_eq, viewOkE, viewOkC]; try simp) (by simp only [go_sem, Nat.reduceLT, Nat.reduceLeDiff, Nat.reduceEqDiff, Nat.reduceAdd, Nat.reduceMul, Nat.reduceSub, reduceCtorEq, hz, hmt, hmt2, rowsE_len, rowsE_pur, rowsE_take, marksE_len, Nat.le_refl, List.mem_cons, List.not_mem_nil, or_false, forall_eq_or_imp, forall_eq, viewOk, viewOkC, frzOk, frzOkC]; try simp) (args' := _) (by simp only [go_sem, Nat.reduceLT, Nat.reduceLeDiff, Nat.reduceEqDiff, Nat.reduceAdd, Nat.reduceMul, Nat.reduceSub, reduceCtorEq, hz, hmt, hmt2, rowsE_len, rowsE_pur, rowsE_take, marksE_len, Nat.le_refl, frzA, frzC]; try rfl) (I := _) (by simp only [go_sem, Nat.reduceLT, Nat.reduceLeDiff, Nat.reduceEqDiff, Nat.reduceAdd, Nat.reduceMul, Nat.reduceSub, reduceCtorEq, hz, hmt, hmt2, rowsE_len, rowsE_pur, rowsE_take, marksE_len, Nat.le_refl]; try rfl) (by exact markEntryS_ok rs 1 (by omega) (by omega) (by omega)) (by decide) ?_
    | simp only [go_sem, Nat.reduceLT, Nat.reduceLeDiff, Nat.reduceEqDiff, Nat.reduceAdd, Nat.reduceMul, Nat.reduceSub, reduceCtorEq, hz, hmt, hmt2, rowsE_len, rowsE_pur, rowsE_take, marksE_len, Nat.le_refl]
    | simp (disch := omega) only [if_pos, if_neg, wrap_id, le_maxLen, and_true, true_and, if_true, ite_true]
    | refine guard_split (by simp only [go_sem, Nat.reduceLT, Nat.reduceLeDiff, Nat.reduceEqDiff, Nat.reduceAdd, Nat.reduceMul, Nat.reduceSub, reduceCtorEq, hz, hmt, hmt2, rowsE_len, rowsE_pur, rowsE_take, marksE_len, Nat.le_refl]) rfl (fun hb => ?_) (fun hb => ?_)
  refine ret_scal (by simp only [go_sem, Nat.reduceLT, Nat.reduceLeDiff, Nat.reduceEqDiff, Nat.reduceAdd, Nat.reduceMul, Nat.reduceSub, reduceCtorEq]; rfl) rfl ?_
  rfl
end Go.Proofs.Ytdlhmofplehpgaa
