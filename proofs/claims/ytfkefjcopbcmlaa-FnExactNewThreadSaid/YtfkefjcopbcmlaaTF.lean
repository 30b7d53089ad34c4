/- The law of NewThread on values. -/
import Derived.Test.YtfkefjcopbcmlaaTE
namespace Go.Proofs.Ytfkefjcopbcmlaa
open Go Go.RowKit
set_option linter.unusedVariables false
set_option linter.unusedSimpArgs false
set_option maxRecDepth 100000
set_option maxHeartbeats 4000000
attribute [local irreducible] VWP vops vdraw contV contD CallK Guard GuardV NextL Puts Runs RetOK RetQ RetO RetQO thenQ blockQ

theorem newThreadL_len (id : Int) (xs : List InsS) (hl : xs.length ≤ 1048576) : (newThreadL id xs).1.prog.length ≤ 1048576 ∧ (newThreadL id xs).1.opens.length ≤ 1048576 ∧ (newThreadL id xs).1.stack.length ≤ 1048576 := by
  unfold newThreadL
  split
  · exact ⟨hl, by simp, by simp⟩
  · exact ⟨by simp [zeroT], by simp [zeroT], by simp [zeroT]⟩
theorem newThreadLaw_ok (id : Int) (xs : List InsS) (hl : xs.length ≤ 9223372036854775807) : SatP Try.prog 13 [.int .i64 id, .fr 168 (rowsI xs)] (.bool true) [] := by
  refine satP_of_body hT Try.func13 (by kernel_rfl) rfl (rs := [.tmp 4]) rfl (n := 101) rfl (by simp) rfl (by simp) fun E => ?_
  unfold St.init
  rcases Nat.lt_or_ge 1048576 xs.length with hbig | hsm
  · have hz : szB xs.length 1048576 = -1 := by unfold szB; rw [if_pos (by omega)]
    repeat' first
      | refine VWP_seq_k fun _ hK => ?_
      | refine VWP_region_k hT ?_
      | refine VWP_draw_k hT hM (by kernel_rfl) rfl ?_
      | refine VWP_block ?_
      | refine VWP_skip ?_
      | refine VWP_exit ?_
      | refine VWP_ret ?_
      | (refine hK _ ?_; clear hK)
      | (clear hK; refine hK _ ?_; clear hK)
      | (clear hK; clear hK; refine hK _ ?_; clear hK)
      | (clear hK; clear hK; clear hK; refine hK _ ?_; clear hK)
      | (simp only [decide_eq_true_eq, decide_eq_false_iff_not, bne_iff_ne, ne_eq, Bool.not_eq_true', Bool.not_eq_false', Bool.true_eq_false, Bool.false_eq_true, reduceCtorEq, not_true_eq_false, eq_self] at hb <;> try (exfalso; omega))
      | refine VWP_cond2 _ (by simp only [go_sem, Nat.reduceLT, Nat.reduceLeDiff, Nat.reduceEqDiff, Nat.reduceAdd, Nat.reduceMul, Nat.reduceSub, reduceCtorEq, hz]; rfl) (fun hb => ?_) (fun hb => ?_)
      | refine callK (by simp only [go_sem, Nat.reduceLT, Nat.reduceLeDiff, Nat.reduceEqDiff, Nat.reduceAdd, Nat.reduceMul, Nat.reduceSub, reduceCtorEq, hz, List.mem_cons, List.not_mem_nil, or_false, forall_eq_or_imp, forall_eq, frzOk, frzOkC]; try simp) (args' := _) (by simp only [go_sem, Nat.reduceLT, Nat.reduceLeDiff, Nat.reduceEqDiff, Nat.reduceAdd, Nat.reduceMul, Nat.reduceSub, reduceCtorEq, hz, frzA, frzC]; try rfl) (by first | exact szInstrS_ok xs _ (by omega) (by omega) hl) (by simp only [go_sem, Nat.reduceLT, Nat.reduceLeDiff, Nat.reduceEqDiff, Nat.reduceAdd, Nat.reduceMul, Nat.reduceSub, reduceCtorEq, hz]; try simp) (by decide) ?_
      | simp only [go_sem, Nat.reduceLT, Nat.reduceLeDiff, Nat.reduceEqDiff, Nat.reduceAdd, Nat.reduceMul, Nat.reduceSub, reduceCtorEq, hz]
      | simp (disch := omega) only [decide_eq_true_eq, if_pos, if_neg, wrap_id, le_maxLen, and_true, true_and, if_true, ite_true]
      | refine guard_split (by simp only [go_sem, Nat.reduceLT, Nat.reduceLeDiff, Nat.reduceEqDiff, Nat.reduceAdd, Nat.reduceMul, Nat.reduceSub, reduceCtorEq, hz]) rfl (fun hb => ?_) (fun hb => ?_)
    refine ret_scal (by simp only [go_sem, Nat.reduceLT, Nat.reduceLeDiff, Nat.reduceEqDiff, Nat.reduceAdd, Nat.reduceMul, Nat.reduceSub, reduceCtorEq]; rfl) rfl ?_
    rfl
  have hz : szB xs.length 1048576 = 1048576 - xs.length := by unfold szB; rw [if_neg (by omega)]
  have hlen := newThreadL_len id xs hsm
  obtain ⟨t, c, hr⟩ : ∃ t c, newThreadL id xs = (t, c) := ⟨_, _, rfl⟩
  rw [hr] at hlen
  obtain ⟨l1, l2, l3⟩ := hlen
  simp only at l1 l2 l3
  have m0 := rowsI_take (marksI 1 xs.length)
  rw [marksI_len] at m0
  have m1 := rowsI_take (marksI 1 t.prog.length)
  rw [marksI_len] at m1
  have m2 := rowsE_take (marksE (1 + 3 * t.prog.length) t.opens.length)
  rw [marksE_len] at m2
  have m3 := rowsF_take (marksF (1 + 3 * t.prog.length + 5 * t.opens.length) t.stack.length)
  rw [marksF_len] at m3
  have c1 := specNewThread_ok id xs (t, c) hr hsm
  have c2 := implNewThread_ok id xs (t, c) hr hsm
  have hq := eqThread_ok t t l1 l2 l3
  have hh := heldThread_ok t 1 (by omega) (by omega) l1 l2 l3
  have hm := markThread_ok t 1 (by omega) (by omega) l1 l2 l3
  unfold outT at c1 c2
  unfold ThreadD.cells at hq
  simp only at c1 c2
  repeat' first
    | refine VWP_seq_k fun _ hK => ?_
    | refine VWP_region_k hT ?_
    | refine VWP_draw_k hT hM (by kernel_rfl) rfl ?_
    | refine VWP_block ?_
    | refine VWP_skip ?_
    | refine VWP_exit ?_
    | refine VWP_ret ?_
    | (refine hK _ ?_; clear hK)
    | (clear hK; refine hK _ ?_; clear hK)
    | (clear hK; clear hK; refine hK _ ?_; clear hK)
    | (clear hK; clear hK; clear hK; refine hK _ ?_; clear hK)
    | (simp only [decide_eq_true_eq, decide_eq_false_iff_not, bne_iff_ne, ne_eq, Bool.not_eq_true', Bool.not_eq_false', Bool.true_eq_false, Bool.false_eq_true, reduceCtorEq, not_true_eq_false, eq_self] at hb <;> try (exfalso; omega))
    | refine VWP_cond2 _ (by simp only [go_sem, Nat.reduceLT, Nat.reduceLeDiff, Nat.reduceEqDiff, Nat.reduceAdd, Nat.reduceMul, Nat.reduceSub, reduceCtorEq, hz, m0, m1, m2, m3, rowsI_len, rowsI_pur, rowsI_take, rowsE_len, rowsE_pur, rowsE_take, rowsF_len, rowsF_pur, rowsF_take, marksI_len, marksE_len, marksF_len, Nat.le_refl]; rfl) (fun hb => ?_) (fun hb => ?_)
    | refine callK (by simp only [go_sem, Nat.reduceLT, Nat.reduceLeDiff, Nat.reduceEqDiff, Nat.reduceAdd, Nat.reduceMul, Nat.reduceSub, reduceCtorEq, hz, m0, m1, m2, m3, rowsI_len, rowsI_pur, rowsI_take, rowsE_len, rowsE_pur, rowsE_take, rowsF_len, rowsF_pur, rowsF_take, marksI_len, marksE_len, marksF_len, Nat.le_refl, List.mem_cons, List.not_mem_nil, or_false, forall_eq_or_imp, forall_eq, frzOk, frzOkC]; try simp) (args' := _) (by simp only [go_sem, Nat.reduceLT, Nat.reduceLeDiff, Nat.reduceEqDiff, Nat.reduceAdd, Nat.reduceMul, Nat.reduceSub, reduceCtorEq, hz, m0, m1, m2, m3, rowsI_len, rowsI_pur, rowsI_take, rowsE_len, rowsE_pur, rowsE_take, rowsF_len, rowsF_pur, rowsF_take, marksI_len, marksE_len, marksF_len, Nat.le_refl, frzA, frzC]; try rfl) (by first | exact szInstrS_ok xs _ (by omega) (by omega) hl | exact toInstrS_ok xs hsm | exact c1 | exact c2 | exact hq | exact hh | exact eqInstrS_ok xs xs hsm) (by simp only [go_sem, Nat.reduceLT, Nat.reduceLeDiff, Nat.reduceEqDiff, Nat.reduceAdd, Nat.reduceMul, Nat.reduceSub, reduceCtorEq, hz, m0, m1, m2, m3, rowsI_len, rowsI_pur, rowsI_take, rowsE_len, rowsE_pur, rowsE_take, rowsF_len, rowsF_pur, rowsF_take, marksI_len, marksE_len, marksF_len, Nat.le_refl]; try simp) (by decide) ?_
    | refine callO [5] (by simp) (by simp only [go_sem, Nat.reduceLT, Nat.reduceLeDiff, Nat.reduceEqDiff, Nat.reduceAdd, Nat.reduceMul, Nat.reduceSub, reduceCtorEq, hz, m0, m1, m2, m3, rowsI_len, rowsI_pur, rowsI_take, rowsE_len, rowsE_pur, rowsE_take, rowsF_len, rowsF_pur, rowsF_take, marksI_len, marksE_len, marksF_len, Nat.le_refl, List.mem_cons, List.not_mem_nil, or_false, forall_eq_or_imp, forall_eq, viewOkE, viewOkC]; try simp) (by simp only [go_sem, Nat.reduceLT, Nat.reduceLeDiff, Nat.reduceEqDiff, Nat.reduceAdd, Nat.reduceMul, Nat.reduceSub, reduceCtorEq, hz, m0, m1, m2, m3, rowsI_len, rowsI_pur, rowsI_take, rowsE_len, rowsE_pur, rowsE_take, rowsF_len, rowsF_pur, rowsF_take, marksI_len, marksE_len, marksF_len, Nat.le_refl, List.mem_cons, List.not_mem_nil, or_false, forall_eq_or_imp, forall_eq, viewOk, viewOkC, frzOk, frzOkC]; try simp) (args' := _) (by simp only [go_sem, Nat.reduceLT, Nat.reduceLeDiff, Nat.reduceEqDiff, Nat.reduceAdd, Nat.reduceMul, Nat.reduceSub, reduceCtorEq, hz, m0, m1, m2, m3, rowsI_len, rowsI_pur, rowsI_take, rowsE_len, rowsE_pur, rowsE_take, rowsF_len, rowsF_pur, rowsF_take, marksI_len, marksE_len, marksF_len, Nat.le_refl, frzA, frzC]; try rfl) (I := _) (by simp only [go_sem, Nat.reduceLT, Nat.reduceLeDiff, Nat.reduceEqDiff, Nat.reduceAdd, Nat.reduceMul, Nat.reduceSub, reduceCtorEq, hz, m0, m1, m2, m3, rowsI_len, rowsI_pur, rowsI_take, rowsE_len, rowsE_pur, rowsE_take, rowsF_len, rowsF_pur, rowsF_take, marksI_len, marksE_len, marksF_len, Nat.le_refl]; try rfl) (by exact markInstrS_ok xs 1 (by omega) (by omega) (by omega)) (by decide) ?_
    | refine callO [6, 7, 8] (by simp) (by simp only [go_sem, Nat.reduceLT, Nat.reduceLeDiff, Nat.reduceEqDiff, Nat.reduceAdd, Nat.reduceMul, Nat.reduceSub, reduceCtorEq, hz, m0, m1, m2, m3, rowsI_len, rowsI_pur, rowsI_take, rowsE_len, rowsE_pur, rowsE_take, rowsF_len, rowsF_pur, rowsF_take, marksI_len, marksE_len, marksF_len, Nat.le_refl, List.mem_cons, List.not_mem_nil, or_false, forall_eq_or_imp, forall_eq, viewOkE, viewOkC]; try simp) (by simp only [go_sem, Nat.reduceLT, Nat.reduceLeDiff, Nat.reduceEqDiff, Nat.reduceAdd, Nat.reduceMul, Nat.reduceSub, reduceCtorEq, hz, m0, m1, m2, m3, rowsI_len, rowsI_pur, rowsI_take, rowsE_len, rowsE_pur, rowsE_take, rowsF_len, rowsF_pur, rowsF_take, marksI_len, marksE_len, marksF_len, Nat.le_refl, List.mem_cons, List.not_mem_nil, or_false, forall_eq_or_imp, forall_eq, viewOk, viewOkC, frzOk, frzOkC]; try simp) (args' := _) (by simp only [go_sem, Nat.reduceLT, Nat.reduceLeDiff, Nat.reduceEqDiff, Nat.reduceAdd, Nat.reduceMul, Nat.reduceSub, reduceCtorEq, hz, m0, m1, m2, m3, rowsI_len, rowsI_pur, rowsI_take, rowsE_len, rowsE_pur, rowsE_take, rowsF_len, rowsF_pur, rowsF_take, marksI_len, marksE_len, marksF_len, Nat.le_refl, frzA, frzC]; try rfl) (I := _) (by simp only [go_sem, Nat.reduceLT, Nat.reduceLeDiff, Nat.reduceEqDiff, Nat.reduceAdd, Nat.reduceMul, Nat.reduceSub, reduceCtorEq, hz, m0, m1, m2, m3, rowsI_len, rowsI_pur, rowsI_take, rowsE_len, rowsE_pur, rowsE_take, rowsF_len, rowsF_pur, rowsF_take, marksI_len, marksE_len, marksF_len, Nat.le_refl]; try rfl) (by exact hm) (by decide) ?_
    | simp only [go_sem, Nat.reduceLT, Nat.reduceLeDiff, Nat.reduceEqDiff, Nat.reduceAdd, Nat.reduceMul, Nat.reduceSub, reduceCtorEq, hz, m0, m1, m2, m3, rowsI_len, rowsI_pur, rowsI_take, rowsE_len, rowsE_pur, rowsE_take, rowsF_len, rowsF_pur, rowsF_take, marksI_len, marksE_len, marksF_len, Nat.le_refl]
    | simp (disch := omega) only [decide_eq_true_eq, if_pos, if_neg, wrap_id, le_maxLen, and_true, true_and, if_true, ite_true]
    | refine guard_split (by simp only [go_sem, Nat.reduceLT, Nat.reduceLeDiff, Nat.reduceEqDiff, Nat.reduceAdd, Nat.reduceMul, Nat.reduceSub, reduceCtorEq, hz, m0, m1, m2, m3, rowsI_len, rowsI_pur, rowsI_take, rowsE_len, rowsE_pur, rowsE_take, rowsF_len, rowsF_pur, rowsF_take, marksI_len, marksE_len, marksF_len, Nat.le_refl]) rfl (fun hb => ?_) (fun hb => ?_)
  refine ret_scal (by simp only [go_sem, Nat.reduceLT, Nat.reduceLeDiff, Nat.reduceEqDiff, Nat.reduceAdd, Nat.reduceMul, Nat.reduceSub, reduceCtorEq]; rfl) rfl ?_
  rfl
end Go.Proofs.Ytfkefjcopbcmlaa
