/- What both NewThread give, and the law on values. -/
import Derived.Test.YtclljpdcpcolpaaTD
namespace Go.Proofs.Ytclljpdcpcolpaa
open Go Go.RowKit
set_option linter.unusedVariables false
set_option linter.unusedSimpArgs false
set_option maxRecDepth 100000
set_option maxHeartbeats 4000000
attribute [local irreducible] VWP vops vdraw contV contD CallK Guard GuardV NextL Puts Runs RetOK RetQ RetO RetQO thenQ blockQ

theorem rowsI_scal (es : List InsS) : (rowsI es).all (·.all scal) = true := by
  simp [rowsI, InsS.enc, scal, List.all_eq_true]
def progOkB (xs : List InsS) : Bool := decide (xs.length ≤ 30) && xs.all (fun e => e.ok xs.length)
def zeroT : ThreadD := ⟨0, [], 0, 0, 0, 0, 0, [], 0, [], 0, 0, 0, 0⟩
def newThreadL (id : Int) (xs : List InsS) : ThreadD × Bool := if inB id 0 3 = true ∧ progOkB xs = true then (⟨id, xs, 0, 0, 0, 0, 0, [], -1, [], -1, 0, 0, 0⟩, true) else (zeroT, false)
def outT (t : ThreadD) : VV := .agg [.int .i64 t.id, .rf 0 t.prog.length, .int .i64 t.pc, .int .i64 t.r0, .int .i64 t.r1, .int .i64 t.r2, .int .i64 t.r3, .rf 1 t.opens.length, .int .i64 t.check, .rf 2 t.stack.length, .int .i64 t.mine, .int .i64 t.state, .int .i64 t.commits, .int .i64 t.fails]
theorem implNewThread_ok (id : Int) (xs : List InsS) (r : ThreadD × Bool) (hr : newThreadL id xs = r) (hl : xs.length ≤ 1048576) :
    SatP Try.prog 115 [.int .i64 id, .fr 146 (rowsI xs)] (.tup [outT r.1, .bool r.2])
      [(146, rowsI r.1.prog), (131, rowsE r.1.opens), (69, rowsF r.1.stack)] := by
  have hc := implProgOk_ok xs hl
  change SatP Try.prog _ _ (.bool (progOkB xs)) [] at hc
  refine satP_of_body hT Try.func115 (by kernel_rfl) rfl (rs := [.cell 4 83, .tmp 5]) rfl (n := 20) rfl (by simp) rfl (by simp [rowsI_pur, rowsE_pur, rowsF_pur]) fun E hE => ?_
  unfold St.init
  by_cases h : inB id 0 3 = true ∧ progOkB xs = true
  · obtain ⟨c1, c2⟩ := h
    have he : newThreadL id xs = (⟨id, xs, 0, 0, 0, 0, 0, [], -1, [], -1, 0, 0, 0⟩, true) := by simp [newThreadL, c1, c2]
    rw [he] at hr
    subst hr
    have F := And.intro @rowsI_len (And.intro @rowsI_scal (And.intro c1 c2))
    repeat' first
      | refine wSq fun _ hK => ?_
      | refine wRg ?_
      | refine wDr ?_
      | refine VWP_block ?_
      | refine VWP_skip ?_
      | refine VWP_exit ?_
      | refine VWP_ret ?_
      | (refine hK _ ?_; clear hK)
      | (clear hK; refine hK _ ?_; clear hK)
      | (clear hK; clear hK; refine hK _ ?_; clear hK)
      | (clear hK; clear hK; clear hK; refine hK _ ?_; clear hK)
      | (simp only [wHb, reduceCtorEq] at hb <;> try (exfalso; omega))
      | refine wCd (fun hb => ?_) fun hb => ?_
      | refine wCa (c := by first | exact isThread_ok _ | exact hc) (k := ?_)
      | simp only [go_sem, Nat.reduceLT, Nat.reduceLeDiff, Nat.reduceEqDiff, Nat.reduceAdd, Nat.reduceMul, Nat.reduceSub, reduceCtorEq, F]
      | simp (disch := omega) only [decide_eq_true_eq, if_pos, if_neg, wrap_id, le_maxLen, and_true, true_and, if_true, ite_true]
      | refine wGd (fun hb => ?_) fun hb => ?_
    refine ret_mk (vs := _) (acc := _) (by simp only [go_sem, Nat.reduceLT, Nat.reduceLeDiff, Nat.reduceEqDiff, Nat.reduceAdd, Nat.reduceMul, Nat.reduceSub, reduceCtorEq, vres]; rfl) (by simp only [go_sem, Nat.reduceLT, Nat.reduceLeDiff, Nat.reduceEqDiff, Nat.reduceAdd, Nat.reduceMul, Nat.reduceSub, reduceCtorEq, wrap, exV, exAs, exA, exCs, exC, rowsI_len, rowsI_take, Nat.zero_add, Nat.le_refl]; rfl) (by simp) (by simp [rowsE, rowsF]) (by simp [rowsI_pur, rowsE_pur, rowsF_pur])
  · have he : newThreadL id xs = (zeroT, false) := by simp only [newThreadL, if_neg h]
    rw [he] at hr
    subst hr
    have c0 : (inB id 0 3 && progOkB xs) = false := by simpa using h
    have F := And.intro @rowsI_len @rowsI_scal
    repeat' first
      | refine wSq fun _ hK => ?_
      | refine wRg ?_
      | refine wDr ?_
      | refine VWP_block ?_
      | refine VWP_skip ?_
      | refine VWP_exit ?_
      | refine VWP_ret ?_
      | (refine hK _ ?_; clear hK)
      | (clear hK; refine hK _ ?_; clear hK)
      | (clear hK; clear hK; refine hK _ ?_; clear hK)
      | (clear hK; clear hK; clear hK; refine hK _ ?_; clear hK)
      | (simp only [wHb, reduceCtorEq] at hb <;> try (exfalso; omega))
      | refine wCd (fun hb => ?_) fun hb => ?_
      | refine wCa (c := by first | exact isThread_ok _ | exact hc) (k := ?_)
      | simp only [go_sem, Nat.reduceLT, Nat.reduceLeDiff, Nat.reduceEqDiff, Nat.reduceAdd, Nat.reduceMul, Nat.reduceSub, reduceCtorEq, F]
      | simp (disch := omega) only [decide_eq_true_eq, if_pos, if_neg, wrap_id, le_maxLen, and_true, true_and, if_true, ite_true]
      | refine wGd (fun hb => ?_) fun hb => ?_
    all_goals first
      | (refine ret_mk (vs := _) (acc := _) (by simp only [go_sem, Nat.reduceLT, Nat.reduceLeDiff, Nat.reduceEqDiff, Nat.reduceAdd, Nat.reduceMul, Nat.reduceSub, reduceCtorEq, vres]; rfl) (by simp only [go_sem, Nat.reduceLT, Nat.reduceLeDiff, Nat.reduceEqDiff, Nat.reduceAdd, Nat.reduceMul, Nat.reduceSub, reduceCtorEq, wrap, exV, exAs, exA, exCs, exC]; rfl) (by simp) (by simp [rowsI, rowsE, rowsF, zeroT]) (by simp [rowsI_pur, rowsE_pur, rowsF_pur])
         done)
      | (exfalso; simp_all)
theorem specNewThread_ok (id : Int) (xs : List InsS) (r : ThreadD × Bool) (hr : newThreadL id xs = r) (hl : xs.length ≤ 1048576) :
    SatP Try.prog 112 [.int .i64 id, .fr 146 (rowsI xs)] (.tup [outT r.1, .bool r.2])
      [(146, rowsI r.1.prog), (131, rowsE r.1.opens), (69, rowsF r.1.stack)] := by
  have hc := specProgOk_ok xs hl
  change SatP Try.prog _ _ (.bool (progOkB xs)) [] at hc
  refine satP_of_body hT Try.func112 (by kernel_rfl) rfl (rs := [.cell 4 83, .tmp 5]) rfl (n := 20) rfl (by simp) rfl (by simp [rowsI_pur, rowsE_pur, rowsF_pur]) fun E hE => ?_
  unfold St.init
  by_cases h : inB id 0 3 = true ∧ progOkB xs = true
  · obtain ⟨c1, c2⟩ := h
    have he : newThreadL id xs = (⟨id, xs, 0, 0, 0, 0, 0, [], -1, [], -1, 0, 0, 0⟩, true) := by simp [newThreadL, c1, c2]
    rw [he] at hr
    subst hr
    have F := And.intro @rowsI_len (And.intro @rowsI_scal (And.intro c1 c2))
    repeat' first
      | refine wSq fun _ hK => ?_
      | refine wRg ?_
      | refine wDr ?_
      | refine VWP_block ?_
      | refine VWP_skip ?_
      | refine VWP_exit ?_
      | refine VWP_ret ?_
      | (refine hK _ ?_; clear hK)
      | (clear hK; refine hK _ ?_; clear hK)
      | (clear hK; clear hK; refine hK _ ?_; clear hK)
      | (clear hK; clear hK; clear hK; refine hK _ ?_; clear hK)
      | (simp only [wHb, reduceCtorEq] at hb <;> try (exfalso; omega))
      | refine wCd (fun hb => ?_) fun hb => ?_
      | refine wCa (c := by first | exact l1In_ok _ _ _ | exact hc) (k := ?_)
      | simp only [go_sem, Nat.reduceLT, Nat.reduceLeDiff, Nat.reduceEqDiff, Nat.reduceAdd, Nat.reduceMul, Nat.reduceSub, reduceCtorEq, F]
      | simp (disch := omega) only [decide_eq_true_eq, if_pos, if_neg, wrap_id, le_maxLen, and_true, true_and, if_true, ite_true]
      | refine wGd (fun hb => ?_) fun hb => ?_
    refine ret_mk (vs := _) (acc := _) (by simp only [go_sem, Nat.reduceLT, Nat.reduceLeDiff, Nat.reduceEqDiff, Nat.reduceAdd, Nat.reduceMul, Nat.reduceSub, reduceCtorEq, vres]; rfl) (by simp only [go_sem, Nat.reduceLT, Nat.reduceLeDiff, Nat.reduceEqDiff, Nat.reduceAdd, Nat.reduceMul, Nat.reduceSub, reduceCtorEq, wrap, exV, exAs, exA, exCs, exC, rowsI_len, rowsI_take, Nat.zero_add, Nat.le_refl]; rfl) (by simp) (by simp [rowsE, rowsF]) (by simp [rowsI_pur, rowsE_pur, rowsF_pur])
  · have he : newThreadL id xs = (zeroT, false) := by simp only [newThreadL, if_neg h]
    rw [he] at hr
    subst hr
    have c0 : (inB id 0 3 && progOkB xs) = false := by simpa using h
    have F := And.intro @rowsI_len @rowsI_scal
    repeat' first
      | refine wSq fun _ hK => ?_
      | refine wRg ?_
      | refine wDr ?_
      | refine VWP_block ?_
      | refine VWP_skip ?_
      | refine VWP_exit ?_
      | refine VWP_ret ?_
      | (refine hK _ ?_; clear hK)
      | (clear hK; refine hK _ ?_; clear hK)
      | (clear hK; clear hK; refine hK _ ?_; clear hK)
      | (clear hK; clear hK; clear hK; refine hK _ ?_; clear hK)
      | (simp only [wHb, reduceCtorEq] at hb <;> try (exfalso; omega))
      | refine wCd (fun hb => ?_) fun hb => ?_
      | refine wCa (c := by first | exact l1In_ok _ _ _ | exact hc) (k := ?_)
      | simp only [go_sem, Nat.reduceLT, Nat.reduceLeDiff, Nat.reduceEqDiff, Nat.reduceAdd, Nat.reduceMul, Nat.reduceSub, reduceCtorEq, F]
      | simp (disch := omega) only [decide_eq_true_eq, if_pos, if_neg, wrap_id, le_maxLen, and_true, true_and, if_true, ite_true]
      | refine wGd (fun hb => ?_) fun hb => ?_
    all_goals first
      | (refine ret_mk (vs := _) (acc := _) (by simp only [go_sem, Nat.reduceLT, Nat.reduceLeDiff, Nat.reduceEqDiff, Nat.reduceAdd, Nat.reduceMul, Nat.reduceSub, reduceCtorEq, vres]; rfl) (by simp only [go_sem, Nat.reduceLT, Nat.reduceLeDiff, Nat.reduceEqDiff, Nat.reduceAdd, Nat.reduceMul, Nat.reduceSub, reduceCtorEq, wrap, exV, exAs, exA, exCs, exC]; rfl) (by simp) (by simp [rowsI, rowsE, rowsF, zeroT]) (by simp [rowsI_pur, rowsE_pur, rowsF_pur])
         done)
      | (exfalso; simp_all)
end Go.Proofs.Ytclljpdcpcolpaa
