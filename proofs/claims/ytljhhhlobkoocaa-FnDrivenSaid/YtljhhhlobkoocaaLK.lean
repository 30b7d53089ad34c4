/- What Drive gives: the program's. -/
import Derived.Test.YtljhhhlobkoocaaLJ
import Derived.Test.YtljhhhlobkoocaaLB
import Derived.Test.YtljhhhlobkoocaaYB
import Derived.Test.YtljhhhlobkoocaaSL
namespace Go.Proofs.Ytljhhhlobkoocaa
open Go Go.RowKit
set_option linter.unusedVariables false
set_option linter.unusedSimpArgs false
set_option maxRecDepth 100000
set_option maxHeartbeats 4000000
attribute [local irreducible] VWP vops vdraw contV contD CallK Guard GuardV NextL Puts Runs RetOK RetQ RetO RetQO thenQ blockQ

/-- What Drive gives: r is the reference's step where the frame is right; else nothing moves. -/
def DriveP (s : StoreD) (f : FrameD) (r : StoreD × FrameD × Int) : Prop :=
  (frameB s f = false ∧ r = (s, f, -1)) ∨ (frameB s f = true ∧ ∃ k d j e o h, AtP s f k d j e o h ∧ 0 ≤ h.version ∧ h.version ≤ 1000000 ∧ driveM s f k d e o h = r)
theorem implDrive_ok (s : StoreD) (f : FrameD) (r : StoreD × FrameD × Int) (hr : DriveP s f r) (hs : s.small) :
    SatP Try.prog 10 [.agg (s.cells 40 38 76), .agg f.cells]
      (.tup [.agg [.rf 0 r.1.heads.length, .rf 1 r.1.descs.length], .agg r.2.1.cells, .int .i64 r.2.2]) [(40, rowsH r.1.heads), (38, rowsD 76 r.1.descs)] := by
  have hc := implFrameOk_ok s f hs
  have ho := ownStore_ok s hs
  have hs0 := hs
  obtain ⟨f1, f2, f3⟩ := hs
  refine satP_of_body hT Try.func10 (by kernel_rfl) rfl (rs := [.cell 4 27, .cell 5 32, .tmp 6]) rfl (n := 26) rfl (by simp) rfl (by simp [rowsH_pur, rowsD_pur]) fun E hE => ?_
  unfold St.init
  unfold StoreD.cells at *
  rcases hr with ⟨hp, hr⟩ | ⟨hp, k, d, j, e, o, h, ha, hv0, hv1, hr⟩
  · rw [hp] at hc
    subst hr
    unfold FrameD.cells at *
    have F := And.intro @rowsH_len (And.intro @rowsD_len (And.intro @Nat.le_refl (And.intro @vtree_done (And.intro @vtree_step (And.intro @vtreeO_some (And.intro @vtree_both @contT_at))))))
    repeat' first
      | refine wSq fun _ hK => ?_
      | refine wRg ?_
      | refine VWP_orders hT hM (id := 3) (.both (.step 0 (.both (.step 1 (.step 2 (.step 3 (.step 4 .done)))) (.step 2 (.step 1 (.step 3 (.step 4 .done)))))) (.step 1 (.step 0 (.step 2 (.step 3 (.step 4 .done)))))) (by kernel_rfl) ?_
      | refine VWP_orders hT hM (id := 5) (.both (.step 0 (.both (.step 1 (.both (.step 2 (.step 3 (.step 4 (.step 5 .done)))) (.step 3 (.both (.step 2 (.step 4 (.step 5 .done))) (.step 4 (.step 2 (.step 5 .done))))))) (.both (.step 2 (.both (.step 1 (.step 3 (.step 4 (.step 5 .done)))) (.step 3 (.step 1 (.step 4 (.step 5 .done)))))) (.step 3 (.both (.step 1 (.both (.step 2 (.step 4 (.step 5 .done))) (.step 4 (.step 2 (.step 5 .done))))) (.step 2 (.step 1 (.step 4 (.step 5 .done))))))))) (.both (.step 1 (.both (.step 0 (.both (.step 2 (.step 3 (.step 4 (.step 5 .done)))) (.step 3 (.both (.step 2 (.step 4 (.step 5 .done))) (.step 4 (.step 2 (.step 5 .done))))))) (.step 2 (.step 0 (.step 3 (.step 4 (.step 5 .done))))))) (.step 2 (.both (.step 0 (.both (.step 1 (.step 3 (.step 4 (.step 5 .done)))) (.step 3 (.step 1 (.step 4 (.step 5 .done)))))) (.step 1 (.step 0 (.step 3 (.step 4 (.step 5 .done))))))))) (by kernel_rfl) ?_
      | refine And.intro ?_ ?_
      | refine wDr ?_
      | refine VWP_block ?_
      | refine VWP_skip ?_
      | refine VWP_exit ?_
      | refine VWP_ret ?_
      | (refine hK _ ?_; clear hK)
      | (clear hK; refine hK _ ?_; clear hK)
      | (clear hK; clear hK; refine hK _ ?_; clear hK)
      | (clear hK; clear hK; clear hK; refine hK _ ?_; clear hK)
      | (simp only [wHb, reduceCtorEq] at hb <;> try (exfalso; omega))
      | (refine VWP_cond2 true ?_ ?_ (fun hh => nomatch hh); focus (simp only [go_sem, Nat.reduceLT, Nat.reduceLeDiff, Nat.reduceEqDiff, Nat.reduceAdd, Nat.reduceMul, Nat.reduceSub, reduceCtorEq, F]; done); intro _)
      | (refine VWP_cond2 false ?_ (fun hh => nomatch hh) ?_; focus (simp only [go_sem, Nat.reduceLT, Nat.reduceLeDiff, Nat.reduceEqDiff, Nat.reduceAdd, Nat.reduceMul, Nat.reduceSub, reduceCtorEq, F]; done); intro _)
      | refine wCd (fun hb => ?_) fun hb => ?_
      | refine wCa (c := by first | exact hc | exact ho) (k := ?_)
      | simp only [go_sem, Nat.reduceLT, Nat.reduceLeDiff, Nat.reduceEqDiff, Nat.reduceAdd, Nat.reduceMul, Nat.reduceSub, reduceCtorEq, F]
      | simp (disch := omega) only [decide_eq_true_eq, if_pos, if_neg, wrap_id, le_maxLen, and_true, true_and, if_true, ite_true]
      | refine wGd (fun hb => ?_) fun hb => ?_
    all_goals first
      | (exfalso; simp_all; done)
      | (refine ret_mk (vs := _) (acc := _) (by simp only [go_sem, Nat.reduceLT, Nat.reduceLeDiff, Nat.reduceEqDiff, Nat.reduceAdd, Nat.reduceMul, Nat.reduceSub, reduceCtorEq, vres]; rfl) (by simp only [go_sem, Nat.reduceLT, Nat.reduceLeDiff, Nat.reduceEqDiff, Nat.reduceAdd, Nat.reduceMul, Nat.reduceSub, reduceCtorEq, wrap, exV, exAs, exA, exCs, exC, rowsH_len, rowsH_take, rowsD_len, rowsD_take, Nat.le_refl]; rfl) (by simp) (by simp) (by simp [rowsH_pur, rowsD_pur]))
  · rw [hp] at hc
    have hl := drive_ok s f k d j e o h ha hv0 hv1 hs0 r hr
    have e1 : r.1.heads.length = s.heads.length := by subst hr; unfold driveM; (repeat' split) <;> simp
    have e2 : r.1.descs.length = s.descs.length := by subst hr; unfold driveM; (repeat' split) <;> simp
    unfold FrameD.cells at *
    have t1 := rowsH_take r.1.heads
    have t2 := rowsD_take 76 r.1.descs
    rw [e1] at t1
    rw [e2] at t2
    rw [e1, e2]
    have F := And.intro @rowsH_len (And.intro @rowsD_len (And.intro @rowsH_pur (And.intro @rowsD_pur (And.intro @Nat.le_refl (And.intro @vtree_done (And.intro @vtree_step (And.intro @vtreeO_some (And.intro @vtree_both @contT_at))))))))
    repeat' first
      | refine wSq fun _ hK => ?_
      | refine wRg ?_
      | refine VWP_orders hT hM (id := 3) (.both (.step 0 (.both (.step 1 (.step 2 (.step 3 (.step 4 .done)))) (.step 2 (.step 1 (.step 3 (.step 4 .done)))))) (.step 1 (.step 0 (.step 2 (.step 3 (.step 4 .done)))))) (by kernel_rfl) ?_
      | refine VWP_orders hT hM (id := 5) (.both (.step 0 (.both (.step 1 (.both (.step 2 (.step 3 (.step 4 (.step 5 .done)))) (.step 3 (.both (.step 2 (.step 4 (.step 5 .done))) (.step 4 (.step 2 (.step 5 .done))))))) (.both (.step 2 (.both (.step 1 (.step 3 (.step 4 (.step 5 .done)))) (.step 3 (.step 1 (.step 4 (.step 5 .done)))))) (.step 3 (.both (.step 1 (.both (.step 2 (.step 4 (.step 5 .done))) (.step 4 (.step 2 (.step 5 .done))))) (.step 2 (.step 1 (.step 4 (.step 5 .done))))))))) (.both (.step 1 (.both (.step 0 (.both (.step 2 (.step 3 (.step 4 (.step 5 .done)))) (.step 3 (.both (.step 2 (.step 4 (.step 5 .done))) (.step 4 (.step 2 (.step 5 .done))))))) (.step 2 (.step 0 (.step 3 (.step 4 (.step 5 .done))))))) (.step 2 (.both (.step 0 (.both (.step 1 (.step 3 (.step 4 (.step 5 .done)))) (.step 3 (.step 1 (.step 4 (.step 5 .done)))))) (.step 1 (.step 0 (.step 3 (.step 4 (.step 5 .done))))))))) (by kernel_rfl) ?_
      | refine And.intro ?_ ?_
      | refine wDr ?_
      | refine VWP_block ?_
      | refine VWP_skip ?_
      | refine VWP_exit ?_
      | refine VWP_ret ?_
      | (refine hK _ ?_; clear hK)
      | (clear hK; refine hK _ ?_; clear hK)
      | (clear hK; clear hK; refine hK _ ?_; clear hK)
      | (clear hK; clear hK; clear hK; refine hK _ ?_; clear hK)
      | (simp only [wHb, reduceCtorEq] at hb <;> try (exfalso; omega))
      | (refine VWP_cond2 true ?_ ?_ (fun hh => nomatch hh); focus (simp only [go_sem, Nat.reduceLT, Nat.reduceLeDiff, Nat.reduceEqDiff, Nat.reduceAdd, Nat.reduceMul, Nat.reduceSub, reduceCtorEq, F]; done); intro _)
      | (refine VWP_cond2 false ?_ (fun hh => nomatch hh) ?_; focus (simp only [go_sem, Nat.reduceLT, Nat.reduceLeDiff, Nat.reduceEqDiff, Nat.reduceAdd, Nat.reduceMul, Nat.reduceSub, reduceCtorEq, F]; done); intro _)
      | refine wCd (fun hb => ?_) fun hb => ?_
      | refine wCa (c := by first | exact hc | exact ho) (k := ?_)
      | refine wOw [6, 4, 5] (c := by exact hl) (k := ?_)
      | simp only [go_sem, Nat.reduceLT, Nat.reduceLeDiff, Nat.reduceEqDiff, Nat.reduceAdd, Nat.reduceMul, Nat.reduceSub, reduceCtorEq, F]
      | simp (disch := omega) only [decide_eq_true_eq, if_pos, if_neg, wrap_id, le_maxLen, and_true, true_and, if_true, ite_true]
      | refine wGd (fun hb => ?_) fun hb => ?_
    all_goals refine ret_mk (vs := _) (acc := _) (by simp only [go_sem, Nat.reduceLT, Nat.reduceLeDiff, Nat.reduceEqDiff, Nat.reduceAdd, Nat.reduceMul, Nat.reduceSub, reduceCtorEq, vres]; rfl) (by simp only [go_sem, Nat.reduceLT, Nat.reduceLeDiff, Nat.reduceEqDiff, Nat.reduceAdd, Nat.reduceMul, Nat.reduceSub, reduceCtorEq, wrap, exV, exAs, exA, exCs, exC, rowsH_len, t1, rowsD_len, t2, e1, e2, Nat.le_refl]; rfl) (by simp) (by simp) (by simp [rowsH_pur, rowsD_pur])
end Go.Proofs.Ytljhhhlobkoocaa
