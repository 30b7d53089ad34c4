/- What both Help give. -/
import Derived.Test.YtmiojnibngncaaaHE
namespace Go.Proofs.Ytmiojnibngncaaa
open Go Go.RowKit
set_option linter.unusedVariables false
set_option linter.unusedSimpArgs false
set_option maxRecDepth 100000
set_option maxHeartbeats 4000000
attribute [local irreducible] VWP vops vdraw contV contD CallK Guard GuardV NextL Puts Runs RetOK RetQ RetO RetQO thenQ blockQ

noncomputable def helpR (s : StoreD) (fs : List FrameD) : StoreD × List FrameD := if stackB s fs = true then helpF s fs else (s, fs)
theorem implHelp_ok (s : StoreD) (fs : List FrameD) (hs : s.tiny) (hl : fs.length ≤ 1048576) (r : StoreD × List FrameD) (hr : helpR s fs = r) :
    SatP Try.prog 45 [.agg (s.cells 147 37 96), .fr 118 (rowsF fs)]
      (.tup [.agg [.rf 0 s.heads.length, .rf 1 s.descs.length], .rf 2 r.2.length]) [(147, rowsH r.1.heads), (37, rowsD 96 r.1.descs), (118, rowsF r.2)] := by
  have hc := implStackOk_ok s fs hs.small hl
  have ho := ownStore_ok s hs.small
  have hof := ownFrames_ok fs hl
  refine satP_of_body hT Try.func45 (by kernel_rfl) rfl (rs := [.cell 4 64, .tmp 5]) rfl (n := 21) rfl (by simp) rfl (by simp [rowsH_pur, rowsD_pur, rowsF_pur]) fun E hE => ?_
  unfold St.init
  unfold StoreD.cells at *
  rcases (Bool.eq_false_or_eq_true (stackB s fs)).symm with hp | hp
  · rw [helpR, if_neg (by rw [hp]; exact fun h => nomatch h)] at hr
    subst hr
    rw [hp] at hc
    have F := And.intro @rowsH_len (And.intro @rowsD_len (And.intro @rowsF_len (And.intro @rowsH_take @rowsD_take)))
    repeat' first
      | refine wSq fun _ hK => ?_
      | refine wRg ?_
      | refine wDr ?_
      | refine VWP_block ?_
      | refine VWP_skip ?_
      | refine VWP_exit ?_
      | refine VWP_ret ?_
      | (refine hK _ ?_; clear hK)
      | (clear hK; refine hK _ ?_; clear hK)
      | (clear hK; clear hK; refine hK _ ?_; clear hK)
      | (clear hK; clear hK; clear hK; refine hK _ ?_; clear hK)
      | (simp only [wHb, reduceCtorEq] at hb <;> try (exfalso; omega))
      | refine wCd (fun hb => ?_) fun hb => ?_
      | refine wCa (c := by first | exact hc | exact ho | exact hof) (k := ?_)
      | simp only [go_sem, Nat.reduceLT, Nat.reduceLeDiff, Nat.reduceEqDiff, Nat.reduceAdd, Nat.reduceMul, Nat.reduceSub, reduceCtorEq, F]
      | simp (disch := omega) only [decide_eq_true_eq, if_pos, if_neg, wrap_id, le_maxLen, and_true, true_and, if_true, ite_true]
      | refine wGd (fun hb => ?_) fun hb => ?_
    refine ret_mk (vs := _) (acc := _) (by simp only [go_sem, Nat.reduceLT, Nat.reduceLeDiff, Nat.reduceEqDiff, Nat.reduceAdd, Nat.reduceMul, Nat.reduceSub, reduceCtorEq, vres]; rfl) (by simp only [go_sem, Nat.reduceLT, Nat.reduceLeDiff, Nat.reduceEqDiff, Nat.reduceAdd, Nat.reduceMul, Nat.reduceSub, reduceCtorEq, wrap, exV, exAs, exA, exCs, exC, rowsH_len, rowsH_take, rowsD_len, rowsD_take, rowsF_len, rowsF_take, Nat.le_refl]; rfl) (by simp) (by simp) (by simp [rowsH_pur, rowsD_pur, rowsF_pur])
  · rw [helpR, if_pos hp] at hr
    rw [hp] at hc
    have hi := stack_help hp
    have hk := helpF_keeps hi
    rw [hr] at hk
    have e1 := hk.hl
    have e2 := hk.dl
    have t1 := rowsH_take r.1.heads
    have t2 := rowsD_take 96 r.1.descs
    rw [e1] at t1
    rw [e2] at t2
    rcases (Bool.eq_false_or_eq_true (stuckB s fs)) with hsk | hsk
    · have hf := helpStuck_ok s fs hi hs.small hsk
      rw [stuck_help hsk] at hr
      subst hr
      have F := And.intro @rowsH_len (And.intro @rowsD_len (And.intro @rowsF_len (And.intro @rowsH_take (And.intro @rowsD_take (And.intro @rowsH_pur @rowsD_pur)))))
      repeat' first
        | refine wSq fun _ hK => ?_
        | refine wRg ?_
        | refine wDr ?_
        | refine VWP_block ?_
        | refine VWP_skip ?_
        | refine VWP_exit ?_
        | refine VWP_ret ?_
        | (refine hK _ ?_; clear hK)
        | (clear hK; refine hK _ ?_; clear hK)
        | (clear hK; clear hK; refine hK _ ?_; clear hK)
        | (clear hK; clear hK; clear hK; refine hK _ ?_; clear hK)
        | (simp only [wHb, reduceCtorEq] at hb <;> try (exfalso; omega))
        | refine wCd (fun hb => ?_) fun hb => ?_
        | refine wCa (c := by first | exact hc | exact ho) (k := ?_)
        | refine wOw [4, 2, 3] (c := by exact hf) (k := ?_)
        | simp only [go_sem, Nat.reduceLT, Nat.reduceLeDiff, Nat.reduceEqDiff, Nat.reduceAdd, Nat.reduceMul, Nat.reduceSub, reduceCtorEq, F]
        | simp (disch := omega) only [decide_eq_true_eq, if_pos, if_neg, wrap_id, le_maxLen, and_true, true_and, if_true, ite_true]
        | refine wGd (fun hb => ?_) fun hb => ?_
      refine ret_mk (vs := _) (acc := _) (by simp only [go_sem, Nat.reduceLT, Nat.reduceLeDiff, Nat.reduceEqDiff, Nat.reduceAdd, Nat.reduceMul, Nat.reduceSub, reduceCtorEq, vres]; rfl) (by simp only [go_sem, Nat.reduceLT, Nat.reduceLeDiff, Nat.reduceEqDiff, Nat.reduceAdd, Nat.reduceMul, Nat.reduceSub, reduceCtorEq, wrap, exV, exAs, exA, exCs, exC, rowsH_len, rowsH_take, rowsD_len, rowsD_take, rowsF_len, rowsF_take, Nat.le_refl]; rfl) (by simp) (by simp) (by simp [rowsH_pur, rowsD_pur, rowsF_pur])
    · have hf := helpMoves_ok s fs hi hs.small hsk r hr
      have F := And.intro @rowsH_len (And.intro @rowsD_len (And.intro @rowsF_len (And.intro @rowsH_take (And.intro @rowsD_take (And.intro @rowsH_pur @rowsD_pur)))))
      repeat' first
        | refine wSq fun _ hK => ?_
        | refine wRg ?_
        | refine wDr ?_
        | refine VWP_block ?_
        | refine VWP_skip ?_
        | refine VWP_exit ?_
        | refine VWP_ret ?_
        | (refine hK _ ?_; clear hK)
        | (clear hK; refine hK _ ?_; clear hK)
        | (clear hK; clear hK; refine hK _ ?_; clear hK)
        | (clear hK; clear hK; clear hK; refine hK _ ?_; clear hK)
        | (simp only [wHb, reduceCtorEq] at hb <;> try (exfalso; omega))
        | refine wCd (fun hb => ?_) fun hb => ?_
        | refine wCa (c := by first | exact hc | exact ho) (k := ?_)
        | refine wOw [4, 2, 3] (c := by exact hf) (k := ?_)
        | simp only [go_sem, Nat.reduceLT, Nat.reduceLeDiff, Nat.reduceEqDiff, Nat.reduceAdd, Nat.reduceMul, Nat.reduceSub, reduceCtorEq, F]
        | simp (disch := omega) only [decide_eq_true_eq, if_pos, if_neg, wrap_id, le_maxLen, and_true, true_and, if_true, ite_true]
        | refine wGd (fun hb => ?_) fun hb => ?_
      refine ret_mk (vs := _) (acc := _) (by simp only [go_sem, Nat.reduceLT, Nat.reduceLeDiff, Nat.reduceEqDiff, Nat.reduceAdd, Nat.reduceMul, Nat.reduceSub, reduceCtorEq, vres]; rfl) (by simp only [go_sem, Nat.reduceLT, Nat.reduceLeDiff, Nat.reduceEqDiff, Nat.reduceAdd, Nat.reduceMul, Nat.reduceSub, reduceCtorEq, wrap, exV, exAs, exA, exCs, exC, rowsH_len, rowsD_len, e1, e2, t1, t2, rowsF_len, rowsF_take, Nat.le_refl]; rfl) (by simp) (by simp) (by simp [rowsH_pur, rowsD_pur, rowsF_pur])
theorem specHelp_ok (s : StoreD) (fs : List FrameD) (hs : s.tiny) (hl : fs.length ≤ 1048576) (r : StoreD × List FrameD) (hr : helpR s fs = r) :
    SatP Try.prog 44 [.agg (s.cells 147 37 96), .fr 118 (rowsF fs)]
      (.tup [.agg [.rf 0 s.heads.length, .rf 1 s.descs.length], .rf 2 r.2.length]) [(147, rowsH r.1.heads), (37, rowsD 96 r.1.descs), (118, rowsF r.2)] := by
  have hc := specStackOk_ok s fs hs.small hl
  have ho := l7Copy_ok s hs.small
  have hof := l8Copy_ok fs hl
  refine satP_of_body hT Try.func44 (by kernel_rfl) rfl (rs := [.cell 4 64, .tmp 5]) rfl (n := 23) rfl (by simp) rfl (by simp [rowsH_pur, rowsD_pur, rowsF_pur]) fun E hE => ?_
  unfold St.init
  unfold StoreD.cells at *
  rcases (Bool.eq_false_or_eq_true (stackB s fs)).symm with hp | hp
  · rw [helpR, if_neg (by rw [hp]; exact fun h => nomatch h)] at hr
    subst hr
    rw [hp] at hc
    have F := And.intro @rowsH_len (And.intro @rowsD_len (And.intro @rowsF_len (And.intro @rowsH_take @rowsD_take)))
    repeat' first
      | refine wSq fun _ hK => ?_
      | refine wRg ?_
      | refine wDr ?_
      | refine VWP_block ?_
      | refine VWP_skip ?_
      | refine VWP_exit ?_
      | refine VWP_ret ?_
      | (refine hK _ ?_; clear hK)
      | (clear hK; refine hK _ ?_; clear hK)
      | (clear hK; clear hK; refine hK _ ?_; clear hK)
      | (clear hK; clear hK; clear hK; refine hK _ ?_; clear hK)
      | (simp only [wHb, reduceCtorEq] at hb <;> try (exfalso; omega))
      | refine wCd (fun hb => ?_) fun hb => ?_
      | refine wCa (c := by first | exact hc | exact ho | exact hof) (k := ?_)
      | simp only [go_sem, Nat.reduceLT, Nat.reduceLeDiff, Nat.reduceEqDiff, Nat.reduceAdd, Nat.reduceMul, Nat.reduceSub, reduceCtorEq, F]
      | simp (disch := omega) only [decide_eq_true_eq, if_pos, if_neg, wrap_id, le_maxLen, and_true, true_and, if_true, ite_true]
      | refine wGd (fun hb => ?_) fun hb => ?_
    refine ret_mk (vs := _) (acc := _) (by simp only [go_sem, Nat.reduceLT, Nat.reduceLeDiff, Nat.reduceEqDiff, Nat.reduceAdd, Nat.reduceMul, Nat.reduceSub, reduceCtorEq, vres]; rfl) (by simp only [go_sem, Nat.reduceLT, Nat.reduceLeDiff, Nat.reduceEqDiff, Nat.reduceAdd, Nat.reduceMul, Nat.reduceSub, reduceCtorEq, wrap, exV, exAs, exA, exCs, exC, rowsH_len, rowsH_take, rowsD_len, rowsD_take, rowsF_len, rowsF_take, Nat.le_refl]; rfl) (by simp) (by simp) (by simp [rowsH_pur, rowsD_pur, rowsF_pur])
  · rw [helpR, if_pos hp] at hr
    rw [hp] at hc
    have hi := stack_help hp
    have hk := helpF_keeps hi
    rw [hr] at hk
    have e1 := hk.hl
    have e2 := hk.dl
    have t1 := rowsH_take r.1.heads
    have t2 := rowsD_take 96 r.1.descs
    rw [e1] at t1
    rw [e2] at t2
    have hap : fs ++ [] = fs := List.append_nil fs
    rcases l8_ok s fs [] hi hs.small r hr with ⟨junk', hf⟩ | hf
    · rw [hap] at hf
      have hjl : r.2.length ≤ (r.2 ++ junk').length := by simp
      have htk : (rowsF (r.2 ++ junk')).take r.2.length = rowsF r.2 := by rw [show rowsF (r.2 ++ junk') = rowsF r.2 ++ rowsF junk' by simp [rowsF], List.take_left' (rowsF_len _)]
      have F := And.intro @rowsH_len (And.intro @rowsD_len (And.intro @rowsF_len (And.intro @rowsH_take (And.intro @rowsD_take (And.intro @rowsH_pur (And.intro @rowsD_pur (And.intro @rowsF_pur @Nat.le_refl)))))))
      repeat' first
        | refine wSq fun _ hK => ?_
        | refine wRg ?_
        | refine wDr ?_
        | refine VWP_block ?_
        | refine VWP_skip ?_
        | refine VWP_exit ?_
        | refine VWP_ret ?_
        | (refine hK _ ?_; clear hK)
        | (clear hK; refine hK _ ?_; clear hK)
        | (clear hK; clear hK; refine hK _ ?_; clear hK)
        | (clear hK; clear hK; clear hK; refine hK _ ?_; clear hK)
        | (simp only [wHb, reduceCtorEq] at hb <;> try (exfalso; omega))
        | refine wCd (fun hb => ?_) fun hb => ?_
        | refine wCa (c := by first | exact hc | exact ho | exact hof) (k := ?_)
        | refine wOw [2, 3, 4] (c := by exact hf) (k := ?_)
        | simp only [go_sem, Nat.reduceLT, Nat.reduceLeDiff, Nat.reduceEqDiff, Nat.reduceAdd, Nat.reduceMul, Nat.reduceSub, reduceCtorEq, F]
        | simp (disch := omega) only [decide_eq_true_eq, if_pos, if_neg, wrap_id, le_maxLen, and_true, true_and, if_true, ite_true]
        | refine wGd (fun hb => ?_) fun hb => ?_
      refine ret_mk (vs := _) (acc := _) (by simp only [go_sem, Nat.reduceLT, Nat.reduceLeDiff, Nat.reduceEqDiff, Nat.reduceAdd, Nat.reduceMul, Nat.reduceSub, reduceCtorEq, vres]; rfl) (by simp only [go_sem, Nat.reduceLT, Nat.reduceLeDiff, Nat.reduceEqDiff, Nat.reduceAdd, Nat.reduceMul, Nat.reduceSub, reduceCtorEq, wrap, exV, exAs, exA, exCs, exC, rowsH_len, rowsD_len, e1, e2, t1, t2, rowsF_len, hjl, htk, Nat.le_refl]; rfl) (by simp) (by simp) (by simp [rowsH_pur, rowsD_pur, rowsF_pur])
    · rw [hap] at hf
      have F := And.intro @rowsH_len (And.intro @rowsD_len (And.intro @rowsF_len (And.intro @rowsH_take (And.intro @rowsD_take (And.intro @rowsH_pur (And.intro @rowsD_pur (And.intro @rowsF_pur @Nat.le_refl)))))))
      repeat' first
        | refine wSq fun _ hK => ?_
        | refine wRg ?_
        | refine wDr ?_
        | refine VWP_block ?_
        | refine VWP_skip ?_
        | refine VWP_exit ?_
        | refine VWP_ret ?_
        | (refine hK _ ?_; clear hK)
        | (clear hK; refine hK _ ?_; clear hK)
        | (clear hK; clear hK; refine hK _ ?_; clear hK)
        | (clear hK; clear hK; clear hK; refine hK _ ?_; clear hK)
        | (simp only [wHb, reduceCtorEq] at hb <;> try (exfalso; omega))
        | refine wCd (fun hb => ?_) fun hb => ?_
        | refine wCa (c := by first | exact hc | exact ho | exact hof) (k := ?_)
        | refine wOw [2, 3, 4] (c := by exact hf) (k := ?_)
        | simp only [go_sem, Nat.reduceLT, Nat.reduceLeDiff, Nat.reduceEqDiff, Nat.reduceAdd, Nat.reduceMul, Nat.reduceSub, reduceCtorEq, F]
        | simp (disch := omega) only [decide_eq_true_eq, if_pos, if_neg, wrap_id, le_maxLen, and_true, true_and, if_true, ite_true]
        | refine wGd (fun hb => ?_) fun hb => ?_
      refine ret_mk (vs := _) (acc := _) (by simp only [go_sem, Nat.reduceLT, Nat.reduceLeDiff, Nat.reduceEqDiff, Nat.reduceAdd, Nat.reduceMul, Nat.reduceSub, reduceCtorEq, vres]; rfl) (by simp only [go_sem, Nat.reduceLT, Nat.reduceLeDiff, Nat.reduceEqDiff, Nat.reduceAdd, Nat.reduceMul, Nat.reduceSub, reduceCtorEq, wrap, exV, exAs, exA, exCs, exC, rowsH_len, rowsD_len, e1, e2, t1, t2, rowsF_len, rowsF_take, Nat.le_refl]; rfl) (by simp) (by simp) (by simp [rowsH_pur, rowsD_pur, rowsF_pur])
theorem helpR_tiny (s : StoreD) (fs : List FrameD) (hs : s.tiny) (hl : fs.length ≤ 1048576) : (helpR s fs).1.tiny ∧ (helpR s fs).1.heads.length = s.heads.length ∧ (helpR s fs).1.descs.length = s.descs.length ∧ (helpR s fs).2.length ≤ 1048576 := by
  unfold helpR
  split
  · rename_i h
    have hi := stack_help h
    have hk := helpF_keeps hi
    exact ⟨helpF_tiny hi hs, hk.hl, hk.dl, by have := hk.inv.len; omega⟩
  · exact ⟨hs, rfl, rfl, hl⟩
end Go.Proofs.Ytmiojnibngncaaa
