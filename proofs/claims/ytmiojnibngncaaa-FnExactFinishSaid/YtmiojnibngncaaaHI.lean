/- The program's Finish. -/
import Derived.Test.YtmiojnibngncaaaHE
namespace Go.Proofs.Ytmiojnibngncaaa
open Go Go.RowKit
set_option linter.unusedVariables false
set_option linter.unusedSimpArgs false
set_option maxRecDepth 100000
set_option maxHeartbeats 4000000
attribute [local irreducible] VWP vops vdraw contV contD CallK Guard GuardV NextL Puts Runs RetOK RetQ RetO RetQO thenQ blockQ
attribute [local irreducible] NextN

theorem finF_stay : ∀ (m : Nat) {s : StoreD} {fs : List FrameD}, stuckB s fs = true → finF m s fs = (s, fs, if fs = [] then 0 else m)
  | 0, s, fs, h => by simp [finF]
  | m + 1, s, fs, h => by
    by_cases hf : fs = []
    · subst hf; simp [finF]
    · rw [finF_step m hf, stuck_help h, finF_stay m h]
      simp [hf]
theorem finishStay_ok (s : StoreD) (fs : List FrameD) (m : Nat) (hi : HelpI s fs) (hs : s.tiny) (hm2 : m ≤ 1048576) (hst : stuckB s fs = true) (r : StoreD × List FrameD × Nat) (hr : finF m s fs = r) :
    SatO Try.prog 85 [.bp 0 0, .fr 118 (rowsF fs), .int .i64 m] [.box [.rf 1 s.heads.length, .rf 2 s.descs.length], .root 147 (rowsH s.heads), .root 37 (rowsD 96 s.descs)]
      (.tup [.int .i64 r.2.2, .bool (decide (r.2.1 = []))]) [.box [.rf 1 s.heads.length, .rf 2 s.descs.length], .root 147 (rowsH s.heads), .root 37 (rowsD 96 s.descs)] := by
  rw [finF_stay m hst] at hr
  have hlen := hi.len
  refine satO_of_body hT Try.func85 (by kernel_rfl) rfl (rs := [.tmp 6, .tmp 7]) rfl (n := 26) rfl (by simp) rfl (m := 3) rfl ⟨⟨rfl, rfl⟩, ⟨rfl, rowsH_pur _⟩, ⟨rfl, rowsD_pur _ _⟩, by simp [keptL]⟩ fun E hE => ?_
  unfold St.initO
  have F := (Eq.refl 0)
  repeat' first
    | refine wSq fun _ hK => ?_
    | refine wRg ?_
    | refine wDr ?_
    | refine VWP_block ?_
    | refine VWP_skip ?_
    | refine VWP_exit ?_
    | refine VWP_ret ?_
    | (refine hK _ ?_; clear hK)
    | (clear hK; refine hK _ ?_; clear hK)
    | (clear hK; clear hK; refine hK _ ?_; clear hK)
    | (clear hK; clear hK; clear hK; refine hK _ ?_; clear hK)
    | (simp only [wHb, reduceCtorEq] at hb <;> try (exfalso; omega))
    | refine wCd (fun hb => ?_) fun hb => ?_
    | simp only [go_sem, Nat.reduceLT, Nat.reduceLeDiff, Nat.reduceEqDiff, Nat.reduceAdd, Nat.reduceMul, Nat.reduceSub, reduceCtorEq, F]
    | simp (disch := omega) only [decide_eq_true_eq, if_pos, if_neg, wrap_id, le_maxLen, and_true, true_and, if_true, ite_true]
    | refine wGd (fun hb => ?_) fun hb => ?_
  refine VWP_loopN hE (X := Nat) (fun i => if i = 0 then [(0, .bp 0 0), (1, .fr 118 (rowsF fs)), (2, .int .i64 m), (8, .int .i64 i)] else [(0, .bp 0 0), (1, .rf 3 fs.length), (2, .int .i64 m), (8, .int .i64 i)]) (fun i => if i = 0 then [(0, .box [.rf 1 s.heads.length, .rf 2 s.descs.length]), (1, .root 147 (rowsH s.heads)), (2, .root 37 (rowsD 96 s.descs))] else [(0, .box [.rf 1 s.heads.length, .rf 2 s.descs.length]), (1, .root 147 (rowsH s.heads)), (2, .root 37 (rowsD 96 s.descs)), (3, .root 118 (rowsF fs))]) (fun i => m - i)
    (fun i => i ≤ m ∧ (fs = [] → i = 0)) [0, 1, 2, 3] 0 ⟨by simp, fun _ => rfl⟩ (by decide) (by decide) (by simp [updV, renV, renA, renC]) (by simp [updH, HpE, renH_at, renE, renC, rowsH_pur, rowsD_pur]) ?_
  rintro i ⟨hle, hz⟩
  have hw := wrap_id (x := (i : Int) + 1) (by omega)
  have hc := helpStuck_ok s fs hi hs.small hst
  have hbn : ((fs.length : Int) == 0) = decide (fs = []) := by
    cases fs with
    | nil => rfl
    | cons f fs => simp; omega
  by_cases hgo : fs ≠ [] ∧ i < m
  · obtain ⟨hne1, him⟩ := hgo
    have hpos : 0 < fs.length := List.length_pos_iff.2 hne1
    have hm0 : (i : Int) < (m : Int) := by omega
    have hp0 : (0 : Int) < (fs.length : Int) := by omega
    rcases Nat.eq_zero_or_pos i with hi0 | hi0
    · rw [if_pos hi0, if_pos hi0]
      have F := And.intro @rowsF_len (And.intro @rowsH_len (And.intro @rowsD_len (And.intro @rowsH_pur (And.intro @rowsD_pur (And.intro hp0 hm0)))))
      repeat' first
        | refine wSq fun _ hK => ?_
        | refine wRg ?_
        | refine wDr ?_
        | refine VWP_block ?_
        | refine VWP_skip ?_
        | refine VWP_exit ?_
        | refine VWP_ret ?_
        | (refine hK _ ?_; clear hK)
        | (clear hK; refine hK _ ?_; clear hK)
        | (clear hK; clear hK; refine hK _ ?_; clear hK)
        | (clear hK; clear hK; clear hK; refine hK _ ?_; clear hK)
        | (simp only [wHb, reduceCtorEq] at hb <;> try (exfalso; omega))
        | refine wCd (fun hb => ?_) fun hb => ?_
        | refine wOw [0, 1, 2] (c := by exact hc) (k := ?_)
        | simp only [go_sem, Nat.reduceLT, Nat.reduceLeDiff, Nat.reduceEqDiff, Nat.reduceAdd, Nat.reduceMul, Nat.reduceSub, reduceCtorEq, F]
        | simp (disch := omega) only [decide_eq_true_eq, if_pos, if_neg, wrap_id, le_maxLen, and_true, true_and, if_true, ite_true]
        | refine wGd (fun hb => ?_) fun hb => ?_
      all_goals refine nextN [] rfl [0, 1, 2, 4] (i + 1) rfl (by decide) (by decide) ⟨him, fun h => absurd h hne1⟩ (by omega) (by rw [if_neg (Nat.succ_ne_zero _)]; simp [updV, tmL, renV, renA, renC, hw]) (by rw [if_neg (Nat.succ_ne_zero _)]; simp [updH, hpL, renH_at, renE, renC, rowsH_pur, rowsD_pur, rowsF_pur])
    · rw [if_neg (by omega), if_neg (by omega)]
      have F := And.intro @rowsF_len (And.intro @rowsF_take (And.intro @rowsF_pur (And.intro @rowsH_len (And.intro @rowsD_len (And.intro @rowsH_pur (And.intro @rowsD_pur (And.intro hp0 hm0)))))))
      repeat' first
        | refine wSq fun _ hK => ?_
        | refine wRg ?_
        | refine wDr ?_
        | refine VWP_block ?_
        | refine VWP_skip ?_
        | refine VWP_exit ?_
        | refine VWP_ret ?_
        | (refine hK _ ?_; clear hK)
        | (clear hK; refine hK _ ?_; clear hK)
        | (clear hK; clear hK; refine hK _ ?_; clear hK)
        | (clear hK; clear hK; clear hK; refine hK _ ?_; clear hK)
        | (simp only [wHb, reduceCtorEq] at hb <;> try (exfalso; omega))
        | refine wCd (fun hb => ?_) fun hb => ?_
        | refine wOw [0, 1, 2] (c := by exact hc) (k := ?_)
        | simp only [go_sem, Nat.reduceLT, Nat.reduceLeDiff, Nat.reduceEqDiff, Nat.reduceAdd, Nat.reduceMul, Nat.reduceSub, reduceCtorEq, F]
        | simp (disch := omega) only [decide_eq_true_eq, if_pos, if_neg, wrap_id, le_maxLen, and_true, true_and, if_true, ite_true]
        | refine wGd (fun hb => ?_) fun hb => ?_
      all_goals refine nextN [] rfl [0, 1, 2, 4] (i + 1) rfl (by decide) (by decide) ⟨him, fun h => absurd h hne1⟩ (by omega) (by rw [if_neg (Nat.succ_ne_zero _)]; simp [updV, tmL, renV, renA, renC, hw]) (by rw [if_neg (Nat.succ_ne_zero _)]; simp [updH, hpL, renH_at, renE, renC, rowsH_pur, rowsD_pur, rowsF_pur])
  · have hgo2 : 0 < (fs.length : Int) → ¬ (i : Int) < (m : Int) := fun h hh => hgo ⟨fun h2 => by subst h2; simp at h, by omega⟩
    have hri : (if fs = [] then 0 else m) = i := by
      split
      · rename_i h; exact (hz h).symm
      · rename_i h
        have : ¬ i < m := fun hh => hgo ⟨h, hh⟩
        omega
    rw [hri] at hr
    subst hr
    rcases Nat.eq_zero_or_pos i with hi0 | hi0
    · rw [if_pos hi0, if_pos hi0]
      have F := And.intro @rowsF_len hbn
      repeat' first
        | refine wSq fun _ hK => ?_
        | refine wRg ?_
        | refine wDr ?_
        | refine VWP_block ?_
        | refine VWP_skip ?_
        | refine VWP_exit ?_
        | refine VWP_ret ?_
        | (refine hK _ ?_; clear hK)
        | (clear hK; refine hK _ ?_; clear hK)
        | (clear hK; clear hK; refine hK _ ?_; clear hK)
        | (clear hK; clear hK; clear hK; refine hK _ ?_; clear hK)
        | (simp only [wHb, reduceCtorEq] at hb <;> try (exfalso; omega))
        | refine wCd (fun hb => ?_) fun hb => ?_
        | simp only [go_sem, Nat.reduceLT, Nat.reduceLeDiff, Nat.reduceEqDiff, Nat.reduceAdd, Nat.reduceMul, Nat.reduceSub, reduceCtorEq, F]
        | simp (disch := omega) only [decide_eq_true_eq, if_pos, if_neg, wrap_id, le_maxLen, and_true, true_and, if_true, ite_true]
        | refine wGd (fun hb => ?_) fun hb => ?_
      all_goals first
        | (exfalso; simp_all; done)
        | (exfalso; have := hgo2 (by assumption); simp_all; done)
        | skip
      all_goals refine retO_mk [] rfl [.box [.rf 1 s.heads.length, .rf 2 s.descs.length], .root 147 (rowsH s.heads), .root 37 (rowsD 96 s.descs)] rfl (by simp [keepsL, updH, hpL]) (acc1 := _) (by simp only [go_sem, Nat.reduceLT, Nat.reduceLeDiff, Nat.reduceEqDiff, Nat.reduceAdd, Nat.reduceMul, Nat.reduceSub, reduceCtorEq, exEs, exOCs, exOC]; try rfl) (by simp only [go_sem, Nat.reduceLT, Nat.reduceLeDiff, Nat.reduceEqDiff, Nat.reduceAdd, Nat.reduceMul, Nat.reduceSub, reduceCtorEq, vres]; rfl) (acc := _) (by simp only [go_sem, Nat.reduceLT, Nat.reduceLeDiff, Nat.reduceEqDiff, Nat.reduceAdd, Nat.reduceMul, Nat.reduceSub, reduceCtorEq, wrap, exOV, exOAs, exOA, exOC, hbn]; try rfl) (by simp) (by simp [rootOf])
    · rw [if_neg (by omega), if_neg (by omega)]
      have F := And.intro @rowsF_len hbn
      repeat' first
        | refine wSq fun _ hK => ?_
        | refine wRg ?_
        | refine wDr ?_
        | refine VWP_block ?_
        | refine VWP_skip ?_
        | refine VWP_exit ?_
        | refine VWP_ret ?_
        | (refine hK _ ?_; clear hK)
        | (clear hK; refine hK _ ?_; clear hK)
        | (clear hK; clear hK; refine hK _ ?_; clear hK)
        | (clear hK; clear hK; clear hK; refine hK _ ?_; clear hK)
        | (simp only [wHb, reduceCtorEq] at hb <;> try (exfalso; omega))
        | refine wCd (fun hb => ?_) fun hb => ?_
        | simp only [go_sem, Nat.reduceLT, Nat.reduceLeDiff, Nat.reduceEqDiff, Nat.reduceAdd, Nat.reduceMul, Nat.reduceSub, reduceCtorEq, F]
        | simp (disch := omega) only [decide_eq_true_eq, if_pos, if_neg, wrap_id, le_maxLen, and_true, true_and, if_true, ite_true]
        | refine wGd (fun hb => ?_) fun hb => ?_
      all_goals first
        | (exfalso; simp_all; done)
        | (exfalso; have := hgo2 (by assumption); simp_all; done)
        | skip
      all_goals refine retO_mk [] rfl [.box [.rf 1 s.heads.length, .rf 2 s.descs.length], .root 147 (rowsH s.heads), .root 37 (rowsD 96 s.descs)] rfl (by simp [keepsL, updH, hpL]) (acc1 := _) (by simp only [go_sem, Nat.reduceLT, Nat.reduceLeDiff, Nat.reduceEqDiff, Nat.reduceAdd, Nat.reduceMul, Nat.reduceSub, reduceCtorEq, exEs, exOCs, exOC]; try rfl) (by simp only [go_sem, Nat.reduceLT, Nat.reduceLeDiff, Nat.reduceEqDiff, Nat.reduceAdd, Nat.reduceMul, Nat.reduceSub, reduceCtorEq, vres]; rfl) (acc := _) (by simp only [go_sem, Nat.reduceLT, Nat.reduceLeDiff, Nat.reduceEqDiff, Nat.reduceAdd, Nat.reduceMul, Nat.reduceSub, reduceCtorEq, wrap, exOV, exOAs, exOA, exOC, hbn]; try rfl) (by simp) (by simp [rootOf])
theorem finishZero_ok (s : StoreD) (fs : List FrameD) (hi : HelpI s fs) (hs : s.tiny) (r : StoreD × List FrameD × Nat) (hr : finF 0 s fs = r) :
    SatO Try.prog 85 [.bp 0 0, .fr 118 (rowsF fs), .int .i64 ((0 : Nat) : Int)] [.box [.rf 1 s.heads.length, .rf 2 s.descs.length], .root 147 (rowsH s.heads), .root 37 (rowsD 96 s.descs)]
      (.tup [.int .i64 r.2.2, .bool (decide (r.2.1 = []))]) [.box [.rf 1 s.heads.length, .rf 2 s.descs.length], .root 147 (rowsH s.heads), .root 37 (rowsD 96 s.descs)] := by
  have hr2 : (s, fs, 0) = r := hr
  subst hr2
  have hlen := hi.len
  have hbn : ((fs.length : Int) == 0) = decide (fs = []) := by
    cases fs with
    | nil => rfl
    | cons f fs => simp; omega
  have hz : ¬ (0 : Int) < ((0 : Nat) : Int) := by omega
  have hz2 : ((0 : Nat) : Int) = 0 := rfl
  have hz3 : ¬ (0 : Int) < 0 := by omega
  refine satO_of_body hT Try.func85 (by kernel_rfl) rfl (rs := [.tmp 6, .tmp 7]) rfl (n := 26) rfl (by simp) rfl (m := 3) rfl ⟨⟨rfl, rfl⟩, ⟨rfl, rowsH_pur _⟩, ⟨rfl, rowsD_pur _ _⟩, by simp [keptL]⟩ fun E hE => ?_
  unfold St.initO
  have F := (Eq.refl 0)
  repeat' first
    | refine wSq fun _ hK => ?_
    | refine wRg ?_
    | refine wDr ?_
    | refine VWP_block ?_
    | refine VWP_skip ?_
    | refine VWP_exit ?_
    | refine VWP_ret ?_
    | (refine hK _ ?_; clear hK)
    | (clear hK; refine hK _ ?_; clear hK)
    | (clear hK; clear hK; refine hK _ ?_; clear hK)
    | (clear hK; clear hK; clear hK; refine hK _ ?_; clear hK)
    | (simp only [wHb, reduceCtorEq] at hb <;> try (exfalso; omega))
    | refine wCd (fun hb => ?_) fun hb => ?_
    | simp only [go_sem, Nat.reduceLT, Nat.reduceLeDiff, Nat.reduceEqDiff, Nat.reduceAdd, Nat.reduceMul, Nat.reduceSub, reduceCtorEq, F]
    | simp (disch := omega) only [decide_eq_true_eq, if_pos, if_neg, wrap_id, le_maxLen, and_true, true_and, if_true, ite_true]
    | refine wGd (fun hb => ?_) fun hb => ?_
  refine VWP_loopN hE (X := Unit) (fun _ => [(0, .bp 0 0), (1, .fr 118 (rowsF fs)), (2, .int .i64 ((0 : Nat) : Int)), (8, .int .i64 0)]) (fun _ => [(0, .box [.rf 1 s.heads.length, .rf 2 s.descs.length]), (1, .root 147 (rowsH s.heads)), (2, .root 37 (rowsD 96 s.descs))]) (fun _ => 0)
    (fun _ => True) [0, 1, 2] () trivial (by decide) (by decide) (by simp [updV, renV, renA, renC]) (by simp [updH, HpE, renH_at, renE, renC, rowsH_pur, rowsD_pur]) ?_
  rintro _ _
  have F := And.intro @rowsF_len (And.intro hbn (And.intro hz hz3))
  repeat' first
    | refine wSq fun _ hK => ?_
    | refine wRg ?_
    | refine wDr ?_
    | refine VWP_block ?_
    | refine VWP_skip ?_
    | refine VWP_exit ?_
    | refine VWP_ret ?_
    | (refine hK _ ?_; clear hK)
    | (clear hK; refine hK _ ?_; clear hK)
    | (clear hK; clear hK; refine hK _ ?_; clear hK)
    | (clear hK; clear hK; clear hK; refine hK _ ?_; clear hK)
    | (simp only [wHb, reduceCtorEq] at hb <;> try (exfalso; omega))
    | refine wCd (fun hb => ?_) fun hb => ?_
    | simp only [go_sem, Nat.reduceLT, Nat.reduceLeDiff, Nat.reduceEqDiff, Nat.reduceAdd, Nat.reduceMul, Nat.reduceSub, reduceCtorEq, F]
    | simp (disch := omega) only [decide_eq_true_eq, if_pos, if_neg, wrap_id, le_maxLen, and_true, true_and, if_true, ite_true]
    | refine wGd (fun hb => ?_) fun hb => ?_
  all_goals first
    | (exfalso; simp_all; done)
    | skip
  all_goals refine retO_mk [] rfl [.box [.rf 1 s.heads.length, .rf 2 s.descs.length], .root 147 (rowsH s.heads), .root 37 (rowsD 96 s.descs)] rfl (by simp [keepsL, updH, hpL]) (acc1 := _) (by simp only [go_sem, Nat.reduceLT, Nat.reduceLeDiff, Nat.reduceEqDiff, Nat.reduceAdd, Nat.reduceMul, Nat.reduceSub, reduceCtorEq, exEs, exOCs, exOC]; try rfl) (by simp only [go_sem, Nat.reduceLT, Nat.reduceLeDiff, Nat.reduceEqDiff, Nat.reduceAdd, Nat.reduceMul, Nat.reduceSub, reduceCtorEq, vres]; rfl) (acc := _) (by simp only [go_sem, Nat.reduceLT, Nat.reduceLeDiff, Nat.reduceEqDiff, Nat.reduceAdd, Nat.reduceMul, Nat.reduceSub, reduceCtorEq, wrap, exOV, exOAs, exOA, exOC, hbn]; try rfl) (by simp) (by simp [rootOf])
theorem implFinish_ok (s0 : StoreD) (fs0 : List FrameD) (m : Int) (hs : s0.tiny) (hl : fs0.length ≤ 1048576) (r : StoreD × Int × Bool) (hr : finishR s0 fs0 m = r) :
    SatP Try.prog 38 [.agg (s0.cells 147 37 96), .fr 118 (rowsF fs0), .int .i64 m]
      (.tup [.agg [.rf 0 s0.heads.length, .rf 1 s0.descs.length], .int .i64 r.2.1, .bool r.2.2]) [(147, rowsH r.1.heads), (37, rowsD 96 r.1.descs)] := by
  have hc := implStackOk_ok s0 fs0 hs.small hl
  have ho := ownStore_ok s0 hs.small
  have hin := in_ok m 0 2000
  refine satP_of_body hT Try.func38 (by kernel_rfl) rfl (rs := [.cell 6 64, .tmp 7, .tmp 8]) rfl (n := 33) rfl (by simp) rfl (by simp [rowsH_pur, rowsD_pur]) fun E hE => ?_
  unfold St.init
  unfold StoreD.cells at *
  rcases (Bool.eq_false_or_eq_true (finOk s0 fs0 m)).symm with hp | hp
  · rw [finishR, if_neg (by rw [hp]; exact fun h => nomatch h)] at hr
    subst hr
    have hp2 : stackB s0 fs0 = true → inB m 0 2000 = false := fun h => by simpa [finOk, h] using hp
    generalize stackB s0 fs0 = A at *
    generalize inB m 0 2000 = B at *
    have F := And.intro @rowsH_len (And.intro @rowsD_len (And.intro @rowsF_len (And.intro @rowsH_take @rowsD_take)))
    repeat' first
      | refine wSq fun _ hK => ?_
      | refine wRg ?_
      | refine wDr ?_
      | refine VWP_block ?_
      | refine VWP_skip ?_
      | refine VWP_exit ?_
      | refine VWP_ret ?_
      | (refine hK _ ?_; clear hK)
      | (clear hK; refine hK _ ?_; clear hK)
      | (clear hK; clear hK; refine hK _ ?_; clear hK)
      | (clear hK; clear hK; clear hK; refine hK _ ?_; clear hK)
      | (simp only [wHb, reduceCtorEq] at hb <;> try (exfalso; omega))
      | refine wCd (fun hb => ?_) fun hb => ?_
      | refine wCa (c := by first | exact hc | exact ho | exact hin) (k := ?_)
      | simp only [go_sem, Nat.reduceLT, Nat.reduceLeDiff, Nat.reduceEqDiff, Nat.reduceAdd, Nat.reduceMul, Nat.reduceSub, reduceCtorEq, F]
      | simp (disch := omega) only [decide_eq_true_eq, if_pos, if_neg, wrap_id, le_maxLen, and_true, true_and, if_true, ite_true]
      | refine wGd (fun hb => ?_) fun hb => ?_
    all_goals first
      | (exfalso; simp_all; done)
      | skip
    all_goals refine ret_mk (vs := _) (acc := _) (by simp only [go_sem, Nat.reduceLT, Nat.reduceLeDiff, Nat.reduceEqDiff, Nat.reduceAdd, Nat.reduceMul, Nat.reduceSub, reduceCtorEq, vres]; rfl) (by simp only [go_sem, Nat.reduceLT, Nat.reduceLeDiff, Nat.reduceEqDiff, Nat.reduceAdd, Nat.reduceMul, Nat.reduceSub, reduceCtorEq, wrap, exV, exAs, exA, exCs, exC, rowsH_len, rowsH_take, rowsD_len, rowsD_take, Nat.le_refl]; rfl) (by simp) (by simp) (by simp [rowsH_pur, rowsD_pur])
  · rw [finishR, if_pos hp] at hr
    have hp2 : stackB s0 fs0 = true ∧ inB m 0 2000 = true := by simpa [finOk] using hp
    rw [hp2.1] at hc
    rw [hp2.2] at hin
    have hi := stack_help hp2.1
    have hmr := hp2.2
    simp [inB] at hmr
    obtain ⟨n, hn⟩ : ∃ n : Nat, m = n := ⟨m.toNat, by omega⟩
    subst hn
    rw [Int.toNat_natCast] at hr
    obtain ⟨q, hq⟩ : ∃ q, finF n s0 fs0 = q := ⟨_, rfl⟩
    rw [hq] at hr
    have hk := finF_keeps n hi
    rw [hq] at hk
    have e1 : q.1.heads.length = s0.heads.length := hk.hl
    have e2 : q.1.descs.length = s0.descs.length := hk.dl
    have t1 := rowsH_take q.1.heads
    have t2 := rowsD_take 96 q.1.descs
    rw [e1] at t1
    rw [e2] at t2
    subst hr
    by_cases hstay : stuckB s0 fs0 = true
    · have hf := finishStay_ok s0 fs0 n hi hs (by omega) hstay q hq
      have hq1 : q.1 = s0 := by rw [← hq, finF_stay n hstay]
      simp only [hq1]
      have F := And.intro @rowsH_len (And.intro @rowsD_len (And.intro @rowsF_len (And.intro @rowsH_take (And.intro @rowsD_take (And.intro @rowsH_pur @rowsD_pur)))))
      repeat' first
        | refine wSq fun _ hK => ?_
        | refine wRg ?_
        | refine wDr ?_
        | refine VWP_block ?_
        | refine VWP_skip ?_
        | refine VWP_exit ?_
        | refine VWP_ret ?_
        | (refine hK _ ?_; clear hK)
        | (clear hK; refine hK _ ?_; clear hK)
        | (clear hK; clear hK; refine hK _ ?_; clear hK)
        | (clear hK; clear hK; clear hK; refine hK _ ?_; clear hK)
        | (simp only [wHb, reduceCtorEq] at hb <;> try (exfalso; omega))
        | refine wCd (fun hb => ?_) fun hb => ?_
        | refine wCa (c := by first | exact hc | exact ho | exact hin) (k := ?_)
        | refine wOw [4, 2, 3] (c := by exact hf) (k := ?_)
        | simp only [go_sem, Nat.reduceLT, Nat.reduceLeDiff, Nat.reduceEqDiff, Nat.reduceAdd, Nat.reduceMul, Nat.reduceSub, reduceCtorEq, F]
        | simp (disch := omega) only [decide_eq_true_eq, if_pos, if_neg, wrap_id, le_maxLen, and_true, true_and, if_true, ite_true]
        | refine wGd (fun hb => ?_) fun hb => ?_
      refine ret_mk (vs := _) (acc := _) (by simp only [go_sem, Nat.reduceLT, Nat.reduceLeDiff, Nat.reduceEqDiff, Nat.reduceAdd, Nat.reduceMul, Nat.reduceSub, reduceCtorEq, vres]; rfl) (by simp only [go_sem, Nat.reduceLT, Nat.reduceLeDiff, Nat.reduceEqDiff, Nat.reduceAdd, Nat.reduceMul, Nat.reduceSub, reduceCtorEq, wrap, exV, exAs, exA, exCs, exC, rowsH_len, rowsH_take, rowsD_len, rowsD_take, Nat.le_refl]; rfl) (by simp) (by simp) (by simp [rowsH_pur, rowsD_pur])
    · have hstay2 : stuckB s0 fs0 = false := by simpa using hstay
      have hne : fs0 ≠ [] := fun h => by subst h; simp [stuckB] at hstay
      rcases Nat.eq_zero_or_pos n with hn0 | hn0
      · subst hn0
        have hf := finishZero_ok s0 fs0 hi hs q hq
        have hq1 : q.1 = s0 := by rw [← hq]; rfl
        simp only [hq1]
        have F := And.intro @rowsH_len (And.intro @rowsD_len (And.intro @rowsF_len (And.intro @rowsH_take (And.intro @rowsD_take (And.intro @rowsH_pur @rowsD_pur)))))
        repeat' first
          | refine wSq fun _ hK => ?_
          | refine wRg ?_
          | refine wDr ?_
          | refine VWP_block ?_
          | refine VWP_skip ?_
          | refine VWP_exit ?_
          | refine VWP_ret ?_
          | (refine hK _ ?_; clear hK)
          | (clear hK; refine hK _ ?_; clear hK)
          | (clear hK; clear hK; refine hK _ ?_; clear hK)
          | (clear hK; clear hK; clear hK; refine hK _ ?_; clear hK)
          | (simp only [wHb, reduceCtorEq] at hb <;> try (exfalso; omega))
          | refine wCd (fun hb => ?_) fun hb => ?_
          | refine wCa (c := by first | exact hc | exact ho | exact hin) (k := ?_)
          | refine wOw [4, 2, 3] (c := by exact hf) (k := ?_)
          | simp only [go_sem, Nat.reduceLT, Nat.reduceLeDiff, Nat.reduceEqDiff, Nat.reduceAdd, Nat.reduceMul, Nat.reduceSub, reduceCtorEq, F]
          | simp (disch := omega) only [decide_eq_true_eq, if_pos, if_neg, wrap_id, le_maxLen, and_true, true_and, if_true, ite_true]
          | refine wGd (fun hb => ?_) fun hb => ?_
        refine ret_mk (vs := _) (acc := _) (by simp only [go_sem, Nat.reduceLT, Nat.reduceLeDiff, Nat.reduceEqDiff, Nat.reduceAdd, Nat.reduceMul, Nat.reduceSub, reduceCtorEq, vres]; rfl) (by simp only [go_sem, Nat.reduceLT, Nat.reduceLeDiff, Nat.reduceEqDiff, Nat.reduceAdd, Nat.reduceMul, Nat.reduceSub, reduceCtorEq, wrap, exV, exAs, exA, exCs, exC, rowsH_len, rowsH_take, rowsD_len, rowsD_take, Nat.le_refl]; rfl) (by simp) (by simp) (by simp [rowsH_pur, rowsD_pur])
      · have hf := finish_ok s0 fs0 n hi hs (by omega) (by omega) hne hstay2 q hq
        have F := And.intro @rowsH_len (And.intro @rowsD_len (And.intro @rowsF_len (And.intro @rowsH_take (And.intro @rowsD_take (And.intro @rowsH_pur @rowsD_pur)))))
        repeat' first
          | refine wSq fun _ hK => ?_
          | refine wRg ?_
          | refine wDr ?_
          | refine VWP_block ?_
          | refine VWP_skip ?_
          | refine VWP_exit ?_
          | refine VWP_ret ?_
          | (refine hK _ ?_; clear hK)
          | (clear hK; refine hK _ ?_; clear hK)
          | (clear hK; clear hK; refine hK _ ?_; clear hK)
          | (clear hK; clear hK; clear hK; refine hK _ ?_; clear hK)
          | (simp only [wHb, reduceCtorEq] at hb <;> try (exfalso; omega))
          | refine wCd (fun hb => ?_) fun hb => ?_
          | refine wCa (c := by first | exact hc | exact ho | exact hin) (k := ?_)
          | refine wOw [4, 2, 3] (c := by exact hf) (k := ?_)
          | simp only [go_sem, Nat.reduceLT, Nat.reduceLeDiff, Nat.reduceEqDiff, Nat.reduceAdd, Nat.reduceMul, Nat.reduceSub, reduceCtorEq, F]
          | simp (disch := omega) only [decide_eq_true_eq, if_pos, if_neg, wrap_id, le_maxLen, and_true, true_and, if_true, ite_true]
          | refine wGd (fun hb => ?_) fun hb => ?_
        refine ret_mk (vs := _) (acc := _) (by simp only [go_sem, Nat.reduceLT, Nat.reduceLeDiff, Nat.reduceEqDiff, Nat.reduceAdd, Nat.reduceMul, Nat.reduceSub, reduceCtorEq, vres]; rfl) (by simp only [go_sem, Nat.reduceLT, Nat.reduceLeDiff, Nat.reduceEqDiff, Nat.reduceAdd, Nat.reduceMul, Nat.reduceSub, reduceCtorEq, wrap, exV, exAs, exA, exCs, exC, rowsH_len, rowsD_len, e1, e2, t1, t2, Nat.le_refl]; rfl) (by simp) (by simp) (by simp [rowsH_pur, rowsD_pur])
theorem finishR_tiny (s : StoreD) (fs : List FrameD) (m : Int) (hs : s.tiny) : (finishR s fs m).1.tiny ∧ (finishR s fs m).1.heads.length = s.heads.length ∧ (finishR s fs m).1.descs.length = s.descs.length := by
  unfold finishR
  split
  · rename_i h
    have hp2 : stackB s fs = true ∧ inB m 0 2000 = true := by simpa [finOk] using h
    have hi := stack_help hp2.1
    have hk := finF_keeps m.toNat hi
    exact ⟨finF_tiny m.toNat hi hs, hk.hl, hk.dl⟩
  · exact ⟨hs, rfl, rfl⟩
end Go.Proofs.Ytmiojnibngncaaa
