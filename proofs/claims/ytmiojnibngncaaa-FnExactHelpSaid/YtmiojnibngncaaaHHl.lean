/- The law on values: both Help give the same. -/
import Derived.Test.YtmiojnibngncaaaHH
namespace Go.Proofs.Ytmiojnibngncaaa
open Go Go.RowKit
set_option linter.unusedVariables false
set_option linter.unusedSimpArgs false
set_option maxRecDepth 100000
set_option maxHeartbeats 4000000
attribute [local irreducible] VWP vops vdraw contV contD CallK Guard GuardV NextL Puts Runs RetOK RetQ RetO RetQO thenQ blockQ

theorem helpLaw_ok (s : StoreD) (fs : List FrameD) (hf : s.fits) (hfl : fs.length ≤ 9223372036854775807) : SatP Try.prog 7 [.agg (s.cells 149 87 98), .fr 120 (rowsF fs)] (.bool true) [] := by
  have hz := szS_fits s 1048576 (by omega)
  refine satP_of_body hT Try.func7 (by kernel_rfl) rfl (rs := [.tmp 4]) rfl (n := 135) rfl (by simp) rfl (by simp) fun E hE => ?_
  unfold St.init
  rcases Int.lt_or_le (szS s 1048576) 0 with hbig | hsm
  · have hz2 := hz.2 hbig
    unfold StoreD.cells
    have F := hz2
    repeat' first
      | refine wSq fun _ hK => ?_
      | refine wRg ?_
      | refine wDr ?_
      | refine VWP_block ?_
      | refine VWP_skip ?_
      | refine VWP_exit ?_
      | refine VWP_ret ?_
      | (refine hK _ ?_; clear hK)
      | (clear hK; refine hK _ ?_; clear hK)
      | (clear hK; clear hK; refine hK _ ?_; clear hK)
      | (clear hK; clear hK; clear hK; refine hK _ ?_; clear hK)
      | (simp only [wHb, reduceCtorEq] at hb <;> try (exfalso; omega))
      | refine wCd (fun hb => ?_) fun hb => ?_
      | refine wCa (c := by first | exact szStore_ok s _ (by omega) (by omega) hf) (k := ?_)
      | simp only [go_sem, Nat.reduceLT, Nat.reduceLeDiff, Nat.reduceEqDiff, Nat.reduceAdd, Nat.reduceMul, Nat.reduceSub, reduceCtorEq, F]
      | simp (disch := omega) only [decide_eq_true_eq, if_pos, if_neg, wrap_id, le_maxLen, and_true, true_and, if_true, ite_true]
      | refine wGd (fun hb => ?_) fun hb => ?_
    refine wLf ?_
    rfl
  have hn : ¬ szS s 1048576 < 0 := by omega
  have hs := szS_small (by omega) (by omega) hsm
  have hst := szS_tiny (by omega) (by omega) hsm
  have hle := (hz.1 hsm).2
  have hsl : szS s 1048576 ≤ 1048576 := by omega
  have cz := szFrameS_ok fs (szS s 1048576) hsm hsl hfl
  rcases Int.lt_or_le (szB fs.length (szS s 1048576)) 0 with hbig2 | hsm2
  · unfold StoreD.cells
    have F := And.intro hn hbig2
    repeat' first
      | refine wSq fun _ hK => ?_
      | refine wRg ?_
      | refine wDr ?_
      | refine VWP_block ?_
      | refine VWP_skip ?_
      | refine VWP_exit ?_
      | refine VWP_ret ?_
      | (refine hK _ ?_; clear hK)
      | (clear hK; refine hK _ ?_; clear hK)
      | (clear hK; clear hK; refine hK _ ?_; clear hK)
      | (clear hK; clear hK; clear hK; refine hK _ ?_; clear hK)
      | (simp only [wHb, reduceCtorEq] at hb <;> try (exfalso; omega))
      | refine wCd (fun hb => ?_) fun hb => ?_
      | refine wCa (c := by first | exact szStore_ok s _ (by omega) (by omega) hf | exact cz) (k := ?_)
      | simp only [go_sem, Nat.reduceLT, Nat.reduceLeDiff, Nat.reduceEqDiff, Nat.reduceAdd, Nat.reduceMul, Nat.reduceSub, reduceCtorEq, F]
      | simp (disch := omega) only [decide_eq_true_eq, if_pos, if_neg, wrap_id, le_maxLen, and_true, true_and, if_true, ite_true]
      | refine wGd (fun hb => ?_) fun hb => ?_
    refine wLf ?_
    rfl
  · have hn2 : ¬ szB fs.length (szS s 1048576) < 0 := by omega
    have hl : fs.length ≤ 1048576 := by
      unfold szB at hsm2
      split at hsm2 <;> omega
    obtain ⟨r, hr⟩ : ∃ r, helpR s fs = r := ⟨_, rfl⟩
    have hrt := helpR_tiny s fs hst hl
    rw [hr] at hrt
    obtain ⟨hrt, e1, e2, e3⟩ := hrt
    have c1 := specHelp_ok s fs hst hl r hr
    have c2 := implHelp_ok s fs hst hl r hr
    obtain ⟨⟨hs', ds'⟩, rf⟩ := r
    simp only at c1 c2 hrt e1 e2 e3
    rw [← e1, ← e2] at c1 c2
    have hq := eqStore_ok ⟨hs', ds'⟩ ⟨hs', ds'⟩ hrt.small
    have hqf := eqFrameS_ok rf rf (by omega)
    have hqg := eqFrameS_ok fs fs (by omega)
    have htf := toFrameS_ok fs hl
    have hct := (cntD_le s.descs (Nat.le_refl _))
    have hcr := (cntD_le ds' (Nat.le_refl _))
    have hcs : cntS s = 3 * (s.heads.length : Int) + cntD s.descs s.descs.length := rfl
    have hcq : cntS ⟨hs', ds'⟩ = 3 * (hs'.length : Int) + cntD ds' ds'.length := rfl
    obtain ⟨b1, b2, b3⟩ := hst
    obtain ⟨b4, b5, b6⟩ := hrt
    simp only at b4 b5 b6
    have hm := markStore_ok s 1 (by omega) (by omega) ⟨b1, b2, b3⟩
    have hmf := markFrameS_ok fs (1 + cntS s) (by omega) (by omega) (by omega)
    have hmr := markStore_ok ⟨hs', ds'⟩ 1 (by omega) (by omega) ⟨b4, b5, b6⟩
    have hmg := markFrameS_ok rf (1 + cntS ⟨hs', ds'⟩) (by omega) (by omega) (by omega)
    have hhr := heldStore_ok ⟨hs', ds'⟩ 1 (by omega) (by omega) ⟨b4, b5, b6⟩
    have hhf := heldFrameS_ok rf.length (1 + cntS ⟨hs', ds'⟩) (by omega) (by omega) (by omega)
    have hnk : ¬ 1 + cntS s + 3 * (fs.length : Int) < 0 := by omega
    have hnr : ¬ 1 + cntS ⟨hs', ds'⟩ < 0 := by omega
    have hnq : ¬ 1 + cntS ⟨hs', ds'⟩ + 3 * (rf.length : Int) < 0 := by omega
    have t1 := rowsH_take (marksS 1 ⟨hs', ds'⟩).heads
    have t2 := rowsD_take 96 (marksS 1 ⟨hs', ds'⟩).descs
    have t3 := rowsF_take (marksF (1 + cntS ⟨hs', ds'⟩) rf.length)
    have l1 : (marksS 1 ⟨hs', ds'⟩).heads.length = hs'.length := by simp [marksS, marksH_len]
    have l2 : (marksS 1 ⟨hs', ds'⟩).descs.length = ds'.length := by simp [marksS, marksD_len]
    have l3 := marksF_len (1 + cntS ⟨hs', ds'⟩) rf.length
    rw [l1] at t1
    rw [l2] at t2
    rw [l3] at t3
    simp only at hmr hhr
    unfold StoreD.cells at *
    simp only at hq
    have F := And.intro hn (And.intro hn2 (And.intro hnk (And.intro hnr (And.intro hnq (And.intro t1 (And.intro t2 (And.intro t3 (And.intro l1 (And.intro l2 (And.intro l3 (And.intro @rowsH_len (And.intro @rowsH_pur (And.intro @rowsH_take (And.intro @rowsD_len (And.intro @rowsD_pur (And.intro @rowsD_take (And.intro @rowsF_len (And.intro @rowsF_pur (And.intro @rowsF_take (And.intro @bne_self_eq_false.{0} @Nat.le_refl))))))))))))))))))))
    repeat' first
      | refine wSq fun _ hK => ?_
      | refine wRg ?_
      | refine wDr ?_
      | refine VWP_block ?_
      | refine VWP_skip ?_
      | refine VWP_exit ?_
      | refine VWP_ret ?_
      | (refine hK _ ?_; clear hK)
      | (clear hK; refine hK _ ?_; clear hK)
      | (clear hK; clear hK; refine hK _ ?_; clear hK)
      | (clear hK; clear hK; clear hK; refine hK _ ?_; clear hK)
      | (simp only [wHb, reduceCtorEq] at hb <;> try (exfalso; omega))
      | refine wCd (fun hb => ?_) fun hb => ?_
      | refine wCa (c := by first | exact szStore_ok s _ (by omega) (by omega) hf | exact cz | exact toStore_ok s hs | exact htf | exact c1 | exact c2 | exact hq | exact hqf | exact hqg | exact eqStore_ok s s hs | exact hhr | exact hhf) (k := ?_)
      | refine wOw [8, 9] (c := by exact hm) (k := ?_)
      | refine wOw [11] (c := by exact hmf) (k := ?_)
      | refine wOw [12, 13] (c := by exact hmr) (k := ?_)
      | refine wOw [14] (c := by exact hmg) (k := ?_)
      | simp only [go_sem, Nat.reduceLT, Nat.reduceLeDiff, Nat.reduceEqDiff, Nat.reduceAdd, Nat.reduceMul, Nat.reduceSub, reduceCtorEq, F]
      | simp (disch := omega) only [decide_eq_true_eq, if_pos, if_neg, wrap_id, le_maxLen, and_true, true_and, if_true, ite_true]
      | refine wGd (fun hb => ?_) fun hb => ?_
    all_goals try (refine wLf ?_; rfl)
end Go.Proofs.Ytmiojnibngncaaa
