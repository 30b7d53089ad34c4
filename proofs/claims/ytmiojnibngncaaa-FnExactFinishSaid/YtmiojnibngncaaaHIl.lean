/- The law on values: both Finish give the same. -/
import Derived.Test.YtmiojnibngncaaaHI
namespace Go.Proofs.Ytmiojnibngncaaa
open Go Go.RowKit
set_option linter.unusedVariables false
set_option linter.unusedSimpArgs false
set_option maxRecDepth 100000
set_option maxHeartbeats 4000000
attribute [local irreducible] VWP vops vdraw contV contD CallK Guard GuardV NextL Puts Runs RetOK RetQ RetO RetQO thenQ blockQ

theorem finishLaw_ok (s : StoreD) (fs : List FrameD) (mo : Int) (hf : s.fits) (hfl : fs.length ≤ 9223372036854775807) : SatP Try.prog 6 [.agg (s.cells 149 87 98), .fr 120 (rowsF fs), .int .i64 mo] (.bool true) [] := by
  have hz := szS_fits s 1048576 (by omega)
  refine satP_of_body hT Try.func6 (by kernel_rfl) rfl (rs := [.tmp 6]) rfl (n := 145) rfl (by simp) rfl (by simp) fun E hE => ?_
  unfold St.init
  rcases Int.lt_or_le (szS s 1048576) 0 with hbig | hsm
  · have hz2 := hz.2 hbig
    unfold StoreD.cells
    have F := hz2
    repeat' first
      | refine wSq fun _ hK => ?_
      | refine wRg ?_
      | refine wDr ?_
      | refine VWP_block ?_
      | refine VWP_skip ?_
      | refine VWP_exit ?_
      | refine VWP_ret ?_
      | (refine hK _ ?_; clear hK)
      | (clear hK; refine hK _ ?_; clear hK)
      | (clear hK; clear hK; refine hK _ ?_; clear hK)
      | (clear hK; clear hK; clear hK; refine hK _ ?_; clear hK)
      | (simp only [wHb, reduceCtorEq] at hb <;> try (exfalso; omega))
      | refine wCd (fun hb => ?_) fun hb => ?_
      | refine wCa (c := by first | exact szStore_ok s _ (by omega) (by omega) hf) (k := ?_)
      | simp only [go_sem, Nat.reduceLT, Nat.reduceLeDiff, Nat.reduceEqDiff, Nat.reduceAdd, Nat.reduceMul, Nat.reduceSub, reduceCtorEq, F]
      | simp (disch := omega) only [decide_eq_true_eq, if_pos, if_neg, wrap_id, le_maxLen, and_true, true_and, if_true, ite_true]
      | refine wGd (fun hb => ?_) fun hb => ?_
    refine wLf ?_
    rfl
  have hn : ¬ szS s 1048576 < 0 := by omega
  have hs := szS_small (by omega) (by omega) hsm
  have hst := szS_tiny (by omega) (by omega) hsm
  have hle := (hz.1 hsm).2
  have hsl : szS s 1048576 ≤ 1048576 := by omega
  have cz := szFrameS_ok fs (szS s 1048576) hsm hsl hfl
  rcases Int.lt_or_le (szB fs.length (szS s 1048576)) 0 with hbig2 | hsm2
  · unfold StoreD.cells
    have F := And.intro hn hbig2
    repeat' first
      | refine wSq fun _ hK => ?_
      | refine wRg ?_
      | refine wDr ?_
      | refine VWP_block ?_
      | refine VWP_skip ?_
      | refine VWP_exit ?_
      | refine VWP_ret ?_
      | (refine hK _ ?_; clear hK)
      | (clear hK; refine hK _ ?_; clear hK)
      | (clear hK; clear hK; refine hK _ ?_; clear hK)
      | (clear hK; clear hK; clear hK; refine hK _ ?_; clear hK)
      | (simp only [wHb, reduceCtorEq] at hb <;> try (exfalso; omega))
      | refine wCd (fun hb => ?_) fun hb => ?_
      | refine wCa (c := by first | exact szStore_ok s _ (by omega) (by omega) hf | exact cz) (k := ?_)
      | simp only [go_sem, Nat.reduceLT, Nat.reduceLeDiff, Nat.reduceEqDiff, Nat.reduceAdd, Nat.reduceMul, Nat.reduceSub, reduceCtorEq, F]
      | simp (disch := omega) only [decide_eq_true_eq, if_pos, if_neg, wrap_id, le_maxLen, and_true, true_and, if_true, ite_true]
      | refine wGd (fun hb => ?_) fun hb => ?_
    refine wLf ?_
    rfl
  · have hn2 : ¬ szB fs.length (szS s 1048576) < 0 := by omega
    have hl : fs.length ≤ 1048576 := by
      unfold szB at hsm2
      split at hsm2 <;> omega
    obtain ⟨r, hr⟩ : ∃ r, finishR s fs mo = r := ⟨_, rfl⟩
    have hrt := finishR_tiny s fs mo hst
    rw [hr] at hrt
    obtain ⟨hrt, e1, e2⟩ := hrt
    have c1 := specFinish_ok s fs mo hst hl r hr
    have c2 := implFinish_ok s fs mo hst hl r hr
    obtain ⟨⟨hs', ds'⟩, rn, rb⟩ := r
    simp only at c1 c2 hrt e1 e2
    rw [← e1, ← e2] at c1 c2
    have hq := eqStore_ok ⟨hs', ds'⟩ ⟨hs', ds'⟩ hrt.small
    have hqg := eqFrameS_ok fs fs (by omega)
    have htf := toFrameS_ok fs hl
    have hct := (cntD_le s.descs (Nat.le_refl _))
    have hcr := (cntD_le ds' (Nat.le_refl _))
    have hcs : cntS s = 3 * (s.heads.length : Int) + cntD s.descs s.descs.length := rfl
    have hcq : cntS ⟨hs', ds'⟩ = 3 * (hs'.length : Int) + cntD ds' ds'.length := rfl
    obtain ⟨b1, b2, b3⟩ := hst
    obtain ⟨b4, b5, b6⟩ := hrt
    simp only at b4 b5 b6
    have hm := markStore_ok s 1 (by omega) (by omega) ⟨b1, b2, b3⟩
    have hmf := markFrameS_ok fs (1 + cntS s) (by omega) (by omega) (by omega)
    have hmr := markStore_ok ⟨hs', ds'⟩ 1 (by omega) (by omega) ⟨b4, b5, b6⟩
    have hhr := heldStore_ok ⟨hs', ds'⟩ 1 (by omega) (by omega) ⟨b4, b5, b6⟩
    have hnk : ¬ 1 + cntS s + 3 * (fs.length : Int) < 0 := by omega
    have hnr : ¬ 1 + cntS ⟨hs', ds'⟩ < 0 := by omega
    have t1 := rowsH_take (marksS 1 ⟨hs', ds'⟩).heads
    have t2 := rowsD_take 96 (marksS 1 ⟨hs', ds'⟩).descs
    have l1 : (marksS 1 ⟨hs', ds'⟩).heads.length = hs'.length := by simp [marksS, marksH_len]
    have l2 : (marksS 1 ⟨hs', ds'⟩).descs.length = ds'.length := by simp [marksS, marksD_len]
    rw [l1] at t1
    rw [l2] at t2
    simp only at hmr hhr
    unfold StoreD.cells at *
    simp only at hq
    have F := And.intro hn (And.intro hn2 (And.intro hnk (And.intro hnr (And.intro t1 (And.intro t2 (And.intro l1 (And.intro l2 (And.intro @rowsH_len (And.intro @rowsH_pur (And.intro @rowsH_take (And.intro @rowsD_len (And.intro @rowsD_pur (And.intro @rowsD_take (And.intro @rowsF_len (And.intro @rowsF_pur (And.intro @rowsF_take (And.intro @bne_self_eq_false.{0} @Nat.le_refl)))))))))))))))))
    repeat' first
      | refine wSq fun _ hK => ?_
      | refine wRg ?_
      | refine wDr ?_
      | refine VWP_block ?_
      | refine VWP_skip ?_
      | refine VWP_exit ?_
      | refine VWP_ret ?_
      | (refine hK _ ?_; clear hK)
      | (clear hK; refine hK _ ?_; clear hK)
      | (clear hK; clear hK; refine hK _ ?_; clear hK)
      | (clear hK; clear hK; clear hK; refine hK _ ?_; clear hK)
      | (simp only [wHb, reduceCtorEq] at hb <;> try (exfalso; omega))
      | refine wCd (fun hb => ?_) fun hb => ?_
      | refine wCa (c := by first | exact szStore_ok s _ (by omega) (by omega) hf | exact cz | exact toStore_ok s hs | exact htf | exact c1 | exact c2 | exact hq | exact hqg | exact eqStore_ok s s hs | exact hhr) (k := ?_)
      | refine wOw [7, 8] (c := by exact hm) (k := ?_)
      | refine wOw [10] (c := by exact hmf) (k := ?_)
      | refine wOw [11, 12] (c := by exact hmr) (k := ?_)
      | simp only [go_sem, Nat.reduceLT, Nat.reduceLeDiff, Nat.reduceEqDiff, Nat.reduceAdd, Nat.reduceMul, Nat.reduceSub, reduceCtorEq, F]
      | simp (disch := omega) only [decide_eq_true_eq, if_pos, if_neg, wrap_id, le_maxLen, and_true, true_and, if_true, ite_true]
      | refine wGd (fun hb => ?_) fun hb => ?_
    all_goals try (refine wLf ?_; rfl)
end Go.Proofs.Ytmiojnibngncaaa
