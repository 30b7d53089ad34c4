/- The law on values: both FinishAll give the same. -/
import Derived.Test.YtclljpdcpcolpaaHF
namespace Go.Proofs.Ytclljpdcpcolpaa
open Go Go.RowKit
set_option linter.unusedVariables false
set_option linter.unusedSimpArgs false
set_option maxRecDepth 100000
set_option maxHeartbeats 4000000
attribute [local irreducible] VWP vops vdraw contV contD CallK Guard GuardV NextL Puts Runs RetOK RetQ RetO RetQO thenQ blockQ

theorem finAll_tiny : ∀ (m : Nat) (s : StoreD), s.tiny → (finAllF m s).1.tiny ∧ (finAllF m s).1.heads.length = s.heads.length ∧ (finAllF m s).1.descs.length = s.descs.length
  | 0, s, hs => ⟨hs, rfl, rfl⟩
  | m + 1, s, hs => by
    cases hh : heldL s with
    | nil => rw [finAll_nil hh]; exact ⟨hs, rfl, rfl⟩
    | cons o rest =>
      rw [finAll_step hh]
      obtain ⟨k, hd, hS, rfl, hk, hdo, hst, hsk⟩ := heldL_cons hh
      rw [hdo]
      have hI := stack_help hst
      have hkp := finF_keeps 2000 hI
      obtain ⟨k1, k2, k3⟩ := finAll_tiny m _ (finF_tiny 2000 hI hs)
      exact ⟨k1, by rw [k2]; exact hkp.hl, by rw [k3]; exact hkp.dl⟩
theorem finAllR_tiny (s : StoreD) (hs : s.tiny) : (finAllR s).1.tiny ∧ (finAllR s).1.heads.length = s.heads.length ∧ (finAllR s).1.descs.length = s.descs.length := by
  unfold finAllR
  split
  · split
    · exact finAll_tiny 60 s hs
    · exact ⟨hs, rfl, rfl⟩
  · exact ⟨hs, rfl, rfl⟩
theorem finAllLaw_ok (s : StoreD) (hf : s.fits) : SatP Try.prog 9 [.agg (s.cells 170 56 174)] (.bool true) [] := by
  have hz := szS_fits s 1048576 (by omega)
  refine satP_of_body hT Try.func9 (by kernel_rfl) rfl (rs := [.tmp 2]) rfl (n := 96) rfl (by simp) rfl (by simp) fun E hE => ?_
  unfold St.init
  rcases Int.lt_or_le (szS s 1048576) 0 with hbig | hsm
  · have hz2 := hz.2 hbig
    unfold StoreD.cells
    have F := hz2
    repeat' first
      | refine wSq fun _ hK => ?_
      | refine wRg ?_
      | refine wDr ?_
      | refine VWP_block ?_
      | refine VWP_skip ?_
      | refine VWP_exit ?_
      | refine VWP_ret ?_
      | (refine hK _ ?_; clear hK)
      | (clear hK; refine hK _ ?_; clear hK)
      | (clear hK; clear hK; refine hK _ ?_; clear hK)
      | (clear hK; clear hK; clear hK; refine hK _ ?_; clear hK)
      | (simp only [wHb, reduceCtorEq] at hb <;> try (exfalso; omega))
      | refine wCd (fun hb => ?_) fun hb => ?_
      | refine wCa (c := by first | exact szStore_ok s _ (by omega) (by omega) hf) (k := ?_)
      | simp only [go_sem, Nat.reduceLT, Nat.reduceLeDiff, Nat.reduceEqDiff, Nat.reduceAdd, Nat.reduceMul, Nat.reduceSub, reduceCtorEq, F]
      | simp (disch := omega) only [decide_eq_true_eq, if_pos, if_neg, wrap_id, le_maxLen, and_true, true_and, if_true, ite_true]
      | refine wGd (fun hb => ?_) fun hb => ?_
    refine wLf ?_
    rfl
  · have hn : ¬ szS s 1048576 < 0 := by omega
    have hs := szS_small (by omega) (by omega) hsm
    have hst := szS_tiny (by omega) (by omega) hsm
    obtain ⟨r, hr⟩ : ∃ r, finAllR s = r := ⟨_, rfl⟩
    have hrt := finAllR_tiny s hst
    rw [hr] at hrt
    obtain ⟨hrt, e1, e2⟩ := hrt
    have c1 := specFinishAll_ok s hst r hr
    have c2 := implFinishAll_ok s hst r hr
    obtain ⟨⟨hs', ds'⟩, rb⟩ := r
    simp only at c1 c2 hrt e1 e2
    rw [← e1, ← e2] at c1 c2
    have hq := eqStore_ok ⟨hs', ds'⟩ ⟨hs', ds'⟩ hrt.small
    have hm := markStore_ok s 1 (by omega) (by omega) hst
    have hmr := markStore_ok ⟨hs', ds'⟩ 1 (by omega) (by omega) hrt
    have hhr := heldStore_ok ⟨hs', ds'⟩ 1 (by omega) (by omega) hrt
    have hnk : ¬ 1 + cntS s < 0 := by
      have := (cntD_le s.descs (Nat.le_refl _)).1
      unfold cntS
      omega
    have hnr : ¬ 1 + cntS ⟨hs', ds'⟩ < 0 := by
      have := (cntD_le ds' (Nat.le_refl _)).1
      unfold cntS
      simp only
      omega
    have t1 := rowsH_take (marksS 1 ⟨hs', ds'⟩).heads
    have t2 := rowsD_take 131 (marksS 1 ⟨hs', ds'⟩).descs
    have l1 : (marksS 1 ⟨hs', ds'⟩).heads.length = hs'.length := by simp [marksS, marksH_len]
    have l2 : (marksS 1 ⟨hs', ds'⟩).descs.length = ds'.length := by simp [marksS, marksD_len]
    rw [l1] at t1
    rw [l2] at t2
    simp only at hmr hhr
    unfold StoreD.cells at *
    simp only at hq
    have F := And.intro hn (And.intro hnk (And.intro hnr (And.intro t1 (And.intro t2 (And.intro l1 (And.intro l2 (And.intro @rowsH_len (And.intro @rowsH_pur (And.intro @rowsH_take (And.intro @rowsD_len (And.intro @rowsD_pur (And.intro @rowsD_take (And.intro @bne_self_eq_false.{0} @Nat.le_refl)))))))))))))
    repeat' first
      | refine wSq fun _ hK => ?_
      | refine wRg ?_
      | refine wDr ?_
      | refine VWP_block ?_
      | refine VWP_skip ?_
      | refine VWP_exit ?_
      | refine VWP_ret ?_
      | (refine hK _ ?_; clear hK)
      | (clear hK; refine hK _ ?_; clear hK)
      | (clear hK; clear hK; refine hK _ ?_; clear hK)
      | (clear hK; clear hK; clear hK; refine hK _ ?_; clear hK)
      | (simp only [wHb, reduceCtorEq] at hb <;> try (exfalso; omega))
      | refine wCd (fun hb => ?_) fun hb => ?_
      | refine wCa (c := by first | exact szStore_ok s _ (by omega) (by omega) hf | exact toStore_ok s hs | exact c1 | exact c2 | exact hq | exact eqStore_ok s s hs | exact hhr) (k := ?_)
      | refine wOw [6, 7] (c := by exact hm) (k := ?_)
      | refine wOw [9, 10] (c := by exact hmr) (k := ?_)
      | simp only [go_sem, Nat.reduceLT, Nat.reduceLeDiff, Nat.reduceEqDiff, Nat.reduceAdd, Nat.reduceMul, Nat.reduceSub, reduceCtorEq, F]
      | simp (disch := omega) only [decide_eq_true_eq, if_pos, if_neg, wrap_id, le_maxLen, and_true, true_and, if_true, ite_true]
      | refine wGd (fun hb => ?_) fun hb => ?_
    all_goals trace_state
    refine wLf ?_
    rfl
end Go.Proofs.Ytclljpdcpcolpaa
