/- The law on values: both NewWorld give the same. -/
import Derived.Test.YtclljpdcpcolpaaNW
import Derived.Test.YtclljpdcpcolpaaZD
namespace Go.Proofs.Ytclljpdcpcolpaa
open Go Go.RowKit
set_option linter.unusedVariables false
set_option linter.unusedSimpArgs false
set_option maxRecDepth 100000
set_option maxHeartbeats 4000000
attribute [local irreducible] VWP vops vdraw contV contD CallK Guard GuardV NextL Puts Runs RetOK RetQ RetO RetQO thenQ blockQ

theorem newThs_thN (ps : List (List InsS)) : thN (newThs ps) = insN ps := by
  have key : ∀ (ps : List (List InsS)) (f : Nat → List InsS → ThreadD), (∀ i p, (f i p).prog.length + (f i p).opens.length + (f i p).stack.length = p.length) → thN (ps.mapIdx f) = insN ps := by
    intro ps
    induction ps with
    | nil => intro f _; rfl
    | cons p ps ih =>
      intro f hf
      rw [List.mapIdx_cons, thN, insN, ih _ fun i p => hf (i + 1) p, hf 0 p]
  exact key ps newTh fun i p => by simp [newTh]
theorem newWorld_tiny (xs : List Int) (ps : List (List InsS)) (hx : xs.length ≤ 1048576) (h1 : ps.length ≤ 1048576) (h2 : insN ps ≤ 1048576) : (newWorldL xs ps).1.tiny := by
  unfold newWorldL
  split
  · refine ⟨hx, ?_, by simp only [newThs_len]; exact h1, by simp only [newThs_thN]; exact h2, by simp⟩
    unfold newStoreL
    split
    · exact ⟨by simpa using hx, by simp, by simp [entsN]⟩
    · exact ⟨by simp, by simp, by simp [entsN]⟩
  · exact ⟨by simp [zeroW], ⟨by simp [zeroW], by simp [zeroW], by simp [zeroW, entsN]⟩, by simp [zeroW], by simp [zeroW, thN], by simp [zeroW]⟩
theorem newWorldLaw_ok (xs : List Int) (ps : List (List InsS)) (hx : xs.length ≤ 9223372036854775807) (hp : ps.length ≤ 9223372036854775807) (hpe : ∀ p ∈ ps, p.length ≤ 9223372036854775807) :
    SatP Try.prog 10 [.fr 3 (rowsN xs), .fr 75 (rowsP 184 ps)] (.bool true) [] := by
  refine satP_of_body hT Try.func10 (by kernel_rfl) rfl (rs := [.tmp 4]) rfl (n := 117) rfl (by simp) rfl (by simp) fun E hE => ?_
  unfold St.init
  rcases Int.lt_or_le 1048576 (xs.length : Int) with hxb | hxs
  · skip
    have F := And.intro @rowsN_len hxb
    repeat' first
      | refine wSq fun _ hK => ?_
      | refine wRg ?_
      | refine wDr ?_
      | refine VWP_block ?_
      | refine VWP_skip ?_
      | refine VWP_exit ?_
      | refine VWP_ret ?_
      | (refine hK _ ?_; clear hK)
      | (clear hK; refine hK _ ?_; clear hK)
      | (clear hK; clear hK; refine hK _ ?_; clear hK)
      | (clear hK; clear hK; clear hK; refine hK _ ?_; clear hK)
      | (simp only [wHb, reduceCtorEq] at hb <;> try (exfalso; omega))
      | refine wCd (fun hb => ?_) fun hb => ?_
      | simp only [go_sem, Nat.reduceLT, Nat.reduceLeDiff, Nat.reduceEqDiff, Nat.reduceAdd, Nat.reduceMul, Nat.reduceSub, reduceCtorEq, F]
      | simp (disch := omega) only [decide_eq_true_eq, if_pos, if_neg, wrap_id, le_maxLen, and_true, true_and, if_true, ite_true]
      | refine wGd (fun hb => ?_) fun hb => ?_
    refine wLf ?_
    rfl
  have hxn : ¬ (1048576 : Int) < (xs.length : Int) := by omega
  rcases Int.lt_or_le (szPs ps 1048576) 0 with hbig | hsm
  · skip
    have F := And.intro @rowsN_len (And.intro hxn hbig)
    repeat' first
      | refine wSq fun _ hK => ?_
      | refine wRg ?_
      | refine wDr ?_
      | refine VWP_block ?_
      | refine VWP_skip ?_
      | refine VWP_exit ?_
      | refine VWP_ret ?_
      | (refine hK _ ?_; clear hK)
      | (clear hK; refine hK _ ?_; clear hK)
      | (clear hK; clear hK; refine hK _ ?_; clear hK)
      | (clear hK; clear hK; clear hK; refine hK _ ?_; clear hK)
      | (simp only [wHb, reduceCtorEq] at hb <;> try (exfalso; omega))
      | refine wCd (fun hb => ?_) fun hb => ?_
      | refine wCa (c := by first | exact szInstrSS_ok ps 1048576 (by omega) (by omega) hp hpe) (k := ?_)
      | simp only [go_sem, Nat.reduceLT, Nat.reduceLeDiff, Nat.reduceEqDiff, Nat.reduceAdd, Nat.reduceMul, Nat.reduceSub, reduceCtorEq, F]
      | simp (disch := omega) only [decide_eq_true_eq, if_pos, if_neg, wrap_id, le_maxLen, and_true, true_and, if_true, ite_true]
      | refine wGd (fun hb => ?_) fun hb => ?_
    refine wLf ?_
    rfl
  · have hn : ¬ szPs ps 1048576 < 0 := by omega
    have hsz : (ps.length : Int) + insN ps ≤ 1048576 := by
      unfold szPs at hsm
      split at hsm <;> omega
    have hpl : ∀ p ∈ ps, p.length ≤ 1048576 := fun p h => by have := insN_mem h; omega
    obtain ⟨r, hr⟩ : ∃ r, newWorldL xs ps = r := ⟨_, rfl⟩
    have hrt := newWorld_tiny xs ps (by omega) (by omega) (by omega)
    rw [hr] at hrt
    have c1 := specNewWorld_ok xs ps r hr (by omega) (by omega) hpl
    have c2 := implNewWorld_ok xs ps r hr (by omega) (by omega) hpl
    obtain ⟨w, rb⟩ := r
    simp only at c1 c2 hrt
    have hq := eqWorld_ok w w hrt
    have hqx := eqIntS_ok xs xs (by omega)
    have hqp := eqInstrSS_ok ps ps (by omega) hpl
    have hmx := markIntS_ok xs 1 (by omega) (by omega) (by omega)
    have hmp := markInstrSS_ok ps (1 + xs.length) (by omega) (by omega) (by omega) (by omega)
    have hmw := markWorld_ok w 1 (by omega) (by omega) hrt
    have hhw := heldWorld_ok w 1 (by omega) (by omega) hrt
    have hnk : ¬ 1 + (xs.length : Int) + 3 * (insN ps : Int) < 0 := by omega
    have hnq : ¬ 1 + (w.first.length : Int) + cntS w.store + (mkN w.threads : Int) + 4 * (w.log.length : Int) < 0 := by
      have := (cntD_le w.store.descs (Nat.le_refl _)).1
      unfold cntS
      omega
    generalize 1 + (w.first.length : Int) + cntS w.store + (mkN w.threads : Int) + 4 * (w.log.length : Int) = QQ at *
    have l1 := marksN_len 1 w.first.length
    have l2 : (marksS (1 + w.first.length) w.store).heads.length = w.store.heads.length := by simp [marksS, marksH_len]
    have l3 : (marksS (1 + w.first.length) w.store).descs.length = w.store.descs.length := by simp [marksS, marksD_len]
    have l4 := marksTh_len (1 + w.first.length + cntS w.store) w.threads
    have l5 := marksV_len (1 + w.first.length + cntS w.store + (mkN w.threads : Int)) w.log.length
    have t1 := rowsN_take (marksN 1 w.first.length)
    have t2 := rowsH_take (marksS (1 + w.first.length) w.store).heads
    have t3 := rowsD_take 131 (marksS (1 + w.first.length) w.store).descs
    have t4 := rowsTh_take 146 131 69 (marksTh (1 + w.first.length + cntS w.store) w.threads)
    have t5 := rowsV_take (marksV (1 + w.first.length + cntS w.store + (mkN w.threads : Int)) w.log.length)
    rw [l1] at t1
    rw [l2] at t2
    rw [l3] at t3
    rw [l4] at t4
    rw [l5] at t5
    unfold WorldD.cells at *
    have F := And.intro hxn (And.intro hn (And.intro hnk (And.intro hnq (And.intro t1 (And.intro t2 (And.intro t3 (And.intro t4 (And.intro t5 (And.intro l1 (And.intro l2 (And.intro l3 (And.intro l4 (And.intro l5 (And.intro @rowsN_len (And.intro @rowsN_pur (And.intro @rowsN_take (And.intro @rowsP_len (And.intro @rowsP_pur (And.intro @rowsP_take (And.intro @rowsH_len (And.intro @rowsH_pur (And.intro @rowsH_take (And.intro @rowsD_len (And.intro @rowsD_pur (And.intro @rowsD_take (And.intro @rowsTh_len (And.intro @rowsTh_pur (And.intro @rowsTh_take (And.intro @rowsV_len (And.intro @rowsV_pur (And.intro @rowsV_take (And.intro @marksP_len (And.intro @bne_self_eq_false.{0} @Nat.le_refl)))))))))))))))))))))))))))))))))
    repeat' first
      | refine wSq fun _ hK => ?_
      | refine wRg ?_
      | refine wDr ?_
      | refine VWP_block ?_
      | refine VWP_skip ?_
      | refine VWP_exit ?_
      | refine VWP_ret ?_
      | (refine hK _ ?_; clear hK)
      | (clear hK; refine hK _ ?_; clear hK)
      | (clear hK; clear hK; refine hK _ ?_; clear hK)
      | (clear hK; clear hK; clear hK; refine hK _ ?_; clear hK)
      | (simp only [wHb, reduceCtorEq] at hb <;> try (exfalso; omega))
      | refine wCd (fun hb => ?_) fun hb => ?_
      | refine wCa (c := by first | exact szInstrSS_ok ps 1048576 (by omega) (by omega) hp hpe | exact toIntS_ok xs (by omega) | exact toInstrSS_ok ps (by omega) hpl | exact c1 | exact c2 | exact hq | exact hqx | exact hqp | exact hhw) (k := ?_)
      | refine wOw [8] (c := by exact hmx) (k := ?_)
      | refine wOw [9] (c := by exact hmp) (k := ?_)
      | refine wOw [10, 11, 12, 13, 14] (c := by exact hmw) (k := ?_)
      | simp only [go_sem, Nat.reduceLT, Nat.reduceLeDiff, Nat.reduceEqDiff, Nat.reduceAdd, Nat.reduceMul, Nat.reduceSub, reduceCtorEq, F]
      | simp (disch := omega) only [decide_eq_true_eq, if_pos, if_neg, wrap_id, le_maxLen, and_true, true_and, if_true, ite_true]
      | refine wGd (fun hb => ?_) fun hb => ?_
    all_goals try (refine wLf ?_; rfl)
end Go.Proofs.Ytclljpdcpcolpaa
