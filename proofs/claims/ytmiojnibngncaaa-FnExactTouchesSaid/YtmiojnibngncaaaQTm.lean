/- The law of Touches: both give the same. -/
import Derived.Test.YtmiojnibngncaaaQTl
import Derived.Test.YtmiojnibngncaaaTD
namespace Go.Proofs.Ytmiojnibngncaaa
open Go Go.RowKit
set_option linter.unusedVariables false
set_option linter.unusedSimpArgs false
set_option maxRecDepth 100000
set_option maxHeartbeats 8000000
attribute [local irreducible] NextN VWP vops vdraw contV contD CallK Guard GuardV NextL Puts Runs RetOK RetQ RetO RetQO thenQ blockQ

theorem touLaw_ok (xs : List InsS) (hl : xs.length ≤ 9223372036854775807) : SatP Try.prog 5 [.fr 108 (rowsI xs)] (.bool true) [] := by
  refine satP_of_body hT Try.func5 (by kernel_rfl) rfl (rs := [.tmp 2]) rfl (n := 96) rfl (by simp) rfl (by simp) fun E hE => ?_
  unfold St.init
  rcases Nat.lt_or_ge 1048576 xs.length with hbig | hsm
  · have hz : szB xs.length 1048576 = -1 := by unfold szB; rw [if_pos (by omega)]
    have F := hz
    repeat' first
      | refine wSq fun _ hK => ?_
      | refine wRg ?_
      | refine wDr ?_
      | refine VWP_block ?_
      | refine VWP_skip ?_
      | refine VWP_exit ?_
      | refine VWP_ret ?_
      | (refine hK _ ?_; clear hK)
      | (clear hK; refine hK _ ?_; clear hK)
      | (clear hK; clear hK; refine hK _ ?_; clear hK)
      | (clear hK; clear hK; clear hK; refine hK _ ?_; clear hK)
      | (simp only [wHb, reduceCtorEq] at hb <;> try (exfalso; omega))
      | refine wCd (fun hb => ?_) fun hb => ?_
      | refine wCa (c := by first | exact szInstrS_ok xs _ (by omega) (by omega) hl) (k := ?_)
      | simp only [go_sem, Nat.reduceLT, Nat.reduceLeDiff, Nat.reduceEqDiff, Nat.reduceAdd, Nat.reduceMul, Nat.reduceSub, reduceCtorEq, F]
      | ((fail_if_success first | refine wNn ?_ | refine wNo ?_ | refine wNl ?_ | refine wNr ?_);  simp (disch := omega) only [decide_eq_true_eq, if_pos, if_neg, wrap_id, le_maxLen, and_true, true_and, if_true, ite_true])
      | refine wGd (fun hb => ?_) fun hb => ?_
    refine wLf ?_
    rfl
  have hz : szB xs.length 1048576 = 1048576 - xs.length := by unfold szB; rw [if_neg (by omega)]
  obtain ⟨r, hr, hr2, hrl⟩ : ∃ r : List Int × Bool, (if progOkB xs = true then (touT xs 8, true) else ([], false)) = r ∧ (if progOkB xs = true then (cpt (rawT xs xs.length), true) else ([], false)) = r ∧ r.1.length ≤ 8 := by
    refine ⟨_, rfl, ?_, ?_⟩
    · by_cases h : progOkB xs = true
      · rw [if_pos h, if_pos h, tou_same xs h]
      · rw [if_neg h, if_neg h]
    · by_cases h : progOkB xs = true
      · rw [if_pos h]; exact touT_len xs 8
      · rw [if_neg h]; simp
  have c1 := specTouches_ok xs hsm r hr
  have c2 := implTouches_ok xs hsm r hr2
  obtain ⟨zs, b⟩ := r
  simp only at c1 c2 hrl
  have q1 := eqIntS_ok zs zs (by omega)
  have q2 := eqInstrS_ok xs xs hsm
  have hm := markInstrS_ok xs 1 (by omega) (by omega) (by omega)
  have hr1 := markIntS_ok zs 1 (by omega) (by omega) (by omega)
  have hh := heldIntS_ok zs.length 1 (by omega) (by omega) (by omega)
  have n1 : ¬ 1 + 3 * (xs.length : Int) < 0 := by omega
  have n2 : ¬ 1 + (zs.length : Int) < 0 := by omega
  have m0 := rowsN_take (marksN 1 zs.length)
  rw [marksN_len] at m0
  have b1 : (b != b) = false := by cases b <;> rfl
  have F := And.intro hz (And.intro n1 (And.intro n2 (And.intro m0 (And.intro b1 (And.intro @marksN_len (And.intro @rowsN_len (And.intro @rowsN_pur (And.intro @rowsN_take (And.intro @rowsI_len (And.intro @rowsI_pur (And.intro @rowsI_take (And.intro @marksI_len @Nat.le_refl))))))))))))
  repeat' first
    | refine wSq fun _ hK => ?_
    | refine wRg ?_
    | refine wDr ?_
    | refine VWP_block ?_
    | refine VWP_skip ?_
    | refine VWP_exit ?_
    | refine VWP_ret ?_
    | (refine hK _ ?_; clear hK)
    | (clear hK; refine hK _ ?_; clear hK)
    | (clear hK; clear hK; refine hK _ ?_; clear hK)
    | (clear hK; clear hK; clear hK; refine hK _ ?_; clear hK)
    | (simp only [wHb, reduceCtorEq] at hb <;> try (exfalso; omega))
    | refine wCd (fun hb => ?_) fun hb => ?_
    | refine wCa (c := by first | exact szInstrS_ok xs _ (by omega) (by omega) hl | exact toInstrS_ok xs hsm | exact c1 | exact c2 | exact q1 | exact q2 | exact hh) (k := ?_)
    | refine wOw [2] (c := by exact hm) (k := ?_)
    | refine wOw [3] (c := by exact hr1) (k := ?_)
    | simp only [go_sem, Nat.reduceLT, Nat.reduceLeDiff, Nat.reduceEqDiff, Nat.reduceAdd, Nat.reduceMul, Nat.reduceSub, reduceCtorEq, F]
    | ((fail_if_success first | refine wNn ?_ | refine wNo ?_ | refine wNl ?_ | refine wNr ?_);  simp (disch := omega) only [decide_eq_true_eq, if_pos, if_neg, wrap_id, le_maxLen, and_true, true_and, if_true, ite_true])
    | refine wGd (fun hb => ?_) fun hb => ?_
  all_goals refine wLf ?_
  all_goals rfl
end Go.Proofs.Ytmiojnibngncaaa
