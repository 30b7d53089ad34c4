/- The law of DescText on values. -/
import Derived.Test.YtchkbgekmoileaaDoorST4
import Derived.Test.YtchkbgekmoileaaDoorDEl
namespace Go.Proofs.YtchkbgekmoileaaDoor
open Go Go.RowKit
set_option linter.unusedVariables false
set_option linter.unusedSimpArgs false
set_option maxRecDepth 100000
set_option maxHeartbeats 4000000
attribute [local irreducible] VWP vops vdraw contV contD CallK Guard GuardV NextL Puts Runs RetOK RetQ RetO RetQO thenQ blockQ

theorem ba_bne (r : ByteArray) : (r != r) = false := by
  obtain ⟨d⟩ := r
  show (!(d == d)) = false
  simp
theorem ba_beq (r : ByteArray) : (r == r) = true := by
  obtain ⟨d⟩ := r
  show (d == d) = true
  simp
theorem textLaw_ok (d : DescS) (hl : d.entries.length ≤ 9223372036854775807) : SatP Tryd.prog 3 [.agg (d.cells 61)] (.bool true) [] := by
  have hsz := szB_le (n := d.entries.length) (left := 1048576) (by omega) (by omega)
  refine satP_of_body hT Tryd.func3 (by kernel_rfl) rfl (rs := [.tmp 2]) rfl (n := 27) rfl (by simp) rfl (by simp) fun E hE => ?_
  unfold St.init
  rcases Nat.lt_or_ge 1048576 d.entries.length with hbig | hsm
  · have hz : szB d.entries.length 1048576 = -1 := by unfold szB; rw [if_pos (by omega)]
    unfold DescS.cells
    have F := hz
    repeat' first
      | refine wSq fun _ hK => ?_
      | refine wRg ?_
      | refine wDr ?_
      | refine VWP_block ?_
      | refine VWP_skip ?_
      | refine VWP_exit ?_
      | refine VWP_ret ?_
      | (refine hK _ ?_; clear hK)
      | (clear hK; refine hK _ ?_; clear hK)
      | (clear hK; clear hK; refine hK _ ?_; clear hK)
      | (clear hK; clear hK; clear hK; refine hK _ ?_; clear hK)
      | (simp only [wHb, reduceCtorEq] at hb <;> try (exfalso; omega))
      | refine wCd (fun hb => ?_) fun hb => ?_
      | refine wCa (c := by first | exact szDesc_ok d _ (by omega) (by omega) hl) (k := ?_)
      | simp only [go_sem, Nat.reduceLT, Nat.reduceLeDiff, Nat.reduceEqDiff, Nat.reduceAdd, Nat.reduceMul, Nat.reduceSub, reduceCtorEq, F]
      | simp (disch := omega) only [decide_eq_true_eq, if_pos, if_neg, wrap_id, le_maxLen, and_true, true_and, if_true, ite_true]
      | refine wGd (fun hb => ?_) fun hb => ?_
    refine wLf ?_
    rfl
  · have hz : szB d.entries.length 1048576 = 1048576 - d.entries.length := by unfold szB; rw [if_neg (by omega)]
    have c1 := specDescText_ok d hsm
    have c2 := implDescText_ok d hsm
    obtain ⟨r, hr⟩ : ∃ r, descTextR d = r := ⟨_, rfl⟩
    rw [hr] at c1 c2
    have hb := ba_bne r
    have hb2 := ba_beq r
    unfold DescS.cells at c1 c2 ⊢
    have F := And.intro hz (And.intro hb (And.intro hb2 (And.intro @rowsE_len (And.intro @rowsE_pur (And.intro @rowsE_take @Nat.le_refl)))))
    repeat' first
      | refine wSq fun _ hK => ?_
      | refine wRg ?_
      | refine wDr ?_
      | refine VWP_block ?_
      | refine VWP_skip ?_
      | refine VWP_exit ?_
      | refine VWP_ret ?_
      | (refine hK _ ?_; clear hK)
      | (clear hK; refine hK _ ?_; clear hK)
      | (clear hK; clear hK; refine hK _ ?_; clear hK)
      | (clear hK; clear hK; clear hK; refine hK _ ?_; clear hK)
      | (simp only [wHb, reduceCtorEq] at hb <;> try (exfalso; omega))
      | refine wCd (fun hb => ?_) fun hb => ?_
      | refine wCa (c := by first | exact szDesc_ok d _ (by omega) (by omega) hl | exact toDesc_ok d hsm | exact c1 | exact c2 | exact eqDesc_ok d d hsm) (k := ?_)
      | simp only [go_sem, Nat.reduceLT, Nat.reduceLeDiff, Nat.reduceEqDiff, Nat.reduceAdd, Nat.reduceMul, Nat.reduceSub, reduceCtorEq, F]
      | simp (disch := omega) only [decide_eq_true_eq, if_pos, if_neg, wrap_id, le_maxLen, and_true, true_and, if_true, ite_true]
      | refine wGd (fun hb => ?_) fun hb => ?_
    refine wLf ?_
    rfl
end Go.Proofs.YtchkbgekmoileaaDoor
