/- The law of WriteProg on values. -/
import Derived.Test.YtchkbgekmoileaaDoorSW3
import Derived.Test.YtchkbgekmoileaaDoorPD
namespace Go.Proofs.YtchkbgekmoileaaDoor
open Go Go.RowKit
set_option linter.unusedVariables false
set_option linter.unusedSimpArgs false
set_option maxRecDepth 100000
set_option maxHeartbeats 16000000
attribute [local irreducible] VWP vops vdraw contV contD CallK Guard GuardV NextL Puts Runs RetOK RetQ RetO RetQO thenQ blockQ
attribute [local irreducible] NextN

theorem ba_bne (r : ByteArray) : (r != r) = false := by
  obtain ⟨d⟩ := r
  show (!(d == d)) = false
  simp
theorem ba_beq (r : ByteArray) : (r == r) = true := by
  obtain ⟨d⟩ := r
  show (d == d) = true
  simp
theorem writeLaw_ok (es : List InsS) (hl : es.length ≤ 9223372036854775807) : SatP Tryd.prog 4 [.fr 55 (rowsI es)] (.bool true) [] := by
  refine satP_of_body hT Tryd.func4 (by kernel_rfl) rfl (rs := [.tmp 2]) rfl (n := 40) rfl (by simp) rfl (by simp) fun E hE => ?_
  unfold St.init
  rcases Nat.lt_or_ge 1048576 es.length with hbig | hsm
  · have hz : szB es.length 1048576 = -1 := by unfold szB; rw [if_pos (by omega)]
    have F := hz
    repeat' first
      | refine wSq fun _ hK => ?_
      | refine wRg ?_
      | refine wDr ?_
      | refine VWP_block ?_
      | refine VWP_skip ?_
      | refine VWP_exit ?_
      | refine VWP_ret ?_
      | (refine hK _ ?_; clear hK)
      | (clear hK; refine hK _ ?_; clear hK)
      | (clear hK; clear hK; refine hK _ ?_; clear hK)
      | (clear hK; clear hK; clear hK; refine hK _ ?_; clear hK)
      | (simp only [wHb, reduceCtorEq] at hb <;> try (exfalso; omega))
      | refine wCd (fun hb => ?_) fun hb => ?_
      | refine wCa (c := by first | exact szInstrS_ok es _ (by omega) (by omega) hl) (k := ?_)
      | simp only [go_sem, Nat.reduceLT, Nat.reduceLeDiff, Nat.reduceEqDiff, Nat.reduceAdd, Nat.reduceMul, Nat.reduceSub, reduceCtorEq, F]
      | simp (disch := omega) only [decide_eq_true_eq, if_pos, if_neg, wrap_id, le_maxLen, and_true, true_and, if_true, ite_true]
      | refine wGd (fun hb => ?_) fun hb => ?_
    refine wLf ?_
    rfl
  · have hz : szB es.length 1048576 = 1048576 - es.length := by unfold szB; rw [if_neg (by omega)]
    obtain ⟨r, hr⟩ : ∃ r, writeR es = r := ⟨_, rfl⟩
    have c1 := specWriteProg_ok es hsm r hr
    have c2 := implWriteProg_ok es hsm r hr
    obtain ⟨tx, ok⟩ := r
    simp only at c1 c2
    have hb1 := ba_bne tx
    have hb2 := ba_beq tx
    have hb3 : (ok != ok) = false := bne_self_eq_false ok
    have hb4 : (ok == ok) = true := beq_self_eq_true ok
    have F := And.intro hz (And.intro hb1 (And.intro hb2 (And.intro hb3 (And.intro hb4 (And.intro @rowsI_len (And.intro @rowsI_pur (And.intro @rowsI_take @Nat.le_refl)))))))
    repeat' first
      | refine wSq fun _ hK => ?_
      | refine wRg ?_
      | refine wDr ?_
      | refine VWP_block ?_
      | refine VWP_skip ?_
      | refine VWP_exit ?_
      | refine VWP_ret ?_
      | (refine hK _ ?_; clear hK)
      | (clear hK; refine hK _ ?_; clear hK)
      | (clear hK; clear hK; refine hK _ ?_; clear hK)
      | (clear hK; clear hK; clear hK; refine hK _ ?_; clear hK)
      | (simp only [wHb, reduceCtorEq] at hb <;> try (exfalso; omega))
      | refine wCd (fun hb => ?_) fun hb => ?_
      | refine wCa (c := by first | exact szInstrS_ok es _ (by omega) (by omega) hl | exact toInstrS_ok es hsm | exact c1 | exact c2 | exact eqInstrS_ok es es hsm) (k := ?_)
      | simp only [go_sem, Nat.reduceLT, Nat.reduceLeDiff, Nat.reduceEqDiff, Nat.reduceAdd, Nat.reduceMul, Nat.reduceSub, reduceCtorEq, F]
      | simp (disch := omega) only [decide_eq_true_eq, if_pos, if_neg, wrap_id, le_maxLen, and_true, true_and, if_true, ite_true]
      | refine wGd (fun hb => ?_) fun hb => ?_
    refine wLf ?_
    rfl
end Go.Proofs.YtchkbgekmoileaaDoor
