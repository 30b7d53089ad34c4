/- Marks on entries, copies of entries. -/
import Derived.Test.YtchkbgekmoileaaDG
namespace Go.Proofs.Ytchkbgekmoileaa
open Go Go.RowKit
set_option linter.unusedVariables false
set_option linter.unusedSimpArgs false
set_option maxRecDepth 100000
set_option maxHeartbeats 4000000
attribute [local irreducible] VWP vops vdraw contV contD CallK Guard GuardV NextL Puts Runs RetOK RetQ RetO RetQO thenQ blockQ

theorem rowsE_scal (es : List EntS) : (rowsE es).all (·.all scal) = true := by
  simp [rowsE, EntS.enc, scal, List.all_eq_true]
/-- The mark on an entry, from a number on. -/
def markE (k : Int) : EntS := ⟨k, k + 1, k + 2, k + 3, (k + 4).tmod 3 == 0⟩
def marksE (k : Int) (n : Nat) : List EntS := (List.range n).map fun j => markE (k + 5 * (j : Nat))
theorem marksE_len (k : Int) (n : Nat) : (marksE k n).length = n := by simp [marksE]
theorem marksE_at {k : Int} {n i : Nat} (h : i < n) : (marksE k n)[i]? = some (markE (k + 5 * (i : Nat))) := by simp [marksE, h]
theorem set_set {α : Type} (l : List α) (i : Nat) (a b : α) : (l.set i a).set i b = l.set i b := by simp
theorem set_at {α : Type} {l : List α} {i : Nat} (a : α) (h : i < l.length) : (l.set i a)[i]? = some a := by simp [h]

theorem l6Copy_ok (es : List EntS) (hl : es.length ≤ 1099511627776) : SatP Try.prog 84 [.fr 70 (rowsE es)] (.rf 0 es.length) [(70, rowsE es)] := by
  refine satP_of_body hT Try.func84 (by kernel_rfl) rfl (rs := [.tmp 2]) rfl (n := 6) rfl (by simp) rfl (by simpa using rowsE_pur es) fun E hE => ?_
  unfold St.init
  have F := And.intro @rowsE_len @rowsE_scal
  repeat' first
    | refine wSq fun _ hK => ?_
    | refine wRg ?_
    | refine wDr ?_
    | refine VWP_block ?_
    | refine VWP_skip ?_
    | refine VWP_exit ?_
    | refine VWP_ret ?_
    | (refine hK _ ?_; clear hK)
    | (clear hK; refine hK _ ?_; clear hK)
    | (clear hK; clear hK; refine hK _ ?_; clear hK)
    | (clear hK; clear hK; clear hK; refine hK _ ?_; clear hK)
    | (simp only [wHb, reduceCtorEq] at hb <;> try (exfalso; omega))
    | refine wCd (fun hb => ?_) fun hb => ?_
    | simp only [go_sem, Nat.reduceLT, Nat.reduceLeDiff, Nat.reduceEqDiff, Nat.reduceAdd, Nat.reduceMul, Nat.reduceSub, reduceCtorEq, F]
    | simp (disch := omega) only [decide_eq_true_eq, if_pos, if_neg, wrap_id, le_maxLen, and_true, true_and, if_true, ite_true]
    | refine wGd (fun hb => ?_) fun hb => ?_
  refine ret_rf (T := 1) (by simp only [go_sem, Nat.reduceLT, Nat.reduceLeDiff, Nat.reduceEqDiff, Nat.reduceAdd, Nat.reduceMul, Nat.reduceSub, reduceCtorEq]; try simp) (by simp only [go_sem, Nat.reduceLT, Nat.reduceLeDiff, Nat.reduceEqDiff, Nat.reduceAdd, Nat.reduceMul, Nat.reduceSub, reduceCtorEq]; try rfl) (rowsE_len es).symm (rowsE_pur es)
theorem ownEntries_ok (es : List EntS) (hl : es.length ≤ 1099511627776) : SatP Try.prog 31 [.fr 70 (rowsE es)] (.rf 0 es.length) [(70, rowsE es)] := by
  refine satP_of_body hT Try.func31 (by kernel_rfl) rfl (rs := [.tmp 2]) rfl (n := 6) rfl (by simp) rfl (by simpa using rowsE_pur es) fun E hE => ?_
  unfold St.init
  have F := And.intro @rowsE_len @rowsE_scal
  repeat' first
    | refine wSq fun _ hK => ?_
    | refine wRg ?_
    | refine wDr ?_
    | refine VWP_block ?_
    | refine VWP_skip ?_
    | refine VWP_exit ?_
    | refine VWP_ret ?_
    | (refine hK _ ?_; clear hK)
    | (clear hK; refine hK _ ?_; clear hK)
    | (clear hK; clear hK; refine hK _ ?_; clear hK)
    | (clear hK; clear hK; clear hK; refine hK _ ?_; clear hK)
    | (simp only [wHb, reduceCtorEq] at hb <;> try (exfalso; omega))
    | refine wCd (fun hb => ?_) fun hb => ?_
    | simp only [go_sem, Nat.reduceLT, Nat.reduceLeDiff, Nat.reduceEqDiff, Nat.reduceAdd, Nat.reduceMul, Nat.reduceSub, reduceCtorEq, F]
    | simp (disch := omega) only [decide_eq_true_eq, if_pos, if_neg, wrap_id, le_maxLen, and_true, true_and, if_true, ite_true]
    | refine wGd (fun hb => ?_) fun hb => ?_
  refine ret_rf (T := 1) (by simp only [go_sem, Nat.reduceLT, Nat.reduceLeDiff, Nat.reduceEqDiff, Nat.reduceAdd, Nat.reduceMul, Nat.reduceSub, reduceCtorEq]; try simp) (by simp only [go_sem, Nat.reduceLT, Nat.reduceLeDiff, Nat.reduceEqDiff, Nat.reduceAdd, Nat.reduceMul, Nat.reduceSub, reduceCtorEq]; try rfl) (rowsE_len es).symm (rowsE_pur es)
end Go.Proofs.Ytchkbgekmoileaa
