/- New stores: what both NewStore give. -/
import Derived.Test.YtchkbgekmoileaaSE
import Derived.Test.YtchkbgekmoileaaSQ
import Derived.Test.YtchkbgekmoileaaPA
import Derived.Test.YtchkbgekmoileaaEc
namespace Go.Proofs.Ytchkbgekmoileaa
open Go Go.RowKit
set_option linter.unusedVariables false
set_option linter.unusedSimpArgs false
set_option maxRecDepth 100000
set_option maxHeartbeats 4000000
attribute [local irreducible] VWP vops vdraw contV contD CallK Guard GuardV NextL Puts Runs RetOK RetQ RetO RetQO thenQ blockQ

def allB (xs : List Int) (a b : Int) : Bool := xs.all fun x => inB x a b
theorem l1All_ok (xs : List Int) (a b : Int) (hl : xs.length ≤ 1048576) : SatP Try.prog 71 [.fr 3 (rowsN xs), .int .i64 a, .int .i64 b] (.bool (allB xs a b)) [] := by
  refine satP_of_body hT Try.func71 (by kernel_rfl) rfl (rs := [.tmp 6]) rfl (n := 22) rfl (by simp) rfl (by simp) fun E hE => ?_
  unfold St.init
  have F := @rowsN_len
  repeat' first
    | refine wSq fun _ hK => ?_
    | refine wRg ?_
    | refine wDr ?_
    | refine VWP_block ?_
    | refine VWP_skip ?_
    | refine VWP_exit ?_
    | refine VWP_ret ?_
    | (refine hK _ ?_; clear hK)
    | (clear hK; refine hK _ ?_; clear hK)
    | (clear hK; clear hK; refine hK _ ?_; clear hK)
    | (clear hK; clear hK; clear hK; refine hK _ ?_; clear hK)
    | (simp only [wHb, reduceCtorEq] at hb <;> try (exfalso; omega))
    | refine wCd (fun hb => ?_) fun hb => ?_
    | simp only [go_sem, Nat.reduceLT, Nat.reduceLeDiff, Nat.reduceEqDiff, Nat.reduceAdd, Nat.reduceMul, Nat.reduceSub, reduceCtorEq, F]
    | simp (disch := omega) only [decide_eq_true_eq, if_pos, if_neg, wrap_id, le_maxLen, and_true, true_and, if_true, ite_true]
    | refine wGd (fun hb => ?_) fun hb => ?_
  refine VWP_loopL (X := Nat) (fun i => [(0, .fr 3 (rowsN xs)), (1, .int .i64 a), (2, .int .i64 b), (7, .int .i64 i)]) (fun _ => []) (fun i => xs.length - i)
    (fun i => i ≤ xs.length ∧ ∀ (j : Nat) (y : Int), j < i → xs[j]? = some y → inB y a b = true) 0 0 ⟨by simp, by simp⟩ (by simp [updV]) (by simp) (by simp) ?_
  rintro i nx ⟨hi, hdone⟩ hB
  rcases Nat.lt_or_ge i xs.length with hlt | hge
  · obtain ⟨e, he⟩ : ∃ e, xs[i]? = some e := ⟨_, List.getElem?_eq_getElem hlt⟩
    have hre := rowsN_at he
    have F := And.intro @rowsN_len hre
    repeat' first
      | refine wSq fun _ hK => ?_
      | refine wRg ?_
      | refine wDr ?_
      | refine VWP_block ?_
      | refine VWP_skip ?_
      | refine VWP_exit ?_
      | refine VWP_ret ?_
      | (refine hK _ ?_; clear hK)
      | (clear hK; refine hK _ ?_; clear hK)
      | (clear hK; clear hK; refine hK _ ?_; clear hK)
      | (clear hK; clear hK; clear hK; refine hK _ ?_; clear hK)
      | (simp only [wHb, reduceCtorEq] at hb <;> try (exfalso; omega))
      | refine wCd (fun hb => ?_) fun hb => ?_
      | refine wCa (c := by first | exact l1In_ok _ _ _) (k := ?_)
      | simp only [go_sem, Nat.reduceLT, Nat.reduceLeDiff, Nat.reduceEqDiff, Nat.reduceAdd, Nat.reduceMul, Nat.reduceSub, reduceCtorEq, F]
      | simp (disch := omega) only [decide_eq_true_eq, if_pos, if_neg, wrap_id, le_maxLen, and_true, true_and, if_true, ite_true]
      | refine wGd (fun hb => ?_) fun hb => ?_
    · refine wLf ?_
      have hp : inB e a b = false := by assumption
      have : allB xs a b = false := List.all_eq_false.2 ⟨e, List.mem_of_getElem? he, by simp [hp]⟩
      rw [this]
    · have hp : inB e a b = true := by assumption
      have hw := wrap_id (x := (i : Int) + 1) (by omega)
      refine nextL (i + 1) ⟨by omega, fun j y hj hy => ?_⟩ (by omega) (by simp [updV, tmL, hw]) (by simp) (by simp)
      rcases Nat.lt_or_ge j i with h | h
      · exact hdone j y h hy
      · obtain rfl : j = i := by omega
        rw [he] at hy; cases hy; exact hp
  · obtain rfl : i = xs.length := by omega
    have F := @rowsN_len
    repeat' first
      | refine wSq fun _ hK => ?_
      | refine wRg ?_
      | refine wDr ?_
      | refine VWP_block ?_
      | refine VWP_skip ?_
      | refine VWP_exit ?_
      | refine VWP_ret ?_
      | (refine hK _ ?_; clear hK)
      | (clear hK; refine hK _ ?_; clear hK)
      | (clear hK; clear hK; refine hK _ ?_; clear hK)
      | (clear hK; clear hK; clear hK; refine hK _ ?_; clear hK)
      | (simp only [wHb, reduceCtorEq] at hb <;> try (exfalso; omega))
      | refine wCd (fun hb => ?_) fun hb => ?_
      | simp only [go_sem, Nat.reduceLT, Nat.reduceLeDiff, Nat.reduceEqDiff, Nat.reduceAdd, Nat.reduceMul, Nat.reduceSub, reduceCtorEq, F]
      | simp (disch := omega) only [decide_eq_true_eq, if_pos, if_neg, wrap_id, le_maxLen, and_true, true_and, if_true, ite_true]
      | refine wGd (fun hb => ?_) fun hb => ?_
    refine wLf ?_
    have : allB xs a b = true := List.all_eq_true.2 fun e he => by
      obtain ⟨j, hj⟩ := List.getElem?_of_mem he
      exact hdone j e (List.getElem?_eq_some_iff.1 hj).1 hj
    rw [this]
theorem indexFuncN_ok (xs : List Int) (f : FuncId) (p : Int → Bool) (hl : xs.length ≤ 1048576) (hf : ∀ x, SatP Try.prog f [.int .i64 x] (.bool (p x)) []) : SatP Try.prog 116 [.fr 3 (rowsN xs), .clo f []] (.int .i64 (firstI p xs)) [] := by
  refine satP_of_body hT Try.func116 (by kernel_rfl) rfl (rs := [.tmp 4]) rfl (n := 19) rfl (by simp) rfl (by simp) fun E hE => ?_
  unfold St.init
  have F := @rowsN_len
  repeat' first
    | refine wSq fun _ hK => ?_
    | refine wRg ?_
    | refine wDr ?_
    | refine VWP_block ?_
    | refine VWP_skip ?_
    | refine VWP_exit ?_
    | refine VWP_ret ?_
    | (refine hK _ ?_; clear hK)
    | (clear hK; refine hK _ ?_; clear hK)
    | (clear hK; clear hK; refine hK _ ?_; clear hK)
    | (clear hK; clear hK; clear hK; refine hK _ ?_; clear hK)
    | (simp only [wHb, reduceCtorEq] at hb <;> try (exfalso; omega))
    | refine wCd (fun hb => ?_) fun hb => ?_
    | simp only [go_sem, Nat.reduceLT, Nat.reduceLeDiff, Nat.reduceEqDiff, Nat.reduceAdd, Nat.reduceMul, Nat.reduceSub, reduceCtorEq, F]
    | simp (disch := omega) only [decide_eq_true_eq, if_pos, if_neg, wrap_id, le_maxLen, and_true, true_and, if_true, ite_true]
    | refine wGd (fun hb => ?_) fun hb => ?_
  refine VWP_loopL (X := Nat) (fun i => [(0, .fr 3 (rowsN xs)), (1, .clo f []), (7, .int .i64 xs.length), (8, .int .i64 i)]) (fun _ => []) (fun i => xs.length - i)
    (fun i => i ≤ xs.length ∧ ∀ (j : Nat) (y : Int), j < i → xs[j]? = some y → p y = false) 0 0 ⟨by simp, by simp⟩ (by simp [updV]) (by simp) (by simp) ?_
  rintro i nx ⟨hi, hdone⟩ hB
  rcases Nat.lt_or_ge i xs.length with hlt | hge
  · obtain ⟨e, he⟩ : ∃ e, xs[i]? = some e := ⟨_, List.getElem?_eq_getElem hlt⟩
    have hre := rowsN_at he
    have F := And.intro @rowsN_len hre
    repeat' first
      | refine wSq fun _ hK => ?_
      | refine wRg ?_
      | refine wDr ?_
      | refine VWP_block ?_
      | refine VWP_skip ?_
      | refine VWP_exit ?_
      | refine VWP_ret ?_
      | (refine hK _ ?_; clear hK)
      | (clear hK; refine hK _ ?_; clear hK)
      | (clear hK; clear hK; refine hK _ ?_; clear hK)
      | (clear hK; clear hK; clear hK; refine hK _ ?_; clear hK)
      | (simp only [wHb, reduceCtorEq] at hb <;> try (exfalso; omega))
      | refine wCd (fun hb => ?_) fun hb => ?_
      | refine wCa (c := by first | exact hf e) (k := ?_)
      | simp only [go_sem, Nat.reduceLT, Nat.reduceLeDiff, Nat.reduceEqDiff, Nat.reduceAdd, Nat.reduceMul, Nat.reduceSub, reduceCtorEq, F]
      | simp (disch := omega) only [decide_eq_true_eq, if_pos, if_neg, wrap_id, le_maxLen, and_true, true_and, if_true, ite_true]
      | refine wGd (fun hb => ?_) fun hb => ?_
    · refine wLf ?_
      have hp : p e = true := by assumption
      rw [firstI_hit he hp hdone]
    · have hp : p e = false := by assumption
      have hw := wrap_id (x := (i : Int) + 1) (by omega)
      refine nextL (i + 1) ⟨by omega, fun j y hj hy => ?_⟩ (by omega) (by simp [updV, tmL, hw]) (by simp) (by simp)
      rcases Nat.lt_or_ge j i with h | h
      · exact hdone j y h hy
      · obtain rfl : j = i := by omega
        rw [he] at hy; cases hy; exact hp
  · obtain rfl : i = xs.length := by omega
    have F := @rowsN_len
    repeat' first
      | refine wSq fun _ hK => ?_
      | refine wRg ?_
      | refine wDr ?_
      | refine VWP_block ?_
      | refine VWP_skip ?_
      | refine VWP_exit ?_
      | refine VWP_ret ?_
      | (refine hK _ ?_; clear hK)
      | (clear hK; refine hK _ ?_; clear hK)
      | (clear hK; clear hK; refine hK _ ?_; clear hK)
      | (clear hK; clear hK; clear hK; refine hK _ ?_; clear hK)
      | (simp only [wHb, reduceCtorEq] at hb <;> try (exfalso; omega))
      | refine wCd (fun hb => ?_) fun hb => ?_
      | simp only [go_sem, Nat.reduceLT, Nat.reduceLeDiff, Nat.reduceEqDiff, Nat.reduceAdd, Nat.reduceMul, Nat.reduceSub, reduceCtorEq, F]
      | simp (disch := omega) only [decide_eq_true_eq, if_pos, if_neg, wrap_id, le_maxLen, and_true, true_and, if_true, ite_true]
      | refine wGd (fun hb => ?_) fun hb => ?_
    refine wLf ?_
    rw [firstI_miss fun j y hy => hdone j y (List.getElem?_eq_some_iff.1 hy).1 hy]
theorem containsN_ok (xs : List Int) (f : FuncId) (p : Int → Bool) (hl : xs.length ≤ 1048576) (hf : ∀ x, SatP Try.prog f [.int .i64 x] (.bool (p x)) []) : SatP Try.prog 113 [.fr 3 (rowsN xs), .clo f []] (.bool (xs.any p)) [] := by
  refine satP_of_body hT Try.func113 (by kernel_rfl) rfl (rs := [.tmp 4]) rfl (n := 9) rfl (by simp) rfl (by simp) fun E hE => ?_
  unfold St.init
  have F := (Eq.refl 0)
  repeat' first
    | refine wSq fun _ hK => ?_
    | refine wRg ?_
    | refine wDr ?_
    | refine VWP_block ?_
    | refine VWP_skip ?_
    | refine VWP_exit ?_
    | refine VWP_ret ?_
    | (refine hK _ ?_; clear hK)
    | (clear hK; refine hK _ ?_; clear hK)
    | (clear hK; clear hK; refine hK _ ?_; clear hK)
    | (clear hK; clear hK; clear hK; refine hK _ ?_; clear hK)
    | (simp only [wHb, reduceCtorEq] at hb <;> try (exfalso; omega))
    | refine wCd (fun hb => ?_) fun hb => ?_
    | refine wCa (c := by first | exact indexFuncN_ok xs f p hl hf) (k := ?_)
    | simp only [go_sem, Nat.reduceLT, Nat.reduceLeDiff, Nat.reduceEqDiff, Nat.reduceAdd, Nat.reduceMul, Nat.reduceSub, reduceCtorEq, F]
    | simp (disch := omega) only [decide_eq_true_eq, if_pos, if_neg, wrap_id, le_maxLen, and_true, true_and, if_true, ite_true]
    | refine wGd (fun hb => ?_) fun hb => ?_
  refine wLf ?_
  rw [← firstI_any]

theorem valueTest_ok (n : Int) : SatP Try.prog 114 [.int .i64 n] (.bool (!inB n (-1000000000) 1000000000)) [] := by
  refine satP_of_body hT Try.func114 (by kernel_rfl) rfl (rs := [.tmp 2]) rfl (n := 6) rfl (by simp) rfl (by simp) fun E hE => ?_
  unfold St.init
  have F := (Eq.refl 0)
  repeat' first
    | refine wSq fun _ hK => ?_
    | refine wRg ?_
    | refine wDr ?_
    | refine VWP_block ?_
    | refine VWP_skip ?_
    | refine VWP_exit ?_
    | refine VWP_ret ?_
    | (refine hK _ ?_; clear hK)
    | (clear hK; refine hK _ ?_; clear hK)
    | (clear hK; clear hK; refine hK _ ?_; clear hK)
    | (clear hK; clear hK; clear hK; refine hK _ ?_; clear hK)
    | (simp only [wHb, reduceCtorEq] at hb <;> try (exfalso; omega))
    | refine wCd (fun hb => ?_) fun hb => ?_
    | refine wCa (c := by first | exact isValue_ok _) (k := ?_)
    | simp only [go_sem, Nat.reduceLT, Nat.reduceLeDiff, Nat.reduceEqDiff, Nat.reduceAdd, Nat.reduceMul, Nat.reduceSub, reduceCtorEq, F]
    | simp (disch := omega) only [decide_eq_true_eq, if_pos, if_neg, wrap_id, le_maxLen, and_true, true_and, if_true, ite_true]
    | refine wGd (fun hb => ?_) fun hb => ?_
  refine wLf ?_
  rfl
theorem areValues_ok (xs : List Int) (hl : xs.length ≤ 1048576) : SatP Try.prog 103 [.fr 3 (rowsN xs)] (.bool (allB xs (-1000000000) 1000000000)) [] := by
  refine satP_of_body hT Try.func103 (by kernel_rfl) rfl (rs := [.tmp 2]) rfl (n := 6) rfl (by simp) rfl (by simp) fun E hE => ?_
  unfold St.init
  have F := (Eq.refl 0)
  repeat' first
    | refine wSq fun _ hK => ?_
    | refine wRg ?_
    | refine wDr ?_
    | refine VWP_block ?_
    | refine VWP_skip ?_
    | refine VWP_exit ?_
    | refine VWP_ret ?_
    | (refine hK _ ?_; clear hK)
    | (clear hK; refine hK _ ?_; clear hK)
    | (clear hK; clear hK; refine hK _ ?_; clear hK)
    | (clear hK; clear hK; clear hK; refine hK _ ?_; clear hK)
    | (simp only [wHb, reduceCtorEq] at hb <;> try (exfalso; omega))
    | refine wCd (fun hb => ?_) fun hb => ?_
    | refine wCa (c := by first | exact containsN_ok xs 114 _ hl valueTest_ok) (k := ?_)
    | simp only [go_sem, Nat.reduceLT, Nat.reduceLeDiff, Nat.reduceEqDiff, Nat.reduceAdd, Nat.reduceMul, Nat.reduceSub, reduceCtorEq, F]
    | simp (disch := omega) only [decide_eq_true_eq, if_pos, if_neg, wrap_id, le_maxLen, and_true, true_and, if_true, ite_true]
    | refine wGd (fun hb => ?_) fun hb => ?_
  refine wLf ?_
  congr 1
  unfold allB
  rw [Bool.eq_iff_iff]
  simp
end Go.Proofs.Ytchkbgekmoileaa
