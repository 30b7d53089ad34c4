/- What both ProgOk give. -/
import Derived.Test.YtchkbgekmoileaaDoorPB
namespace Go.Proofs.YtchkbgekmoileaaDoor
open Go Go.RowKit
set_option linter.unusedVariables false
set_option linter.unusedSimpArgs false
set_option maxRecDepth 100000
set_option maxHeartbeats 4000000
attribute [local irreducible] VWP vops vdraw contV contD CallK Guard GuardV NextL Puts Runs RetOK RetQ RetO RetQO thenQ blockQ

theorem progTest_ok (e : InsS) (xs : List InsS) : SatP Tryd.prog 40 [.agg e.cells, .fp [.list 53 (rowsI xs)]] (.bool (!e.ok xs.length)) [] := by
  refine satP_of_body hT Tryd.func40 (by kernel_rfl) rfl (rs := [.tmp 3]) rfl (n := 9) rfl (by simp) rfl (by simp) fun E hE => ?_
  unfold St.init
  unfold InsS.cells
  have F := @rowsI_len
  repeat' first
    | refine wSq fun _ hK => ?_
    | refine wRg ?_
    | refine wDr ?_
    | refine VWP_block ?_
    | refine VWP_skip ?_
    | refine VWP_exit ?_
    | refine VWP_ret ?_
    | (refine hK _ ?_; clear hK)
    | (clear hK; refine hK _ ?_; clear hK)
    | (clear hK; clear hK; refine hK _ ?_; clear hK)
    | (clear hK; clear hK; clear hK; refine hK _ ?_; clear hK)
    | (simp only [wHb, reduceCtorEq] at hb <;> try (exfalso; omega))
    | refine wCd (fun hb => ?_) fun hb => ?_
    | refine wCa (c := by first | exact isInstr_ok e _) (k := ?_)
    | simp only [go_sem, Nat.reduceLT, Nat.reduceLeDiff, Nat.reduceEqDiff, Nat.reduceAdd, Nat.reduceMul, Nat.reduceSub, reduceCtorEq, F]
    | simp (disch := omega) only [decide_eq_true_eq, if_pos, if_neg, wrap_id, le_maxLen, and_true, true_and, if_true, ite_true]
    | refine wGd (fun hb => ?_) fun hb => ?_
  all_goals refine wLf ?_
  all_goals rfl
theorem containsI_ok (xs : List InsS) (f : FuncId) (row : List PT) (p : InsS → Bool) (hl : xs.length ≤ 1048576) (hf : ∀ x, SatP Tryd.prog f [.agg x.cells, .fp row] (.bool (p x)) []) : SatP Tryd.prog 39 [.fr 53 (rowsI xs), .clo f [.fp row]] (.bool (xs.any p)) [] := by
  refine satP_of_body hT Tryd.func39 (by kernel_rfl) rfl (rs := [.tmp 4]) rfl (n := 9) rfl (by simp) rfl (by simp) fun E hE => ?_
  unfold St.init
  have F := (Eq.refl 0)
  repeat' first
    | refine wSq fun _ hK => ?_
    | refine wRg ?_
    | refine wDr ?_
    | refine VWP_block ?_
    | refine VWP_skip ?_
    | refine VWP_exit ?_
    | refine VWP_ret ?_
    | (refine hK _ ?_; clear hK)
    | (clear hK; refine hK _ ?_; clear hK)
    | (clear hK; clear hK; refine hK _ ?_; clear hK)
    | (clear hK; clear hK; clear hK; refine hK _ ?_; clear hK)
    | (simp only [wHb, reduceCtorEq] at hb <;> try (exfalso; omega))
    | refine wCd (fun hb => ?_) fun hb => ?_
    | refine wCa (c := by first | exact indexFuncI_ok xs f row p hl hf) (k := ?_)
    | simp only [go_sem, Nat.reduceLT, Nat.reduceLeDiff, Nat.reduceEqDiff, Nat.reduceAdd, Nat.reduceMul, Nat.reduceSub, reduceCtorEq, F]
    | simp (disch := omega) only [decide_eq_true_eq, if_pos, if_neg, wrap_id, le_maxLen, and_true, true_and, if_true, ite_true]
    | refine wGd (fun hb => ?_) fun hb => ?_
  refine wLf ?_
  rw [← firstI_any]
theorem implProgOk_ok (xs : List InsS) (hl : xs.length ≤ 1048576) : SatP Tryd.prog 25 [.fr 53 (rowsI xs)] (.bool (decide (xs.length ≤ 30) && xs.all (fun e => e.ok xs.length))) [] := by
  refine satP_of_body hT Tryd.func25 (by kernel_rfl) rfl (rs := [.tmp 2]) rfl (n := 12) rfl (by simp) rfl (by simp) fun E hE => ?_
  unfold St.init
  have F := @rowsI_len
  repeat' first
    | refine wSq fun _ hK => ?_
    | refine wRg ?_
    | refine wDr ?_
    | refine VWP_block ?_
    | refine VWP_skip ?_
    | refine VWP_exit ?_
    | refine VWP_ret ?_
    | (refine hK _ ?_; clear hK)
    | (clear hK; refine hK _ ?_; clear hK)
    | (clear hK; clear hK; refine hK _ ?_; clear hK)
    | (clear hK; clear hK; clear hK; refine hK _ ?_; clear hK)
    | (simp only [wHb, reduceCtorEq] at hb <;> try (exfalso; omega))
    | refine wCd (fun hb => ?_) fun hb => ?_
    | refine wCa (c := by first | exact containsI_ok xs 40 _ _ hl (fun e => progTest_ok e xs)) (k := ?_)
    | simp only [go_sem, Nat.reduceLT, Nat.reduceLeDiff, Nat.reduceEqDiff, Nat.reduceAdd, Nat.reduceMul, Nat.reduceSub, reduceCtorEq, F]
    | simp (disch := omega) only [decide_eq_true_eq, if_pos, if_neg, wrap_id, le_maxLen, and_true, true_and, if_true, ite_true]
    | refine wGd (fun hb => ?_) fun hb => ?_
  all_goals refine wLf ?_
  · have h2 : xs.length ≤ 30 := by omega
    have h3 : (!xs.any fun e => !e.ok xs.length) = xs.all fun e => e.ok xs.length := by
      cases hh : xs.all (fun e => e.ok xs.length) with
      | true =>
        have : xs.any (fun e => !e.ok xs.length) = false := List.any_eq_false.2 fun e he => by have := List.all_eq_true.1 hh e he; simp [this]
        simp [this]
      | false =>
        obtain ⟨e, he, h4⟩ := List.all_eq_false.1 hh
        have : xs.any (fun e => !e.ok xs.length) = true := List.any_eq_true.2 ⟨e, he, by simpa using h4⟩
        simp [this]
    rw [h3]
    simp [h2]
  · have h2 : ¬ xs.length ≤ 30 := by omega
    simp [h2]
theorem specProgOk_ok (xs : List InsS) (hl : xs.length ≤ 1048576) : SatP Tryd.prog 22 [.fr 53 (rowsI xs)] (.bool (decide (xs.length ≤ 30) && xs.all (fun e => e.ok xs.length))) [] := by
  refine satP_of_body hT Tryd.func22 (by kernel_rfl) rfl (rs := [.tmp 2]) rfl (n := 21) rfl (by simp) rfl (by simp) fun E hE => ?_
  unfold St.init
  have F := @rowsI_len
  repeat' first
    | refine wSq fun _ hK => ?_
    | refine wRg ?_
    | refine wDr ?_
    | refine VWP_block ?_
    | refine VWP_skip ?_
    | refine VWP_exit ?_
    | refine VWP_ret ?_
    | (refine hK _ ?_; clear hK)
    | (clear hK; refine hK _ ?_; clear hK)
    | (clear hK; clear hK; refine hK _ ?_; clear hK)
    | (clear hK; clear hK; clear hK; refine hK _ ?_; clear hK)
    | (simp only [wHb, reduceCtorEq] at hb <;> try (exfalso; omega))
    | refine wCd (fun hb => ?_) fun hb => ?_
    | simp only [go_sem, Nat.reduceLT, Nat.reduceLeDiff, Nat.reduceEqDiff, Nat.reduceAdd, Nat.reduceMul, Nat.reduceSub, reduceCtorEq, F]
    | simp (disch := omega) only [decide_eq_true_eq, if_pos, if_neg, wrap_id, le_maxLen, and_true, true_and, if_true, ite_true]
    | refine wGd (fun hb => ?_) fun hb => ?_
  refine VWP_loopL (X := Nat) (fun i => [(0, .fr 53 (rowsI xs)), (3, .int .i64 i)]) (fun _ => []) (fun i => xs.length - i)
    (fun i => i ≤ xs.length ∧ ∀ (j : Nat) (y : InsS), j < i → xs[j]? = some y → y.ok xs.length = true) 0 0 ⟨by simp, by simp⟩ (by simp [updV]) (by simp) (by simp) ?_
  rintro i nx ⟨hi, hdone⟩ hB
  rcases Nat.lt_or_ge i xs.length with hlt | hge
  · obtain ⟨e, he⟩ : ∃ e, xs[i]? = some e := ⟨_, List.getElem?_eq_getElem hlt⟩
    have hre := rowsI_at he
    have F := And.intro @rowsI_len hre
    repeat' first
      | refine wSq fun _ hK => ?_
      | refine wRg ?_
      | refine wDr ?_
      | refine VWP_block ?_
      | refine VWP_skip ?_
      | refine VWP_exit ?_
      | refine VWP_ret ?_
      | (refine hK _ ?_; clear hK)
      | (clear hK; refine hK _ ?_; clear hK)
      | (clear hK; clear hK; refine hK _ ?_; clear hK)
      | (clear hK; clear hK; clear hK; refine hK _ ?_; clear hK)
      | (simp only [wHb, reduceCtorEq] at hb <;> try (exfalso; omega))
      | refine wCd (fun hb => ?_) fun hb => ?_
      | refine wCa (c := by first | exact l9Instr_ok e _) (k := ?_)
      | simp only [go_sem, Nat.reduceLT, Nat.reduceLeDiff, Nat.reduceEqDiff, Nat.reduceAdd, Nat.reduceMul, Nat.reduceSub, reduceCtorEq, F]
      | simp (disch := omega) only [decide_eq_true_eq, if_pos, if_neg, wrap_id, le_maxLen, and_true, true_and, if_true, ite_true]
      | refine wGd (fun hb => ?_) fun hb => ?_
    · refine wLf ?_
      have hp : e.ok xs.length = false := by assumption
      have : xs.all (fun e => e.ok xs.length) = false := List.all_eq_false.2 ⟨e, List.mem_of_getElem? he, by simp [hp]⟩
      simp [this]
    · have hp : e.ok xs.length = true := by assumption
      have hw := wrap_id (x := (i : Int) + 1) (by omega)
      refine nextL (i + 1) ⟨by omega, fun j y hj hy => ?_⟩ (by omega) (by simp [updV, tmL, hw]) (by simp) (by simp)
      rcases Nat.lt_or_ge j i with h | h
      · exact hdone j y h hy
      · obtain rfl : j = i := by omega
        rw [he] at hy; cases hy; exact hp
  · obtain rfl : i = xs.length := by omega
    have F := @rowsI_len
    repeat' first
      | refine wSq fun _ hK => ?_
      | refine wRg ?_
      | refine wDr ?_
      | refine VWP_block ?_
      | refine VWP_skip ?_
      | refine VWP_exit ?_
      | refine VWP_ret ?_
      | (refine hK _ ?_; clear hK)
      | (clear hK; refine hK _ ?_; clear hK)
      | (clear hK; clear hK; refine hK _ ?_; clear hK)
      | (clear hK; clear hK; clear hK; refine hK _ ?_; clear hK)
      | (simp only [wHb, reduceCtorEq] at hb <;> try (exfalso; omega))
      | refine wCd (fun hb => ?_) fun hb => ?_
      | simp only [go_sem, Nat.reduceLT, Nat.reduceLeDiff, Nat.reduceEqDiff, Nat.reduceAdd, Nat.reduceMul, Nat.reduceSub, reduceCtorEq, F]
      | simp (disch := omega) only [decide_eq_true_eq, if_pos, if_neg, wrap_id, le_maxLen, and_true, true_and, if_true, ite_true]
      | refine wGd (fun hb => ?_) fun hb => ?_
    refine wLf ?_
    have : xs.all (fun e => e.ok xs.length) = true := List.all_eq_true.2 fun e he => by
      obtain ⟨j, hj⟩ := List.getElem?_of_mem he
      exact hdone j e (List.getElem?_eq_some_iff.1 hj).1 hj
    rw [this]
    have h2 : ((xs.length : Int) ≤ 30) ↔ xs.length ≤ 30 := by omega
    simp [h2]
end Go.Proofs.YtchkbgekmoileaaDoor
