/- Places of entries; what both Opened and both Meets give; the law of Meets on values. -/
import Derived.Test.YtchkbgekmoileaaDE
import Derived.Test.YtchkbgekmoileaaPA
namespace Go.Proofs.Ytchkbgekmoileaa
open Go Go.RowKit
set_option linter.unusedVariables false
set_option linter.unusedSimpArgs false
set_option maxRecDepth 100000
set_option maxHeartbeats 4000000
attribute [local irreducible] VWP vops vdraw contV contD CallK Guard GuardV NextL Puts Runs RetOK RetQ RetO RetQO thenQ blockQ

theorem indexFuncE_ok (xs : List EntS) (f : FuncId) (row : List PT) (p : EntS → Bool) (hl : xs.length ≤ 1048576) (hf : ∀ x, SatP Try.prog f [.agg x.cells, .fp row] (.bool (p x)) []) : SatP Try.prog 60 [.fr 70 (rowsE xs), .clo f [.fp row]] (.int .i64 (firstI p xs)) [] := by
  refine satP_of_body hT Try.func60 (by kernel_rfl) rfl (rs := [.tmp 4]) rfl (n := 19) rfl (by simp) rfl (by simp) fun E hE => ?_
  unfold St.init
  have F := @rowsE_len
  repeat' first
    | refine wSq fun _ hK => ?_
    | refine wRg ?_
    | refine wDr ?_
    | refine VWP_block ?_
    | refine VWP_skip ?_
    | refine VWP_exit ?_
    | refine VWP_ret ?_
    | (refine hK _ ?_; clear hK)
    | (clear hK; refine hK _ ?_; clear hK)
    | (clear hK; clear hK; refine hK _ ?_; clear hK)
    | (clear hK; clear hK; clear hK; refine hK _ ?_; clear hK)
    | (simp only [wHb, reduceCtorEq] at hb <;> try (exfalso; omega))
    | refine wCd (fun hb => ?_) fun hb => ?_
    | simp only [go_sem, Nat.reduceLT, Nat.reduceLeDiff, Nat.reduceEqDiff, Nat.reduceAdd, Nat.reduceMul, Nat.reduceSub, reduceCtorEq, F]
    | simp (disch := omega) only [decide_eq_true_eq, if_pos, if_neg, wrap_id, le_maxLen, and_true, true_and, if_true, ite_true]
    | refine wGd (fun hb => ?_) fun hb => ?_
  refine VWP_loopL (X := Nat) (fun i => [(0, .fr 70 (rowsE xs)), (1, .clo f [.fp row]), (7, .int .i64 xs.length), (8, .int .i64 i)]) (fun _ => []) (fun i => xs.length - i)
    (fun i => i ≤ xs.length ∧ ∀ (j : Nat) (y : EntS), j < i → xs[j]? = some y → p y = false) 0 0 ⟨by simp, by simp⟩ (by simp [updV]) (by simp) (by simp) ?_
  rintro i nx ⟨hi, hdone⟩ hB
  rcases Nat.lt_or_ge i xs.length with hlt | hge
  · obtain ⟨e, he⟩ : ∃ e, xs[i]? = some e := ⟨_, List.getElem?_eq_getElem hlt⟩
    have hre := rowsE_at he
    have F := And.intro @rowsE_len hre
    repeat' first
      | refine wSq fun _ hK => ?_
      | refine wRg ?_
      | refine wDr ?_
      | refine VWP_block ?_
      | refine VWP_skip ?_
      | refine VWP_exit ?_
      | refine VWP_ret ?_
      | (refine hK _ ?_; clear hK)
      | (clear hK; refine hK _ ?_; clear hK)
      | (clear hK; clear hK; refine hK _ ?_; clear hK)
      | (clear hK; clear hK; clear hK; refine hK _ ?_; clear hK)
      | (simp only [wHb, reduceCtorEq] at hb <;> try (exfalso; omega))
      | refine wCd (fun hb => ?_) fun hb => ?_
      | refine wCa (c := by first | exact hf e) (k := ?_)
      | simp only [go_sem, Nat.reduceLT, Nat.reduceLeDiff, Nat.reduceEqDiff, Nat.reduceAdd, Nat.reduceMul, Nat.reduceSub, reduceCtorEq, F]
      | simp (disch := omega) only [decide_eq_true_eq, if_pos, if_neg, wrap_id, le_maxLen, and_true, true_and, if_true, ite_true]
      | refine wGd (fun hb => ?_) fun hb => ?_
    · refine wLf ?_
      have hp : p e = true := by assumption
      rw [firstI_hit he hp hdone]
    · have hp : p e = false := by assumption
      have hw := wrap_id (x := (i : Int) + 1) (by omega)
      refine nextL (i + 1) ⟨by omega, fun j y hj hy => ?_⟩ (by omega) (by simp [updV, tmL, hw]) (by simp) (by simp)
      rcases Nat.lt_or_ge j i with h | h
      · exact hdone j y h hy
      · obtain rfl : j = i := by omega
        rw [he] at hy; cases hy; exact hp
  · obtain rfl : i = xs.length := by omega
    have F := @rowsE_len
    repeat' first
      | refine wSq fun _ hK => ?_
      | refine wRg ?_
      | refine wDr ?_
      | refine VWP_block ?_
      | refine VWP_skip ?_
      | refine VWP_exit ?_
      | refine VWP_ret ?_
      | (refine hK _ ?_; clear hK)
      | (clear hK; refine hK _ ?_; clear hK)
      | (clear hK; clear hK; refine hK _ ?_; clear hK)
      | (clear hK; clear hK; clear hK; refine hK _ ?_; clear hK)
      | (simp only [wHb, reduceCtorEq] at hb <;> try (exfalso; omega))
      | refine wCd (fun hb => ?_) fun hb => ?_
      | simp only [go_sem, Nat.reduceLT, Nat.reduceLeDiff, Nat.reduceEqDiff, Nat.reduceAdd, Nat.reduceMul, Nat.reduceSub, reduceCtorEq, F]
      | simp (disch := omega) only [decide_eq_true_eq, if_pos, if_neg, wrap_id, le_maxLen, and_true, true_and, if_true, ite_true]
      | refine wGd (fun hb => ?_) fun hb => ?_
    refine wLf ?_
    rw [firstI_miss fun j y hy => hdone j y (List.getElem?_eq_some_iff.1 hy).1 hy]
theorem entryTest_ok (e : EntS) (o : Int) : SatP Try.prog 61 [.agg e.cells, .fp [.int .i64 o]] (.bool (e.object == o)) [] := by
  refine satP_of_body hT Try.func61 (by kernel_rfl) rfl (rs := [.tmp 3]) rfl (n := 8) rfl (by simp) rfl (by simp) fun E hE => ?_
  unfold St.init
  unfold EntS.cells
  have F := (Eq.refl 0)
  repeat' first
    | refine wSq fun _ hK => ?_
    | refine wRg ?_
    | refine wDr ?_
    | refine VWP_block ?_
    | refine VWP_skip ?_
    | refine VWP_exit ?_
    | refine VWP_ret ?_
    | (refine hK _ ?_; clear hK)
    | (clear hK; refine hK _ ?_; clear hK)
    | (clear hK; clear hK; refine hK _ ?_; clear hK)
    | (clear hK; clear hK; clear hK; refine hK _ ?_; clear hK)
    | (simp only [wHb, reduceCtorEq] at hb <;> try (exfalso; omega))
    | refine wCd (fun hb => ?_) fun hb => ?_
    | simp only [go_sem, Nat.reduceLT, Nat.reduceLeDiff, Nat.reduceEqDiff, Nat.reduceAdd, Nat.reduceMul, Nat.reduceSub, reduceCtorEq, F]
    | simp (disch := omega) only [decide_eq_true_eq, if_pos, if_neg, wrap_id, le_maxLen, and_true, true_and, if_true, ite_true]
    | refine wGd (fun hb => ?_) fun hb => ?_
  refine wLf ?_
  rfl
def isAt (o : Int) (e : EntS) : Bool := e.object == o
/-- The place of the entry of an object, -1 if there is none. -/
def placeE (es : List EntS) (o : Int) : Int := firstI (isAt o) es
theorem entryAt_ok (es : List EntS) (o : Int) (hl : es.length ≤ 1048576) : SatP Try.prog 30 [.fr 70 (rowsE es), .int .i64 o] (.int .i64 (placeE es o)) [] := by
  refine satP_of_body hT Try.func30 (by kernel_rfl) rfl (rs := [.tmp 4]) rfl (n := 8) rfl (by simp) rfl (by simp) fun E hE => ?_
  unfold St.init
  have F := (Eq.refl 0)
  repeat' first
    | refine wSq fun _ hK => ?_
    | refine wRg ?_
    | refine wDr ?_
    | refine VWP_block ?_
    | refine VWP_skip ?_
    | refine VWP_exit ?_
    | refine VWP_ret ?_
    | (refine hK _ ?_; clear hK)
    | (clear hK; refine hK _ ?_; clear hK)
    | (clear hK; clear hK; refine hK _ ?_; clear hK)
    | (clear hK; clear hK; clear hK; refine hK _ ?_; clear hK)
    | (simp only [wHb, reduceCtorEq] at hb <;> try (exfalso; omega))
    | refine wCd (fun hb => ?_) fun hb => ?_
    | refine wCa (c := by first | exact indexFuncE_ok es 61 [.int .i64 o] (isAt o) hl (fun e => entryTest_ok e o)) (k := ?_)
    | simp only [go_sem, Nat.reduceLT, Nat.reduceLeDiff, Nat.reduceEqDiff, Nat.reduceAdd, Nat.reduceMul, Nat.reduceSub, reduceCtorEq, F]
    | simp (disch := omega) only [decide_eq_true_eq, if_pos, if_neg, wrap_id, le_maxLen, and_true, true_and, if_true, ite_true]
    | refine wGd (fun hb => ?_) fun hb => ?_
  refine wLf ?_
  rfl
theorem placeE_cases (es : List EntS) (o : Int) : (placeE es o = -1 ∧ ∀ (j : Nat) (f : EntS), es[j]? = some f → f.object ≠ o) ∨
    ∃ (k : Nat) (e : EntS), placeE es o = k ∧ es[k]? = some e ∧ e.object = o ∧ ∀ (j : Nat) (f : EntS), j < k → es[j]? = some f → f.object ≠ o := by
  by_cases h : ∃ (k : Nat) (e : EntS), es[k]? = some e ∧ e.object = o ∧ ∀ (j : Nat) (f : EntS), j < k → es[j]? = some f → f.object ≠ o
  · obtain ⟨k, e, h1, h2, h3⟩ := h
    exact .inr ⟨k, e, firstI_hit h1 (by simp [isAt, h2]) (fun j f hj hf => by simpa [isAt] using h3 j f hj hf), h1, h2, h3⟩
  · left
    have all : ∀ (n j : Nat) (f : EntS), j < n → es[j]? = some f → f.object ≠ o := by
      intro n
      induction n with
      | zero => intro j f hj; omega
      | succ n ih =>
        intro j f hj hf hfo
        rcases Nat.lt_or_ge j n with h1 | h1
        · exact ih j f h1 hf hfo
        · obtain rfl : j = n := by omega
          exact h ⟨j, f, hf, hfo, ih⟩
    have all' : ∀ (j : Nat) (f : EntS), es[j]? = some f → f.object ≠ o := fun j f hf => all (j + 1) j f (by omega) hf
    exact ⟨firstI_miss (fun j f hf => by simpa [isAt] using all' j f hf), all'⟩
theorem rowsE_cut (es : List EntS) (i : Nat) : ((rowsE es).take i).drop 0 = rowsE (es.take i) := by simp [rowsE]
theorem implOpenOk_ok (es : List EntS) (hl : es.length ≤ 1048576) : SatP Try.prog 28 [.fr 70 (rowsE es)] (.bool (bP (OpenP es))) [] := by
  refine satP_of_body hT Try.func28 (by kernel_rfl) rfl (rs := [.tmp 2]) rfl (n := 28) rfl (by simp) rfl (by simp) fun E hE => ?_
  unfold St.init
  have F := @rowsE_len
  repeat' first
    | refine wSq fun _ hK => ?_
    | refine wRg ?_
    | refine wDr ?_
    | refine VWP_block ?_
    | refine VWP_skip ?_
    | refine VWP_exit ?_
    | refine VWP_ret ?_
    | (refine hK _ ?_; clear hK)
    | (clear hK; refine hK _ ?_; clear hK)
    | (clear hK; clear hK; refine hK _ ?_; clear hK)
    | (clear hK; clear hK; clear hK; refine hK _ ?_; clear hK)
    | (simp only [wHb, reduceCtorEq] at hb <;> try (exfalso; omega))
    | refine wCd (fun hb => ?_) fun hb => ?_
    | simp only [go_sem, Nat.reduceLT, Nat.reduceLeDiff, Nat.reduceEqDiff, Nat.reduceAdd, Nat.reduceMul, Nat.reduceSub, reduceCtorEq, F]
    | simp (disch := omega) only [decide_eq_true_eq, if_pos, if_neg, wrap_id, le_maxLen, and_true, true_and, if_true, ite_true]
    | refine wGd (fun hb => ?_) fun hb => ?_
  refine VWP_loopL (X := Nat) (fun i => [(0, .fr 70 (rowsE es)), (5, .fr 70 (rowsE es)), (6, .int .i64 es.length), (7, .int .i64 i)]) (fun _ => []) (fun i => es.length - i)
    (fun i => i ≤ es.length ∧ ∀ (j : Nat) (e : EntS), j < i → es[j]? = some e → e.ok = true ∧ ∀ (k : Nat) (f : EntS), k < j → es[k]? = some f → f.object ≠ e.object) 0 0 ⟨by simp, by simp⟩ (by simp [updV]) (by simp) (by simp) ?_
  rintro i nx ⟨hi, hdone⟩ hB
  rcases Nat.lt_or_ge i es.length with hlt | hge
  · obtain ⟨e, he⟩ : ∃ e, es[i]? = some e := ⟨_, List.getElem?_eq_getElem hlt⟩
    have hre := rowsE_at he
    have hle : i ≤ es.length := hi
    have hcut := rowsE_cut es i
    have hlc : (es.take i).length ≤ 1048576 := by simp; omega
    have F := And.intro @rowsE_len (And.intro hre (And.intro hle hcut))
    repeat' first
      | refine wSq fun _ hK => ?_
      | refine wRg ?_
      | refine wDr ?_
      | refine VWP_block ?_
      | refine VWP_skip ?_
      | refine VWP_exit ?_
      | refine VWP_ret ?_
      | (refine hK _ ?_; clear hK)
      | (clear hK; refine hK _ ?_; clear hK)
      | (clear hK; clear hK; refine hK _ ?_; clear hK)
      | (clear hK; clear hK; clear hK; refine hK _ ?_; clear hK)
      | (simp only [wHb, reduceCtorEq] at hb <;> try (exfalso; omega))
      | refine wCd (fun hb => ?_) fun hb => ?_
      | refine wCa (c := by first | exact isEntry_ok e | exact entryAt_ok (es.take i) e.object hlc) (k := ?_)
      | simp only [go_sem, Nat.reduceLT, Nat.reduceLeDiff, Nat.reduceEqDiff, Nat.reduceAdd, Nat.reduceMul, Nat.reduceSub, reduceCtorEq, F]
      | simp (disch := omega) only [decide_eq_true_eq, if_pos, if_neg, wrap_id, le_maxLen, and_true, true_and, if_true, ite_true]
      | refine wGd (fun hb => ?_) fun hb => ?_
    · refine wLf ?_
      have hne : e.ok = false := by assumption
      rw [bP_false fun h => by have := (h.1 i e he).1; rw [hne] at this; cases this]
    · refine wLf ?_
      have hp : 0 ≤ placeE (es.take i) e.object := by assumption
      rcases placeE_cases (es.take i) e.object with ⟨h1, _⟩ | ⟨k, f, h1, h2, h3, _⟩
      · omega
      · have hki : k < i := by
          rw [List.getElem?_take] at h2
          split at h2
          · assumption
          · cases h2
        rw [List.getElem?_take, if_pos hki] at h2
        rw [bP_false fun h => (h.1 i e he).2 k f hki h2 h3]
    · have hok : e.ok = true := by assumption
      have hp : ¬ 0 ≤ placeE (es.take i) e.object := by assumption
      have hw := wrap_id (x := (i : Int) + 1) (by omega)
      refine nextL (i + 1) ⟨by omega, fun j g hj hg => ?_⟩ (by omega) (by simp [updV, tmL, hw]) (by simp) (by simp)
      rcases Nat.lt_or_ge j i with h | h
      · exact hdone j g h hg
      · obtain rfl : j = i := by omega
        rw [he] at hg
        cases hg
        refine ⟨hok, fun k f hk hf => ?_⟩
        rcases placeE_cases (es.take j) e.object with ⟨_, h1⟩ | ⟨k, f, h1, h2, h3, _⟩
        · exact h1 k f (by rw [List.getElem?_take, if_pos hk]; exact hf)
        · omega
  · obtain rfl : i = es.length := by omega
    have F := @rowsE_len
    repeat' first
      | refine wSq fun _ hK => ?_
      | refine wRg ?_
      | refine wDr ?_
      | refine VWP_block ?_
      | refine VWP_skip ?_
      | refine VWP_exit ?_
      | refine VWP_ret ?_
      | (refine hK _ ?_; clear hK)
      | (clear hK; refine hK _ ?_; clear hK)
      | (clear hK; clear hK; refine hK _ ?_; clear hK)
      | (clear hK; clear hK; clear hK; refine hK _ ?_; clear hK)
      | (simp only [wHb, reduceCtorEq] at hb <;> try (exfalso; omega))
      | refine wCd (fun hb => ?_) fun hb => ?_
      | simp only [go_sem, Nat.reduceLT, Nat.reduceLeDiff, Nat.reduceEqDiff, Nat.reduceAdd, Nat.reduceMul, Nat.reduceSub, reduceCtorEq, F]
      | simp (disch := omega) only [decide_eq_true_eq, if_pos, if_neg, wrap_id, le_maxLen, and_true, true_and, if_true, ite_true]
      | refine wGd (fun hb => ?_) fun hb => ?_
    refine wLf ?_
    by_cases h6 : es.length ≤ 6
    · rw [bP_true ⟨fun i e he => hdone i e (List.getElem?_eq_some_iff.1 he).1 he, h6⟩]
      have : (es.length : Int) ≤ 6 := by omega
      simp [this]
    · rw [bP_false (fun h => h6 h.2)]
      have : ¬ (es.length : Int) ≤ 6 := by omega
      simp [this]
noncomputable def openedI (es : List EntS) (o : Int) : Int := if bP (OpenP es) = true then placeE es o else -1
theorem implOpened_ok (es : List EntS) (o : Int) (hl : es.length ≤ 1048576) : SatP Try.prog 32 [.fr 70 (rowsE es), .int .i64 o] (.int .i64 (openedI es o)) [] := by
  refine satP_of_body hT Try.func32 (by kernel_rfl) rfl (rs := [.tmp 4]) rfl (n := 11) rfl (by simp) rfl (by simp) fun E hE => ?_
  unfold St.init
  have F := (Eq.refl 0)
  repeat' first
    | refine wSq fun _ hK => ?_
    | refine wRg ?_
    | refine wDr ?_
    | refine VWP_block ?_
    | refine VWP_skip ?_
    | refine VWP_exit ?_
    | refine VWP_ret ?_
    | (refine hK _ ?_; clear hK)
    | (clear hK; refine hK _ ?_; clear hK)
    | (clear hK; clear hK; refine hK _ ?_; clear hK)
    | (clear hK; clear hK; clear hK; refine hK _ ?_; clear hK)
    | (simp only [wHb, reduceCtorEq] at hb <;> try (exfalso; omega))
    | refine wCd (fun hb => ?_) fun hb => ?_
    | refine wCa (c := by first | exact implOpenOk_ok es hl | exact entryAt_ok es o hl) (k := ?_)
    | simp only [go_sem, Nat.reduceLT, Nat.reduceLeDiff, Nat.reduceEqDiff, Nat.reduceAdd, Nat.reduceMul, Nat.reduceSub, reduceCtorEq, F]
    | simp (disch := omega) only [decide_eq_true_eq, if_pos, if_neg, wrap_id, le_maxLen, and_true, true_and, if_true, ite_true]
    | refine wGd (fun hb => ?_) fun hb => ?_
  all_goals refine wLf ?_
  all_goals simp_all [openedI]
theorem specOpened_ok (es : List EntS) (o : Int) (hl : es.length ≤ 1048576) : SatP Try.prog 83 [.fr 70 (rowsE es), .int .i64 o] (.int .i64 (openedI es o)) [] := by
  refine satP_of_body hT Try.func83 (by kernel_rfl) rfl (rs := [.tmp 4]) rfl (n := 24) rfl (by simp) rfl (by simp) fun E hE => ?_
  unfold St.init
  have F := @rowsE_len
  repeat' first
    | refine wSq fun _ hK => ?_
    | refine wRg ?_
    | refine wDr ?_
    | refine VWP_block ?_
    | refine VWP_skip ?_
    | refine VWP_exit ?_
    | refine VWP_ret ?_
    | (refine hK _ ?_; clear hK)
    | (clear hK; refine hK _ ?_; clear hK)
    | (clear hK; clear hK; refine hK _ ?_; clear hK)
    | (clear hK; clear hK; clear hK; refine hK _ ?_; clear hK)
    | (simp only [wHb, reduceCtorEq] at hb <;> try (exfalso; omega))
    | refine wCd (fun hb => ?_) fun hb => ?_
    | simp only [go_sem, Nat.reduceLT, Nat.reduceLeDiff, Nat.reduceEqDiff, Nat.reduceAdd, Nat.reduceMul, Nat.reduceSub, reduceCtorEq, F]
    | simp (disch := omega) only [decide_eq_true_eq, if_pos, if_neg, wrap_id, le_maxLen, and_true, true_and, if_true, ite_true]
    | refine wGd (fun hb => ?_) fun hb => ?_
  refine VWP_loopL (X := Nat) (fun i => [(0, .fr 70 (rowsE es)), (1, .int .i64 o), (5, .int .i64 i)]) (fun _ => []) (fun i => es.length - i)
    (fun i => i ≤ es.length ∧ ∀ (j : Nat) (f : EntS), j < i → es[j]? = some f → f.object ≠ o) 0 0 ⟨by simp, by simp⟩ (by simp [updV]) (by simp) (by simp) ?_
  rintro i nx ⟨hi, hdone⟩ hB
  rcases Nat.lt_or_ge i es.length with hlt | hge
  · obtain ⟨e, he⟩ : ∃ e, es[i]? = some e := ⟨_, List.getElem?_eq_getElem hlt⟩
    have hre := rowsE_at he
    have F := And.intro @rowsE_len hre
    repeat' first
      | refine wSq fun _ hK => ?_
      | refine wRg ?_
      | refine wDr ?_
      | refine VWP_block ?_
      | refine VWP_skip ?_
      | refine VWP_exit ?_
      | refine VWP_ret ?_
      | (refine hK _ ?_; clear hK)
      | (clear hK; refine hK _ ?_; clear hK)
      | (clear hK; clear hK; refine hK _ ?_; clear hK)
      | (clear hK; clear hK; clear hK; refine hK _ ?_; clear hK)
      | (simp only [wHb, reduceCtorEq] at hb <;> try (exfalso; omega))
      | refine wCd (fun hb => ?_) fun hb => ?_
      | refine wCa (c := by first | exact specOpen_ok es hl) (k := ?_)
      | simp only [go_sem, Nat.reduceLT, Nat.reduceLeDiff, Nat.reduceEqDiff, Nat.reduceAdd, Nat.reduceMul, Nat.reduceSub, reduceCtorEq, F]
      | simp (disch := omega) only [decide_eq_true_eq, if_pos, if_neg, wrap_id, le_maxLen, and_true, true_and, if_true, ite_true]
      | refine wGd (fun hb => ?_) fun hb => ?_
    · refine wLf ?_
      have ho : bP (OpenP es) = true := by assumption
      have hob : e.object = o := by simp_all
      rw [openedI, if_pos ho]
      rcases placeE_cases es o with ⟨_, h1⟩ | ⟨k, f, h1, h2, h3, h4⟩
      · exact absurd hob (h1 i e he)
      · have h5 : ¬ i < k := fun h => h4 i e h he hob
        have h6 : ¬ k < i := fun h => hdone k f h h2 h3
        rw [h1, show k = i by omega]
    · have hob : e.object ≠ o := by simp_all
      have hw := wrap_id (x := (i : Int) + 1) (by omega)
      refine nextL (i + 1) ⟨by omega, fun j g hj hg => ?_⟩ (by omega) (by simp [updV, tmL, hw]) (by simp) (by simp)
      rcases Nat.lt_or_ge j i with h | h
      · exact hdone j g h hg
      · obtain rfl : j = i := by omega
        rw [he] at hg; cases hg; exact hob
    · refine wLf ?_
      have ho : bP (OpenP es) = false := by simp_all
      rw [openedI, ho]
      rfl
  · obtain rfl : i = es.length := by omega
    have F := @rowsE_len
    repeat' first
      | refine wSq fun _ hK => ?_
      | refine wRg ?_
      | refine wDr ?_
      | refine VWP_block ?_
      | refine VWP_skip ?_
      | refine VWP_exit ?_
      | refine VWP_ret ?_
      | (refine hK _ ?_; clear hK)
      | (clear hK; refine hK _ ?_; clear hK)
      | (clear hK; clear hK; refine hK _ ?_; clear hK)
      | (clear hK; clear hK; clear hK; refine hK _ ?_; clear hK)
      | (simp only [wHb, reduceCtorEq] at hb <;> try (exfalso; omega))
      | refine wCd (fun hb => ?_) fun hb => ?_
      | simp only [go_sem, Nat.reduceLT, Nat.reduceLeDiff, Nat.reduceEqDiff, Nat.reduceAdd, Nat.reduceMul, Nat.reduceSub, reduceCtorEq, F]
      | simp (disch := omega) only [decide_eq_true_eq, if_pos, if_neg, wrap_id, le_maxLen, and_true, true_and, if_true, ite_true]
      | refine wGd (fun hb => ?_) fun hb => ?_
    refine wLf ?_
    rw [openedI]
    split
    · rcases placeE_cases es o with ⟨h1, _⟩ | ⟨k, f, h1, h2, h3, h4⟩
      · rw [h1]
      · exact absurd h3 (hdone k f (List.getElem?_eq_some_iff.1 h2).1 h2)
    · rfl
end Go.Proofs.Ytchkbgekmoileaa
