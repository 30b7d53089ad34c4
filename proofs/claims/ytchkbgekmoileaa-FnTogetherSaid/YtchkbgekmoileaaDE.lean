/- What the program's DescOk gives, and the law. -/
import Derived.Test.YtchkbgekmoileaaDD
namespace Go.Proofs.Ytchkbgekmoileaa
open Go Go.RowKit
set_option linter.unusedVariables false
set_option linter.unusedSimpArgs false
set_option maxRecDepth 100000
set_option maxHeartbeats 4000000
attribute [local irreducible] VWP vops vdraw contV contD CallK Guard GuardV NextL Puts Runs RetOK RetQ RetO RetQO thenQ blockQ

theorem implDescOk_ok (d : DescS) (hl : d.entries.length ≤ 1048576) : SatP Try.prog 64 [.agg (d.cells 70)] (.bool (bP (DescP d))) [] := by
  refine satP_of_body hT Try.func64 (by kernel_rfl) rfl (rs := [.tmp 2]) rfl (n := 47) rfl (by simp) rfl (by simp) fun E hE => ?_
  unfold St.init
  unfold DescS.cells
  have F := @rowsE_len
  repeat' first
    | refine wSq fun _ hK => ?_
    | refine wRg ?_
    | refine wDr ?_
    | refine VWP_block ?_
    | refine VWP_skip ?_
    | refine VWP_exit ?_
    | refine VWP_ret ?_
    | (refine hK _ ?_; clear hK)
    | (clear hK; refine hK _ ?_; clear hK)
    | (clear hK; clear hK; refine hK _ ?_; clear hK)
    | (clear hK; clear hK; clear hK; refine hK _ ?_; clear hK)
    | (simp only [wHb, reduceCtorEq] at hb <;> try (exfalso; omega))
    | refine wCd (fun hb => ?_) fun hb => ?_
    | simp only [go_sem, Nat.reduceLT, Nat.reduceLeDiff, Nat.reduceEqDiff, Nat.reduceAdd, Nat.reduceMul, Nat.reduceSub, reduceCtorEq, F]
    | simp (disch := omega) only [decide_eq_true_eq, if_pos, if_neg, wrap_id, le_maxLen, and_true, true_and, if_true, ite_true]
    | refine wGd (fun hb => ?_) fun hb => ?_
  refine VWP_loopL (X := Nat) (fun i => [(1, .bp 0 0), (6, .fr 70 (rowsE d.entries)), (7, .int .i64 d.entries.length), (8, .int .i64 i)]) (fun _ => [(0, .box [.int .i64 d.owner, .int .i64 d.status, .fr 70 (rowsE d.entries)])]) (fun i => d.entries.length - i)
    (fun i => i ≤ d.entries.length ∧ (∀ (j : Nat) (e : EntS), j < i → d.entries[j]? = some e → e.ok = true) ∧ ∀ (j : Nat) (e f : EntS), j + 1 < i → d.entries[j]? = some e → d.entries[j + 1]? = some f → e.object < f.object) 1 0 ⟨by simp, by simp, by simp⟩ (by simp [updV]) (by simp [updH]) (by simp) ?_
  rintro i nx ⟨hi, hdone, hsort⟩ hB
  rcases Nat.lt_or_ge i d.entries.length with hlt | hge
  · obtain ⟨e, he⟩ : ∃ e, d.entries[i]? = some e := ⟨_, List.getElem?_eq_getElem hlt⟩
    have hre := rowsE_at he
    rcases Nat.eq_zero_or_pos i with hi0 | hi0
    · skip
      have F := And.intro @rowsE_len hre
      repeat' first
        | refine wSq fun _ hK => ?_
        | refine wRg ?_
        | refine wDr ?_
        | refine VWP_block ?_
        | refine VWP_skip ?_
        | refine VWP_exit ?_
        | refine VWP_ret ?_
        | (refine hK _ ?_; clear hK)
        | (clear hK; refine hK _ ?_; clear hK)
        | (clear hK; clear hK; refine hK _ ?_; clear hK)
        | (clear hK; clear hK; clear hK; refine hK _ ?_; clear hK)
        | (simp only [wHb, reduceCtorEq] at hb <;> try (exfalso; omega))
        | refine wCd (fun hb => ?_) fun hb => ?_
        | refine wCa (c := by first | exact isEntry_ok e) (k := ?_)
        | simp only [go_sem, Nat.reduceLT, Nat.reduceLeDiff, Nat.reduceEqDiff, Nat.reduceAdd, Nat.reduceMul, Nat.reduceSub, reduceCtorEq, F]
        | simp (disch := omega) only [decide_eq_true_eq, if_pos, if_neg, wrap_id, le_maxLen, and_true, true_and, if_true, ite_true]
        | refine wGd (fun hb => ?_) fun hb => ?_
      · refine ret_scal (by simp only [go_sem, Nat.reduceLT, Nat.reduceLeDiff, Nat.reduceEqDiff, Nat.reduceAdd, Nat.reduceMul, Nat.reduceSub, reduceCtorEq]; rfl) rfl ?_
        have hne : e.ok = false := by assumption
        rw [bP_false fun h => by have := h.2.1 i e he; rw [hne] at this; cases this]
      · have hok : e.ok = true := by assumption
        have hw := wrap_id (x := (i : Int) + 1) (by omega)
        have h0 : (0 : Nat) ≠ nx := by omega
        refine nextL (i + 1) ⟨by omega, fun j g hj hg => ?_, fun j g g' hj hg hg' => ?_⟩ (by omega) (by simp [updV, tmL, hw]) (by simp [updH, hpL, h0]) (by omega)
        · rcases Nat.lt_or_ge j i with h | h
          · exact hdone j g h hg
          · obtain rfl : j = i := by omega
            rw [he] at hg; cases hg; exact hok
        · omega
    · obtain ⟨k, hk⟩ : ∃ k, (i : Int) - 1 = (k : Nat) := ⟨i - 1, by omega⟩
      obtain ⟨p, hp⟩ : ∃ p, d.entries[k]? = some p := ⟨_, List.getElem?_eq_getElem (by omega)⟩
      have hrp := rowsE_at hp
      have F := And.intro @rowsE_len (And.intro hre (And.intro hrp hk))
      repeat' first
        | refine wSq fun _ hK => ?_
        | refine wRg ?_
        | refine wDr ?_
        | refine VWP_block ?_
        | refine VWP_skip ?_
        | refine VWP_exit ?_
        | refine VWP_ret ?_
        | (refine hK _ ?_; clear hK)
        | (clear hK; refine hK _ ?_; clear hK)
        | (clear hK; clear hK; refine hK _ ?_; clear hK)
        | (clear hK; clear hK; clear hK; refine hK _ ?_; clear hK)
        | (simp only [wHb, reduceCtorEq] at hb <;> try (exfalso; omega))
        | refine wCd (fun hb => ?_) fun hb => ?_
        | refine wCa (c := by first | exact isEntry_ok e) (k := ?_)
        | simp only [go_sem, Nat.reduceLT, Nat.reduceLeDiff, Nat.reduceEqDiff, Nat.reduceAdd, Nat.reduceMul, Nat.reduceSub, reduceCtorEq, F]
        | simp (disch := omega) only [decide_eq_true_eq, if_pos, if_neg, wrap_id, le_maxLen, and_true, true_and, if_true, ite_true]
        | refine wGd (fun hb => ?_) fun hb => ?_
      · refine ret_scal (by simp only [go_sem, Nat.reduceLT, Nat.reduceLeDiff, Nat.reduceEqDiff, Nat.reduceAdd, Nat.reduceMul, Nat.reduceSub, reduceCtorEq]; rfl) rfl ?_
        have hne : e.ok = false := by assumption
        rw [bP_false fun h => by have := h.2.1 i e he; rw [hne] at this; cases this]
      · refine ret_scal (by simp only [go_sem, Nat.reduceLT, Nat.reduceLeDiff, Nat.reduceEqDiff, Nat.reduceAdd, Nat.reduceMul, Nat.reduceSub, reduceCtorEq]; rfl) rfl ?_
        have hle : e.object ≤ p.object := by assumption
        rw [bP_false fun h => by
          have hik : i = k + 1 := by omega
          subst hik
          have := h.1 k p e hp he
          omega]
      · have hok : e.ok = true := by assumption
        have hlt2 : ¬ e.object ≤ p.object := by assumption
        have hw := wrap_id (x := (i : Int) + 1) (by omega)
        have h0 : (0 : Nat) ≠ nx := by omega
        refine nextL (i + 1) ⟨by omega, fun j g hj hg => ?_, fun j g g' hj hg hg' => ?_⟩ (by omega) (by simp [updV, tmL, hw]) (by simp [updH, hpL, h0]) (by omega)
        · rcases Nat.lt_or_ge j i with h | h
          · exact hdone j g h hg
          · obtain rfl : j = i := by omega
            rw [he] at hg; cases hg; exact hok
        · rcases Nat.lt_or_ge (j + 1) i with h | h
          · exact hsort j g g' h hg hg'
          · obtain rfl : i = j + 1 := by omega
            obtain rfl : k = j := by omega
            rw [hp] at hg; rw [he] at hg'
            cases hg; cases hg'
            omega
  · obtain rfl : i = d.entries.length := by omega
    have F := @rowsE_len
    repeat' first
      | refine wSq fun _ hK => ?_
      | refine wRg ?_
      | refine wDr ?_
      | refine VWP_block ?_
      | refine VWP_skip ?_
      | refine VWP_exit ?_
      | refine VWP_ret ?_
      | (refine hK _ ?_; clear hK)
      | (clear hK; refine hK _ ?_; clear hK)
      | (clear hK; clear hK; refine hK _ ?_; clear hK)
      | (clear hK; clear hK; clear hK; refine hK _ ?_; clear hK)
      | (simp only [wHb, reduceCtorEq] at hb <;> try (exfalso; omega))
      | refine wCd (fun hb => ?_) fun hb => ?_
      | refine wCa (c := by first | exact isThread_ok _ | exact in_ok _ _ _) (k := ?_)
      | simp only [go_sem, Nat.reduceLT, Nat.reduceLeDiff, Nat.reduceEqDiff, Nat.reduceAdd, Nat.reduceMul, Nat.reduceSub, reduceCtorEq, F]
      | simp (disch := omega) only [decide_eq_true_eq, if_pos, if_neg, wrap_id, le_maxLen, and_true, true_and, if_true, ite_true]
      | refine wGd (fun hb => ?_) fun hb => ?_
    all_goals refine wLf ?_
    · by_cases h1 : 0 < d.entries.length ∧ d.entries.length ≤ 6
      · have hn : inB d.entries.length 1 6 = true := by simp [inB]; omega
        rw [hn, bP_true ⟨fun j e f he hf => hsort j e f (List.getElem?_eq_some_iff.1 hf).1 he hf, fun j e he => hdone j e (List.getElem?_eq_some_iff.1 he).1 he, by assumption, by assumption, h1.1, h1.2⟩]
      · have hn : inB d.entries.length 1 6 = false := by simp [inB]; omega
        rw [hn, bP_false fun h => h1 ⟨h.2.2.2.2.1, h.2.2.2.2.2⟩]
    · rw [bP_false fun h => by rw [h.2.2.2.1] at hb; cases hb]
    · rw [bP_false fun h => by rw [h.2.2.1] at hb; cases hb]

theorem rowsE_take (es : List EntS) : (rowsE es).take es.length = rowsE es := by rw [List.take_of_length_le (by rw [rowsE_len]; exact Nat.le_refl _)]

end Go.Proofs.Ytchkbgekmoileaa
