/- Marks on instructions and threads. -/
import Derived.Test.YtmiojnibngncaaaTA
import Derived.Test.YtmiojnibngncaaaDJ
namespace Go.Proofs.Ytmiojnibngncaaa
open Go Go.RowKit
set_option linter.unusedVariables false
set_option linter.unusedSimpArgs false
set_option maxRecDepth 100000
set_option maxHeartbeats 4000000
attribute [local irreducible] VWP vops vdraw contV contD CallK Guard GuardV NextL Puts Runs RetOK RetQ RetO RetQO thenQ blockQ

/-- The mark, from a number on. -/
def markI (k : Int) : InsS := ⟨k, k + 1, k + 2⟩
def marksI (k : Int) (n : Nat) : List InsS := (List.range n).map fun j => markI (k + 3 * (j : Nat))
theorem marksI_len (k : Int) (n : Nat) : (marksI k n).length = n := by simp [marksI]
theorem marksI_at {k : Int} {n i : Nat} (h : i < n) : (marksI k n)[i]? = some (markI (k + 3 * (i : Nat))) := by simp [marksI, h]
theorem markInstrS_ok (es : List InsS) (k : Int) (h0 : 0 ≤ k) (h1 : k ≤ 1099511627776) (hl : es.length ≤ 1099511627776) :
    SatO Try.prog 30 [.rf 0 es.length, .int .i64 k] [.root 106 (rowsI es)] (.int .i64 (k + 3 * es.length)) [.root 106 (rowsI (marksI k es.length))] := by
  refine satO_of_body hT Try.func30 (by kernel_rfl) rfl (rs := [.tmp 4]) rfl (n := 34) rfl (by simp) rfl (m := 1) rfl ⟨⟨rfl, rowsI_pur _⟩, by simp [keptL]⟩ fun E hE => ?_
  unfold St.initO
  have F := @rowsI_len
  repeat' first
    | refine wSq fun _ hK => ?_
    | refine wRg ?_
    | refine wDr ?_
    | refine VWP_block ?_
    | refine VWP_skip ?_
    | refine VWP_exit ?_
    | refine VWP_ret ?_
    | (refine hK _ ?_; clear hK)
    | (clear hK; refine hK _ ?_; clear hK)
    | (clear hK; clear hK; refine hK _ ?_; clear hK)
    | (clear hK; clear hK; clear hK; refine hK _ ?_; clear hK)
    | (simp only [wHb, reduceCtorEq] at hb <;> try (exfalso; omega))
    | refine wCd (fun hb => ?_) fun hb => ?_
    | simp only [go_sem, Nat.reduceLT, Nat.reduceLeDiff, Nat.reduceEqDiff, Nat.reduceAdd, Nat.reduceMul, Nat.reduceSub, reduceCtorEq, F]
    | simp (disch := omega) only [decide_eq_true_eq, if_pos, if_neg, wrap_id, le_maxLen, and_true, true_and, if_true, ite_true]
    | refine wGd (fun hb => ?_) fun hb => ?_
  refine VWP_loopL (X := Nat × List (List PT)) (fun x => [(0, .rf 0 es.length), (1, .int .i64 (k + 3 * (x.1 : Nat))), (5, .int .i64 x.1)]) (fun x => [(0, .root 106 x.2)]) (fun x => es.length - x.1)
    (fun x => x.1 ≤ es.length ∧ x.2.length = es.length ∧ (∀ (j : Nat), j < x.1 → x.2[j]? = some (markI (k + 3 * (j : Nat))).enc) ∧ ∀ (j : Nat), x.1 ≤ j → x.2[j]? = (rowsI es)[j]?)
    1 (0, rowsI es) ⟨by simp, by simp [rowsI_len], by simp, by simp⟩ (by simp [updV]) (by simp [HpE]) (by simp) ?_
  rintro ⟨i, rows⟩ nx ⟨hi, hlen, hdone, hrest⟩ hB
  simp only at hi hlen hdone hrest
  rcases Nat.lt_or_ge i es.length with hlt | hge
  · obtain ⟨e, he⟩ : ∃ e, es[i]? = some e := ⟨_, List.getElem?_eq_getElem hlt⟩
    have hr := hrest i (Nat.le_refl _)
    rw [rowsI_at he] at hr
    have hli : i < rows.length := by omega
    have hle : es.length ≤ rows.length := by omega
    have a2 : k + 3 * (i : Nat) + 1 + 1 = k + 3 * (i : Nat) + 2 := by omega
    have a3 : k + 3 * (i : Nat) + 2 + 1 = k + 3 * ((i + 1 : Nat) : Int) := by omega
    have w1 := wrap_id (x := k + 3 * (i : Nat) + 1) (by omega)
    have w2 := wrap_id (x := k + 3 * (i : Nat) + 2) (by omega)
    have w3 := wrap_id (x := k + 3 * ((i + 1 : Nat) : Int)) (by omega)
    have w0 := wrap_id (x := (i : Int) + 1) (by omega)
    have F := And.intro @rowsI_len (And.intro hr (And.intro hle (And.intro @List.set_set.{0} (And.intro @List.length_set.{0} (And.intro (fun a => List.getElem?_set_self (a := a) hli) (And.intro a2 (And.intro a3 (And.intro w0 (And.intro w1 (And.intro w2 w3))))))))))
    repeat' first
      | refine wSq fun _ hK => ?_
      | refine wRg ?_
      | refine wDr ?_
      | refine VWP_block ?_
      | refine VWP_skip ?_
      | refine VWP_exit ?_
      | refine VWP_ret ?_
      | (refine hK _ ?_; clear hK)
      | (clear hK; refine hK _ ?_; clear hK)
      | (clear hK; clear hK; refine hK _ ?_; clear hK)
      | (clear hK; clear hK; clear hK; refine hK _ ?_; clear hK)
      | (simp only [wHb, reduceCtorEq] at hb <;> try (exfalso; omega))
      | refine wCd (fun hb => ?_) fun hb => ?_
      | simp only [go_sem, Nat.reduceLT, Nat.reduceLeDiff, Nat.reduceEqDiff, Nat.reduceAdd, Nat.reduceMul, Nat.reduceSub, reduceCtorEq, F]
      | simp (disch := omega) only [decide_eq_true_eq, if_pos, if_neg, wrap_id, le_maxLen, and_true, true_and, if_true, ite_true]
      | refine wGd (fun hb => ?_) fun hb => ?_
    refine nextL (i + 1, rows.set i (markI (k + 3 * (i : Nat))).enc) ⟨by simp only; omega, by simpa using hlen, fun j hj => ?_, fun j hj => ?_⟩ (by simp only; omega) ?_ ?_ (by simpa using hB)
    · simp only at hj ⊢
      rcases Nat.lt_or_ge j i with h | h
      · rw [List.getElem?_set_ne (by omega)]; exact hdone j h
      · obtain rfl : j = i := by omega
        simp [hli]
    · simp only at hj ⊢
      rw [List.getElem?_set_ne (by omega)]
      exact hrest j (by omega)
    · simp [updV, tmL, w0]
    · simp [updH, hpL, markI, InsS.enc]
  · obtain rfl : i = es.length := by omega
    have hrows : rows = rowsI (marksI k es.length) := by
      refine List.ext_getElem? fun j => ?_
      rcases Nat.lt_or_ge j es.length with h | h
      · rw [hdone j h, rowsI_at (marksI_at h)]
        rfl
      · rw [List.getElem?_eq_none (by omega), List.getElem?_eq_none (by rw [rowsI_len, marksI_len]; omega)]
    have F := And.intro @rowsI_len hlen
    repeat' first
      | refine wSq fun _ hK => ?_
      | refine wRg ?_
      | refine wDr ?_
      | refine VWP_block ?_
      | refine VWP_skip ?_
      | refine VWP_exit ?_
      | refine VWP_ret ?_
      | (refine hK _ ?_; clear hK)
      | (clear hK; refine hK _ ?_; clear hK)
      | (clear hK; clear hK; refine hK _ ?_; clear hK)
      | (clear hK; clear hK; clear hK; refine hK _ ?_; clear hK)
      | (simp only [wHb, reduceCtorEq] at hb <;> try (exfalso; omega))
      | refine wCd (fun hb => ?_) fun hb => ?_
      | simp only [go_sem, Nat.reduceLT, Nat.reduceLeDiff, Nat.reduceEqDiff, Nat.reduceAdd, Nat.reduceMul, Nat.reduceSub, reduceCtorEq, F]
      | simp (disch := omega) only [decide_eq_true_eq, if_pos, if_neg, wrap_id, le_maxLen, and_true, true_and, if_true, ite_true]
      | refine wGd (fun hb => ?_) fun hb => ?_
    exact retO_one (by simp only [go_sem, Nat.reduceLT, Nat.reduceLeDiff, Nat.reduceEqDiff, Nat.reduceAdd, Nat.reduceMul, Nat.reduceSub, reduceCtorEq]) rfl (by simp only [go_sem, Nat.reduceLT, Nat.reduceLeDiff, Nat.reduceEqDiff, Nat.reduceAdd, Nat.reduceMul, Nat.reduceSub, reduceCtorEq]) rfl hrows
end Go.Proofs.Ytmiojnibngncaaa
