/- What both DescOk give. -/
import Derived.Test.YtchkbgekmoileaaDC
namespace Go.Proofs.Ytchkbgekmoileaa
open Go Go.RowKit
set_option linter.unusedVariables false
set_option linter.unusedSimpArgs false
set_option maxRecDepth 100000
set_option maxHeartbeats 4000000
attribute [local irreducible] VWP vops vdraw contV contD CallK Guard GuardV NextL Puts Runs RetOK RetQ RetO RetQO thenQ blockQ

def SortedP (es : List EntS) : Prop := ∀ (i : Nat) (e f : EntS), es[i]? = some e → es[i + 1]? = some f → e.object < f.object
def AllOk (es : List EntS) : Prop := ∀ (i : Nat) (e : EntS), es[i]? = some e → e.ok = true
/-- A descriptor is as told. -/
def DescP (d : DescS) : Prop := SortedP d.entries ∧ AllOk d.entries ∧ inB d.owner 0 3 = true ∧ inB d.status 0 2 = true ∧ 0 < d.entries.length ∧ d.entries.length ≤ 6

theorem sorted_lt {es : List EntS} (h : SortedP es) : ∀ (n k : Nat) (f e : EntS), es[k]? = some f → es[k + n + 1]? = some e → f.object < e.object
  | 0, k, f, e, hf, he => h k f e hf he
  | n + 1, k, f, e, hf, he => by
    have hlt : k + n + 1 < es.length := by have := (List.getElem?_eq_some_iff.1 he).1; omega
    have h1 := sorted_lt h n k f _ hf (List.getElem?_eq_getElem hlt)
    have h2 := h (k + n + 1) _ e (List.getElem?_eq_getElem hlt) he
    omega
theorem open_sorted {es : List EntS} (h : SortedP es) : OpenP es ↔ AllOk es ∧ es.length ≤ 6 := by
  constructor
  · intro ⟨h1, h2⟩
    exact ⟨fun i e he => (h1 i e he).1, h2⟩
  · intro ⟨h1, h2⟩
    refine ⟨fun i e he => ⟨h1 i e he, fun k f hk hf => ?_⟩, h2⟩
    obtain ⟨n, rfl⟩ : ∃ n, i = k + n + 1 := ⟨i - k - 1, by omega⟩
    have := sorted_lt h n k f e hf he
    omega

theorem specDescOk_ok (d : DescS) (hl : d.entries.length ≤ 1048576) : SatP Try.prog 72 [.agg (d.cells 70)] (.bool (bP (DescP d))) [] := by
  refine satP_of_body hT Try.func72 (by kernel_rfl) rfl (rs := [.tmp 2]) rfl (n := 44) rfl (by simp) rfl (by simp) fun E hE => ?_
  unfold St.init
  unfold DescS.cells
  have F := @rowsE_len
  repeat' first
    | refine wSq fun _ hK => ?_
    | refine wRg ?_
    | refine wDr ?_
    | refine VWP_block ?_
    | refine VWP_skip ?_
    | refine VWP_exit ?_
    | refine VWP_ret ?_
    | (refine hK _ ?_; clear hK)
    | (clear hK; refine hK _ ?_; clear hK)
    | (clear hK; clear hK; refine hK _ ?_; clear hK)
    | (clear hK; clear hK; clear hK; refine hK _ ?_; clear hK)
    | (simp only [wHb, reduceCtorEq] at hb <;> try (exfalso; omega))
    | refine wCd (fun hb => ?_) fun hb => ?_
    | simp only [go_sem, Nat.reduceLT, Nat.reduceLeDiff, Nat.reduceEqDiff, Nat.reduceAdd, Nat.reduceMul, Nat.reduceSub, reduceCtorEq, F]
    | simp (disch := omega) only [decide_eq_true_eq, if_pos, if_neg, wrap_id, le_maxLen, and_true, true_and, if_true, ite_true]
    | refine wGd (fun hb => ?_) fun hb => ?_
  refine VWP_loopL (X := Nat) (fun i => [(1, .bp 0 0), (3, .int .i64 ((i : Int) + 1))]) (fun _ => [(0, .box [.int .i64 d.owner, .int .i64 d.status, .fr 70 (rowsE d.entries)])]) (fun i => d.entries.length - i)
    (fun i => (i + 1 ≤ d.entries.length ∨ i = 0) ∧ ∀ (j : Nat) (e f : EntS), j < i → d.entries[j]? = some e → d.entries[j + 1]? = some f → e.object < f.object) 1 0 ⟨by simp, by simp⟩ (by simp [updV]) (by simp [updH]) (by simp) ?_
  rintro i nx ⟨hi, hdone⟩ hB
  have hk : ((i : Int) + 1 - 1) = i := by omega
  have hk1 : ((i : Int) + 1).toNat = i + 1 := by omega
  rcases Nat.lt_or_ge (i + 1) d.entries.length with hlt | hge
  · obtain ⟨e, he⟩ : ∃ e, d.entries[i]? = some e := ⟨_, List.getElem?_eq_getElem (by omega)⟩
    obtain ⟨f, hf⟩ : ∃ f, d.entries[i + 1]? = some f := ⟨_, List.getElem?_eq_getElem hlt⟩
    have hre := rowsE_at he
    have hrf := rowsE_at hf
    have F := And.intro @rowsE_len (And.intro hre (And.intro hrf (And.intro hk hk1)))
    repeat' first
      | refine wSq fun _ hK => ?_
      | refine wRg ?_
      | refine wDr ?_
      | refine VWP_block ?_
      | refine VWP_skip ?_
      | refine VWP_exit ?_
      | refine VWP_ret ?_
      | (refine hK _ ?_; clear hK)
      | (clear hK; refine hK _ ?_; clear hK)
      | (clear hK; clear hK; refine hK _ ?_; clear hK)
      | (clear hK; clear hK; clear hK; refine hK _ ?_; clear hK)
      | (simp only [wHb, reduceCtorEq] at hb <;> try (exfalso; omega))
      | refine wCd (fun hb => ?_) fun hb => ?_
      | simp only [go_sem, Nat.reduceLT, Nat.reduceLeDiff, Nat.reduceEqDiff, Nat.reduceAdd, Nat.reduceMul, Nat.reduceSub, reduceCtorEq, F]
      | simp (disch := omega) only [decide_eq_true_eq, if_pos, if_neg, wrap_id, le_maxLen, and_true, true_and, if_true, ite_true]
      | refine wGd (fun hb => ?_) fun hb => ?_
    · refine wLf ?_
      rw [bP_false]
      intro h
      have := h.1 i e f he hf
      have : f.object ≤ e.object := by assumption
      omega
    · have hef : e.object < f.object := by simp_all
      have hw := wrap_id (x := (i : Int) + 1 + 1) (by omega)
      refine nextL (i + 1) ⟨by omega, fun j g g' hj hg hg' => ?_⟩ (by omega) (by simp [updV, tmL, hw]) (by simp [hpL]) (by omega)
      rcases Nat.lt_or_ge j i with h | h
      · exact hdone j g g' h hg hg'
      · obtain rfl : j = i := by omega
        rw [he] at hg
        rw [hf] at hg'
        cases hg
        cases hg'
        exact hef
  · have hs : SortedP d.entries := fun j e f he hf => by
      have := (List.getElem?_eq_some_iff.1 hf).1
      exact hdone j e f (by omega) he hf
    have F := @rowsE_len
    repeat' first
      | refine wSq fun _ hK => ?_
      | refine wRg ?_
      | refine wDr ?_
      | refine VWP_block ?_
      | refine VWP_skip ?_
      | refine VWP_exit ?_
      | refine VWP_ret ?_
      | (refine hK _ ?_; clear hK)
      | (clear hK; refine hK _ ?_; clear hK)
      | (clear hK; clear hK; refine hK _ ?_; clear hK)
      | (clear hK; clear hK; clear hK; refine hK _ ?_; clear hK)
      | (simp only [wHb, reduceCtorEq] at hb <;> try (exfalso; omega))
      | refine wCd (fun hb => ?_) fun hb => ?_
      | refine wCa (c := by first | exact l1In_ok _ _ _ | exact specOpen_ok _ hl) (k := ?_)
      | simp only [go_sem, Nat.reduceLT, Nat.reduceLeDiff, Nat.reduceEqDiff, Nat.reduceAdd, Nat.reduceMul, Nat.reduceSub, reduceCtorEq, F]
      | simp (disch := omega) only [decide_eq_true_eq, if_pos, if_neg, wrap_id, le_maxLen, and_true, true_and, if_true, ite_true]
      | refine wGd (fun hb => ?_) fun hb => ?_
    all_goals refine wLf ?_
    · by_cases ho : OpenP d.entries
      · rw [bP_true ho, bP_true ⟨hs, ((open_sorted hs).1 ho).1, by assumption, by assumption, by omega, ho.2⟩]
      · rw [bP_false ho, bP_false fun h => ho ((open_sorted hs).2 ⟨h.2.1, h.2.2.2.2.2⟩)]
    · rw [bP_false fun h => hb (by have := h.2.2.2.2.1; omega)]
    · rw [bP_false fun h => by rw [h.2.2.2.1] at hb; cases hb]
    · rw [bP_false fun h => by rw [h.2.2.1] at hb; cases hb]
end Go.Proofs.Ytchkbgekmoileaa
