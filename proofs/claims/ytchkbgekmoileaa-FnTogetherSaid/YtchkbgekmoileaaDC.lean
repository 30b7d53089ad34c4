/- What the functions of descriptors give. -/
import Derived.Test.YtchkbgekmoileaaDB
namespace Go.Proofs.Ytchkbgekmoileaa
open Go Go.RowKit
set_option linter.unusedVariables false
set_option linter.unusedSimpArgs false
set_option maxRecDepth 100000
set_option maxHeartbeats 4000000
attribute [local irreducible] VWP vops vdraw contV contD CallK Guard GuardV NextL Puts Runs RetOK RetQ RetO RetQO thenQ blockQ

structure DescS where
  owner : Int
  status : Int
  entries : List EntS
  deriving DecidableEq
def DescS.cells (t : TypeId) (d : DescS) : List VV := [.int .i64 d.owner, .int .i64 d.status, .fr t (rowsE d.entries)]

theorem szB_le {n left : Int} (h0 : 0 ≤ n) (h1 : left ≤ 1048576) : -1 ≤ szB n left ∧ szB n left ≤ 1048576 := by
  unfold szB
  split <;> omega

theorem szDesc_ok (d : DescS) (left : Int) (h0 : 0 ≤ left) (h1 : left ≤ 1048576) (hl : d.entries.length ≤ 9223372036854775807) : SatP Try.prog 43 [.agg (d.cells 136), .int .i64 left] (.int .i64 (szB d.entries.length left)) [] := by
  refine satP_of_body hT Try.func43 (by kernel_rfl) rfl (rs := [.tmp 4]) rfl (n := 12) rfl (by simp) rfl (by simp) fun E hE => ?_
  unfold St.init
  unfold DescS.cells
  have F := (Eq.refl 0)
  repeat' first
    | refine wSq fun _ hK => ?_
    | refine wRg ?_
    | refine wDr ?_
    | refine VWP_block ?_
    | refine VWP_skip ?_
    | refine VWP_exit ?_
    | refine VWP_ret ?_
    | (refine hK _ ?_; clear hK)
    | (clear hK; refine hK _ ?_; clear hK)
    | (clear hK; clear hK; refine hK _ ?_; clear hK)
    | (clear hK; clear hK; clear hK; refine hK _ ?_; clear hK)
    | (simp only [wHb, reduceCtorEq] at hb <;> try (exfalso; omega))
    | refine wCd (fun hb => ?_) fun hb => ?_
    | refine wCa (c := by first | exact szEntryS_ok _ _ h0 h1 hl) (k := ?_)
    | simp only [go_sem, Nat.reduceLT, Nat.reduceLeDiff, Nat.reduceEqDiff, Nat.reduceAdd, Nat.reduceMul, Nat.reduceSub, reduceCtorEq, F]
    | simp (disch := omega) only [decide_eq_true_eq, if_pos, if_neg, wrap_id, le_maxLen, and_true, true_and, if_true, ite_true]
    | refine wGd (fun hb => ?_) fun hb => ?_
  all_goals refine wLf ?_
  · have : szB d.entries.length left = -1 := by unfold szB at hb ⊢; split at hb <;> simp_all
    rw [this]
  · rfl
theorem toDesc_ok (d : DescS) (hl : d.entries.length ≤ 1048576) : SatP Try.prog 46 [.agg (d.cells 136)] (.agg [.int .i64 d.owner, .int .i64 d.status, .rf 0 d.entries.length]) [(70, rowsE d.entries)] := by
  refine satP_of_body hT Try.func46 (by kernel_rfl) rfl (rs := [.cell 2 40]) rfl (n := 15) rfl (by simp) rfl (by simpa using rowsE_pur d.entries) fun E hE => ?_
  unfold St.init
  unfold DescS.cells
  have F := (Eq.refl 0)
  repeat' first
    | refine wSq fun _ hK => ?_
    | refine wRg ?_
    | refine wDr ?_
    | refine VWP_block ?_
    | refine VWP_skip ?_
    | refine VWP_exit ?_
    | refine VWP_ret ?_
    | (refine hK _ ?_; clear hK)
    | (clear hK; refine hK _ ?_; clear hK)
    | (clear hK; clear hK; refine hK _ ?_; clear hK)
    | (clear hK; clear hK; clear hK; refine hK _ ?_; clear hK)
    | (simp only [wHb, reduceCtorEq] at hb <;> try (exfalso; omega))
    | refine wCd (fun hb => ?_) fun hb => ?_
    | refine wCa (c := by first | exact toEntryS_ok _ hl) (k := ?_)
    | simp only [go_sem, Nat.reduceLT, Nat.reduceLeDiff, Nat.reduceEqDiff, Nat.reduceAdd, Nat.reduceMul, Nat.reduceSub, reduceCtorEq, F]
    | simp (disch := omega) only [decide_eq_true_eq, if_pos, if_neg, wrap_id, le_maxLen, and_true, true_and, if_true, ite_true]
    | refine wGd (fun hb => ?_) fun hb => ?_
  refine ret_mk (vs := _) (acc := _) (by simp only [go_sem, Nat.reduceLT, Nat.reduceLeDiff, Nat.reduceEqDiff, Nat.reduceAdd, Nat.reduceMul, Nat.reduceSub, reduceCtorEq, vres]; rfl) (by simp only [go_sem, Nat.reduceLT, Nat.reduceLeDiff, Nat.reduceEqDiff, Nat.reduceAdd, Nat.reduceMul, Nat.reduceSub, reduceCtorEq, wrap, exV, exA, exCs, exC, rowsE_len, Nat.le_refl]; rfl) (by simp) (by simp [List.take_of_length_le, rowsE_len]) (by simpa using rowsE_pur d.entries)
theorem eqDesc_ok (a b : DescS) (hl : a.entries.length ≤ 1048576) : SatP Try.prog 49 [.agg (a.cells 70), .agg (b.cells 70)] (.bool (decide (a = b))) [] := by
  refine satP_of_body hT Try.func49 (by kernel_rfl) rfl (rs := [.tmp 4]) rfl (n := 21) rfl (by simp) rfl (by simp) fun E hE => ?_
  unfold St.init
  unfold DescS.cells
  have F := (Eq.refl 0)
  repeat' first
    | refine wSq fun _ hK => ?_
    | refine wRg ?_
    | refine wDr ?_
    | refine VWP_block ?_
    | refine VWP_skip ?_
    | refine VWP_exit ?_
    | refine VWP_ret ?_
    | (refine hK _ ?_; clear hK)
    | (clear hK; refine hK _ ?_; clear hK)
    | (clear hK; clear hK; refine hK _ ?_; clear hK)
    | (clear hK; clear hK; clear hK; refine hK _ ?_; clear hK)
    | (simp only [wHb, reduceCtorEq] at hb <;> try (exfalso; omega))
    | refine wCd (fun hb => ?_) fun hb => ?_
    | refine wCa (c := by first | exact eqEntryS_ok _ _ hl) (k := ?_)
    | simp only [go_sem, Nat.reduceLT, Nat.reduceLeDiff, Nat.reduceEqDiff, Nat.reduceAdd, Nat.reduceMul, Nat.reduceSub, reduceCtorEq, F]
    | simp (disch := omega) only [decide_eq_true_eq, if_pos, if_neg, wrap_id, le_maxLen, and_true, true_and, if_true, ite_true]
    | refine wGd (fun hb => ?_) fun hb => ?_
  all_goals refine wLf ?_
  all_goals (cases a; cases b; simp_all)

noncomputable def bP (p : Prop) : Bool := @decide p (Classical.propDecidable p)
theorem bP_true {p : Prop} (h : p) : bP p = true := by unfold bP; exact @decide_eq_true p (Classical.propDecidable p) h
theorem bP_false {p : Prop} (h : ¬ p) : bP p = false := by unfold bP; exact @decide_eq_false p (Classical.propDecidable p) h

/-- Each entry is as told, and no object twice. -/
def OpenP (es : List EntS) : Prop := (∀ (i : Nat) (e : EntS), es[i]? = some e → e.ok = true ∧ ∀ (k : Nat) (f : EntS), k < i → es[k]? = some f → f.object ≠ e.object) ∧ es.length ≤ 6

theorem specOpen_ok (es : List EntS) (hl : es.length ≤ 1048576) : SatP Try.prog 81 [.fr 70 (rowsE es)] (.bool (bP (OpenP es))) [] := by
  refine satP_of_body hT Try.func81 (by kernel_rfl) rfl (rs := [.tmp 2]) rfl (n := 36) rfl (by simp) rfl (by simp) fun E hE => ?_
  unfold St.init
  have F := @rowsE_len
  repeat' first
    | refine wSq fun _ hK => ?_
    | refine wRg ?_
    | refine wDr ?_
    | refine VWP_block ?_
    | refine VWP_skip ?_
    | refine VWP_exit ?_
    | refine VWP_ret ?_
    | (refine hK _ ?_; clear hK)
    | (clear hK; refine hK _ ?_; clear hK)
    | (clear hK; clear hK; refine hK _ ?_; clear hK)
    | (clear hK; clear hK; clear hK; refine hK _ ?_; clear hK)
    | (simp only [wHb, reduceCtorEq] at hb <;> try (exfalso; omega))
    | refine wCd (fun hb => ?_) fun hb => ?_
    | simp only [go_sem, Nat.reduceLT, Nat.reduceLeDiff, Nat.reduceEqDiff, Nat.reduceAdd, Nat.reduceMul, Nat.reduceSub, reduceCtorEq, F]
    | simp (disch := omega) only [decide_eq_true_eq, if_pos, if_neg, wrap_id, le_maxLen, and_true, true_and, if_true, ite_true]
    | refine wGd (fun hb => ?_) fun hb => ?_
  refine VWP_loopL (X := Nat) (fun i => [(0, .fr 70 (rowsE es)), (3, .int .i64 i)]) (fun _ => []) (fun i => es.length - i)
    (fun i => i ≤ es.length ∧ ∀ (j : Nat) (e : EntS), j < i → es[j]? = some e → e.ok = true ∧ ∀ (k : Nat) (f : EntS), k < j → es[k]? = some f → f.object ≠ e.object) 0 0 ⟨by simp, by simp⟩ (by simp [updV]) (by simp) (by simp) ?_
  rintro i nx ⟨hi, hdone⟩ hB
  rcases Nat.lt_or_ge i es.length with hlt | hge
  · obtain ⟨e, he⟩ : ∃ e, es[i]? = some e := ⟨_, List.getElem?_eq_getElem hlt⟩
    have hre := rowsE_at he
    have F := And.intro @rowsE_len hre
    repeat' first
      | refine wSq fun _ hK => ?_
      | refine wRg ?_
      | refine wDr ?_
      | refine VWP_block ?_
      | refine VWP_skip ?_
      | refine VWP_exit ?_
      | refine VWP_ret ?_
      | (refine hK _ ?_; clear hK)
      | (clear hK; refine hK _ ?_; clear hK)
      | (clear hK; clear hK; refine hK _ ?_; clear hK)
      | (clear hK; clear hK; clear hK; refine hK _ ?_; clear hK)
      | (simp only [wHb, reduceCtorEq] at hb <;> try (exfalso; omega))
      | refine wCd (fun hb => ?_) fun hb => ?_
      | refine wCa (c := by first | exact l6Entry_ok e) (k := ?_)
      | simp only [go_sem, Nat.reduceLT, Nat.reduceLeDiff, Nat.reduceEqDiff, Nat.reduceAdd, Nat.reduceMul, Nat.reduceSub, reduceCtorEq, F]
      | simp (disch := omega) only [decide_eq_true_eq, if_pos, if_neg, wrap_id, le_maxLen, and_true, true_and, if_true, ite_true]
      | refine wGd (fun hb => ?_) fun hb => ?_
    · refine wLf ?_
      have hne : e.ok = false := by assumption
      rw [bP_false]
      intro h
      have := (h.1 i e he).1
      rw [hne] at this
      cases this
    · have hok : e.ok = true := by assumption
      refine VWP_loopL (X := Nat) (fun k => [(0, .fr 70 (rowsE es)), (3, .int .i64 i), (4, .int .i64 k)]) (fun _ => []) (fun k => i - k)
        (fun k => k ≤ i ∧ ∀ (j : Nat) (f : EntS), j < k → es[j]? = some f → f.object ≠ e.object) 0 0 ⟨by simp, by simp⟩ (by simp [updV, tmL]) (by simp) (by simp) ?_
      rintro k nx2 ⟨hk, hkd⟩ hB2
      rcases Nat.lt_or_ge k i with hlt2 | hge2
      · obtain ⟨f, hf⟩ : ∃ f, es[k]? = some f := ⟨_, List.getElem?_eq_getElem (by omega)⟩
        have hrf := rowsE_at hf
        have F := And.intro @rowsE_len (And.intro hre hrf)
        repeat' first
          | refine wSq fun _ hK => ?_
          | refine wRg ?_
          | refine wDr ?_
          | refine VWP_block ?_
          | refine VWP_skip ?_
          | refine VWP_exit ?_
          | refine VWP_ret ?_
          | (refine hK _ ?_; clear hK)
          | (clear hK; refine hK _ ?_; clear hK)
          | (clear hK; clear hK; refine hK _ ?_; clear hK)
          | (clear hK; clear hK; clear hK; refine hK _ ?_; clear hK)
          | (simp only [wHb, reduceCtorEq] at hb <;> try (exfalso; omega))
          | refine wCd (fun hb => ?_) fun hb => ?_
          | simp only [go_sem, Nat.reduceLT, Nat.reduceLeDiff, Nat.reduceEqDiff, Nat.reduceAdd, Nat.reduceMul, Nat.reduceSub, reduceCtorEq, F]
          | simp (disch := omega) only [decide_eq_true_eq, if_pos, if_neg, wrap_id, le_maxLen, and_true, true_and, if_true, ite_true]
          | refine wGd (fun hb => ?_) fun hb => ?_
        · refine wLf ?_
          have heq : f.object = e.object := by simp_all
          rw [bP_false]
          intro h
          exact (h.1 i e he).2 k f hlt2 hf heq
        · have hne : f.object ≠ e.object := by simp_all
          have hw := wrap_id (x := (k : Int) + 1) (by omega)
          refine nextL (k + 1) ⟨by omega, fun j g hj hg => ?_⟩ (by omega) (by simp [updV, tmL, hw]) (by simp) (by simp)
          rcases Nat.lt_or_ge j k with h | h
          · exact hkd j g h hg
          · obtain rfl : j = k := by omega
            rw [hf] at hg
            cases hg
            exact hne
      · obtain rfl : k = i := by omega
        have F := And.intro @rowsE_len hre
        repeat' first
          | refine wSq fun _ hK => ?_
          | refine wRg ?_
          | refine wDr ?_
          | refine VWP_block ?_
          | refine VWP_skip ?_
          | refine VWP_exit ?_
          | refine VWP_ret ?_
          | (refine hK _ ?_; clear hK)
          | (clear hK; refine hK _ ?_; clear hK)
          | (clear hK; clear hK; refine hK _ ?_; clear hK)
          | (clear hK; clear hK; clear hK; refine hK _ ?_; clear hK)
          | (simp only [wHb, reduceCtorEq] at hb <;> try (exfalso; omega))
          | refine wCd (fun hb => ?_) fun hb => ?_
          | simp only [go_sem, Nat.reduceLT, Nat.reduceLeDiff, Nat.reduceEqDiff, Nat.reduceAdd, Nat.reduceMul, Nat.reduceSub, reduceCtorEq, F]
          | simp (disch := omega) only [decide_eq_true_eq, if_pos, if_neg, wrap_id, le_maxLen, and_true, true_and, if_true, ite_true]
          | refine wGd (fun hb => ?_) fun hb => ?_
        have hw := wrap_id (x := (k : Int) + 1) (by omega)
        refine nextL (k + 1) ⟨by omega, fun j g hj hg => ?_⟩ (by omega) (by simp [updV, tmL, hw]) (by simp) (by simp)
        rcases Nat.lt_or_ge j k with h | h
        · exact hdone j g h hg
        · obtain rfl : j = k := by omega
          rw [he] at hg
          cases hg
          exact ⟨hok, hkd⟩
  · obtain rfl : i = es.length := by omega
    have F := @rowsE_len
    repeat' first
      | refine wSq fun _ hK => ?_
      | refine wRg ?_
      | refine wDr ?_
      | refine VWP_block ?_
      | refine VWP_skip ?_
      | refine VWP_exit ?_
      | refine VWP_ret ?_
      | (refine hK _ ?_; clear hK)
      | (clear hK; refine hK _ ?_; clear hK)
      | (clear hK; clear hK; refine hK _ ?_; clear hK)
      | (clear hK; clear hK; clear hK; refine hK _ ?_; clear hK)
      | (simp only [wHb, reduceCtorEq] at hb <;> try (exfalso; omega))
      | refine wCd (fun hb => ?_) fun hb => ?_
      | simp only [go_sem, Nat.reduceLT, Nat.reduceLeDiff, Nat.reduceEqDiff, Nat.reduceAdd, Nat.reduceMul, Nat.reduceSub, reduceCtorEq, F]
      | simp (disch := omega) only [decide_eq_true_eq, if_pos, if_neg, wrap_id, le_maxLen, and_true, true_and, if_true, ite_true]
      | refine wGd (fun hb => ?_) fun hb => ?_
    refine wLf ?_
    by_cases h6 : es.length ≤ 6
    · rw [bP_true ⟨fun i e he => hdone i e (List.getElem?_eq_some_iff.1 he).1 he, h6⟩]
      have : (es.length : Int) ≤ 6 := by omega
      simp [this]
    · rw [bP_false (fun h => h6 h.2)]
      have : ¬ (es.length : Int) ≤ 6 := by omega
      simp [this]
end Go.Proofs.Ytchkbgekmoileaa
