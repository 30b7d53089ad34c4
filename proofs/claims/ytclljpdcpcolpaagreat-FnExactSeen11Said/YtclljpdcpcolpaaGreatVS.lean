/- The value that a descriptor gives to an object. -/
import Derived.Test.YtclljpdcpcolpaaGreatSI
import Derived.Test.YtclljpdcpcolpaaGreatNA
import Derived.Test.YtclljpdcpcolpaaGreatEc
namespace Go.Proofs.YtclljpdcpcolpaaGreat
open Go Go.RowKit
set_option linter.unusedVariables false
set_option linter.unusedSimpArgs false
set_option maxRecDepth 100000
set_option maxHeartbeats 4000000
attribute [local irreducible] VWP vops vdraw contV contD CallK Guard GuardV NextL Puts Runs RetOK RetQ RetO RetQO thenQ blockQ

theorem sorted_le2 {es : List EntS} (h : SortedP es) : ∀ (n i : Nat) (e f : EntS), es[i]? = some e → es[i + n]? = some f → e.object ≤ f.object
  | 0, i, e, f, he, hf => by
    rw [Nat.add_zero, he] at hf
    cases hf
    exact Int.le_refl _
  | n + 1, i, e, f, he, hf => by
    have hlt := (List.getElem?_eq_some_iff.1 hf).1
    obtain ⟨g, hg⟩ : ∃ g, es[i + n]? = some g := ⟨_, List.getElem?_eq_getElem (by omega)⟩
    have h1 := sorted_le2 h n i e g he hg
    have h2 := h (i + n) g f hg (by rw [Nat.add_assoc]; exact hf)
    omega
theorem sorted_lt2 {es : List EntS} (h : SortedP es) {i j : Nat} {e f : EntS} (hij : i < j) (he : es[i]? = some e) (hf : es[j]? = some f) : e.object < f.object := by
  have hlt := (List.getElem?_eq_some_iff.1 hf).1
  obtain ⟨g, hg⟩ : ∃ g, es[i + 1]? = some g := ⟨_, List.getElem?_eq_getElem (by omega)⟩
  have h1 := h i e g he hg
  have h2 := sorted_le2 h (j - (i + 1)) (i + 1) g f hg (by rw [show i + 1 + (j - (i + 1)) = j by omega]; exact hf)
  omega
/-- The value that entries give to an object. -/
def newVE (es : List EntS) (o x : Int) : Int := match es.find? (isAt o) with
  | some e => if e.write then e.new else x
  | none => x
theorem newVE_no {es : List EntS} {o x : Int} (h : ∀ e ∈ es, e.object ≠ o) : newVE es o x = x := by
  have : es.find? (isAt o) = none := List.find?_eq_none.2 fun e he => by simp [isAt, h e he]
  simp [newVE, this]
theorem place_some {es : List EntS} {o : Int} {i : Nat} {e : EntS} (hp : placeE es o = i) (he : es[i]? = some e) (x : Int) : newVE es o x = if e.write then e.new else x := by
  unfold placeE firstI at hp
  split at hp
  · rename_i k hk
    have hki : k = i := by omega
    subst hki
    rw [List.findIdx?_eq_some_iff_getElem] at hk
    obtain ⟨h1, h2, h3⟩ := hk
    have hf : es.find? (isAt o) = some e := by
      rw [List.find?_eq_some_iff_getElem]
      rw [List.getElem?_eq_getElem h1] at he
      cases he
      exact ⟨h2, k, h1, rfl, fun j hj => by simpa using h3 j hj⟩
    simp [newVE, hf]
  · omega
theorem place_none {es : List EntS} {o : Int} (hp : placeE es o < 0) (x : Int) : newVE es o x = x := by
  unfold placeE firstI at hp
  split at hp
  · omega
  · rename_i hk
    refine newVE_no fun e he => ?_
    have := List.findIdx?_eq_none_iff.1 hk e he
    simpa [isAt] using this
theorem newValue_ok (d : DescS) (o x : Int) (hl : d.entries.length ≤ 1048576) : SatP Tryz.prog 36 [.agg (d.cells 72), .int .i64 o, .int .i64 x] (.int .i64 (newVE d.entries o x)) [] := by
  refine satP_of_body hT Tryz.func36 (by kernel_rfl) rfl (rs := [.tmp 6]) rfl (n := 29) rfl (by simp) rfl (by simp) fun E => ?_
  unfold St.init
  unfold DescS.cells
  rcases Int.lt_or_le (placeE d.entries o) 0 with hn | hn
  · have hnl : ¬ 0 ≤ placeE d.entries o := by omega
    repeat' first
      | refine VWP_seq_k fun _ hK => ?_
      | refine VWP_region_k hT ?_
      | refine VWP_draw_k hT hM (by kernel_rfl) rfl ?_
      | refine VWP_block ?_
      | refine VWP_skip ?_
      | refine VWP_exit ?_
      | refine VWP_ret ?_
      | (refine hK _ ?_; clear hK)
      | (clear hK; refine hK _ ?_; clear hK)
      | (clear hK; clear hK; refine hK _ ?_; clear hK)
      | (clear hK; clear hK; clear hK; refine hK _ ?_; clear hK)
      | (simp only [decide_eq_true_eq, decide_eq_false_iff_not, bne_iff_ne, ne_eq, Bool.not_eq_true', Bool.not_eq_false', Bool.true_eq_false, Bool.false_eq_true, reduceCtorEq, not_true_eq_false, eq_self] at hb <;> try (exfalso; omega))
      | refine VWP_cond2 _ (by simp only [go_sem, Nat.reduceLT, Nat.reduceLeDiff, Nat.reduceEqDiff, Nat.reduceAdd, Nat.reduceMul, Nat.reduceSub, reduceCtorEq, rowsE_len, hnl]; rfl) (fun hb => ?_) (fun hb => ?_)
      | refine callK (by simp only [go_sem, Nat.reduceLT, Nat.reduceLeDiff, Nat.reduceEqDiff, Nat.reduceAdd, Nat.reduceMul, Nat.reduceSub, reduceCtorEq, rowsE_len, hnl, List.mem_cons, List.not_mem_nil, or_false, forall_eq_or_imp, forall_eq, frzOk, frzOkC]; try simp) (args' := _) (by simp only [go_sem, Nat.reduceLT, Nat.reduceLeDiff, Nat.reduceEqDiff, Nat.reduceAdd, Nat.reduceMul, Nat.reduceSub, reduceCtorEq, rowsE_len, hnl, frzA, frzC]; try rfl) (by first | exact entryAt_ok d.entries o hl) (by simp only [go_sem, Nat.reduceLT, Nat.reduceLeDiff, Nat.reduceEqDiff, Nat.reduceAdd, Nat.reduceMul, Nat.reduceSub, reduceCtorEq, rowsE_len, hnl]; try simp) (by decide) ?_
      | simp only [go_sem, Nat.reduceLT, Nat.reduceLeDiff, Nat.reduceEqDiff, Nat.reduceAdd, Nat.reduceMul, Nat.reduceSub, reduceCtorEq, rowsE_len, hnl]
      | simp (disch := omega) only [decide_eq_true_eq, if_pos, if_neg, wrap_id, le_maxLen, and_true, true_and, if_true, ite_true]
      | refine guard_split (by simp only [go_sem, Nat.reduceLT, Nat.reduceLeDiff, Nat.reduceEqDiff, Nat.reduceAdd, Nat.reduceMul, Nat.reduceSub, reduceCtorEq, rowsE_len, hnl]) rfl (fun hb => ?_) (fun hb => ?_)
    refine ret_scal (by simp only [go_sem, Nat.reduceLT, Nat.reduceLeDiff, Nat.reduceEqDiff, Nat.reduceAdd, Nat.reduceMul, Nat.reduceSub, reduceCtorEq]; rfl) rfl ?_
    rw [place_none hn]
  · obtain ⟨k, hk⟩ : ∃ k : Nat, placeE d.entries o = k := ⟨(placeE d.entries o).toNat, by omega⟩
    have hkl : k < d.entries.length := by
      unfold placeE firstI at hk
      split at hk
      · rename_i i hi
        rw [List.findIdx?_eq_some_iff_getElem] at hi
        obtain ⟨h1, _⟩ := hi
        omega
      · omega
    obtain ⟨e, he⟩ : ∃ e, d.entries[k]? = some e := ⟨_, List.getElem?_eq_getElem hkl⟩
    have hre := rowsE_at he
    have hk0 : (0 : Int) ≤ (k : Nat) := by omega
    rw [place_some hk he]
    have hc := entryAt_ok d.entries o hl
    rw [hk] at hc
    cases hw : e.write
    all_goals
      simp only [EntS.enc, hw] at hre
      repeat' first
        | refine VWP_seq_k fun _ hK => ?_
        | refine VWP_region_k hT ?_
        | refine VWP_draw_k hT hM (by kernel_rfl) rfl ?_
        | refine VWP_block ?_
        | refine VWP_skip ?_
        | refine VWP_exit ?_
        | refine VWP_ret ?_
        | (refine hK _ ?_; clear hK)
        | (clear hK; refine hK _ ?_; clear hK)
        | (clear hK; clear hK; refine hK _ ?_; clear hK)
        | (clear hK; clear hK; clear hK; refine hK _ ?_; clear hK)
        | (simp only [decide_eq_true_eq, decide_eq_false_iff_not, bne_iff_ne, ne_eq, Bool.not_eq_true', Bool.not_eq_false', Bool.true_eq_false, Bool.false_eq_true, reduceCtorEq, not_true_eq_false, eq_self] at hb <;> try (exfalso; omega))
        | refine VWP_cond2 _ (by simp only [go_sem, Nat.reduceLT, Nat.reduceLeDiff, Nat.reduceEqDiff, Nat.reduceAdd, Nat.reduceMul, Nat.reduceSub, reduceCtorEq, rowsE_len, hre, hk0, hkl]; rfl) (fun hb => ?_) (fun hb => ?_)
        | refine callK (by simp only [go_sem, Nat.reduceLT, Nat.reduceLeDiff, Nat.reduceEqDiff, Nat.reduceAdd, Nat.reduceMul, Nat.reduceSub, reduceCtorEq, rowsE_len, hre, hk0, hkl, List.mem_cons, List.not_mem_nil, or_false, forall_eq_or_imp, forall_eq, frzOk, frzOkC]; try simp) (args' := _) (by simp only [go_sem, Nat.reduceLT, Nat.reduceLeDiff, Nat.reduceEqDiff, Nat.reduceAdd, Nat.reduceMul, Nat.reduceSub, reduceCtorEq, rowsE_len, hre, hk0, hkl, frzA, frzC]; try rfl) (by first | exact hc) (by simp only [go_sem, Nat.reduceLT, Nat.reduceLeDiff, Nat.reduceEqDiff, Nat.reduceAdd, Nat.reduceMul, Nat.reduceSub, reduceCtorEq, rowsE_len, hre, hk0, hkl]; try simp) (by decide) ?_
        | simp only [go_sem, Nat.reduceLT, Nat.reduceLeDiff, Nat.reduceEqDiff, Nat.reduceAdd, Nat.reduceMul, Nat.reduceSub, reduceCtorEq, rowsE_len, hre, hk0, hkl]
        | simp (disch := omega) only [decide_eq_true_eq, if_pos, if_neg, wrap_id, le_maxLen, and_true, true_and, if_true, ite_true]
        | refine guard_split (by simp only [go_sem, Nat.reduceLT, Nat.reduceLeDiff, Nat.reduceEqDiff, Nat.reduceAdd, Nat.reduceMul, Nat.reduceSub, reduceCtorEq, rowsE_len, hre, hk0, hkl]) rfl (fun hb => ?_) (fun hb => ?_)
      refine ret_scal (by simp only [go_sem, Nat.reduceLT, Nat.reduceLeDiff, Nat.reduceEqDiff, Nat.reduceAdd, Nat.reduceMul, Nat.reduceSub, reduceCtorEq]; rfl) rfl ?_
      first | rfl | simp
end Go.Proofs.YtclljpdcpcolpaaGreat
