/- What the program's Depth gives. -/
import Derived.Test.YtfkefjcopbcmlaaWB
namespace Go.Proofs.Ytfkefjcopbcmlaa
open Go Go.RowKit
set_option linter.unusedVariables false
set_option linter.unusedSimpArgs false
set_option maxRecDepth 100000
set_option maxHeartbeats 4000000
attribute [local irreducible] VWP vops vdraw contV contD CallK Guard GuardV NextL Puts Runs RetOK RetQ RetO RetQO thenQ blockQ
attribute [local irreducible] NextB

/-- How long the way from a descriptor on is, behind one that was gone. -/
inductive Way (s : StoreD) : List Int → Int → Nat → Prop
  | stop (w : List Int) (f : Int) : ¬ (0 ≤ f ∧ hasB w f = false) → Way s w f w.length
  | step (w : List Int) (f : Int) (r : Nat) : 0 ≤ f → hasB w f = false → Way s (w ++ [f]) (nextD s f.toNat) r → Way s w f r
theorem Way.on {s : StoreD} {w : List Int} {f : Int} {r : Nat} (h : Way s w f r) (h0 : 0 ≤ f) (h1 : hasB w f = false) : Way s (w ++ [f]) (nextD s f.toNat) r := by
  cases h with
  | stop _ _ hn => exact absurd ⟨h0, h1⟩ hn
  | step _ _ _ _ _ h => exact h
theorem Way.done {s : StoreD} {w : List Int} {f : Int} {r : Nat} (h : Way s w f r) (hn : ¬ (0 ≤ f ∧ hasB w f = false)) : r = w.length := by
  cases h with
  | stop _ _ _ => rfl
  | step _ _ _ h0 h1 _ => exact absurd ⟨h0, h1⟩ hn
def leftN (n : Nat) (w : List Int) : Nat := (List.range n).countP fun (x : Nat) => !hasB w (x : Int)
theorem countP_lt {p q : Nat → Bool} (h : ∀ x, q x = true → p x = true) : ∀ {l : List Nat} {a : Nat}, a ∈ l → p a = true → q a = false → l.countP q < l.countP p
  | [], a, ha, _, _ => by simp at ha
  | b :: l, a, ha, hp, hq => by
    have hle : l.countP q ≤ l.countP p := List.countP_mono_left fun x _ hx => h x hx
    simp only [List.countP_cons]
    rcases List.mem_cons.1 ha with rfl | ha
    · rw [hp, hq]
      simp
      omega
    · have := countP_lt h ha hp hq
      cases hqb : q b with
      | true => rw [h b hqb]; simp; omega
      | false => simp; split <;> omega
theorem hasB_app (w : List Int) (f x : Int) : hasB (w ++ [f]) x = (hasB w x || f == x) := by simp [hasB]
theorem leftN_lt {n d : Nat} {w : List Int} (hd : d < n) (h : hasB w d = false) : leftN n (w ++ [(d : Int)]) < leftN n w := by
  refine countP_lt (fun x hx => ?_) (List.mem_range.2 hd) (by simp [h]) (by simp [hasB_app])
  simp only [hasB_app, Bool.not_or, Bool.and_eq_true] at hx
  exact hx.1
theorem way_ex {s : StoreD} (hS : StoreP s) : ∀ (m : Nat) (w : List Int) (f : Int), leftN s.descs.length w = m → f < s.descs.length → ∃ r, Way s w f r := by
  intro m
  induction m using Nat.strongRecOn with
  | ind m ih =>
    intro w f hm hf
    by_cases h : 0 ≤ f ∧ hasB w f = false
    · obtain ⟨h0, h1⟩ := h
      obtain ⟨d, rfl⟩ : ∃ d : Nat, f = d := ⟨f.toNat, by omega⟩
      have hlt := leftN_lt (n := s.descs.length) (d := d) (by omega) h1
      obtain ⟨r, hr⟩ := ih _ (by omega) (w ++ [(d : Int)]) (nextD s (d : Int).toNat) rfl (nextD_lt hS _).2
      exact ⟨r, .step w d r h0 h1 hr⟩
    · exact ⟨_, .stop w f h⟩
noncomputable def depthOk (s : StoreD) (f : Int) : Bool := bP (StoreP s) && inB f 0 ((s.descs.length : Int) - 1)
/-- The depth of a descriptor. -/
def DepthR (s : StoreD) (f : Int) (r : Nat) : Prop := if depthOk s f = true then Way s [] f r else r = 0
theorem depth_ex (s : StoreD) (f : Int) : ∃ r, DepthR s f r := by
  unfold DepthR
  split
  · rename_i h
    simp only [depthOk, Bool.and_eq_true] at h
    have h2 := h.2
    simp [inB] at h2
    exact way_ex (bP_iff.1 h.1) _ [] f rfl (by omega)
  · exact ⟨0, rfl⟩
theorem leftN_nil (n : Nat) : leftN n [] = n := by simp [leftN, hasB]
theorem rowsN_snoc (w : List Int) (f : Int) : rowsN w ++ [[.int .i64 f]] = rowsN (w ++ [f]) := by simp [rowsN, encN]
theorem implDepth_ok (s : StoreD) (f : Int) (r : Nat) (hr : DepthR s f r) (hs : s.small) : SatP Try.prog 63 [.agg (s.cells 36 40 121), .int .i64 f] (.int .i64 r) [] := by
  have hc := implStoreOk_ok s hs
  have hway : ∀ (hS : StoreP s) (d : Nat), d < s.descs.length → _ := fun hS d hd => onTheWay_ok s hs hS d hd
  obtain ⟨f1, f2, f3⟩ := hs
  refine satP_of_body hT Try.func63 (by kernel_rfl) rfl (rs := [.tmp 4]) rfl (n := 36) rfl (by simp) rfl (by simp) fun E => ?_
  unfold St.init
  unfold StoreD.cells at *
  have hws := wrap_id (x := (s.descs.length : Int) - 1) (by omega)
  by_cases hok : depthOk s f = true
  · rw [DepthR, if_pos hok] at hr
    simp only [depthOk, Bool.and_eq_true] at hok
    obtain ⟨hp, h1⟩ := hok
    have hS := bP_iff.1 hp
    have hfr : 0 ≤ f ∧ f < s.descs.length := by simp [inB] at h1; omega
    repeat' first
      | refine VWP_seq_k fun _ hK => ?_
      | refine VWP_region_k hT ?_
      | refine VWP_draw_k hT hM (by kernel_rfl) rfl ?_
      | refine VWP_block ?_
      | refine VWP_skip ?_
      | refine VWP_exit ?_
      | refine VWP_ret ?_
      | (refine hK _ ?_; clear hK)
      | (clear hK; refine hK _ ?_; clear hK)
      | (clear hK; clear hK; refine hK _ ?_; clear hK)
      | (clear hK; clear hK; clear hK; refine hK _ ?_; clear hK)
      | (simp only [decide_eq_true_eq, decide_eq_false_iff_not, bne_iff_ne, ne_eq, Bool.not_eq_true', Bool.not_eq_false', Bool.true_eq_false, Bool.false_eq_true, reduceCtorEq, not_true_eq_false, eq_self] at hb <;> try (exfalso; omega))
      | refine VWP_cond2 _ (by simp only [go_sem, Nat.reduceLT, Nat.reduceLeDiff, Nat.reduceEqDiff, Nat.reduceAdd, Nat.reduceMul, Nat.reduceSub, reduceCtorEq, rowsD_len, rowsH_len, hws, h1, hp]; rfl) (fun hb => ?_) (fun hb => ?_)
      | refine callK (by simp only [go_sem, Nat.reduceLT, Nat.reduceLeDiff, Nat.reduceEqDiff, Nat.reduceAdd, Nat.reduceMul, Nat.reduceSub, reduceCtorEq, rowsD_len, rowsH_len, hws, h1, hp, List.mem_cons, List.not_mem_nil, or_false, forall_eq_or_imp, forall_eq, frzOk, frzOkC]; try simp) (args' := _) (by simp only [go_sem, Nat.reduceLT, Nat.reduceLeDiff, Nat.reduceEqDiff, Nat.reduceAdd, Nat.reduceMul, Nat.reduceSub, reduceCtorEq, rowsD_len, rowsH_len, hws, h1, hp, frzA, frzC]; try rfl) (by first | exact hc | exact in_ok _ _ _) (by simp only [go_sem, Nat.reduceLT, Nat.reduceLeDiff, Nat.reduceEqDiff, Nat.reduceAdd, Nat.reduceMul, Nat.reduceSub, reduceCtorEq, rowsD_len, rowsH_len, hws, h1, hp]; try simp) (by decide) ?_
      | simp only [go_sem, Nat.reduceLT, Nat.reduceLeDiff, Nat.reduceEqDiff, Nat.reduceAdd, Nat.reduceMul, Nat.reduceSub, reduceCtorEq, rowsD_len, rowsH_len, hws, h1, hp]
      | simp (disch := omega) only [decide_eq_true_eq, if_pos, if_neg, wrap_id, le_maxLen, and_true, true_and, if_true, ite_true]
      | refine guard_split (by simp only [go_sem, Nat.reduceLT, Nat.reduceLeDiff, Nat.reduceEqDiff, Nat.reduceAdd, Nat.reduceMul, Nat.reduceSub, reduceCtorEq, rowsD_len, rowsH_len, hws, h1, hp]) rfl (fun hb => ?_) (fun hb => ?_)
    refine VWP_loopB (X := List Int × Int × Nat) (fun x => [(1, .int .i64 x.2.1), (2, .bp 0 0), (5, .rf x.2.2 x.1.length)]) (fun x => [(0, .box [.fr 36 (rowsH s.heads), .fr 40 (rowsD 121 s.descs)]), (x.2.2, .root 3 (rowsN x.1))]) (fun x => leftN s.descs.length x.1)
      (fun x => 1 ≤ x.2.2 ∧ Way s x.1 x.2.1 r ∧ x.2.1 < s.descs.length ∧ x.1.length + leftN s.descs.length x.1 ≤ s.descs.length) (fun x => x.2.2 + 1) ([], f, 1) ⟨by simp, hr, hfr.2, by simp [leftN_nil]⟩ (by simp [updV]) (by simp [updH, rowsN]) (by simp) ?_
    rintro ⟨w, g, T⟩ nx ⟨hT1, hW, hg, hlen⟩ hB
    simp only at hT1 hW hg hlen hB
    have hne0 : (0 : Nat) ≠ T := by omega
    have hne1 : T ≠ 0 := by omega
    have ht1 := rowsN_take w
    have ht2 := rowsN_snoc w g
    rcases Int.lt_or_le g 0 with hneg | hpos
    · have hn : ¬ 0 ≤ g := by omega
      repeat' first
        | refine VWP_seq_k fun _ hK => ?_
        | refine VWP_region_k hT ?_
        | refine VWP_draw_k hT hM (by kernel_rfl) rfl ?_
        | refine VWP_block ?_
        | refine VWP_skip ?_
        | refine VWP_exit ?_
        | refine VWP_ret ?_
        | (refine hK _ ?_; clear hK)
        | (clear hK; refine hK _ ?_; clear hK)
        | (clear hK; clear hK; refine hK _ ?_; clear hK)
        | (clear hK; clear hK; clear hK; refine hK _ ?_; clear hK)
        | (simp only [decide_eq_true_eq, decide_eq_false_iff_not, bne_iff_ne, ne_eq, Bool.not_eq_true', Bool.not_eq_false', Bool.true_eq_false, Bool.false_eq_true, reduceCtorEq, not_true_eq_false, eq_self] at hb <;> try (exfalso; omega))
        | refine VWP_cond2 _ (by simp only [go_sem, Nat.reduceLT, Nat.reduceLeDiff, Nat.reduceEqDiff, Nat.reduceAdd, Nat.reduceMul, Nat.reduceSub, reduceCtorEq, rowsN_len, rowsN_pur, ht1, hn, hne0, hne1, Nat.le_refl]; rfl) (fun hb => ?_) (fun hb => ?_)
        | refine callK (by simp only [go_sem, Nat.reduceLT, Nat.reduceLeDiff, Nat.reduceEqDiff, Nat.reduceAdd, Nat.reduceMul, Nat.reduceSub, reduceCtorEq, rowsN_len, rowsN_pur, ht1, hn, hne0, hne1, Nat.le_refl, List.mem_cons, List.not_mem_nil, or_false, forall_eq_or_imp, forall_eq, frzOk, frzOkC]; try simp) (args' := _) (by simp only [go_sem, Nat.reduceLT, Nat.reduceLeDiff, Nat.reduceEqDiff, Nat.reduceAdd, Nat.reduceMul, Nat.reduceSub, reduceCtorEq, rowsN_len, rowsN_pur, ht1, hn, hne0, hne1, Nat.le_refl, frzA, frzC]; try rfl) (by first | exact containsInt_ok w g (by omega)) (by simp only [go_sem, Nat.reduceLT, Nat.reduceLeDiff, Nat.reduceEqDiff, Nat.reduceAdd, Nat.reduceMul, Nat.reduceSub, reduceCtorEq, rowsN_len, rowsN_pur, ht1, hn, hne0, hne1, Nat.le_refl]; try simp) (by decide) ?_
        | simp only [go_sem, Nat.reduceLT, Nat.reduceLeDiff, Nat.reduceEqDiff, Nat.reduceAdd, Nat.reduceMul, Nat.reduceSub, reduceCtorEq, rowsN_len, rowsN_pur, ht1, hn, hne0, hne1, Nat.le_refl]
        | simp (disch := omega) only [decide_eq_true_eq, if_pos, if_neg, wrap_id, le_maxLen, and_true, true_and, if_true, ite_true]
        | refine guard_split (by simp only [go_sem, Nat.reduceLT, Nat.reduceLeDiff, Nat.reduceEqDiff, Nat.reduceAdd, Nat.reduceMul, Nat.reduceSub, reduceCtorEq, rowsN_len, rowsN_pur, ht1, hn, hne0, hne1, Nat.le_refl]) rfl (fun hb => ?_) (fun hb => ?_)
      refine ret_scal (by simp only [go_sem, Nat.reduceLT, Nat.reduceLeDiff, Nat.reduceEqDiff, Nat.reduceAdd, Nat.reduceMul, Nat.reduceSub, reduceCtorEq]; rfl) rfl ?_
      rw [hW.done (fun h => hn h.1)]
    · obtain ⟨d, rfl⟩ : ∃ d : Nat, g = d := ⟨g.toNat, by omega⟩
      have hd : d < s.descs.length := by omega
      have hd0 : (0 : Int) ≤ (d : Nat) := by omega
      cases hh : hasB w d with
      | true =>
        repeat' first
          | refine VWP_seq_k fun _ hK => ?_
          | refine VWP_region_k hT ?_
          | refine VWP_draw_k hT hM (by kernel_rfl) rfl ?_
          | refine VWP_block ?_
          | refine VWP_skip ?_
          | refine VWP_exit ?_
          | refine VWP_ret ?_
          | (refine hK _ ?_; clear hK)
          | (clear hK; refine hK _ ?_; clear hK)
          | (clear hK; clear hK; refine hK _ ?_; clear hK)
          | (clear hK; clear hK; clear hK; refine hK _ ?_; clear hK)
          | (simp only [decide_eq_true_eq, decide_eq_false_iff_not, bne_iff_ne, ne_eq, Bool.not_eq_true', Bool.not_eq_false', Bool.true_eq_false, Bool.false_eq_true, reduceCtorEq, not_true_eq_false, eq_self] at hb <;> try (exfalso; omega))
          | refine VWP_cond2 _ (by simp only [go_sem, Nat.reduceLT, Nat.reduceLeDiff, Nat.reduceEqDiff, Nat.reduceAdd, Nat.reduceMul, Nat.reduceSub, reduceCtorEq, rowsN_len, rowsN_pur, ht1, hd0, hh, hne0, hne1, Nat.le_refl]; rfl) (fun hb => ?_) (fun hb => ?_)
          | refine callK (by simp only [go_sem, Nat.reduceLT, Nat.reduceLeDiff, Nat.reduceEqDiff, Nat.reduceAdd, Nat.reduceMul, Nat.reduceSub, reduceCtorEq, rowsN_len, rowsN_pur, ht1, hd0, hh, hne0, hne1, Nat.le_refl, List.mem_cons, List.not_mem_nil, or_false, forall_eq_or_imp, forall_eq, frzOk, frzOkC]; try simp) (args' := _) (by simp only [go_sem, Nat.reduceLT, Nat.reduceLeDiff, Nat.reduceEqDiff, Nat.reduceAdd, Nat.reduceMul, Nat.reduceSub, reduceCtorEq, rowsN_len, rowsN_pur, ht1, hd0, hh, hne0, hne1, Nat.le_refl, frzA, frzC]; try rfl) (by first | exact containsInt_ok w d (by omega)) (by simp only [go_sem, Nat.reduceLT, Nat.reduceLeDiff, Nat.reduceEqDiff, Nat.reduceAdd, Nat.reduceMul, Nat.reduceSub, reduceCtorEq, rowsN_len, rowsN_pur, ht1, hd0, hh, hne0, hne1, Nat.le_refl]; try simp) (by decide) ?_
          | simp only [go_sem, Nat.reduceLT, Nat.reduceLeDiff, Nat.reduceEqDiff, Nat.reduceAdd, Nat.reduceMul, Nat.reduceSub, reduceCtorEq, rowsN_len, rowsN_pur, ht1, hd0, hh, hne0, hne1, Nat.le_refl]
          | simp (disch := omega) only [decide_eq_true_eq, if_pos, if_neg, wrap_id, le_maxLen, and_true, true_and, if_true, ite_true]
          | refine guard_split (by simp only [go_sem, Nat.reduceLT, Nat.reduceLeDiff, Nat.reduceEqDiff, Nat.reduceAdd, Nat.reduceMul, Nat.reduceSub, reduceCtorEq, rowsN_len, rowsN_pur, ht1, hd0, hh, hne0, hne1, Nat.le_refl]) rfl (fun hb => ?_) (fun hb => ?_)
        refine ret_scal (by simp only [go_sem, Nat.reduceLT, Nat.reduceLeDiff, Nat.reduceEqDiff, Nat.reduceAdd, Nat.reduceMul, Nat.reduceSub, reduceCtorEq]; rfl) rfl ?_
        rw [hW.done (fun h => by rw [hh] at h; cases h.2)]
      | false =>
        have hlt := leftN_lt hd hh
        repeat' first
          | refine VWP_seq_k fun _ hK => ?_
          | refine VWP_region_k hT ?_
          | refine VWP_draw_k hT hM (by kernel_rfl) rfl ?_
          | refine VWP_block ?_
          | refine VWP_skip ?_
          | refine VWP_exit ?_
          | refine VWP_ret ?_
          | (refine hK _ ?_; clear hK)
          | (clear hK; refine hK _ ?_; clear hK)
          | (clear hK; clear hK; refine hK _ ?_; clear hK)
          | (clear hK; clear hK; clear hK; refine hK _ ?_; clear hK)
          | (simp only [decide_eq_true_eq, decide_eq_false_iff_not, bne_iff_ne, ne_eq, Bool.not_eq_true', Bool.not_eq_false', Bool.true_eq_false, Bool.false_eq_true, reduceCtorEq, not_true_eq_false, eq_self] at hb <;> try (exfalso; omega))
          | refine VWP_cond2 _ (by simp only [go_sem, Nat.reduceLT, Nat.reduceLeDiff, Nat.reduceEqDiff, Nat.reduceAdd, Nat.reduceMul, Nat.reduceSub, reduceCtorEq, rowsN_len, rowsN_pur, ht1, ht2, hd0, hh, hne0, hne1, Nat.le_refl]; rfl) (fun hb => ?_) (fun hb => ?_)
          | refine callK (by simp only [go_sem, Nat.reduceLT, Nat.reduceLeDiff, Nat.reduceEqDiff, Nat.reduceAdd, Nat.reduceMul, Nat.reduceSub, reduceCtorEq, rowsN_len, rowsN_pur, ht1, ht2, hd0, hh, hne0, hne1, Nat.le_refl, List.mem_cons, List.not_mem_nil, or_false, forall_eq_or_imp, forall_eq, frzOk, frzOkC]; try simp) (args' := _) (by simp only [go_sem, Nat.reduceLT, Nat.reduceLeDiff, Nat.reduceEqDiff, Nat.reduceAdd, Nat.reduceMul, Nat.reduceSub, reduceCtorEq, rowsN_len, rowsN_pur, ht1, ht2, hd0, hh, hne0, hne1, Nat.le_refl, frzA, frzC]; try rfl) (by first | exact containsInt_ok w d (by omega) | exact hway hS d hd) (by simp only [go_sem, Nat.reduceLT, Nat.reduceLeDiff, Nat.reduceEqDiff, Nat.reduceAdd, Nat.reduceMul, Nat.reduceSub, reduceCtorEq, rowsN_len, rowsN_pur, ht1, ht2, hd0, hh, hne0, hne1, Nat.le_refl]; try simp) (by decide) ?_
          | simp only [go_sem, Nat.reduceLT, Nat.reduceLeDiff, Nat.reduceEqDiff, Nat.reduceAdd, Nat.reduceMul, Nat.reduceSub, reduceCtorEq, rowsN_len, rowsN_pur, ht1, ht2, hd0, hh, hne0, hne1, Nat.le_refl]
          | simp (disch := omega) only [decide_eq_true_eq, if_pos, if_neg, wrap_id, le_maxLen, and_true, true_and, if_true, ite_true]
          | refine guard_split (by simp only [go_sem, Nat.reduceLT, Nat.reduceLeDiff, Nat.reduceEqDiff, Nat.reduceAdd, Nat.reduceMul, Nat.reduceSub, reduceCtorEq, rowsN_len, rowsN_pur, ht1, ht2, hd0, hh, hne0, hne1, Nat.le_refl]) rfl (fun hb => ?_) (fun hb => ?_)
        have hW2 := hW.on hd0 hh
        rw [Int.toNat_natCast] at hW2
        refine nextB (w ++ [(d : Int)], nextD s d, nx + 1) ⟨by simp only; omega, hW2, (nextD_lt hS d).2, by simp only [List.length_append, List.length_singleton]; omega⟩ hlt (by simp [updV, tmL]) ?_ (by simp)
        have e1 : (0 : Nat) ≠ nx := by omega
        have e2 : nx + 1 ≠ T := by omega
        simp [updH, hpL, e1, hne0]
  · rw [DepthR, if_neg hok] at hr
    subst hr
    have c0 : (bP (StoreP s) && inB f 0 ((s.descs.length : Int) - 1)) = false := by
      unfold depthOk at hok
      simpa using hok
    repeat' first
      | refine VWP_seq_k fun _ hK => ?_
      | refine VWP_region_k hT ?_
      | refine VWP_draw_k hT hM (by kernel_rfl) rfl ?_
      | refine VWP_block ?_
      | refine VWP_skip ?_
      | refine VWP_exit ?_
      | refine VWP_ret ?_
      | (refine hK _ ?_; clear hK)
      | (clear hK; refine hK _ ?_; clear hK)
      | (clear hK; clear hK; refine hK _ ?_; clear hK)
      | (clear hK; clear hK; clear hK; refine hK _ ?_; clear hK)
      | (simp only [decide_eq_true_eq, decide_eq_false_iff_not, bne_iff_ne, ne_eq, Bool.not_eq_true', Bool.not_eq_false', Bool.true_eq_false, Bool.false_eq_true, reduceCtorEq, not_true_eq_false, eq_self] at hb <;> try (exfalso; omega))
      | refine VWP_cond2 _ (by simp only [go_sem, Nat.reduceLT, Nat.reduceLeDiff, Nat.reduceEqDiff, Nat.reduceAdd, Nat.reduceMul, Nat.reduceSub, reduceCtorEq, rowsD_len, rowsH_len, hws]; rfl) (fun hb => ?_) (fun hb => ?_)
      | refine callK (by simp only [go_sem, Nat.reduceLT, Nat.reduceLeDiff, Nat.reduceEqDiff, Nat.reduceAdd, Nat.reduceMul, Nat.reduceSub, reduceCtorEq, rowsD_len, rowsH_len, hws, List.mem_cons, List.not_mem_nil, or_false, forall_eq_or_imp, forall_eq, frzOk, frzOkC]; try simp) (args' := _) (by simp only [go_sem, Nat.reduceLT, Nat.reduceLeDiff, Nat.reduceEqDiff, Nat.reduceAdd, Nat.reduceMul, Nat.reduceSub, reduceCtorEq, rowsD_len, rowsH_len, hws, frzA, frzC]; try rfl) (by first | exact hc | exact in_ok _ _ _) (by simp only [go_sem, Nat.reduceLT, Nat.reduceLeDiff, Nat.reduceEqDiff, Nat.reduceAdd, Nat.reduceMul, Nat.reduceSub, reduceCtorEq, rowsD_len, rowsH_len, hws]; try simp) (by decide) ?_
      | simp only [go_sem, Nat.reduceLT, Nat.reduceLeDiff, Nat.reduceEqDiff, Nat.reduceAdd, Nat.reduceMul, Nat.reduceSub, reduceCtorEq, rowsD_len, rowsH_len, hws]
      | simp (disch := omega) only [decide_eq_true_eq, if_pos, if_neg, wrap_id, le_maxLen, and_true, true_and, if_true, ite_true]
      | refine guard_split (by simp only [go_sem, Nat.reduceLT, Nat.reduceLeDiff, Nat.reduceEqDiff, Nat.reduceAdd, Nat.reduceMul, Nat.reduceSub, reduceCtorEq, rowsD_len, rowsH_len, hws]) rfl (fun hb => ?_) (fun hb => ?_)
    all_goals first
      | (refine ret_scal (by simp only [go_sem, Nat.reduceLT, Nat.reduceLeDiff, Nat.reduceEqDiff, Nat.reduceAdd, Nat.reduceMul, Nat.reduceSub, reduceCtorEq]; rfl) rfl ?_
         rfl
         done)
      | (exfalso; simp_all; done)
end Go.Proofs.Ytfkefjcopbcmlaa
