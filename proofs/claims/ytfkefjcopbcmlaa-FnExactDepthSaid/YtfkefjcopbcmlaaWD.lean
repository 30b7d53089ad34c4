/- What the reference's Depth gives. -/
import Derived.Test.YtfkefjcopbcmlaaWC
namespace Go.Proofs.Ytfkefjcopbcmlaa
open Go Go.RowKit
set_option linter.unusedVariables false
set_option linter.unusedSimpArgs false
set_option maxRecDepth 100000
set_option maxHeartbeats 4000000
attribute [local irreducible] VWP vops vdraw contV contD CallK Guard GuardV NextL Puts Runs RetOK RetQ RetO RetQO thenQ blockQ
attribute [local irreducible] NextB

theorem specDepth_ok (s : StoreD) (f : Int) (r : Nat) (hr : DepthR s f r) (hs : s.small) : SatP Try.prog 62 [.agg (s.cells 36 40 121), .int .i64 f] (.int .i64 r) [] := by
  have hc := specStoreOk_ok s hs
  obtain ⟨f1, f2, f3⟩ := hs
  refine satP_of_body hT Try.func62 (by kernel_rfl) rfl (rs := [.tmp 4]) rfl (n := 79) rfl (by simp) rfl (by simp) fun E => ?_
  unfold St.init
  unfold StoreD.cells at *
  have hws := wrap_id (x := (s.descs.length : Int) - 1) (by omega)
  by_cases hok : depthOk s f = true
  · rw [DepthR, if_pos hok] at hr
    simp only [depthOk, Bool.and_eq_true] at hok
    obtain ⟨hp, h1⟩ := hok
    have hS := bP_iff.1 hp
    have hfr : 0 ≤ f ∧ f < s.descs.length := by simp [inB] at h1; omega
    repeat' first
      | refine VWP_seq_k fun _ hK => ?_
      | refine VWP_region_k hT ?_
      | refine VWP_draw_k hT hM (by kernel_rfl) rfl ?_
      | refine VWP_block ?_
      | refine VWP_skip ?_
      | refine VWP_exit ?_
      | refine VWP_ret ?_
      | (refine hK _ ?_; clear hK)
      | (clear hK; refine hK _ ?_; clear hK)
      | (clear hK; clear hK; refine hK _ ?_; clear hK)
      | (clear hK; clear hK; clear hK; refine hK _ ?_; clear hK)
      | (simp only [decide_eq_true_eq, decide_eq_false_iff_not, bne_iff_ne, ne_eq, Bool.not_eq_true', Bool.not_eq_false', Bool.true_eq_false, Bool.false_eq_true, reduceCtorEq, not_true_eq_false, eq_self] at hb <;> try (exfalso; omega))
      | refine VWP_cond2 _ (by simp only [go_sem, Nat.reduceLT, Nat.reduceLeDiff, Nat.reduceEqDiff, Nat.reduceAdd, Nat.reduceMul, Nat.reduceSub, reduceCtorEq, rowsD_len, rowsH_len, hws, h1, hp]; rfl) (fun hb => ?_) (fun hb => ?_)
      | refine callK (by simp only [go_sem, Nat.reduceLT, Nat.reduceLeDiff, Nat.reduceEqDiff, Nat.reduceAdd, Nat.reduceMul, Nat.reduceSub, reduceCtorEq, rowsD_len, rowsH_len, hws, h1, hp, List.mem_cons, List.not_mem_nil, or_false, forall_eq_or_imp, forall_eq, frzOk, frzOkC]; try simp) (args' := _) (by simp only [go_sem, Nat.reduceLT, Nat.reduceLeDiff, Nat.reduceEqDiff, Nat.reduceAdd, Nat.reduceMul, Nat.reduceSub, reduceCtorEq, rowsD_len, rowsH_len, hws, h1, hp, frzA, frzC]; try rfl) (by first | exact hc | exact l1In_ok _ _ _) (by simp only [go_sem, Nat.reduceLT, Nat.reduceLeDiff, Nat.reduceEqDiff, Nat.reduceAdd, Nat.reduceMul, Nat.reduceSub, reduceCtorEq, rowsD_len, rowsH_len, hws, h1, hp]; try simp) (by decide) ?_
      | simp only [go_sem, Nat.reduceLT, Nat.reduceLeDiff, Nat.reduceEqDiff, Nat.reduceAdd, Nat.reduceMul, Nat.reduceSub, reduceCtorEq, rowsD_len, rowsH_len, hws, h1, hp]
      | simp (disch := omega) only [decide_eq_true_eq, if_pos, if_neg, wrap_id, le_maxLen, and_true, true_and, if_true, ite_true]
      | refine guard_split (by simp only [go_sem, Nat.reduceLT, Nat.reduceLeDiff, Nat.reduceEqDiff, Nat.reduceAdd, Nat.reduceMul, Nat.reduceSub, reduceCtorEq, rowsD_len, rowsH_len, hws, h1, hp]) rfl (fun hb => ?_) (fun hb => ?_)
    refine VWP_loopB (X := List Int × Int × Nat) (fun x => [(2, .bp 0 0), (5, .rf x.2.2 x.1.length), (6, .int .i64 x.2.1)]) (fun x => [(0, .box [.fr 36 (rowsH s.heads), .fr 40 (rowsD 121 s.descs)]), (x.2.2, .root 3 (rowsN x.1))]) (fun x => leftN s.descs.length x.1)
      (fun x => 1 ≤ x.2.2 ∧ Way s x.1 x.2.1 r ∧ x.2.1 < s.descs.length ∧ x.1.length + leftN s.descs.length x.1 ≤ s.descs.length) (fun x => x.2.2 + 1) ([], f, 1) ⟨by simp, hr, hfr.2, by simp [leftN_nil]⟩ (by simp [updV]) (by simp [updH, rowsN]) (by simp) ?_
    rintro ⟨w, g, T⟩ nx ⟨hT1, hW, hg, hlen⟩ hB
    simp only at hT1 hW hg hlen hB
    have hne0 : (0 : Nat) ≠ T := by omega
    have hne1 : T ≠ 0 := by omega
    have ht1 := rowsN_take w
    have ht2 := rowsN_snoc w g
    rcases Int.lt_or_le g 0 with hneg | hpos
    · have hn : ¬ 0 ≤ g := by omega
      repeat' first
        | refine VWP_seq_k fun _ hK => ?_
        | refine VWP_region_k hT ?_
        | refine VWP_draw_k hT hM (by kernel_rfl) rfl ?_
        | refine VWP_block ?_
        | refine VWP_skip ?_
        | refine VWP_exit ?_
        | refine VWP_ret ?_
        | (refine hK _ ?_; clear hK)
        | (clear hK; refine hK _ ?_; clear hK)
        | (clear hK; clear hK; refine hK _ ?_; clear hK)
        | (clear hK; clear hK; clear hK; refine hK _ ?_; clear hK)
        | (simp only [decide_eq_true_eq, decide_eq_false_iff_not, bne_iff_ne, ne_eq, Bool.not_eq_true', Bool.not_eq_false', Bool.true_eq_false, Bool.false_eq_true, reduceCtorEq, not_true_eq_false, eq_self] at hb <;> try (exfalso; omega))
        | refine VWP_cond2 _ (by simp only [go_sem, Nat.reduceLT, Nat.reduceLeDiff, Nat.reduceEqDiff, Nat.reduceAdd, Nat.reduceMul, Nat.reduceSub, reduceCtorEq, rowsN_len, rowsN_pur, ht1, hn, hne0, hne1, Nat.le_refl]; rfl) (fun hb => ?_) (fun hb => ?_)
        | refine callK (by simp only [go_sem, Nat.reduceLT, Nat.reduceLeDiff, Nat.reduceEqDiff, Nat.reduceAdd, Nat.reduceMul, Nat.reduceSub, reduceCtorEq, rowsN_len, rowsN_pur, ht1, hn, hne0, hne1, Nat.le_refl, List.mem_cons, List.not_mem_nil, or_false, forall_eq_or_imp, forall_eq, frzOk, frzOkC]; try simp) (args' := _) (by simp only [go_sem, Nat.reduceLT, Nat.reduceLeDiff, Nat.reduceEqDiff, Nat.reduceAdd, Nat.reduceMul, Nat.reduceSub, reduceCtorEq, rowsN_len, rowsN_pur, ht1, hn, hne0, hne1, Nat.le_refl, frzA, frzC]; try rfl) (by first | exact l1Has_ok w g (by omega)) (by simp only [go_sem, Nat.reduceLT, Nat.reduceLeDiff, Nat.reduceEqDiff, Nat.reduceAdd, Nat.reduceMul, Nat.reduceSub, reduceCtorEq, rowsN_len, rowsN_pur, ht1, hn, hne0, hne1, Nat.le_refl]; try simp) (by decide) ?_
        | simp only [go_sem, Nat.reduceLT, Nat.reduceLeDiff, Nat.reduceEqDiff, Nat.reduceAdd, Nat.reduceMul, Nat.reduceSub, reduceCtorEq, rowsN_len, rowsN_pur, ht1, hn, hne0, hne1, Nat.le_refl]
        | simp (disch := omega) only [decide_eq_true_eq, if_pos, if_neg, wrap_id, le_maxLen, and_true, true_and, if_true, ite_true]
        | refine guard_split (by simp only [go_sem, Nat.reduceLT, Nat.reduceLeDiff, Nat.reduceEqDiff, Nat.reduceAdd, Nat.reduceMul, Nat.reduceSub, reduceCtorEq, rowsN_len, rowsN_pur, ht1, hn, hne0, hne1, Nat.le_refl]) rfl (fun hb => ?_) (fun hb => ?_)
      refine ret_scal (by simp only [go_sem, Nat.reduceLT, Nat.reduceLeDiff, Nat.reduceEqDiff, Nat.reduceAdd, Nat.reduceMul, Nat.reduceSub, reduceCtorEq]; rfl) rfl ?_
      rw [hW.done (fun h => hn h.1)]
    · obtain ⟨d, rfl⟩ : ∃ d : Nat, g = d := ⟨g.toNat, by omega⟩
      have hd : d < s.descs.length := by omega
      have hd0 : (0 : Int) ≤ (d : Nat) := by omega
      cases hh : hasB w d with
      | true =>
        repeat' first
          | refine VWP_seq_k fun _ hK => ?_
          | refine VWP_region_k hT ?_
          | refine VWP_draw_k hT hM (by kernel_rfl) rfl ?_
          | refine VWP_block ?_
          | refine VWP_skip ?_
          | refine VWP_exit ?_
          | refine VWP_ret ?_
          | (refine hK _ ?_; clear hK)
          | (clear hK; refine hK _ ?_; clear hK)
          | (clear hK; clear hK; refine hK _ ?_; clear hK)
          | (clear hK; clear hK; clear hK; refine hK _ ?_; clear hK)
          | (simp only [decide_eq_true_eq, decide_eq_false_iff_not, bne_iff_ne, ne_eq, Bool.not_eq_true', Bool.not_eq_false', Bool.true_eq_false, Bool.false_eq_true, reduceCtorEq, not_true_eq_false, eq_self] at hb <;> try (exfalso; omega))
          | refine VWP_cond2 _ (by simp only [go_sem, Nat.reduceLT, Nat.reduceLeDiff, Nat.reduceEqDiff, Nat.reduceAdd, Nat.reduceMul, Nat.reduceSub, reduceCtorEq, rowsN_len, rowsN_pur, ht1, hd0, hh, hne0, hne1, Nat.le_refl]; rfl) (fun hb => ?_) (fun hb => ?_)
          | refine callK (by simp only [go_sem, Nat.reduceLT, Nat.reduceLeDiff, Nat.reduceEqDiff, Nat.reduceAdd, Nat.reduceMul, Nat.reduceSub, reduceCtorEq, rowsN_len, rowsN_pur, ht1, hd0, hh, hne0, hne1, Nat.le_refl, List.mem_cons, List.not_mem_nil, or_false, forall_eq_or_imp, forall_eq, frzOk, frzOkC]; try simp) (args' := _) (by simp only [go_sem, Nat.reduceLT, Nat.reduceLeDiff, Nat.reduceEqDiff, Nat.reduceAdd, Nat.reduceMul, Nat.reduceSub, reduceCtorEq, rowsN_len, rowsN_pur, ht1, hd0, hh, hne0, hne1, Nat.le_refl, frzA, frzC]; try rfl) (by first | exact l1Has_ok w d (by omega)) (by simp only [go_sem, Nat.reduceLT, Nat.reduceLeDiff, Nat.reduceEqDiff, Nat.reduceAdd, Nat.reduceMul, Nat.reduceSub, reduceCtorEq, rowsN_len, rowsN_pur, ht1, hd0, hh, hne0, hne1, Nat.le_refl]; try simp) (by decide) ?_
          | simp only [go_sem, Nat.reduceLT, Nat.reduceLeDiff, Nat.reduceEqDiff, Nat.reduceAdd, Nat.reduceMul, Nat.reduceSub, reduceCtorEq, rowsN_len, rowsN_pur, ht1, hd0, hh, hne0, hne1, Nat.le_refl]
          | simp (disch := omega) only [decide_eq_true_eq, if_pos, if_neg, wrap_id, le_maxLen, and_true, true_and, if_true, ite_true]
          | refine guard_split (by simp only [go_sem, Nat.reduceLT, Nat.reduceLeDiff, Nat.reduceEqDiff, Nat.reduceAdd, Nat.reduceMul, Nat.reduceSub, reduceCtorEq, rowsN_len, rowsN_pur, ht1, hd0, hh, hne0, hne1, Nat.le_refl]) rfl (fun hb => ?_) (fun hb => ?_)
        refine ret_scal (by simp only [go_sem, Nat.reduceLT, Nat.reduceLeDiff, Nat.reduceEqDiff, Nat.reduceAdd, Nat.reduceMul, Nat.reduceSub, reduceCtorEq]; rfl) rfl ?_
        rw [hW.done (fun h => by rw [hh] at h; cases h.2)]
      | false =>
        have hlt := leftN_lt hd hh
        obtain ⟨x, hx⟩ : ∃ x, s.descs[d]? = some x := ⟨_, List.getElem?_eq_getElem hd⟩
        have hrx := rowsD_at (te := 121) hx
        have hxm := List.mem_of_getElem? hx
        have hxe := f3 x hxm
        repeat' first
          | refine VWP_seq_k fun _ hK => ?_
          | refine VWP_region_k hT ?_
          | refine VWP_draw_k hT hM (by kernel_rfl) rfl ?_
          | refine VWP_block ?_
          | refine VWP_skip ?_
          | refine VWP_exit ?_
          | refine VWP_ret ?_
          | (refine hK _ ?_; clear hK)
          | (clear hK; refine hK _ ?_; clear hK)
          | (clear hK; clear hK; refine hK _ ?_; clear hK)
          | (clear hK; clear hK; clear hK; refine hK _ ?_; clear hK)
          | (simp only [decide_eq_true_eq, decide_eq_false_iff_not, bne_iff_ne, ne_eq, Bool.not_eq_true', Bool.not_eq_false', Bool.true_eq_false, Bool.false_eq_true, reduceCtorEq, not_true_eq_false, eq_self] at hb <;> try (exfalso; omega))
          | refine VWP_cond2 _ (by simp only [go_sem, Nat.reduceLT, Nat.reduceLeDiff, Nat.reduceEqDiff, Nat.reduceAdd, Nat.reduceMul, Nat.reduceSub, reduceCtorEq, rowsN_len, rowsN_pur, ht1, ht2, hd0, hh, hne0, hne1, Nat.le_refl]; rfl) (fun hb => ?_) (fun hb => ?_)
          | refine callK (by simp only [go_sem, Nat.reduceLT, Nat.reduceLeDiff, Nat.reduceEqDiff, Nat.reduceAdd, Nat.reduceMul, Nat.reduceSub, reduceCtorEq, rowsN_len, rowsN_pur, ht1, ht2, hd0, hh, hne0, hne1, Nat.le_refl, List.mem_cons, List.not_mem_nil, or_false, forall_eq_or_imp, forall_eq, frzOk, frzOkC]; try simp) (args' := _) (by simp only [go_sem, Nat.reduceLT, Nat.reduceLeDiff, Nat.reduceEqDiff, Nat.reduceAdd, Nat.reduceMul, Nat.reduceSub, reduceCtorEq, rowsN_len, rowsN_pur, ht1, ht2, hd0, hh, hne0, hne1, Nat.le_refl, frzA, frzC]; try rfl) (by first | exact l1Has_ok w d (by omega)) (by simp only [go_sem, Nat.reduceLT, Nat.reduceLeDiff, Nat.reduceEqDiff, Nat.reduceAdd, Nat.reduceMul, Nat.reduceSub, reduceCtorEq, rowsN_len, rowsN_pur, ht1, ht2, hd0, hh, hne0, hne1, Nat.le_refl]; try simp) (by decide) ?_
          | simp only [go_sem, Nat.reduceLT, Nat.reduceLeDiff, Nat.reduceEqDiff, Nat.reduceAdd, Nat.reduceMul, Nat.reduceSub, reduceCtorEq, rowsN_len, rowsN_pur, ht1, ht2, hd0, hh, hne0, hne1, Nat.le_refl]
          | simp (disch := omega) only [decide_eq_true_eq, if_pos, if_neg, wrap_id, le_maxLen, and_true, true_and, if_true, ite_true]
          | refine guard_split (by simp only [go_sem, Nat.reduceLT, Nat.reduceLeDiff, Nat.reduceEqDiff, Nat.reduceAdd, Nat.reduceMul, Nat.reduceSub, reduceCtorEq, rowsN_len, rowsN_pur, ht1, ht2, hd0, hh, hne0, hne1, Nat.le_refl]) rfl (fun hb => ?_) (fun hb => ?_)
        have e1 : (0 : Nat) ≠ nx := by omega
        have e2 : nx + 1 ≠ T := by omega
        have e3 : nx + 1 ≠ 0 := by omega
        refine VWP_loopL (X := Nat × Int) (fun y => [(2, .bp 0 0), (5, .rf (nx + 1) (w.length + 1)), (6, .int .i64 d), (7, .int .i64 y.2), (8, .int .i64 y.1)]) (fun _ => [(0, .box [.fr 36 (rowsH s.heads), .fr 40 (rowsD 121 s.descs)]), (nx + 1, .root 3 (rowsN (w ++ [(d : Int)])))]) (fun y => x.entries.length - y.1)
          (fun y => y.1 ≤ x.entries.length ∧ ((y.2 = -1 ∧ ∀ (j : Nat) (e : EntS), j < y.1 → x.entries[j]? = some e → metE s d e = none) ∨ (0 ≤ y.2 ∧ y.2 = nextD s d))) (nx + 2) (0, -1) ⟨by simp, .inl ⟨rfl, by simp⟩⟩ (by simp [updV, tmL]) (by simp [updH, hpL, e1, hne0]) (by simp) ?_
        rintro ⟨i, nn⟩ nx2 ⟨hi, hcase⟩ hB2
        simp only at hi hcase hB2
        have hW2 := hW.on hd0 hh
        rw [Int.toNat_natCast] at hW2
        have hexit : (x.entries.length ≤ i ∨ 0 ≤ nn) → nn = nextD s d := fun hor => by
          rcases hcase with ⟨k1, k2⟩ | ⟨_, k2⟩
          · have hge : x.entries.length ≤ i := by omega
            have : x.entries.findSome? (metE s d) = none := findSome_none fun j e he => k2 j e (by have := (List.getElem?_eq_some_iff.1 he).1; omega) he
            rw [k1]
            simp [nextD, hx, this]
          · exact k2
        rcases Nat.lt_or_ge i x.entries.length with hlt2 | hge
        · rcases Int.lt_or_le nn 0 with hnn | hnn
          · obtain ⟨e, he⟩ : ∃ e, x.entries[i]? = some e := ⟨_, List.getElem?_eq_getElem hlt2⟩
            obtain ⟨o, h, h1, h2, h3, h4⟩ := head_of hS hxm he
            obtain ⟨hn1, hdone⟩ := hcase.resolve_right (fun k => by omega)
            have hre := rowsE_at he
            have hrh := rowsH_at h2
            have hol := (List.getElem?_eq_some_iff.1 h2).1
            have hw := wrap_id (x := (i : Int) + 1) (by omega)
            have hm : metE s d e = if 0 ≤ h.desc ∧ h.desc ≠ d then some h.desc else none := by simp [metE, h1, h2]
            have hyes : 0 ≤ h.desc → h.desc ≠ d → nextD s d = h.desc := fun k1 k2 => by
              rw [if_pos ⟨k1, k2⟩] at hm
              simp [nextD, hx, findSome_at he hm hdone]
            have hno : ¬ (0 ≤ h.desc ∧ h.desc ≠ d) → ∀ (j : Nat) (g : EntS), j < i + 1 → x.entries[j]? = some g → metE s d g = none := fun k j g hj hg => by
              rcases Nat.lt_or_ge j i with h5 | h5
              · exact hdone j g h5 hg
              · obtain rfl : j = i := by omega
                rw [he] at hg; cases hg
                rw [hm, if_neg k]
            have q5 : nx ≠ nx2 + 895 := by omega
            have q1 : nx2 ≠ 0 := by omega
            have q2 : (0 : Nat) ≠ nx2 := by omega
            have q3 : nx2 ≠ nx + 1 := by omega
            have q4 : nx + 1 ≠ nx2 := by omega
            repeat' first
              | refine VWP_seq_k fun _ hK => ?_
              | refine VWP_region_k hT ?_
              | refine VWP_draw_k hT hM (by kernel_rfl) rfl ?_
              | refine VWP_block ?_
              | refine VWP_skip ?_
              | refine VWP_exit ?_
              | refine VWP_ret ?_
              | (refine hK _ ?_; clear hK)
              | (clear hK; refine hK _ ?_; clear hK)
              | (clear hK; clear hK; refine hK _ ?_; clear hK)
              | (clear hK; clear hK; clear hK; refine hK _ ?_; clear hK)
              | (simp only [decide_eq_true_eq, decide_eq_false_iff_not, bne_iff_ne, ne_eq, Bool.not_eq_true', Bool.not_eq_false', Bool.true_eq_false, Bool.false_eq_true, reduceCtorEq, not_true_eq_false, eq_self] at hb <;> try (exfalso; omega))
              | refine VWP_cond2 _ (by simp only [go_sem, Nat.reduceLT, Nat.reduceLeDiff, Nat.reduceEqDiff, Nat.reduceAdd, Nat.reduceMul, Nat.reduceSub, reduceCtorEq, rowsD_len, rowsE_len, rowsH_len, hrx, hd, hre, hrh, hol, h1, q1, q2, q3, q4, e3, e1, hnn, Nat.le_add_right]; rfl) (fun hb => ?_) (fun hb => ?_)
              | refine callK (by simp only [go_sem, Nat.reduceLT, Nat.reduceLeDiff, Nat.reduceEqDiff, Nat.reduceAdd, Nat.reduceMul, Nat.reduceSub, reduceCtorEq, rowsD_len, rowsE_len, rowsH_len, hrx, hd, hre, hrh, hol, h1, q1, q2, q3, q4, e3, e1, hnn, Nat.le_add_right, List.mem_cons, List.not_mem_nil, or_false, forall_eq_or_imp, forall_eq, frzOk, frzOkC]; try simp) (args' := _) (by simp only [go_sem, Nat.reduceLT, Nat.reduceLeDiff, Nat.reduceEqDiff, Nat.reduceAdd, Nat.reduceMul, Nat.reduceSub, reduceCtorEq, rowsD_len, rowsE_len, rowsH_len, hrx, hd, hre, hrh, hol, h1, q1, q2, q3, q4, e3, e1, hnn, Nat.le_add_right, frzA, frzC]; try rfl) (by first | fail) (by simp only [go_sem, Nat.reduceLT, Nat.reduceLeDiff, Nat.reduceEqDiff, Nat.reduceAdd, Nat.reduceMul, Nat.reduceSub, reduceCtorEq, rowsD_len, rowsE_len, rowsH_len, hrx, hd, hre, hrh, hol, h1, q1, q2, q3, q4, e3, e1, hnn, Nat.le_add_right]; try simp) (by decide) ?_
              | simp only [go_sem, Nat.reduceLT, Nat.reduceLeDiff, Nat.reduceEqDiff, Nat.reduceAdd, Nat.reduceMul, Nat.reduceSub, reduceCtorEq, rowsD_len, rowsE_len, rowsH_len, hrx, hd, hre, hrh, hol, h1, q1, q2, q3, q4, e3, e1, hnn, Nat.le_add_right]
              | simp (disch := omega) only [decide_eq_true_eq, if_pos, if_neg, wrap_id, le_maxLen, and_true, true_and, if_true, ite_true]
              | refine guard_split (by simp only [go_sem, Nat.reduceLT, Nat.reduceLeDiff, Nat.reduceEqDiff, Nat.reduceAdd, Nat.reduceMul, Nat.reduceSub, reduceCtorEq, rowsD_len, rowsE_len, rowsH_len, hrx, hd, hre, hrh, hol, h1, q1, q2, q3, q4, e3, e1, hnn, Nat.le_add_right]) rfl (fun hb => ?_) (fun hb => ?_)
            all_goals first
              | (have k1 : 0 ≤ h.desc := by omega
                 have k2 : h.desc ≠ d := by omega
                 exact nextL (i + 1, h.desc) ⟨by simp only; omega, .inr ⟨k1, (hyes k1 k2).symm⟩⟩ (by simp only; omega) (by simp [updV, tmL, hw]) (by simp [updH, hpL, e1, q2, q4, q5]) (by omega))
              | (refine nextL (i + 1, nn) ⟨by simp only; omega, .inl ⟨hn1, hno (fun k => by obtain ⟨k1, k2⟩ := k; first | omega | (simp only [bne_eq_false_iff_eq] at hb; omega))⟩⟩ (by simp only; omega) (by simp [updV, tmL, hw]) (by simp [updH, hpL, e1, q2, q4, q5]) (by omega))
          · have hn0 : ¬ nn < 0 := by omega
            have hex := hexit (.inr hnn)
            repeat' first
              | refine VWP_seq_k fun _ hK => ?_
              | refine VWP_region_k hT ?_
              | refine VWP_draw_k hT hM (by kernel_rfl) rfl ?_
              | refine VWP_block ?_
              | refine VWP_skip ?_
              | refine VWP_exit ?_
              | refine VWP_ret ?_
              | (refine hK _ ?_; clear hK)
              | (clear hK; refine hK _ ?_; clear hK)
              | (clear hK; clear hK; refine hK _ ?_; clear hK)
              | (clear hK; clear hK; clear hK; refine hK _ ?_; clear hK)
              | (simp only [decide_eq_true_eq, decide_eq_false_iff_not, bne_iff_ne, ne_eq, Bool.not_eq_true', Bool.not_eq_false', Bool.true_eq_false, Bool.false_eq_true, reduceCtorEq, not_true_eq_false, eq_self] at hb <;> try (exfalso; omega))
              | refine VWP_cond2 _ (by simp only [go_sem, Nat.reduceLT, Nat.reduceLeDiff, Nat.reduceEqDiff, Nat.reduceAdd, Nat.reduceMul, Nat.reduceSub, reduceCtorEq, rowsD_len, rowsE_len, hrx, hd, hn0]; rfl) (fun hb => ?_) (fun hb => ?_)
              | refine callK (by simp only [go_sem, Nat.reduceLT, Nat.reduceLeDiff, Nat.reduceEqDiff, Nat.reduceAdd, Nat.reduceMul, Nat.reduceSub, reduceCtorEq, rowsD_len, rowsE_len, hrx, hd, hn0, List.mem_cons, List.not_mem_nil, or_false, forall_eq_or_imp, forall_eq, frzOk, frzOkC]; try simp) (args' := _) (by simp only [go_sem, Nat.reduceLT, Nat.reduceLeDiff, Nat.reduceEqDiff, Nat.reduceAdd, Nat.reduceMul, Nat.reduceSub, reduceCtorEq, rowsD_len, rowsE_len, hrx, hd, hn0, frzA, frzC]; try rfl) (by first | fail) (by simp only [go_sem, Nat.reduceLT, Nat.reduceLeDiff, Nat.reduceEqDiff, Nat.reduceAdd, Nat.reduceMul, Nat.reduceSub, reduceCtorEq, rowsD_len, rowsE_len, hrx, hd, hn0]; try simp) (by decide) ?_
              | simp only [go_sem, Nat.reduceLT, Nat.reduceLeDiff, Nat.reduceEqDiff, Nat.reduceAdd, Nat.reduceMul, Nat.reduceSub, reduceCtorEq, rowsD_len, rowsE_len, hrx, hd, hn0]
              | simp (disch := omega) only [decide_eq_true_eq, if_pos, if_neg, wrap_id, le_maxLen, and_true, true_and, if_true, ite_true]
              | refine guard_split (by simp only [go_sem, Nat.reduceLT, Nat.reduceLeDiff, Nat.reduceEqDiff, Nat.reduceAdd, Nat.reduceMul, Nat.reduceSub, reduceCtorEq, rowsD_len, rowsE_len, hrx, hd, hn0]) rfl (fun hb => ?_) (fun hb => ?_)
            refine nextB (w ++ [(d : Int)], nextD s d, nx + 1) ⟨by simp only; omega, hW2, (nextD_lt hS d).2, by simp only [List.length_append, List.length_singleton]; omega⟩ hlt (by simp [updV, tmL, hex]) (by simp [updH, hpL, e1, e2, e3, hne0, hne1]) (by simp only; omega)
        · obtain rfl : i = x.entries.length := by omega
          have hex := hexit (.inl (Nat.le_refl _))
          repeat' first
            | refine VWP_seq_k fun _ hK => ?_
            | refine VWP_region_k hT ?_
            | refine VWP_draw_k hT hM (by kernel_rfl) rfl ?_
            | refine VWP_block ?_
            | refine VWP_skip ?_
            | refine VWP_exit ?_
            | refine VWP_ret ?_
            | (refine hK _ ?_; clear hK)
            | (clear hK; refine hK _ ?_; clear hK)
            | (clear hK; clear hK; refine hK _ ?_; clear hK)
            | (clear hK; clear hK; clear hK; refine hK _ ?_; clear hK)
            | (simp only [decide_eq_true_eq, decide_eq_false_iff_not, bne_iff_ne, ne_eq, Bool.not_eq_true', Bool.not_eq_false', Bool.true_eq_false, Bool.false_eq_true, reduceCtorEq, not_true_eq_false, eq_self] at hb <;> try (exfalso; omega))
            | refine VWP_cond2 _ (by simp only [go_sem, Nat.reduceLT, Nat.reduceLeDiff, Nat.reduceEqDiff, Nat.reduceAdd, Nat.reduceMul, Nat.reduceSub, reduceCtorEq, rowsD_len, rowsE_len, hrx, hd]; rfl) (fun hb => ?_) (fun hb => ?_)
            | refine callK (by simp only [go_sem, Nat.reduceLT, Nat.reduceLeDiff, Nat.reduceEqDiff, Nat.reduceAdd, Nat.reduceMul, Nat.reduceSub, reduceCtorEq, rowsD_len, rowsE_len, hrx, hd, List.mem_cons, List.not_mem_nil, or_false, forall_eq_or_imp, forall_eq, frzOk, frzOkC]; try simp) (args' := _) (by simp only [go_sem, Nat.reduceLT, Nat.reduceLeDiff, Nat.reduceEqDiff, Nat.reduceAdd, Nat.reduceMul, Nat.reduceSub, reduceCtorEq, rowsD_len, rowsE_len, hrx, hd, frzA, frzC]; try rfl) (by first | fail) (by simp only [go_sem, Nat.reduceLT, Nat.reduceLeDiff, Nat.reduceEqDiff, Nat.reduceAdd, Nat.reduceMul, Nat.reduceSub, reduceCtorEq, rowsD_len, rowsE_len, hrx, hd]; try simp) (by decide) ?_
            | simp only [go_sem, Nat.reduceLT, Nat.reduceLeDiff, Nat.reduceEqDiff, Nat.reduceAdd, Nat.reduceMul, Nat.reduceSub, reduceCtorEq, rowsD_len, rowsE_len, hrx, hd]
            | simp (disch := omega) only [decide_eq_true_eq, if_pos, if_neg, wrap_id, le_maxLen, and_true, true_and, if_true, ite_true]
            | refine guard_split (by simp only [go_sem, Nat.reduceLT, Nat.reduceLeDiff, Nat.reduceEqDiff, Nat.reduceAdd, Nat.reduceMul, Nat.reduceSub, reduceCtorEq, rowsD_len, rowsE_len, hrx, hd]) rfl (fun hb => ?_) (fun hb => ?_)
          refine nextB (w ++ [(d : Int)], nextD s d, nx + 1) ⟨by simp only; omega, hW2, (nextD_lt hS d).2, by simp only [List.length_append, List.length_singleton]; omega⟩ hlt (by simp [updV, tmL, hex]) (by simp [updH, hpL, e1, e2, e3, hne0, hne1]) (by simp only; omega)
  · rw [DepthR, if_neg hok] at hr
    subst hr
    have c0 : (bP (StoreP s) && inB f 0 ((s.descs.length : Int) - 1)) = false := by
      unfold depthOk at hok
      simpa using hok
    repeat' first
      | refine VWP_seq_k fun _ hK => ?_
      | refine VWP_region_k hT ?_
      | refine VWP_draw_k hT hM (by kernel_rfl) rfl ?_
      | refine VWP_block ?_
      | refine VWP_skip ?_
      | refine VWP_exit ?_
      | refine VWP_ret ?_
      | (refine hK _ ?_; clear hK)
      | (clear hK; refine hK _ ?_; clear hK)
      | (clear hK; clear hK; refine hK _ ?_; clear hK)
      | (clear hK; clear hK; clear hK; refine hK _ ?_; clear hK)
      | (simp only [decide_eq_true_eq, decide_eq_false_iff_not, bne_iff_ne, ne_eq, Bool.not_eq_true', Bool.not_eq_false', Bool.true_eq_false, Bool.false_eq_true, reduceCtorEq, not_true_eq_false, eq_self] at hb <;> try (exfalso; omega))
      | refine VWP_cond2 _ (by simp only [go_sem, Nat.reduceLT, Nat.reduceLeDiff, Nat.reduceEqDiff, Nat.reduceAdd, Nat.reduceMul, Nat.reduceSub, reduceCtorEq, rowsD_len, rowsH_len, hws]; rfl) (fun hb => ?_) (fun hb => ?_)
      | refine callK (by simp only [go_sem, Nat.reduceLT, Nat.reduceLeDiff, Nat.reduceEqDiff, Nat.reduceAdd, Nat.reduceMul, Nat.reduceSub, reduceCtorEq, rowsD_len, rowsH_len, hws, List.mem_cons, List.not_mem_nil, or_false, forall_eq_or_imp, forall_eq, frzOk, frzOkC]; try simp) (args' := _) (by simp only [go_sem, Nat.reduceLT, Nat.reduceLeDiff, Nat.reduceEqDiff, Nat.reduceAdd, Nat.reduceMul, Nat.reduceSub, reduceCtorEq, rowsD_len, rowsH_len, hws, frzA, frzC]; try rfl) (by first | exact hc | exact l1In_ok _ _ _) (by simp only [go_sem, Nat.reduceLT, Nat.reduceLeDiff, Nat.reduceEqDiff, Nat.reduceAdd, Nat.reduceMul, Nat.reduceSub, reduceCtorEq, rowsD_len, rowsH_len, hws]; try simp) (by decide) ?_
      | simp only [go_sem, Nat.reduceLT, Nat.reduceLeDiff, Nat.reduceEqDiff, Nat.reduceAdd, Nat.reduceMul, Nat.reduceSub, reduceCtorEq, rowsD_len, rowsH_len, hws]
      | simp (disch := omega) only [decide_eq_true_eq, if_pos, if_neg, wrap_id, le_maxLen, and_true, true_and, if_true, ite_true]
      | refine guard_split (by simp only [go_sem, Nat.reduceLT, Nat.reduceLeDiff, Nat.reduceEqDiff, Nat.reduceAdd, Nat.reduceMul, Nat.reduceSub, reduceCtorEq, rowsD_len, rowsH_len, hws]) rfl (fun hb => ?_) (fun hb => ?_)
    all_goals first
      | (refine ret_scal (by simp only [go_sem, Nat.reduceLT, Nat.reduceLeDiff, Nat.reduceEqDiff, Nat.reduceAdd, Nat.reduceMul, Nat.reduceSub, reduceCtorEq]; rfl) rfl ?_
         rfl
         done)
      | (exfalso; simp_all; done)
end Go.Proofs.Ytfkefjcopbcmlaa
