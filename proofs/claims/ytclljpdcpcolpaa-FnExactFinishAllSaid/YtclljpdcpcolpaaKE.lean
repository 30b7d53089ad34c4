/- What both Held give, and the law on values. -/
import Derived.Test.YtclljpdcpcolpaaSI
import Derived.Test.YtclljpdcpcolpaaYB
import Derived.Test.YtclljpdcpcolpaaNA
namespace Go.Proofs.Ytclljpdcpcolpaa
open Go Go.RowKit
set_option linter.unusedVariables false
set_option linter.unusedSimpArgs false
set_option maxRecDepth 100000
set_option maxHeartbeats 4000000
attribute [local irreducible] VWP vops vdraw contV contD CallK Guard GuardV NextL Puts Runs RetOK RetQ RetO RetQO thenQ blockQ
attribute [local irreducible] NextB

def liesB (hs : List HeadD) (j : Nat) : Bool := match hs[j]? with
  | some h => decide (0 ≤ h.desc)
  | none => false
/-- The objects, ahead of a place, over which a descriptor lies. -/
def heldN (hs : List HeadD) (i : Nat) : List Int := ((List.range i).filter (liesB hs)).map fun (j : Nat) => ((j : Nat) : Int)
noncomputable def heldL (s : StoreD) : List Int := if bP (StoreP s) = true then heldN s.heads s.heads.length else []
theorem heldN_yes {hs : List HeadD} {i : Nat} {h : HeadD} (hh : hs[i]? = some h) (hd : 0 ≤ h.desc) : heldN hs (i + 1) = heldN hs i ++ [(i : Int)] := by
  unfold heldN
  rw [List.range_succ, List.filter_append, List.map_append]
  simp [List.filter_cons, liesB, hh, hd]
theorem heldN_no {hs : List HeadD} {i : Nat} {h : HeadD} (hh : hs[i]? = some h) (hd : ¬ 0 ≤ h.desc) : heldN hs (i + 1) = heldN hs i := by
  unfold heldN
  rw [List.range_succ, List.filter_append, List.map_append]
  simp [List.filter_cons, liesB, hh, hd]
theorem heldN_len (hs : List HeadD) (i : Nat) : (heldN hs i).length ≤ i := by
  unfold heldN
  rw [List.length_map]
  exact Nat.le_trans (List.length_filter_le _ _) (by simp)
theorem rowsN_one (w : List Int) (f : Int) : rowsN w ++ [[.int .i64 f]] = rowsN (w ++ [f]) := by simp [rowsN, encN]
theorem implHeld_ok (s : StoreD) (r : List Int) (hr : heldL s = r) (hs : s.small) : SatP Try.prog 31 [.agg (s.cells 125 62 131)] (.rf 0 r.length) [(3, rowsN r)] := by
  have hc := implStoreOk_ok s hs
  obtain ⟨f1, f2, f3⟩ := hs
  refine satP_of_body hT Try.func31 (by kernel_rfl) rfl (rs := [.tmp 2]) rfl (n := 28) rfl (by simp) rfl (by simpa using rowsN_pur r) fun E hE => ?_
  unfold St.init
  unfold StoreD.cells at *
  cases hp : bP (StoreP s) with
  | false =>
    rw [hp] at hc
    rw [heldL, if_neg (by rw [hp]; exact fun h => nomatch h)] at hr
    subst hr
    have F := (Eq.refl 0)
    repeat' first
      | refine wSq fun _ hK => ?_
      | refine wRg ?_
      | refine wDr ?_
      | refine VWP_block ?_
      | refine VWP_skip ?_
      | refine VWP_exit ?_
      | refine VWP_ret ?_
      | (refine hK _ ?_; clear hK)
      | (clear hK; refine hK _ ?_; clear hK)
      | (clear hK; clear hK; refine hK _ ?_; clear hK)
      | (clear hK; clear hK; clear hK; refine hK _ ?_; clear hK)
      | (simp only [wHb, reduceCtorEq] at hb <;> try (exfalso; omega))
      | refine wCd (fun hb => ?_) fun hb => ?_
      | refine wCa (c := by first | exact hc) (k := ?_)
      | simp only [go_sem, Nat.reduceLT, Nat.reduceLeDiff, Nat.reduceEqDiff, Nat.reduceAdd, Nat.reduceMul, Nat.reduceSub, reduceCtorEq, F]
      | simp (disch := omega) only [decide_eq_true_eq, if_pos, if_neg, wrap_id, le_maxLen, and_true, true_and, if_true, ite_true]
      | refine wGd (fun hb => ?_) fun hb => ?_
    exact ret_rf (T := 1) (by simp only [go_sem, Nat.reduceLT, Nat.reduceLeDiff, Nat.reduceEqDiff, Nat.reduceAdd, Nat.reduceMul, Nat.reduceSub, reduceCtorEq]; try simp) (by simp only [go_sem, Nat.reduceLT, Nat.reduceLeDiff, Nat.reduceEqDiff, Nat.reduceAdd, Nat.reduceMul, Nat.reduceSub, reduceCtorEq]; try rfl) rfl (rowsN_pur [])
  | true =>
    rw [hp] at hc
    rw [heldL, if_pos hp] at hr
    subst hr
    have F := @rowsH_len
    repeat' first
      | refine wSq fun _ hK => ?_
      | refine wRg ?_
      | refine wDr ?_
      | refine VWP_block ?_
      | refine VWP_skip ?_
      | refine VWP_exit ?_
      | refine VWP_ret ?_
      | (refine hK _ ?_; clear hK)
      | (clear hK; refine hK _ ?_; clear hK)
      | (clear hK; clear hK; refine hK _ ?_; clear hK)
      | (clear hK; clear hK; clear hK; refine hK _ ?_; clear hK)
      | (simp only [wHb, reduceCtorEq] at hb <;> try (exfalso; omega))
      | refine wCd (fun hb => ?_) fun hb => ?_
      | refine wCa (c := by first | exact hc) (k := ?_)
      | simp only [go_sem, Nat.reduceLT, Nat.reduceLeDiff, Nat.reduceEqDiff, Nat.reduceAdd, Nat.reduceMul, Nat.reduceSub, reduceCtorEq, F]
      | simp (disch := omega) only [decide_eq_true_eq, if_pos, if_neg, wrap_id, le_maxLen, and_true, true_and, if_true, ite_true]
      | refine wGd (fun hb => ?_) fun hb => ?_
    refine VWP_loopB (X := Nat × Nat) (fun x => [(1, .bp 0 0), (3, .rf x.2 (heldN s.heads x.1).length), (12, .fr 125 (rowsH s.heads)), (13, .int .i64 s.heads.length), (14, .int .i64 x.1)]) (fun x => [(0, .box [.fr 125 (rowsH s.heads), .fr 62 (rowsD 131 s.descs)]), (x.2, .root 3 (rowsN (heldN s.heads x.1)))]) (fun x => s.heads.length - x.1)
      (fun x => x.1 ≤ s.heads.length ∧ 1 ≤ x.2) (fun x => x.2 + 1) (0, 1) ⟨by simp, by simp⟩ (by simp [updV, heldN]) (by simp [updH, heldN, rowsN]) (by simp) ?_
    rintro ⟨i, T⟩ nx ⟨hi, hTg⟩ hB
    simp only at hi hTg hB
    have hne0 : (0 : Nat) ≠ T := by omega
    have hne1 : T ≠ 0 := by omega
    have hw := wrap_id (x := (i : Int) + 1) (by omega)
    rcases Nat.lt_or_ge i s.heads.length with hlt | hge
    · obtain ⟨h, hh⟩ : ∃ h, s.heads[i]? = some h := ⟨_, List.getElem?_eq_getElem hlt⟩
      have hre := rowsH_at hh
      have n0 : nx ≠ 0 := by omega
      have m0 : (0 : Nat) ≠ nx := by omega
      have n1 : nx ≠ T := by omega
      have m1 : T ≠ nx := by omega
      have n2 : nx + 1 ≠ T := by omega
      have m2 : T ≠ nx + 1 := by omega
      have n3 : nx + 1 + 1 ≠ T := by omega
      have m3 : T ≠ nx + 1 + 1 := by omega
      have hln := heldN_len s.heads i
      have ht := rowsN_take (heldN s.heads i)
      have ho := rowsN_one (heldN s.heads i) i
      by_cases hd : 0 ≤ h.desc
      · have hsu := heldN_yes hh hd
        have F := And.intro @rowsH_len (And.intro hre (And.intro hd (And.intro hne0 (And.intro hne1 (And.intro n0 (And.intro m0 (And.intro n1 (And.intro m1 (And.intro n2 (And.intro m2 (And.intro n3 (And.intro m3 (And.intro @rowsN_len (And.intro ht (And.intro ho @Nat.le_refl)))))))))))))))
        repeat' first
          | refine wSq fun _ hK => ?_
          | refine wRg ?_
          | refine wDr ?_
          | refine VWP_block ?_
          | refine VWP_skip ?_
          | refine VWP_exit ?_
          | refine VWP_ret ?_
          | (refine hK _ ?_; clear hK)
          | (clear hK; refine hK _ ?_; clear hK)
          | (clear hK; clear hK; refine hK _ ?_; clear hK)
          | (clear hK; clear hK; clear hK; refine hK _ ?_; clear hK)
          | (simp only [wHb, reduceCtorEq] at hb <;> try (exfalso; omega))
          | refine wCd (fun hb => ?_) fun hb => ?_
          | simp only [go_sem, Nat.reduceLT, Nat.reduceLeDiff, Nat.reduceEqDiff, Nat.reduceAdd, Nat.reduceMul, Nat.reduceSub, reduceCtorEq, F]
          | simp (disch := omega) only [decide_eq_true_eq, if_pos, if_neg, wrap_id, le_maxLen, and_true, true_and, if_true, ite_true]
          | refine wGd (fun hb => ?_) fun hb => ?_
        refine nextB (i + 1, nx + 1 + 1) ⟨by simp only; omega, by simp only; omega⟩ (by simp only; omega) ?_ ?_ (by first | omega | (simp; try omega))
        · simp [updV, tmL, hw, hsu]
        · simp [updH, hpL, hsu, hne0, m0, n0, n1, m1, n3, m3]
          try omega
      · have hsu := heldN_no hh hd
        have F := And.intro @rowsH_len (And.intro hre (And.intro hd (And.intro hne0 (And.intro hne1 (And.intro n0 (And.intro m0 (And.intro n1 (And.intro m1 (And.intro n2 (And.intro m2 (And.intro @rowsN_len (And.intro ht (And.intro ho @Nat.le_refl)))))))))))))
        repeat' first
          | refine wSq fun _ hK => ?_
          | refine wRg ?_
          | refine wDr ?_
          | refine VWP_block ?_
          | refine VWP_skip ?_
          | refine VWP_exit ?_
          | refine VWP_ret ?_
          | (refine hK _ ?_; clear hK)
          | (clear hK; refine hK _ ?_; clear hK)
          | (clear hK; clear hK; refine hK _ ?_; clear hK)
          | (clear hK; clear hK; clear hK; refine hK _ ?_; clear hK)
          | (simp only [wHb, reduceCtorEq] at hb <;> try (exfalso; omega))
          | refine wCd (fun hb => ?_) fun hb => ?_
          | simp only [go_sem, Nat.reduceLT, Nat.reduceLeDiff, Nat.reduceEqDiff, Nat.reduceAdd, Nat.reduceMul, Nat.reduceSub, reduceCtorEq, F]
          | simp (disch := omega) only [decide_eq_true_eq, if_pos, if_neg, wrap_id, le_maxLen, and_true, true_and, if_true, ite_true]
          | refine wGd (fun hb => ?_) fun hb => ?_
        refine nextB (i + 1, T) ⟨by simp only; omega, by simp only; omega⟩ (by simp only; omega) ?_ ?_ (by first | omega | (simp; try omega))
        · simp [updV, tmL, hw, hsu]
        · simp [updH, hpL, hsu, hne0, m0, n0, n1, m1]
          try omega
    · obtain rfl : i = s.heads.length := by omega
      have F := And.intro @rowsH_len (And.intro hne0 hne1)
      repeat' first
        | refine wSq fun _ hK => ?_
        | refine wRg ?_
        | refine wDr ?_
        | refine VWP_block ?_
        | refine VWP_skip ?_
        | refine VWP_exit ?_
        | refine VWP_ret ?_
        | (refine hK _ ?_; clear hK)
        | (clear hK; refine hK _ ?_; clear hK)
        | (clear hK; clear hK; refine hK _ ?_; clear hK)
        | (clear hK; clear hK; clear hK; refine hK _ ?_; clear hK)
        | (simp only [wHb, reduceCtorEq] at hb <;> try (exfalso; omega))
        | refine wCd (fun hb => ?_) fun hb => ?_
        | simp only [go_sem, Nat.reduceLT, Nat.reduceLeDiff, Nat.reduceEqDiff, Nat.reduceAdd, Nat.reduceMul, Nat.reduceSub, reduceCtorEq, F]
        | simp (disch := omega) only [decide_eq_true_eq, if_pos, if_neg, wrap_id, le_maxLen, and_true, true_and, if_true, ite_true]
        | refine wGd (fun hb => ?_) fun hb => ?_
      exact ret_rf (T := T) (by simp only [go_sem, Nat.reduceLT, Nat.reduceLeDiff, Nat.reduceEqDiff, Nat.reduceAdd, Nat.reduceMul, Nat.reduceSub, reduceCtorEq, hne0, hne1]; try simp) (by simp only [go_sem, Nat.reduceLT, Nat.reduceLeDiff, Nat.reduceEqDiff, Nat.reduceAdd, Nat.reduceMul, Nat.reduceSub, reduceCtorEq, hne0, hne1]; try rfl) (rowsN_len _).symm (rowsN_pur _)
theorem specHeld_ok (s : StoreD) (r : List Int) (hr : heldL s = r) (hs : s.small) : SatP Try.prog 30 [.agg (s.cells 125 62 131)] (.rf 0 r.length) [(3, rowsN r)] := by
  have hc := specStoreOk_ok s hs
  obtain ⟨f1, f2, f3⟩ := hs
  refine satP_of_body hT Try.func30 (by kernel_rfl) rfl (rs := [.tmp 2]) rfl (n := 29) rfl (by simp) rfl (by simpa using rowsN_pur r) fun E hE => ?_
  unfold St.init
  unfold StoreD.cells at *
  have F := @rowsH_len
  repeat' first
    | refine wSq fun _ hK => ?_
    | refine wRg ?_
    | refine wDr ?_
    | refine VWP_block ?_
    | refine VWP_skip ?_
    | refine VWP_exit ?_
    | refine VWP_ret ?_
    | (refine hK _ ?_; clear hK)
    | (clear hK; refine hK _ ?_; clear hK)
    | (clear hK; clear hK; refine hK _ ?_; clear hK)
    | (clear hK; clear hK; clear hK; refine hK _ ?_; clear hK)
    | (simp only [wHb, reduceCtorEq] at hb <;> try (exfalso; omega))
    | refine wCd (fun hb => ?_) fun hb => ?_
    | simp only [go_sem, Nat.reduceLT, Nat.reduceLeDiff, Nat.reduceEqDiff, Nat.reduceAdd, Nat.reduceMul, Nat.reduceSub, reduceCtorEq, F]
    | simp (disch := omega) only [decide_eq_true_eq, if_pos, if_neg, wrap_id, le_maxLen, and_true, true_and, if_true, ite_true]
    | refine wGd (fun hb => ?_) fun hb => ?_
  refine VWP_loopB (X := Nat × Nat) (fun x => [(1, .bp 0 0), (3, .rf x.2 (heldN s.heads x.1).length), (4, .int .i64 x.1)]) (fun x => [(0, .box [.fr 125 (rowsH s.heads), .fr 62 (rowsD 131 s.descs)]), (x.2, .root 3 (rowsN (heldN s.heads x.1)))]) (fun x => s.heads.length - x.1)
    (fun x => x.1 ≤ s.heads.length ∧ 1 ≤ x.2 ∧ (x.1 = 0 ∨ bP (StoreP s) = true)) (fun x => x.2 + 1) (0, 1) ⟨by simp, by simp, by simp⟩ (by simp [updV, heldN]) (by simp [updH, heldN, rowsN]) (by simp) ?_
  rintro ⟨i, T⟩ nx ⟨hi, hTg, hz⟩ hB
  simp only at hi hTg hz hB
  have hne0 : (0 : Nat) ≠ T := by omega
  have hne1 : T ≠ 0 := by omega
  have hw := wrap_id (x := (i : Int) + 1) (by omega)
  rcases Nat.lt_or_ge i s.heads.length with hlt | hge
  · obtain ⟨h, hh⟩ : ∃ h, s.heads[i]? = some h := ⟨_, List.getElem?_eq_getElem hlt⟩
    have hre := rowsH_at hh
    have n0 : nx ≠ 0 := by omega
    have m0 : (0 : Nat) ≠ nx := by omega
    have n1 : nx ≠ T := by omega
    have m1 : T ≠ nx := by omega
    have n2 : nx + 1 ≠ T := by omega
    have m2 : T ≠ nx + 1 := by omega
    have hln := heldN_len s.heads i
    have ht := rowsN_take (heldN s.heads i)
    have ho := rowsN_one (heldN s.heads i) i
    rcases (Bool.eq_false_or_eq_true (bP (StoreP s))).symm with hp | hp
    · skip
      rw [hp] at hc
      have hi0 : i = 0 := by
        rcases hz with h | h
        · exact h
        · rw [hp] at h; cases h
      rw [heldL, if_neg (by rw [hp]; exact fun h => nomatch h)] at hr
      subst hr
      subst hi0
      have F := And.intro @rowsH_len (And.intro hne0 hne1)
      repeat' first
        | refine wSq fun _ hK => ?_
        | refine wRg ?_
        | refine wDr ?_
        | refine VWP_block ?_
        | refine VWP_skip ?_
        | refine VWP_exit ?_
        | refine VWP_ret ?_
        | (refine hK _ ?_; clear hK)
        | (clear hK; refine hK _ ?_; clear hK)
        | (clear hK; clear hK; refine hK _ ?_; clear hK)
        | (clear hK; clear hK; clear hK; refine hK _ ?_; clear hK)
        | (simp only [wHb, reduceCtorEq] at hb <;> try (exfalso; omega))
        | refine wCd (fun hb => ?_) fun hb => ?_
        | refine wCa (c := by first | exact hc) (k := ?_)
        | simp only [go_sem, Nat.reduceLT, Nat.reduceLeDiff, Nat.reduceEqDiff, Nat.reduceAdd, Nat.reduceMul, Nat.reduceSub, reduceCtorEq, F]
        | simp (disch := omega) only [decide_eq_true_eq, if_pos, if_neg, wrap_id, le_maxLen, and_true, true_and, if_true, ite_true]
        | refine wGd (fun hb => ?_) fun hb => ?_
      exact ret_rf (T := T) (by simp only [go_sem, Nat.reduceLT, Nat.reduceLeDiff, Nat.reduceEqDiff, Nat.reduceAdd, Nat.reduceMul, Nat.reduceSub, reduceCtorEq, hne0, hne1]; try simp [heldN]) (by simp only [go_sem, Nat.reduceLT, Nat.reduceLeDiff, Nat.reduceEqDiff, Nat.reduceAdd, Nat.reduceMul, Nat.reduceSub, reduceCtorEq, hne0, hne1]; try rfl) rfl (rowsN_pur [])
    · rw [hp] at hc
      by_cases hd : 0 ≤ h.desc
      · have hsu := heldN_yes hh hd
        have F := And.intro @rowsH_len (And.intro hre (And.intro hd (And.intro hne0 (And.intro hne1 (And.intro n0 (And.intro m0 (And.intro n1 (And.intro m1 (And.intro n2 (And.intro m2 (And.intro @rowsN_len (And.intro ht (And.intro ho @Nat.le_refl)))))))))))))
        repeat' first
          | refine wSq fun _ hK => ?_
          | refine wRg ?_
          | refine wDr ?_
          | refine VWP_block ?_
          | refine VWP_skip ?_
          | refine VWP_exit ?_
          | refine VWP_ret ?_
          | (refine hK _ ?_; clear hK)
          | (clear hK; refine hK _ ?_; clear hK)
          | (clear hK; clear hK; refine hK _ ?_; clear hK)
          | (clear hK; clear hK; clear hK; refine hK _ ?_; clear hK)
          | (simp only [wHb, reduceCtorEq] at hb <;> try (exfalso; omega))
          | refine wCd (fun hb => ?_) fun hb => ?_
          | refine wCa (c := by first | exact hc) (k := ?_)
          | simp only [go_sem, Nat.reduceLT, Nat.reduceLeDiff, Nat.reduceEqDiff, Nat.reduceAdd, Nat.reduceMul, Nat.reduceSub, reduceCtorEq, F]
          | simp (disch := omega) only [decide_eq_true_eq, if_pos, if_neg, wrap_id, le_maxLen, and_true, true_and, if_true, ite_true]
          | refine wGd (fun hb => ?_) fun hb => ?_
        refine nextB (i + 1, nx + 1) ⟨by simp only; omega, by simp only; omega, Or.inr hp⟩ (by simp only; omega) ?_ ?_ (by first | omega | (simp; try omega))
        · simp [updV, tmL, hw, hsu]
        · simp [updH, hpL, hsu, hne0, m0, n0, n1, m1]
          try omega
      · have hsu := heldN_no hh hd
        have F := And.intro @rowsH_len (And.intro hre (And.intro hd (And.intro hne0 (And.intro hne1 (And.intro n0 (And.intro m0 (And.intro n1 (And.intro m1 (And.intro n2 (And.intro m2 (And.intro @rowsN_len (And.intro ht (And.intro ho @Nat.le_refl)))))))))))))
        repeat' first
          | refine wSq fun _ hK => ?_
          | refine wRg ?_
          | refine wDr ?_
          | refine VWP_block ?_
          | refine VWP_skip ?_
          | refine VWP_exit ?_
          | refine VWP_ret ?_
          | (refine hK _ ?_; clear hK)
          | (clear hK; refine hK _ ?_; clear hK)
          | (clear hK; clear hK; refine hK _ ?_; clear hK)
          | (clear hK; clear hK; clear hK; refine hK _ ?_; clear hK)
          | (simp only [wHb, reduceCtorEq] at hb <;> try (exfalso; omega))
          | refine wCd (fun hb => ?_) fun hb => ?_
          | refine wCa (c := by first | exact hc) (k := ?_)
          | simp only [go_sem, Nat.reduceLT, Nat.reduceLeDiff, Nat.reduceEqDiff, Nat.reduceAdd, Nat.reduceMul, Nat.reduceSub, reduceCtorEq, F]
          | simp (disch := omega) only [decide_eq_true_eq, if_pos, if_neg, wrap_id, le_maxLen, and_true, true_and, if_true, ite_true]
          | refine wGd (fun hb => ?_) fun hb => ?_
        refine nextB (i + 1, T) ⟨by simp only; omega, by simp only; omega, .inr hp⟩ (by simp only; omega) ?_ ?_ (by first | omega | (simp; try omega))
        · simp [updV, tmL, hw, hsu]
        · simp [updH, hpL, hsu, hne0, m0, n0, n1, m1]
          try omega
  · obtain rfl : i = s.heads.length := by omega
    have hrr : heldN s.heads s.heads.length = r := by
      rw [← hr, heldL]
      rcases hz with h | h
      · rw [h]
        split <;> simp [heldN]
      · rw [if_pos h]
    have F := And.intro @rowsH_len (And.intro hne0 hne1)
    repeat' first
      | refine wSq fun _ hK => ?_
      | refine wRg ?_
      | refine wDr ?_
      | refine VWP_block ?_
      | refine VWP_skip ?_
      | refine VWP_exit ?_
      | refine VWP_ret ?_
      | (refine hK _ ?_; clear hK)
      | (clear hK; refine hK _ ?_; clear hK)
      | (clear hK; clear hK; refine hK _ ?_; clear hK)
      | (clear hK; clear hK; clear hK; refine hK _ ?_; clear hK)
      | (simp only [wHb, reduceCtorEq] at hb <;> try (exfalso; omega))
      | refine wCd (fun hb => ?_) fun hb => ?_
      | simp only [go_sem, Nat.reduceLT, Nat.reduceLeDiff, Nat.reduceEqDiff, Nat.reduceAdd, Nat.reduceMul, Nat.reduceSub, reduceCtorEq, F]
      | simp (disch := omega) only [decide_eq_true_eq, if_pos, if_neg, wrap_id, le_maxLen, and_true, true_and, if_true, ite_true]
      | refine wGd (fun hb => ?_) fun hb => ?_
    subst hrr
    exact ret_rf (T := T) (by simp only [go_sem, Nat.reduceLT, Nat.reduceLeDiff, Nat.reduceEqDiff, Nat.reduceAdd, Nat.reduceMul, Nat.reduceSub, reduceCtorEq, hne0, hne1]; try simp) (by simp only [go_sem, Nat.reduceLT, Nat.reduceLeDiff, Nat.reduceEqDiff, Nat.reduceAdd, Nat.reduceMul, Nat.reduceSub, reduceCtorEq, hne0, hne1]; try rfl) (rowsN_len _).symm (rowsN_pur _)
theorem heldL_len (s : StoreD) : (heldL s).length ≤ s.heads.length := by
  unfold heldL
  split
  · exact heldN_len _ _
  · simp
theorem heldLaw_ok (s : StoreD) (hf : s.fits) : SatP Try.prog 5 [.agg (s.cells 170 56 174)] (.bool true) [] := by
  have hz := szS_fits s 1048576 (by omega)
  refine satP_of_body hT Try.func5 (by kernel_rfl) rfl (rs := [.tmp 2]) rfl (n := 69) rfl (by simp) rfl (by simp) fun E hE => ?_
  unfold St.init
  rcases Int.lt_or_le (szS s 1048576) 0 with hbig | hsm
  · have hz2 := hz.2 hbig
    unfold StoreD.cells
    have F := hz2
    repeat' first
      | refine wSq fun _ hK => ?_
      | refine wRg ?_
      | refine wDr ?_
      | refine VWP_block ?_
      | refine VWP_skip ?_
      | refine VWP_exit ?_
      | refine VWP_ret ?_
      | (refine hK _ ?_; clear hK)
      | (clear hK; refine hK _ ?_; clear hK)
      | (clear hK; clear hK; refine hK _ ?_; clear hK)
      | (clear hK; clear hK; clear hK; refine hK _ ?_; clear hK)
      | (simp only [wHb, reduceCtorEq] at hb <;> try (exfalso; omega))
      | refine wCd (fun hb => ?_) fun hb => ?_
      | refine wCa (c := by first | exact szStore_ok s _ (by omega) (by omega) hf) (k := ?_)
      | simp only [go_sem, Nat.reduceLT, Nat.reduceLeDiff, Nat.reduceEqDiff, Nat.reduceAdd, Nat.reduceMul, Nat.reduceSub, reduceCtorEq, F]
      | simp (disch := omega) only [decide_eq_true_eq, if_pos, if_neg, wrap_id, le_maxLen, and_true, true_and, if_true, ite_true]
      | refine wGd (fun hb => ?_) fun hb => ?_
    refine wLf ?_
    rfl
  · have hn : ¬ szS s 1048576 < 0 := by omega
    have hs := szS_small (by omega) (by omega) hsm
    have hst := szS_tiny (by omega) (by omega) hsm
    obtain ⟨r, hr⟩ : ∃ r, heldL s = r := ⟨_, rfl⟩
    have hln := heldL_len s
    rw [hr] at hln
    have hl1 := hst.1
    have hmt := rowsN_take (marksN 1 r.length)
    rw [marksN_len] at hmt
    have hnk : ¬ 1 + cntS s < 0 := by
      have := (cntD_le s.descs (Nat.le_refl _)).1
      unfold cntS
      omega
    have hm := markStore_ok s 1 (by omega) (by omega) hst
    unfold StoreD.cells
    have F := And.intro hn (And.intro hmt (And.intro hnk (And.intro @rowsH_len (And.intro @rowsH_pur (And.intro @rowsH_take (And.intro @rowsD_len (And.intro @rowsD_pur (And.intro @rowsD_take (And.intro @rowsN_len (And.intro @rowsN_pur (And.intro @rowsN_take (And.intro @marksN_len @Nat.le_refl))))))))))))
    repeat' first
      | refine wSq fun _ hK => ?_
      | refine wRg ?_
      | refine wDr ?_
      | refine VWP_block ?_
      | refine VWP_skip ?_
      | refine VWP_exit ?_
      | refine VWP_ret ?_
      | (refine hK _ ?_; clear hK)
      | (clear hK; refine hK _ ?_; clear hK)
      | (clear hK; clear hK; refine hK _ ?_; clear hK)
      | (clear hK; clear hK; clear hK; refine hK _ ?_; clear hK)
      | (simp only [wHb, reduceCtorEq] at hb <;> try (exfalso; omega))
      | refine wCd (fun hb => ?_) fun hb => ?_
      | refine wCa (c := by first | exact szStore_ok s _ (by omega) (by omega) hf | exact toStore_ok s hs | exact specHeld_ok s r hr hs | exact implHeld_ok s r hr hs | exact eqStore_ok s s hs | exact eqIntS_ok r r (by omega) | exact heldIntS_ok r.length 1 (by omega) (by omega) (by omega)) (k := ?_)
      | refine wOw [4, 5] (c := by exact hm) (k := ?_)
      | refine wOw [7] (c := by exact markIntS_ok r 1 (by omega) (by omega) (by omega)) (k := ?_)
      | simp only [go_sem, Nat.reduceLT, Nat.reduceLeDiff, Nat.reduceEqDiff, Nat.reduceAdd, Nat.reduceMul, Nat.reduceSub, reduceCtorEq, F]
      | simp (disch := omega) only [decide_eq_true_eq, if_pos, if_neg, wrap_id, le_maxLen, and_true, true_and, if_true, ite_true]
      | refine wGd (fun hb => ?_) fun hb => ?_
    refine wLf ?_
    rfl
end Go.Proofs.Ytclljpdcpcolpaa
