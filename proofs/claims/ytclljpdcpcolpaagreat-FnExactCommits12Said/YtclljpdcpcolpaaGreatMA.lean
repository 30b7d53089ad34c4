/- What both Commits12 give, and the law on values. -/
import Derived.Test.YtclljpdcpcolpaaGreatKJ
import Derived.Test.YtclljpdcpcolpaaGreatZC
namespace Go.Proofs.YtclljpdcpcolpaaGreat
open Go Go.RowKit
set_option linter.unusedVariables false
set_option linter.unusedSimpArgs false
set_option maxRecDepth 100000
set_option maxHeartbeats 4000000
attribute [local irreducible] VWP vops vdraw contV contD CallK Guard GuardV NextL Puts Runs RetOK RetQ RetO RetQO thenQ blockQ
attribute [local irreducible] NextB

/-- The descriptors of the commits ahead of a place. -/
def comsN (log : List EventD) (i : Nat) : List Int := ((log.take i).filter fun e => e.kind == 3).map EventD.object
noncomputable def comsR (w : WorldD) : List Int × Bool := if bP (WorldP w) = true then (comsN w.log w.log.length, true) else ([], false)
theorem comsN_yes {log : List EventD} {i : Nat} {e : EventD} (he : log[i]? = some e) (h : e.kind = 3) : comsN log (i + 1) = comsN log i ++ [e.object] := by
  unfold comsN
  rw [List.take_add_one, he, List.filter_append, List.map_append]
  simp [List.filter_cons, h]
theorem comsN_no {log : List EventD} {i : Nat} {e : EventD} (he : log[i]? = some e) (h : ¬ e.kind = 3) : comsN log (i + 1) = comsN log i := by
  unfold comsN
  rw [List.take_add_one, he, List.filter_append, List.map_append]
  simp [List.filter_cons, h]
theorem comsN_len (log : List EventD) (i : Nat) : (comsN log i).length ≤ log.length := by
  unfold comsN
  rw [List.length_map]
  refine Nat.le_trans (List.length_filter_le _ _) ?_
  simp
  omega
theorem rowsN_one (w : List Int) (f : Int) : rowsN w ++ [[.int .i64 f]] = rowsN (w ++ [f]) := by simp [rowsN, encN]
theorem implCommits_ok (w : WorldD) (r : List Int × Bool) (hr : comsR w = r) (hs : w.tiny) : SatP Tryz.prog 9 [.agg (w.cells 3 67 70 72 91 120 137 55)] (.tup [.rf 0 r.1.length, .bool r.2]) [(3, rowsN r.1)] := by
  have hc := implWorldOk_ok w hs
  have f5 := hs.2.2.2.2
  refine satP_of_body hT Tryz.func9 (by kernel_rfl) rfl (rs := [.tmp 2, .tmp 3]) rfl (n := 28) rfl (by simp) rfl (by simpa using rowsN_pur r.1) fun E => ?_
  unfold St.init
  unfold WorldD.cells at *
  rcases (Bool.eq_false_or_eq_true (bP (WorldP w))).symm with hp | hp
  · rw [hp] at hc
    rw [comsR, if_neg (by rw [hp]; exact fun h => nomatch h)] at hr
    subst hr
    repeat' first
      | refine VWP_seq_k fun _ hK => ?_
      | refine VWP_region_k hT ?_
      | refine VWP_draw_k hT hM (by kernel_rfl) rfl ?_
      | refine VWP_block ?_
      | refine VWP_skip ?_
      | refine VWP_exit ?_
      | refine VWP_ret ?_
      | (refine hK _ ?_; clear hK)
      | (clear hK; refine hK _ ?_; clear hK)
      | (clear hK; clear hK; refine hK _ ?_; clear hK)
      | (clear hK; clear hK; clear hK; refine hK _ ?_; clear hK)
      | (simp only [decide_eq_true_eq, decide_eq_false_iff_not, bne_iff_ne, ne_eq, Bool.not_eq_true', Bool.not_eq_false', Bool.true_eq_false, Bool.false_eq_true, reduceCtorEq, not_true_eq_false, eq_self] at hb <;> try (exfalso; omega))
      | refine VWP_cond2 _ (by simp only [go_sem, Nat.reduceLT, Nat.reduceLeDiff, Nat.reduceEqDiff, Nat.reduceAdd, Nat.reduceMul, Nat.reduceSub, reduceCtorEq]; rfl) (fun hb => ?_) (fun hb => ?_)
      | refine callK (by simp only [go_sem, Nat.reduceLT, Nat.reduceLeDiff, Nat.reduceEqDiff, Nat.reduceAdd, Nat.reduceMul, Nat.reduceSub, reduceCtorEq, List.mem_cons, List.not_mem_nil, or_false, forall_eq_or_imp, forall_eq, frzOk, frzOkC]; try simp) (args' := _) (by simp only [go_sem, Nat.reduceLT, Nat.reduceLeDiff, Nat.reduceEqDiff, Nat.reduceAdd, Nat.reduceMul, Nat.reduceSub, reduceCtorEq, frzA, frzC]; try rfl) (by first | exact hc) (by simp only [go_sem, Nat.reduceLT, Nat.reduceLeDiff, Nat.reduceEqDiff, Nat.reduceAdd, Nat.reduceMul, Nat.reduceSub, reduceCtorEq]; try simp) (by decide) ?_
      | simp only [go_sem, Nat.reduceLT, Nat.reduceLeDiff, Nat.reduceEqDiff, Nat.reduceAdd, Nat.reduceMul, Nat.reduceSub, reduceCtorEq]
      | simp (disch := omega) only [decide_eq_true_eq, if_pos, if_neg, wrap_id, le_maxLen, and_true, true_and, if_true, ite_true]
      | refine guard_split (by simp only [go_sem, Nat.reduceLT, Nat.reduceLeDiff, Nat.reduceEqDiff, Nat.reduceAdd, Nat.reduceMul, Nat.reduceSub, reduceCtorEq]) rfl (fun hb => ?_) (fun hb => ?_)
    refine ret_mk (vs := _) (acc := _) (by simp only [go_sem, Nat.reduceLT, Nat.reduceLeDiff, Nat.reduceEqDiff, Nat.reduceAdd, Nat.reduceMul, Nat.reduceSub, reduceCtorEq, vres]; rfl) (by simp only [go_sem, Nat.reduceLT, Nat.reduceLeDiff, Nat.reduceEqDiff, Nat.reduceAdd, Nat.reduceMul, Nat.reduceSub, reduceCtorEq, wrap, exV, exAs, exA, exCs, exC]; rfl) (by simp) (by simp [rowsN]) (by simp [rowsN_pur])
  · rw [hp] at hc
    rw [comsR, if_pos hp] at hr
    subst hr
    repeat' first
      | refine VWP_seq_k fun _ hK => ?_
      | refine VWP_region_k hT ?_
      | refine VWP_draw_k hT hM (by kernel_rfl) rfl ?_
      | refine VWP_block ?_
      | refine VWP_skip ?_
      | refine VWP_exit ?_
      | refine VWP_ret ?_
      | (refine hK _ ?_; clear hK)
      | (clear hK; refine hK _ ?_; clear hK)
      | (clear hK; clear hK; refine hK _ ?_; clear hK)
      | (clear hK; clear hK; clear hK; refine hK _ ?_; clear hK)
      | (simp only [decide_eq_true_eq, decide_eq_false_iff_not, bne_iff_ne, ne_eq, Bool.not_eq_true', Bool.not_eq_false', Bool.true_eq_false, Bool.false_eq_true, reduceCtorEq, not_true_eq_false, eq_self] at hb <;> try (exfalso; omega))
      | refine VWP_cond2 _ (by simp only [go_sem, Nat.reduceLT, Nat.reduceLeDiff, Nat.reduceEqDiff, Nat.reduceAdd, Nat.reduceMul, Nat.reduceSub, reduceCtorEq, rowsV_len]; rfl) (fun hb => ?_) (fun hb => ?_)
      | refine callK (by simp only [go_sem, Nat.reduceLT, Nat.reduceLeDiff, Nat.reduceEqDiff, Nat.reduceAdd, Nat.reduceMul, Nat.reduceSub, reduceCtorEq, rowsV_len, List.mem_cons, List.not_mem_nil, or_false, forall_eq_or_imp, forall_eq, frzOk, frzOkC]; try simp) (args' := _) (by simp only [go_sem, Nat.reduceLT, Nat.reduceLeDiff, Nat.reduceEqDiff, Nat.reduceAdd, Nat.reduceMul, Nat.reduceSub, reduceCtorEq, rowsV_len, frzA, frzC]; try rfl) (by first | exact hc) (by simp only [go_sem, Nat.reduceLT, Nat.reduceLeDiff, Nat.reduceEqDiff, Nat.reduceAdd, Nat.reduceMul, Nat.reduceSub, reduceCtorEq, rowsV_len]; try simp) (by decide) ?_
      | simp only [go_sem, Nat.reduceLT, Nat.reduceLeDiff, Nat.reduceEqDiff, Nat.reduceAdd, Nat.reduceMul, Nat.reduceSub, reduceCtorEq, rowsV_len]
      | simp (disch := omega) only [decide_eq_true_eq, if_pos, if_neg, wrap_id, le_maxLen, and_true, true_and, if_true, ite_true]
      | refine guard_split (by simp only [go_sem, Nat.reduceLT, Nat.reduceLeDiff, Nat.reduceEqDiff, Nat.reduceAdd, Nat.reduceMul, Nat.reduceSub, reduceCtorEq, rowsV_len]) rfl (fun hb => ?_) (fun hb => ?_)
    refine VWP_loopB (X := Nat × Nat) (fun x => [(1, .bp 0 0), (4, .rf x.2 (comsN w.log x.1).length), (12, .fr 55 (rowsV w.log)), (13, .int .i64 w.log.length), (14, .int .i64 x.1)]) (fun x => [(0, .box [.fr 3 (rowsN w.first), .fr 67 (rowsH w.store.heads), .fr 70 (rowsD 72 w.store.descs), .fr 91 (rowsTh 120 72 137 w.threads), .fr 55 (rowsV w.log)]), (x.2, .root 3 (rowsN (comsN w.log x.1)))]) (fun x => w.log.length - x.1)
      (fun x => x.1 ≤ w.log.length ∧ 1 ≤ x.2) (fun x => x.2 + 1) (0, 1) ⟨by simp, by simp⟩ (by simp [updV, comsN]) (by simp [updH, comsN, rowsN]) (by simp) ?_
    rintro ⟨i, T⟩ nx ⟨hi, hTg⟩ hB
    simp only at hi hTg hB
    have hne0 : (0 : Nat) ≠ T := by omega
    have hne1 : T ≠ 0 := by omega
    have hw := wrap_id (x := (i : Int) + 1) (by omega)
    rcases Nat.lt_or_ge i w.log.length with hlt | hge
    · obtain ⟨e, he⟩ : ∃ e, w.log[i]? = some e := ⟨_, List.getElem?_eq_getElem hlt⟩
      have hre := rowsV_at he
      have n0 : nx ≠ 0 := by omega
      have m0 : (0 : Nat) ≠ nx := by omega
      have n1 : nx ≠ T := by omega
      have m1 : T ≠ nx := by omega
      have n2 : nx + 1 ≠ T := by omega
      have m2 : T ≠ nx + 1 := by omega
      have n3 : nx + 1 + 1 ≠ T := by omega
      have m3 : T ≠ nx + 1 + 1 := by omega
      have hln := comsN_len w.log i
      have ht := rowsN_take (comsN w.log i)
      have ho := rowsN_one (comsN w.log i) e.object
      by_cases hd : e.kind = 3
      · have hsu := comsN_yes he hd
        repeat' first
          | refine VWP_seq_k fun _ hK => ?_
          | refine VWP_region_k hT ?_
          | refine VWP_draw_k hT hM (by kernel_rfl) rfl ?_
          | refine VWP_block ?_
          | refine VWP_skip ?_
          | refine VWP_exit ?_
          | refine VWP_ret ?_
          | (refine hK _ ?_; clear hK)
          | (clear hK; refine hK _ ?_; clear hK)
          | (clear hK; clear hK; refine hK _ ?_; clear hK)
          | (clear hK; clear hK; clear hK; refine hK _ ?_; clear hK)
          | (simp only [decide_eq_true_eq, decide_eq_false_iff_not, bne_iff_ne, ne_eq, Bool.not_eq_true', Bool.not_eq_false', Bool.true_eq_false, Bool.false_eq_true, reduceCtorEq, not_true_eq_false, eq_self] at hb <;> try (exfalso; omega))
          | refine VWP_cond2 _ (by simp only [go_sem, Nat.reduceLT, Nat.reduceLeDiff, Nat.reduceEqDiff, Nat.reduceAdd, Nat.reduceMul, Nat.reduceSub, reduceCtorEq, rowsV_len, hre, hd, hne0, hne1, n0, m0, n1, m1, n2, m2, n3, m3, rowsN_len, ht, ho, Nat.le_refl, Int.reduceBEq]; rfl) (fun hb => ?_) (fun hb => ?_)
          | refine callK (by simp only [go_sem, Nat.reduceLT, Nat.reduceLeDiff, Nat.reduceEqDiff, Nat.reduceAdd, Nat.reduceMul, Nat.reduceSub, reduceCtorEq, rowsV_len, hre, hd, hne0, hne1, n0, m0, n1, m1, n2, m2, n3, m3, rowsN_len, ht, ho, Nat.le_refl, Int.reduceBEq, List.mem_cons, List.not_mem_nil, or_false, forall_eq_or_imp, forall_eq, frzOk, frzOkC]; try simp) (args' := _) (by simp only [go_sem, Nat.reduceLT, Nat.reduceLeDiff, Nat.reduceEqDiff, Nat.reduceAdd, Nat.reduceMul, Nat.reduceSub, reduceCtorEq, rowsV_len, hre, hd, hne0, hne1, n0, m0, n1, m1, n2, m2, n3, m3, rowsN_len, ht, ho, Nat.le_refl, Int.reduceBEq, frzA, frzC]; try rfl) (by first | fail) (by simp only [go_sem, Nat.reduceLT, Nat.reduceLeDiff, Nat.reduceEqDiff, Nat.reduceAdd, Nat.reduceMul, Nat.reduceSub, reduceCtorEq, rowsV_len, hre, hd, hne0, hne1, n0, m0, n1, m1, n2, m2, n3, m3, rowsN_len, ht, ho, Nat.le_refl, Int.reduceBEq]; try simp) (by decide) ?_
          | simp only [go_sem, Nat.reduceLT, Nat.reduceLeDiff, Nat.reduceEqDiff, Nat.reduceAdd, Nat.reduceMul, Nat.reduceSub, reduceCtorEq, rowsV_len, hre, hd, hne0, hne1, n0, m0, n1, m1, n2, m2, n3, m3, rowsN_len, ht, ho, Nat.le_refl, Int.reduceBEq]
          | simp (disch := omega) only [decide_eq_true_eq, if_pos, if_neg, wrap_id, le_maxLen, and_true, true_and, if_true, ite_true]
          | refine guard_split (by simp only [go_sem, Nat.reduceLT, Nat.reduceLeDiff, Nat.reduceEqDiff, Nat.reduceAdd, Nat.reduceMul, Nat.reduceSub, reduceCtorEq, rowsV_len, hre, hd, hne0, hne1, n0, m0, n1, m1, n2, m2, n3, m3, rowsN_len, ht, ho, Nat.le_refl, Int.reduceBEq]) rfl (fun hb => ?_) (fun hb => ?_)
        refine nextB (i + 1, nx + 1 + 1) ⟨by simp only; omega, by simp only; omega⟩ (by simp only; omega) ?_ ?_ (by first | omega | (simp; try omega))
        · simp [updV, tmL, hw, hsu]
        · simp [updH, hpL, hsu, hne0, m0, n0, n1, m1, n2, m2, n3, m3]
          try omega
      · have hdq : (e.kind == 3) = false := by simpa using hd
        have hsu := comsN_no he hd
        repeat' first
          | refine VWP_seq_k fun _ hK => ?_
          | refine VWP_region_k hT ?_
          | refine VWP_draw_k hT hM (by kernel_rfl) rfl ?_
          | refine VWP_block ?_
          | refine VWP_skip ?_
          | refine VWP_exit ?_
          | refine VWP_ret ?_
          | (refine hK _ ?_; clear hK)
          | (clear hK; refine hK _ ?_; clear hK)
          | (clear hK; clear hK; refine hK _ ?_; clear hK)
          | (clear hK; clear hK; clear hK; refine hK _ ?_; clear hK)
          | (simp only [decide_eq_true_eq, decide_eq_false_iff_not, bne_iff_ne, ne_eq, Bool.not_eq_true', Bool.not_eq_false', Bool.true_eq_false, Bool.false_eq_true, reduceCtorEq, not_true_eq_false, eq_self] at hb <;> try (exfalso; omega))
          | refine VWP_cond2 _ (by simp only [go_sem, Nat.reduceLT, Nat.reduceLeDiff, Nat.reduceEqDiff, Nat.reduceAdd, Nat.reduceMul, Nat.reduceSub, reduceCtorEq, rowsV_len, hre, hdq, hne0, hne1, n0, m0, n1, m1, n2, m2, rowsN_len, ht, ho, Nat.le_refl]; rfl) (fun hb => ?_) (fun hb => ?_)
          | refine callK (by simp only [go_sem, Nat.reduceLT, Nat.reduceLeDiff, Nat.reduceEqDiff, Nat.reduceAdd, Nat.reduceMul, Nat.reduceSub, reduceCtorEq, rowsV_len, hre, hdq, hne0, hne1, n0, m0, n1, m1, n2, m2, rowsN_len, ht, ho, Nat.le_refl, List.mem_cons, List.not_mem_nil, or_false, forall_eq_or_imp, forall_eq, frzOk, frzOkC]; try simp) (args' := _) (by simp only [go_sem, Nat.reduceLT, Nat.reduceLeDiff, Nat.reduceEqDiff, Nat.reduceAdd, Nat.reduceMul, Nat.reduceSub, reduceCtorEq, rowsV_len, hre, hdq, hne0, hne1, n0, m0, n1, m1, n2, m2, rowsN_len, ht, ho, Nat.le_refl, frzA, frzC]; try rfl) (by first | fail) (by simp only [go_sem, Nat.reduceLT, Nat.reduceLeDiff, Nat.reduceEqDiff, Nat.reduceAdd, Nat.reduceMul, Nat.reduceSub, reduceCtorEq, rowsV_len, hre, hdq, hne0, hne1, n0, m0, n1, m1, n2, m2, rowsN_len, ht, ho, Nat.le_refl]; try simp) (by decide) ?_
          | simp only [go_sem, Nat.reduceLT, Nat.reduceLeDiff, Nat.reduceEqDiff, Nat.reduceAdd, Nat.reduceMul, Nat.reduceSub, reduceCtorEq, rowsV_len, hre, hdq, hne0, hne1, n0, m0, n1, m1, n2, m2, rowsN_len, ht, ho, Nat.le_refl]
          | simp (disch := omega) only [decide_eq_true_eq, if_pos, if_neg, wrap_id, le_maxLen, and_true, true_and, if_true, ite_true]
          | refine guard_split (by simp only [go_sem, Nat.reduceLT, Nat.reduceLeDiff, Nat.reduceEqDiff, Nat.reduceAdd, Nat.reduceMul, Nat.reduceSub, reduceCtorEq, rowsV_len, hre, hdq, hne0, hne1, n0, m0, n1, m1, n2, m2, rowsN_len, ht, ho, Nat.le_refl]) rfl (fun hb => ?_) (fun hb => ?_)
        refine nextB (i + 1, T) ⟨by simp only; omega, by simp only; omega⟩ (by simp only; omega) ?_ ?_ (by first | omega | (simp; try omega))
        · simp [updV, tmL, hw, hsu]
        · simp [updH, hpL, hsu, hne0, m0, n0, n1, m1]
          try omega
    · obtain rfl : i = w.log.length := by omega
      repeat' first
        | refine VWP_seq_k fun _ hK => ?_
        | refine VWP_region_k hT ?_
        | refine VWP_draw_k hT hM (by kernel_rfl) rfl ?_
        | refine VWP_block ?_
        | refine VWP_skip ?_
        | refine VWP_exit ?_
        | refine VWP_ret ?_
        | (refine hK _ ?_; clear hK)
        | (clear hK; refine hK _ ?_; clear hK)
        | (clear hK; clear hK; refine hK _ ?_; clear hK)
        | (clear hK; clear hK; clear hK; refine hK _ ?_; clear hK)
        | (simp only [decide_eq_true_eq, decide_eq_false_iff_not, bne_iff_ne, ne_eq, Bool.not_eq_true', Bool.not_eq_false', Bool.true_eq_false, Bool.false_eq_true, reduceCtorEq, not_true_eq_false, eq_self] at hb <;> try (exfalso; omega))
        | refine VWP_cond2 _ (by simp only [go_sem, Nat.reduceLT, Nat.reduceLeDiff, Nat.reduceEqDiff, Nat.reduceAdd, Nat.reduceMul, Nat.reduceSub, reduceCtorEq, rowsV_len, hne0, hne1]; rfl) (fun hb => ?_) (fun hb => ?_)
        | refine callK (by simp only [go_sem, Nat.reduceLT, Nat.reduceLeDiff, Nat.reduceEqDiff, Nat.reduceAdd, Nat.reduceMul, Nat.reduceSub, reduceCtorEq, rowsV_len, hne0, hne1, List.mem_cons, List.not_mem_nil, or_false, forall_eq_or_imp, forall_eq, frzOk, frzOkC]; try simp) (args' := _) (by simp only [go_sem, Nat.reduceLT, Nat.reduceLeDiff, Nat.reduceEqDiff, Nat.reduceAdd, Nat.reduceMul, Nat.reduceSub, reduceCtorEq, rowsV_len, hne0, hne1, frzA, frzC]; try rfl) (by first | fail) (by simp only [go_sem, Nat.reduceLT, Nat.reduceLeDiff, Nat.reduceEqDiff, Nat.reduceAdd, Nat.reduceMul, Nat.reduceSub, reduceCtorEq, rowsV_len, hne0, hne1]; try simp) (by decide) ?_
        | simp only [go_sem, Nat.reduceLT, Nat.reduceLeDiff, Nat.reduceEqDiff, Nat.reduceAdd, Nat.reduceMul, Nat.reduceSub, reduceCtorEq, rowsV_len, hne0, hne1]
        | simp (disch := omega) only [decide_eq_true_eq, if_pos, if_neg, wrap_id, le_maxLen, and_true, true_and, if_true, ite_true]
        | refine guard_split (by simp only [go_sem, Nat.reduceLT, Nat.reduceLeDiff, Nat.reduceEqDiff, Nat.reduceAdd, Nat.reduceMul, Nat.reduceSub, reduceCtorEq, rowsV_len, hne0, hne1]) rfl (fun hb => ?_) (fun hb => ?_)
      exact ret_rfs (T := T) (by simp only [go_sem, Nat.reduceLT, Nat.reduceLeDiff, Nat.reduceEqDiff, Nat.reduceAdd, Nat.reduceMul, Nat.reduceSub, reduceCtorEq, hne0, hne1]; try simp) (by simp only [go_sem, Nat.reduceLT, Nat.reduceLeDiff, Nat.reduceEqDiff, Nat.reduceAdd, Nat.reduceMul, Nat.reduceSub, reduceCtorEq]; try rfl) rfl (by simp only [go_sem, Nat.reduceLT, Nat.reduceLeDiff, Nat.reduceEqDiff, Nat.reduceAdd, Nat.reduceMul, Nat.reduceSub, reduceCtorEq, hne0, hne1]; try rfl) rfl (rowsN_len _).symm (rowsN_pur _)
theorem specCommits_ok (w : WorldD) (r : List Int × Bool) (hr : comsR w = r) (hs : w.tiny) : SatP Tryz.prog 7 [.agg (w.cells 3 67 70 72 91 120 137 55)] (.tup [.rf 0 r.1.length, .bool r.2]) [(3, rowsN r.1)] := by
  have hc := specWorldOk_ok w hs
  have f5 := hs.2.2.2.2
  refine satP_of_body hT Tryz.func7 (by kernel_rfl) rfl (rs := [.tmp 2, .tmp 3]) rfl (n := 35) rfl (by simp) rfl (by simpa using rowsN_pur r.1) fun E => ?_
  unfold St.init
  unfold WorldD.cells at *
  rcases (Bool.eq_false_or_eq_true (bP (WorldP w))).symm with hp | hp
  · rw [hp] at hc
    rw [comsR, if_neg (by rw [hp]; exact fun h => nomatch h)] at hr
    subst hr
    repeat' first
      | refine VWP_seq_k fun _ hK => ?_
      | refine VWP_region_k hT ?_
      | refine VWP_draw_k hT hM (by kernel_rfl) rfl ?_
      | refine VWP_block ?_
      | refine VWP_skip ?_
      | refine VWP_exit ?_
      | refine VWP_ret ?_
      | (refine hK _ ?_; clear hK)
      | (clear hK; refine hK _ ?_; clear hK)
      | (clear hK; clear hK; refine hK _ ?_; clear hK)
      | (clear hK; clear hK; clear hK; refine hK _ ?_; clear hK)
      | (simp only [decide_eq_true_eq, decide_eq_false_iff_not, bne_iff_ne, ne_eq, Bool.not_eq_true', Bool.not_eq_false', Bool.true_eq_false, Bool.false_eq_true, reduceCtorEq, not_true_eq_false, eq_self] at hb <;> try (exfalso; omega))
      | refine VWP_cond2 _ (by simp only [go_sem, Nat.reduceLT, Nat.reduceLeDiff, Nat.reduceEqDiff, Nat.reduceAdd, Nat.reduceMul, Nat.reduceSub, reduceCtorEq]; rfl) (fun hb => ?_) (fun hb => ?_)
      | refine callK (by simp only [go_sem, Nat.reduceLT, Nat.reduceLeDiff, Nat.reduceEqDiff, Nat.reduceAdd, Nat.reduceMul, Nat.reduceSub, reduceCtorEq, List.mem_cons, List.not_mem_nil, or_false, forall_eq_or_imp, forall_eq, frzOk, frzOkC]; try simp) (args' := _) (by simp only [go_sem, Nat.reduceLT, Nat.reduceLeDiff, Nat.reduceEqDiff, Nat.reduceAdd, Nat.reduceMul, Nat.reduceSub, reduceCtorEq, frzA, frzC]; try rfl) (by first | exact hc) (by simp only [go_sem, Nat.reduceLT, Nat.reduceLeDiff, Nat.reduceEqDiff, Nat.reduceAdd, Nat.reduceMul, Nat.reduceSub, reduceCtorEq]; try simp) (by decide) ?_
      | simp only [go_sem, Nat.reduceLT, Nat.reduceLeDiff, Nat.reduceEqDiff, Nat.reduceAdd, Nat.reduceMul, Nat.reduceSub, reduceCtorEq]
      | simp (disch := omega) only [decide_eq_true_eq, if_pos, if_neg, wrap_id, le_maxLen, and_true, true_and, if_true, ite_true]
      | refine guard_split (by simp only [go_sem, Nat.reduceLT, Nat.reduceLeDiff, Nat.reduceEqDiff, Nat.reduceAdd, Nat.reduceMul, Nat.reduceSub, reduceCtorEq]) rfl (fun hb => ?_) (fun hb => ?_)
    refine ret_mk (vs := _) (acc := _) (by simp only [go_sem, Nat.reduceLT, Nat.reduceLeDiff, Nat.reduceEqDiff, Nat.reduceAdd, Nat.reduceMul, Nat.reduceSub, reduceCtorEq, vres]; rfl) (by simp only [go_sem, Nat.reduceLT, Nat.reduceLeDiff, Nat.reduceEqDiff, Nat.reduceAdd, Nat.reduceMul, Nat.reduceSub, reduceCtorEq, wrap, exV, exAs, exA, exCs, exC]; rfl) (by simp) (by simp [rowsN]) (by simp [rowsN_pur])
  · rw [hp] at hc
    rw [comsR, if_pos hp] at hr
    subst hr
    repeat' first
      | refine VWP_seq_k fun _ hK => ?_
      | refine VWP_region_k hT ?_
      | refine VWP_draw_k hT hM (by kernel_rfl) rfl ?_
      | refine VWP_block ?_
      | refine VWP_skip ?_
      | refine VWP_exit ?_
      | refine VWP_ret ?_
      | (refine hK _ ?_; clear hK)
      | (clear hK; refine hK _ ?_; clear hK)
      | (clear hK; clear hK; refine hK _ ?_; clear hK)
      | (clear hK; clear hK; clear hK; refine hK _ ?_; clear hK)
      | (simp only [decide_eq_true_eq, decide_eq_false_iff_not, bne_iff_ne, ne_eq, Bool.not_eq_true', Bool.not_eq_false', Bool.true_eq_false, Bool.false_eq_true, reduceCtorEq, not_true_eq_false, eq_self] at hb <;> try (exfalso; omega))
      | refine VWP_cond2 _ (by simp only [go_sem, Nat.reduceLT, Nat.reduceLeDiff, Nat.reduceEqDiff, Nat.reduceAdd, Nat.reduceMul, Nat.reduceSub, reduceCtorEq, rowsV_len]; rfl) (fun hb => ?_) (fun hb => ?_)
      | refine callK (by simp only [go_sem, Nat.reduceLT, Nat.reduceLeDiff, Nat.reduceEqDiff, Nat.reduceAdd, Nat.reduceMul, Nat.reduceSub, reduceCtorEq, rowsV_len, List.mem_cons, List.not_mem_nil, or_false, forall_eq_or_imp, forall_eq, frzOk, frzOkC]; try simp) (args' := _) (by simp only [go_sem, Nat.reduceLT, Nat.reduceLeDiff, Nat.reduceEqDiff, Nat.reduceAdd, Nat.reduceMul, Nat.reduceSub, reduceCtorEq, rowsV_len, frzA, frzC]; try rfl) (by first | exact hc) (by simp only [go_sem, Nat.reduceLT, Nat.reduceLeDiff, Nat.reduceEqDiff, Nat.reduceAdd, Nat.reduceMul, Nat.reduceSub, reduceCtorEq, rowsV_len]; try simp) (by decide) ?_
      | simp only [go_sem, Nat.reduceLT, Nat.reduceLeDiff, Nat.reduceEqDiff, Nat.reduceAdd, Nat.reduceMul, Nat.reduceSub, reduceCtorEq, rowsV_len]
      | simp (disch := omega) only [decide_eq_true_eq, if_pos, if_neg, wrap_id, le_maxLen, and_true, true_and, if_true, ite_true]
      | refine guard_split (by simp only [go_sem, Nat.reduceLT, Nat.reduceLeDiff, Nat.reduceEqDiff, Nat.reduceAdd, Nat.reduceMul, Nat.reduceSub, reduceCtorEq, rowsV_len]) rfl (fun hb => ?_) (fun hb => ?_)
    refine VWP_loopB (X := Nat × Nat) (fun x => [(1, .bp 0 0), (4, .rf x.2 (comsN w.log x.1).length), (5, .int .i64 x.1)]) (fun x => [(0, .box [.fr 3 (rowsN w.first), .fr 67 (rowsH w.store.heads), .fr 70 (rowsD 72 w.store.descs), .fr 91 (rowsTh 120 72 137 w.threads), .fr 55 (rowsV w.log)]), (x.2, .root 3 (rowsN (comsN w.log x.1)))]) (fun x => w.log.length - x.1)
      (fun x => x.1 ≤ w.log.length ∧ 1 ≤ x.2) (fun x => x.2 + 1) (0, 1) ⟨by simp, by simp⟩ (by simp [updV, comsN]) (by simp [updH, comsN, rowsN]) (by simp) ?_
    rintro ⟨i, T⟩ nx ⟨hi, hTg⟩ hB
    simp only at hi hTg hB
    have hne0 : (0 : Nat) ≠ T := by omega
    have hne1 : T ≠ 0 := by omega
    have hw := wrap_id (x := (i : Int) + 1) (by omega)
    rcases Nat.lt_or_ge i w.log.length with hlt | hge
    · obtain ⟨e, he⟩ : ∃ e, w.log[i]? = some e := ⟨_, List.getElem?_eq_getElem hlt⟩
      have hre := rowsV_at he
      have n0 : nx ≠ 0 := by omega
      have m0 : (0 : Nat) ≠ nx := by omega
      have n1 : nx ≠ T := by omega
      have m1 : T ≠ nx := by omega
      have n2 : nx + 1 ≠ T := by omega
      have m2 : T ≠ nx + 1 := by omega
      have n3 : nx + 1 + 1 ≠ T := by omega
      have m3 : T ≠ nx + 1 + 1 := by omega
      have hln := comsN_len w.log i
      have ht := rowsN_take (comsN w.log i)
      have ho := rowsN_one (comsN w.log i) e.object
      by_cases hd : e.kind = 3
      · have hsu := comsN_yes he hd
        repeat' first
          | refine VWP_seq_k fun _ hK => ?_
          | refine VWP_region_k hT ?_
          | refine VWP_draw_k hT hM (by kernel_rfl) rfl ?_
          | refine VWP_block ?_
          | refine VWP_skip ?_
          | refine VWP_exit ?_
          | refine VWP_ret ?_
          | (refine hK _ ?_; clear hK)
          | (clear hK; refine hK _ ?_; clear hK)
          | (clear hK; clear hK; refine hK _ ?_; clear hK)
          | (clear hK; clear hK; clear hK; refine hK _ ?_; clear hK)
          | (simp only [decide_eq_true_eq, decide_eq_false_iff_not, bne_iff_ne, ne_eq, Bool.not_eq_true', Bool.not_eq_false', Bool.true_eq_false, Bool.false_eq_true, reduceCtorEq, not_true_eq_false, eq_self] at hb <;> try (exfalso; omega))
          | refine VWP_cond2 _ (by simp only [go_sem, Nat.reduceLT, Nat.reduceLeDiff, Nat.reduceEqDiff, Nat.reduceAdd, Nat.reduceMul, Nat.reduceSub, reduceCtorEq, rowsV_len, hre, hd, hne0, hne1, n0, m0, n1, m1, n2, m2, n3, m3, rowsN_len, ht, ho, Nat.le_refl, Int.reduceBEq]; rfl) (fun hb => ?_) (fun hb => ?_)
          | refine callK (by simp only [go_sem, Nat.reduceLT, Nat.reduceLeDiff, Nat.reduceEqDiff, Nat.reduceAdd, Nat.reduceMul, Nat.reduceSub, reduceCtorEq, rowsV_len, hre, hd, hne0, hne1, n0, m0, n1, m1, n2, m2, n3, m3, rowsN_len, ht, ho, Nat.le_refl, Int.reduceBEq, List.mem_cons, List.not_mem_nil, or_false, forall_eq_or_imp, forall_eq, frzOk, frzOkC]; try simp) (args' := _) (by simp only [go_sem, Nat.reduceLT, Nat.reduceLeDiff, Nat.reduceEqDiff, Nat.reduceAdd, Nat.reduceMul, Nat.reduceSub, reduceCtorEq, rowsV_len, hre, hd, hne0, hne1, n0, m0, n1, m1, n2, m2, n3, m3, rowsN_len, ht, ho, Nat.le_refl, Int.reduceBEq, frzA, frzC]; try rfl) (by first | fail) (by simp only [go_sem, Nat.reduceLT, Nat.reduceLeDiff, Nat.reduceEqDiff, Nat.reduceAdd, Nat.reduceMul, Nat.reduceSub, reduceCtorEq, rowsV_len, hre, hd, hne0, hne1, n0, m0, n1, m1, n2, m2, n3, m3, rowsN_len, ht, ho, Nat.le_refl, Int.reduceBEq]; try simp) (by decide) ?_
          | simp only [go_sem, Nat.reduceLT, Nat.reduceLeDiff, Nat.reduceEqDiff, Nat.reduceAdd, Nat.reduceMul, Nat.reduceSub, reduceCtorEq, rowsV_len, hre, hd, hne0, hne1, n0, m0, n1, m1, n2, m2, n3, m3, rowsN_len, ht, ho, Nat.le_refl, Int.reduceBEq]
          | simp (disch := omega) only [decide_eq_true_eq, if_pos, if_neg, wrap_id, le_maxLen, and_true, true_and, if_true, ite_true]
          | refine guard_split (by simp only [go_sem, Nat.reduceLT, Nat.reduceLeDiff, Nat.reduceEqDiff, Nat.reduceAdd, Nat.reduceMul, Nat.reduceSub, reduceCtorEq, rowsV_len, hre, hd, hne0, hne1, n0, m0, n1, m1, n2, m2, n3, m3, rowsN_len, ht, ho, Nat.le_refl, Int.reduceBEq]) rfl (fun hb => ?_) (fun hb => ?_)
        refine nextB (i + 1, nx + 1) ⟨by simp only; omega, by simp only; omega⟩ (by simp only; omega) ?_ ?_ (by first | omega | (simp; try omega))
        · simp [updV, tmL, hw, hsu]
        · simp [updH, hpL, hsu, hne0, m0, n0, n1, m1, n2, m2, n3, m3]
          try omega
      · have hdq : (e.kind == 3) = false := by simpa using hd
        have hsu := comsN_no he hd
        repeat' first
          | refine VWP_seq_k fun _ hK => ?_
          | refine VWP_region_k hT ?_
          | refine VWP_draw_k hT hM (by kernel_rfl) rfl ?_
          | refine VWP_block ?_
          | refine VWP_skip ?_
          | refine VWP_exit ?_
          | refine VWP_ret ?_
          | (refine hK _ ?_; clear hK)
          | (clear hK; refine hK _ ?_; clear hK)
          | (clear hK; clear hK; refine hK _ ?_; clear hK)
          | (clear hK; clear hK; clear hK; refine hK _ ?_; clear hK)
          | (simp only [decide_eq_true_eq, decide_eq_false_iff_not, bne_iff_ne, ne_eq, Bool.not_eq_true', Bool.not_eq_false', Bool.true_eq_false, Bool.false_eq_true, reduceCtorEq, not_true_eq_false, eq_self] at hb <;> try (exfalso; omega))
          | refine VWP_cond2 _ (by simp only [go_sem, Nat.reduceLT, Nat.reduceLeDiff, Nat.reduceEqDiff, Nat.reduceAdd, Nat.reduceMul, Nat.reduceSub, reduceCtorEq, rowsV_len, hre, hdq, hne0, hne1, n0, m0, n1, m1, n2, m2, rowsN_len, ht, ho, Nat.le_refl]; rfl) (fun hb => ?_) (fun hb => ?_)
          | refine callK (by simp only [go_sem, Nat.reduceLT, Nat.reduceLeDiff, Nat.reduceEqDiff, Nat.reduceAdd, Nat.reduceMul, Nat.reduceSub, reduceCtorEq, rowsV_len, hre, hdq, hne0, hne1, n0, m0, n1, m1, n2, m2, rowsN_len, ht, ho, Nat.le_refl, List.mem_cons, List.not_mem_nil, or_false, forall_eq_or_imp, forall_eq, frzOk, frzOkC]; try simp) (args' := _) (by simp only [go_sem, Nat.reduceLT, Nat.reduceLeDiff, Nat.reduceEqDiff, Nat.reduceAdd, Nat.reduceMul, Nat.reduceSub, reduceCtorEq, rowsV_len, hre, hdq, hne0, hne1, n0, m0, n1, m1, n2, m2, rowsN_len, ht, ho, Nat.le_refl, frzA, frzC]; try rfl) (by first | fail) (by simp only [go_sem, Nat.reduceLT, Nat.reduceLeDiff, Nat.reduceEqDiff, Nat.reduceAdd, Nat.reduceMul, Nat.reduceSub, reduceCtorEq, rowsV_len, hre, hdq, hne0, hne1, n0, m0, n1, m1, n2, m2, rowsN_len, ht, ho, Nat.le_refl]; try simp) (by decide) ?_
          | simp only [go_sem, Nat.reduceLT, Nat.reduceLeDiff, Nat.reduceEqDiff, Nat.reduceAdd, Nat.reduceMul, Nat.reduceSub, reduceCtorEq, rowsV_len, hre, hdq, hne0, hne1, n0, m0, n1, m1, n2, m2, rowsN_len, ht, ho, Nat.le_refl]
          | simp (disch := omega) only [decide_eq_true_eq, if_pos, if_neg, wrap_id, le_maxLen, and_true, true_and, if_true, ite_true]
          | refine guard_split (by simp only [go_sem, Nat.reduceLT, Nat.reduceLeDiff, Nat.reduceEqDiff, Nat.reduceAdd, Nat.reduceMul, Nat.reduceSub, reduceCtorEq, rowsV_len, hre, hdq, hne0, hne1, n0, m0, n1, m1, n2, m2, rowsN_len, ht, ho, Nat.le_refl]) rfl (fun hb => ?_) (fun hb => ?_)
        refine nextB (i + 1, T) ⟨by simp only; omega, by simp only; omega⟩ (by simp only; omega) ?_ ?_ (by first | omega | (simp; try omega))
        · simp [updV, tmL, hw, hsu]
        · simp [updH, hpL, hsu, hne0, m0, n0, n1, m1]
          try omega
    · obtain rfl : i = w.log.length := by omega
      repeat' first
        | refine VWP_seq_k fun _ hK => ?_
        | refine VWP_region_k hT ?_
        | refine VWP_draw_k hT hM (by kernel_rfl) rfl ?_
        | refine VWP_block ?_
        | refine VWP_skip ?_
        | refine VWP_exit ?_
        | refine VWP_ret ?_
        | (refine hK _ ?_; clear hK)
        | (clear hK; refine hK _ ?_; clear hK)
        | (clear hK; clear hK; refine hK _ ?_; clear hK)
        | (clear hK; clear hK; clear hK; refine hK _ ?_; clear hK)
        | (simp only [decide_eq_true_eq, decide_eq_false_iff_not, bne_iff_ne, ne_eq, Bool.not_eq_true', Bool.not_eq_false', Bool.true_eq_false, Bool.false_eq_true, reduceCtorEq, not_true_eq_false, eq_self] at hb <;> try (exfalso; omega))
        | refine VWP_cond2 _ (by simp only [go_sem, Nat.reduceLT, Nat.reduceLeDiff, Nat.reduceEqDiff, Nat.reduceAdd, Nat.reduceMul, Nat.reduceSub, reduceCtorEq, rowsV_len, hne0, hne1]; rfl) (fun hb => ?_) (fun hb => ?_)
        | refine callK (by simp only [go_sem, Nat.reduceLT, Nat.reduceLeDiff, Nat.reduceEqDiff, Nat.reduceAdd, Nat.reduceMul, Nat.reduceSub, reduceCtorEq, rowsV_len, hne0, hne1, List.mem_cons, List.not_mem_nil, or_false, forall_eq_or_imp, forall_eq, frzOk, frzOkC]; try simp) (args' := _) (by simp only [go_sem, Nat.reduceLT, Nat.reduceLeDiff, Nat.reduceEqDiff, Nat.reduceAdd, Nat.reduceMul, Nat.reduceSub, reduceCtorEq, rowsV_len, hne0, hne1, frzA, frzC]; try rfl) (by first | fail) (by simp only [go_sem, Nat.reduceLT, Nat.reduceLeDiff, Nat.reduceEqDiff, Nat.reduceAdd, Nat.reduceMul, Nat.reduceSub, reduceCtorEq, rowsV_len, hne0, hne1]; try simp) (by decide) ?_
        | simp only [go_sem, Nat.reduceLT, Nat.reduceLeDiff, Nat.reduceEqDiff, Nat.reduceAdd, Nat.reduceMul, Nat.reduceSub, reduceCtorEq, rowsV_len, hne0, hne1]
        | simp (disch := omega) only [decide_eq_true_eq, if_pos, if_neg, wrap_id, le_maxLen, and_true, true_and, if_true, ite_true]
        | refine guard_split (by simp only [go_sem, Nat.reduceLT, Nat.reduceLeDiff, Nat.reduceEqDiff, Nat.reduceAdd, Nat.reduceMul, Nat.reduceSub, reduceCtorEq, rowsV_len, hne0, hne1]) rfl (fun hb => ?_) (fun hb => ?_)
      exact ret_rfs (T := T) (by simp only [go_sem, Nat.reduceLT, Nat.reduceLeDiff, Nat.reduceEqDiff, Nat.reduceAdd, Nat.reduceMul, Nat.reduceSub, reduceCtorEq, hne0, hne1]; try simp) (by simp only [go_sem, Nat.reduceLT, Nat.reduceLeDiff, Nat.reduceEqDiff, Nat.reduceAdd, Nat.reduceMul, Nat.reduceSub, reduceCtorEq]; try rfl) rfl (by simp only [go_sem, Nat.reduceLT, Nat.reduceLeDiff, Nat.reduceEqDiff, Nat.reduceAdd, Nat.reduceMul, Nat.reduceSub, reduceCtorEq, hne0, hne1]; try rfl) rfl (rowsN_len _).symm (rowsN_pur _)
theorem commitsLaw_ok (w : WorldD) (hf : w.fits) : SatP Tryz.prog 3 [.agg (w.cells 3 122 111 145 85 143 147 97)] (.bool true) [] := by
  obtain ⟨z1, z2⟩ := szW_tiny (w := w) (left := 1048576) (by omega) (by omega)
  have hc := szWorld_ok w 1048576 (by omega) (by omega) hf
  refine satP_of_body hT Tryz.func3 (by kernel_rfl) rfl (rs := [.tmp 2]) rfl (n := 96) rfl (by simp) rfl (by simp) fun E => ?_
  unfold St.init
  rcases Int.lt_or_le (szW w 1048576) 0 with hbig | hsm
  · have hz2 := z2 hbig
    rw [hz2] at hc
    unfold WorldD.cells at *
    repeat' first
      | refine VWP_seq_k fun _ hK => ?_
      | refine VWP_region_k hT ?_
      | refine VWP_draw_k hT hM (by kernel_rfl) rfl ?_
      | refine VWP_block ?_
      | refine VWP_skip ?_
      | refine VWP_exit ?_
      | refine VWP_ret ?_
      | (refine hK _ ?_; clear hK)
      | (clear hK; refine hK _ ?_; clear hK)
      | (clear hK; clear hK; refine hK _ ?_; clear hK)
      | (clear hK; clear hK; clear hK; refine hK _ ?_; clear hK)
      | (simp only [decide_eq_true_eq, decide_eq_false_iff_not, bne_iff_ne, ne_eq, Bool.not_eq_true', Bool.not_eq_false', Bool.true_eq_false, Bool.false_eq_true, reduceCtorEq, not_true_eq_false, eq_self] at hb <;> try (exfalso; omega))
      | refine VWP_cond2 _ (by simp only [go_sem, Nat.reduceLT, Nat.reduceLeDiff, Nat.reduceEqDiff, Nat.reduceAdd, Nat.reduceMul, Nat.reduceSub, reduceCtorEq]; rfl) (fun hb => ?_) (fun hb => ?_)
      | refine callK (by simp only [go_sem, Nat.reduceLT, Nat.reduceLeDiff, Nat.reduceEqDiff, Nat.reduceAdd, Nat.reduceMul, Nat.reduceSub, reduceCtorEq, List.mem_cons, List.not_mem_nil, or_false, forall_eq_or_imp, forall_eq, frzOk, frzOkC]; try simp) (args' := _) (by simp only [go_sem, Nat.reduceLT, Nat.reduceLeDiff, Nat.reduceEqDiff, Nat.reduceAdd, Nat.reduceMul, Nat.reduceSub, reduceCtorEq, frzA, frzC]; try rfl) (by first | exact hc) (by simp only [go_sem, Nat.reduceLT, Nat.reduceLeDiff, Nat.reduceEqDiff, Nat.reduceAdd, Nat.reduceMul, Nat.reduceSub, reduceCtorEq]; try simp) (by decide) ?_
      | simp only [go_sem, Nat.reduceLT, Nat.reduceLeDiff, Nat.reduceEqDiff, Nat.reduceAdd, Nat.reduceMul, Nat.reduceSub, reduceCtorEq]
      | simp (disch := omega) only [decide_eq_true_eq, if_pos, if_neg, wrap_id, le_maxLen, and_true, true_and, if_true, ite_true]
      | refine guard_split (by simp only [go_sem, Nat.reduceLT, Nat.reduceLeDiff, Nat.reduceEqDiff, Nat.reduceAdd, Nat.reduceMul, Nat.reduceSub, reduceCtorEq]) rfl (fun hb => ?_) (fun hb => ?_)
    refine ret_scal (by simp only [go_sem, Nat.reduceLT, Nat.reduceLeDiff, Nat.reduceEqDiff, Nat.reduceAdd, Nat.reduceMul, Nat.reduceSub, reduceCtorEq]; rfl) rfl ?_
    rfl
  · have hn : ¬ szW w 1048576 < 0 := by omega
    have hs := z1 hsm
    obtain ⟨r, hr⟩ : ∃ r, comsR w = r := ⟨_, rfl⟩
    have hln : r.1.length ≤ 1048576 := by
      rw [← hr]
      unfold comsR
      split
      · exact Nat.le_trans (comsN_len _ _) hs.2.2.2.2
      · simp
    have ht := toWorld_ok w hs
    have hi := implCommits_ok w r hr hs
    have hp := specCommits_ok w r hr hs
    have hq := eqWorld_ok w w hs
    have hm := markWorld_ok w 1 (by omega) (by omega) hs
    obtain ⟨out, ok⟩ := r
    simp only at hi hp hln
    have hmt := rowsN_take (marksN 1 out.length)
    rw [marksN_len] at hmt
    obtain ⟨f1, ⟨s1, s2, s3⟩, f3, f4, f5⟩ := hs
    have hnk : ¬ 1 + (w.first.length : Int) + cntS w.store + (mkN w.threads : Int) + 4 * w.log.length < 0 := by
      have := (cntD_le w.store.descs (Nat.le_refl _)).1
      unfold cntS
      omega
    unfold WorldD.cells at *
    repeat' first
      | refine VWP_seq_k fun _ hK => ?_
      | refine VWP_region_k hT ?_
      | refine VWP_draw_k hT hM (by kernel_rfl) rfl ?_
      | refine VWP_block ?_
      | refine VWP_skip ?_
      | refine VWP_exit ?_
      | refine VWP_ret ?_
      | (refine hK _ ?_; clear hK)
      | (clear hK; refine hK _ ?_; clear hK)
      | (clear hK; clear hK; refine hK _ ?_; clear hK)
      | (clear hK; clear hK; clear hK; refine hK _ ?_; clear hK)
      | (simp only [decide_eq_true_eq, decide_eq_false_iff_not, bne_iff_ne, ne_eq, Bool.not_eq_true', Bool.not_eq_false', Bool.true_eq_false, Bool.false_eq_true, reduceCtorEq, not_true_eq_false, eq_self] at hb <;> try (exfalso; omega))
      | refine VWP_cond2 _ (by simp only [go_sem, Nat.reduceLT, Nat.reduceLeDiff, Nat.reduceEqDiff, Nat.reduceAdd, Nat.reduceMul, Nat.reduceSub, reduceCtorEq, hn, hmt, hnk, rowsN_len, rowsN_pur, rowsN_take, rowsH_len, rowsH_pur, rowsH_take, rowsD_len, rowsD_pur, rowsD_take, rowsTh_len, rowsTh_pur, rowsTh_take, rowsV_len, rowsV_pur, rowsV_take, marksN_len, Nat.le_refl]; rfl) (fun hb => ?_) (fun hb => ?_)
      | refine callK (by simp only [go_sem, Nat.reduceLT, Nat.reduceLeDiff, Nat.reduceEqDiff, Nat.reduceAdd, Nat.reduceMul, Nat.reduceSub, reduceCtorEq, hn, hmt, hnk, rowsN_len, rowsN_pur, rowsN_take, rowsH_len, rowsH_pur, rowsH_take, rowsD_len, rowsD_pur, rowsD_take, rowsTh_len, rowsTh_pur, rowsTh_take, rowsV_len, rowsV_pur, rowsV_take, marksN_len, Nat.le_refl, List.mem_cons, List.not_mem_nil, or_false, forall_eq_or_imp, forall_eq, frzOk, frzOkC]; try simp) (args' := _) (by simp only [go_sem, Nat.reduceLT, Nat.reduceLeDiff, Nat.reduceEqDiff, Nat.reduceAdd, Nat.reduceMul, Nat.reduceSub, reduceCtorEq, hn, hmt, hnk, rowsN_len, rowsN_pur, rowsN_take, rowsH_len, rowsH_pur, rowsH_take, rowsD_len, rowsD_pur, rowsD_take, rowsTh_len, rowsTh_pur, rowsTh_take, rowsV_len, rowsV_pur, rowsV_take, marksN_len, Nat.le_refl, frzA, frzC]; try rfl) (by first | exact hc | exact ht | exact hi | exact hp | exact hq | exact eqIntS_ok out out (by omega) | exact heldIntS_ok out.length 1 (by omega) (by omega) (by omega)) (by simp only [go_sem, Nat.reduceLT, Nat.reduceLeDiff, Nat.reduceEqDiff, Nat.reduceAdd, Nat.reduceMul, Nat.reduceSub, reduceCtorEq, hn, hmt, hnk, rowsN_len, rowsN_pur, rowsN_take, rowsH_len, rowsH_pur, rowsH_take, rowsD_len, rowsD_pur, rowsD_take, rowsTh_len, rowsTh_pur, rowsTh_take, rowsV_len, rowsV_pur, rowsV_take, marksN_len, Nat.le_refl]; try simp) (by decide) ?_
      | refine callO [7, 8, 9, 10, 11] (by simp) (by simp only [go_sem, Nat.reduceLT, Nat.reduceLeDiff, Nat.reduceEqDiff, Nat.reduceAdd, Nat.reduceMul, Nat.reduceSub, reduceCtorEq, hn, hmt, hnk, rowsN_len, rowsN_pur, rowsN_take, rowsH_len, rowsH_pur, rowsH_take, rowsD_len, rowsD_pur, rowsD_take, rowsTh_len, rowsTh_pur, rowsTh_take, rowsV_len, rowsV_pur, rowsV_take, marksN_len, Nat.le_refl, List.mem_cons, List.not_mem_nil, or_false, forall_eq_or_imp, forall_eq, viewOkE, viewOkC]; try simp) (by simp only [go_sem, Nat.reduceLT, Nat.reduceLeDiff, Nat.reduceEqDiff, Nat.reduceAdd, Nat.reduceMul, Nat.reduceSub, reduceCtorEq, hn, hmt, hnk, rowsN_len, rowsN_pur, rowsN_take, rowsH_len, rowsH_pur, rowsH_take, rowsD_len, rowsD_pur, rowsD_take, rowsTh_len, rowsTh_pur, rowsTh_take, rowsV_len, rowsV_pur, rowsV_take, marksN_len, Nat.le_refl, List.mem_cons, List.not_mem_nil, or_false, forall_eq_or_imp, forall_eq, viewOk, viewOkC, frzOk, frzOkC]; try simp) (args' := _) (by simp only [go_sem, Nat.reduceLT, Nat.reduceLeDiff, Nat.reduceEqDiff, Nat.reduceAdd, Nat.reduceMul, Nat.reduceSub, reduceCtorEq, hn, hmt, hnk, rowsN_len, rowsN_pur, rowsN_take, rowsH_len, rowsH_pur, rowsH_take, rowsD_len, rowsD_pur, rowsD_take, rowsTh_len, rowsTh_pur, rowsTh_take, rowsV_len, rowsV_pur, rowsV_take, marksN_len, Nat.le_refl, frzA, frzC]; try rfl) (I := _) (by simp only [go_sem, Nat.reduceLT, Nat.reduceLeDiff, Nat.reduceEqDiff, Nat.reduceAdd, Nat.reduceMul, Nat.reduceSub, reduceCtorEq, hn, hmt, hnk, rowsN_len, rowsN_pur, rowsN_take, rowsH_len, rowsH_pur, rowsH_take, rowsD_len, rowsD_pur, rowsD_take, rowsTh_len, rowsTh_pur, rowsTh_take, rowsV_len, rowsV_pur, rowsV_take, marksN_len, Nat.le_refl]; try rfl) (by exact hm) (by decide) ?_
      | refine callO [13] (by simp) (by simp only [go_sem, Nat.reduceLT, Nat.reduceLeDiff, Nat.reduceEqDiff, Nat.reduceAdd, Nat.reduceMul, Nat.reduceSub, reduceCtorEq, hn, hmt, hnk, rowsN_len, rowsN_pur, rowsN_take, rowsH_len, rowsH_pur, rowsH_take, rowsD_len, rowsD_pur, rowsD_take, rowsTh_len, rowsTh_pur, rowsTh_take, rowsV_len, rowsV_pur, rowsV_take, marksN_len, Nat.le_refl, List.mem_cons, List.not_mem_nil, or_false, forall_eq_or_imp, forall_eq, viewOkE, viewOkC]; try simp) (by simp only [go_sem, Nat.reduceLT, Nat.reduceLeDiff, Nat.reduceEqDiff, Nat.reduceAdd, Nat.reduceMul, Nat.reduceSub, reduceCtorEq, hn, hmt, hnk, rowsN_len, rowsN_pur, rowsN_take, rowsH_len, rowsH_pur, rowsH_take, rowsD_len, rowsD_pur, rowsD_take, rowsTh_len, rowsTh_pur, rowsTh_take, rowsV_len, rowsV_pur, rowsV_take, marksN_len, Nat.le_refl, List.mem_cons, List.not_mem_nil, or_false, forall_eq_or_imp, forall_eq, viewOk, viewOkC, frzOk, frzOkC]; try simp) (args' := _) (by simp only [go_sem, Nat.reduceLT, Nat.reduceLeDiff, Nat.reduceEqDiff, Nat.reduceAdd, Nat.reduceMul, Nat.reduceSub, reduceCtorEq, hn, hmt, hnk, rowsN_len, rowsN_pur, rowsN_take, rowsH_len, rowsH_pur, rowsH_take, rowsD_len, rowsD_pur, rowsD_take, rowsTh_len, rowsTh_pur, rowsTh_take, rowsV_len, rowsV_pur, rowsV_take, marksN_len, Nat.le_refl, frzA, frzC]; try rfl) (I := _) (by simp only [go_sem, Nat.reduceLT, Nat.reduceLeDiff, Nat.reduceEqDiff, Nat.reduceAdd, Nat.reduceMul, Nat.reduceSub, reduceCtorEq, hn, hmt, hnk, rowsN_len, rowsN_pur, rowsN_take, rowsH_len, rowsH_pur, rowsH_take, rowsD_len, rowsD_pur, rowsD_take, rowsTh_len, rowsTh_pur, rowsTh_take, rowsV_len, rowsV_pur, rowsV_take, marksN_len, Nat.le_refl]; try rfl) (by exact markIntS_ok out 1 (by omega) (by omega) (by omega)) (by decide) ?_
      | simp only [go_sem, Nat.reduceLT, Nat.reduceLeDiff, Nat.reduceEqDiff, Nat.reduceAdd, Nat.reduceMul, Nat.reduceSub, reduceCtorEq, hn, hmt, hnk, rowsN_len, rowsN_pur, rowsN_take, rowsH_len, rowsH_pur, rowsH_take, rowsD_len, rowsD_pur, rowsD_take, rowsTh_len, rowsTh_pur, rowsTh_take, rowsV_len, rowsV_pur, rowsV_take, marksN_len, Nat.le_refl]
      | simp (disch := omega) only [decide_eq_true_eq, if_pos, if_neg, wrap_id, le_maxLen, and_true, true_and, if_true, ite_true]
      | refine guard_split (by simp only [go_sem, Nat.reduceLT, Nat.reduceLeDiff, Nat.reduceEqDiff, Nat.reduceAdd, Nat.reduceMul, Nat.reduceSub, reduceCtorEq, hn, hmt, hnk, rowsN_len, rowsN_pur, rowsN_take, rowsH_len, rowsH_pur, rowsH_take, rowsD_len, rowsD_pur, rowsD_take, rowsTh_len, rowsTh_pur, rowsTh_take, rowsV_len, rowsV_pur, rowsV_take, marksN_len, Nat.le_refl]) rfl (fun hb => ?_) (fun hb => ?_)
    refine ret_scal (by simp only [go_sem, Nat.reduceLT, Nat.reduceLeDiff, Nat.reduceEqDiff, Nat.reduceAdd, Nat.reduceMul, Nat.reduceSub, reduceCtorEq]; rfl) rfl ?_
    rfl
end Go.Proofs.YtclljpdcpcolpaaGreat
