/- What the reference's Announce gives, and the law on values. -/
import Derived.Test.YtclljpdcpcolpaaLC
namespace Go.Proofs.Ytclljpdcpcolpaa
open Go Go.RowKit
set_option linter.unusedVariables false
set_option linter.unusedSimpArgs false
set_option maxRecDepth 100000
set_option maxHeartbeats 4000000
attribute [local irreducible] VWP vops vdraw contV contD CallK Guard GuardV NextL Puts Runs RetOK RetQ RetO RetQO thenQ blockQ

theorem rowsD_ones (te : TypeId) (ds : List DescS) (r : List PT) : (rowsD te ds ++ [r]).length = ds.length + 1 := by simp [rowsD]
theorem specAnnounce_ok (s : StoreD) (d : DescS) (r : StoreD × Int × Bool) (hr : announceL s d = r) (hs : s.small) (hd : d.entries.length ≤ 1048576) :
    SatP Try.prog 34 [.agg (s.cells 125 62 131), .agg (d.cells 131)]
      (.tup [.agg [.rf 0 r.1.heads.length, .rf 1 r.1.descs.length], .int .i64 r.2.1, .bool r.2.2]) [(125, rowsH r.1.heads), (62, rowsD 131 r.1.descs)] := by
  have hc := specStoreOk_ok s hs
  have hf := specDescOk_ok d hd
  have ho := l7Copy_ok s hs
  have hod := l6Copy_ok d.entries (by omega)
  obtain ⟨f1, f2, f3⟩ := hs
  refine satP_of_body hT Try.func34 (by kernel_rfl) rfl (rs := [.cell 4 44, .tmp 5, .tmp 6]) rfl (n := 60) rfl (by simp) rfl (by simp [rowsH_pur, rowsD_pur]) fun E => ?_
  unfold St.init
  unfold StoreD.cells DescS.cells at *
  cases hp : bP (StoreP s) with
  | false =>
    rw [hp] at hc
    rw [ann_no (by simp [annB, hp])] at hr
    subst hr
    repeat' first
      | refine VWP_seq_k fun _ hK => ?_
      | refine VWP_region_k hT ?_
      | refine VWP_draw_k hT hM (by kernel_rfl) rfl ?_
      | refine VWP_block ?_
      | refine VWP_skip ?_
      | refine VWP_exit ?_
      | refine VWP_ret ?_
      | (refine hK _ ?_; clear hK)
      | (clear hK; refine hK _ ?_; clear hK)
      | (clear hK; clear hK; refine hK _ ?_; clear hK)
      | (clear hK; clear hK; clear hK; refine hK _ ?_; clear hK)
      | (simp only [decide_eq_true_eq, decide_eq_false_iff_not, bne_iff_ne, ne_eq, Bool.not_eq_true', Bool.not_eq_false', Bool.true_eq_false, Bool.false_eq_true, reduceCtorEq, not_true_eq_false, eq_self] at hb <;> try (exfalso; omega))
      | refine VWP_cond2 _ (by simp only [go_sem, Nat.reduceLT, Nat.reduceLeDiff, Nat.reduceEqDiff, Nat.reduceAdd, Nat.reduceMul, Nat.reduceSub, reduceCtorEq]; rfl) (fun hb => ?_) (fun hb => ?_)
      | refine callK (by simp only [go_sem, Nat.reduceLT, Nat.reduceLeDiff, Nat.reduceEqDiff, Nat.reduceAdd, Nat.reduceMul, Nat.reduceSub, reduceCtorEq, List.mem_cons, List.not_mem_nil, or_false, forall_eq_or_imp, forall_eq, frzOk, frzOkC]; try simp) (args' := _) (by simp only [go_sem, Nat.reduceLT, Nat.reduceLeDiff, Nat.reduceEqDiff, Nat.reduceAdd, Nat.reduceMul, Nat.reduceSub, reduceCtorEq, frzA, frzC]; try rfl) (by first | exact hc | exact ho) (by simp only [go_sem, Nat.reduceLT, Nat.reduceLeDiff, Nat.reduceEqDiff, Nat.reduceAdd, Nat.reduceMul, Nat.reduceSub, reduceCtorEq]; try simp) (by decide) ?_
      | simp only [go_sem, Nat.reduceLT, Nat.reduceLeDiff, Nat.reduceEqDiff, Nat.reduceAdd, Nat.reduceMul, Nat.reduceSub, reduceCtorEq]
      | simp (disch := omega) only [decide_eq_true_eq, if_pos, if_neg, wrap_id, le_maxLen, and_true, true_and, if_true, ite_true]
      | refine guard_split (by simp only [go_sem, Nat.reduceLT, Nat.reduceLeDiff, Nat.reduceEqDiff, Nat.reduceAdd, Nat.reduceMul, Nat.reduceSub, reduceCtorEq]) rfl (fun hb => ?_) (fun hb => ?_)
    refine ret_mk (vs := _) (acc := _) (by simp only [go_sem, Nat.reduceLT, Nat.reduceLeDiff, Nat.reduceEqDiff, Nat.reduceAdd, Nat.reduceMul, Nat.reduceSub, reduceCtorEq, vres]; rfl) (by simp only [go_sem, Nat.reduceLT, Nat.reduceLeDiff, Nat.reduceEqDiff, Nat.reduceAdd, Nat.reduceMul, Nat.reduceSub, reduceCtorEq, wrap, exV, exAs, exA, exCs, exC, rowsH_len, rowsH_take, rowsD_len, rowsD_take, Nat.le_refl]; rfl) (by simp) (by simp) (by simp [rowsH_pur, rowsD_pur])
  | true =>
    rw [hp] at hc
    cases hq : bP (DescP d) with
    | false =>
      rw [hq] at hf
      have hnf : bP (FitsP s.heads.length d) = false := bP_false fun hh => by rw [bP_true hh.1] at hq; cases hq
      rw [ann_no (by simp [annB, hp, hnf])] at hr
      subst hr
      repeat' first
        | refine VWP_seq_k fun _ hK => ?_
        | refine VWP_region_k hT ?_
        | refine VWP_draw_k hT hM (by kernel_rfl) rfl ?_
        | refine VWP_block ?_
        | refine VWP_skip ?_
        | refine VWP_exit ?_
        | refine VWP_ret ?_
        | (refine hK _ ?_; clear hK)
        | (clear hK; refine hK _ ?_; clear hK)
        | (clear hK; clear hK; refine hK _ ?_; clear hK)
        | (clear hK; clear hK; clear hK; refine hK _ ?_; clear hK)
        | (simp only [decide_eq_true_eq, decide_eq_false_iff_not, bne_iff_ne, ne_eq, Bool.not_eq_true', Bool.not_eq_false', Bool.true_eq_false, Bool.false_eq_true, reduceCtorEq, not_true_eq_false, eq_self] at hb <;> try (exfalso; omega))
        | refine VWP_cond2 _ (by simp only [go_sem, Nat.reduceLT, Nat.reduceLeDiff, Nat.reduceEqDiff, Nat.reduceAdd, Nat.reduceMul, Nat.reduceSub, reduceCtorEq]; rfl) (fun hb => ?_) (fun hb => ?_)
        | refine callK (by simp only [go_sem, Nat.reduceLT, Nat.reduceLeDiff, Nat.reduceEqDiff, Nat.reduceAdd, Nat.reduceMul, Nat.reduceSub, reduceCtorEq, List.mem_cons, List.not_mem_nil, or_false, forall_eq_or_imp, forall_eq, frzOk, frzOkC]; try simp) (args' := _) (by simp only [go_sem, Nat.reduceLT, Nat.reduceLeDiff, Nat.reduceEqDiff, Nat.reduceAdd, Nat.reduceMul, Nat.reduceSub, reduceCtorEq, frzA, frzC]; try rfl) (by first | exact hc | exact ho | exact hf) (by simp only [go_sem, Nat.reduceLT, Nat.reduceLeDiff, Nat.reduceEqDiff, Nat.reduceAdd, Nat.reduceMul, Nat.reduceSub, reduceCtorEq]; try simp) (by decide) ?_
        | simp only [go_sem, Nat.reduceLT, Nat.reduceLeDiff, Nat.reduceEqDiff, Nat.reduceAdd, Nat.reduceMul, Nat.reduceSub, reduceCtorEq]
        | simp (disch := omega) only [decide_eq_true_eq, if_pos, if_neg, wrap_id, le_maxLen, and_true, true_and, if_true, ite_true]
        | refine guard_split (by simp only [go_sem, Nat.reduceLT, Nat.reduceLeDiff, Nat.reduceEqDiff, Nat.reduceAdd, Nat.reduceMul, Nat.reduceSub, reduceCtorEq]) rfl (fun hb => ?_) (fun hb => ?_)
      refine ret_mk (vs := _) (acc := _) (by simp only [go_sem, Nat.reduceLT, Nat.reduceLeDiff, Nat.reduceEqDiff, Nat.reduceAdd, Nat.reduceMul, Nat.reduceSub, reduceCtorEq, vres]; rfl) (by simp only [go_sem, Nat.reduceLT, Nat.reduceLeDiff, Nat.reduceEqDiff, Nat.reduceAdd, Nat.reduceMul, Nat.reduceSub, reduceCtorEq, wrap, exV, exAs, exA, exCs, exC, rowsH_len, rowsH_take, rowsD_len, rowsD_take, Nat.le_refl]; rfl) (by simp) (by simp) (by simp [rowsH_pur, rowsD_pur])
    | true =>
      rw [hq] at hf
      by_cases h0 : d.status = 0
      · obtain ⟨k, e, hk, hkl, hek, hiff⟩ := last_at (n := s.heads.length) (bP_iff.1 hq)
        have hwk := wrap_id (x := (k : Int)) (by omega)
        have hk0 : (0 : Int) ≤ (k : Nat) := by omega
        have hre := rowsE_at hek
        have h0q : (d.status != 0) = false := by simp [h0]
        by_cases hob : e.object < s.heads.length
        · have hfit := bP_true (hiff.2 hob)
          have hobn : ¬ (s.heads.length : Int) ≤ e.object := by omega
          by_cases h60 : (s.descs.length : Int) = 60
          · have h60q : ((s.descs.length : Int) == 60) = true := by simp [h60]
            have h60n : s.descs.length = 60 := by omega
            rw [ann_no (by simp [annB, h60n])] at hr
            subst hr
            repeat' first
              | refine VWP_seq_k fun _ hK => ?_
              | refine VWP_region_k hT ?_
              | refine VWP_draw_k hT hM (by kernel_rfl) rfl ?_
              | refine VWP_block ?_
              | refine VWP_skip ?_
              | refine VWP_exit ?_
              | refine VWP_ret ?_
              | (refine hK _ ?_; clear hK)
              | (clear hK; refine hK _ ?_; clear hK)
              | (clear hK; clear hK; refine hK _ ?_; clear hK)
              | (clear hK; clear hK; clear hK; refine hK _ ?_; clear hK)
              | (simp only [decide_eq_true_eq, decide_eq_false_iff_not, bne_iff_ne, ne_eq, Bool.not_eq_true', Bool.not_eq_false', Bool.true_eq_false, Bool.false_eq_true, reduceCtorEq, not_true_eq_false, eq_self] at hb <;> try (exfalso; omega))
              | refine VWP_cond2 _ (by simp only [go_sem, Nat.reduceLT, Nat.reduceLeDiff, Nat.reduceEqDiff, Nat.reduceAdd, Nat.reduceMul, Nat.reduceSub, reduceCtorEq, rowsD_len, rowsH_len, rowsE_len, h0q, h60q, hk, hwk, hk0, hkl, hre, hobn]; rfl) (fun hb => ?_) (fun hb => ?_)
              | refine callK (by simp only [go_sem, Nat.reduceLT, Nat.reduceLeDiff, Nat.reduceEqDiff, Nat.reduceAdd, Nat.reduceMul, Nat.reduceSub, reduceCtorEq, rowsD_len, rowsH_len, rowsE_len, h0q, h60q, hk, hwk, hk0, hkl, hre, hobn, List.mem_cons, List.not_mem_nil, or_false, forall_eq_or_imp, forall_eq, frzOk, frzOkC]; try simp) (args' := _) (by simp only [go_sem, Nat.reduceLT, Nat.reduceLeDiff, Nat.reduceEqDiff, Nat.reduceAdd, Nat.reduceMul, Nat.reduceSub, reduceCtorEq, rowsD_len, rowsH_len, rowsE_len, h0q, h60q, hk, hwk, hk0, hkl, hre, hobn, frzA, frzC]; try rfl) (by first | exact hc | exact ho | exact hf) (by simp only [go_sem, Nat.reduceLT, Nat.reduceLeDiff, Nat.reduceEqDiff, Nat.reduceAdd, Nat.reduceMul, Nat.reduceSub, reduceCtorEq, rowsD_len, rowsH_len, rowsE_len, h0q, h60q, hk, hwk, hk0, hkl, hre, hobn]; try simp) (by decide) ?_
              | simp only [go_sem, Nat.reduceLT, Nat.reduceLeDiff, Nat.reduceEqDiff, Nat.reduceAdd, Nat.reduceMul, Nat.reduceSub, reduceCtorEq, rowsD_len, rowsH_len, rowsE_len, h0q, h60q, hk, hwk, hk0, hkl, hre, hobn]
              | simp (disch := omega) only [decide_eq_true_eq, if_pos, if_neg, wrap_id, le_maxLen, and_true, true_and, if_true, ite_true]
              | refine guard_split (by simp only [go_sem, Nat.reduceLT, Nat.reduceLeDiff, Nat.reduceEqDiff, Nat.reduceAdd, Nat.reduceMul, Nat.reduceSub, reduceCtorEq, rowsD_len, rowsH_len, rowsE_len, h0q, h60q, hk, hwk, hk0, hkl, hre, hobn]) rfl (fun hb => ?_) (fun hb => ?_)
            refine ret_mk (vs := _) (acc := _) (by simp only [go_sem, Nat.reduceLT, Nat.reduceLeDiff, Nat.reduceEqDiff, Nat.reduceAdd, Nat.reduceMul, Nat.reduceSub, reduceCtorEq, vres]; rfl) (by simp only [go_sem, Nat.reduceLT, Nat.reduceLeDiff, Nat.reduceEqDiff, Nat.reduceAdd, Nat.reduceMul, Nat.reduceSub, reduceCtorEq, wrap, exV, exAs, exA, exCs, exC, rowsH_len, rowsH_take, rowsD_len, rowsD_take, Nat.le_refl]; rfl) (by simp) (by simp) (by simp [rowsH_pur, rowsD_pur])
          · have h60q : ((s.descs.length : Int) == 60) = false := by simpa using h60
            have h60n : ¬ s.descs.length = 60 := by omega
            have he : announceL s d = ((StoreD.mk s.heads (s.descs ++ [d])), ((s.descs.length : Nat) : Int), true) := by simp [announceL, annB, hp, hfit, h0, h60n]
            rw [he] at hr
            subst hr
            have hln : (s.descs ++ [d]).length = s.descs.length + 1 := by simp
            have hsub : ((s.descs.length + 1 : Nat) : Int) - 1 = s.descs.length := by omega
            have hwn := wrap_id (x := (s.descs.length : Int)) (by omega)
            simp only [hln]
            repeat' first
              | refine VWP_seq_k fun _ hK => ?_
              | refine VWP_region_k hT ?_
              | refine VWP_orders hT hM (id := 6) (.both (.step 0 (.both (.step 1 (.both (.step 2 (.both (.step 3 (.both (.step 4 (.step 5 (.step 6 (.step 7 .done)))) (.step 5 (.step 4 (.step 6 (.step 7 .done)))))) (.step 5 (.step 3 (.step 4 (.step 6 (.step 7 .done))))))) (.step 5 (.step 2 (.step 3 (.step 4 (.step 6 (.step 7 .done)))))))) (.step 5 (.step 1 (.step 2 (.step 3 (.step 4 (.step 6 (.step 7 .done))))))))) (.step 1 (.both (.step 0 (.both (.step 2 (.both (.step 3 (.both (.step 4 (.step 5 (.step 6 (.step 7 .done)))) (.step 5 (.step 4 (.step 6 (.step 7 .done)))))) (.step 5 (.step 3 (.step 4 (.step 6 (.step 7 .done))))))) (.step 5 (.step 2 (.step 3 (.step 4 (.step 6 (.step 7 .done)))))))) (.step 2 (.both (.step 0 (.both (.step 3 (.both (.step 4 (.step 5 (.step 6 (.step 7 .done)))) (.step 5 (.step 4 (.step 6 (.step 7 .done)))))) (.step 5 (.step 3 (.step 4 (.step 6 (.step 7 .done))))))) (.step 3 (.both (.step 0 (.both (.step 4 (.step 5 (.step 6 (.step 7 .done)))) (.step 5 (.step 4 (.step 6 (.step 7 .done)))))) (.step 4 (.step 0 (.step 5 (.step 6 (.step 7 .done)))))))))))) (by kernel_rfl) ?_
              | refine And.intro ?_ ?_
              | refine VWP_draw_k hT hM (by kernel_rfl) rfl ?_
              | refine VWP_block ?_
              | refine VWP_skip ?_
              | refine VWP_exit ?_
              | refine VWP_ret ?_
              | (refine hK _ ?_; clear hK)
              | (clear hK; refine hK _ ?_; clear hK)
              | (clear hK; clear hK; refine hK _ ?_; clear hK)
              | (clear hK; clear hK; clear hK; refine hK _ ?_; clear hK)
              | (simp only [decide_eq_true_eq, decide_eq_false_iff_not, bne_iff_ne, ne_eq, Bool.not_eq_true', Bool.not_eq_false', Bool.true_eq_false, Bool.false_eq_true, reduceCtorEq, not_true_eq_false, eq_self] at hb <;> try (exfalso; omega))
              | refine VWP_cond2 _ (by simp only [go_sem, Nat.reduceLT, Nat.reduceLeDiff, Nat.reduceEqDiff, Nat.reduceAdd, Nat.reduceMul, Nat.reduceSub, reduceCtorEq, rowsD_len, rowsD_take, rowsH_len, rowsE_len, h0q, h60q, hk, hwk, hk0, hkl, hre, hobn, hsub, hwn, rowsD_ones, Nat.le_refl, vtree_done, vtree_step, vtreeO_some, vtree_both, contT_at]; rfl) (fun hb => ?_) (fun hb => ?_)
              | refine callK (by simp only [go_sem, Nat.reduceLT, Nat.reduceLeDiff, Nat.reduceEqDiff, Nat.reduceAdd, Nat.reduceMul, Nat.reduceSub, reduceCtorEq, rowsD_len, rowsD_take, rowsH_len, rowsE_len, h0q, h60q, hk, hwk, hk0, hkl, hre, hobn, hsub, hwn, rowsD_ones, Nat.le_refl, vtree_done, vtree_step, vtreeO_some, vtree_both, contT_at, List.mem_cons, List.not_mem_nil, or_false, forall_eq_or_imp, forall_eq, frzOk, frzOkC]; try simp) (args' := _) (by simp only [go_sem, Nat.reduceLT, Nat.reduceLeDiff, Nat.reduceEqDiff, Nat.reduceAdd, Nat.reduceMul, Nat.reduceSub, reduceCtorEq, rowsD_len, rowsD_take, rowsH_len, rowsE_len, h0q, h60q, hk, hwk, hk0, hkl, hre, hobn, hsub, hwn, rowsD_ones, Nat.le_refl, vtree_done, vtree_step, vtreeO_some, vtree_both, contT_at, frzA, frzC]; try rfl) (by first | exact hc | exact ho | exact hf | exact hod) (by simp only [go_sem, Nat.reduceLT, Nat.reduceLeDiff, Nat.reduceEqDiff, Nat.reduceAdd, Nat.reduceMul, Nat.reduceSub, reduceCtorEq, rowsD_len, rowsD_take, rowsH_len, rowsE_len, h0q, h60q, hk, hwk, hk0, hkl, hre, hobn, hsub, hwn, rowsD_ones, Nat.le_refl, vtree_done, vtree_step, vtreeO_some, vtree_both, contT_at]; try simp) (by decide) ?_
              | simp only [go_sem, Nat.reduceLT, Nat.reduceLeDiff, Nat.reduceEqDiff, Nat.reduceAdd, Nat.reduceMul, Nat.reduceSub, reduceCtorEq, rowsD_len, rowsD_take, rowsH_len, rowsE_len, h0q, h60q, hk, hwk, hk0, hkl, hre, hobn, hsub, hwn, rowsD_ones, Nat.le_refl, vtree_done, vtree_step, vtreeO_some, vtree_both, contT_at]
              | simp (disch := omega) only [decide_eq_true_eq, if_pos, if_neg, wrap_id, le_maxLen, and_true, true_and, if_true, ite_true]
              | refine guard_split (by simp only [go_sem, Nat.reduceLT, Nat.reduceLeDiff, Nat.reduceEqDiff, Nat.reduceAdd, Nat.reduceMul, Nat.reduceSub, reduceCtorEq, rowsD_len, rowsD_take, rowsH_len, rowsE_len, h0q, h60q, hk, hwk, hk0, hkl, hre, hobn, hsub, hwn, rowsD_ones, Nat.le_refl, vtree_done, vtree_step, vtreeO_some, vtree_both, contT_at]) rfl (fun hb => ?_) (fun hb => ?_)
            all_goals first
              | (exfalso; simp_all; done)
              | (refine ret_mg [(2184, s.descs.length, 2)] (by simp only [merges, mergeH, go_sem, Nat.reduceLT, Nat.reduceLeDiff, Nat.reduceEqDiff, Nat.reduceAdd, Nat.reduceMul, Nat.reduceSub, reduceCtorEq, rowsD_get, rowsD_put, List.set_cons_succ, List.set_cons_zero, rowsE_len, Nat.le_refl]; rfl) (vs := _) (acc := _) (by simp only [go_sem, Nat.reduceLT, Nat.reduceLeDiff, Nat.reduceEqDiff, Nat.reduceAdd, Nat.reduceMul, Nat.reduceSub, reduceCtorEq, vres]; rfl) (by simp only [go_sem, Nat.reduceLT, Nat.reduceLeDiff, Nat.reduceEqDiff, Nat.reduceAdd, Nat.reduceMul, Nat.reduceSub, reduceCtorEq, wrap, exV, exAs, exA, exCs, exC, rowsH_len, rowsH_take, rowsE_take, rowsD_app, rowsD_more, rowsD_all, Nat.le_refl]; rfl) (by simp) (by simp) (by simp [rowsH_pur, rowsD_pur]))
        · have hnf : bP (FitsP s.heads.length d) = false := bP_false fun hh => hob (hiff.1 hh)
          have hobn : (s.heads.length : Int) ≤ e.object := by omega
          rw [ann_no (by simp [annB, hp, hnf])] at hr
          subst hr
          repeat' first
            | refine VWP_seq_k fun _ hK => ?_
            | refine VWP_region_k hT ?_
            | refine VWP_draw_k hT hM (by kernel_rfl) rfl ?_
            | refine VWP_block ?_
            | refine VWP_skip ?_
            | refine VWP_exit ?_
            | refine VWP_ret ?_
            | (refine hK _ ?_; clear hK)
            | (clear hK; refine hK _ ?_; clear hK)
            | (clear hK; clear hK; refine hK _ ?_; clear hK)
            | (clear hK; clear hK; clear hK; refine hK _ ?_; clear hK)
            | (simp only [decide_eq_true_eq, decide_eq_false_iff_not, bne_iff_ne, ne_eq, Bool.not_eq_true', Bool.not_eq_false', Bool.true_eq_false, Bool.false_eq_true, reduceCtorEq, not_true_eq_false, eq_self] at hb <;> try (exfalso; omega))
            | refine VWP_cond2 _ (by simp only [go_sem, Nat.reduceLT, Nat.reduceLeDiff, Nat.reduceEqDiff, Nat.reduceAdd, Nat.reduceMul, Nat.reduceSub, reduceCtorEq, rowsD_len, rowsH_len, rowsE_len, h0q, hk, hwk, hk0, hkl, hre, hobn]; rfl) (fun hb => ?_) (fun hb => ?_)
            | refine callK (by simp only [go_sem, Nat.reduceLT, Nat.reduceLeDiff, Nat.reduceEqDiff, Nat.reduceAdd, Nat.reduceMul, Nat.reduceSub, reduceCtorEq, rowsD_len, rowsH_len, rowsE_len, h0q, hk, hwk, hk0, hkl, hre, hobn, List.mem_cons, List.not_mem_nil, or_false, forall_eq_or_imp, forall_eq, frzOk, frzOkC]; try simp) (args' := _) (by simp only [go_sem, Nat.reduceLT, Nat.reduceLeDiff, Nat.reduceEqDiff, Nat.reduceAdd, Nat.reduceMul, Nat.reduceSub, reduceCtorEq, rowsD_len, rowsH_len, rowsE_len, h0q, hk, hwk, hk0, hkl, hre, hobn, frzA, frzC]; try rfl) (by first | exact hc | exact ho | exact hf) (by simp only [go_sem, Nat.reduceLT, Nat.reduceLeDiff, Nat.reduceEqDiff, Nat.reduceAdd, Nat.reduceMul, Nat.reduceSub, reduceCtorEq, rowsD_len, rowsH_len, rowsE_len, h0q, hk, hwk, hk0, hkl, hre, hobn]; try simp) (by decide) ?_
            | simp only [go_sem, Nat.reduceLT, Nat.reduceLeDiff, Nat.reduceEqDiff, Nat.reduceAdd, Nat.reduceMul, Nat.reduceSub, reduceCtorEq, rowsD_len, rowsH_len, rowsE_len, h0q, hk, hwk, hk0, hkl, hre, hobn]
            | simp (disch := omega) only [decide_eq_true_eq, if_pos, if_neg, wrap_id, le_maxLen, and_true, true_and, if_true, ite_true]
            | refine guard_split (by simp only [go_sem, Nat.reduceLT, Nat.reduceLeDiff, Nat.reduceEqDiff, Nat.reduceAdd, Nat.reduceMul, Nat.reduceSub, reduceCtorEq, rowsD_len, rowsH_len, rowsE_len, h0q, hk, hwk, hk0, hkl, hre, hobn]) rfl (fun hb => ?_) (fun hb => ?_)
          refine ret_mk (vs := _) (acc := _) (by simp only [go_sem, Nat.reduceLT, Nat.reduceLeDiff, Nat.reduceEqDiff, Nat.reduceAdd, Nat.reduceMul, Nat.reduceSub, reduceCtorEq, vres]; rfl) (by simp only [go_sem, Nat.reduceLT, Nat.reduceLeDiff, Nat.reduceEqDiff, Nat.reduceAdd, Nat.reduceMul, Nat.reduceSub, reduceCtorEq, wrap, exV, exAs, exA, exCs, exC, rowsH_len, rowsH_take, rowsD_len, rowsD_take, Nat.le_refl]; rfl) (by simp) (by simp) (by simp [rowsH_pur, rowsD_pur])
      · have h0q : (d.status != 0) = true := by simpa using h0
        rw [ann_no (by simp [annB, h0])] at hr
        subst hr
        repeat' first
          | refine VWP_seq_k fun _ hK => ?_
          | refine VWP_region_k hT ?_
          | refine VWP_draw_k hT hM (by kernel_rfl) rfl ?_
          | refine VWP_block ?_
          | refine VWP_skip ?_
          | refine VWP_exit ?_
          | refine VWP_ret ?_
          | (refine hK _ ?_; clear hK)
          | (clear hK; refine hK _ ?_; clear hK)
          | (clear hK; clear hK; refine hK _ ?_; clear hK)
          | (clear hK; clear hK; clear hK; refine hK _ ?_; clear hK)
          | (simp only [decide_eq_true_eq, decide_eq_false_iff_not, bne_iff_ne, ne_eq, Bool.not_eq_true', Bool.not_eq_false', Bool.true_eq_false, Bool.false_eq_true, reduceCtorEq, not_true_eq_false, eq_self] at hb <;> try (exfalso; omega))
          | refine VWP_cond2 _ (by simp only [go_sem, Nat.reduceLT, Nat.reduceLeDiff, Nat.reduceEqDiff, Nat.reduceAdd, Nat.reduceMul, Nat.reduceSub, reduceCtorEq, h0q]; rfl) (fun hb => ?_) (fun hb => ?_)
          | refine callK (by simp only [go_sem, Nat.reduceLT, Nat.reduceLeDiff, Nat.reduceEqDiff, Nat.reduceAdd, Nat.reduceMul, Nat.reduceSub, reduceCtorEq, h0q, List.mem_cons, List.not_mem_nil, or_false, forall_eq_or_imp, forall_eq, frzOk, frzOkC]; try simp) (args' := _) (by simp only [go_sem, Nat.reduceLT, Nat.reduceLeDiff, Nat.reduceEqDiff, Nat.reduceAdd, Nat.reduceMul, Nat.reduceSub, reduceCtorEq, h0q, frzA, frzC]; try rfl) (by first | exact hc | exact ho | exact hf) (by simp only [go_sem, Nat.reduceLT, Nat.reduceLeDiff, Nat.reduceEqDiff, Nat.reduceAdd, Nat.reduceMul, Nat.reduceSub, reduceCtorEq, h0q]; try simp) (by decide) ?_
          | simp only [go_sem, Nat.reduceLT, Nat.reduceLeDiff, Nat.reduceEqDiff, Nat.reduceAdd, Nat.reduceMul, Nat.reduceSub, reduceCtorEq, h0q]
          | simp (disch := omega) only [decide_eq_true_eq, if_pos, if_neg, wrap_id, le_maxLen, and_true, true_and, if_true, ite_true]
          | refine guard_split (by simp only [go_sem, Nat.reduceLT, Nat.reduceLeDiff, Nat.reduceEqDiff, Nat.reduceAdd, Nat.reduceMul, Nat.reduceSub, reduceCtorEq, h0q]) rfl (fun hb => ?_) (fun hb => ?_)
        refine ret_mk (vs := _) (acc := _) (by simp only [go_sem, Nat.reduceLT, Nat.reduceLeDiff, Nat.reduceEqDiff, Nat.reduceAdd, Nat.reduceMul, Nat.reduceSub, reduceCtorEq, vres]; rfl) (by simp only [go_sem, Nat.reduceLT, Nat.reduceLeDiff, Nat.reduceEqDiff, Nat.reduceAdd, Nat.reduceMul, Nat.reduceSub, reduceCtorEq, wrap, exV, exAs, exA, exCs, exC, rowsH_len, rowsH_take, rowsD_len, rowsD_take, Nat.le_refl]; rfl) (by simp) (by simp) (by simp [rowsH_pur, rowsD_pur])
theorem markDesc_ok (d : DescS) (k : Int) (h0 : 0 ≤ k) (h1 : k ≤ 1073741824) (hl : d.entries.length ≤ 1048576) :
    SatO Try.prog 38 [.agg [.int .i64 d.owner, .int .i64 d.status, .rf 0 d.entries.length], .int .i64 k] [.root 131 (rowsE d.entries)] (.int .i64 (k + 5 * d.entries.length)) [.root 131 (rowsE (marksE k d.entries.length))] := by
  refine satO_of_body hT Try.func38 (by kernel_rfl) rfl (rs := [.tmp 4]) rfl (n := 10) rfl (by simp) rfl (m := 1) rfl ⟨⟨rfl, rowsE_pur _⟩, by simp [keptL]⟩ fun E => ?_
  unfold St.initO
  repeat' first
    | refine VWP_seq_k fun _ hK => ?_
    | refine VWP_region_k hT ?_
    | refine VWP_draw_k hT hM (by kernel_rfl) rfl ?_
    | refine VWP_block ?_
    | refine VWP_skip ?_
    | refine VWP_exit ?_
    | refine VWP_ret ?_
    | (refine hK _ ?_; clear hK)
    | (clear hK; refine hK _ ?_; clear hK)
    | (clear hK; clear hK; refine hK _ ?_; clear hK)
    | (clear hK; clear hK; clear hK; refine hK _ ?_; clear hK)
    | (simp only [decide_eq_true_eq, decide_eq_false_iff_not, bne_iff_ne, ne_eq, Bool.not_eq_true', Bool.not_eq_false', Bool.true_eq_false, Bool.false_eq_true, reduceCtorEq, not_true_eq_false, eq_self] at hb <;> try (exfalso; omega))
    | refine VWP_cond2 _ (by simp only [go_sem, Nat.reduceLT, Nat.reduceLeDiff, Nat.reduceEqDiff, Nat.reduceAdd, Nat.reduceMul, Nat.reduceSub, reduceCtorEq, rowsE_pur]; rfl) (fun hb => ?_) (fun hb => ?_)
    | refine callK (by simp only [go_sem, Nat.reduceLT, Nat.reduceLeDiff, Nat.reduceEqDiff, Nat.reduceAdd, Nat.reduceMul, Nat.reduceSub, reduceCtorEq, rowsE_pur, List.mem_cons, List.not_mem_nil, or_false, forall_eq_or_imp, forall_eq, frzOk, frzOkC]; try simp) (args' := _) (by simp only [go_sem, Nat.reduceLT, Nat.reduceLeDiff, Nat.reduceEqDiff, Nat.reduceAdd, Nat.reduceMul, Nat.reduceSub, reduceCtorEq, rowsE_pur, frzA, frzC]; try rfl) (by first | fail) (by simp only [go_sem, Nat.reduceLT, Nat.reduceLeDiff, Nat.reduceEqDiff, Nat.reduceAdd, Nat.reduceMul, Nat.reduceSub, reduceCtorEq, rowsE_pur]; try simp) (by decide) ?_
    | refine callO [0] (by simp) (by simp only [go_sem, Nat.reduceLT, Nat.reduceLeDiff, Nat.reduceEqDiff, Nat.reduceAdd, Nat.reduceMul, Nat.reduceSub, reduceCtorEq, rowsE_pur, List.mem_cons, List.not_mem_nil, or_false, forall_eq_or_imp, forall_eq, viewOkE, viewOkC]; try simp) (by simp only [go_sem, Nat.reduceLT, Nat.reduceLeDiff, Nat.reduceEqDiff, Nat.reduceAdd, Nat.reduceMul, Nat.reduceSub, reduceCtorEq, rowsE_pur, List.mem_cons, List.not_mem_nil, or_false, forall_eq_or_imp, forall_eq, viewOk, viewOkC, frzOk, frzOkC]; try simp) (args' := _) (by simp only [go_sem, Nat.reduceLT, Nat.reduceLeDiff, Nat.reduceEqDiff, Nat.reduceAdd, Nat.reduceMul, Nat.reduceSub, reduceCtorEq, rowsE_pur, frzA, frzC]; try rfl) (I := _) (by simp only [go_sem, Nat.reduceLT, Nat.reduceLeDiff, Nat.reduceEqDiff, Nat.reduceAdd, Nat.reduceMul, Nat.reduceSub, reduceCtorEq, rowsE_pur]; try rfl) (by exact markEntryS_ok d.entries k h0 (by omega) (by omega)) (by decide) ?_
    | simp only [go_sem, Nat.reduceLT, Nat.reduceLeDiff, Nat.reduceEqDiff, Nat.reduceAdd, Nat.reduceMul, Nat.reduceSub, reduceCtorEq, rowsE_pur]
    | simp (disch := omega) only [decide_eq_true_eq, if_pos, if_neg, wrap_id, le_maxLen, and_true, true_and, if_true, ite_true]
    | refine guard_split (by simp only [go_sem, Nat.reduceLT, Nat.reduceLeDiff, Nat.reduceEqDiff, Nat.reduceAdd, Nat.reduceMul, Nat.reduceSub, reduceCtorEq, rowsE_pur]) rfl (fun hb => ?_) (fun hb => ?_)
  exact retO_mk [] rfl [.root 131 (rowsE (marksE k d.entries.length))] rfl (by simp [keepsL, updH, HpE]) rfl (by simp only [go_sem, Nat.reduceLT, Nat.reduceLeDiff, Nat.reduceEqDiff, Nat.reduceAdd, Nat.reduceMul, Nat.reduceSub, reduceCtorEq, vres]; rfl) (acc := []) rfl (by simp) rfl
theorem ann_tiny {s : StoreD} {d : DescS} (hs : s.tiny) (hd : d.entries.length ≤ 1048576) (hall : entsN s.descs + d.entries.length ≤ 1048576) : (announceL s d).1.tiny := by
  unfold announceL
  split
  · rename_i h
    have h60 : s.descs.length ≤ 60 := by
      unfold annB at h
      simp only [Bool.and_eq_true] at h
      exact (bP_iff.1 h.1.1.1).2.2.1
    refine ⟨hs.1, ?_, ?_⟩
    · show (s.descs ++ [d]).length ≤ _
      simp
      omega
    · show entsN (s.descs ++ [d]) ≤ _
      rw [entsN_app]
      simp only [entsN]
      omega
  · exact hs
theorem announceLaw_ok (s : StoreD) (d : DescS) (hf : s.fits) (hdf : d.entries.length ≤ 9223372036854775807) : SatP Try.prog 6 [.agg (s.cells 170 56 174), .agg (d.cells 174)] (.bool true) [] := by
  have hz := szS_fits s 1048576 (by omega)
  refine satP_of_body hT Try.func6 (by kernel_rfl) rfl (rs := [.tmp 4]) rfl (n := 140) rfl (by simp) rfl (by simp) fun E => ?_
  unfold St.init
  rcases Int.lt_or_le (szS s 1048576) 0 with hbig | hsm
  · have hz2 := hz.2 hbig
    unfold StoreD.cells DescS.cells
    repeat' first
      | refine VWP_seq_k fun _ hK => ?_
      | refine VWP_region_k hT ?_
      | refine VWP_draw_k hT hM (by kernel_rfl) rfl ?_
      | refine VWP_block ?_
      | refine VWP_skip ?_
      | refine VWP_exit ?_
      | refine VWP_ret ?_
      | (refine hK _ ?_; clear hK)
      | (clear hK; refine hK _ ?_; clear hK)
      | (clear hK; clear hK; refine hK _ ?_; clear hK)
      | (clear hK; clear hK; clear hK; refine hK _ ?_; clear hK)
      | (simp only [decide_eq_true_eq, decide_eq_false_iff_not, bne_iff_ne, ne_eq, Bool.not_eq_true', Bool.not_eq_false', Bool.true_eq_false, Bool.false_eq_true, reduceCtorEq, not_true_eq_false, eq_self] at hb <;> try (exfalso; omega))
      | refine VWP_cond2 _ (by simp only [go_sem, Nat.reduceLT, Nat.reduceLeDiff, Nat.reduceEqDiff, Nat.reduceAdd, Nat.reduceMul, Nat.reduceSub, reduceCtorEq, hz2]; rfl) (fun hb => ?_) (fun hb => ?_)
      | refine callK (by simp only [go_sem, Nat.reduceLT, Nat.reduceLeDiff, Nat.reduceEqDiff, Nat.reduceAdd, Nat.reduceMul, Nat.reduceSub, reduceCtorEq, hz2, List.mem_cons, List.not_mem_nil, or_false, forall_eq_or_imp, forall_eq, frzOk, frzOkC]; try simp) (args' := _) (by simp only [go_sem, Nat.reduceLT, Nat.reduceLeDiff, Nat.reduceEqDiff, Nat.reduceAdd, Nat.reduceMul, Nat.reduceSub, reduceCtorEq, hz2, frzA, frzC]; try rfl) (by first | exact szStore_ok s _ (by omega) (by omega) hf) (by simp only [go_sem, Nat.reduceLT, Nat.reduceLeDiff, Nat.reduceEqDiff, Nat.reduceAdd, Nat.reduceMul, Nat.reduceSub, reduceCtorEq, hz2]; try simp) (by decide) ?_
      | simp only [go_sem, Nat.reduceLT, Nat.reduceLeDiff, Nat.reduceEqDiff, Nat.reduceAdd, Nat.reduceMul, Nat.reduceSub, reduceCtorEq, hz2]
      | simp (disch := omega) only [decide_eq_true_eq, if_pos, if_neg, wrap_id, le_maxLen, and_true, true_and, if_true, ite_true]
      | refine guard_split (by simp only [go_sem, Nat.reduceLT, Nat.reduceLeDiff, Nat.reduceEqDiff, Nat.reduceAdd, Nat.reduceMul, Nat.reduceSub, reduceCtorEq, hz2]) rfl (fun hb => ?_) (fun hb => ?_)
    refine ret_scal (by simp only [go_sem, Nat.reduceLT, Nat.reduceLeDiff, Nat.reduceEqDiff, Nat.reduceAdd, Nat.reduceMul, Nat.reduceSub, reduceCtorEq]; rfl) rfl ?_
    rfl
  · have hn : ¬ szS s 1048576 < 0 := by omega
    have hz1 := hz.1 hsm
    rcases Int.lt_or_le (szB d.entries.length (szS s 1048576)) 0 with hb2 | hs2
    · have hsd := szDesc_ok d (szS s 1048576) (by omega) (by omega) hdf
      unfold StoreD.cells DescS.cells at *
      repeat' first
        | refine VWP_seq_k fun _ hK => ?_
        | refine VWP_region_k hT ?_
        | refine VWP_draw_k hT hM (by kernel_rfl) rfl ?_
        | refine VWP_block ?_
        | refine VWP_skip ?_
        | refine VWP_exit ?_
        | refine VWP_ret ?_
        | (refine hK _ ?_; clear hK)
        | (clear hK; refine hK _ ?_; clear hK)
        | (clear hK; clear hK; refine hK _ ?_; clear hK)
        | (clear hK; clear hK; clear hK; refine hK _ ?_; clear hK)
        | (simp only [decide_eq_true_eq, decide_eq_false_iff_not, bne_iff_ne, ne_eq, Bool.not_eq_true', Bool.not_eq_false', Bool.true_eq_false, Bool.false_eq_true, reduceCtorEq, not_true_eq_false, eq_self] at hb <;> try (exfalso; omega))
        | refine VWP_cond2 _ (by simp only [go_sem, Nat.reduceLT, Nat.reduceLeDiff, Nat.reduceEqDiff, Nat.reduceAdd, Nat.reduceMul, Nat.reduceSub, reduceCtorEq, hn, hb2]; rfl) (fun hb => ?_) (fun hb => ?_)
        | refine callK (by simp only [go_sem, Nat.reduceLT, Nat.reduceLeDiff, Nat.reduceEqDiff, Nat.reduceAdd, Nat.reduceMul, Nat.reduceSub, reduceCtorEq, hn, hb2, List.mem_cons, List.not_mem_nil, or_false, forall_eq_or_imp, forall_eq, frzOk, frzOkC]; try simp) (args' := _) (by simp only [go_sem, Nat.reduceLT, Nat.reduceLeDiff, Nat.reduceEqDiff, Nat.reduceAdd, Nat.reduceMul, Nat.reduceSub, reduceCtorEq, hn, hb2, frzA, frzC]; try rfl) (by first | exact szStore_ok s _ (by omega) (by omega) hf | exact hsd) (by simp only [go_sem, Nat.reduceLT, Nat.reduceLeDiff, Nat.reduceEqDiff, Nat.reduceAdd, Nat.reduceMul, Nat.reduceSub, reduceCtorEq, hn, hb2]; try simp) (by decide) ?_
        | simp only [go_sem, Nat.reduceLT, Nat.reduceLeDiff, Nat.reduceEqDiff, Nat.reduceAdd, Nat.reduceMul, Nat.reduceSub, reduceCtorEq, hn, hb2]
        | simp (disch := omega) only [decide_eq_true_eq, if_pos, if_neg, wrap_id, le_maxLen, and_true, true_and, if_true, ite_true]
        | refine guard_split (by simp only [go_sem, Nat.reduceLT, Nat.reduceLeDiff, Nat.reduceEqDiff, Nat.reduceAdd, Nat.reduceMul, Nat.reduceSub, reduceCtorEq, hn, hb2]) rfl (fun hb => ?_) (fun hb => ?_)
      refine ret_scal (by simp only [go_sem, Nat.reduceLT, Nat.reduceLeDiff, Nat.reduceEqDiff, Nat.reduceAdd, Nat.reduceMul, Nat.reduceSub, reduceCtorEq]; rfl) rfl ?_
      rfl
    have hn2 : ¬ szB d.entries.length (szS s 1048576) < 0 := by omega
    have hdl : (d.entries.length : Int) ≤ szS s 1048576 := by
      unfold szB at hs2
      split at hs2 <;> omega
    have hs := szS_small (by omega) (by omega) hsm
    have hst := szS_tiny (by omega) (by omega) hsm
    have hd : d.entries.length ≤ 1048576 := by omega
    obtain ⟨r, hr⟩ : ∃ r, announceL s d = r := ⟨_, rfl⟩
    have hrt := ann_tiny hst hd (by omega)
    rw [hr] at hrt
    have c1 := specAnnounce_ok s d r hr hs hd
    have c2 := implAnnounce_ok s d r hr hs hd
    obtain ⟨⟨hs', ds'⟩, ri, rb⟩ := r
    simp only at c1 c2 hrt
    have hq := eqStore_ok ⟨hs', ds'⟩ ⟨hs', ds'⟩ hrt.small
    have hm := markStore_ok s 1 (by omega) (by omega) hst
    have hmr := markStore_ok ⟨hs', ds'⟩ 1 (by omega) (by omega) hrt
    have hhr := heldStore_ok ⟨hs', ds'⟩ 1 (by omega) (by omega) hrt
    have hcs : 0 ≤ cntS s ∧ cntS s ≤ 16777216 := by
      have := cntD_le s.descs (Nat.le_refl _)
      have h1 := hst.1
      have h2 := hst.2.1
      have h3 := hst.2.2
      unfold cntS
      omega
    have hnk : ¬ 1 + cntS s + 5 * (d.entries.length : Int) < 0 := by omega
    have hnr : ¬ 1 + cntS ⟨hs', ds'⟩ < 0 := by
      have := (cntD_le ds' (Nat.le_refl _)).1
      unfold cntS
      simp only
      omega
    have hsd := szDesc_ok d (szS s 1048576) (by omega) (by omega) hdf
    have htd := toDesc_ok d hd
    have hqd := eqDesc_ok d d hd
    have hmd := markDesc_ok d (1 + cntS s) (by omega) (by omega) hd
    have t1 := rowsH_take (marksS 1 ⟨hs', ds'⟩).heads
    have t2 := rowsD_take 131 (marksS 1 ⟨hs', ds'⟩).descs
    have l1 : (marksS 1 ⟨hs', ds'⟩).heads.length = hs'.length := by simp [marksS, marksH_len]
    have l2 : (marksS 1 ⟨hs', ds'⟩).descs.length = ds'.length := by simp [marksS, marksD_len]
    rw [l1] at t1
    rw [l2] at t2
    simp only at hmr hhr
    unfold StoreD.cells DescS.cells at *
    simp only at hq
    repeat' first
      | refine VWP_seq_k fun _ hK => ?_
      | refine VWP_region_k hT ?_
      | refine VWP_draw_k hT hM (by kernel_rfl) rfl ?_
      | refine VWP_block ?_
      | refine VWP_skip ?_
      | refine VWP_exit ?_
      | refine VWP_ret ?_
      | (refine hK _ ?_; clear hK)
      | (clear hK; refine hK _ ?_; clear hK)
      | (clear hK; clear hK; refine hK _ ?_; clear hK)
      | (clear hK; clear hK; clear hK; refine hK _ ?_; clear hK)
      | (simp only [decide_eq_true_eq, decide_eq_false_iff_not, bne_iff_ne, ne_eq, Bool.not_eq_true', Bool.not_eq_false', Bool.true_eq_false, Bool.false_eq_true, reduceCtorEq, not_true_eq_false, eq_self] at hb <;> try (exfalso; omega))
      | refine VWP_cond2 _ (by simp only [go_sem, Nat.reduceLT, Nat.reduceLeDiff, Nat.reduceEqDiff, Nat.reduceAdd, Nat.reduceMul, Nat.reduceSub, reduceCtorEq, hn, hn2, hnk, hnr, t1, t2, l1, l2, rowsH_len, rowsH_pur, rowsH_take, rowsD_len, rowsD_pur, rowsD_take, rowsE_len, rowsE_pur, rowsE_take, Nat.le_refl]; rfl) (fun hb => ?_) (fun hb => ?_)
      | refine callK (by simp only [go_sem, Nat.reduceLT, Nat.reduceLeDiff, Nat.reduceEqDiff, Nat.reduceAdd, Nat.reduceMul, Nat.reduceSub, reduceCtorEq, hn, hn2, hnk, hnr, t1, t2, l1, l2, rowsH_len, rowsH_pur, rowsH_take, rowsD_len, rowsD_pur, rowsD_take, rowsE_len, rowsE_pur, rowsE_take, Nat.le_refl, List.mem_cons, List.not_mem_nil, or_false, forall_eq_or_imp, forall_eq, frzOk, frzOkC]; try simp) (args' := _) (by simp only [go_sem, Nat.reduceLT, Nat.reduceLeDiff, Nat.reduceEqDiff, Nat.reduceAdd, Nat.reduceMul, Nat.reduceSub, reduceCtorEq, hn, hn2, hnk, hnr, t1, t2, l1, l2, rowsH_len, rowsH_pur, rowsH_take, rowsD_len, rowsD_pur, rowsD_take, rowsE_len, rowsE_pur, rowsE_take, Nat.le_refl, frzA, frzC]; try rfl) (by first | exact szStore_ok s _ (by omega) (by omega) hf | exact hsd | exact toStore_ok s hs | exact htd | exact c1 | exact c2 | exact hq | exact hqd | exact eqStore_ok s s hs | exact hhr) (by simp only [go_sem, Nat.reduceLT, Nat.reduceLeDiff, Nat.reduceEqDiff, Nat.reduceAdd, Nat.reduceMul, Nat.reduceSub, reduceCtorEq, hn, hn2, hnk, hnr, t1, t2, l1, l2, rowsH_len, rowsH_pur, rowsH_take, rowsD_len, rowsD_pur, rowsD_take, rowsE_len, rowsE_pur, rowsE_take, Nat.le_refl]; try simp) (by decide) ?_
      | refine callO [834, 835] (by simp) (by simp only [go_sem, Nat.reduceLT, Nat.reduceLeDiff, Nat.reduceEqDiff, Nat.reduceAdd, Nat.reduceMul, Nat.reduceSub, reduceCtorEq, hn, hn2, hnk, hnr, t1, t2, l1, l2, rowsH_len, rowsH_pur, rowsH_take, rowsD_len, rowsD_pur, rowsD_take, rowsE_len, rowsE_pur, rowsE_take, Nat.le_refl, List.mem_cons, List.not_mem_nil, or_false, forall_eq_or_imp, forall_eq, viewOkE, viewOkC]; try simp) (by simp only [go_sem, Nat.reduceLT, Nat.reduceLeDiff, Nat.reduceEqDiff, Nat.reduceAdd, Nat.reduceMul, Nat.reduceSub, reduceCtorEq, hn, hn2, hnk, hnr, t1, t2, l1, l2, rowsH_len, rowsH_pur, rowsH_take, rowsD_len, rowsD_pur, rowsD_take, rowsE_len, rowsE_pur, rowsE_take, Nat.le_refl, List.mem_cons, List.not_mem_nil, or_false, forall_eq_or_imp, forall_eq, viewOk, viewOkC, frzOk, frzOkC]; try simp) (args' := _) (by simp only [go_sem, Nat.reduceLT, Nat.reduceLeDiff, Nat.reduceEqDiff, Nat.reduceAdd, Nat.reduceMul, Nat.reduceSub, reduceCtorEq, hn, hn2, hnk, hnr, t1, t2, l1, l2, rowsH_len, rowsH_pur, rowsH_take, rowsD_len, rowsD_pur, rowsD_take, rowsE_len, rowsE_pur, rowsE_take, Nat.le_refl, frzA, frzC]; try rfl) (I := _) (by simp only [go_sem, Nat.reduceLT, Nat.reduceLeDiff, Nat.reduceEqDiff, Nat.reduceAdd, Nat.reduceMul, Nat.reduceSub, reduceCtorEq, hn, hn2, hnk, hnr, t1, t2, l1, l2, rowsH_len, rowsH_pur, rowsH_take, rowsD_len, rowsD_pur, rowsD_take, rowsE_len, rowsE_pur, rowsE_take, Nat.le_refl]; try rfl) (by exact hm) (by decide) ?_
      | refine callO [837] (by simp) (by simp only [go_sem, Nat.reduceLT, Nat.reduceLeDiff, Nat.reduceEqDiff, Nat.reduceAdd, Nat.reduceMul, Nat.reduceSub, reduceCtorEq, hn, hn2, hnk, hnr, t1, t2, l1, l2, rowsH_len, rowsH_pur, rowsH_take, rowsD_len, rowsD_pur, rowsD_take, rowsE_len, rowsE_pur, rowsE_take, Nat.le_refl, List.mem_cons, List.not_mem_nil, or_false, forall_eq_or_imp, forall_eq, viewOkE, viewOkC]; try simp) (by simp only [go_sem, Nat.reduceLT, Nat.reduceLeDiff, Nat.reduceEqDiff, Nat.reduceAdd, Nat.reduceMul, Nat.reduceSub, reduceCtorEq, hn, hn2, hnk, hnr, t1, t2, l1, l2, rowsH_len, rowsH_pur, rowsH_take, rowsD_len, rowsD_pur, rowsD_take, rowsE_len, rowsE_pur, rowsE_take, Nat.le_refl, List.mem_cons, List.not_mem_nil, or_false, forall_eq_or_imp, forall_eq, viewOk, viewOkC, frzOk, frzOkC]; try simp) (args' := _) (by simp only [go_sem, Nat.reduceLT, Nat.reduceLeDiff, Nat.reduceEqDiff, Nat.reduceAdd, Nat.reduceMul, Nat.reduceSub, reduceCtorEq, hn, hn2, hnk, hnr, t1, t2, l1, l2, rowsH_len, rowsH_pur, rowsH_take, rowsD_len, rowsD_pur, rowsD_take, rowsE_len, rowsE_pur, rowsE_take, Nat.le_refl, frzA, frzC]; try rfl) (I := _) (by simp only [go_sem, Nat.reduceLT, Nat.reduceLeDiff, Nat.reduceEqDiff, Nat.reduceAdd, Nat.reduceMul, Nat.reduceSub, reduceCtorEq, hn, hn2, hnk, hnr, t1, t2, l1, l2, rowsH_len, rowsH_pur, rowsH_take, rowsD_len, rowsD_pur, rowsD_take, rowsE_len, rowsE_pur, rowsE_take, Nat.le_refl]; try rfl) (by exact hmd) (by decide) ?_
      | refine callO [839, 840] (by simp) (by simp only [go_sem, Nat.reduceLT, Nat.reduceLeDiff, Nat.reduceEqDiff, Nat.reduceAdd, Nat.reduceMul, Nat.reduceSub, reduceCtorEq, hn, hn2, hnk, hnr, t1, t2, l1, l2, rowsH_len, rowsH_pur, rowsH_take, rowsD_len, rowsD_pur, rowsD_take, rowsE_len, rowsE_pur, rowsE_take, Nat.le_refl, List.mem_cons, List.not_mem_nil, or_false, forall_eq_or_imp, forall_eq, viewOkE, viewOkC]; try simp) (by simp only [go_sem, Nat.reduceLT, Nat.reduceLeDiff, Nat.reduceEqDiff, Nat.reduceAdd, Nat.reduceMul, Nat.reduceSub, reduceCtorEq, hn, hn2, hnk, hnr, t1, t2, l1, l2, rowsH_len, rowsH_pur, rowsH_take, rowsD_len, rowsD_pur, rowsD_take, rowsE_len, rowsE_pur, rowsE_take, Nat.le_refl, List.mem_cons, List.not_mem_nil, or_false, forall_eq_or_imp, forall_eq, viewOk, viewOkC, frzOk, frzOkC]; try simp) (args' := _) (by simp only [go_sem, Nat.reduceLT, Nat.reduceLeDiff, Nat.reduceEqDiff, Nat.reduceAdd, Nat.reduceMul, Nat.reduceSub, reduceCtorEq, hn, hn2, hnk, hnr, t1, t2, l1, l2, rowsH_len, rowsH_pur, rowsH_take, rowsD_len, rowsD_pur, rowsD_take, rowsE_len, rowsE_pur, rowsE_take, Nat.le_refl, frzA, frzC]; try rfl) (I := _) (by simp only [go_sem, Nat.reduceLT, Nat.reduceLeDiff, Nat.reduceEqDiff, Nat.reduceAdd, Nat.reduceMul, Nat.reduceSub, reduceCtorEq, hn, hn2, hnk, hnr, t1, t2, l1, l2, rowsH_len, rowsH_pur, rowsH_take, rowsD_len, rowsD_pur, rowsD_take, rowsE_len, rowsE_pur, rowsE_take, Nat.le_refl]; try rfl) (by exact hmr) (by decide) ?_
      | simp only [go_sem, Nat.reduceLT, Nat.reduceLeDiff, Nat.reduceEqDiff, Nat.reduceAdd, Nat.reduceMul, Nat.reduceSub, reduceCtorEq, hn, hn2, hnk, hnr, t1, t2, l1, l2, rowsH_len, rowsH_pur, rowsH_take, rowsD_len, rowsD_pur, rowsD_take, rowsE_len, rowsE_pur, rowsE_take, Nat.le_refl]
      | simp (disch := omega) only [decide_eq_true_eq, if_pos, if_neg, wrap_id, le_maxLen, and_true, true_and, if_true, ite_true]
      | refine guard_split (by simp only [go_sem, Nat.reduceLT, Nat.reduceLeDiff, Nat.reduceEqDiff, Nat.reduceAdd, Nat.reduceMul, Nat.reduceSub, reduceCtorEq, hn, hn2, hnk, hnr, t1, t2, l1, l2, rowsH_len, rowsH_pur, rowsH_take, rowsD_len, rowsD_pur, rowsD_take, rowsE_len, rowsE_pur, rowsE_take, Nat.le_refl]) rfl (fun hb => ?_) (fun hb => ?_)
    refine ret_scal (by simp only [go_sem, Nat.reduceLT, Nat.reduceLeDiff, Nat.reduceEqDiff, Nat.reduceAdd, Nat.reduceMul, Nat.reduceSub, reduceCtorEq]; rfl) rfl ?_
    rfl
end Go.Proofs.Ytclljpdcpcolpaa
