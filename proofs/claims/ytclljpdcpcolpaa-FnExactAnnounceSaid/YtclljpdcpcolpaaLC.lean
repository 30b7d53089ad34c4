/- What both Announce give. -/
import Derived.Test.YtclljpdcpcolpaaLB
import Derived.Test.YtclljpdcpcolpaaYB
import Derived.Test.YtclljpdcpcolpaaEO
namespace Go.Proofs.Ytclljpdcpcolpaa
open Go Go.RowKit
set_option linter.unusedVariables false
set_option linter.unusedSimpArgs false
set_option maxRecDepth 100000
set_option maxHeartbeats 4000000
attribute [local irreducible] VWP vops vdraw contV contD CallK Guard GuardV NextL Puts Runs RetOK RetQ RetO RetQO thenQ blockQ

noncomputable def annB (s : StoreD) (d : DescS) : Bool := bP (StoreP s) && bP (FitsP s.heads.length d) && (d.status == 0) && !(s.descs.length == 60)
noncomputable def announceL (s : StoreD) (d : DescS) : StoreD × Int × Bool := if annB s d = true then (⟨s.heads, s.descs ++ [d]⟩, s.descs.length, true) else (s, -1, false)
theorem rowsD_get (te : TypeId) (ds : List DescS) (r : List PT) : (rowsD te ds ++ [r])[ds.length]? = some r := by
  have := rowsDt_get te (ds := ds) (Nat.le_refl ds.length) r
  rwa [List.take_length] at this
theorem rowsD_put (te : TypeId) (ds : List DescS) (r r' : List PT) : (rowsD te ds ++ [r]).set ds.length r' = rowsD te ds ++ [r'] := by
  have := rowsDt_set te (ds := ds) (Nat.le_refl ds.length) r r'
  rwa [List.take_length] at this
theorem rowsD_app (te : TypeId) (ds : List DescS) (d : DescS) : rowsD te ds ++ [[.int .i64 d.owner, .int .i64 d.status, .list te (rowsE d.entries)]] = rowsD te (ds ++ [d]) := by simp [rowsD, rowT]
theorem rowsD_more (te : TypeId) (ds : List DescS) (d : DescS) : (rowsD te (ds ++ [d])).length = ds.length + 1 := by simp [rowsD]
theorem rowsD_all (te : TypeId) (ds : List DescS) (d : DescS) : (rowsD te (ds ++ [d])).take (ds.length + 1) = rowsD te (ds ++ [d]) := by rw [List.take_of_length_le (by rw [rowsD_more]; exact Nat.le_refl _)]
theorem ann_no {s : StoreD} {d : DescS} (h : annB s d = false) : announceL s d = (s, -1, false) := by simp [announceL, h]
theorem implAnnounce_ok (s : StoreD) (d : DescS) (r : StoreD × Int × Bool) (hr : announceL s d = r) (hs : s.small) (hd : d.entries.length ≤ 1048576) :
    SatP Try.prog 36 [.agg (s.cells 125 62 131), .agg (d.cells 131)]
      (.tup [.agg [.rf 0 r.1.heads.length, .rf 1 r.1.descs.length], .int .i64 r.2.1, .bool r.2.2]) [(125, rowsH r.1.heads), (62, rowsD 131 r.1.descs)] := by
  have hc := implStoreOk_ok s hs
  have hf := fitsStore_ok s d hs.1 hd
  have ho := ownStore_ok s hs
  have hod := ownDesc_ok d hd
  obtain ⟨f1, f2, f3⟩ := hs
  refine satP_of_body hT Try.func36 (by kernel_rfl) rfl (rs := [.cell 4 44, .tmp 5, .tmp 6]) rfl (n := 42) rfl (by simp) rfl (by simp [rowsH_pur, rowsD_pur]) fun E => ?_
  unfold St.init
  unfold StoreD.cells DescS.cells at *
  cases hp : bP (StoreP s) with
  | false =>
    rw [hp] at hc
    rw [ann_no (by simp [annB, hp])] at hr
    subst hr
    repeat' first
      | refine VWP_seq_k fun _ hK => ?_
      | refine VWP_region_k hT ?_
      | refine VWP_draw_k hT hM (by kernel_rfl) rfl ?_
      | refine VWP_block ?_
      | refine VWP_skip ?_
      | refine VWP_exit ?_
      | refine VWP_ret ?_
      | (refine hK _ ?_; clear hK)
      | (clear hK; refine hK _ ?_; clear hK)
      | (clear hK; clear hK; refine hK _ ?_; clear hK)
      | (clear hK; clear hK; clear hK; refine hK _ ?_; clear hK)
      | (simp only [decide_eq_true_eq, decide_eq_false_iff_not, bne_iff_ne, ne_eq, Bool.not_eq_true', Bool.not_eq_false', Bool.true_eq_false, Bool.false_eq_true, reduceCtorEq, not_true_eq_false, eq_self] at hb <;> try (exfalso; omega))
      | refine VWP_cond2 _ (by simp only [go_sem, Nat.reduceLT, Nat.reduceLeDiff, Nat.reduceEqDiff, Nat.reduceAdd, Nat.reduceMul, Nat.reduceSub, reduceCtorEq]; rfl) (fun hb => ?_) (fun hb => ?_)
      | refine callK (by simp only [go_sem, Nat.reduceLT, Nat.reduceLeDiff, Nat.reduceEqDiff, Nat.reduceAdd, Nat.reduceMul, Nat.reduceSub, reduceCtorEq, List.mem_cons, List.not_mem_nil, or_false, forall_eq_or_imp, forall_eq, frzOk, frzOkC]; try simp) (args' := _) (by simp only [go_sem, Nat.reduceLT, Nat.reduceLeDiff, Nat.reduceEqDiff, Nat.reduceAdd, Nat.reduceMul, Nat.reduceSub, reduceCtorEq, frzA, frzC]; try rfl) (by first | exact hc | exact ho) (by simp only [go_sem, Nat.reduceLT, Nat.reduceLeDiff, Nat.reduceEqDiff, Nat.reduceAdd, Nat.reduceMul, Nat.reduceSub, reduceCtorEq]; try simp) (by decide) ?_
      | simp only [go_sem, Nat.reduceLT, Nat.reduceLeDiff, Nat.reduceEqDiff, Nat.reduceAdd, Nat.reduceMul, Nat.reduceSub, reduceCtorEq]
      | simp (disch := omega) only [decide_eq_true_eq, if_pos, if_neg, wrap_id, le_maxLen, and_true, true_and, if_true, ite_true]
      | refine guard_split (by simp only [go_sem, Nat.reduceLT, Nat.reduceLeDiff, Nat.reduceEqDiff, Nat.reduceAdd, Nat.reduceMul, Nat.reduceSub, reduceCtorEq]) rfl (fun hb => ?_) (fun hb => ?_)
    refine ret_mk (vs := _) (acc := _) (by simp only [go_sem, Nat.reduceLT, Nat.reduceLeDiff, Nat.reduceEqDiff, Nat.reduceAdd, Nat.reduceMul, Nat.reduceSub, reduceCtorEq, vres]; rfl) (by simp only [go_sem, Nat.reduceLT, Nat.reduceLeDiff, Nat.reduceEqDiff, Nat.reduceAdd, Nat.reduceMul, Nat.reduceSub, reduceCtorEq, wrap, exV, exAs, exA, exCs, exC, rowsH_len, rowsH_take, rowsD_len, rowsD_take, Nat.le_refl]; rfl) (by simp) (by simp) (by simp [rowsH_pur, rowsD_pur])
  | true =>
    rw [hp] at hc
    cases hq : bP (FitsP s.heads.length d) with
    | false =>
      rw [hq] at hf
      rw [ann_no (by simp [annB, hp, hq])] at hr
      subst hr
      repeat' first
        | refine VWP_seq_k fun _ hK => ?_
        | refine VWP_region_k hT ?_
        | refine VWP_draw_k hT hM (by kernel_rfl) rfl ?_
        | refine VWP_block ?_
        | refine VWP_skip ?_
        | refine VWP_exit ?_
        | refine VWP_ret ?_
        | (refine hK _ ?_; clear hK)
        | (clear hK; refine hK _ ?_; clear hK)
        | (clear hK; clear hK; refine hK _ ?_; clear hK)
        | (clear hK; clear hK; clear hK; refine hK _ ?_; clear hK)
        | (simp only [decide_eq_true_eq, decide_eq_false_iff_not, bne_iff_ne, ne_eq, Bool.not_eq_true', Bool.not_eq_false', Bool.true_eq_false, Bool.false_eq_true, reduceCtorEq, not_true_eq_false, eq_self] at hb <;> try (exfalso; omega))
        | refine VWP_cond2 _ (by simp only [go_sem, Nat.reduceLT, Nat.reduceLeDiff, Nat.reduceEqDiff, Nat.reduceAdd, Nat.reduceMul, Nat.reduceSub, reduceCtorEq]; rfl) (fun hb => ?_) (fun hb => ?_)
        | refine callK (by simp only [go_sem, Nat.reduceLT, Nat.reduceLeDiff, Nat.reduceEqDiff, Nat.reduceAdd, Nat.reduceMul, Nat.reduceSub, reduceCtorEq, List.mem_cons, List.not_mem_nil, or_false, forall_eq_or_imp, forall_eq, frzOk, frzOkC]; try simp) (args' := _) (by simp only [go_sem, Nat.reduceLT, Nat.reduceLeDiff, Nat.reduceEqDiff, Nat.reduceAdd, Nat.reduceMul, Nat.reduceSub, reduceCtorEq, frzA, frzC]; try rfl) (by first | exact hc | exact ho | exact hf) (by simp only [go_sem, Nat.reduceLT, Nat.reduceLeDiff, Nat.reduceEqDiff, Nat.reduceAdd, Nat.reduceMul, Nat.reduceSub, reduceCtorEq]; try simp) (by decide) ?_
        | simp only [go_sem, Nat.reduceLT, Nat.reduceLeDiff, Nat.reduceEqDiff, Nat.reduceAdd, Nat.reduceMul, Nat.reduceSub, reduceCtorEq]
        | simp (disch := omega) only [decide_eq_true_eq, if_pos, if_neg, wrap_id, le_maxLen, and_true, true_and, if_true, ite_true]
        | refine guard_split (by simp only [go_sem, Nat.reduceLT, Nat.reduceLeDiff, Nat.reduceEqDiff, Nat.reduceAdd, Nat.reduceMul, Nat.reduceSub, reduceCtorEq]) rfl (fun hb => ?_) (fun hb => ?_)
      refine ret_mk (vs := _) (acc := _) (by simp only [go_sem, Nat.reduceLT, Nat.reduceLeDiff, Nat.reduceEqDiff, Nat.reduceAdd, Nat.reduceMul, Nat.reduceSub, reduceCtorEq, vres]; rfl) (by simp only [go_sem, Nat.reduceLT, Nat.reduceLeDiff, Nat.reduceEqDiff, Nat.reduceAdd, Nat.reduceMul, Nat.reduceSub, reduceCtorEq, wrap, exV, exAs, exA, exCs, exC, rowsH_len, rowsH_take, rowsD_len, rowsD_take, Nat.le_refl]; rfl) (by simp) (by simp) (by simp [rowsH_pur, rowsD_pur])
    | true =>
      rw [hq] at hf
      by_cases h0 : d.status = 0
      · by_cases h60 : (s.descs.length : Int) = 60
        · have h60n : s.descs.length = 60 := by omega
          rw [ann_no (by simp [annB, h60n])] at hr
          subst hr
          have h60q : ((s.descs.length : Int) == 60) = true := by simp [h60]
          have h0q : (d.status != 0) = false := by simp [h0]
          repeat' first
            | refine VWP_seq_k fun _ hK => ?_
            | refine VWP_region_k hT ?_
            | refine VWP_draw_k hT hM (by kernel_rfl) rfl ?_
            | refine VWP_block ?_
            | refine VWP_skip ?_
            | refine VWP_exit ?_
            | refine VWP_ret ?_
            | (refine hK _ ?_; clear hK)
            | (clear hK; refine hK _ ?_; clear hK)
            | (clear hK; clear hK; refine hK _ ?_; clear hK)
            | (clear hK; clear hK; clear hK; refine hK _ ?_; clear hK)
            | (simp only [decide_eq_true_eq, decide_eq_false_iff_not, bne_iff_ne, ne_eq, Bool.not_eq_true', Bool.not_eq_false', Bool.true_eq_false, Bool.false_eq_true, reduceCtorEq, not_true_eq_false, eq_self] at hb <;> try (exfalso; omega))
            | refine VWP_cond2 _ (by simp only [go_sem, Nat.reduceLT, Nat.reduceLeDiff, Nat.reduceEqDiff, Nat.reduceAdd, Nat.reduceMul, Nat.reduceSub, reduceCtorEq, rowsD_len, h0q, h60q]; rfl) (fun hb => ?_) (fun hb => ?_)
            | refine callK (by simp only [go_sem, Nat.reduceLT, Nat.reduceLeDiff, Nat.reduceEqDiff, Nat.reduceAdd, Nat.reduceMul, Nat.reduceSub, reduceCtorEq, rowsD_len, h0q, h60q, List.mem_cons, List.not_mem_nil, or_false, forall_eq_or_imp, forall_eq, frzOk, frzOkC]; try simp) (args' := _) (by simp only [go_sem, Nat.reduceLT, Nat.reduceLeDiff, Nat.reduceEqDiff, Nat.reduceAdd, Nat.reduceMul, Nat.reduceSub, reduceCtorEq, rowsD_len, h0q, h60q, frzA, frzC]; try rfl) (by first | exact hc | exact ho | exact hf) (by simp only [go_sem, Nat.reduceLT, Nat.reduceLeDiff, Nat.reduceEqDiff, Nat.reduceAdd, Nat.reduceMul, Nat.reduceSub, reduceCtorEq, rowsD_len, h0q, h60q]; try simp) (by decide) ?_
            | simp only [go_sem, Nat.reduceLT, Nat.reduceLeDiff, Nat.reduceEqDiff, Nat.reduceAdd, Nat.reduceMul, Nat.reduceSub, reduceCtorEq, rowsD_len, h0q, h60q]
            | simp (disch := omega) only [decide_eq_true_eq, if_pos, if_neg, wrap_id, le_maxLen, and_true, true_and, if_true, ite_true]
            | refine guard_split (by simp only [go_sem, Nat.reduceLT, Nat.reduceLeDiff, Nat.reduceEqDiff, Nat.reduceAdd, Nat.reduceMul, Nat.reduceSub, reduceCtorEq, rowsD_len, h0q, h60q]) rfl (fun hb => ?_) (fun hb => ?_)
          refine ret_mk (vs := _) (acc := _) (by simp only [go_sem, Nat.reduceLT, Nat.reduceLeDiff, Nat.reduceEqDiff, Nat.reduceAdd, Nat.reduceMul, Nat.reduceSub, reduceCtorEq, vres]; rfl) (by simp only [go_sem, Nat.reduceLT, Nat.reduceLeDiff, Nat.reduceEqDiff, Nat.reduceAdd, Nat.reduceMul, Nat.reduceSub, reduceCtorEq, wrap, exV, exAs, exA, exCs, exC, rowsH_len, rowsH_take, rowsD_len, rowsD_take, Nat.le_refl]; rfl) (by simp) (by simp) (by simp [rowsH_pur, rowsD_pur])
        · have h60q : ((s.descs.length : Int) == 60) = false := by simpa using h60
          have h60n : ¬ s.descs.length = 60 := by omega
          have he : announceL s d = ((StoreD.mk s.heads (s.descs ++ [d])), ((s.descs.length : Nat) : Int), true) := by simp [announceL, annB, hp, hq, h0, h60n]
          rw [he] at hr
          subst hr
          have hln : (s.descs ++ [d]).length = s.descs.length + 1 := by simp
          simp only [hln]
          have h0q : (d.status != 0) = false := by simp [h0]
          repeat' first
            | refine VWP_seq_k fun _ hK => ?_
            | refine VWP_region_k hT ?_
            | refine VWP_orders hT hM (id := 5) (.both (.step 0 (.both (.step 1 (.both (.step 2 (.both (.step 3 (.step 4 (.step 5 (.step 6 .done)))) (.step 4 (.step 3 (.step 5 (.step 6 .done)))))) (.step 4 (.step 2 (.step 3 (.step 5 (.step 6 .done))))))) (.step 4 (.step 1 (.step 2 (.step 3 (.step 5 (.step 6 .done)))))))) (.step 1 (.both (.step 0 (.both (.step 2 (.both (.step 3 (.step 4 (.step 5 (.step 6 .done)))) (.step 4 (.step 3 (.step 5 (.step 6 .done)))))) (.step 4 (.step 2 (.step 3 (.step 5 (.step 6 .done))))))) (.step 2 (.both (.step 0 (.both (.step 3 (.step 4 (.step 5 (.step 6 .done)))) (.step 4 (.step 3 (.step 5 (.step 6 .done)))))) (.step 3 (.step 0 (.step 4 (.step 5 (.step 6 .done)))))))))) (by kernel_rfl) ?_
            | refine And.intro ?_ ?_
            | refine VWP_draw_k hT hM (by kernel_rfl) rfl ?_
            | refine VWP_block ?_
            | refine VWP_skip ?_
            | refine VWP_exit ?_
            | refine VWP_ret ?_
            | (refine hK _ ?_; clear hK)
            | (clear hK; refine hK _ ?_; clear hK)
            | (clear hK; clear hK; refine hK _ ?_; clear hK)
            | (clear hK; clear hK; clear hK; refine hK _ ?_; clear hK)
            | (simp only [decide_eq_true_eq, decide_eq_false_iff_not, bne_iff_ne, ne_eq, Bool.not_eq_true', Bool.not_eq_false', Bool.true_eq_false, Bool.false_eq_true, reduceCtorEq, not_true_eq_false, eq_self] at hb <;> try (exfalso; omega))
            | refine VWP_cond2 _ (by simp only [go_sem, Nat.reduceLT, Nat.reduceLeDiff, Nat.reduceEqDiff, Nat.reduceAdd, Nat.reduceMul, Nat.reduceSub, reduceCtorEq, rowsD_len, rowsD_take, rowsE_len, h0q, h60q, Nat.le_refl, vtree_done, vtree_step, vtreeO_some, vtree_both, contT_at]; rfl) (fun hb => ?_) (fun hb => ?_)
            | refine callK (by simp only [go_sem, Nat.reduceLT, Nat.reduceLeDiff, Nat.reduceEqDiff, Nat.reduceAdd, Nat.reduceMul, Nat.reduceSub, reduceCtorEq, rowsD_len, rowsD_take, rowsE_len, h0q, h60q, Nat.le_refl, vtree_done, vtree_step, vtreeO_some, vtree_both, contT_at, List.mem_cons, List.not_mem_nil, or_false, forall_eq_or_imp, forall_eq, frzOk, frzOkC]; try simp) (args' := _) (by simp only [go_sem, Nat.reduceLT, Nat.reduceLeDiff, Nat.reduceEqDiff, Nat.reduceAdd, Nat.reduceMul, Nat.reduceSub, reduceCtorEq, rowsD_len, rowsD_take, rowsE_len, h0q, h60q, Nat.le_refl, vtree_done, vtree_step, vtreeO_some, vtree_both, contT_at, frzA, frzC]; try rfl) (by first | exact hc | exact ho | exact hf | exact hod) (by simp only [go_sem, Nat.reduceLT, Nat.reduceLeDiff, Nat.reduceEqDiff, Nat.reduceAdd, Nat.reduceMul, Nat.reduceSub, reduceCtorEq, rowsD_len, rowsD_take, rowsE_len, h0q, h60q, Nat.le_refl, vtree_done, vtree_step, vtreeO_some, vtree_both, contT_at]; try simp) (by decide) ?_
            | simp only [go_sem, Nat.reduceLT, Nat.reduceLeDiff, Nat.reduceEqDiff, Nat.reduceAdd, Nat.reduceMul, Nat.reduceSub, reduceCtorEq, rowsD_len, rowsD_take, rowsE_len, h0q, h60q, Nat.le_refl, vtree_done, vtree_step, vtreeO_some, vtree_both, contT_at]
            | simp (disch := omega) only [decide_eq_true_eq, if_pos, if_neg, wrap_id, le_maxLen, and_true, true_and, if_true, ite_true]
            | refine guard_split (by simp only [go_sem, Nat.reduceLT, Nat.reduceLeDiff, Nat.reduceEqDiff, Nat.reduceAdd, Nat.reduceMul, Nat.reduceSub, reduceCtorEq, rowsD_len, rowsD_take, rowsE_len, h0q, h60q, Nat.le_refl, vtree_done, vtree_step, vtreeO_some, vtree_both, contT_at]) rfl (fun hb => ?_) (fun hb => ?_)
          all_goals first
            | (exfalso; simp_all; done)
            | (refine ret_mg [(326, s.descs.length, 2)] (by simp only [merges, mergeH, go_sem, Nat.reduceLT, Nat.reduceLeDiff, Nat.reduceEqDiff, Nat.reduceAdd, Nat.reduceMul, Nat.reduceSub, reduceCtorEq, rowsD_get, rowsD_put, List.set_cons_succ, List.set_cons_zero, rowsE_len, Nat.le_refl]; rfl) (vs := _) (acc := _) (by simp only [go_sem, Nat.reduceLT, Nat.reduceLeDiff, Nat.reduceEqDiff, Nat.reduceAdd, Nat.reduceMul, Nat.reduceSub, reduceCtorEq, vres]; rfl) (by simp only [go_sem, Nat.reduceLT, Nat.reduceLeDiff, Nat.reduceEqDiff, Nat.reduceAdd, Nat.reduceMul, Nat.reduceSub, reduceCtorEq, wrap, exV, exAs, exA, exCs, exC, rowsH_len, rowsH_take, rowsE_take, rowsD_app, rowsD_more, rowsD_all, Nat.le_refl]; rfl) (by simp) (by simp) (by simp [rowsH_pur, rowsD_pur]))
      · have h0q : (d.status != 0) = true := by simpa using h0
        rw [ann_no (by simp [annB, h0])] at hr
        subst hr
        repeat' first
          | refine VWP_seq_k fun _ hK => ?_
          | refine VWP_region_k hT ?_
          | refine VWP_draw_k hT hM (by kernel_rfl) rfl ?_
          | refine VWP_block ?_
          | refine VWP_skip ?_
          | refine VWP_exit ?_
          | refine VWP_ret ?_
          | (refine hK _ ?_; clear hK)
          | (clear hK; refine hK _ ?_; clear hK)
          | (clear hK; clear hK; refine hK _ ?_; clear hK)
          | (clear hK; clear hK; clear hK; refine hK _ ?_; clear hK)
          | (simp only [decide_eq_true_eq, decide_eq_false_iff_not, bne_iff_ne, ne_eq, Bool.not_eq_true', Bool.not_eq_false', Bool.true_eq_false, Bool.false_eq_true, reduceCtorEq, not_true_eq_false, eq_self] at hb <;> try (exfalso; omega))
          | refine VWP_cond2 _ (by simp only [go_sem, Nat.reduceLT, Nat.reduceLeDiff, Nat.reduceEqDiff, Nat.reduceAdd, Nat.reduceMul, Nat.reduceSub, reduceCtorEq, h0q]; rfl) (fun hb => ?_) (fun hb => ?_)
          | refine callK (by simp only [go_sem, Nat.reduceLT, Nat.reduceLeDiff, Nat.reduceEqDiff, Nat.reduceAdd, Nat.reduceMul, Nat.reduceSub, reduceCtorEq, h0q, List.mem_cons, List.not_mem_nil, or_false, forall_eq_or_imp, forall_eq, frzOk, frzOkC]; try simp) (args' := _) (by simp only [go_sem, Nat.reduceLT, Nat.reduceLeDiff, Nat.reduceEqDiff, Nat.reduceAdd, Nat.reduceMul, Nat.reduceSub, reduceCtorEq, h0q, frzA, frzC]; try rfl) (by first | exact hc | exact ho | exact hf) (by simp only [go_sem, Nat.reduceLT, Nat.reduceLeDiff, Nat.reduceEqDiff, Nat.reduceAdd, Nat.reduceMul, Nat.reduceSub, reduceCtorEq, h0q]; try simp) (by decide) ?_
          | simp only [go_sem, Nat.reduceLT, Nat.reduceLeDiff, Nat.reduceEqDiff, Nat.reduceAdd, Nat.reduceMul, Nat.reduceSub, reduceCtorEq, h0q]
          | simp (disch := omega) only [decide_eq_true_eq, if_pos, if_neg, wrap_id, le_maxLen, and_true, true_and, if_true, ite_true]
          | refine guard_split (by simp only [go_sem, Nat.reduceLT, Nat.reduceLeDiff, Nat.reduceEqDiff, Nat.reduceAdd, Nat.reduceMul, Nat.reduceSub, reduceCtorEq, h0q]) rfl (fun hb => ?_) (fun hb => ?_)
        refine ret_mk (vs := _) (acc := _) (by simp only [go_sem, Nat.reduceLT, Nat.reduceLeDiff, Nat.reduceEqDiff, Nat.reduceAdd, Nat.reduceMul, Nat.reduceSub, reduceCtorEq, vres]; rfl) (by simp only [go_sem, Nat.reduceLT, Nat.reduceLeDiff, Nat.reduceEqDiff, Nat.reduceAdd, Nat.reduceMul, Nat.reduceSub, reduceCtorEq, wrap, exV, exAs, exA, exCs, exC, rowsH_len, rowsH_take, rowsD_len, rowsD_take, Nat.le_refl]; rfl) (by simp) (by simp) (by simp [rowsH_pur, rowsD_pur])
end Go.Proofs.Ytclljpdcpcolpaa
