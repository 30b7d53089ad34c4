/- What both Announce give. -/
import Derived.Test.YtchkbgekmoileaaLB
import Derived.Test.YtchkbgekmoileaaYB
import Derived.Test.YtchkbgekmoileaaEf
namespace Go.Proofs.Ytchkbgekmoileaa
open Go Go.RowKit
set_option linter.unusedVariables false
set_option linter.unusedSimpArgs false
set_option maxRecDepth 100000
set_option maxHeartbeats 4000000
attribute [local irreducible] VWP vops vdraw contV contD CallK Guard GuardV NextL Puts Runs RetOK RetQ RetO RetQO thenQ blockQ

noncomputable def annB (s : StoreD) (d : DescS) : Bool := bP (StoreP s) && bP (FitsP s.heads.length d) && (d.status == 0) && !(s.descs.length == 60)
noncomputable def announceL (s : StoreD) (d : DescS) : StoreD × Int × Bool := if annB s d = true then (⟨s.heads, s.descs ++ [d]⟩, s.descs.length, true) else (s, -1, false)
theorem rowsD_get (te : TypeId) (ds : List DescS) (r : List PT) : (rowsD te ds ++ [r])[ds.length]? = some r := by
  have := rowsDt_get te (ds := ds) (Nat.le_refl ds.length) r
  rwa [List.take_length] at this
theorem rowsD_put (te : TypeId) (ds : List DescS) (r r' : List PT) : (rowsD te ds ++ [r]).set ds.length r' = rowsD te ds ++ [r'] := by
  have := rowsDt_set te (ds := ds) (Nat.le_refl ds.length) r r'
  rwa [List.take_length] at this
theorem rowsD_app (te : TypeId) (ds : List DescS) (d : DescS) : rowsD te ds ++ [[.int .i64 d.owner, .int .i64 d.status, .list te (rowsE d.entries)]] = rowsD te (ds ++ [d]) := by simp [rowsD, rowT]
theorem rowsD_more (te : TypeId) (ds : List DescS) (d : DescS) : (rowsD te (ds ++ [d])).length = ds.length + 1 := by simp [rowsD]
theorem rowsD_all (te : TypeId) (ds : List DescS) (d : DescS) : (rowsD te (ds ++ [d])).take (ds.length + 1) = rowsD te (ds ++ [d]) := by rw [List.take_of_length_le (by rw [rowsD_more]; exact Nat.le_refl _)]
theorem ann_no {s : StoreD} {d : DescS} (h : annB s d = false) : announceL s d = (s, -1, false) := by simp [announceL, h]
theorem implAnnounce_ok (s : StoreD) (d : DescS) (r : StoreD × Int × Bool) (hr : announceL s d = r) (hs : s.small) (hd : d.entries.length ≤ 1048576) :
    SatP Try.prog 12 [.agg (s.cells 36 40 70), .agg (d.cells 70)]
      (.tup [.agg [.rf 0 r.1.heads.length, .rf 1 r.1.descs.length], .int .i64 r.2.1, .bool r.2.2]) [(36, rowsH r.1.heads), (40, rowsD 70 r.1.descs)] := by
  have hc := implStoreOk_ok s hs
  have hf := fitsStore_ok s d hs.1 hd
  have ho := ownStore_ok s hs
  have hod := ownDesc_ok d hd
  obtain ⟨f1, f2, f3⟩ := hs
  refine satP_of_body hT Try.func12 (by kernel_rfl) rfl (rs := [.cell 4 27, .tmp 5, .tmp 6]) rfl (n := 42) rfl (by simp) rfl (by simp [rowsH_pur, rowsD_pur]) fun E hE => ?_
  unfold St.init
  unfold StoreD.cells DescS.cells at *
  cases hp : bP (StoreP s) with
  | false =>
    rw [hp] at hc
    rw [ann_no (by simp [annB, hp])] at hr
    subst hr
    have F := (Eq.refl 0)
    repeat' first
      | refine wSq fun _ hK => ?_
      | refine wRg ?_
      | refine wDr ?_
      | refine VWP_block ?_
      | refine VWP_skip ?_
      | refine VWP_exit ?_
      | refine VWP_ret ?_
      | (refine hK _ ?_; clear hK)
      | (clear hK; refine hK _ ?_; clear hK)
      | (clear hK; clear hK; refine hK _ ?_; clear hK)
      | (clear hK; clear hK; clear hK; refine hK _ ?_; clear hK)
      | (simp only [wHb, reduceCtorEq] at hb <;> try (exfalso; omega))
      | refine wCd (fun hb => ?_) fun hb => ?_
      | refine wCa (c := by first | exact hc | exact ho) (k := ?_)
      | simp only [go_sem, Nat.reduceLT, Nat.reduceLeDiff, Nat.reduceEqDiff, Nat.reduceAdd, Nat.reduceMul, Nat.reduceSub, reduceCtorEq, F]
      | simp (disch := omega) only [decide_eq_true_eq, if_pos, if_neg, wrap_id, le_maxLen, and_true, true_and, if_true, ite_true]
      | refine wGd (fun hb => ?_) fun hb => ?_
    refine ret_mk (vs := _) (acc := _) (by simp only [go_sem, Nat.reduceLT, Nat.reduceLeDiff, Nat.reduceEqDiff, Nat.reduceAdd, Nat.reduceMul, Nat.reduceSub, reduceCtorEq, vres]; rfl) (by simp only [go_sem, Nat.reduceLT, Nat.reduceLeDiff, Nat.reduceEqDiff, Nat.reduceAdd, Nat.reduceMul, Nat.reduceSub, reduceCtorEq, wrap, exV, exAs, exA, exCs, exC, rowsH_len, rowsH_take, rowsD_len, rowsD_take, Nat.le_refl]; rfl) (by simp) (by simp) (by simp [rowsH_pur, rowsD_pur])
  | true =>
    rw [hp] at hc
    cases hq : bP (FitsP s.heads.length d) with
    | false =>
      rw [hq] at hf
      rw [ann_no (by simp [annB, hp, hq])] at hr
      subst hr
      have F := (Eq.refl 0)
      repeat' first
        | refine wSq fun _ hK => ?_
        | refine wRg ?_
        | refine wDr ?_
        | refine VWP_block ?_
        | refine VWP_skip ?_
        | refine VWP_exit ?_
        | refine VWP_ret ?_
        | (refine hK _ ?_; clear hK)
        | (clear hK; refine hK _ ?_; clear hK)
        | (clear hK; clear hK; refine hK _ ?_; clear hK)
        | (clear hK; clear hK; clear hK; refine hK _ ?_; clear hK)
        | (simp only [wHb, reduceCtorEq] at hb <;> try (exfalso; omega))
        | refine wCd (fun hb => ?_) fun hb => ?_
        | refine wCa (c := by first | exact hc | exact ho | exact hf) (k := ?_)
        | simp only [go_sem, Nat.reduceLT, Nat.reduceLeDiff, Nat.reduceEqDiff, Nat.reduceAdd, Nat.reduceMul, Nat.reduceSub, reduceCtorEq, F]
        | simp (disch := omega) only [decide_eq_true_eq, if_pos, if_neg, wrap_id, le_maxLen, and_true, true_and, if_true, ite_true]
        | refine wGd (fun hb => ?_) fun hb => ?_
      refine ret_mk (vs := _) (acc := _) (by simp only [go_sem, Nat.reduceLT, Nat.reduceLeDiff, Nat.reduceEqDiff, Nat.reduceAdd, Nat.reduceMul, Nat.reduceSub, reduceCtorEq, vres]; rfl) (by simp only [go_sem, Nat.reduceLT, Nat.reduceLeDiff, Nat.reduceEqDiff, Nat.reduceAdd, Nat.reduceMul, Nat.reduceSub, reduceCtorEq, wrap, exV, exAs, exA, exCs, exC, rowsH_len, rowsH_take, rowsD_len, rowsD_take, Nat.le_refl]; rfl) (by simp) (by simp) (by simp [rowsH_pur, rowsD_pur])
    | true =>
      rw [hq] at hf
      by_cases h0 : d.status = 0
      · by_cases h60 : (s.descs.length : Int) = 60
        · have h60n : s.descs.length = 60 := by omega
          rw [ann_no (by simp [annB, h60n])] at hr
          subst hr
          have h60q : ((s.descs.length : Int) == 60) = true := by simp [h60]
          have h0q : (d.status != 0) = false := by simp [h0]
          have F := And.intro @rowsD_len (And.intro h0q h60q)
          repeat' first
            | refine wSq fun _ hK => ?_
            | refine wRg ?_
            | refine wDr ?_
            | refine VWP_block ?_
            | refine VWP_skip ?_
            | refine VWP_exit ?_
            | refine VWP_ret ?_
            | (refine hK _ ?_; clear hK)
            | (clear hK; refine hK _ ?_; clear hK)
            | (clear hK; clear hK; refine hK _ ?_; clear hK)
            | (clear hK; clear hK; clear hK; refine hK _ ?_; clear hK)
            | (simp only [wHb, reduceCtorEq] at hb <;> try (exfalso; omega))
            | refine wCd (fun hb => ?_) fun hb => ?_
            | refine wCa (c := by first | exact hc | exact ho | exact hf) (k := ?_)
            | simp only [go_sem, Nat.reduceLT, Nat.reduceLeDiff, Nat.reduceEqDiff, Nat.reduceAdd, Nat.reduceMul, Nat.reduceSub, reduceCtorEq, F]
            | simp (disch := omega) only [decide_eq_true_eq, if_pos, if_neg, wrap_id, le_maxLen, and_true, true_and, if_true, ite_true]
            | refine wGd (fun hb => ?_) fun hb => ?_
          refine ret_mk (vs := _) (acc := _) (by simp only [go_sem, Nat.reduceLT, Nat.reduceLeDiff, Nat.reduceEqDiff, Nat.reduceAdd, Nat.reduceMul, Nat.reduceSub, reduceCtorEq, vres]; rfl) (by simp only [go_sem, Nat.reduceLT, Nat.reduceLeDiff, Nat.reduceEqDiff, Nat.reduceAdd, Nat.reduceMul, Nat.reduceSub, reduceCtorEq, wrap, exV, exAs, exA, exCs, exC, rowsH_len, rowsH_take, rowsD_len, rowsD_take, Nat.le_refl]; rfl) (by simp) (by simp) (by simp [rowsH_pur, rowsD_pur])
        · have h60q : ((s.descs.length : Int) == 60) = false := by simpa using h60
          have h60n : ¬ s.descs.length = 60 := by omega
          have he : announceL s d = ((StoreD.mk s.heads (s.descs ++ [d])), ((s.descs.length : Nat) : Int), true) := by simp [announceL, annB, hp, hq, h0, h60n]
          rw [he] at hr
          subst hr
          have hln : (s.descs ++ [d]).length = s.descs.length + 1 := by simp
          simp only [hln]
          have h0q : (d.status != 0) = false := by simp [h0]
          have F := And.intro @rowsD_len (And.intro @rowsD_take (And.intro @rowsE_len (And.intro h0q (And.intro h60q (And.intro @Nat.le_refl (And.intro @vtree_done (And.intro @vtree_step (And.intro @vtreeO_some (And.intro @vtree_both @contT_at)))))))))
          repeat' first
            | refine wSq fun _ hK => ?_
            | refine wRg ?_
            | refine VWP_orders hT hM (id := 5) (.both (.step 0 (.both (.step 1 (.both (.step 2 (.both (.step 3 (.step 4 (.step 5 (.step 6 .done)))) (.step 4 (.step 3 (.step 5 (.step 6 .done)))))) (.step 4 (.step 2 (.step 3 (.step 5 (.step 6 .done))))))) (.step 4 (.step 1 (.step 2 (.step 3 (.step 5 (.step 6 .done)))))))) (.step 1 (.both (.step 0 (.both (.step 2 (.both (.step 3 (.step 4 (.step 5 (.step 6 .done)))) (.step 4 (.step 3 (.step 5 (.step 6 .done)))))) (.step 4 (.step 2 (.step 3 (.step 5 (.step 6 .done))))))) (.step 2 (.both (.step 0 (.both (.step 3 (.step 4 (.step 5 (.step 6 .done)))) (.step 4 (.step 3 (.step 5 (.step 6 .done)))))) (.step 3 (.step 0 (.step 4 (.step 5 (.step 6 .done)))))))))) (by kernel_rfl) ?_
            | refine And.intro ?_ ?_
            | refine wDr ?_
            | refine VWP_block ?_
            | refine VWP_skip ?_
            | refine VWP_exit ?_
            | refine VWP_ret ?_
            | (refine hK _ ?_; clear hK)
            | (clear hK; refine hK _ ?_; clear hK)
            | (clear hK; clear hK; refine hK _ ?_; clear hK)
            | (clear hK; clear hK; clear hK; refine hK _ ?_; clear hK)
            | (simp only [wHb, reduceCtorEq] at hb <;> try (exfalso; omega))
            | refine wCd (fun hb => ?_) fun hb => ?_
            | refine wCa (c := by first | exact hc | exact ho | exact hf | exact hod) (k := ?_)
            | simp only [go_sem, Nat.reduceLT, Nat.reduceLeDiff, Nat.reduceEqDiff, Nat.reduceAdd, Nat.reduceMul, Nat.reduceSub, reduceCtorEq, F]
            | simp (disch := omega) only [decide_eq_true_eq, if_pos, if_neg, wrap_id, le_maxLen, and_true, true_and, if_true, ite_true]
            | refine wGd (fun hb => ?_) fun hb => ?_
          all_goals first
            | (exfalso; simp_all; done)
            | (refine ret_mg [(326, s.descs.length, 2)] (by simp only [merges, mergeH, go_sem, Nat.reduceLT, Nat.reduceLeDiff, Nat.reduceEqDiff, Nat.reduceAdd, Nat.reduceMul, Nat.reduceSub, reduceCtorEq, rowsD_get, rowsD_put, List.set_cons_succ, List.set_cons_zero, rowsE_len, Nat.le_refl]; rfl) (vs := _) (acc := _) (by simp only [go_sem, Nat.reduceLT, Nat.reduceLeDiff, Nat.reduceEqDiff, Nat.reduceAdd, Nat.reduceMul, Nat.reduceSub, reduceCtorEq, vres]; rfl) (by simp only [go_sem, Nat.reduceLT, Nat.reduceLeDiff, Nat.reduceEqDiff, Nat.reduceAdd, Nat.reduceMul, Nat.reduceSub, reduceCtorEq, wrap, exV, exAs, exA, exCs, exC, rowsH_len, rowsH_take, rowsE_take, rowsD_app, rowsD_more, rowsD_all, Nat.le_refl]; rfl) (by simp) (by simp) (by simp [rowsH_pur, rowsD_pur]))
      · have h0q : (d.status != 0) = true := by simpa using h0
        rw [ann_no (by simp [annB, h0])] at hr
        subst hr
        have F := h0q
        repeat' first
          | refine wSq fun _ hK => ?_
          | refine wRg ?_
          | refine wDr ?_
          | refine VWP_block ?_
          | refine VWP_skip ?_
          | refine VWP_exit ?_
          | refine VWP_ret ?_
          | (refine hK _ ?_; clear hK)
          | (clear hK; refine hK _ ?_; clear hK)
          | (clear hK; clear hK; refine hK _ ?_; clear hK)
          | (clear hK; clear hK; clear hK; refine hK _ ?_; clear hK)
          | (simp only [wHb, reduceCtorEq] at hb <;> try (exfalso; omega))
          | refine wCd (fun hb => ?_) fun hb => ?_
          | refine wCa (c := by first | exact hc | exact ho | exact hf) (k := ?_)
          | simp only [go_sem, Nat.reduceLT, Nat.reduceLeDiff, Nat.reduceEqDiff, Nat.reduceAdd, Nat.reduceMul, Nat.reduceSub, reduceCtorEq, F]
          | simp (disch := omega) only [decide_eq_true_eq, if_pos, if_neg, wrap_id, le_maxLen, and_true, true_and, if_true, ite_true]
          | refine wGd (fun hb => ?_) fun hb => ?_
        refine ret_mk (vs := _) (acc := _) (by simp only [go_sem, Nat.reduceLT, Nat.reduceLeDiff, Nat.reduceEqDiff, Nat.reduceAdd, Nat.reduceMul, Nat.reduceSub, reduceCtorEq, vres]; rfl) (by simp only [go_sem, Nat.reduceLT, Nat.reduceLeDiff, Nat.reduceEqDiff, Nat.reduceAdd, Nat.reduceMul, Nat.reduceSub, reduceCtorEq, wrap, exV, exAs, exA, exCs, exC, rowsH_len, rowsH_take, rowsD_len, rowsD_take, Nat.le_refl]; rfl) (by simp) (by simp) (by simp [rowsH_pur, rowsD_pur])
end Go.Proofs.Ytchkbgekmoileaa
