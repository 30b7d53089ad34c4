/- What the reference's Announce gives, and the law on values. -/
import Derived.Test.YtchkbgekmoileaaLC
namespace Go.Proofs.Ytchkbgekmoileaa
open Go Go.RowKit
set_option linter.unusedVariables false
set_option linter.unusedSimpArgs false
set_option maxRecDepth 100000
set_option maxHeartbeats 4000000
attribute [local irreducible] VWP vops vdraw contV contD CallK Guard GuardV NextL Puts Runs RetOK RetQ RetO RetQO thenQ blockQ

theorem rowsD_ones (te : TypeId) (ds : List DescS) (r : List PT) : (rowsD te ds ++ [r]).length = ds.length + 1 := by simp [rowsD]
theorem specAnnounce_ok (s : StoreD) (d : DescS) (r : StoreD × Int × Bool) (hr : announceL s d = r) (hs : s.small) (hd : d.entries.length ≤ 1048576) :
    SatP Try.prog 56 [.agg (s.cells 36 40 70), .agg (d.cells 70)]
      (.tup [.agg [.rf 0 r.1.heads.length, .rf 1 r.1.descs.length], .int .i64 r.2.1, .bool r.2.2]) [(36, rowsH r.1.heads), (40, rowsD 70 r.1.descs)] := by
  have hc := specStoreOk_ok s hs
  have hf := specDescOk_ok d hd
  have ho := l7Copy_ok s hs
  have hod := l6Copy_ok d.entries (by omega)
  obtain ⟨f1, f2, f3⟩ := hs
  refine satP_of_body hT Try.func56 (by kernel_rfl) rfl (rs := [.cell 4 27, .tmp 5, .tmp 6]) rfl (n := 60) rfl (by simp) rfl (by simp [rowsH_pur, rowsD_pur]) fun E hE => ?_
  unfold St.init
  unfold StoreD.cells DescS.cells at *
  cases hp : bP (StoreP s) with
  | false =>
    rw [hp] at hc
    rw [ann_no (by simp [annB, hp])] at hr
    subst hr
    have F := (Eq.refl 0)
    repeat' first
      | refine wSq fun _ hK => ?_
      | refine wRg ?_
      | refine wDr ?_
      | refine VWP_block ?_
      | refine VWP_skip ?_
      | refine VWP_exit ?_
      | refine VWP_ret ?_
      | (refine hK _ ?_; clear hK)
      | (clear hK; refine hK _ ?_; clear hK)
      | (clear hK; clear hK; refine hK _ ?_; clear hK)
      | (clear hK; clear hK; clear hK; refine hK _ ?_; clear hK)
      | (simp only [wHb, reduceCtorEq] at hb <;> try (exfalso; omega))
      | refine wCd (fun hb => ?_) fun hb => ?_
      | refine wCa (c := by first | exact hc | exact ho) (k := ?_)
      | simp only [go_sem, Nat.reduceLT, Nat.reduceLeDiff, Nat.reduceEqDiff, Nat.reduceAdd, Nat.reduceMul, Nat.reduceSub, reduceCtorEq, F]
      | simp (disch := omega) only [decide_eq_true_eq, if_pos, if_neg, wrap_id, le_maxLen, and_true, true_and, if_true, ite_true]
      | refine wGd (fun hb => ?_) fun hb => ?_
    refine ret_mk (vs := _) (acc := _) (by simp only [go_sem, Nat.reduceLT, Nat.reduceLeDiff, Nat.reduceEqDiff, Nat.reduceAdd, Nat.reduceMul, Nat.reduceSub, reduceCtorEq, vres]; rfl) (by simp only [go_sem, Nat.reduceLT, Nat.reduceLeDiff, Nat.reduceEqDiff, Nat.reduceAdd, Nat.reduceMul, Nat.reduceSub, reduceCtorEq, wrap, exV, exAs, exA, exCs, exC, rowsH_len, rowsH_take, rowsD_len, rowsD_take, Nat.le_refl]; rfl) (by simp) (by simp) (by simp [rowsH_pur, rowsD_pur])
  | true =>
    rw [hp] at hc
    cases hq : bP (DescP d) with
    | false =>
      rw [hq] at hf
      have hnf : bP (FitsP s.heads.length d) = false := bP_false fun hh => by rw [bP_true hh.1] at hq; cases hq
      rw [ann_no (by simp [annB, hp, hnf])] at hr
      subst hr
      have F := (Eq.refl 0)
      repeat' first
        | refine wSq fun _ hK => ?_
        | refine wRg ?_
        | refine wDr ?_
        | refine VWP_block ?_
        | refine VWP_skip ?_
        | refine VWP_exit ?_
        | refine VWP_ret ?_
        | (refine hK _ ?_; clear hK)
        | (clear hK; refine hK _ ?_; clear hK)
        | (clear hK; clear hK; refine hK _ ?_; clear hK)
        | (clear hK; clear hK; clear hK; refine hK _ ?_; clear hK)
        | (simp only [wHb, reduceCtorEq] at hb <;> try (exfalso; omega))
        | refine wCd (fun hb => ?_) fun hb => ?_
        | refine wCa (c := by first | exact hc | exact ho | exact hf) (k := ?_)
        | simp only [go_sem, Nat.reduceLT, Nat.reduceLeDiff, Nat.reduceEqDiff, Nat.reduceAdd, Nat.reduceMul, Nat.reduceSub, reduceCtorEq, F]
        | simp (disch := omega) only [decide_eq_true_eq, if_pos, if_neg, wrap_id, le_maxLen, and_true, true_and, if_true, ite_true]
        | refine wGd (fun hb => ?_) fun hb => ?_
      refine ret_mk (vs := _) (acc := _) (by simp only [go_sem, Nat.reduceLT, Nat.reduceLeDiff, Nat.reduceEqDiff, Nat.reduceAdd, Nat.reduceMul, Nat.reduceSub, reduceCtorEq, vres]; rfl) (by simp only [go_sem, Nat.reduceLT, Nat.reduceLeDiff, Nat.reduceEqDiff, Nat.reduceAdd, Nat.reduceMul, Nat.reduceSub, reduceCtorEq, wrap, exV, exAs, exA, exCs, exC, rowsH_len, rowsH_take, rowsD_len, rowsD_take, Nat.le_refl]; rfl) (by simp) (by simp) (by simp [rowsH_pur, rowsD_pur])
    | true =>
      rw [hq] at hf
      by_cases h0 : d.status = 0
      · obtain ⟨k, e, hk, hkl, hek, hiff⟩ := last_at (n := s.heads.length) (bP_iff.1 hq)
        have hwk := wrap_id (x := (k : Int)) (by omega)
        have hk0 : (0 : Int) ≤ (k : Nat) := by omega
        have hre := rowsE_at hek
        have h0q : (d.status != 0) = false := by simp [h0]
        by_cases hob : e.object < s.heads.length
        · have hfit := bP_true (hiff.2 hob)
          have hobn : ¬ (s.heads.length : Int) ≤ e.object := by omega
          by_cases h60 : (s.descs.length : Int) = 60
          · have h60q : ((s.descs.length : Int) == 60) = true := by simp [h60]
            have h60n : s.descs.length = 60 := by omega
            rw [ann_no (by simp [annB, h60n])] at hr
            subst hr
            have F := And.intro @rowsD_len (And.intro @rowsH_len (And.intro @rowsE_len (And.intro h0q (And.intro h60q (And.intro hk (And.intro hwk (And.intro hk0 (And.intro hkl (And.intro hre hobn)))))))))
            repeat' first
              | refine wSq fun _ hK => ?_
              | refine wRg ?_
              | refine wDr ?_
              | refine VWP_block ?_
              | refine VWP_skip ?_
              | refine VWP_exit ?_
              | refine VWP_ret ?_
              | (refine hK _ ?_; clear hK)
              | (clear hK; refine hK _ ?_; clear hK)
              | (clear hK; clear hK; refine hK _ ?_; clear hK)
              | (clear hK; clear hK; clear hK; refine hK _ ?_; clear hK)
              | (simp only [wHb, reduceCtorEq] at hb <;> try (exfalso; omega))
              | refine wCd (fun hb => ?_) fun hb => ?_
              | refine wCa (c := by first | exact hc | exact ho | exact hf) (k := ?_)
              | simp only [go_sem, Nat.reduceLT, Nat.reduceLeDiff, Nat.reduceEqDiff, Nat.reduceAdd, Nat.reduceMul, Nat.reduceSub, reduceCtorEq, F]
              | simp (disch := omega) only [decide_eq_true_eq, if_pos, if_neg, wrap_id, le_maxLen, and_true, true_and, if_true, ite_true]
              | refine wGd (fun hb => ?_) fun hb => ?_
            refine ret_mk (vs := _) (acc := _) (by simp only [go_sem, Nat.reduceLT, Nat.reduceLeDiff, Nat.reduceEqDiff, Nat.reduceAdd, Nat.reduceMul, Nat.reduceSub, reduceCtorEq, vres]; rfl) (by simp only [go_sem, Nat.reduceLT, Nat.reduceLeDiff, Nat.reduceEqDiff, Nat.reduceAdd, Nat.reduceMul, Nat.reduceSub, reduceCtorEq, wrap, exV, exAs, exA, exCs, exC, rowsH_len, rowsH_take, rowsD_len, rowsD_take, Nat.le_refl]; rfl) (by simp) (by simp) (by simp [rowsH_pur, rowsD_pur])
          · have h60q : ((s.descs.length : Int) == 60) = false := by simpa using h60
            have h60n : ¬ s.descs.length = 60 := by omega
            have he : announceL s d = ((StoreD.mk s.heads (s.descs ++ [d])), ((s.descs.length : Nat) : Int), true) := by simp [announceL, annB, hp, hfit, h0, h60n]
            rw [he] at hr
            subst hr
            have hln : (s.descs ++ [d]).length = s.descs.length + 1 := by simp
            have hsub : ((s.descs.length + 1 : Nat) : Int) - 1 = s.descs.length := by omega
            have hwn := wrap_id (x := (s.descs.length : Int)) (by omega)
            simp only [hln]
            have F := And.intro @rowsD_len (And.intro @rowsD_take (And.intro @rowsH_len (And.intro @rowsE_len (And.intro h0q (And.intro h60q (And.intro hk (And.intro hwk (And.intro hk0 (And.intro hkl (And.intro hre (And.intro hobn (And.intro hsub (And.intro hwn (And.intro @rowsD_ones (And.intro @Nat.le_refl (And.intro @vtree_done (And.intro @vtree_step (And.intro @vtreeO_some (And.intro @vtree_both @contT_at)))))))))))))))))))
            repeat' first
              | refine wSq fun _ hK => ?_
              | refine wRg ?_
              | refine VWP_orders hT hM (id := 6) (.both (.step 0 (.both (.step 1 (.both (.step 2 (.both (.step 3 (.both (.step 4 (.step 5 (.step 6 (.step 7 .done)))) (.step 5 (.step 4 (.step 6 (.step 7 .done)))))) (.step 5 (.step 3 (.step 4 (.step 6 (.step 7 .done))))))) (.step 5 (.step 2 (.step 3 (.step 4 (.step 6 (.step 7 .done)))))))) (.step 5 (.step 1 (.step 2 (.step 3 (.step 4 (.step 6 (.step 7 .done))))))))) (.step 1 (.both (.step 0 (.both (.step 2 (.both (.step 3 (.both (.step 4 (.step 5 (.step 6 (.step 7 .done)))) (.step 5 (.step 4 (.step 6 (.step 7 .done)))))) (.step 5 (.step 3 (.step 4 (.step 6 (.step 7 .done))))))) (.step 5 (.step 2 (.step 3 (.step 4 (.step 6 (.step 7 .done)))))))) (.step 2 (.both (.step 0 (.both (.step 3 (.both (.step 4 (.step 5 (.step 6 (.step 7 .done)))) (.step 5 (.step 4 (.step 6 (.step 7 .done)))))) (.step 5 (.step 3 (.step 4 (.step 6 (.step 7 .done))))))) (.step 3 (.both (.step 0 (.both (.step 4 (.step 5 (.step 6 (.step 7 .done)))) (.step 5 (.step 4 (.step 6 (.step 7 .done)))))) (.step 4 (.step 0 (.step 5 (.step 6 (.step 7 .done)))))))))))) (by kernel_rfl) ?_
              | refine And.intro ?_ ?_
              | refine wDr ?_
              | refine VWP_block ?_
              | refine VWP_skip ?_
              | refine VWP_exit ?_
              | refine VWP_ret ?_
              | (refine hK _ ?_; clear hK)
              | (clear hK; refine hK _ ?_; clear hK)
              | (clear hK; clear hK; refine hK _ ?_; clear hK)
              | (clear hK; clear hK; clear hK; refine hK _ ?_; clear hK)
              | (simp only [wHb, reduceCtorEq] at hb <;> try (exfalso; omega))
              | refine wCd (fun hb => ?_) fun hb => ?_
              | refine wCa (c := by first | exact hc | exact ho | exact hf | exact hod) (k := ?_)
              | simp only [go_sem, Nat.reduceLT, Nat.reduceLeDiff, Nat.reduceEqDiff, Nat.reduceAdd, Nat.reduceMul, Nat.reduceSub, reduceCtorEq, F]
              | simp (disch := omega) only [decide_eq_true_eq, if_pos, if_neg, wrap_id, le_maxLen, and_true, true_and, if_true, ite_true]
              | refine wGd (fun hb => ?_) fun hb => ?_
            all_goals first
              | (exfalso; simp_all; done)
              | (refine ret_mg [(2184, s.descs.length, 2)] (by simp only [merges, mergeH, go_sem, Nat.reduceLT, Nat.reduceLeDiff, Nat.reduceEqDiff, Nat.reduceAdd, Nat.reduceMul, Nat.reduceSub, reduceCtorEq, rowsD_get, rowsD_put, List.set_cons_succ, List.set_cons_zero, rowsE_len, Nat.le_refl]; rfl) (vs := _) (acc := _) (by simp only [go_sem, Nat.reduceLT, Nat.reduceLeDiff, Nat.reduceEqDiff, Nat.reduceAdd, Nat.reduceMul, Nat.reduceSub, reduceCtorEq, vres]; rfl) (by simp only [go_sem, Nat.reduceLT, Nat.reduceLeDiff, Nat.reduceEqDiff, Nat.reduceAdd, Nat.reduceMul, Nat.reduceSub, reduceCtorEq, wrap, exV, exAs, exA, exCs, exC, rowsH_len, rowsH_take, rowsE_take, rowsD_app, rowsD_more, rowsD_all, Nat.le_refl]; rfl) (by simp) (by simp) (by simp [rowsH_pur, rowsD_pur]))
        · have hnf : bP (FitsP s.heads.length d) = false := bP_false fun hh => hob (hiff.1 hh)
          have hobn : (s.heads.length : Int) ≤ e.object := by omega
          rw [ann_no (by simp [annB, hp, hnf])] at hr
          subst hr
          have F := And.intro @rowsD_len (And.intro @rowsH_len (And.intro @rowsE_len (And.intro h0q (And.intro hk (And.intro hwk (And.intro hk0 (And.intro hkl (And.intro hre hobn))))))))
          repeat' first
            | refine wSq fun _ hK => ?_
            | refine wRg ?_
            | refine wDr ?_
            | refine VWP_block ?_
            | refine VWP_skip ?_
            | refine VWP_exit ?_
            | refine VWP_ret ?_
            | (refine hK _ ?_; clear hK)
            | (clear hK; refine hK _ ?_; clear hK)
            | (clear hK; clear hK; refine hK _ ?_; clear hK)
            | (clear hK; clear hK; clear hK; refine hK _ ?_; clear hK)
            | (simp only [wHb, reduceCtorEq] at hb <;> try (exfalso; omega))
            | refine wCd (fun hb => ?_) fun hb => ?_
            | refine wCa (c := by first | exact hc | exact ho | exact hf) (k := ?_)
            | simp only [go_sem, Nat.reduceLT, Nat.reduceLeDiff, Nat.reduceEqDiff, Nat.reduceAdd, Nat.reduceMul, Nat.reduceSub, reduceCtorEq, F]
            | simp (disch := omega) only [decide_eq_true_eq, if_pos, if_neg, wrap_id, le_maxLen, and_true, true_and, if_true, ite_true]
            | refine wGd (fun hb => ?_) fun hb => ?_
          refine ret_mk (vs := _) (acc := _) (by simp only [go_sem, Nat.reduceLT, Nat.reduceLeDiff, Nat.reduceEqDiff, Nat.reduceAdd, Nat.reduceMul, Nat.reduceSub, reduceCtorEq, vres]; rfl) (by simp only [go_sem, Nat.reduceLT, Nat.reduceLeDiff, Nat.reduceEqDiff, Nat.reduceAdd, Nat.reduceMul, Nat.reduceSub, reduceCtorEq, wrap, exV, exAs, exA, exCs, exC, rowsH_len, rowsH_take, rowsD_len, rowsD_take, Nat.le_refl]; rfl) (by simp) (by simp) (by simp [rowsH_pur, rowsD_pur])
      · have h0q : (d.status != 0) = true := by simpa using h0
        rw [ann_no (by simp [annB, h0])] at hr
        subst hr
        have F := h0q
        repeat' first
          | refine wSq fun _ hK => ?_
          | refine wRg ?_
          | refine wDr ?_
          | refine VWP_block ?_
          | refine VWP_skip ?_
          | refine VWP_exit ?_
          | refine VWP_ret ?_
          | (refine hK _ ?_; clear hK)
          | (clear hK; refine hK _ ?_; clear hK)
          | (clear hK; clear hK; refine hK _ ?_; clear hK)
          | (clear hK; clear hK; clear hK; refine hK _ ?_; clear hK)
          | (simp only [wHb, reduceCtorEq] at hb <;> try (exfalso; omega))
          | refine wCd (fun hb => ?_) fun hb => ?_
          | refine wCa (c := by first | exact hc | exact ho | exact hf) (k := ?_)
          | simp only [go_sem, Nat.reduceLT, Nat.reduceLeDiff, Nat.reduceEqDiff, Nat.reduceAdd, Nat.reduceMul, Nat.reduceSub, reduceCtorEq, F]
          | simp (disch := omega) only [decide_eq_true_eq, if_pos, if_neg, wrap_id, le_maxLen, and_true, true_and, if_true, ite_true]
          | refine wGd (fun hb => ?_) fun hb => ?_
        refine ret_mk (vs := _) (acc := _) (by simp only [go_sem, Nat.reduceLT, Nat.reduceLeDiff, Nat.reduceEqDiff, Nat.reduceAdd, Nat.reduceMul, Nat.reduceSub, reduceCtorEq, vres]; rfl) (by simp only [go_sem, Nat.reduceLT, Nat.reduceLeDiff, Nat.reduceEqDiff, Nat.reduceAdd, Nat.reduceMul, Nat.reduceSub, reduceCtorEq, wrap, exV, exAs, exA, exCs, exC, rowsH_len, rowsH_take, rowsD_len, rowsD_take, Nat.le_refl]; rfl) (by simp) (by simp) (by simp [rowsH_pur, rowsD_pur])
theorem ann_tiny {s : StoreD} {d : DescS} (hs : s.tiny) (hd : d.entries.length ≤ 1048576) (hall : entsN s.descs + d.entries.length ≤ 1048576) : (announceL s d).1.tiny := by
  unfold announceL
  split
  · rename_i h
    have h60 : s.descs.length ≤ 60 := by
      unfold annB at h
      simp only [Bool.and_eq_true] at h
      exact (bP_iff.1 h.1.1.1).2.2.1
    refine ⟨hs.1, ?_, ?_⟩
    · show (s.descs ++ [d]).length ≤ _
      simp
      omega
    · show entsN (s.descs ++ [d]) ≤ _
      rw [entsN_app]
      simp only [entsN]
      omega
  · exact hs
end Go.Proofs.Ytchkbgekmoileaa
