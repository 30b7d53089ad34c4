/- Stores in new memory: the program's copy and the reference's. -/
import Derived.Test.YtchkbgekmoileaaSI
import Derived.Test.YtchkbgekmoileaaDJ
import Derived.Test.YtchkbgekmoileaaEc
namespace Go.Proofs.Ytchkbgekmoileaa
open Go Go.RowKit
set_option linter.unusedVariables false
set_option linter.unusedSimpArgs false
set_option maxRecDepth 100000
set_option maxHeartbeats 4000000
attribute [local irreducible] VWP vops vdraw contV contD CallK Guard GuardV NextL Puts Runs RetOK RetQ RetO RetQO thenQ blockQ
attribute [local irreducible] NextB

theorem rowsDt_len (te : TypeId) {ds : List DescS} {i : Nat} (h : i ≤ ds.length) : (rowsD te (ds.take i)).length = i := by simp [rowsD]; omega
theorem rowsDt_take (te : TypeId) {ds : List DescS} {i : Nat} (h : i ≤ ds.length) : (rowsD te (ds.take i)).take i = rowsD te (ds.take i) := by rw [List.take_of_length_le (by rw [rowsDt_len te h]; exact Nat.le_refl _)]
theorem rowsDt_get (te : TypeId) {ds : List DescS} {i : Nat} (h : i ≤ ds.length) (r : List PT) : (rowsD te (ds.take i) ++ [r])[i]? = some r := by
  rw [List.getElem?_append_right (by rw [rowsDt_len te h]; exact Nat.le_refl _), rowsDt_len te h, Nat.sub_self]
  rfl
theorem rowsDt_set (te : TypeId) {ds : List DescS} {i : Nat} (h : i ≤ ds.length) (r r' : List PT) : (rowsD te (ds.take i) ++ [r]).set i r' = rowsD te (ds.take i) ++ [r'] := by
  rw [List.set_append_right _ _ (by rw [rowsDt_len te h]; exact Nat.le_refl _), rowsDt_len te h, Nat.sub_self]
  rfl
theorem rowsDt_snoc (te : TypeId) {ds : List DescS} {i : Nat} {d : DescS} (h : ds[i]? = some d) : rowsD te (ds.take i) ++ [[.int .i64 d.owner, .int .i64 d.status, .list te (rowsE d.entries)]] = rowsD te (ds.take (i + 1)) := by
  rw [List.take_add_one, h]
  simp [rowsD, rowT]
theorem ownDesc_ok (d : DescS) (hl : d.entries.length ≤ 1048576) : SatP Try.prog 38 [.agg (d.cells 70)] (.agg [.int .i64 d.owner, .int .i64 d.status, .rf 0 d.entries.length]) [(70, rowsE d.entries)] := by
  refine satP_of_body hT Try.func38 (by kernel_rfl) rfl (rs := [.cell 2 40]) rfl (n := 8) rfl (by simp) rfl (by simpa using rowsE_pur d.entries) fun E hE => ?_
  unfold St.init
  unfold DescS.cells
  have F := @rowsE_len
  repeat' first
    | refine wSq fun _ hK => ?_
    | refine wRg ?_
    | refine wDr ?_
    | refine VWP_block ?_
    | refine VWP_skip ?_
    | refine VWP_exit ?_
    | refine VWP_ret ?_
    | (refine hK _ ?_; clear hK)
    | (clear hK; refine hK _ ?_; clear hK)
    | (clear hK; clear hK; refine hK _ ?_; clear hK)
    | (clear hK; clear hK; clear hK; refine hK _ ?_; clear hK)
    | (simp only [wHb, reduceCtorEq] at hb <;> try (exfalso; omega))
    | refine wCd (fun hb => ?_) fun hb => ?_
    | refine wCa (c := by first | exact ownEntries_ok d.entries (by omega)) (k := ?_)
    | simp only [go_sem, Nat.reduceLT, Nat.reduceLeDiff, Nat.reduceEqDiff, Nat.reduceAdd, Nat.reduceMul, Nat.reduceSub, reduceCtorEq, F]
    | simp (disch := omega) only [decide_eq_true_eq, if_pos, if_neg, wrap_id, le_maxLen, and_true, true_and, if_true, ite_true]
    | refine wGd (fun hb => ?_) fun hb => ?_
  refine ret_mk (vs := _) (acc := _) (by simp only [go_sem, Nat.reduceLT, Nat.reduceLeDiff, Nat.reduceEqDiff, Nat.reduceAdd, Nat.reduceMul, Nat.reduceSub, reduceCtorEq, vres]; rfl) (by simp only [go_sem, Nat.reduceLT, Nat.reduceLeDiff, Nat.reduceEqDiff, Nat.reduceAdd, Nat.reduceMul, Nat.reduceSub, reduceCtorEq, wrap, exV, exA, exCs, exC, rowsE_len, rowsE_take, Nat.le_refl]; rfl) (by simp) (by simp) (by simp [rowsE_pur])
theorem ownStore_ok (s : StoreD) (hs : s.small) :
    SatP Try.prog 25 [.agg (s.cells 36 40 70)] (.agg [.rf 0 s.heads.length, .rf 1 s.descs.length]) [(36, rowsH s.heads), (40, rowsD 70 s.descs)] := by
  obtain ⟨f1, f2, f3⟩ := hs
  refine satP_of_body hT Try.func25 (by kernel_rfl) rfl (rs := [.cell 2 27]) rfl (n := 28) rfl (by simp) rfl (by simp [rowsH_pur, rowsD_pur]) fun E hE => ?_
  unfold St.init
  unfold StoreD.cells
  have F := And.intro @rowsH_len (And.intro @rowsH_scal @rowsD_len)
  repeat' first
    | refine wSq fun _ hK => ?_
    | refine wRg ?_
    | refine wDr ?_
    | refine VWP_block ?_
    | refine VWP_skip ?_
    | refine VWP_exit ?_
    | refine VWP_ret ?_
    | (refine hK _ ?_; clear hK)
    | (clear hK; refine hK _ ?_; clear hK)
    | (clear hK; clear hK; refine hK _ ?_; clear hK)
    | (clear hK; clear hK; clear hK; refine hK _ ?_; clear hK)
    | (simp only [wHb, reduceCtorEq] at hb <;> try (exfalso; omega))
    | refine wCd (fun hb => ?_) fun hb => ?_
    | simp only [go_sem, Nat.reduceLT, Nat.reduceLeDiff, Nat.reduceEqDiff, Nat.reduceAdd, Nat.reduceMul, Nat.reduceSub, reduceCtorEq, F]
    | simp (disch := omega) only [decide_eq_true_eq, if_pos, if_neg, wrap_id, le_maxLen, and_true, true_and, if_true, ite_true]
    | refine wGd (fun hb => ?_) fun hb => ?_
  refine VWP_loopB (X := Nat × Nat) (fun x => [(1, .bp 0 0), (2, .bp 1 0), (3, .bp 5 0), (13, .fr 40 (rowsD 70 s.descs)), (14, .int .i64 s.descs.length), (15, .int .i64 x.1)])
    (fun x => [(0, .box [.fr 36 (rowsH s.heads), .fr 40 (rowsD 70 s.descs)]), (1, .box [.nl 36, .nl 40]), (3, .root 36 (rowsH s.heads)), (5, .box [.rf 3 s.heads.length, .rf x.2 x.1]), (x.2, .root 40 (rowsD 70 (s.descs.take x.1)))]) (fun x => s.descs.length - x.1)
    (fun x => x.1 ≤ s.descs.length ∧ 4 ≤ x.2 ∧ x.2 ≠ 5) (fun x => max (x.2 + 1) 6) (0, 4) ⟨by simp, by simp, by simp⟩ (by simp [updV]) (by simp [updH, rowsD, rowsH_take]) (by simp) ?_
  rintro ⟨i, T⟩ nx ⟨hi, hTg, hT5⟩ hB
  simp only at hi hTg hT5 hB
  have hB6 : 6 ≤ nx := by omega
  have hBT : T < nx := by omega
  have a0 : T ≠ 0 := by omega
  have a1 : T ≠ 1 := by omega
  have a3 : T ≠ 3 := by omega
  have b0 : (0 : Nat) ≠ T := by omega
  have b1 : (1 : Nat) ≠ T := by omega
  have b3 : (3 : Nat) ≠ T := by omega
  have b5 : (5 : Nat) ≠ T := by omega
  have hw := wrap_id (x := (i : Int) + 1) (by omega)
  rcases Nat.lt_or_ge i s.descs.length with hlt | hge
  · obtain ⟨d, hd⟩ : ∃ d, s.descs[i]? = some d := ⟨_, List.getElem?_eq_getElem hlt⟩
    have hre := rowsD_at (te := 70) hd
    have c0 : nx ≠ 0 := by omega
    have c1 : nx ≠ 1 := by omega
    have c3 : nx ≠ 3 := by omega
    have c5 : nx ≠ 5 := by omega
    have cT : nx ≠ T := by omega
    have d0 : (0 : Nat) ≠ nx := by omega
    have d1 : (1 : Nat) ≠ nx := by omega
    have d3 : (3 : Nat) ≠ nx := by omega
    have d5 : (5 : Nat) ≠ nx := by omega
    have dT : T ≠ nx := by omega
    have hl1 := rowsDt_len 70 (ds := s.descs) (i := i) hi
    have hl2 := rowsDt_take 70 (ds := s.descs) (i := i) hi
    have hod := ownDesc_ok d (f3 d (List.mem_of_getElem? hd))
    unfold DescS.cells at hod
    have F := And.intro @rowsD_len (And.intro @rowsE_len (And.intro hre (And.intro hl1 (And.intro hl2 (And.intro @Nat.le_refl (And.intro a0 (And.intro a1 (And.intro a3 (And.intro b0 (And.intro b1 (And.intro b3 (And.intro b5 (And.intro hT5 (And.intro c0 (And.intro c1 (And.intro c3 (And.intro c5 (And.intro cT (And.intro d0 (And.intro d1 (And.intro d3 (And.intro d5 dT))))))))))))))))))))))
    repeat' first
      | refine wSq fun _ hK => ?_
      | refine wRg ?_
      | refine wDr ?_
      | refine VWP_block ?_
      | refine VWP_skip ?_
      | refine VWP_exit ?_
      | refine VWP_ret ?_
      | (refine hK _ ?_; clear hK)
      | (clear hK; refine hK _ ?_; clear hK)
      | (clear hK; clear hK; refine hK _ ?_; clear hK)
      | (clear hK; clear hK; clear hK; refine hK _ ?_; clear hK)
      | (simp only [wHb, reduceCtorEq] at hb <;> try (exfalso; omega))
      | refine wCd (fun hb => ?_) fun hb => ?_
      | refine wCa (c := by first | exact hod) (k := ?_)
      | simp only [go_sem, Nat.reduceLT, Nat.reduceLeDiff, Nat.reduceEqDiff, Nat.reduceAdd, Nat.reduceMul, Nat.reduceSub, reduceCtorEq, F]
      | simp (disch := omega) only [decide_eq_true_eq, if_pos, if_neg, wrap_id, le_maxLen, and_true, true_and, if_true, ite_true]
      | refine wGd (fun hb => ?_) fun hb => ?_
    have q1 : nx + 1 + 320 = nx + 321 := by omega
    have q2 : nx + 1 + 256 = nx + 257 := by omega
    have q3 : nx + 1 + 192 = nx + 193 := by omega
    simp only [q1, q2, q3]
    have g0 : nx + 513 = nx + 1 + 512 := by omega
    generalize hA : nx + 193 = A
    generalize hC : nx + 321 = C
    generalize hBb : nx + 257 = B
    have e1 : C ≠ 5 := by omega
    have e2 : A ≠ 5 := by omega
    have e3 : A ≠ C := by omega
    have e4 : A ≠ T := by omega
    have e5 : A ≠ B := by omega
    have e6 : C ≠ T := by omega
    have e7 : C ≠ nx := by omega
    have e8 : A ≠ nx := by omega
    have k0 : (0 : Nat) ≠ C ∧ (0 : Nat) ≠ A ∧ (0 : Nat) ≠ B ∧ (1 : Nat) ≠ C ∧ (1 : Nat) ≠ A ∧ (1 : Nat) ≠ B ∧ (3 : Nat) ≠ C ∧ (3 : Nat) ≠ A ∧ (3 : Nat) ≠ B ∧ (5 : Nat) ≠ C ∧ (5 : Nat) ≠ A ∧ (5 : Nat) ≠ B := by omega
    obtain ⟨k1, k2, k3, k4, k5, k6, k7, k8, k9, k10, k11, k12⟩ := k0
    have hsn := rowsDt_snoc 70 hd
    refine nextBM [(C, i, 2)] (by simp only [merges, mergeH, go_sem, Nat.reduceLT, Nat.reduceLeDiff, Nat.reduceEqDiff, Nat.reduceAdd, Nat.reduceMul, Nat.reduceSub, reduceCtorEq, e1, e2, e3, Ne.symm e3, e4, e5, e6, e7, e8, rowsDt_get 70 hi, rowsDt_set 70 hi, List.set_cons_succ, List.set_cons_zero, rowsE_len, Nat.le_refl]; rfl) (i + 1, C) ⟨by simp only; omega, by simp only; omega, by simp only; omega⟩ (by simp only; omega) (by simp [updV, tmL, hw]) ?_ (by simp only; omega)
    simp [updH, hpL, rowsE_take, hsn, k1, k2, k3, k4, k5, k6, k7, k8, k9, k10, k11, k12, b0, b1, b3, b5, d0, d1, d3, d5]
  · obtain rfl : i = s.descs.length := by omega
    have F := And.intro @rowsD_len (And.intro a0 (And.intro a1 (And.intro a3 (And.intro b0 (And.intro b1 (And.intro b3 (And.intro b5 hT5)))))))
    repeat' first
      | refine wSq fun _ hK => ?_
      | refine wRg ?_
      | refine wDr ?_
      | refine VWP_block ?_
      | refine VWP_skip ?_
      | refine VWP_exit ?_
      | refine VWP_ret ?_
      | (refine hK _ ?_; clear hK)
      | (clear hK; refine hK _ ?_; clear hK)
      | (clear hK; clear hK; refine hK _ ?_; clear hK)
      | (clear hK; clear hK; clear hK; refine hK _ ?_; clear hK)
      | (simp only [wHb, reduceCtorEq] at hb <;> try (exfalso; omega))
      | refine wCd (fun hb => ?_) fun hb => ?_
      | simp only [go_sem, Nat.reduceLT, Nat.reduceLeDiff, Nat.reduceEqDiff, Nat.reduceAdd, Nat.reduceMul, Nat.reduceSub, reduceCtorEq, F]
      | simp (disch := omega) only [decide_eq_true_eq, if_pos, if_neg, wrap_id, le_maxLen, and_true, true_and, if_true, ite_true]
      | refine wGd (fun hb => ?_) fun hb => ?_
    have hl3 : (rowsD 70 (s.descs.take s.descs.length)).length = s.descs.length := rowsDt_len _ (Nat.le_refl _)
    refine ret_mk (vs := _) (acc := _) (by simp only [go_sem, Nat.reduceLT, Nat.reduceLeDiff, Nat.reduceEqDiff, Nat.reduceAdd, Nat.reduceMul, Nat.reduceSub, reduceCtorEq, vres, a0, a1, a3, b0, b1, b3, b5, hT5]; rfl) (by simp only [go_sem, Nat.reduceLT, Nat.reduceLeDiff, Nat.reduceEqDiff, Nat.reduceAdd, Nat.reduceMul, Nat.reduceSub, reduceCtorEq, wrap, exV, exA, exCs, exC, rowsH_len, rowsH_take, List.take_length, rowsD_len, rowsD_take, Nat.le_refl, a0, a1, a3, b0, b1, b3, b5, hT5]; rfl) (by simp [Ne.symm a3]; try omega) (by simp) (by simp [rowsH_pur, rowsD_pur])
end Go.Proofs.Ytchkbgekmoileaa
