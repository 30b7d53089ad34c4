/- What the reference's NewStore gives. -/
import Derived.Test.YtchkbgekmoileaaNB
namespace Go.Proofs.Ytchkbgekmoileaa
open Go Go.RowKit
set_option linter.unusedVariables false
set_option linter.unusedSimpArgs false
set_option maxRecDepth 100000
set_option maxHeartbeats 4000000
attribute [local irreducible] VWP vops vdraw contV contD CallK Guard GuardV NextL Puts Runs RetOK RetQ RetO RetQO thenQ blockQ
attribute [local irreducible] NextB

theorem specNewStore_ok (xs : List Int) (r : StoreD × Bool) (hr : newStoreL xs = r) (hl : xs.length ≤ 1048576) : SatP Try.prog 51 [.fr 3 (rowsN xs)]
    (.tup [.agg [.rf 0 r.1.heads.length, .rf 1 r.1.descs.length], .bool r.2]) [(36, rowsH r.1.heads), (40, rowsD 70 r.1.descs)] := by
  refine satP_of_body hT Try.func51 (by kernel_rfl) rfl (rs := [.cell 2 27, .tmp 3]) rfl (n := 34) rfl (by simp) rfl (by simp [rowsH_pur, rowsD_pur]) fun E hE => ?_
  unfold St.init
  by_cases hc : inB xs.length 1 8 = true ∧ allB xs (-1000000000) 1000000000 = true
  · obtain ⟨c1, c2⟩ := hc
    have hpos : 1 ≤ xs.length ∧ xs.length ≤ 8 := by simp [inB] at c1; omega
    have he : newStoreL xs = (⟨xs.map headOf, []⟩, true) := by simp [newStoreL, c1, c2]
    rw [he] at hr
    subst hr
    have F := And.intro @rowsN_len (And.intro c1 c2)
    repeat' first
      | refine wSq fun _ hK => ?_
      | refine wRg ?_
      | refine wDr ?_
      | refine VWP_block ?_
      | refine VWP_skip ?_
      | refine VWP_exit ?_
      | refine VWP_ret ?_
      | (refine hK _ ?_; clear hK)
      | (clear hK; refine hK _ ?_; clear hK)
      | (clear hK; clear hK; refine hK _ ?_; clear hK)
      | (clear hK; clear hK; clear hK; refine hK _ ?_; clear hK)
      | (simp only [wHb, reduceCtorEq] at hb <;> try (exfalso; omega))
      | refine wCd (fun hb => ?_) fun hb => ?_
      | refine wCa (c := by first | exact l1In_ok _ _ _ | exact l1All_ok xs _ _ hl) (k := ?_)
      | simp only [go_sem, Nat.reduceLT, Nat.reduceLeDiff, Nat.reduceEqDiff, Nat.reduceAdd, Nat.reduceMul, Nat.reduceSub, reduceCtorEq, F]
      | simp (disch := omega) only [decide_eq_true_eq, if_pos, if_neg, wrap_id, le_maxLen, and_true, true_and, if_true, ite_true]
      | refine wGd (fun hb => ?_) fun hb => ?_
    refine VWP_loopB (X := Nat × Nat) (fun x => [(0, .fr 3 (rowsN xs)), (2, .bp 0 0), (4, .bp 1 0), (5, .int .i64 x.1)]) (fun x => [(0, .box [.nl 36, .nl 40]), (1, .box [hcell 36 x, .nl 40]), (x.2, hent 36 xs x)]) (fun x => xs.length - x.1)
      (fun x => x.1 ≤ xs.length ∧ 2 ≤ x.2) (fun x => if x.1 = 0 then 2 else x.2 + 1) (0, 2) ⟨by simp, by simp⟩ (by simp [updV]) (by simp [updH, hcell, hent]) (by simp) ?_
    rintro ⟨i, T⟩ nx ⟨hi, hTg⟩ hB
    simp only at hi hTg hB
    have hw := wrap_id (x := (i : Int) + 1) (by omega)
    rcases Nat.lt_or_ge i xs.length with hlt | hge
    · obtain ⟨v, hv⟩ : ∃ v, xs[i]? = some v := ⟨_, List.getElem?_eq_getElem hlt⟩
      have hre := rowsN_at hv
      rcases Nat.eq_zero_or_pos i with hz | hz
      · have hz2 : hcell 36 (i, T) = .nl 36 := if_pos hz
        have hz3 : hent 36 xs (i, T) = .dead := if_pos hz
        have hnx : 2 ≤ nx := by rw [if_pos hz] at hB; exact hB
        have F := And.intro @rowsN_len (And.intro hre (And.intro hz2 hz3))
        repeat' first
          | refine wSq fun _ hK => ?_
          | refine wRg ?_
          | refine wDr ?_
          | refine VWP_block ?_
          | refine VWP_skip ?_
          | refine VWP_exit ?_
          | refine VWP_ret ?_
          | (refine hK _ ?_; clear hK)
          | (clear hK; refine hK _ ?_; clear hK)
          | (clear hK; clear hK; refine hK _ ?_; clear hK)
          | (clear hK; clear hK; clear hK; refine hK _ ?_; clear hK)
          | (simp only [wHb, reduceCtorEq] at hb <;> try (exfalso; omega))
          | refine wCd (fun hb => ?_) fun hb => ?_
          | simp only [go_sem, Nat.reduceLT, Nat.reduceLeDiff, Nat.reduceEqDiff, Nat.reduceAdd, Nat.reduceMul, Nat.reduceSub, reduceCtorEq, F]
          | simp (disch := omega) only [decide_eq_true_eq, if_pos, if_neg, wrap_id, le_maxLen, and_true, true_and, if_true, ite_true]
          | refine wGd (fun hb => ?_) fun hb => ?_
        have hs : rowsH ((xs.take (i + 1)).map headOf) = [[.int .i64 v, .int .i64 0, .int .i64 (-1)]] := by rw [← rowsH_snoc hv, hz]; simp [rowsH]
        refine nextB (i + 1, nx + 512 + 1) ⟨by simp only; omega, by simp only; omega⟩ (by simp only; omega) (by simp [updV, tmL, hw]) ?_ (by simp; try omega)
        have e1 : (0 : Nat) ≠ nx := by omega
        have e2 : (1 : Nat) ≠ nx := by omega
        have hs2 : rowsH (List.take 1 (List.map headOf xs)) = [[.int .i64 v, .int .i64 0, .int .i64 (-1)]] := by
          rw [← List.map_take]
          rw [hz] at hs
          exact hs
        simp [updH, hcell, hent, hz, e1, e2, hs2]
        try omega
      · have hz2 : hcell 36 (i, T) = .rf T i := if_neg (by omega)
        have hz3 : hent 36 xs (i, T) = .root 36 (rowsH ((xs.take i).map headOf)) := if_neg (by omega)
        have hnx : T + 1 ≤ nx := by rw [if_neg (by omega)] at hB; exact hB
        have hl1 := rowsHt_len (xs := xs) (i := i) hi
        have hl2 := rowsHt_take (xs := xs) (i := i) hi
        have hl3 := rowsH_snoc hv
        have hne0 : (0 : Nat) ≠ T := by omega
        have hne1 : (1 : Nat) ≠ T := by omega
        have hne2 : T ≠ 0 := by omega
        have hne3 : T ≠ 1 := by omega
        have F := And.intro @rowsN_len (And.intro hre (And.intro hz2 (And.intro hz3 (And.intro hl1 (And.intro hl2 (And.intro hl3 (And.intro @Nat.le_refl (And.intro hne0 (And.intro hne1 (And.intro hne2 hne3))))))))))
        repeat' first
          | refine wSq fun _ hK => ?_
          | refine wRg ?_
          | refine wDr ?_
          | refine VWP_block ?_
          | refine VWP_skip ?_
          | refine VWP_exit ?_
          | refine VWP_ret ?_
          | (refine hK _ ?_; clear hK)
          | (clear hK; refine hK _ ?_; clear hK)
          | (clear hK; clear hK; refine hK _ ?_; clear hK)
          | (clear hK; clear hK; clear hK; refine hK _ ?_; clear hK)
          | (simp only [wHb, reduceCtorEq] at hb <;> try (exfalso; omega))
          | refine wCd (fun hb => ?_) fun hb => ?_
          | simp only [go_sem, Nat.reduceLT, Nat.reduceLeDiff, Nat.reduceEqDiff, Nat.reduceAdd, Nat.reduceMul, Nat.reduceSub, reduceCtorEq, F]
          | simp (disch := omega) only [decide_eq_true_eq, if_pos, if_neg, wrap_id, le_maxLen, and_true, true_and, if_true, ite_true]
          | refine wGd (fun hb => ?_) fun hb => ?_
        refine nextB (i + 1, nx + 512) ⟨by simp only; omega, by simp only; omega⟩ (by simp only; omega) (by simp [updV, tmL, hw]) ?_ (by simp; try omega)
        have e1 : (0 : Nat) ≠ nx := by omega
        have e2 : (1 : Nat) ≠ nx := by omega
        have e3 : nx + 512 ≠ T := by omega
        simp [updH, hcell, hent, e1, e2, e3, hne0, hne1]
        try omega
    · obtain rfl : i = xs.length := by omega
      have hz2 : hcell 36 (xs.length, T) = .rf T xs.length := if_neg (by omega)
      have hz3 : hent 36 xs (xs.length, T) = .root 36 (rowsH (xs.map headOf)) := by rw [hent, if_neg (by simp only; omega), List.take_length]
      have hl1 : (rowsH (xs.map headOf)).length = xs.length := by simp [rowsH]
      have hl2 : (rowsH (xs.map headOf)).take xs.length = rowsH (xs.map headOf) := by rw [List.take_of_length_le (by omega)]
      have hne0 : (0 : Nat) ≠ T := by omega
      have hne1 : (1 : Nat) ≠ T := by omega
      have hne2 : T ≠ 0 := by omega
      have hne3 : T ≠ 1 := by omega
      have F := And.intro @rowsN_len (And.intro hz2 (And.intro hz3 (And.intro hne0 (And.intro hne1 (And.intro hne2 hne3)))))
      repeat' first
        | refine wSq fun _ hK => ?_
        | refine wRg ?_
        | refine wDr ?_
        | refine VWP_block ?_
        | refine VWP_skip ?_
        | refine VWP_exit ?_
        | refine VWP_ret ?_
        | (refine hK _ ?_; clear hK)
        | (clear hK; refine hK _ ?_; clear hK)
        | (clear hK; clear hK; refine hK _ ?_; clear hK)
        | (clear hK; clear hK; clear hK; refine hK _ ?_; clear hK)
        | (simp only [wHb, reduceCtorEq] at hb <;> try (exfalso; omega))
        | refine wCd (fun hb => ?_) fun hb => ?_
        | simp only [go_sem, Nat.reduceLT, Nat.reduceLeDiff, Nat.reduceEqDiff, Nat.reduceAdd, Nat.reduceMul, Nat.reduceSub, reduceCtorEq, F]
        | simp (disch := omega) only [decide_eq_true_eq, if_pos, if_neg, wrap_id, le_maxLen, and_true, true_and, if_true, ite_true]
        | refine wGd (fun hb => ?_) fun hb => ?_
      refine ret_mk (vs := _) (acc := _) (by simp only [go_sem, Nat.reduceLT, Nat.reduceLeDiff, Nat.reduceEqDiff, Nat.reduceAdd, Nat.reduceMul, Nat.reduceSub, reduceCtorEq, vres]; rfl) (by simp only [go_sem, Nat.reduceLT, Nat.reduceLeDiff, Nat.reduceEqDiff, Nat.reduceAdd, Nat.reduceMul, Nat.reduceSub, reduceCtorEq, wrap, exV, exAs, exA, exCs, exC, hne0, hne1, hne2, hne3, hl1, hl2, Nat.le_refl]; rfl) (by simp) (by simp [rowsD]) (by simp [rowsH_pur, rowsD_pur])
  · have he : newStoreL xs = (⟨[], []⟩, false) := by simp only [newStoreL, if_neg hc]
    rw [he] at hr
    subst hr
    have c0 : (inB xs.length 1 8 && allB xs (-1000000000) 1000000000) = false := by simpa using hc
    have F := @rowsN_len
    repeat' first
      | refine wSq fun _ hK => ?_
      | refine wRg ?_
      | refine wDr ?_
      | refine VWP_block ?_
      | refine VWP_skip ?_
      | refine VWP_exit ?_
      | refine VWP_ret ?_
      | (refine hK _ ?_; clear hK)
      | (clear hK; refine hK _ ?_; clear hK)
      | (clear hK; clear hK; refine hK _ ?_; clear hK)
      | (clear hK; clear hK; clear hK; refine hK _ ?_; clear hK)
      | (simp only [wHb, reduceCtorEq] at hb <;> try (exfalso; omega))
      | refine wCd (fun hb => ?_) fun hb => ?_
      | refine wCa (c := by first | exact l1In_ok _ _ _ | exact l1All_ok xs _ _ hl) (k := ?_)
      | simp only [go_sem, Nat.reduceLT, Nat.reduceLeDiff, Nat.reduceEqDiff, Nat.reduceAdd, Nat.reduceMul, Nat.reduceSub, reduceCtorEq, F]
      | simp (disch := omega) only [decide_eq_true_eq, if_pos, if_neg, wrap_id, le_maxLen, and_true, true_and, if_true, ite_true]
      | refine wGd (fun hb => ?_) fun hb => ?_
    all_goals first
      | (refine ret_mk (vs := _) (acc := _) (by simp only [go_sem, Nat.reduceLT, Nat.reduceLeDiff, Nat.reduceEqDiff, Nat.reduceAdd, Nat.reduceMul, Nat.reduceSub, reduceCtorEq, vres]; rfl) (by simp only [go_sem, Nat.reduceLT, Nat.reduceLeDiff, Nat.reduceEqDiff, Nat.reduceAdd, Nat.reduceMul, Nat.reduceSub, reduceCtorEq, wrap, exV, exAs, exA, exCs, exC]; rfl) (by simp) (by simp [rowsD, rowsH]) (by simp [rowsH_pur, rowsD_pur])
         done)
      | (exfalso; simp_all)
end Go.Proofs.Ytchkbgekmoileaa
