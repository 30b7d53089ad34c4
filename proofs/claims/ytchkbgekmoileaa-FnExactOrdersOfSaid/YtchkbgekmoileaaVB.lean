/- What the tests of values and descriptors that are done one at a time give. -/
import Derived.Test.YtchkbgekmoileaaVA
import Derived.Test.YtchkbgekmoileaaNC
namespace Go.Proofs.Ytchkbgekmoileaa
open Go Go.RowKit
set_option linter.unusedVariables false
set_option linter.unusedSimpArgs false
set_option maxRecDepth 100000
set_option maxHeartbeats 4000000
attribute [local irreducible] VWP vops vdraw contV contD CallK Guard GuardV NextL Puts Runs RetOK RetQ RetO RetQO thenQ blockQ

theorem serP_no {most : Nat} {xs : List Int} {ds : List DescS} (h : ¬ (inB xs.length 1 8 = true ∧ allB xs (-1000000000) 1000000000 = true)) : bP (SerP most xs ds) = false := bP_false fun hh => h ⟨hh.1, hh.2.1⟩
theorem serP_big {most : Nat} {xs : List Int} {ds : List DescS} (h : most < ds.length) : bP (SerP most xs ds) = false := bP_false fun hh => by have := hh.2.2.1; omega
theorem serP_bad {most : Nat} {xs : List Int} {ds : List DescS} {d : DescS} (hd : d ∈ ds) (h : ¬ FitsP xs.length d) : bP (SerP most xs ds) = false := bP_false fun hh => h (hh.2.2.2 d hd)
theorem areSerial_ok (xs : List Int) (ds : List DescS) (hx : xs.length ≤ 1048576) (hd0 : ds.length ≤ 1048576) (he : ∀ d ∈ ds, d.entries.length ≤ 1048576) :
    SatP Try.prog 47 [.fr 3 (rowsN xs), .fr 40 (rowsD 70 ds)] (.bool (bP (SerP 60 xs ds))) [] := by
  have hfit : ∀ d, d ∈ ds → SatP Try.prog 37 [.agg [.fr 36 (rowsH (xs.map headOf)), .fr 40 []], .agg (d.cells 70)] (.bool (bP (FitsP xs.length d))) [] := fun d hd => by
    have := fitsStore_ok ⟨xs.map headOf, []⟩ d (by simpa using hx) (he d hd)
    simpa [StoreD.cells, rowsD] using this
  refine satP_of_body hT Try.func47 (by kernel_rfl) rfl (rs := [.tmp 4]) rfl (n := 32) rfl (by simp) rfl (by simp) fun E hE => ?_
  unfold St.init
  by_cases hc : inB xs.length 1 8 = true ∧ allB xs (-1000000000) 1000000000 = true
  · have hns := implNewStore_ok xs (⟨xs.map headOf, []⟩, true) (by rw [newStoreL, if_pos hc]) hx
    have hl0 : (rowsH (xs.map headOf)).length = xs.length := by simp [rowsH]
    have htk : (rowsH (xs.map headOf)).take xs.length = rowsH (xs.map headOf) := by rw [List.take_of_length_le (by omega)]
    have F := @rowsD_len
    repeat' first
      | refine wSq fun _ hK => ?_
      | refine wRg ?_
      | refine wDr ?_
      | refine VWP_block ?_
      | refine VWP_skip ?_
      | refine VWP_exit ?_
      | refine VWP_ret ?_
      | (refine hK _ ?_; clear hK)
      | (clear hK; refine hK _ ?_; clear hK)
      | (clear hK; clear hK; refine hK _ ?_; clear hK)
      | (clear hK; clear hK; clear hK; refine hK _ ?_; clear hK)
      | (simp only [wHb, reduceCtorEq] at hb <;> try (exfalso; omega))
      | refine wCd (fun hb => ?_) fun hb => ?_
      | refine wCa (c := by first | exact hns) (k := ?_)
      | simp only [go_sem, Nat.reduceLT, Nat.reduceLeDiff, Nat.reduceEqDiff, Nat.reduceAdd, Nat.reduceMul, Nat.reduceSub, reduceCtorEq, F]
      | simp (disch := omega) only [decide_eq_true_eq, if_pos, if_neg, wrap_id, le_maxLen, and_true, true_and, if_true, ite_true]
      | refine wGd (fun hb => ?_) fun hb => ?_
    · refine wLf ?_
      rw [serP_big (by omega)]
    refine VWP_loopL (X := Nat) (fun i => [(5, .bp 2 0), (21, .fr 40 (rowsD 70 ds)), (22, .int .i64 ds.length), (23, .int .i64 i)]) (fun i => [(0, .root 36 (rowsH (xs.map headOf))), (1, .root 40 (rowsD 70 [])), (2, .box [.rf 0 xs.length, .rf 1 0])]) (fun i => ds.length - i)
      (fun i => i ≤ ds.length ∧ ∀ (j : Nat) (y : DescS), j < i → ds[j]? = some y → FitsP xs.length y) 3 0 ⟨by simp, by simp⟩ (by simp [updV]) (by simp [updH]) (by simp) ?_
    rintro i nx ⟨hi, hdone⟩ hB
    rcases Nat.lt_or_ge i ds.length with hlt | hge
    · obtain ⟨d, hd⟩ : ∃ d, ds[i]? = some d := ⟨_, List.getElem?_eq_getElem hlt⟩
      have hre := rowsD_at (te := 70) hd
      have hm := List.mem_of_getElem? hd
      have n0 : nx ≠ 0 := by omega
      have n1 : nx ≠ 1 := by omega
      have n2 : nx ≠ 2 := by omega
      have m0 : (0 : Nat) ≠ nx := by omega
      have m1 : (1 : Nat) ≠ nx := by omega
      have m2 : (2 : Nat) ≠ nx := by omega
      have F := And.intro @rowsD_len (And.intro hre (And.intro hl0 (And.intro htk (And.intro @DescS.cells.eq_1 (And.intro n0 (And.intro n1 (And.intro n2 (And.intro m0 (And.intro m1 (And.intro m2 (And.intro @rowsH_pur (And.intro @rowsD_pur (And.intro @Nat.le_refl @Nat.zero_le)))))))))))))
      repeat' first
        | refine wSq fun _ hK => ?_
        | refine wRg ?_
        | refine wDr ?_
        | refine VWP_block ?_
        | refine VWP_skip ?_
        | refine VWP_exit ?_
        | refine VWP_ret ?_
        | (refine hK _ ?_; clear hK)
        | (clear hK; refine hK _ ?_; clear hK)
        | (clear hK; clear hK; refine hK _ ?_; clear hK)
        | (clear hK; clear hK; clear hK; refine hK _ ?_; clear hK)
        | (simp only [wHb, reduceCtorEq] at hb <;> try (exfalso; omega))
        | refine wCd (fun hb => ?_) fun hb => ?_
        | refine wCa (c := by first | exact hfit d hm) (k := ?_)
        | simp only [go_sem, Nat.reduceLT, Nat.reduceLeDiff, Nat.reduceEqDiff, Nat.reduceAdd, Nat.reduceMul, Nat.reduceSub, reduceCtorEq, F]
        | simp (disch := omega) only [decide_eq_true_eq, if_pos, if_neg, wrap_id, le_maxLen, and_true, true_and, if_true, ite_true]
        | refine wGd (fun hb => ?_) fun hb => ?_
      · refine wLf ?_
        rw [serP_bad hm fun hh => by rw [bP_true hh] at hb; cases hb]
      · have hw := wrap_id (x := (i : Int) + 1) (by omega)
        refine nextL (i + 1) ⟨by omega, fun j e hj he => ?_⟩ (by omega) (by simp [updV, tmL, hw]) (by simp [updH, hpL, m0, m1, m2]) (by omega)
        rcases Nat.lt_or_ge j i with h | h
        · exact hdone j e h he
        · obtain rfl : j = i := by omega
          rw [hd] at he; cases he
          exact bP_iff.1 (by assumption)
    · obtain rfl : i = ds.length := by omega
      have F := @rowsD_len
      repeat' first
        | refine wSq fun _ hK => ?_
        | refine wRg ?_
        | refine wDr ?_
        | refine VWP_block ?_
        | refine VWP_skip ?_
        | refine VWP_exit ?_
        | refine VWP_ret ?_
        | (refine hK _ ?_; clear hK)
        | (clear hK; refine hK _ ?_; clear hK)
        | (clear hK; clear hK; refine hK _ ?_; clear hK)
        | (clear hK; clear hK; clear hK; refine hK _ ?_; clear hK)
        | (simp only [wHb, reduceCtorEq] at hb <;> try (exfalso; omega))
        | refine wCd (fun hb => ?_) fun hb => ?_
        | simp only [go_sem, Nat.reduceLT, Nat.reduceLeDiff, Nat.reduceEqDiff, Nat.reduceAdd, Nat.reduceMul, Nat.reduceSub, reduceCtorEq, F]
        | simp (disch := omega) only [decide_eq_true_eq, if_pos, if_neg, wrap_id, le_maxLen, and_true, true_and, if_true, ite_true]
        | refine wGd (fun hb => ?_) fun hb => ?_
      refine wLf ?_
      rw [bP_true ⟨hc.1, hc.2, by omega, fun d hd => by
        obtain ⟨j, hj⟩ := List.getElem?_of_mem hd
        exact hdone j d (List.getElem?_eq_some_iff.1 hj).1 hj⟩]
  · have hns := implNewStore_ok xs (⟨[], []⟩, false) (by rw [newStoreL, if_neg hc]) hx
    have F := @rowsD_len
    repeat' first
      | refine wSq fun _ hK => ?_
      | refine wRg ?_
      | refine wDr ?_
      | refine VWP_block ?_
      | refine VWP_skip ?_
      | refine VWP_exit ?_
      | refine VWP_ret ?_
      | (refine hK _ ?_; clear hK)
      | (clear hK; refine hK _ ?_; clear hK)
      | (clear hK; clear hK; refine hK _ ?_; clear hK)
      | (clear hK; clear hK; clear hK; refine hK _ ?_; clear hK)
      | (simp only [wHb, reduceCtorEq] at hb <;> try (exfalso; omega))
      | refine wCd (fun hb => ?_) fun hb => ?_
      | refine wCa (c := by first | exact hns) (k := ?_)
      | simp only [go_sem, Nat.reduceLT, Nat.reduceLeDiff, Nat.reduceEqDiff, Nat.reduceAdd, Nat.reduceMul, Nat.reduceSub, reduceCtorEq, F]
      | simp (disch := omega) only [decide_eq_true_eq, if_pos, if_neg, wrap_id, le_maxLen, and_true, true_and, if_true, ite_true]
      | refine wGd (fun hb => ?_) fun hb => ?_
    refine wLf ?_
    rw [serP_no hc]
theorem l12Args_ok (xs : List Int) (ds : List DescS) (most : Nat) (hx : xs.length ≤ 1048576) (hd0 : ds.length ≤ 1048576) (he : ∀ d ∈ ds, d.entries.length ≤ 1048576) :
    SatP Try.prog 44 [.fr 3 (rowsN xs), .fr 40 (rowsD 70 ds), .int .i64 most] (.bool (bP (SerP most xs ds))) [] := by
  refine satP_of_body hT Try.func44 (by kernel_rfl) rfl (rs := [.tmp 6]) rfl (n := 51) rfl (by simp) rfl (by simp) fun E hE => ?_
  unfold St.init
  have F := And.intro @rowsN_len @rowsD_len
  repeat' first
    | refine wSq fun _ hK => ?_
    | refine wRg ?_
    | refine wDr ?_
    | refine VWP_block ?_
    | refine VWP_skip ?_
    | refine VWP_exit ?_
    | refine VWP_ret ?_
    | (refine hK _ ?_; clear hK)
    | (clear hK; refine hK _ ?_; clear hK)
    | (clear hK; clear hK; refine hK _ ?_; clear hK)
    | (clear hK; clear hK; clear hK; refine hK _ ?_; clear hK)
    | (simp only [wHb, reduceCtorEq] at hb <;> try (exfalso; omega))
    | refine wCd (fun hb => ?_) fun hb => ?_
    | refine wCa (c := by first | exact l1In_ok _ _ _ | exact l1All_ok xs _ _ hx) (k := ?_)
    | simp only [go_sem, Nat.reduceLT, Nat.reduceLeDiff, Nat.reduceEqDiff, Nat.reduceAdd, Nat.reduceMul, Nat.reduceSub, reduceCtorEq, F]
    | simp (disch := omega) only [decide_eq_true_eq, if_pos, if_neg, wrap_id, le_maxLen, and_true, true_and, if_true, ite_true]
    | refine wGd (fun hb => ?_) fun hb => ?_
  · refine wLf ?_
    rw [serP_no fun hh => by simp_all]
  · refine wLf ?_
    rw [serP_no fun hh => by simp_all]
  · refine wLf ?_
    rw [serP_big (by omega)]
  have hc : inB xs.length 1 8 = true ∧ allB xs (-1000000000) 1000000000 = true := by simp_all
  refine VWP_loopL (X := Nat) (fun i => [(0, .fr 3 (rowsN xs)), (1, .fr 40 (rowsD 70 ds)), (7, .int .i64 i)]) (fun i => []) (fun i => ds.length - i)
    (fun i => i ≤ ds.length ∧ ∀ (j : Nat) (y : DescS), j < i → ds[j]? = some y → FitsP xs.length y) 0 0 ⟨by simp, by simp⟩ (by simp [updV]) (by simp) (by simp) ?_
  rintro i nx ⟨hi, hdone⟩ hB
  rcases Nat.lt_or_ge i ds.length with hlt | hge
  · obtain ⟨d, hd⟩ : ∃ d, ds[i]? = some d := ⟨_, List.getElem?_eq_getElem hlt⟩
    have hre := rowsD_at (te := 70) hd
    have hm := List.mem_of_getElem? hd
    by_cases hp : DescP d
    · have hb0 := bP_true hp
      obtain ⟨k, e, hk, hkl, hek, hiff⟩ := last_at (n := xs.length) hp
      have hre2 := rowsE_at hek
      have hel := he d hm
      have hwk := wrap_id (x := (k : Int)) (by omega)
      have F := And.intro @rowsD_len (And.intro @rowsN_len (And.intro @rowsE_len (And.intro hre (And.intro hb0 (And.intro hk (And.intro hkl (And.intro hwk (And.intro hre2 @DescS.cells.eq_1))))))))
      repeat' first
        | refine wSq fun _ hK => ?_
        | refine wRg ?_
        | refine wDr ?_
        | refine VWP_block ?_
        | refine VWP_skip ?_
        | refine VWP_exit ?_
        | refine VWP_ret ?_
        | (refine hK _ ?_; clear hK)
        | (clear hK; refine hK _ ?_; clear hK)
        | (clear hK; clear hK; refine hK _ ?_; clear hK)
        | (clear hK; clear hK; clear hK; refine hK _ ?_; clear hK)
        | (simp only [wHb, reduceCtorEq] at hb <;> try (exfalso; omega))
        | refine wCd (fun hb => ?_) fun hb => ?_
        | refine wCa (c := by first | exact specDescOk_ok d (he d hm)) (k := ?_)
        | simp only [go_sem, Nat.reduceLT, Nat.reduceLeDiff, Nat.reduceEqDiff, Nat.reduceAdd, Nat.reduceMul, Nat.reduceSub, reduceCtorEq, F]
        | simp (disch := omega) only [decide_eq_true_eq, if_pos, if_neg, wrap_id, le_maxLen, and_true, true_and, if_true, ite_true]
        | refine wGd (fun hb => ?_) fun hb => ?_
      · refine wLf ?_
        rw [serP_bad hm fun hh => by have := hiff.1 hh; omega]
      · have hw := wrap_id (x := (i : Int) + 1) (by omega)
        refine nextL (i + 1) ⟨by omega, fun j e2 hj he2 => ?_⟩ (by omega) (by simp [updV, tmL, hw]) (by simp) (by simp)
        rcases Nat.lt_or_ge j i with h | h
        · exact hdone j e2 h he2
        · obtain rfl : j = i := by omega
          rw [hd] at he2; cases he2
          exact hiff.2 (by omega)
    · have hb0 := bP_false hp
      have F := And.intro @rowsD_len (And.intro @rowsN_len (And.intro @rowsE_len (And.intro hre (And.intro hb0 @DescS.cells.eq_1))))
      repeat' first
        | refine wSq fun _ hK => ?_
        | refine wRg ?_
        | refine wDr ?_
        | refine VWP_block ?_
        | refine VWP_skip ?_
        | refine VWP_exit ?_
        | refine VWP_ret ?_
        | (refine hK _ ?_; clear hK)
        | (clear hK; refine hK _ ?_; clear hK)
        | (clear hK; clear hK; refine hK _ ?_; clear hK)
        | (clear hK; clear hK; clear hK; refine hK _ ?_; clear hK)
        | (simp only [wHb, reduceCtorEq] at hb <;> try (exfalso; omega))
        | refine wCd (fun hb => ?_) fun hb => ?_
        | refine wCa (c := by first | exact specDescOk_ok d (he d hm)) (k := ?_)
        | simp only [go_sem, Nat.reduceLT, Nat.reduceLeDiff, Nat.reduceEqDiff, Nat.reduceAdd, Nat.reduceMul, Nat.reduceSub, reduceCtorEq, F]
        | simp (disch := omega) only [decide_eq_true_eq, if_pos, if_neg, wrap_id, le_maxLen, and_true, true_and, if_true, ite_true]
        | refine wGd (fun hb => ?_) fun hb => ?_
      refine wLf ?_
      rw [serP_bad hm fun hh => hp hh.1]
  · obtain rfl : i = ds.length := by omega
    have F := @rowsD_len
    repeat' first
      | refine wSq fun _ hK => ?_
      | refine wRg ?_
      | refine wDr ?_
      | refine VWP_block ?_
      | refine VWP_skip ?_
      | refine VWP_exit ?_
      | refine VWP_ret ?_
      | (refine hK _ ?_; clear hK)
      | (clear hK; refine hK _ ?_; clear hK)
      | (clear hK; clear hK; refine hK _ ?_; clear hK)
      | (clear hK; clear hK; clear hK; refine hK _ ?_; clear hK)
      | (simp only [wHb, reduceCtorEq] at hb <;> try (exfalso; omega))
      | refine wCd (fun hb => ?_) fun hb => ?_
      | simp only [go_sem, Nat.reduceLT, Nat.reduceLeDiff, Nat.reduceEqDiff, Nat.reduceAdd, Nat.reduceMul, Nat.reduceSub, reduceCtorEq, F]
      | simp (disch := omega) only [decide_eq_true_eq, if_pos, if_neg, wrap_id, le_maxLen, and_true, true_and, if_true, ite_true]
      | refine wGd (fun hb => ?_) fun hb => ?_
    refine wLf ?_
    rw [bP_true ⟨hc.1, hc.2, by omega, fun d hd => by
      obtain ⟨j, hj⟩ := List.getElem?_of_mem hd
      exact hdone j d (List.getElem?_eq_some_iff.1 hj).1 hj⟩]
end Go.Proofs.Ytchkbgekmoileaa
