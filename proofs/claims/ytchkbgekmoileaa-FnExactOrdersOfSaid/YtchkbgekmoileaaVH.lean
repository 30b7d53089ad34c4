/- The orders of descriptors, counted by the reference. -/
import Derived.Test.YtchkbgekmoileaaVF
import Derived.Test.YtchkbgekmoileaaVD
import Derived.Test.YtchkbgekmoileaaEf
namespace Go.Proofs.Ytchkbgekmoileaa
open Go Go.RowKit
set_option linter.unusedVariables false
set_option linter.unusedSimpArgs false
set_option maxRecDepth 100000
set_option maxHeartbeats 8000000
attribute [local irreducible] VWP vops vdraw contV contD CallK Guard GuardV NextL Puts Runs RetOK RetQ RetO RetQO thenQ blockQ
attribute [local irreducible] NextN SemRun

theorem rowsB_put (bs : List Bool) (i : Nat) (b : Bool) : (rowsB bs).set i [.bool b] = rowsB (bs.set i b) := by simp [rowsB, List.map_set, encB]
theorem l12Count_ok : ∀ (n : Nat) (vs : List Int) (ds : List DescS) (bs : List Bool), bs.length = ds.length → ds.length ≤ 6 → n ≤ 6 → vs.length ≤ 8 → (∀ d ∈ ds, FitsP vs.length d) →
    SatO Try.prog 45 [.fr 3 (rowsN vs), .fr 40 (rowsD 70 ds), .rf 0 ds.length, .int .i64 n] [.root 4 (rowsB bs)] (.int .i64 (cnt2 n vs (ds.zip bs))) [.root 4 (rowsB bs)]
  | 0, vs, ds, bs, hl, _, _, hv, hf => by
    obtain ⟨k, hk⟩ : ∃ k : Int, ((0 : Nat) : Int) = k := ⟨_, rfl⟩
    rw [hk]
    have hz : (k == 0) = true := by rw [← hk]; rfl
    refine satO_of_body hT Try.func45 (by kernel_rfl) rfl (rs := [.tmp 8]) rfl (n := 56) rfl (by simp) rfl (m := 1) rfl ⟨⟨rfl, rowsB_pur _⟩, by simp [keptL]⟩ fun E hE => ?_
    unfold St.initO
    have F := hz
    repeat' first
      | refine wSq fun _ hK => ?_
      | refine wRg ?_
      | refine wDr ?_
      | refine VWP_block ?_
      | refine VWP_skip ?_
      | refine VWP_exit ?_
      | refine VWP_ret ?_
      | (refine hK _ ?_; clear hK)
      | (clear hK; refine hK _ ?_; clear hK)
      | (clear hK; clear hK; refine hK _ ?_; clear hK)
      | (clear hK; clear hK; clear hK; refine hK _ ?_; clear hK)
      | (simp only [wHb, reduceCtorEq] at hb <;> try (exfalso; omega))
      | refine wCd (fun hb => ?_) fun hb => ?_
      | simp only [go_sem, Nat.reduceLT, Nat.reduceLeDiff, Nat.reduceEqDiff, Nat.reduceAdd, Nat.reduceMul, Nat.reduceSub, reduceCtorEq, F]
      | simp (disch := omega) only [decide_eq_true_eq, if_pos, if_neg, wrap_id, le_maxLen, and_true, true_and, if_true, ite_true]
      | refine wGd (fun hb => ?_) fun hb => ?_
    refine retO_mk [] rfl [.root 4 (rowsB bs)] rfl (by simp [keepsL, updH, HpE]) rfl (by simp only [go_sem, Nat.reduceLT, Nat.reduceLeDiff, Nat.reduceEqDiff, Nat.reduceAdd, Nat.reduceMul, Nat.reduceSub, reduceCtorEq, vres]; rfl) (acc := []) (by simp only [go_sem, Nat.reduceLT, Nat.reduceLeDiff, Nat.reduceEqDiff, Nat.reduceAdd, Nat.reduceMul, Nat.reduceSub, reduceCtorEq, wrap, exOV, exOA, exOC, cnt2]; try rfl) (by simp) rfl
  | n + 1, vs, ds, bs, hl, hd6, hn, hv, hf => by
    have ih := l12Count_ok n
    obtain ⟨k, hk⟩ : ∃ k : Int, ((n + 1 : Nat) : Int) = k := ⟨_, rfl⟩
    rw [hk]
    have hz : (k == 0) = false := by rw [beq_eq_false_iff_ne]; omega
    have hw3 : IntKind.i64.wrap (k - 1) = (n : Int) := by rw [wrap_id (by omega)]; omega
    have hbig : ∀ i : Nat, i ≤ 6 → (46656 : Int) * i ≤ 279936 := fun i hi => by omega
    have hbl := rowsB_len bs
    rw [hl] at hbl
    have hbt := rowsB_take bs
    rw [hl] at hbt
    obtain ⟨tot, htot⟩ : ∃ t, cnt2 (n + 1) vs (ds.zip bs) = t := ⟨_, rfl⟩
    rw [htot]
    refine satO_of_body hT Try.func45 (by kernel_rfl) rfl (rs := [.tmp 8]) rfl (n := 56) rfl (by simp) rfl (m := 1) rfl ⟨⟨rfl, rowsB_pur _⟩, by simp [keptL]⟩ fun E hE => ?_
    unfold St.initO
    have F := hz
    repeat' first
      | refine wSq fun _ hK => ?_
      | refine wRg ?_
      | refine wDr ?_
      | refine VWP_block ?_
      | refine VWP_skip ?_
      | refine VWP_exit ?_
      | refine VWP_ret ?_
      | (refine hK _ ?_; clear hK)
      | (clear hK; refine hK _ ?_; clear hK)
      | (clear hK; clear hK; refine hK _ ?_; clear hK)
      | (clear hK; clear hK; clear hK; refine hK _ ?_; clear hK)
      | (simp only [wHb, reduceCtorEq] at hb <;> try (exfalso; omega))
      | refine wCd (fun hb => ?_) fun hb => ?_
      | simp only [go_sem, Nat.reduceLT, Nat.reduceLeDiff, Nat.reduceEqDiff, Nat.reduceAdd, Nat.reduceMul, Nat.reduceSub, reduceCtorEq, F]
      | simp (disch := omega) only [decide_eq_true_eq, if_pos, if_neg, wrap_id, le_maxLen, and_true, true_and, if_true, ite_true]
      | refine wGd (fun hb => ?_) fun hb => ?_
    refine VWP_loopN hE (X := Nat × Int) (fun x => [(0, .fr 3 (rowsN vs)), (1, .fr 40 (rowsD 70 ds)), (2, .rf 0 ds.length), (3, .int .i64 k), (9, .int .i64 x.2), (10, .int .i64 x.1)])
      (fun x => [(0, .root 4 (rowsB bs))]) (fun x => ds.length - x.1)
      (fun x => x.1 ≤ ds.length ∧ 0 ≤ x.2 ∧ x.2 ≤ 46656 * x.1 ∧ tot = x.2 + sumSel2 (fun d qs => if canE d.entries vs = true then cnt2 n (putE d.entries vs) qs else 0) ((ds.zip bs).take x.1) ((ds.zip bs).drop x.1)) [0] (0, 0) ⟨by simp, by simp, by simp, by rw [← htot]; simp [cnt2]⟩ (by decide) (by decide) (by simp [updV, renV, renA, renC]) (by simp [updH, HpE, renH_at, renE, renC, rowsB_pur]) ?_
    rintro ⟨i, c⟩ ⟨hi, hc0, hc1, hc2⟩
    try simp only
    simp only at hi hc0 hc1 hc2
    have hb6 := hbig i (by omega)
    rcases Nat.lt_or_ge i ds.length with hlt | hge
    · obtain ⟨d, hd⟩ : ∃ d, ds[i]? = some d := ⟨_, List.getElem?_eq_getElem hlt⟩
      obtain ⟨b, hbi⟩ : ∃ b, bs[i]? = some b := ⟨_, List.getElem?_eq_getElem (by omega)⟩
      have hm := List.mem_of_getElem? hd
      have hzip : (ds.zip bs)[i]? = some (d, b) := by simp [List.getElem?_zip_eq_some, hd, hbi]
      rw [sumSel2_at hzip, zip_set hd] at hc2
      have hi1 : (i : Int) < (ds.length : Int) := by omega
      have hi0 : (0 : Int) ≤ (i : Int) := by omega
      have hw := wrap_id (x := (i : Int) + 1) (by omega)
      have hre := rowsD_at (te := 70) hd
      have hrb := rowsB_at hbi
      have hde : d.entries.length ≤ 1048576 := by have := (hf d hm).1.2.2.2.2.2; omega
      have hcan := l12Can_ok vs d (by omega) hde (hf d hm)
      cases b with
      | true =>
        have F := And.intro @rowsD_len (And.intro @rowsN_len (And.intro hbl (And.intro hi1 (And.intro hi0 (And.intro hlt (And.intro hre (And.intro hrb @DescS.cells.eq_1)))))))
        repeat' first
          | refine wSq fun _ hK => ?_
          | refine wRg ?_
          | refine wDr ?_
          | refine VWP_block ?_
          | refine VWP_skip ?_
          | refine VWP_exit ?_
          | refine VWP_ret ?_
          | (refine hK _ ?_; clear hK)
          | (clear hK; refine hK _ ?_; clear hK)
          | (clear hK; clear hK; refine hK _ ?_; clear hK)
          | (clear hK; clear hK; clear hK; refine hK _ ?_; clear hK)
          | (simp only [wHb, reduceCtorEq] at hb <;> try (exfalso; omega))
          | refine wCd (fun hb => ?_) fun hb => ?_
          | refine wCa (c := by first | exact hcan) (k := ?_)
          | simp only [go_sem, Nat.reduceLT, Nat.reduceLeDiff, Nat.reduceEqDiff, Nat.reduceAdd, Nat.reduceMul, Nat.reduceSub, reduceCtorEq, F]
          | simp (disch := omega) only [decide_eq_true_eq, if_pos, if_neg, wrap_id, le_maxLen, and_true, true_and, if_true, ite_true]
          | refine wGd (fun hb => ?_) fun hb => ?_
        all_goals refine nextN [] rfl [0] (i + 1, c) rfl (by decide) (by decide) ⟨by simp only; omega, hc0, by simp only; omega, ?_⟩ (by simp only; omega) (by simp [updV, tmL, renV, renA, renC, hw]) (by simp [updH, hpL, renH_at, renE, renC, rowsB_pur])
        simpa using hc2
      | false =>
        cases hcn : canE d.entries vs with
        | false =>
          rw [hcn] at hcan
          have F := And.intro @rowsD_len (And.intro @rowsN_len (And.intro hbl (And.intro hi1 (And.intro hi0 (And.intro hlt (And.intro hre (And.intro hrb @DescS.cells.eq_1)))))))
          repeat' first
            | refine wSq fun _ hK => ?_
            | refine wRg ?_
            | refine wDr ?_
            | refine VWP_block ?_
            | refine VWP_skip ?_
            | refine VWP_exit ?_
            | refine VWP_ret ?_
            | (refine hK _ ?_; clear hK)
            | (clear hK; refine hK _ ?_; clear hK)
            | (clear hK; clear hK; refine hK _ ?_; clear hK)
            | (clear hK; clear hK; clear hK; refine hK _ ?_; clear hK)
            | (simp only [wHb, reduceCtorEq] at hb <;> try (exfalso; omega))
            | refine wCd (fun hb => ?_) fun hb => ?_
            | refine wCa (c := by first | exact hcan) (k := ?_)
            | simp only [go_sem, Nat.reduceLT, Nat.reduceLeDiff, Nat.reduceEqDiff, Nat.reduceAdd, Nat.reduceMul, Nat.reduceSub, reduceCtorEq, F]
            | simp (disch := omega) only [decide_eq_true_eq, if_pos, if_neg, wrap_id, le_maxLen, and_true, true_and, if_true, ite_true]
            | refine wGd (fun hb => ?_) fun hb => ?_
          all_goals refine nextN [] rfl [0] (i + 1, c) rfl (by decide) (by decide) ⟨by simp only; omega, hc0, by simp only; omega, ?_⟩ (by simp only; omega) (by simp [updV, tmL, renV, renA, renC, hw]) (by simp [updH, hpL, renH_at, renE, renC, rowsB_pur])
          simpa [hcn] using hc2
        | true =>
          rw [hcn] at hcan
          have hcp := l1Copy_ok vs (by omega)
          have hdo := l12Do_ok vs d (by omega) hde (hf d hm)
          rw [doE_put (hf d hm).1] at hdo
          have hrec := ih (putE d.entries vs) ds (bs.set i true) (by simpa using hl) hd6 (by omega) (by rw [putE_len]; omega) (by rw [putE_len]; exact hf)
          have hsm := cnt2_small (n := n) (by omega) (putE d.entries vs) (ps := ds.zip (bs.set i true)) (by simp; omega)
          obtain ⟨z, hz2⟩ : ∃ z, cnt2 n (putE d.entries vs) (ds.zip (bs.set i true)) = z := ⟨_, rfl⟩
          rw [hz2] at hrec hsm
          simp only [hcn, if_true, hz2, Bool.false_eq_true, if_false] at hc2
          have hw2 := wrap_id (x := c + z) (by omega)
          have hp1 := rowsB_put bs i true
          have hp2 := rowsB_put (bs.set i true) i false
          have hp3 : (bs.set i true).set i false = bs := by
            rw [List.set_set]
            obtain ⟨hlt2, he⟩ := List.getElem?_eq_some_iff.1 hbi
            rw [← he, List.set_getElem_self]
          rw [hp3] at hp2
          have hbl2 : (rowsB (bs.set i true)).length = ds.length := by rw [rowsB_len]; simpa using hl
          have hbt2 : (rowsB (bs.set i true)).take ds.length = rowsB (bs.set i true) := by rw [List.take_of_length_le (by omega)]
          have hrb2 : (rowsB (bs.set i true))[i]? = some [.bool true] := rowsB_at (List.getElem?_set_self (by omega))
          have hpl := putE_len d.entries vs
          have ht1 : (rowsN (putE d.entries vs)).take vs.length = rowsN (putE d.entries vs) := by rw [List.take_of_length_le (by rw [rowsN_len, hpl]; exact Nat.le_refl _)]
          have ht2 := rowsN_take vs
          have hnl : (rowsN (putE d.entries vs)).length = vs.length := by rw [rowsN_len, hpl]
          have F := And.intro @rowsD_len (And.intro @rowsN_len (And.intro @rowsN_pur (And.intro @rowsB_pur (And.intro hnl (And.intro hpl (And.intro ht1 (And.intro ht2 (And.intro hbl (And.intro hbt (And.intro hbl2 (And.intro hbt2 (And.intro hi1 (And.intro hi0 (And.intro hlt (And.intro hre (And.intro hrb (And.intro hrb2 (And.intro hp1 (And.intro hp2 (And.intro hw2 (And.intro hw3 @DescS.cells.eq_1)))))))))))))))))))))
          repeat' first
            | refine wSq fun _ hK => ?_
            | refine wRg ?_
            | refine wDr ?_
            | refine VWP_block ?_
            | refine VWP_skip ?_
            | refine VWP_exit ?_
            | refine VWP_ret ?_
            | (refine hK _ ?_; clear hK)
            | (clear hK; refine hK _ ?_; clear hK)
            | (clear hK; clear hK; refine hK _ ?_; clear hK)
            | (clear hK; clear hK; clear hK; refine hK _ ?_; clear hK)
            | (simp only [wHb, reduceCtorEq] at hb <;> try (exfalso; omega))
            | refine wCd (fun hb => ?_) fun hb => ?_
            | refine wCa (c := by first | exact hcan | exact hcp) (k := ?_)
            | refine wOw [1] (c := by exact hdo) (k := ?_)
            | refine wOw [0] (c := by exact hrec) (k := ?_)
            | simp only [go_sem, Nat.reduceLT, Nat.reduceLeDiff, Nat.reduceEqDiff, Nat.reduceAdd, Nat.reduceMul, Nat.reduceSub, reduceCtorEq, F]
            | simp (disch := omega) only [decide_eq_true_eq, if_pos, if_neg, wrap_id, le_maxLen, and_true, true_and, if_true, ite_true]
            | refine wGd (fun hb => ?_) fun hb => ?_
          all_goals refine nextN [] rfl [0] (i + 1, c + z) rfl (by decide) (by decide) ⟨by simp only; omega, by simp only; omega, by simp only; omega, by simp only; omega⟩ (by simp only; omega) (by simp [updV, tmL, renV, renA, renC, hw, hw2]) (by simp [updH, hpL, renH_at, renE, renC, rowsB_pur])
    · obtain rfl : i = ds.length := by omega
      have hn2 : ¬ ((ds.length : Nat) : Int) < (ds.length : Int) := by omega
      rw [List.drop_of_length_le (by simp; omega)] at hc2
      simp only [sumSel2, Int.add_zero] at hc2
      have F := And.intro @rowsD_len hn2
      repeat' first
        | refine wSq fun _ hK => ?_
        | refine wRg ?_
        | refine wDr ?_
        | refine VWP_block ?_
        | refine VWP_skip ?_
        | refine VWP_exit ?_
        | refine VWP_ret ?_
        | (refine hK _ ?_; clear hK)
        | (clear hK; refine hK _ ?_; clear hK)
        | (clear hK; clear hK; refine hK _ ?_; clear hK)
        | (clear hK; clear hK; clear hK; refine hK _ ?_; clear hK)
        | (simp only [wHb, reduceCtorEq] at hb <;> try (exfalso; omega))
        | refine wCd (fun hb => ?_) fun hb => ?_
        | simp only [go_sem, Nat.reduceLT, Nat.reduceLeDiff, Nat.reduceEqDiff, Nat.reduceAdd, Nat.reduceMul, Nat.reduceSub, reduceCtorEq, F]
        | simp (disch := omega) only [decide_eq_true_eq, if_pos, if_neg, wrap_id, le_maxLen, and_true, true_and, if_true, ite_true]
        | refine wGd (fun hb => ?_) fun hb => ?_
      refine retO_mk [] rfl [.root 4 (rowsB bs)] rfl (by simp [keepsL, updH, hpL]) rfl (by simp only [go_sem, Nat.reduceLT, Nat.reduceLeDiff, Nat.reduceEqDiff, Nat.reduceAdd, Nat.reduceMul, Nat.reduceSub, reduceCtorEq, vres]; rfl) (acc := []) (by simp only [go_sem, Nat.reduceLT, Nat.reduceLeDiff, Nat.reduceEqDiff, Nat.reduceAdd, Nat.reduceMul, Nat.reduceSub, reduceCtorEq, wrap, exOV, exOA, exOC, hc2]; try rfl) (by simp) rfl
end Go.Proofs.Ytchkbgekmoileaa
