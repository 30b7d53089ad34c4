/- The orders of descriptors, counted by the program. -/
import Derived.Test.YtchkbgekmoileaaVF
import Derived.Test.YtchkbgekmoileaaVD
import Derived.Test.YtchkbgekmoileaaEf
import Derived.Test.YtchkbgekmoileaaFZ
namespace Go.Proofs.Ytchkbgekmoileaa
open Go Go.RowKit
set_option linter.unusedVariables false
set_option linter.unusedSimpArgs false
set_option maxRecDepth 100000
set_option maxHeartbeats 8000000
attribute [local irreducible] VWP vops vdraw contV contD CallK Guard GuardV NextL Puts Runs RetOK RetQ RetO RetQO thenQ blockQ
attribute [local irreducible] NextN SemRun

theorem rowsD_fr (te : TypeId) (ds : List DescS) : frRows (rowsD te ds) = true := by
  refine List.all_eq_true.2 fun r hr => ?_
  obtain ⟨d, _, rfl⟩ := List.mem_map.1 hr
  rfl
theorem rowsD_takeD (te : TypeId) (ds : List DescS) (i : Nat) : (rowsD te ds).take i = rowsD te (ds.take i) := by simp [rowsD, List.map_take]
theorem rowsD_dropD (te : TypeId) (ds : List DescS) (i : Nat) : (rowsD te ds).drop i = rowsD te (ds.drop i) := by simp [rowsD, List.map_drop]
theorem one_at {α : Type} {l : List α} {i : Nat} {d : α} (h : l[i]? = some d) : (l.take (i + 1)).drop i = [d] := by
  rw [List.drop_take, show i + 1 - i = 1 by omega]
  obtain ⟨hlt, rfl⟩ := List.getElem?_eq_some_iff.1 h
  rw [List.drop_eq_getElem_cons hlt]
  rfl
theorem countOrders_ok : ∀ (n : Nat) (vs : List Int) (ds : List DescS), ds.length = n → n ≤ 6 → vs.length ≤ 8 → (∀ d ∈ ds, FitsP vs.length d) →
    SatP Try.prog 48 [.fr 3 (rowsN vs), .fr 40 (rowsD 70 ds)] (.int .i64 (cntO n vs ds)) []
  | 0, vs, ds, hl, _, hv, hf => by
    have hz : (((ds.length : Nat) : Int) == 0) = true := by rw [hl]; rfl
    refine satP_of_body hT Try.func48 (by kernel_rfl) rfl (rs := [.tmp 4]) rfl (n := 47) rfl (by simp) rfl (by simp) fun E hE => ?_
    unfold St.init
    have F := And.intro @rowsD_len hz
    repeat' first
      | refine wSq fun _ hK => ?_
      | refine wRg ?_
      | refine wDr ?_
      | refine VWP_block ?_
      | refine VWP_skip ?_
      | refine VWP_exit ?_
      | refine VWP_ret ?_
      | (refine hK _ ?_; clear hK)
      | (clear hK; refine hK _ ?_; clear hK)
      | (clear hK; clear hK; refine hK _ ?_; clear hK)
      | (clear hK; clear hK; clear hK; refine hK _ ?_; clear hK)
      | (simp only [wHb, reduceCtorEq] at hb <;> try (exfalso; omega))
      | refine wCd (fun hb => ?_) fun hb => ?_
      | simp only [go_sem, Nat.reduceLT, Nat.reduceLeDiff, Nat.reduceEqDiff, Nat.reduceAdd, Nat.reduceMul, Nat.reduceSub, reduceCtorEq, F]
      | simp (disch := omega) only [decide_eq_true_eq, if_pos, if_neg, wrap_id, le_maxLen, and_true, true_and, if_true, ite_true]
      | refine wGd (fun hb => ?_) fun hb => ?_
    refine wLf ?_
    rfl
  | n + 1, vs, ds, hl, hn, hv, hf => by
    have ih := countOrders_ok n
    have hz : (((ds.length : Nat) : Int) == 0) = false := by rw [beq_eq_false_iff_ne]; omega
    have hbig : ∀ i : Nat, i ≤ 6 → (46656 : Int) * i ≤ 279936 := fun i hi => by omega
    have hde : ∀ d ∈ ds, d.entries.length ≤ 1048576 := fun d hd => by have := (hf d hd).1.2.2.2.2.2; omega
    refine satP_of_body hT Try.func48 (by kernel_rfl) rfl (rs := [.tmp 4]) rfl (n := 47) rfl (by simp) rfl (by simp) fun E hE => ?_
    unfold St.init
    have F := And.intro @rowsD_len hz
    repeat' first
      | refine wSq fun _ hK => ?_
      | refine wRg ?_
      | refine wDr ?_
      | refine VWP_block ?_
      | refine VWP_skip ?_
      | refine VWP_exit ?_
      | refine VWP_ret ?_
      | (refine hK _ ?_; clear hK)
      | (clear hK; refine hK _ ?_; clear hK)
      | (clear hK; clear hK; refine hK _ ?_; clear hK)
      | (clear hK; clear hK; clear hK; refine hK _ ?_; clear hK)
      | (simp only [wHb, reduceCtorEq] at hb <;> try (exfalso; omega))
      | refine wCd (fun hb => ?_) fun hb => ?_
      | simp only [go_sem, Nat.reduceLT, Nat.reduceLeDiff, Nat.reduceEqDiff, Nat.reduceAdd, Nat.reduceMul, Nat.reduceSub, reduceCtorEq, F]
      | simp (disch := omega) only [decide_eq_true_eq, if_pos, if_neg, wrap_id, le_maxLen, and_true, true_and, if_true, ite_true]
      | refine wGd (fun hb => ?_) fun hb => ?_
    refine VWP_loopN hE (X := Nat × Int) (fun x => [(0, .fr 3 (rowsN vs)), (1, .fr 40 (rowsD 70 ds)), (5, .int .i64 x.2), (14, .int .i64 ds.length), (15, .int .i64 x.1)])
      (fun x => []) (fun x => ds.length - x.1)
      (fun x => x.1 ≤ ds.length ∧ 0 ≤ x.2 ∧ x.2 ≤ 46656 * x.1 ∧ cntO (n + 1) vs ds = x.2 + sumSel (fun d rest => if canE d.entries vs = true then cntO n (putE d.entries vs) rest else 0) (ds.take x.1) (ds.drop x.1)) [] (0, 0) ⟨by simp, by simp, by simp, by simp [cntO]⟩ (by decide) (by decide) (by simp [updV, renV, renA, renC]) (by simp) ?_
    rintro ⟨i, c⟩ ⟨hi, hc0, hc1, hc2⟩
    try simp only
    simp only at hi hc0 hc1 hc2
    have hb6 := hbig i (by omega)
    rcases Nat.lt_or_ge i ds.length with hlt | hge
    · obtain ⟨d, hd⟩ : ∃ d, ds[i]? = some d := ⟨_, List.getElem?_eq_getElem hlt⟩
      have hm := List.mem_of_getElem? hd
      rw [sumSel_at hd] at hc2
      have hi1 : (i : Int) < (ds.length : Int) := by omega
      have hi0 : (0 : Int) ≤ (i : Int) := by omega
      have hw := wrap_id (x := (i : Int) + 1) (by omega)
      have hi2 : (0 : Int) ≤ (i : Int) + 1 := by omega
      have hi3 : ((i : Int) + 1).toNat = i + 1 := by omega
      have hi4 : i + 1 ≤ ds.length := hlt
      have hi5 : i ≤ i + 1 := Nat.le_succ i
      have hi6 : i ≤ ds.length := hi
      have hq1 := rowsD_takeD 70 ds i
      have hq2 := rowsD_takeD 70 ds (i + 1)
      have hq3 : (rowsD 70 (ds.take (i + 1))).drop i = rowsD 70 [d] := by rw [rowsD_dropD, one_at hd]
      have hser := serial_ok vs [d] (by omega) (by simp) (fun x hx => by simp at hx; subst hx; exact hde _ hm) (fun x hx => by simp at hx; subst hx; exact hf _ hm)
      cases hcn : canE d.entries vs with
      | false =>
        have hser := hser (vs, false) (by simp [serialL, hcn])
        have F := And.intro @rowsD_len (And.intro hi1 (And.intro hi0 (And.intro hw (And.intro hi2 (And.intro hi3 (And.intro hi4 (And.intro hi5 (And.intro hi6 (And.intro hq1 (And.intro hq2 hq3))))))))))
        repeat' first
          | refine wSq fun _ hK => ?_
          | refine wRg ?_
          | refine wDr ?_
          | refine VWP_block ?_
          | refine VWP_skip ?_
          | refine VWP_exit ?_
          | refine VWP_ret ?_
          | (refine hK _ ?_; clear hK)
          | (clear hK; refine hK _ ?_; clear hK)
          | (clear hK; clear hK; refine hK _ ?_; clear hK)
          | (clear hK; clear hK; clear hK; refine hK _ ?_; clear hK)
          | (simp only [wHb, reduceCtorEq] at hb <;> try (exfalso; omega))
          | refine wCd (fun hb => ?_) fun hb => ?_
          | refine wCa (c := by first | exact hser) (k := ?_)
          | simp only [go_sem, Nat.reduceLT, Nat.reduceLeDiff, Nat.reduceEqDiff, Nat.reduceAdd, Nat.reduceMul, Nat.reduceSub, reduceCtorEq, F]
          | simp (disch := omega) only [decide_eq_true_eq, if_pos, if_neg, wrap_id, le_maxLen, and_true, true_and, if_true, ite_true]
          | refine wGd (fun hb => ?_) fun hb => ?_
        all_goals refine nextN [] rfl [] (i + 1, c) rfl (by decide) (by decide) ⟨by simp only; omega, hc0, by simp only; omega, ?_⟩ (by simp only; omega) (by simp [updV, tmL, renV, renA, renC, hw]) (by simp)
        simpa [hcn] using hc2
      | true =>
        have hser := hser (putE d.entries vs, true) (by simp [serialL, hcn])
        obtain ⟨rest, hrest⟩ : ∃ r, ds.take i ++ ds.drop (i + 1) = r := ⟨_, rfl⟩
        have hrl : rest.length = n := by rw [← hrest]; simp; omega
        have hrf : ∀ x ∈ rest, FitsP (putE d.entries vs).length x := fun x hx => by
          rw [putE_len]
          rw [← hrest] at hx
          rcases List.mem_append.1 hx with h | h
          · exact hf x (List.mem_of_mem_take h)
          · exact hf x (List.mem_of_mem_drop h)
        have hrec := ih (putE d.entries vs) rest hrl (by omega) (by rw [putE_len]; omega) hrf
        rw [hrest] at hc2
        obtain ⟨m, hm2⟩ : ∃ m, (ds.drop (i + 1)).length = m := ⟨_, rfl⟩
        have hm3 : i + m = n := by simp at hm2; omega
        have hq4 := rowsD_dropD 70 ds (i + 1)
        have hq5 := rowsD_take 70 ds
        have hq6 : (ds.take i).length = i := by simp; omega
        have hq7 : fzRows (rowsD 70 (ds.take i)) ++ fzRows (rowsD 70 (ds.drop (i + 1))) = fzRows (rowsD 70 rest) := by rw [fzRows_app, ← hrest]; simp [rowsD]
        have hq8 : (fzRows (rowsD 70 (ds.take i))).take (0 + i) = fzRows (rowsD 70 (ds.take i)) := by rw [List.take_of_length_le (by rw [fzRows_len, rowsD_len, hq6]; omega)]
        have hsm := cntO_small (n := n) (by omega) (putE d.entries vs) (ds := rest) (by omega)
        obtain ⟨z, hz2⟩ : ∃ z, cntO n (putE d.entries vs) rest = z := ⟨_, rfl⟩
        rw [hz2] at hrec hsm
        simp only [hcn, if_true, hz2] at hc2
        have hw2 := wrap_id (x := c + z) (by omega)
        have b1 : (i : Nat) * 40 ≤ 140737488355328 := by omega
        have b2 : (i + m) * 40 ≤ 140737488355328 := by omega
        have b3 : i ≤ maxLen := by simp only [maxLen]; omega
        have b4 : i + m ≤ maxLen := by simp only [maxLen]; omega
        have hvl := rowsN_len (putE d.entries vs)
        have hrdl := rowsD_len 70 rest
        have hN : 0 + i + m = rest.length := by omega
        have b5 : rest.length * 40 ≤ 140737488355328 := by omega
        have b6 : rest.length ≤ maxLen := by simp only [maxLen]; omega
        have F := And.intro @rowsD_len (And.intro @rowsN_len (And.intro @rowsD_fr (And.intro @fzRows_len (And.intro hi1 (And.intro hi0 (And.intro hw (And.intro hi2 (And.intro hi3 (And.intro hi4 (And.intro hi5 (And.intro hi6 (And.intro hq1 (And.intro hq2 (And.intro hq3 (And.intro hq4 (And.intro hq5 (And.intro hq6 (And.intro hq7 (And.intro hq8 (And.intro hm2 (And.intro hw2 (And.intro b1 (And.intro b2 (And.intro b3 (And.intro b4 (And.intro b5 (And.intro b6 (And.intro hN hrdl))))))))))))))))))))))))))))
        repeat' first
          | refine wSq fun _ hK => ?_
          | refine wRg ?_
          | refine VWP_cls hT hM (id := 9) 11 [[0, 1, 2, 3, 4, 5, 6, 7, 8, 9, 10], [0, 1, 2, 3, 5, 6, 7, 8, 4, 9, 10]] (by kernel_rfl) ?_
          | refine And.intro ?_ ?_
          | exact trivial
          | refine wDr ?_
          | refine VWP_block ?_
          | refine VWP_skip ?_
          | refine VWP_exit ?_
          | refine VWP_ret ?_
          | (refine hK _ ?_; clear hK)
          | (clear hK; refine hK _ ?_; clear hK)
          | (clear hK; clear hK; refine hK _ ?_; clear hK)
          | (clear hK; clear hK; clear hK; refine hK _ ?_; clear hK)
          | (simp only [wHb, reduceCtorEq] at hb <;> try (exfalso; omega))
          | refine wCd (fun hb => ?_) fun hb => ?_
          | refine wCa (c := by first | exact hser) (k := ?_)
          | refine wSm (sem_of_fz (r1 := rowsN (putE d.entries vs)) (r2 := rowsD 70 rest) (rowsN_pur _) (rowsD_fr _ _) hrec (by simp only [go_sem, Nat.reduceLT, Nat.reduceAdd, Nat.reduceMul, reduceCtorEq, F]; try rfl) (by simp only [go_sem, Nat.reduceLT, Nat.reduceAdd, Nat.reduceMul, reduceCtorEq, F]; try rfl) (by simp only [go_sem, Nat.reduceLT, Nat.reduceAdd, Nat.reduceMul, reduceCtorEq, F]; try rfl) (by simp only [go_sem, Nat.reduceLT, Nat.reduceAdd, Nat.reduceMul, reduceCtorEq, F]; try rfl)) ?_
          | simp only [go_sem, Nat.reduceLT, Nat.reduceLeDiff, Nat.reduceEqDiff, Nat.reduceAdd, Nat.reduceMul, Nat.reduceSub, reduceCtorEq, F]
          | simp (disch := omega) only [decide_eq_true_eq, if_pos, if_neg, wrap_id, le_maxLen, and_true, true_and, if_true, ite_true]
          | refine wGd (fun hb => ?_) fun hb => ?_
        all_goals refine nextN [] rfl [] (i + 1, c + z) rfl (by decide) (by decide) ⟨by simp only; omega, by simp only; omega, by simp only; omega, by simp only; omega⟩ (by simp only; omega) (by simp [updV, tmL, renV, renA, renC, hw, hw2]) (by simp)
    · obtain rfl : i = ds.length := by omega
      have hn2 : ¬ ((ds.length : Nat) : Int) < (ds.length : Int) := by omega
      rw [List.drop_length] at hc2
      simp only [sumSel, Int.add_zero] at hc2
      have F := And.intro @rowsD_len hn2
      repeat' first
        | refine wSq fun _ hK => ?_
        | refine wRg ?_
        | refine wDr ?_
        | refine VWP_block ?_
        | refine VWP_skip ?_
        | refine VWP_exit ?_
        | refine VWP_ret ?_
        | (refine hK _ ?_; clear hK)
        | (clear hK; refine hK _ ?_; clear hK)
        | (clear hK; clear hK; refine hK _ ?_; clear hK)
        | (clear hK; clear hK; clear hK; refine hK _ ?_; clear hK)
        | (simp only [wHb, reduceCtorEq] at hb <;> try (exfalso; omega))
        | refine wCd (fun hb => ?_) fun hb => ?_
        | simp only [go_sem, Nat.reduceLT, Nat.reduceLeDiff, Nat.reduceEqDiff, Nat.reduceAdd, Nat.reduceMul, Nat.reduceSub, reduceCtorEq, F]
        | simp (disch := omega) only [decide_eq_true_eq, if_pos, if_neg, wrap_id, le_maxLen, and_true, true_and, if_true, ite_true]
        | refine wGd (fun hb => ?_) fun hb => ?_
      refine wLf ?_
      rw [hc2]
end Go.Proofs.Ytchkbgekmoileaa
