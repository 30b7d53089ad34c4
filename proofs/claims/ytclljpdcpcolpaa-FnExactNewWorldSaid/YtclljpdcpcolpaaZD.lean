/- Marks on threads and worlds are found again. -/
import Derived.Test.YtclljpdcpcolpaaZC
namespace Go.Proofs.Ytclljpdcpcolpaa
open Go Go.RowKit
set_option linter.unusedVariables false
set_option linter.unusedSimpArgs false
set_option maxRecDepth 100000
set_option maxHeartbeats 4000000
attribute [local irreducible] VWP vops vdraw contV contD CallK Guard GuardV NextL Puts Runs RetOK RetQ RetO RetQO thenQ blockQ

theorem heldThreadS_ok (ts : List ThreadD) (k : Int) (h0 : 0 ≤ k) (h1 : k ≤ 1073741824) (hl : ts.length ≤ 1048576) (he : thN ts ≤ 1048576) :
    SatP Try.prog 121 [.fr 83 (rowsTh 146 131 69 (marksTh k ts)), .int .i64 k] (.int .i64 (k + (mkN ts : Int))) [] := by
  refine satP_of_body hT Try.func121 (by kernel_rfl) rfl (rs := [.tmp 4]) rfl (n := 119) rfl (by simp) rfl (by simp) fun E hE => ?_
  unfold St.init
  have F := And.intro @rowsTh_len @marksTh_len
  repeat' first
    | refine wSq fun _ hK => ?_
    | refine wRg ?_
    | refine wDr ?_
    | refine VWP_block ?_
    | refine VWP_skip ?_
    | refine VWP_exit ?_
    | refine VWP_ret ?_
    | (refine hK _ ?_; clear hK)
    | (clear hK; refine hK _ ?_; clear hK)
    | (clear hK; clear hK; refine hK _ ?_; clear hK)
    | (clear hK; clear hK; clear hK; refine hK _ ?_; clear hK)
    | (simp only [wHb, reduceCtorEq] at hb <;> try (exfalso; omega))
    | refine wCd (fun hb => ?_) fun hb => ?_
    | simp only [go_sem, Nat.reduceLT, Nat.reduceLeDiff, Nat.reduceEqDiff, Nat.reduceAdd, Nat.reduceMul, Nat.reduceSub, reduceCtorEq, F]
    | simp (disch := omega) only [decide_eq_true_eq, if_pos, if_neg, wrap_id, le_maxLen, and_true, true_and, if_true, ite_true]
    | refine wGd (fun hb => ?_) fun hb => ?_
  clear F
  refine VWP_loopL (X := Nat) (fun i => [(0, .fr 83 (rowsTh 146 131 69 (marksTh k ts))), (1, .int .i64 (k + (mkN (ts.take i) : Int))), (5, .int .i64 i)]) (fun _ => []) (fun i => ts.length - i)
    (fun i => i ≤ ts.length) 0 0 (by simp) (by simp [updV, mkN]) (by simp) (by simp) ?_
  rintro i nx hi hB
  rcases Nat.lt_or_ge i ts.length with hlt | hge
  · obtain ⟨t, hti⟩ : ∃ e, ts[i]? = some e := ⟨_, List.getElem?_eq_getElem hlt⟩
    have hr := rowsTh_at (ti := 146) (te := 131) (tf := 69) (marksTh_at (k := k) hti)
    simp only [mkTh] at hr
    have hb1 := mkN_take ts i
    have hb2 := mkN_le ts
    have hb3 := mkN_take ts (i + 1)
    have hsu := mkN_succ hti
    have htn := thN_mem (List.mem_of_getElem? hti)
    generalize hRR : rowsTh 146 131 69 (marksTh k ts) = RR at *
    have hlR : RR.length = ts.length := by rw [← hRR, rowsTh_len, marksTh_len]
    generalize hKq : k + (mkN (ts.take i) : Int) = K at *
    have K0 : 0 ≤ K := by omega
    have K1 : K ≤ 2147483648 := by omega
    have hQ : Q K t = K + 1 + 3 * (t.prog.length : Int) + 1 := rfl
    generalize Q K t = q at *
    have hw := wrap_id (x := (i : Int) + 1) (by omega)
    have q1 : ¬ K + 1 + 3 * (t.prog.length : Int) < 0 := by omega
    have q2 : ¬ q + 4 + 5 * (t.opens.length : Int) < 0 := by omega
    have q3 : ¬ q + 4 + 5 * (t.opens.length : Int) + 1 + 3 * (t.stack.length : Int) < 0 := by omega
    have hfin : q + 4 + 5 * (t.opens.length : Int) + 1 + 3 * (t.stack.length : Int) + 1 + 1 + 1 + 1 = k + (mkN (ts.take (i + 1)) : Int) := by omega
    have L0 : 0 ≤ q ∧ q ≤ 8589934592 ∧ t.opens.length ≤ 1048576 ∧ t.stack.length ≤ 1048576 := by omega
    obtain ⟨L0, L1, L2, L3⟩ := L0
    have hwa := wrap_id (x := K + 1) (by omega)
    have hwb := wrap_id (x := K + 1 + 3 * (t.prog.length : Int) + 1) (by omega)
    have F := And.intro hlR (And.intro hlt (And.intro hr (And.intro hwa (And.intro hwb (And.intro q1 @bne_self_eq_false.{0})))))
    repeat' first
      | refine wSq fun _ hK => ?_
      | refine wRg ?_
      | refine wDr ?_
      | refine VWP_block ?_
      | refine VWP_skip ?_
      | refine VWP_exit ?_
      | refine VWP_ret ?_
      | (refine hK _ ?_; clear hK)
      | (clear hK; refine hK _ ?_; clear hK)
      | (clear hK; clear hK; refine hK _ ?_; clear hK)
      | (clear hK; clear hK; clear hK; refine hK _ ?_; clear hK)
      | (simp only [wHb, reduceCtorEq] at hb <;> try (exfalso; omega))
      | refine wCd (fun hb => ?_) fun hb => ?_
      | refine wCa (c := by first | exact heldInstrS_ok t.prog.length (K + 1) (by omega) (by omega) (by omega)) (k := ?_)
      | simp only [go_sem, Nat.reduceLT, Nat.reduceLeDiff, Nat.reduceEqDiff, Nat.reduceAdd, Nat.reduceMul, Nat.reduceSub, reduceCtorEq, F]
      | simp (disch := omega) only [decide_eq_true_eq, if_pos, if_neg, wrap_id, le_maxLen, and_true, true_and, if_true, ite_true]
      | refine wGd (fun hb => ?_) fun hb => ?_
    clear F hwa hwb q1
    refine VWP_loopL (X := Nat) (fun j => [(0, .fr 83 RR), (1, .int .i64 (q + (j : Nat))), (5, .int .i64 i), (6, .int .i64 j)]) (fun _ => []) (fun j => 4 - j)
      (fun j => j ≤ 4) nx 0 (by simp) (by simp [updV, tmL, hQ]) (by simp) (by omega) ?_
    clear hQ hsu hb1 hb2 hb3 htn hKq
    rintro j nx2 hj hB2
    have h5 : j = 0 ∨ j = 1 ∨ j = 2 ∨ j = 3 ∨ j = 4 := by omega
    rcases h5 with rfl | rfl | rfl | rfl | rfl
    · have z0 : ((0 : Nat) : Int) = 0 := rfl
      have w0 := wrap_id (x := q + 0 + 1) (by omega)
      have s1 : q + 0 + 1 = q + 1 := by omega
      have F := And.intro hlR (And.intro hlt (And.intro hr (And.intro z0 (And.intro w0 (And.intro s1 (And.intro @Nat.zero_add @bne_self_eq_false.{0}))))))
      repeat' first
        | refine wSq fun _ hK => ?_
        | refine wRg ?_
        | refine wDr ?_
        | refine VWP_block ?_
        | refine VWP_skip ?_
        | refine VWP_exit ?_
        | refine VWP_ret ?_
        | (refine hK _ ?_; clear hK)
        | (clear hK; refine hK _ ?_; clear hK)
        | (clear hK; clear hK; refine hK _ ?_; clear hK)
        | (clear hK; clear hK; clear hK; refine hK _ ?_; clear hK)
        | (simp only [wHb, reduceCtorEq] at hb <;> try (exfalso; omega))
        | refine wCdx (fun hb => ?_) fun hb => ?_
        | simp only [go_sem, Nat.reduceLT, Nat.reduceLeDiff, Nat.reduceEqDiff, Nat.reduceAdd, Nat.reduceMul, Nat.reduceSub, reduceCtorEq, Int.reduceBEq, Int.reduceBNe, Int.reduceLT, Int.reduceLE, Int.reduceAdd, Int.reduceToNat, F]
        | simp (disch := omega) only [decide_eq_true_eq, if_pos, if_neg, wrap_id, le_maxLen, and_true, true_and, if_true, ite_true]
        | refine wGdx (fun hb => ?_) fun hb => ?_
      exact nextL 1 (by omega) (by omega) (by simp [updV, tmL]; try omega) (by simp) (by omega)
    · have z1 : ((1 : Nat) : Int) = 1 := rfl
      have w1 := wrap_id (x := q + 1 + 1) (by omega)
      have s2 : q + 1 + 1 = q + 2 := by omega
      have F := And.intro hlR (And.intro hlt (And.intro hr (And.intro z1 (And.intro w1 (And.intro s2 (And.intro @Nat.zero_add @bne_self_eq_false.{0}))))))
      repeat' first
        | refine wSq fun _ hK => ?_
        | refine wRg ?_
        | refine wDr ?_
        | refine VWP_block ?_
        | refine VWP_skip ?_
        | refine VWP_exit ?_
        | refine VWP_ret ?_
        | (refine hK _ ?_; clear hK)
        | (clear hK; refine hK _ ?_; clear hK)
        | (clear hK; clear hK; refine hK _ ?_; clear hK)
        | (clear hK; clear hK; clear hK; refine hK _ ?_; clear hK)
        | (simp only [wHb, reduceCtorEq] at hb <;> try (exfalso; omega))
        | refine wCdx (fun hb => ?_) fun hb => ?_
        | simp only [go_sem, Nat.reduceLT, Nat.reduceLeDiff, Nat.reduceEqDiff, Nat.reduceAdd, Nat.reduceMul, Nat.reduceSub, reduceCtorEq, Int.reduceBEq, Int.reduceBNe, Int.reduceLT, Int.reduceLE, Int.reduceAdd, Int.reduceToNat, F]
        | simp (disch := omega) only [decide_eq_true_eq, if_pos, if_neg, wrap_id, le_maxLen, and_true, true_and, if_true, ite_true]
        | refine wGdx (fun hb => ?_) fun hb => ?_
      exact nextL 2 (by omega) (by omega) (by simp [updV, tmL]; try omega) (by simp) (by omega)
    · have z2 : ((2 : Nat) : Int) = 2 := rfl
      have w2 := wrap_id (x := q + 2 + 1) (by omega)
      have s3 : q + 2 + 1 = q + 3 := by omega
      have F := And.intro hlR (And.intro hlt (And.intro hr (And.intro z2 (And.intro w2 (And.intro s3 (And.intro @Nat.zero_add @bne_self_eq_false.{0}))))))
      repeat' first
        | refine wSq fun _ hK => ?_
        | refine wRg ?_
        | refine wDr ?_
        | refine VWP_block ?_
        | refine VWP_skip ?_
        | refine VWP_exit ?_
        | refine VWP_ret ?_
        | (refine hK _ ?_; clear hK)
        | (clear hK; refine hK _ ?_; clear hK)
        | (clear hK; clear hK; refine hK _ ?_; clear hK)
        | (clear hK; clear hK; clear hK; refine hK _ ?_; clear hK)
        | (simp only [wHb, reduceCtorEq] at hb <;> try (exfalso; omega))
        | refine wCdx (fun hb => ?_) fun hb => ?_
        | simp only [go_sem, Nat.reduceLT, Nat.reduceLeDiff, Nat.reduceEqDiff, Nat.reduceAdd, Nat.reduceMul, Nat.reduceSub, reduceCtorEq, Int.reduceBEq, Int.reduceBNe, Int.reduceLT, Int.reduceLE, Int.reduceAdd, Int.reduceToNat, F]
        | simp (disch := omega) only [decide_eq_true_eq, if_pos, if_neg, wrap_id, le_maxLen, and_true, true_and, if_true, ite_true]
        | refine wGdx (fun hb => ?_) fun hb => ?_
      exact nextL 3 (by omega) (by omega) (by simp [updV, tmL]; try omega) (by simp) (by omega)
    · have z3 : ((3 : Nat) : Int) = 3 := rfl
      have w3 := wrap_id (x := q + 3 + 1) (by omega)
      have s4 : q + 3 + 1 = q + 4 := by omega
      have F := And.intro hlR (And.intro hlt (And.intro hr (And.intro z3 (And.intro w3 (And.intro s4 (And.intro @Nat.zero_add @bne_self_eq_false.{0}))))))
      repeat' first
        | refine wSq fun _ hK => ?_
        | refine wRg ?_
        | refine wDr ?_
        | refine VWP_block ?_
        | refine VWP_skip ?_
        | refine VWP_exit ?_
        | refine VWP_ret ?_
        | (refine hK _ ?_; clear hK)
        | (clear hK; refine hK _ ?_; clear hK)
        | (clear hK; clear hK; refine hK _ ?_; clear hK)
        | (clear hK; clear hK; clear hK; refine hK _ ?_; clear hK)
        | (simp only [wHb, reduceCtorEq] at hb <;> try (exfalso; omega))
        | refine wCdx (fun hb => ?_) fun hb => ?_
        | simp only [go_sem, Nat.reduceLT, Nat.reduceLeDiff, Nat.reduceEqDiff, Nat.reduceAdd, Nat.reduceMul, Nat.reduceSub, reduceCtorEq, Int.reduceBEq, Int.reduceBNe, Int.reduceLT, Int.reduceLE, Int.reduceAdd, Int.reduceToNat, F]
        | simp (disch := omega) only [decide_eq_true_eq, if_pos, if_neg, wrap_id, le_maxLen, and_true, true_and, if_true, ite_true]
        | refine wGdx (fun hb => ?_) fun hb => ?_
      exact nextL 4 (by omega) (by omega) (by simp [updV, tmL]; try omega) (by simp) (by omega)
    · have z4 : ((4 : Nat) : Int) = 4 := rfl
      have w5 := wrap_id (x := q + 4 + 5 * (t.opens.length : Int) + 1) (by omega)
      have w6 := wrap_id (x := q + 4 + 5 * (t.opens.length : Int) + 1 + 3 * (t.stack.length : Int) + 1) (by omega)
      have w7 := wrap_id (x := q + 4 + 5 * (t.opens.length : Int) + 1 + 3 * (t.stack.length : Int) + 1 + 1) (by omega)
      have w8 := wrap_id (x := q + 4 + 5 * (t.opens.length : Int) + 1 + 3 * (t.stack.length : Int) + 1 + 1 + 1) (by omega)
      have w9 := wrap_id (x := q + 4 + 5 * (t.opens.length : Int) + 1 + 3 * (t.stack.length : Int) + 1 + 1 + 1 + 1) (by omega)
      have c1 := heldEntryS_ok t.opens.length (q + 4) (by omega) (by omega) (by omega)
      have c2 := heldFrameS_ok t.stack.length (q + 4 + 5 * (t.opens.length : Int) + 1) (by omega) (by omega) (by omega)
      have F := And.intro hlR (And.intro hlt (And.intro hr (And.intro z4 (And.intro w5 (And.intro w6 (And.intro w7 (And.intro w8 (And.intro w9 (And.intro q2 (And.intro q3 @bne_self_eq_false.{0}))))))))))
      repeat' first
        | refine wSq fun _ hK => ?_
        | refine wRg ?_
        | refine wDr ?_
        | refine VWP_block ?_
        | refine VWP_skip ?_
        | refine VWP_exit ?_
        | refine VWP_ret ?_
        | (refine hK _ ?_; clear hK)
        | (clear hK; refine hK _ ?_; clear hK)
        | (clear hK; clear hK; refine hK _ ?_; clear hK)
        | (clear hK; clear hK; clear hK; refine hK _ ?_; clear hK)
        | (simp only [wHb, reduceCtorEq] at hb <;> try (exfalso; omega))
        | refine wCdx (fun hb => ?_) fun hb => ?_
        | refine wCax (c := by first | exact c1 | exact c2) (k := ?_)
        | simp only [go_sem, Nat.reduceLT, Nat.reduceLeDiff, Nat.reduceEqDiff, Nat.reduceAdd, Nat.reduceMul, Nat.reduceSub, reduceCtorEq, Int.reduceBEq, Int.reduceBNe, Int.reduceLT, Int.reduceLE, Int.reduceAdd, Int.reduceToNat, F]
        | simp (disch := omega) only [decide_eq_true_eq, if_pos, if_neg, wrap_id, le_maxLen, and_true, true_and, if_true, ite_true]
        | refine wGdx (fun hb => ?_) fun hb => ?_
      exact nextL (i + 1) (by omega) (by omega) (by simp [updV, tmL, hw, hfin]) (by simp) (by omega)
  · obtain rfl : i = ts.length := by omega
    have F := And.intro @rowsTh_len @marksTh_len
    repeat' first
      | refine wSq fun _ hK => ?_
      | refine wRg ?_
      | refine wDr ?_
      | refine VWP_block ?_
      | refine VWP_skip ?_
      | refine VWP_exit ?_
      | refine VWP_ret ?_
      | (refine hK _ ?_; clear hK)
      | (clear hK; refine hK _ ?_; clear hK)
      | (clear hK; clear hK; refine hK _ ?_; clear hK)
      | (clear hK; clear hK; clear hK; refine hK _ ?_; clear hK)
      | (simp only [wHb, reduceCtorEq] at hb <;> try (exfalso; omega))
      | refine wCd (fun hb => ?_) fun hb => ?_
      | simp only [go_sem, Nat.reduceLT, Nat.reduceLeDiff, Nat.reduceEqDiff, Nat.reduceAdd, Nat.reduceMul, Nat.reduceSub, reduceCtorEq, F]
      | simp (disch := omega) only [decide_eq_true_eq, if_pos, if_neg, wrap_id, le_maxLen, and_true, true_and, if_true, ite_true]
      | refine wGd (fun hb => ?_) fun hb => ?_
    refine wLf ?_
    rw [List.take_length]
theorem heldWorld_ok (w : WorldD) (k : Int) (h0 : 0 ≤ k) (h1 : k ≤ 1048576) (hs : w.tiny) :
    SatP Try.prog 59 [.agg [.fr 3 (rowsN (marksN k w.first.length)), .fr 125 (rowsH (marksS (k + w.first.length) w.store).heads), .fr 62 (rowsD 131 (marksS (k + w.first.length) w.store).descs), .fr 83 (rowsTh 146 131 69 (marksTh (k + w.first.length + cntS w.store) w.threads)), .fr 193 (rowsV (marksV (k + w.first.length + cntS w.store + (mkN w.threads : Int)) w.log.length))], .int .i64 k]
      (.int .i64 (k + w.first.length + cntS w.store + (mkN w.threads : Int) + 4 * w.log.length)) [] := by
  obtain ⟨f1, f2, f3, f4, f5⟩ := hs
  obtain ⟨s1, s2, s3⟩ := f2
  have hcn := cntD_le w.store.descs (Nat.le_refl _)
  have hcs : cntS w.store = 3 * (w.store.heads.length : Int) + cntD w.store.descs w.store.descs.length := rfl
  have hmk := mkN_le w.threads
  have c1 := heldIntS_ok w.first.length k h0 (by omega) (by omega)
  have c2 := heldStore_ok w.store (k + w.first.length) (by omega) (by omega) ⟨s1, s2, s3⟩
  have c3 := heldThreadS_ok w.threads (k + w.first.length + cntS w.store) (by omega) (by omega) f3 f4
  have c4 := heldEventS_ok w.log.length (k + w.first.length + cntS w.store + (mkN w.threads : Int)) (by omega) (by omega) (by omega)
  have n1 : ¬ k + (w.first.length : Int) < 0 := by omega
  have n2 : ¬ k + (w.first.length : Int) + cntS w.store < 0 := by omega
  have n3 : ¬ k + (w.first.length : Int) + cntS w.store + (mkN w.threads : Int) < 0 := by omega
  have n4 : ¬ k + (w.first.length : Int) + cntS w.store + (mkN w.threads : Int) + 4 * (w.log.length : Int) < 0 := by omega
  refine satP_of_body hT Try.func59 (by kernel_rfl) rfl (rs := [.tmp 4]) rfl (n := 30) rfl (by simp) rfl (by simp) fun E hE => ?_
  unfold St.init
  have F := And.intro n1 (And.intro n2 (And.intro n3 (And.intro n4 (And.intro @rowsN_pur (And.intro @rowsH_pur (And.intro @rowsD_pur (And.intro @rowsTh_pur @rowsV_pur)))))))
  repeat' first
    | refine wSq fun _ hK => ?_
    | refine wRg ?_
    | refine wDr ?_
    | refine VWP_block ?_
    | refine VWP_skip ?_
    | refine VWP_exit ?_
    | refine VWP_ret ?_
    | (refine hK _ ?_; clear hK)
    | (clear hK; refine hK _ ?_; clear hK)
    | (clear hK; clear hK; refine hK _ ?_; clear hK)
    | (clear hK; clear hK; clear hK; refine hK _ ?_; clear hK)
    | (simp only [wHb, reduceCtorEq] at hb <;> try (exfalso; omega))
    | refine wCd (fun hb => ?_) fun hb => ?_
    | refine wCa (c := by first | exact c1 | exact c2 | exact c3 | exact c4) (k := ?_)
    | simp only [go_sem, Nat.reduceLT, Nat.reduceLeDiff, Nat.reduceEqDiff, Nat.reduceAdd, Nat.reduceMul, Nat.reduceSub, reduceCtorEq, F]
    | simp (disch := omega) only [decide_eq_true_eq, if_pos, if_neg, wrap_id, le_maxLen, and_true, true_and, if_true, ite_true]
    | refine wGd (fun hb => ?_) fun hb => ?_
  refine wLf ?_
  rfl
end Go.Proofs.Ytclljpdcpcolpaa
