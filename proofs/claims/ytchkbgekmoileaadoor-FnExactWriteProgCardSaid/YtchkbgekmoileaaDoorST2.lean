/- What the reference's own telling of a number gives. -/
import Derived.Test.YtchkbgekmoileaaDoorST1
namespace Go.Proofs.YtchkbgekmoileaaDoor
open Go Go.RowKit
set_option linter.unusedVariables false
set_option linter.unusedSimpArgs false
set_option maxRecDepth 100000
set_option maxHeartbeats 8000000
attribute [local irreducible] VWP vops vdraw contV contD CallK Guard GuardV NextL Puts Runs RetOK RetQ RetO RetQO thenQ blockQ
attribute [local irreducible] NextN

theorem wrap_u8 {x : Int} (h : 0 ≤ x ∧ x ≤ 255) : IntKind.u8.wrap x = x := by
  rw [IntKind.wrap_u8]
  omega
theorem one_size (x : UInt8) : (⟨#[x]⟩ : ByteArray).size = 1 := rfl
theorem l1Told_ok : ∀ (N : Nat) (n : Int), n.natAbs < N → -9223372036854775808 ≤ n → n ≤ 9223372036854775807 → SatP Tryd.prog 17 [.int .i64 n] (.str (told n)) []
  | 0, n, h, _, _ => by omega
  | N + 1, n, h, h0, h1 => by
    have ih := l1Told_ok N
    rcases Int.lt_or_le n 10 with c1 | c1
    · rcases Int.lt_or_le (-10) n with c2 | c2
      · rcases Int.lt_or_le n 0 with c3 | c3
        · have hw1 := wrap_id (x := 48 - n) (by omega)
          have hw2 := wrap_u8 (x := 48 - n) (by omega)
          refine satP_of_body hT Tryd.func17 (by kernel_rfl) rfl (rs := [.tmp 2]) rfl (n := 38) rfl (by simp) rfl (by simp) fun E hE => ?_
          unfold St.init
          have F := And.intro c1 (And.intro c2 (And.intro c3 (And.intro hw1 (And.intro hw2 @one_size))))
          repeat' first
            | refine wSq fun _ hK => ?_
            | refine wRg ?_
            | refine wDr ?_
            | refine VWP_block ?_
            | refine VWP_skip ?_
            | refine VWP_exit ?_
            | refine VWP_ret ?_
            | (refine hK _ ?_; clear hK)
            | (clear hK; refine hK _ ?_; clear hK)
            | (clear hK; clear hK; refine hK _ ?_; clear hK)
            | (clear hK; clear hK; clear hK; refine hK _ ?_; clear hK)
            | (simp only [wHb, reduceCtorEq] at hb <;> try (exfalso; omega))
            | refine wCd (fun hb => ?_) fun hb => ?_
            | simp only [go_sem, Nat.reduceLT, Nat.reduceLeDiff, Nat.reduceEqDiff, Nat.reduceAdd, Nat.reduceMul, Nat.reduceSub, reduceCtorEq, F]
            | simp (disch := omega) only [decide_eq_true_eq, if_pos, if_neg, wrap_id, le_maxLen, and_true, true_and, if_true, ite_true]
            | refine wGd (fun hb => ?_) fun hb => ?_
          all_goals refine wLf ?_
          all_goals rw [told_neg c3 c2]
        · have hw1 := wrap_id (x := 48 + n) (by omega)
          have hw2 := wrap_u8 (x := 48 + n) (by omega)
          have c4 : ¬ n < 0 := by omega
          refine satP_of_body hT Tryd.func17 (by kernel_rfl) rfl (rs := [.tmp 2]) rfl (n := 38) rfl (by simp) rfl (by simp) fun E hE => ?_
          unfold St.init
          have F := And.intro c1 (And.intro c2 (And.intro c4 (And.intro hw1 (And.intro hw2 @one_size))))
          repeat' first
            | refine wSq fun _ hK => ?_
            | refine wRg ?_
            | refine wDr ?_
            | refine VWP_block ?_
            | refine VWP_skip ?_
            | refine VWP_exit ?_
            | refine VWP_ret ?_
            | (refine hK _ ?_; clear hK)
            | (clear hK; refine hK _ ?_; clear hK)
            | (clear hK; clear hK; refine hK _ ?_; clear hK)
            | (clear hK; clear hK; clear hK; refine hK _ ?_; clear hK)
            | (simp only [wHb, reduceCtorEq] at hb <;> try (exfalso; omega))
            | refine wCd (fun hb => ?_) fun hb => ?_
            | simp only [go_sem, Nat.reduceLT, Nat.reduceLeDiff, Nat.reduceEqDiff, Nat.reduceAdd, Nat.reduceMul, Nat.reduceSub, reduceCtorEq, F]
            | simp (disch := omega) only [decide_eq_true_eq, if_pos, if_neg, wrap_id, le_maxLen, and_true, true_and, if_true, ite_true]
            | refine wGd (fun hb => ?_) fun hb => ?_
          all_goals refine wLf ?_
          all_goals rw [told_pos c3 c1]
      · have c5 : ¬ -10 < n := by omega
        obtain ⟨m, hm⟩ : ∃ m, n.tdiv 10 = m := ⟨_, rfl⟩
        obtain ⟨l, hl⟩ : ∃ l, n.tmod 10 = l := ⟨_, rfl⟩
        have hb1 : m.natAbs < N ∧ -9223372036854775808 ≤ m ∧ m ≤ 9223372036854775807 := by
          have h2 : (n.tdiv 10).natAbs = n.natAbs / 10 := by rw [Int.natAbs_tdiv]; rfl
          rw [hm] at h2
          omega
        have hb2 : -10 < l ∧ l < 10 := by
          have h2 := Int.natAbs_tmod n 10
          rw [hl] at h2
          have : n.natAbs % (10 : Int).natAbs < 10 := Nat.mod_lt _ (by decide)
          omega
        have hrec := ih m hb1.1 hb1.2.1 hb1.2.2
        have hs := told_size hb1.2.1 hb1.2.2
        have hs2 : (told m).size + 1 ≤ 9223372036854775807 := by omega
        have hw0 := wrap_id (x := m) (by omega)
        rcases Int.lt_or_le l 0 with c3 | c3
        · have hw1 := wrap_id (x := 48 + -l) (by omega)
          have hw2 := wrap_u8 (x := 48 + -l) (by omega)
          have hw3 : IntKind.i64.wrap (0 - l) = -l := by rw [wrap_id (by omega)]; omega
          have hmo := told_more (.inl c2) hm (l := -l) (by rw [hl, if_pos c3])
          refine satP_of_body hT Tryd.func17 (by kernel_rfl) rfl (rs := [.tmp 2]) rfl (n := 38) rfl (by simp) rfl (by simp) fun E hE => ?_
          unfold St.init
          have F := And.intro c5 (And.intro c3 (And.intro hm (And.intro hl (And.intro hw0 (And.intro hw1 (And.intro hw2 (And.intro hw3 (And.intro hs2 @one_size))))))))
          repeat' first
            | refine wSq fun _ hK => ?_
            | refine wRg ?_
            | refine wDr ?_
            | refine VWP_block ?_
            | refine VWP_skip ?_
            | refine VWP_exit ?_
            | refine VWP_ret ?_
            | (refine hK _ ?_; clear hK)
            | (clear hK; refine hK _ ?_; clear hK)
            | (clear hK; clear hK; refine hK _ ?_; clear hK)
            | (clear hK; clear hK; clear hK; refine hK _ ?_; clear hK)
            | (simp only [wHb, reduceCtorEq] at hb <;> try (exfalso; omega))
            | refine wCd (fun hb => ?_) fun hb => ?_
            | refine wCa (c := by first | exact hrec) (k := ?_)
            | simp only [go_sem, Nat.reduceLT, Nat.reduceLeDiff, Nat.reduceEqDiff, Nat.reduceAdd, Nat.reduceMul, Nat.reduceSub, reduceCtorEq, F]
            | simp (disch := omega) only [decide_eq_true_eq, if_pos, if_neg, wrap_id, le_maxLen, and_true, true_and, if_true, ite_true]
            | refine wGd (fun hb => ?_) fun hb => ?_
          all_goals refine wLf ?_
          all_goals rw [hmo]
        · have hw1 := wrap_id (x := 48 + l) (by omega)
          have hw2 := wrap_u8 (x := 48 + l) (by omega)
          have c4 : ¬ l < 0 := by omega
          have hmo := told_more (.inl c2) hm (l := l) (by rw [hl, if_neg c4])
          refine satP_of_body hT Tryd.func17 (by kernel_rfl) rfl (rs := [.tmp 2]) rfl (n := 38) rfl (by simp) rfl (by simp) fun E hE => ?_
          unfold St.init
          have F := And.intro c5 (And.intro c4 (And.intro hm (And.intro hl (And.intro hw0 (And.intro hw1 (And.intro hw2 (And.intro hs2 @one_size)))))))
          repeat' first
            | refine wSq fun _ hK => ?_
            | refine wRg ?_
            | refine wDr ?_
            | refine VWP_block ?_
            | refine VWP_skip ?_
            | refine VWP_exit ?_
            | refine VWP_ret ?_
            | (refine hK _ ?_; clear hK)
            | (clear hK; refine hK _ ?_; clear hK)
            | (clear hK; clear hK; refine hK _ ?_; clear hK)
            | (clear hK; clear hK; clear hK; refine hK _ ?_; clear hK)
            | (simp only [wHb, reduceCtorEq] at hb <;> try (exfalso; omega))
            | refine wCd (fun hb => ?_) fun hb => ?_
            | refine wCa (c := by first | exact hrec) (k := ?_)
            | simp only [go_sem, Nat.reduceLT, Nat.reduceLeDiff, Nat.reduceEqDiff, Nat.reduceAdd, Nat.reduceMul, Nat.reduceSub, reduceCtorEq, F]
            | simp (disch := omega) only [decide_eq_true_eq, if_pos, if_neg, wrap_id, le_maxLen, and_true, true_and, if_true, ite_true]
            | refine wGd (fun hb => ?_) fun hb => ?_
          all_goals refine wLf ?_
          all_goals rw [hmo]
    · have c5 : ¬ n < 10 := by omega
      have c6 : -10 < n := by omega
      obtain ⟨m, hm⟩ : ∃ m, n.tdiv 10 = m := ⟨_, rfl⟩
      obtain ⟨l, hl⟩ : ∃ l, n.tmod 10 = l := ⟨_, rfl⟩
      have hb1 : m.natAbs < N ∧ -9223372036854775808 ≤ m ∧ m ≤ 9223372036854775807 := by
        have h2 : (n.tdiv 10).natAbs = n.natAbs / 10 := by rw [Int.natAbs_tdiv]; rfl
        rw [hm] at h2
        omega
      have hb2 : 0 ≤ l ∧ l < 10 := by
        have h2 := Int.natAbs_tmod n 10
        rw [hl] at h2
        have h3 := Int.tmod_nonneg (a := n) 10 (by omega)
        have : n.natAbs % (10 : Int).natAbs < 10 := Nat.mod_lt _ (by decide)
        omega
      have hrec := ih m hb1.1 hb1.2.1 hb1.2.2
      have hs := told_size hb1.2.1 hb1.2.2
      have hs2 : (told m).size + 1 ≤ 9223372036854775807 := by omega
      have hw0 := wrap_id (x := m) (by omega)
      have hw1 := wrap_id (x := 48 + l) (by omega)
      have hw2 := wrap_u8 (x := 48 + l) (by omega)
      have c4 : ¬ l < 0 := by omega
      have hmo := told_more (.inr c1) hm (l := l) (by rw [hl, if_neg c4])
      refine satP_of_body hT Tryd.func17 (by kernel_rfl) rfl (rs := [.tmp 2]) rfl (n := 38) rfl (by simp) rfl (by simp) fun E hE => ?_
      unfold St.init
      have F := And.intro c5 (And.intro c6 (And.intro c4 (And.intro hm (And.intro hl (And.intro hw0 (And.intro hw1 (And.intro hw2 (And.intro hs2 @one_size))))))))
      repeat' first
        | refine wSq fun _ hK => ?_
        | refine wRg ?_
        | refine wDr ?_
        | refine VWP_block ?_
        | refine VWP_skip ?_
        | refine VWP_exit ?_
        | refine VWP_ret ?_
        | (refine hK _ ?_; clear hK)
        | (clear hK; refine hK _ ?_; clear hK)
        | (clear hK; clear hK; refine hK _ ?_; clear hK)
        | (clear hK; clear hK; clear hK; refine hK _ ?_; clear hK)
        | (simp only [wHb, reduceCtorEq] at hb <;> try (exfalso; omega))
        | refine wCd (fun hb => ?_) fun hb => ?_
        | refine wCa (c := by first | exact hrec) (k := ?_)
        | simp only [go_sem, Nat.reduceLT, Nat.reduceLeDiff, Nat.reduceEqDiff, Nat.reduceAdd, Nat.reduceMul, Nat.reduceSub, reduceCtorEq, F]
        | simp (disch := omega) only [decide_eq_true_eq, if_pos, if_neg, wrap_id, le_maxLen, and_true, true_and, if_true, ite_true]
        | refine wGd (fun hb => ?_) fun hb => ?_
      all_goals refine wLf ?_
      all_goals rw [hmo]
theorem l1T_ok {n : Int} (h0 : -9223372036854775808 ≤ n) (h1 : n ≤ 9223372036854775807) : SatP Tryd.prog 17 [.int .i64 n] (.str (told n)) [] := l1Told_ok (n.natAbs + 1) n (Nat.lt_succ_self _) h0 h1
end Go.Proofs.YtchkbgekmoileaaDoor
