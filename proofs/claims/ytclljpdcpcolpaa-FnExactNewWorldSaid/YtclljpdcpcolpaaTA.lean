/- Threads: what the laws' functions of threads give. -/
import Derived.Test.YtclljpdcpcolpaaSF
import Derived.Test.YtclljpdcpcolpaaDE
import Derived.Test.YtclljpdcpcolpaaPD
namespace Go.Proofs.Ytclljpdcpcolpaa
open Go Go.RowKit
set_option linter.unusedVariables false
set_option linter.unusedSimpArgs false
set_option maxRecDepth 100000
set_option maxHeartbeats 4000000
attribute [local irreducible] VWP vops vdraw contV contD CallK Guard GuardV NextL Puts Runs RetOK RetQ RetO RetQO thenQ blockQ

def c4 (i : Nat) (a b c d : Int) : List VV := [.int .i64 (if 0 < i then a else 0), .int .i64 (if 1 < i then b else 0), .int .i64 (if 2 < i then c else 0), .int .i64 (if 3 < i then d else 0)]
theorem toIntA4_ok (a b c d : Int) : SatP Try.prog 101 [.agg [.int .i64 a, .int .i64 b, .int .i64 c, .int .i64 d]] (.agg [.int .i64 a, .int .i64 b, .int .i64 c, .int .i64 d]) [] := by
  refine satP_of_body hT Try.func101 (by kernel_rfl) rfl (rs := [.cell 2 76]) rfl (n := 15) rfl (by simp) rfl (by simp) fun E hE => ?_
  unfold St.init
  have F := (Eq.refl 0)
  repeat' first
    | refine wSq fun _ hK => ?_
    | refine wRg ?_
    | refine wDr ?_
    | refine VWP_block ?_
    | refine VWP_skip ?_
    | refine VWP_exit ?_
    | refine VWP_ret ?_
    | (refine hK _ ?_; clear hK)
    | (clear hK; refine hK _ ?_; clear hK)
    | (clear hK; clear hK; refine hK _ ?_; clear hK)
    | (clear hK; clear hK; clear hK; refine hK _ ?_; clear hK)
    | (simp only [wHb, reduceCtorEq] at hb <;> try (exfalso; omega))
    | refine wCd (fun hb => ?_) fun hb => ?_
    | simp only [go_sem, Nat.reduceLT, Nat.reduceLeDiff, Nat.reduceEqDiff, Nat.reduceAdd, Nat.reduceMul, Nat.reduceSub, reduceCtorEq, F]
    | simp (disch := omega) only [decide_eq_true_eq, if_pos, if_neg, wrap_id, le_maxLen, and_true, true_and, if_true, ite_true]
    | refine wGd (fun hb => ?_) fun hb => ?_
  refine VWP_loopL (X := Nat) (fun i => [(1, .bp 0 0), (2, .bp 1 0), (3, .bp 2 0), (4, .int .i64 i)]) (fun i => [(0, .box [.int .i64 a, .int .i64 b, .int .i64 c, .int .i64 d]), (1, .box [.int .i64 0, .int .i64 0, .int .i64 0, .int .i64 0]), (2, .box (c4 i a b c d))]) (fun i => 4 - i)
    (fun i => i ≤ 4) 3 0 (by simp) (by simp [updV]) (by simp [updH, c4]) (by simp) ?_
  rintro i nx hi hB
  have h5 : i = 0 ∨ i = 1 ∨ i = 2 ∨ i = 3 ∨ i = 4 := by omega
  have e0 : ((0 : Nat) : Int) = 0 := rfl
  have e1 : ((1 : Nat) : Int) = 1 := rfl
  have e2 : ((2 : Nat) : Int) = 2 := rfl
  have e3 : ((3 : Nat) : Int) = 3 := rfl
  have e4 : ((4 : Nat) : Int) = 4 := rfl
  rcases h5 with rfl | rfl | rfl | rfl | rfl
  · skip
    have F := And.intro @c4.eq_1 (And.intro e0 (And.intro e1 (And.intro e2 (And.intro e3 (And.intro e4 (And.intro @Nat.lt_irrefl (And.intro @Int.zero_add @Nat.zero_add)))))))
    repeat' first
      | refine wSq fun _ hK => ?_
      | refine wRg ?_
      | refine wDr ?_
      | refine VWP_block ?_
      | refine VWP_skip ?_
      | refine VWP_exit ?_
      | refine VWP_ret ?_
      | (refine hK _ ?_; clear hK)
      | (clear hK; refine hK _ ?_; clear hK)
      | (clear hK; clear hK; refine hK _ ?_; clear hK)
      | (clear hK; clear hK; clear hK; refine hK _ ?_; clear hK)
      | (simp only [wHb, reduceCtorEq] at hb <;> try (exfalso; omega))
      | refine wCdx (fun hb => ?_) fun hb => ?_
      | simp only [go_sem, Nat.reduceLT, Nat.reduceLeDiff, Nat.reduceEqDiff, Nat.reduceAdd, Nat.reduceMul, Nat.reduceSub, reduceCtorEq, Int.reduceBEq, Int.reduceBNe, Int.reduceLT, Int.reduceLE, Int.reduceAdd, Int.reduceToNat, F]
      | simp (disch := omega) only [decide_eq_true_eq, if_pos, if_neg, wrap_id, le_maxLen, and_true, true_and, if_true, ite_true]
      | refine wGdx (fun hb => ?_) fun hb => ?_
    exact nextL 1 (by omega) (by omega) (by simp [updV, tmL]; try decide) (by simp [updH, hpL, c4]) (by omega)
  · skip
    have F := And.intro @c4.eq_1 (And.intro e0 (And.intro e1 (And.intro e2 (And.intro e3 (And.intro e4 (And.intro @Nat.lt_irrefl (And.intro @Int.zero_add @Nat.zero_add)))))))
    repeat' first
      | refine wSq fun _ hK => ?_
      | refine wRg ?_
      | refine wDr ?_
      | refine VWP_block ?_
      | refine VWP_skip ?_
      | refine VWP_exit ?_
      | refine VWP_ret ?_
      | (refine hK _ ?_; clear hK)
      | (clear hK; refine hK _ ?_; clear hK)
      | (clear hK; clear hK; refine hK _ ?_; clear hK)
      | (clear hK; clear hK; clear hK; refine hK _ ?_; clear hK)
      | (simp only [wHb, reduceCtorEq] at hb <;> try (exfalso; omega))
      | refine wCdx (fun hb => ?_) fun hb => ?_
      | simp only [go_sem, Nat.reduceLT, Nat.reduceLeDiff, Nat.reduceEqDiff, Nat.reduceAdd, Nat.reduceMul, Nat.reduceSub, reduceCtorEq, Int.reduceBEq, Int.reduceBNe, Int.reduceLT, Int.reduceLE, Int.reduceAdd, Int.reduceToNat, F]
      | simp (disch := omega) only [decide_eq_true_eq, if_pos, if_neg, wrap_id, le_maxLen, and_true, true_and, if_true, ite_true]
      | refine wGdx (fun hb => ?_) fun hb => ?_
    exact nextL 2 (by omega) (by omega) (by simp [updV, tmL]; try decide) (by simp [updH, hpL, c4]) (by omega)
  · skip
    have F := And.intro @c4.eq_1 (And.intro e0 (And.intro e1 (And.intro e2 (And.intro e3 (And.intro e4 (And.intro @Nat.lt_irrefl (And.intro @Int.zero_add @Nat.zero_add)))))))
    repeat' first
      | refine wSq fun _ hK => ?_
      | refine wRg ?_
      | refine wDr ?_
      | refine VWP_block ?_
      | refine VWP_skip ?_
      | refine VWP_exit ?_
      | refine VWP_ret ?_
      | (refine hK _ ?_; clear hK)
      | (clear hK; refine hK _ ?_; clear hK)
      | (clear hK; clear hK; refine hK _ ?_; clear hK)
      | (clear hK; clear hK; clear hK; refine hK _ ?_; clear hK)
      | (simp only [wHb, reduceCtorEq] at hb <;> try (exfalso; omega))
      | refine wCdx (fun hb => ?_) fun hb => ?_
      | simp only [go_sem, Nat.reduceLT, Nat.reduceLeDiff, Nat.reduceEqDiff, Nat.reduceAdd, Nat.reduceMul, Nat.reduceSub, reduceCtorEq, Int.reduceBEq, Int.reduceBNe, Int.reduceLT, Int.reduceLE, Int.reduceAdd, Int.reduceToNat, F]
      | simp (disch := omega) only [decide_eq_true_eq, if_pos, if_neg, wrap_id, le_maxLen, and_true, true_and, if_true, ite_true]
      | refine wGdx (fun hb => ?_) fun hb => ?_
    exact nextL 3 (by omega) (by omega) (by simp [updV, tmL]; try decide) (by simp [updH, hpL, c4]) (by omega)
  · skip
    have F := And.intro @c4.eq_1 (And.intro e0 (And.intro e1 (And.intro e2 (And.intro e3 (And.intro e4 (And.intro @Nat.lt_irrefl (And.intro @Int.zero_add @Nat.zero_add)))))))
    repeat' first
      | refine wSq fun _ hK => ?_
      | refine wRg ?_
      | refine wDr ?_
      | refine VWP_block ?_
      | refine VWP_skip ?_
      | refine VWP_exit ?_
      | refine VWP_ret ?_
      | (refine hK _ ?_; clear hK)
      | (clear hK; refine hK _ ?_; clear hK)
      | (clear hK; clear hK; refine hK _ ?_; clear hK)
      | (clear hK; clear hK; clear hK; refine hK _ ?_; clear hK)
      | (simp only [wHb, reduceCtorEq] at hb <;> try (exfalso; omega))
      | refine wCdx (fun hb => ?_) fun hb => ?_
      | simp only [go_sem, Nat.reduceLT, Nat.reduceLeDiff, Nat.reduceEqDiff, Nat.reduceAdd, Nat.reduceMul, Nat.reduceSub, reduceCtorEq, Int.reduceBEq, Int.reduceBNe, Int.reduceLT, Int.reduceLE, Int.reduceAdd, Int.reduceToNat, F]
      | simp (disch := omega) only [decide_eq_true_eq, if_pos, if_neg, wrap_id, le_maxLen, and_true, true_and, if_true, ite_true]
      | refine wGdx (fun hb => ?_) fun hb => ?_
    exact nextL 4 (by omega) (by omega) (by simp [updV, tmL]; try decide) (by simp [updH, hpL, c4]) (by omega)
  · skip
    have F := And.intro @c4.eq_1 (And.intro e0 (And.intro e1 (And.intro e2 (And.intro e3 (And.intro e4 (And.intro @Nat.lt_irrefl (And.intro @Int.zero_add @Nat.zero_add)))))))
    repeat' first
      | refine wSq fun _ hK => ?_
      | refine wRg ?_
      | refine wDr ?_
      | refine VWP_block ?_
      | refine VWP_skip ?_
      | refine VWP_exit ?_
      | refine VWP_ret ?_
      | (refine hK _ ?_; clear hK)
      | (clear hK; refine hK _ ?_; clear hK)
      | (clear hK; clear hK; refine hK _ ?_; clear hK)
      | (clear hK; clear hK; clear hK; refine hK _ ?_; clear hK)
      | (simp only [wHb, reduceCtorEq] at hb <;> try (exfalso; omega))
      | refine wCdx (fun hb => ?_) fun hb => ?_
      | simp only [go_sem, Nat.reduceLT, Nat.reduceLeDiff, Nat.reduceEqDiff, Nat.reduceAdd, Nat.reduceMul, Nat.reduceSub, reduceCtorEq, Int.reduceBEq, Int.reduceBNe, Int.reduceLT, Int.reduceLE, Int.reduceAdd, Int.reduceToNat, F]
      | simp (disch := omega) only [decide_eq_true_eq, if_pos, if_neg, wrap_id, le_maxLen, and_true, true_and, if_true, ite_true]
      | refine wGdx (fun hb => ?_) fun hb => ?_
    refine ret_mk (vs := _) (acc := _) (by simp only [go_sem, Nat.reduceLT, Nat.reduceLeDiff, Nat.reduceEqDiff, Nat.reduceAdd, Nat.reduceMul, Nat.reduceSub, reduceCtorEq, vres]; rfl) (by simp only [go_sem, Nat.reduceLT, Nat.reduceLeDiff, Nat.reduceEqDiff, Nat.reduceAdd, Nat.reduceMul, Nat.reduceSub, reduceCtorEq, wrap, exV, exA, exCs, exC]; rfl) (by simp) (by simp) (by simp)
theorem eqIntA4_ok (a b c d a' b' c' d' : Int) : SatP Try.prog 108 [.agg [.int .i64 a, .int .i64 b, .int .i64 c, .int .i64 d], .agg [.int .i64 a', .int .i64 b', .int .i64 c', .int .i64 d']] (.bool (decide (a = a' ∧ b = b' ∧ c = c' ∧ d = d'))) [] := by
  refine satP_of_body hT Try.func108 (by kernel_rfl) rfl (rs := [.tmp 4]) rfl (n := 17) rfl (by simp) rfl (by simp) fun E hE => ?_
  unfold St.init
  have F := (Eq.refl 0)
  repeat' first
    | refine wSq fun _ hK => ?_
    | refine wRg ?_
    | refine wDr ?_
    | refine VWP_block ?_
    | refine VWP_skip ?_
    | refine VWP_exit ?_
    | refine VWP_ret ?_
    | (refine hK _ ?_; clear hK)
    | (clear hK; refine hK _ ?_; clear hK)
    | (clear hK; clear hK; refine hK _ ?_; clear hK)
    | (clear hK; clear hK; clear hK; refine hK _ ?_; clear hK)
    | (simp only [wHb, reduceCtorEq] at hb <;> try (exfalso; omega))
    | refine wCd (fun hb => ?_) fun hb => ?_
    | simp only [go_sem, Nat.reduceLT, Nat.reduceLeDiff, Nat.reduceEqDiff, Nat.reduceAdd, Nat.reduceMul, Nat.reduceSub, reduceCtorEq, F]
    | simp (disch := omega) only [decide_eq_true_eq, if_pos, if_neg, wrap_id, le_maxLen, and_true, true_and, if_true, ite_true]
    | refine wGd (fun hb => ?_) fun hb => ?_
  refine VWP_loopL (X := Nat) (fun i => [(2, .bp 0 0), (3, .bp 1 0), (5, .int .i64 i)]) (fun i => [(0, .box [.int .i64 a, .int .i64 b, .int .i64 c, .int .i64 d]), (1, .box [.int .i64 a', .int .i64 b', .int .i64 c', .int .i64 d'])]) (fun i => 4 - i)
    (fun i => i ≤ 4 ∧ (0 < i → a = a') ∧ (1 < i → b = b') ∧ (2 < i → c = c') ∧ (3 < i → d = d')) 2 0 (by simp) (by simp [updV]) (by simp [updH]) (by simp) ?_
  rintro i nx ⟨hi, ha, hb1, hc, hd⟩ hB
  have h5 : i = 0 ∨ i = 1 ∨ i = 2 ∨ i = 3 ∨ i = 4 := by omega
  have e0 : ((0 : Nat) : Int) = 0 := rfl
  have e1 : ((1 : Nat) : Int) = 1 := rfl
  have e2 : ((2 : Nat) : Int) = 2 := rfl
  have e3 : ((3 : Nat) : Int) = 3 := rfl
  have e4 : ((4 : Nat) : Int) = 4 := rfl
  rcases h5 with rfl | rfl | rfl | rfl | rfl
  · skip
    have F := And.intro e0 (And.intro e1 (And.intro e2 (And.intro e3 (And.intro e4 (And.intro @Nat.lt_irrefl (And.intro @Int.zero_add @Nat.zero_add))))))
    repeat' first
      | refine wSq fun _ hK => ?_
      | refine wRg ?_
      | refine wDr ?_
      | refine VWP_block ?_
      | refine VWP_skip ?_
      | refine VWP_exit ?_
      | refine VWP_ret ?_
      | (refine hK _ ?_; clear hK)
      | (clear hK; refine hK _ ?_; clear hK)
      | (clear hK; clear hK; refine hK _ ?_; clear hK)
      | (clear hK; clear hK; clear hK; refine hK _ ?_; clear hK)
      | (simp only [wHb, reduceCtorEq] at hb <;> try (exfalso; omega))
      | refine wCdx (fun hb => ?_) fun hb => ?_
      | simp only [go_sem, Nat.reduceLT, Nat.reduceLeDiff, Nat.reduceEqDiff, Nat.reduceAdd, Nat.reduceMul, Nat.reduceSub, reduceCtorEq, Int.reduceBEq, Int.reduceBNe, Int.reduceLT, Int.reduceLE, Int.reduceAdd, Int.reduceToNat, F]
      | simp (disch := omega) only [decide_eq_true_eq, if_pos, if_neg, wrap_id, le_maxLen, and_true, true_and, if_true, ite_true]
      | refine wGdx (fun hb => ?_) fun hb => ?_
    · refine wLf ?_
      simp_all
    · exact nextL 1 ⟨by omega, by simp_all, by simp_all, by simp_all, by simp_all⟩ (by omega) (by simp [updV, tmL]; try decide) (by simp [updH, hpL]; try omega) (by omega)
  · skip
    have F := And.intro e0 (And.intro e1 (And.intro e2 (And.intro e3 (And.intro e4 (And.intro @Nat.lt_irrefl (And.intro @Int.zero_add @Nat.zero_add))))))
    repeat' first
      | refine wSq fun _ hK => ?_
      | refine wRg ?_
      | refine wDr ?_
      | refine VWP_block ?_
      | refine VWP_skip ?_
      | refine VWP_exit ?_
      | refine VWP_ret ?_
      | (refine hK _ ?_; clear hK)
      | (clear hK; refine hK _ ?_; clear hK)
      | (clear hK; clear hK; refine hK _ ?_; clear hK)
      | (clear hK; clear hK; clear hK; refine hK _ ?_; clear hK)
      | (simp only [wHb, reduceCtorEq] at hb <;> try (exfalso; omega))
      | refine wCdx (fun hb => ?_) fun hb => ?_
      | simp only [go_sem, Nat.reduceLT, Nat.reduceLeDiff, Nat.reduceEqDiff, Nat.reduceAdd, Nat.reduceMul, Nat.reduceSub, reduceCtorEq, Int.reduceBEq, Int.reduceBNe, Int.reduceLT, Int.reduceLE, Int.reduceAdd, Int.reduceToNat, F]
      | simp (disch := omega) only [decide_eq_true_eq, if_pos, if_neg, wrap_id, le_maxLen, and_true, true_and, if_true, ite_true]
      | refine wGdx (fun hb => ?_) fun hb => ?_
    · refine wLf ?_
      simp_all
    · exact nextL 2 ⟨by omega, by simp_all, by simp_all, by simp_all, by simp_all⟩ (by omega) (by simp [updV, tmL]; try decide) (by simp [updH, hpL]; try omega) (by omega)
  · skip
    have F := And.intro e0 (And.intro e1 (And.intro e2 (And.intro e3 (And.intro e4 (And.intro @Nat.lt_irrefl (And.intro @Int.zero_add @Nat.zero_add))))))
    repeat' first
      | refine wSq fun _ hK => ?_
      | refine wRg ?_
      | refine wDr ?_
      | refine VWP_block ?_
      | refine VWP_skip ?_
      | refine VWP_exit ?_
      | refine VWP_ret ?_
      | (refine hK _ ?_; clear hK)
      | (clear hK; refine hK _ ?_; clear hK)
      | (clear hK; clear hK; refine hK _ ?_; clear hK)
      | (clear hK; clear hK; clear hK; refine hK _ ?_; clear hK)
      | (simp only [wHb, reduceCtorEq] at hb <;> try (exfalso; omega))
      | refine wCdx (fun hb => ?_) fun hb => ?_
      | simp only [go_sem, Nat.reduceLT, Nat.reduceLeDiff, Nat.reduceEqDiff, Nat.reduceAdd, Nat.reduceMul, Nat.reduceSub, reduceCtorEq, Int.reduceBEq, Int.reduceBNe, Int.reduceLT, Int.reduceLE, Int.reduceAdd, Int.reduceToNat, F]
      | simp (disch := omega) only [decide_eq_true_eq, if_pos, if_neg, wrap_id, le_maxLen, and_true, true_and, if_true, ite_true]
      | refine wGdx (fun hb => ?_) fun hb => ?_
    · refine wLf ?_
      simp_all
    · exact nextL 3 ⟨by omega, by simp_all, by simp_all, by simp_all, by simp_all⟩ (by omega) (by simp [updV, tmL]; try decide) (by simp [updH, hpL]; try omega) (by omega)
  · skip
    have F := And.intro e0 (And.intro e1 (And.intro e2 (And.intro e3 (And.intro e4 (And.intro @Nat.lt_irrefl (And.intro @Int.zero_add @Nat.zero_add))))))
    repeat' first
      | refine wSq fun _ hK => ?_
      | refine wRg ?_
      | refine wDr ?_
      | refine VWP_block ?_
      | refine VWP_skip ?_
      | refine VWP_exit ?_
      | refine VWP_ret ?_
      | (refine hK _ ?_; clear hK)
      | (clear hK; refine hK _ ?_; clear hK)
      | (clear hK; clear hK; refine hK _ ?_; clear hK)
      | (clear hK; clear hK; clear hK; refine hK _ ?_; clear hK)
      | (simp only [wHb, reduceCtorEq] at hb <;> try (exfalso; omega))
      | refine wCdx (fun hb => ?_) fun hb => ?_
      | simp only [go_sem, Nat.reduceLT, Nat.reduceLeDiff, Nat.reduceEqDiff, Nat.reduceAdd, Nat.reduceMul, Nat.reduceSub, reduceCtorEq, Int.reduceBEq, Int.reduceBNe, Int.reduceLT, Int.reduceLE, Int.reduceAdd, Int.reduceToNat, F]
      | simp (disch := omega) only [decide_eq_true_eq, if_pos, if_neg, wrap_id, le_maxLen, and_true, true_and, if_true, ite_true]
      | refine wGdx (fun hb => ?_) fun hb => ?_
    · refine wLf ?_
      simp_all
    · exact nextL 4 ⟨by omega, by simp_all, by simp_all, by simp_all, by simp_all⟩ (by omega) (by simp [updV, tmL]; try decide) (by simp [updH, hpL]; try omega) (by omega)
  · skip
    have F := And.intro e0 (And.intro e1 (And.intro e2 (And.intro e3 (And.intro e4 (And.intro @Nat.lt_irrefl (And.intro @Int.zero_add @Nat.zero_add))))))
    repeat' first
      | refine wSq fun _ hK => ?_
      | refine wRg ?_
      | refine wDr ?_
      | refine VWP_block ?_
      | refine VWP_skip ?_
      | refine VWP_exit ?_
      | refine VWP_ret ?_
      | (refine hK _ ?_; clear hK)
      | (clear hK; refine hK _ ?_; clear hK)
      | (clear hK; clear hK; refine hK _ ?_; clear hK)
      | (clear hK; clear hK; clear hK; refine hK _ ?_; clear hK)
      | (simp only [wHb, reduceCtorEq] at hb <;> try (exfalso; omega))
      | refine wCdx (fun hb => ?_) fun hb => ?_
      | simp only [go_sem, Nat.reduceLT, Nat.reduceLeDiff, Nat.reduceEqDiff, Nat.reduceAdd, Nat.reduceMul, Nat.reduceSub, reduceCtorEq, Int.reduceBEq, Int.reduceBNe, Int.reduceLT, Int.reduceLE, Int.reduceAdd, Int.reduceToNat, F]
      | simp (disch := omega) only [decide_eq_true_eq, if_pos, if_neg, wrap_id, le_maxLen, and_true, true_and, if_true, ite_true]
      | refine wGdx (fun hb => ?_) fun hb => ?_
    refine wLf ?_
    simp_all
structure ThreadD where
  id : Int
  prog : List InsS
  pc : Int
  r0 : Int
  r1 : Int
  r2 : Int
  r3 : Int
  opens : List EntS
  check : Int
  stack : List FrameD
  mine : Int
  state : Int
  commits : Int
  fails : Int
  deriving DecidableEq
def ThreadD.cells (ti te tf : TypeId) (t : ThreadD) : List VV := [.int .i64 t.id, .fr ti (rowsI t.prog), .int .i64 t.pc, .int .i64 t.r0, .int .i64 t.r1, .int .i64 t.r2, .int .i64 t.r3, .fr te (rowsE t.opens), .int .i64 t.check, .fr tf (rowsF t.stack), .int .i64 t.mine, .int .i64 t.state, .int .i64 t.commits, .int .i64 t.fails]
def szT (t : ThreadD) (left : Int) : Int := if szB t.prog.length left < 0 then -1 else if szB t.opens.length (szB t.prog.length left) < 0 then -1 else szB t.stack.length (szB t.opens.length (szB t.prog.length left))
theorem szT_fits (t : ThreadD) (left : Int) : (0 ≤ szT t left → t.prog.length + t.opens.length + t.stack.length ≤ left ∧ szT t left = left - t.prog.length - t.opens.length - t.stack.length) ∧ (szT t left < 0 → szT t left = -1) := by
  unfold szT szB
  repeat' split
  all_goals omega
theorem szB_neg {n left : Int} (h : szB n left < 0) : szB n left = -1 := by
  unfold szB at *
  split
  · rfl
  · rename_i h2
    rw [if_neg h2] at h
    omega
theorem szThread_ok (t : ThreadD) (left : Int) (h0 : 0 ≤ left) (h1 : left ≤ 1048576) (hp : t.prog.length ≤ 9223372036854775807) (ho : t.opens.length ≤ 9223372036854775807) (hs : t.stack.length ≤ 9223372036854775807) :
    SatP Try.prog 44 [.agg (t.cells 184 174 68), .int .i64 left] (.int .i64 (szT t left)) [] := by
  have k1 := szB_le (n := t.prog.length) (left := left) (by omega) h1
  have k2 := szB_le (n := t.opens.length) (left := szB t.prog.length left) (by omega) (by omega)
  refine satP_of_body hT Try.func44 (by kernel_rfl) rfl (rs := [.tmp 4]) rfl (n := 24) rfl (by simp) rfl (by simp) fun E hE => ?_
  unfold St.init
  unfold ThreadD.cells
  have F := (Eq.refl 0)
  repeat' first
    | refine wSq fun _ hK => ?_
    | refine wRg ?_
    | refine wDr ?_
    | refine VWP_block ?_
    | refine VWP_skip ?_
    | refine VWP_exit ?_
    | refine VWP_ret ?_
    | (refine hK _ ?_; clear hK)
    | (clear hK; refine hK _ ?_; clear hK)
    | (clear hK; clear hK; refine hK _ ?_; clear hK)
    | (clear hK; clear hK; clear hK; refine hK _ ?_; clear hK)
    | (simp only [wHb, reduceCtorEq] at hb <;> try (exfalso; omega))
    | refine wCd (fun hb => ?_) fun hb => ?_
    | refine wCa (c := by first | exact szInstrS_ok t.prog left h0 h1 hp | exact szEntryS_ok t.opens _ (by omega) (by omega) ho | exact szFrameS_ok t.stack _ (by omega) (by omega) hs) (k := ?_)
    | simp only [go_sem, Nat.reduceLT, Nat.reduceLeDiff, Nat.reduceEqDiff, Nat.reduceAdd, Nat.reduceMul, Nat.reduceSub, reduceCtorEq, F]
    | simp (disch := omega) only [decide_eq_true_eq, if_pos, if_neg, wrap_id, le_maxLen, and_true, true_and, if_true, ite_true]
    | refine wGd (fun hb => ?_) fun hb => ?_
  all_goals refine wLf ?_
  · rw [szT, if_pos (by assumption)]
  · rw [szT, if_neg (by assumption), if_pos (by assumption)]
  · rw [szT, if_neg (by assumption), if_neg (by assumption)]
    rw [szB_neg (by omega)]
  · rw [szT, if_neg (by assumption), if_neg (by assumption)]
theorem toThread_ok (t : ThreadD) (hp : t.prog.length ≤ 1048576) (ho : t.opens.length ≤ 1048576) (hs : t.stack.length ≤ 1048576) :
    SatP Try.prog 46 [.agg (t.cells 184 174 68)]
      (.agg [.int .i64 t.id, .rf 0 t.prog.length, .int .i64 t.pc, .int .i64 t.r0, .int .i64 t.r1, .int .i64 t.r2, .int .i64 t.r3, .rf 1 t.opens.length, .int .i64 t.check, .rf 2 t.stack.length, .int .i64 t.mine, .int .i64 t.state, .int .i64 t.commits, .int .i64 t.fails])
      [(146, rowsI t.prog), (131, rowsE t.opens), (69, rowsF t.stack)] := by
  refine satP_of_body hT Try.func46 (by kernel_rfl) rfl (rs := [.cell 2 83]) rfl (n := 42) rfl (by simp) rfl (by simp [rowsI_pur, rowsE_pur, rowsF_pur]) fun E hE => ?_
  unfold St.init
  unfold ThreadD.cells
  have F := (Eq.refl 0)
  repeat' first
    | refine wSq fun _ hK => ?_
    | refine wRg ?_
    | refine wDr ?_
    | refine VWP_block ?_
    | refine VWP_skip ?_
    | refine VWP_exit ?_
    | refine VWP_ret ?_
    | (refine hK _ ?_; clear hK)
    | (clear hK; refine hK _ ?_; clear hK)
    | (clear hK; clear hK; refine hK _ ?_; clear hK)
    | (clear hK; clear hK; clear hK; refine hK _ ?_; clear hK)
    | (simp only [wHb, reduceCtorEq] at hb <;> try (exfalso; omega))
    | refine wCd (fun hb => ?_) fun hb => ?_
    | refine wCa (c := by first | exact toInstrS_ok t.prog hp | exact toEntryS_ok t.opens ho | exact toFrameS_ok t.stack hs | exact toIntA4_ok t.r0 t.r1 t.r2 t.r3) (k := ?_)
    | simp only [go_sem, Nat.reduceLT, Nat.reduceLeDiff, Nat.reduceEqDiff, Nat.reduceAdd, Nat.reduceMul, Nat.reduceSub, reduceCtorEq, F]
    | simp (disch := omega) only [decide_eq_true_eq, if_pos, if_neg, wrap_id, le_maxLen, and_true, true_and, if_true, ite_true]
    | refine wGd (fun hb => ?_) fun hb => ?_
  refine ret_mk (vs := _) (acc := _) (by simp only [go_sem, Nat.reduceLT, Nat.reduceLeDiff, Nat.reduceEqDiff, Nat.reduceAdd, Nat.reduceMul, Nat.reduceSub, reduceCtorEq, vres]; rfl) (by simp only [go_sem, Nat.reduceLT, Nat.reduceLeDiff, Nat.reduceEqDiff, Nat.reduceAdd, Nat.reduceMul, Nat.reduceSub, reduceCtorEq, wrap, exV, exA, exCs, exC, rowsI_len, rowsE_len, rowsF_len, Nat.le_refl]; rfl) (by simp) (by simp [List.take_of_length_le, rowsI_len, rowsE_len, rowsF_len]) (by simp [rowsI_pur, rowsE_pur, rowsF_pur])
theorem eqThread_ok (a b : ThreadD) (hp : a.prog.length ≤ 1048576) (ho : a.opens.length ≤ 1048576) (hs : a.stack.length ≤ 1048576) :
    SatP Try.prog 48 [.agg (a.cells 146 131 69), .agg (b.cells 146 131 69)] (.bool (decide (a = b))) [] := by
  refine satP_of_body hT Try.func48 (by kernel_rfl) rfl (rs := [.tmp 4]) rfl (n := 64) rfl (by simp) rfl (by simp) fun E hE => ?_
  unfold St.init
  unfold ThreadD.cells
  have F := (Eq.refl 0)
  repeat' first
    | refine wSq fun _ hK => ?_
    | refine wRg ?_
    | refine wDr ?_
    | refine VWP_block ?_
    | refine VWP_skip ?_
    | refine VWP_exit ?_
    | refine VWP_ret ?_
    | (refine hK _ ?_; clear hK)
    | (clear hK; refine hK _ ?_; clear hK)
    | (clear hK; clear hK; refine hK _ ?_; clear hK)
    | (clear hK; clear hK; clear hK; refine hK _ ?_; clear hK)
    | (simp only [wHb, reduceCtorEq] at hb <;> try (exfalso; omega))
    | refine wCd (fun hb => ?_) fun hb => ?_
    | refine wCa (c := by first | exact eqInstrS_ok a.prog b.prog hp | exact eqEntryS_ok a.opens b.opens ho | exact eqFrameS_ok a.stack b.stack (by omega) | exact eqIntA4_ok _ _ _ _ _ _ _ _) (k := ?_)
    | simp only [go_sem, Nat.reduceLT, Nat.reduceLeDiff, Nat.reduceEqDiff, Nat.reduceAdd, Nat.reduceMul, Nat.reduceSub, reduceCtorEq, F]
    | simp (disch := omega) only [decide_eq_true_eq, if_pos, if_neg, wrap_id, le_maxLen, and_true, true_and, if_true, ite_true]
    | refine wGd (fun hb => ?_) fun hb => ?_
  all_goals refine wLf ?_
  all_goals (cases a; cases b; simp_all)
end Go.Proofs.Ytclljpdcpcolpaa
