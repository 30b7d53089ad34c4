/- What the small functions of entries give. -/
import Derived.Test.YtchkbgekmoileaaEc
namespace Go.Proofs.Ytchkbgekmoileaa
open Go Go.RowKit
set_option linter.unusedVariables false
set_option linter.unusedSimpArgs false
set_option maxRecDepth 100000
set_option maxHeartbeats 4000000
attribute [local irreducible] VWP vops vdraw contV contD CallK Guard GuardV NextL Puts Runs RetOK RetQ RetO RetQO thenQ blockQ

def inB (n lo hi : Int) : Bool := decide (lo ≤ n) && decide (n ≤ hi)
structure EntS where
  object : Int
  version : Int
  old : Int
  new : Int
  write : Bool
  deriving DecidableEq
def EntS.enc (e : EntS) : List PT := [.int .i64 e.object, .int .i64 e.version, .int .i64 e.old, .int .i64 e.new, .bool e.write]
def EntS.cells (e : EntS) : List VV := [.int .i64 e.object, .int .i64 e.version, .int .i64 e.old, .int .i64 e.new, .bool e.write]
def EntS.ok (e : EntS) : Bool := inB e.object 0 7 && inB e.version 0 1000000 && inB e.old (-1000000000) 1000000000 && inB e.new (-1000000000) 1000000000 && (e.write || e.new == e.old)
theorem EntS.pur (es : List EntS) : PurRows (es.map EntS.enc) := by
  intro r hr c hc
  obtain ⟨e, _, rfl⟩ := List.mem_map.1 hr
  simp only [EntS.enc, List.mem_cons, List.not_mem_nil, or_false] at hc
  rcases hc with rfl | rfl | rfl | rfl | rfl <;> constructor

theorem in_ok (n lo hi : Int) : SatP Try.prog 42 [.int .i64 n, .int .i64 lo, .int .i64 hi] (.bool (inB n lo hi)) [] := by
  refine satP_of_body hT Try.func42 (by kernel_rfl) rfl (rs := [.tmp 6]) rfl (n := 15) rfl (by simp) rfl (by simp) fun E hE => ?_
  unfold St.init
  have F := (Eq.refl 0)
  repeat' first
    | refine wSq fun _ hK => ?_
    | refine wRg ?_
    | refine wDr ?_
    | refine VWP_block ?_
    | refine VWP_skip ?_
    | refine VWP_exit ?_
    | refine VWP_ret ?_
    | (refine hK _ ?_; clear hK)
    | (clear hK; refine hK _ ?_; clear hK)
    | (clear hK; clear hK; refine hK _ ?_; clear hK)
    | (clear hK; clear hK; clear hK; refine hK _ ?_; clear hK)
    | (simp only [wHb, reduceCtorEq] at hb <;> try (exfalso; omega))
    | refine wCd (fun hb => ?_) fun hb => ?_
    | simp only [go_sem, Nat.reduceLT, Nat.reduceLeDiff, Nat.reduceEqDiff, Nat.reduceAdd, Nat.reduceMul, Nat.reduceSub, reduceCtorEq, F]
    | simp (disch := omega) only [decide_eq_true_eq, if_pos, if_neg, wrap_id, le_maxLen, and_true, true_and, if_true, ite_true]
    | refine wGd (fun hb => ?_) fun hb => ?_
  all_goals refine wLf ?_
  all_goals simp_all [inB]
  all_goals omega
theorem l1In_ok (n lo hi : Int) : SatP Try.prog 70 [.int .i64 n, .int .i64 lo, .int .i64 hi] (.bool (inB n lo hi)) [] := by
  refine satP_of_body hT Try.func70 (by kernel_rfl) rfl (rs := [.tmp 6]) rfl (n := 15) rfl (by simp) rfl (by simp) fun E hE => ?_
  unfold St.init
  have F := (Eq.refl 0)
  repeat' first
    | refine wSq fun _ hK => ?_
    | refine wRg ?_
    | refine wDr ?_
    | refine VWP_block ?_
    | refine VWP_skip ?_
    | refine VWP_exit ?_
    | refine VWP_ret ?_
    | (refine hK _ ?_; clear hK)
    | (clear hK; refine hK _ ?_; clear hK)
    | (clear hK; clear hK; refine hK _ ?_; clear hK)
    | (clear hK; clear hK; clear hK; refine hK _ ?_; clear hK)
    | (simp only [wHb, reduceCtorEq] at hb <;> try (exfalso; omega))
    | refine wCd (fun hb => ?_) fun hb => ?_
    | simp only [go_sem, Nat.reduceLT, Nat.reduceLeDiff, Nat.reduceEqDiff, Nat.reduceAdd, Nat.reduceMul, Nat.reduceSub, reduceCtorEq, F]
    | simp (disch := omega) only [decide_eq_true_eq, if_pos, if_neg, wrap_id, le_maxLen, and_true, true_and, if_true, ite_true]
    | refine wGd (fun hb => ?_) fun hb => ?_
  all_goals refine wLf ?_
  all_goals simp_all [inB]
  all_goals omega
theorem isThread_ok (n : Int) : SatP Try.prog 34 [.int .i64 n] (.bool (inB n 0 3)) [] := by
  refine satP_of_body hT Try.func34 (by kernel_rfl) rfl (rs := [.tmp 2]) rfl (n := 5) rfl (by simp) rfl (by simp) fun E hE => ?_
  unfold St.init
  have F := (Eq.refl 0)
  repeat' first
    | refine wSq fun _ hK => ?_
    | refine wRg ?_
    | refine wDr ?_
    | refine VWP_block ?_
    | refine VWP_skip ?_
    | refine VWP_exit ?_
    | refine VWP_ret ?_
    | (refine hK _ ?_; clear hK)
    | (clear hK; refine hK _ ?_; clear hK)
    | (clear hK; clear hK; refine hK _ ?_; clear hK)
    | (clear hK; clear hK; clear hK; refine hK _ ?_; clear hK)
    | (simp only [wHb, reduceCtorEq] at hb <;> try (exfalso; omega))
    | refine wCd (fun hb => ?_) fun hb => ?_
    | refine wCa (c := by first | exact in_ok _ _ _) (k := ?_)
    | simp only [go_sem, Nat.reduceLT, Nat.reduceLeDiff, Nat.reduceEqDiff, Nat.reduceAdd, Nat.reduceMul, Nat.reduceSub, reduceCtorEq, F]
    | simp (disch := omega) only [decide_eq_true_eq, if_pos, if_neg, wrap_id, le_maxLen, and_true, true_and, if_true, ite_true]
    | refine wGd (fun hb => ?_) fun hb => ?_
  all_goals refine wLf ?_
  all_goals rfl
theorem isObject_ok (n : Int) : SatP Try.prog 59 [.int .i64 n] (.bool (inB n 0 7)) [] := by
  refine satP_of_body hT Try.func59 (by kernel_rfl) rfl (rs := [.tmp 2]) rfl (n := 5) rfl (by simp) rfl (by simp) fun E hE => ?_
  unfold St.init
  have F := (Eq.refl 0)
  repeat' first
    | refine wSq fun _ hK => ?_
    | refine wRg ?_
    | refine wDr ?_
    | refine VWP_block ?_
    | refine VWP_skip ?_
    | refine VWP_exit ?_
    | refine VWP_ret ?_
    | (refine hK _ ?_; clear hK)
    | (clear hK; refine hK _ ?_; clear hK)
    | (clear hK; clear hK; refine hK _ ?_; clear hK)
    | (clear hK; clear hK; clear hK; refine hK _ ?_; clear hK)
    | (simp only [wHb, reduceCtorEq] at hb <;> try (exfalso; omega))
    | refine wCd (fun hb => ?_) fun hb => ?_
    | refine wCa (c := by first | exact in_ok _ _ _) (k := ?_)
    | simp only [go_sem, Nat.reduceLT, Nat.reduceLeDiff, Nat.reduceEqDiff, Nat.reduceAdd, Nat.reduceMul, Nat.reduceSub, reduceCtorEq, F]
    | simp (disch := omega) only [decide_eq_true_eq, if_pos, if_neg, wrap_id, le_maxLen, and_true, true_and, if_true, ite_true]
    | refine wGd (fun hb => ?_) fun hb => ?_
  all_goals refine wLf ?_
  all_goals rfl
theorem isVersion_ok (n : Int) : SatP Try.prog 58 [.int .i64 n] (.bool (inB n 0 1000000)) [] := by
  refine satP_of_body hT Try.func58 (by kernel_rfl) rfl (rs := [.tmp 2]) rfl (n := 5) rfl (by simp) rfl (by simp) fun E hE => ?_
  unfold St.init
  have F := (Eq.refl 0)
  repeat' first
    | refine wSq fun _ hK => ?_
    | refine wRg ?_
    | refine wDr ?_
    | refine VWP_block ?_
    | refine VWP_skip ?_
    | refine VWP_exit ?_
    | refine VWP_ret ?_
    | (refine hK _ ?_; clear hK)
    | (clear hK; refine hK _ ?_; clear hK)
    | (clear hK; clear hK; refine hK _ ?_; clear hK)
    | (clear hK; clear hK; clear hK; refine hK _ ?_; clear hK)
    | (simp only [wHb, reduceCtorEq] at hb <;> try (exfalso; omega))
    | refine wCd (fun hb => ?_) fun hb => ?_
    | refine wCa (c := by first | exact in_ok _ _ _) (k := ?_)
    | simp only [go_sem, Nat.reduceLT, Nat.reduceLeDiff, Nat.reduceEqDiff, Nat.reduceAdd, Nat.reduceMul, Nat.reduceSub, reduceCtorEq, F]
    | simp (disch := omega) only [decide_eq_true_eq, if_pos, if_neg, wrap_id, le_maxLen, and_true, true_and, if_true, ite_true]
    | refine wGd (fun hb => ?_) fun hb => ?_
  all_goals refine wLf ?_
  all_goals rfl
theorem isValue_ok (n : Int) : SatP Try.prog 33 [.int .i64 n] (.bool (inB n (-1000000000) 1000000000)) [] := by
  refine satP_of_body hT Try.func33 (by kernel_rfl) rfl (rs := [.tmp 2]) rfl (n := 5) rfl (by simp) rfl (by simp) fun E hE => ?_
  unfold St.init
  have F := (Eq.refl 0)
  repeat' first
    | refine wSq fun _ hK => ?_
    | refine wRg ?_
    | refine wDr ?_
    | refine VWP_block ?_
    | refine VWP_skip ?_
    | refine VWP_exit ?_
    | refine VWP_ret ?_
    | (refine hK _ ?_; clear hK)
    | (clear hK; refine hK _ ?_; clear hK)
    | (clear hK; clear hK; refine hK _ ?_; clear hK)
    | (clear hK; clear hK; clear hK; refine hK _ ?_; clear hK)
    | (simp only [wHb, reduceCtorEq] at hb <;> try (exfalso; omega))
    | refine wCd (fun hb => ?_) fun hb => ?_
    | refine wCa (c := by first | exact in_ok _ _ _) (k := ?_)
    | simp only [go_sem, Nat.reduceLT, Nat.reduceLeDiff, Nat.reduceEqDiff, Nat.reduceAdd, Nat.reduceMul, Nat.reduceSub, reduceCtorEq, F]
    | simp (disch := omega) only [decide_eq_true_eq, if_pos, if_neg, wrap_id, le_maxLen, and_true, true_and, if_true, ite_true]
    | refine wGd (fun hb => ?_) fun hb => ?_
  all_goals refine wLf ?_
  all_goals rfl
theorem l1Value_ok (n : Int) : SatP Try.prog 85 [.int .i64 n] (.bool (inB n (-1000000000) 1000000000)) [] := by
  refine satP_of_body hT Try.func85 (by kernel_rfl) rfl (rs := [.tmp 2]) rfl (n := 5) rfl (by simp) rfl (by simp) fun E hE => ?_
  unfold St.init
  have F := (Eq.refl 0)
  repeat' first
    | refine wSq fun _ hK => ?_
    | refine wRg ?_
    | refine wDr ?_
    | refine VWP_block ?_
    | refine VWP_skip ?_
    | refine VWP_exit ?_
    | refine VWP_ret ?_
    | (refine hK _ ?_; clear hK)
    | (clear hK; refine hK _ ?_; clear hK)
    | (clear hK; clear hK; refine hK _ ?_; clear hK)
    | (clear hK; clear hK; clear hK; refine hK _ ?_; clear hK)
    | (simp only [wHb, reduceCtorEq] at hb <;> try (exfalso; omega))
    | refine wCd (fun hb => ?_) fun hb => ?_
    | refine wCa (c := by first | exact l1In_ok _ _ _) (k := ?_)
    | simp only [go_sem, Nat.reduceLT, Nat.reduceLeDiff, Nat.reduceEqDiff, Nat.reduceAdd, Nat.reduceMul, Nat.reduceSub, reduceCtorEq, F]
    | simp (disch := omega) only [decide_eq_true_eq, if_pos, if_neg, wrap_id, le_maxLen, and_true, true_and, if_true, ite_true]
    | refine wGd (fun hb => ?_) fun hb => ?_
  all_goals refine wLf ?_
  all_goals rfl
theorem isEntry_ok (e : EntS) : SatP Try.prog 29 [.agg e.cells] (.bool e.ok) [] := by
  refine satP_of_body hT Try.func29 (by kernel_rfl) rfl (rs := [.tmp 2]) rfl (n := 32) rfl (by simp) rfl (by simp) fun E hE => ?_
  unfold St.init
  unfold EntS.cells
  have F := (Eq.refl 0)
  repeat' first
    | refine wSq fun _ hK => ?_
    | refine wRg ?_
    | refine wDr ?_
    | refine VWP_block ?_
    | refine VWP_skip ?_
    | refine VWP_exit ?_
    | refine VWP_ret ?_
    | (refine hK _ ?_; clear hK)
    | (clear hK; refine hK _ ?_; clear hK)
    | (clear hK; clear hK; refine hK _ ?_; clear hK)
    | (clear hK; clear hK; clear hK; refine hK _ ?_; clear hK)
    | (simp only [wHb, reduceCtorEq] at hb <;> try (exfalso; omega))
    | refine wCd (fun hb => ?_) fun hb => ?_
    | refine wCa (c := by first | exact isObject_ok _ | exact isVersion_ok _ | exact isValue_ok _) (k := ?_)
    | simp only [go_sem, Nat.reduceLT, Nat.reduceLeDiff, Nat.reduceEqDiff, Nat.reduceAdd, Nat.reduceMul, Nat.reduceSub, reduceCtorEq, F]
    | simp (disch := omega) only [decide_eq_true_eq, if_pos, if_neg, wrap_id, le_maxLen, and_true, true_and, if_true, ite_true]
    | refine wGd (fun hb => ?_) fun hb => ?_
  all_goals refine wLf ?_
  all_goals simp_all [EntS.ok]
theorem l6Entry_ok (e : EntS) : SatP Try.prog 82 [.agg e.cells] (.bool e.ok) [] := by
  refine satP_of_body hT Try.func82 (by kernel_rfl) rfl (rs := [.tmp 2]) rfl (n := 32) rfl (by simp) rfl (by simp) fun E hE => ?_
  unfold St.init
  unfold EntS.cells
  have F := (Eq.refl 0)
  repeat' first
    | refine wSq fun _ hK => ?_
    | refine wRg ?_
    | refine wDr ?_
    | refine VWP_block ?_
    | refine VWP_skip ?_
    | refine VWP_exit ?_
    | refine VWP_ret ?_
    | (refine hK _ ?_; clear hK)
    | (clear hK; refine hK _ ?_; clear hK)
    | (clear hK; clear hK; refine hK _ ?_; clear hK)
    | (clear hK; clear hK; clear hK; refine hK _ ?_; clear hK)
    | (simp only [wHb, reduceCtorEq] at hb <;> try (exfalso; omega))
    | refine wCd (fun hb => ?_) fun hb => ?_
    | refine wCa (c := by first | exact l1In_ok _ _ _ | exact l1Value_ok _) (k := ?_)
    | simp only [go_sem, Nat.reduceLT, Nat.reduceLeDiff, Nat.reduceEqDiff, Nat.reduceAdd, Nat.reduceMul, Nat.reduceSub, reduceCtorEq, F]
    | simp (disch := omega) only [decide_eq_true_eq, if_pos, if_neg, wrap_id, le_maxLen, and_true, true_and, if_true, ite_true]
    | refine wGd (fun hb => ?_) fun hb => ?_
  all_goals refine wLf ?_
  all_goals simp_all [EntS.ok]
theorem toEntry_ok (e : EntS) : SatP Try.prog 102 [.agg e.cells] (.agg e.cells) [] := by
  refine satP_of_body hT Try.func102 (by kernel_rfl) rfl (rs := [.cell 2 70]) rfl (n := 20) rfl (by simp) rfl (by simp) fun E hE => ?_
  unfold St.init
  unfold EntS.cells
  have F := (Eq.refl 0)
  repeat' first
    | refine wSq fun _ hK => ?_
    | refine wRg ?_
    | refine wDr ?_
    | refine VWP_block ?_
    | refine VWP_skip ?_
    | refine VWP_exit ?_
    | refine VWP_ret ?_
    | (refine hK _ ?_; clear hK)
    | (clear hK; refine hK _ ?_; clear hK)
    | (clear hK; clear hK; refine hK _ ?_; clear hK)
    | (clear hK; clear hK; clear hK; refine hK _ ?_; clear hK)
    | (simp only [wHb, reduceCtorEq] at hb <;> try (exfalso; omega))
    | refine wCd (fun hb => ?_) fun hb => ?_
    | simp only [go_sem, Nat.reduceLT, Nat.reduceLeDiff, Nat.reduceEqDiff, Nat.reduceAdd, Nat.reduceMul, Nat.reduceSub, reduceCtorEq, F]
    | simp (disch := omega) only [decide_eq_true_eq, if_pos, if_neg, wrap_id, le_maxLen, and_true, true_and, if_true, ite_true]
    | refine wGd (fun hb => ?_) fun hb => ?_
  all_goals refine ret_mk (vs := _) (acc := _) (by simp only [go_sem, Nat.reduceLT, Nat.reduceLeDiff, Nat.reduceEqDiff, Nat.reduceAdd, Nat.reduceMul, Nat.reduceSub, reduceCtorEq, vres]; rfl) (by simp only [go_sem, Nat.reduceLT, Nat.reduceLeDiff, Nat.reduceEqDiff, Nat.reduceAdd, Nat.reduceMul, Nat.reduceSub, reduceCtorEq, wrap, exV, exA, exCs, exC]; rfl) (by simp) (by simp) (by simp)
theorem eqEntry_ok (e f : EntS) : SatP Try.prog 106 [.agg e.cells, .agg f.cells] (.bool (decide (e = f))) [] := by
  refine satP_of_body hT Try.func106 (by kernel_rfl) rfl (rs := [.tmp 4]) rfl (n := 30) rfl (by simp) rfl (by simp) fun E hE => ?_
  unfold St.init
  unfold EntS.cells
  have F := (Eq.refl 0)
  repeat' first
    | refine wSq fun _ hK => ?_
    | refine wRg ?_
    | refine wDr ?_
    | refine VWP_block ?_
    | refine VWP_skip ?_
    | refine VWP_exit ?_
    | refine VWP_ret ?_
    | (refine hK _ ?_; clear hK)
    | (clear hK; refine hK _ ?_; clear hK)
    | (clear hK; clear hK; refine hK _ ?_; clear hK)
    | (clear hK; clear hK; clear hK; refine hK _ ?_; clear hK)
    | (simp only [wHb, reduceCtorEq] at hb <;> try (exfalso; omega))
    | refine wCd (fun hb => ?_) fun hb => ?_
    | simp only [go_sem, Nat.reduceLT, Nat.reduceLeDiff, Nat.reduceEqDiff, Nat.reduceAdd, Nat.reduceMul, Nat.reduceSub, reduceCtorEq, F]
    | simp (disch := omega) only [decide_eq_true_eq, if_pos, if_neg, wrap_id, le_maxLen, and_true, true_and, if_true, ite_true]
    | refine wGd (fun hb => ?_) fun hb => ?_
  all_goals refine wLf ?_
  all_goals (cases e; cases f; simp_all)
end Go.Proofs.Ytchkbgekmoileaa
