/- The lines of a program's instructions, told. -/
import Derived.Test.YtchkbgekmoileaaDoorST2
import Derived.Test.YtchkbgekmoileaaDoorPC
namespace Go.Proofs.YtchkbgekmoileaaDoor
open Go Go.RowKit
set_option linter.unusedVariables false
set_option linter.unusedSimpArgs false
set_option maxRecDepth 100000
set_option maxHeartbeats 16000000
attribute [local irreducible] VWP vops vdraw contV contD CallK Guard GuardV NextL Puts Runs RetOK RetQ RetO RetQO thenQ blockQ
attribute [local irreducible] NextN

def wordT (op : Int) : ByteArray := if op = 1 then ⟨#[114, 101, 97, 100]⟩ else if op = 2 then ⟨#[119, 114, 105, 116, 101]⟩ else if op = 3 then ⟨#[115, 101, 116]⟩ else if op = 4 then ⟨#[97, 100, 100]⟩ else if op = 5 then ⟨#[105, 102]⟩ else if op = 6 then ⟨#[99, 111, 109, 109, 105, 116]⟩ else if op = 7 then ⟨#[97, 98, 111, 114, 116]⟩ else if op = 8 then ⟨#[103, 111]⟩ else ⟨#[]⟩
def wordsN (op : Int) : Int := if op = 6 then 0 else if op = 7 then 0 else if op = 8 then 1 else 2
def lineT (x : InsS) : ByteArray := if wordsN x.op = 0 then wordT x.op else if wordsN x.op = 1 then wordT x.op ++ (⟨#[32]⟩ ++ told x.a) else wordT x.op ++ (⟨#[32]⟩ ++ (told x.a ++ (⟨#[32]⟩ ++ told x.b)))
theorem wordT_size (op : Int) : (wordT op).size ≤ 6 := by
  unfold wordT
  repeat' split
  all_goals decide
theorem ins_cases {x : InsS} {n : Int} (h : x.ok n = true) (hn : n ≤ 1000) : (x.op = 1 ∨ x.op = 2 ∨ x.op = 3 ∨ x.op = 4 ∨ x.op = 5 ∨ x.op = 6 ∨ x.op = 7 ∨ x.op = 8) ∧ (-1000000000 ≤ x.a ∧ x.a ≤ 1000000000) ∧ (-1000000000 ≤ x.b ∧ x.b ≤ 1000000000) := by
  unfold InsS.ok at h
  repeat' split at h
  all_goals first
    | (cases h; done)
    | (simp only [inB, Bool.and_eq_true, decide_eq_true_eq, beq_iff_eq] at h; exact ⟨by omega, by omega, by omega⟩)
def namesR : List (List PT) := [[.str ⟨#[]⟩], [.str ⟨#[114, 101, 97, 100]⟩], [.str ⟨#[119, 114, 105, 116, 101]⟩], [.str ⟨#[115, 101, 116]⟩], [.str ⟨#[97, 100, 100]⟩], [.str ⟨#[105, 102]⟩], [.str ⟨#[99, 111, 109, 109, 105, 116]⟩], [.str ⟨#[97, 98, 111, 114, 116]⟩], [.str ⟨#[103, 111]⟩]]
theorem namesR_pur : PurRows namesR := by
  intro r hr c hc
  simp only [namesR, List.mem_cons, List.not_mem_nil, or_false] at hr
  rcases hr with rfl | rfl | rfl | rfl | rfl | rfl | rfl | rfl | rfl <;> (simp only [List.mem_cons, List.not_mem_nil, or_false] at hc; subst hc; exact .str _)
theorem l9Names_ok : SatP Tryd.prog 37 [] (.rf 0 9) [(9, namesR)] := by
  refine satP_of_body hT Tryd.func37 (by kernel_rfl) rfl (rs := [.tmp 0]) rfl (n := 2) rfl (by simp) rfl (by simpa using namesR_pur) fun E hE => ?_
  unfold St.init
  have F := (Eq.refl 0)
  repeat' first
    | refine wSq fun _ hK => ?_
    | refine wRg ?_
    | refine wDr ?_
    | refine VWP_block ?_
    | refine VWP_skip ?_
    | refine VWP_exit ?_
    | refine VWP_ret ?_
    | (refine hK _ ?_; clear hK)
    | (clear hK; refine hK _ ?_; clear hK)
    | (clear hK; clear hK; refine hK _ ?_; clear hK)
    | (clear hK; clear hK; clear hK; refine hK _ ?_; clear hK)
    | (simp only [wHb, reduceCtorEq] at hb <;> try (exfalso; omega))
    | refine wCd (fun hb => ?_) fun hb => ?_
    | simp only [go_sem, Nat.reduceLT, Nat.reduceLeDiff, Nat.reduceEqDiff, Nat.reduceAdd, Nat.reduceMul, Nat.reduceSub, reduceCtorEq, F]
    | simp (disch := omega) only [decide_eq_true_eq, if_pos, if_neg, wrap_id, le_maxLen, and_true, true_and, if_true, ite_true]
    | refine wGd (fun hb => ?_) fun hb => ?_
  refine ret_rf (T := 0) (by simp only [go_sem, Nat.reduceLT, Nat.reduceLeDiff, Nat.reduceEqDiff, Nat.reduceAdd, Nat.reduceMul, Nat.reduceSub, reduceCtorEq]; try simp) (by simp only [go_sem, Nat.reduceLT, Nat.reduceLeDiff, Nat.reduceEqDiff, Nat.reduceAdd, Nat.reduceMul, Nat.reduceSub, reduceCtorEq]; try rfl) rfl namesR_pur
theorem l9Words_ok {op : Int} (h : op = 1 ∨ op = 2 ∨ op = 3 ∨ op = 4 ∨ op = 5 ∨ op = 6 ∨ op = 7 ∨ op = 8) : SatP Tryd.prog 38 [.int .i64 op] (.int .i64 (wordsN op)) [] := by
  refine satP_of_body hT Tryd.func38 (by kernel_rfl) rfl (rs := [.tmp 2]) rfl (n := 7) rfl (by simp) rfl (by simp) fun E hE => ?_
  unfold St.init
  rcases h with rfl | rfl | rfl | rfl | rfl | rfl | rfl | rfl
  all_goals
    have F := (Eq.refl 0)
    repeat' first
      | refine wSq fun _ hK => ?_
      | refine wRg ?_
      | refine wDr ?_
      | refine VWP_block ?_
      | refine VWP_skip ?_
      | refine VWP_exit ?_
      | refine VWP_ret ?_
      | (refine hK _ ?_; clear hK)
      | (clear hK; refine hK _ ?_; clear hK)
      | (clear hK; clear hK; refine hK _ ?_; clear hK)
      | (clear hK; clear hK; clear hK; refine hK _ ?_; clear hK)
      | (simp only [wHb, reduceCtorEq] at hb <;> try (exfalso; omega))
      | refine wCdx (fun hb => ?_) fun hb => ?_
      | simp only [go_sem, Nat.reduceLT, Nat.reduceLeDiff, Nat.reduceEqDiff, Nat.reduceAdd, Nat.reduceMul, Nat.reduceSub, reduceCtorEq, Int.reduceBEq, Int.reduceBNe, Int.reduceLT, Int.reduceLE, Int.reduceAdd, Int.reduceToNat, F]
      | simp (disch := omega) only [decide_eq_true_eq, if_pos, if_neg, wrap_id, le_maxLen, and_true, true_and, if_true, ite_true]
      | refine wGdx (fun hb => ?_) fun hb => ?_
    refine wLf ?_
    rfl
theorem argumentsOf_ok {op : Int} (h : op = 1 ∨ op = 2 ∨ op = 3 ∨ op = 4 ∨ op = 5 ∨ op = 6 ∨ op = 7 ∨ op = 8) : SatP Tryd.prog 42 [.int .i64 op] (.int .i64 (wordsN op)) [] := by
  refine satP_of_body hT Tryd.func42 (by kernel_rfl) rfl (rs := [.tmp 2]) rfl (n := 9) rfl (by simp) rfl (by simp) fun E hE => ?_
  unfold St.init
  rcases h with rfl | rfl | rfl | rfl | rfl | rfl | rfl | rfl
  all_goals
    have F := (Eq.refl 0)
    repeat' first
      | refine wSq fun _ hK => ?_
      | refine wRg ?_
      | refine wDr ?_
      | refine VWP_block ?_
      | refine VWP_skip ?_
      | refine VWP_exit ?_
      | refine VWP_ret ?_
      | (refine hK _ ?_; clear hK)
      | (clear hK; refine hK _ ?_; clear hK)
      | (clear hK; clear hK; refine hK _ ?_; clear hK)
      | (clear hK; clear hK; clear hK; refine hK _ ?_; clear hK)
      | (simp only [wHb, reduceCtorEq] at hb <;> try (exfalso; omega))
      | refine wCdx (fun hb => ?_) fun hb => ?_
      | simp only [go_sem, Nat.reduceLT, Nat.reduceLeDiff, Nat.reduceEqDiff, Nat.reduceAdd, Nat.reduceMul, Nat.reduceSub, reduceCtorEq, Int.reduceBEq, Int.reduceBNe, Int.reduceLT, Int.reduceLE, Int.reduceAdd, Int.reduceToNat, F]
      | simp (disch := omega) only [decide_eq_true_eq, if_pos, if_neg, wrap_id, le_maxLen, and_true, true_and, if_true, ite_true]
      | refine wGdx (fun hb => ?_) fun hb => ?_
    refine wLf ?_
    rfl
theorem l9Line_ok (x : InsS) {n : Int} (h : x.ok n = true) (hn : n ≤ 1000) : SatP Tryd.prog 23 [.agg x.cells] (.str (lineT x)) [] := by
  obtain ⟨h1, ⟨a0, a1⟩, b0, b1⟩ := ins_cases h hn
  obtain ⟨op, a, b⟩ := x
  simp only at h1 a0 a1 b0 b1
  have k1 := l1T_ok (n := a) (by omega) (by omega)
  have k2 := l1T_ok (n := b) (by omega) (by omega)
  have s1 := told_size (n := a) (by omega) (by omega)
  have s2 := told_size (n := b) (by omega) (by omega)
  have hws := wordT_size op
  have hwd := l9Words_ok h1
  have hlen : namesR.length = 9 := rfl
  have hrow : namesR[op.toNat]? = some [.str (wordT op)] := by
    rcases h1 with rfl | rfl | rfl | rfl | rfl | rfl | rfl | rfl <;> rfl
  have c0 : 0 ≤ op := by omega
  have c1 : op < 9 := by omega
  obtain ⟨w, hw⟩ : ∃ w, wordT op = w := ⟨_, rfl⟩
  obtain ⟨m, hm⟩ : ∃ m, wordsN op = m := ⟨_, rfl⟩
  have hm3 : m = 0 ∨ m = 1 ∨ m = 2 := by
    rw [← hm]
    unfold wordsN
    repeat' split
    all_goals omega
  simp only [lineT, hw, hm]
  rw [hw] at hrow hws
  rw [hm] at hwd
  have z1 : w.size + 1 ≤ 9223372036854775807 := by omega
  have z2 : w.size + 1 + (told a).size ≤ 9223372036854775807 := by omega
  have z3 : w.size + 1 + (told a).size + 1 ≤ 9223372036854775807 := by omega
  have z4 : w.size + 1 + (told a).size + 1 + (told b).size ≤ 9223372036854775807 := by omega
  clear hw hm h1
  unfold InsS.cells
  simp only
  refine satP_of_body hT Tryd.func23 (by kernel_rfl) rfl (rs := [.tmp 2]) rfl (n := 30) rfl (by simp) rfl (by simp) fun E hE => ?_
  unfold St.init
  rcases hm3 with rfl | rfl | rfl
  all_goals
    repeat' first
      | refine VWP_seq_k fun _ hK => ?_
      | refine VWP_region_k hT ?_
      | refine VWP_draw_k hT hM (by kernel_rfl) rfl ?_
      | refine VWP_block ?_
      | refine VWP_skip ?_
      | refine VWP_exit ?_
      | refine VWP_ret ?_
      | (refine hK _ ?_; clear hK)
      | (clear hK; refine hK _ ?_; clear hK)
      | (clear hK; clear hK; refine hK _ ?_; clear hK)
      | (clear hK; clear hK; clear hK; refine hK _ ?_; clear hK)
      | (simp only [decide_eq_true_eq, decide_eq_false_iff_not, bne_iff_ne, ne_eq, Bool.not_eq_true', Bool.not_eq_false', Bool.true_eq_false, Bool.false_eq_true, reduceCtorEq, not_true_eq_false, eq_self] at hb <;> try (exfalso; omega))
      | refine VWP_cond2 _ (by simp only [go_sem, Nat.reduceLT, Nat.reduceLeDiff, Nat.reduceEqDiff, Nat.reduceAdd, Nat.reduceMul, Nat.reduceSub, reduceCtorEq, Int.reduceToNat, one_size, ByteArray.size_append, hlen, hrow, c0, c1, z1, z2, z3, z4]; rfl) (fun hb => ?_) (fun hb => ?_)
      | refine callK (by simp only [go_sem, Nat.reduceLT, Nat.reduceLeDiff, Nat.reduceEqDiff, Nat.reduceAdd, Nat.reduceMul, Nat.reduceSub, reduceCtorEq, Int.reduceToNat, one_size, ByteArray.size_append, hlen, hrow, c0, c1, z1, z2, z3, z4, List.mem_cons, List.not_mem_nil, or_false, forall_eq_or_imp, forall_eq, frzOk, frzOkC]; try simp) (args' := _) (by simp only [go_sem, Nat.reduceLT, Nat.reduceLeDiff, Nat.reduceEqDiff, Nat.reduceAdd, Nat.reduceMul, Nat.reduceSub, reduceCtorEq, Int.reduceToNat, one_size, ByteArray.size_append, hlen, hrow, c0, c1, z1, z2, z3, z4, frzA, frzC]; try rfl) (by first | exact l9Names_ok | exact hwd | exact k1 | exact k2) (by simp only [go_sem, Nat.reduceLT, Nat.reduceLeDiff, Nat.reduceEqDiff, Nat.reduceAdd, Nat.reduceMul, Nat.reduceSub, reduceCtorEq, Int.reduceToNat, one_size, ByteArray.size_append, hlen, hrow, c0, c1, z1, z2, z3, z4]; try simp) (by decide) ?_
      | simp only [go_sem, Nat.reduceLT, Nat.reduceLeDiff, Nat.reduceEqDiff, Nat.reduceAdd, Nat.reduceMul, Nat.reduceSub, reduceCtorEq, Int.reduceToNat, one_size, ByteArray.size_append, hlen, hrow, c0, c1, z1, z2, z3, z4]
      | simp (disch := omega) only [decide_eq_true_eq, if_pos, if_neg, wrap_id, le_maxLen, and_true, true_and, if_true, ite_true]
      | refine guard_split (by simp only [go_sem, Nat.reduceLT, Nat.reduceLeDiff, Nat.reduceEqDiff, Nat.reduceAdd, Nat.reduceMul, Nat.reduceSub, reduceCtorEq, Int.reduceToNat, one_size, ByteArray.size_append, hlen, hrow, c0, c1, z1, z2, z3, z4]) rfl (fun hb => ?_) (fun hb => ?_)
    refine wLf ?_
    simp [ByteArray.append_assoc]
end Go.Proofs.YtchkbgekmoileaaDoor
