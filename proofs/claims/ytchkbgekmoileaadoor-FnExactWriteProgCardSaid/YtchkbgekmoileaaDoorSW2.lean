/- The program's line of an instruction; what both WriteProg give. -/
import Derived.Test.YtchkbgekmoileaaDoorSW1
import Derived.Test.YtchkbgekmoileaaDoorEf
namespace Go.Proofs.YtchkbgekmoileaaDoor
open Go Go.RowKit
set_option linter.unusedVariables false
set_option linter.unusedSimpArgs false
set_option maxRecDepth 100000
set_option maxHeartbeats 16000000
attribute [local irreducible] VWP vops vdraw contV contD CallK Guard GuardV NextL Puts Runs RetOK RetQ RetO RetQO thenQ blockQ
attribute [local irreducible] NextN

def opRow : List PT := [.str ⟨#[]⟩, .str ⟨#[114, 101, 97, 100]⟩, .str ⟨#[119, 114, 105, 116, 101]⟩, .str ⟨#[115, 101, 116]⟩, .str ⟨#[97, 100, 100]⟩, .str ⟨#[105, 102]⟩, .str ⟨#[99, 111, 109, 109, 105, 116]⟩, .str ⟨#[97, 98, 111, 114, 116]⟩, .str ⟨#[103, 111]⟩]
@[go_sem] theorem ev_opWords (tm : Nat → VV) (H : Heap) (nx N : Nat) (lim : Option Nat) : ev ⟨tm, H, nx, N, lim⟩ (.global 0) = .fp opRow := rfl
def outN (w a b : ByteArray) (i : Nat) : ByteArray := if i = 0 then w else if i = 1 then w ++ (⟨#[32]⟩ ++ a) else w ++ (⟨#[32]⟩ ++ (a ++ (⟨#[32]⟩ ++ b)))
theorem instrLine_ok (x : InsS) {n : Int} (h : x.ok n = true) (hn : n ≤ 1000) : SatP Tryd.prog 26 [.agg x.cells] (.str (lineT x)) [] := by
  obtain ⟨h1, ⟨a0, a1⟩, b0, b1⟩ := ins_cases h hn
  obtain ⟨op, a, b⟩ := x
  simp only at h1 a0 a1 b0 b1
  have k1 := itoa_ok a (by omega) (by omega)
  have k2 := itoa_ok b (by omega) (by omega)
  have s1 := told_size (n := a) (by omega) (by omega)
  have s2 := told_size (n := b) (by omega) (by omega)
  have hws := wordT_size op
  have hwd := argumentsOf_ok h1
  have hrow : (opRow.drop (op.toNat * 1)).take 1 = [.str (wordT op)] := by
    rcases h1 with rfl | rfl | rfl | rfl | rfl | rfl | rfl | rfl <;> rfl
  have hrow2 : (opRow.drop op.toNat).take 1 = [.str (wordT op)] := by simpa using hrow
  have c0 : 0 ≤ op := by omega
  have c1 : op < 9 := by omega
  obtain ⟨w, hw⟩ : ∃ w, wordT op = w := ⟨_, rfl⟩
  obtain ⟨m, hm, hm2⟩ : ∃ m : Nat, wordsN op = m ∧ m ≤ 2 := by
    unfold wordsN
    repeat' split
    · exact ⟨0, rfl, by omega⟩
    · exact ⟨0, rfl, by omega⟩
    · exact ⟨1, rfl, by omega⟩
    · exact ⟨2, rfl, by omega⟩
  have hline : lineT ⟨op, a, b⟩ = outN w (told a) (told b) m := by
    simp only [lineT, hw, hm, outN]
    match m, hm2 with
    | 0, _ => rfl
    | 1, _ => rfl
    | 2, _ => rfl
  rw [hline]
  rw [hw] at hrow hrow2 hws
  rw [hm] at hwd
  obtain ⟨ta, hta⟩ : ∃ z, told a = z := ⟨_, rfl⟩
  obtain ⟨tb, htb⟩ : ∃ z, told b = z := ⟨_, rfl⟩
  rw [hta] at k1 s1 ⊢
  rw [htb] at k2 s2 ⊢
  have z1 : 1 + ta.size ≤ 9223372036854775807 := by omega
  have z2 : w.size + (1 + ta.size) ≤ 9223372036854775807 := by omega
  have z3 : 1 + tb.size ≤ 9223372036854775807 := by omega
  have z4 : w.size + (1 + ta.size) + (1 + tb.size) ≤ 9223372036854775807 := by omega
  have hm0 : (0 : Int) ≤ (m : Int) := by omega
  clear hw hm h1 hline hta htb
  unfold InsS.cells
  simp only
  refine satP_of_body hT Tryd.func26 (by kernel_rfl) rfl (rs := [.tmp 2]) rfl (n := 31) rfl (by simp) rfl (by simp) fun E hE => ?_
  unfold St.init
  have F := And.intro hrow (And.intro hrow2 (And.intro c0 (And.intro c1 (And.intro hm0 hm2))))
  repeat' first
    | refine wSq fun _ hK => ?_
    | refine wRg ?_
    | refine wDr ?_
    | refine VWP_block ?_
    | refine VWP_skip ?_
    | refine VWP_exit ?_
    | refine VWP_ret ?_
    | (refine hK _ ?_; clear hK)
    | (clear hK; refine hK _ ?_; clear hK)
    | (clear hK; clear hK; refine hK _ ?_; clear hK)
    | (clear hK; clear hK; clear hK; refine hK _ ?_; clear hK)
    | (simp only [wHb, reduceCtorEq] at hb <;> try (exfalso; omega))
    | refine wCd (fun hb => ?_) fun hb => ?_
    | refine wCa (c := by first | exact hwd) (k := ?_)
    | simp only [go_sem, Nat.reduceLT, Nat.reduceLeDiff, Nat.reduceEqDiff, Nat.reduceAdd, Nat.reduceMul, Nat.reduceSub, reduceCtorEq, F]
    | simp (disch := omega) only [decide_eq_true_eq, if_pos, if_neg, wrap_id, le_maxLen, and_true, true_and, if_true, ite_true]
    | refine wGd (fun hb => ?_) fun hb => ?_
  refine VWP_loopN hE (X := Nat) (fun i => [(3, .str (outN w ta tb i)), (18, .rf 0 m), (19, .int .i64 m), (20, .int .i64 i)]) (fun i => [(0, .root 3 [[.int .i64 a], [.int .i64 b]])]) (fun i => m - i)
    (fun i => i ≤ m) [257] 0 (by simp) (by decide) (by decide) (by simp [updV, renV, renA, renC, outN]) (by simp [updH, renH_at, renE, renC, PurRows]; exact ⟨.int _ _, .int _ _⟩) ?_
  intro i hi
  try simp only
  rcases Nat.lt_or_ge i m with hlt | hge
  · have hi1 : (i : Int) < (m : Int) := by omega
    have hi0 : (0 : Int) ≤ (i : Int) := by omega
    have hw1 := wrap_id (x := (i : Int) + 1) (by omega)
    rcases Nat.eq_zero_or_pos i with rfl | hp
    · have hm1 : m ≠ 0 := by omega
      have e0 : outN w ta tb 0 = w := rfl
      have e1 : outN w ta tb 1 = w ++ (⟨#[32]⟩ ++ ta) := rfl
      have hi3 : (0 : Int) < (m : Int) := by omega
      have hlt2 : 0 < m := hlt
      rw [e0]
      repeat' first
        | refine VWP_seq_k fun _ hK => ?_
        | refine VWP_region_k hT ?_
        | refine VWP_draw_k hT hM (by kernel_rfl) rfl ?_
        | refine VWP_block ?_
        | refine VWP_skip ?_
        | refine VWP_exit ?_
        | refine VWP_ret ?_
        | (refine hK _ ?_; clear hK)
        | (clear hK; refine hK _ ?_; clear hK)
        | (clear hK; clear hK; refine hK _ ?_; clear hK)
        | (clear hK; clear hK; clear hK; refine hK _ ?_; clear hK)
        | (simp only [decide_eq_true_eq, decide_eq_false_iff_not, bne_iff_ne, ne_eq, Bool.not_eq_true', Bool.not_eq_false', Bool.true_eq_false, Bool.false_eq_true, reduceCtorEq, not_true_eq_false, eq_self] at hb <;> try (exfalso; omega))
        | refine VWP_cond2 _ (by simp only [go_sem, Nat.reduceLT, Nat.reduceLeDiff, Nat.reduceEqDiff, Nat.reduceAdd, Nat.reduceMul, Nat.reduceSub, reduceCtorEq, hi1, hi3, hlt2, hm2, one_size, ByteArray.size_append, z1, z2]; rfl) (fun hb => ?_) (fun hb => ?_)
        | refine callK (by simp only [go_sem, Nat.reduceLT, Nat.reduceLeDiff, Nat.reduceEqDiff, Nat.reduceAdd, Nat.reduceMul, Nat.reduceSub, reduceCtorEq, hi1, hi3, hlt2, hm2, one_size, ByteArray.size_append, z1, z2, List.mem_cons, List.not_mem_nil, or_false, forall_eq_or_imp, forall_eq, frzOk, frzOkC]; try simp) (args' := _) (by simp only [go_sem, Nat.reduceLT, Nat.reduceLeDiff, Nat.reduceEqDiff, Nat.reduceAdd, Nat.reduceMul, Nat.reduceSub, reduceCtorEq, hi1, hi3, hlt2, hm2, one_size, ByteArray.size_append, z1, z2, frzA, frzC]; try rfl) (by first | exact k1) (by simp only [go_sem, Nat.reduceLT, Nat.reduceLeDiff, Nat.reduceEqDiff, Nat.reduceAdd, Nat.reduceMul, Nat.reduceSub, reduceCtorEq, hi1, hi3, hlt2, hm2, one_size, ByteArray.size_append, z1, z2]; try simp) (by decide) ?_
        | simp only [go_sem, Nat.reduceLT, Nat.reduceLeDiff, Nat.reduceEqDiff, Nat.reduceAdd, Nat.reduceMul, Nat.reduceSub, reduceCtorEq, hi1, hi3, hlt2, hm2, one_size, ByteArray.size_append, z1, z2]
        | simp (disch := omega) only [decide_eq_true_eq, if_pos, if_neg, wrap_id, le_maxLen, and_true, true_and, if_true, ite_true]
        | refine guard_split (by simp only [go_sem, Nat.reduceLT, Nat.reduceLeDiff, Nat.reduceEqDiff, Nat.reduceAdd, Nat.reduceMul, Nat.reduceSub, reduceCtorEq, hi1, hi3, hlt2, hm2, one_size, ByteArray.size_append, z1, z2]) rfl (fun hb => ?_) (fun hb => ?_)
      all_goals refine nextN [] rfl [0] 1 rfl (by decide) (by decide) (by omega) (by omega) (by simp [updV, tmL, renV, renA, renC, e1]) (by simp [updH, hpL, renH_at, renE, renC, PurRows]; exact ⟨.int _ _, .int _ _⟩)
    · obtain rfl : i = 1 := by omega
      have e1 : outN w ta tb 1 = w ++ (⟨#[32]⟩ ++ ta) := rfl
      have e2 : outN w ta tb 2 = w ++ (⟨#[32]⟩ ++ (ta ++ (⟨#[32]⟩ ++ tb))) := rfl
      have hi3 : (1 : Int) < (m : Int) := by omega
      have hlt2 : 1 < m := hlt
      rw [e1]
      repeat' first
        | refine VWP_seq_k fun _ hK => ?_
        | refine VWP_region_k hT ?_
        | refine VWP_draw_k hT hM (by kernel_rfl) rfl ?_
        | refine VWP_block ?_
        | refine VWP_skip ?_
        | refine VWP_exit ?_
        | refine VWP_ret ?_
        | (refine hK _ ?_; clear hK)
        | (clear hK; refine hK _ ?_; clear hK)
        | (clear hK; clear hK; refine hK _ ?_; clear hK)
        | (clear hK; clear hK; clear hK; refine hK _ ?_; clear hK)
        | (simp only [decide_eq_true_eq, decide_eq_false_iff_not, bne_iff_ne, ne_eq, Bool.not_eq_true', Bool.not_eq_false', Bool.true_eq_false, Bool.false_eq_true, reduceCtorEq, not_true_eq_false, eq_self] at hb <;> try (exfalso; omega))
        | refine VWP_cond2 _ (by simp only [go_sem, Nat.reduceLT, Nat.reduceLeDiff, Nat.reduceEqDiff, Nat.reduceAdd, Nat.reduceMul, Nat.reduceSub, reduceCtorEq, hi1, hi3, hlt2, hm2, one_size, ByteArray.size_append, z3, z4]; rfl) (fun hb => ?_) (fun hb => ?_)
        | refine callK (by simp only [go_sem, Nat.reduceLT, Nat.reduceLeDiff, Nat.reduceEqDiff, Nat.reduceAdd, Nat.reduceMul, Nat.reduceSub, reduceCtorEq, hi1, hi3, hlt2, hm2, one_size, ByteArray.size_append, z3, z4, List.mem_cons, List.not_mem_nil, or_false, forall_eq_or_imp, forall_eq, frzOk, frzOkC]; try simp) (args' := _) (by simp only [go_sem, Nat.reduceLT, Nat.reduceLeDiff, Nat.reduceEqDiff, Nat.reduceAdd, Nat.reduceMul, Nat.reduceSub, reduceCtorEq, hi1, hi3, hlt2, hm2, one_size, ByteArray.size_append, z3, z4, frzA, frzC]; try rfl) (by first | exact k2) (by simp only [go_sem, Nat.reduceLT, Nat.reduceLeDiff, Nat.reduceEqDiff, Nat.reduceAdd, Nat.reduceMul, Nat.reduceSub, reduceCtorEq, hi1, hi3, hlt2, hm2, one_size, ByteArray.size_append, z3, z4]; try simp) (by decide) ?_
        | simp only [go_sem, Nat.reduceLT, Nat.reduceLeDiff, Nat.reduceEqDiff, Nat.reduceAdd, Nat.reduceMul, Nat.reduceSub, reduceCtorEq, hi1, hi3, hlt2, hm2, one_size, ByteArray.size_append, z3, z4]
        | simp (disch := omega) only [decide_eq_true_eq, if_pos, if_neg, wrap_id, le_maxLen, and_true, true_and, if_true, ite_true]
        | refine guard_split (by simp only [go_sem, Nat.reduceLT, Nat.reduceLeDiff, Nat.reduceEqDiff, Nat.reduceAdd, Nat.reduceMul, Nat.reduceSub, reduceCtorEq, hi1, hi3, hlt2, hm2, one_size, ByteArray.size_append, z3, z4]) rfl (fun hb => ?_) (fun hb => ?_)
      all_goals refine nextN [] rfl [0] 2 rfl (by decide) (by decide) (by omega) (by omega) (by simp [updV, tmL, renV, renA, renC, e2, ByteArray.append_assoc]) (by simp [updH, hpL, renH_at, renE, renC, PurRows]; exact ⟨.int _ _, .int _ _⟩)
  · obtain rfl : i = m := by omega
    have hn2 : ¬ ((i : Nat) : Int) < (i : Int) := by omega
    have F := hn2
    repeat' first
      | refine wSq fun _ hK => ?_
      | refine wRg ?_
      | refine wDr ?_
      | refine VWP_block ?_
      | refine VWP_skip ?_
      | refine VWP_exit ?_
      | refine VWP_ret ?_
      | (refine hK _ ?_; clear hK)
      | (clear hK; refine hK _ ?_; clear hK)
      | (clear hK; clear hK; refine hK _ ?_; clear hK)
      | (clear hK; clear hK; clear hK; refine hK _ ?_; clear hK)
      | (simp only [wHb, reduceCtorEq] at hb <;> try (exfalso; omega))
      | refine wCd (fun hb => ?_) fun hb => ?_
      | simp only [go_sem, Nat.reduceLT, Nat.reduceLeDiff, Nat.reduceEqDiff, Nat.reduceAdd, Nat.reduceMul, Nat.reduceSub, reduceCtorEq, F]
      | simp (disch := omega) only [decide_eq_true_eq, if_pos, if_neg, wrap_id, le_maxLen, and_true, true_and, if_true, ite_true]
      | refine wGd (fun hb => ?_) fun hb => ?_
    all_goals refine wLf ?_
    all_goals rfl
end Go.Proofs.YtchkbgekmoileaaDoor
