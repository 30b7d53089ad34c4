/- What both WriteProg give. -/
import Derived.Test.YtchkbgekmoileaaDoorSW2
namespace Go.Proofs.YtchkbgekmoileaaDoor
open Go Go.RowKit
set_option linter.unusedVariables false
set_option linter.unusedSimpArgs false
set_option maxRecDepth 100000
set_option maxHeartbeats 16000000
attribute [local irreducible] VWP vops vdraw contV contD CallK Guard GuardV NextL Puts Runs RetOK RetQ RetO RetQO thenQ blockQ
attribute [local irreducible] NextN

def progN (xs : List InsS) (i : Nat) : ByteArray := (xs.take i).foldl (fun o x => o ++ (lineT x ++ ⟨#[10]⟩)) ⟨#[]⟩
theorem progN_succ {xs : List InsS} {i : Nat} {x : InsS} (h : xs[i]? = some x) : progN xs (i + 1) = progN xs i ++ (lineT x ++ ⟨#[10]⟩) := by
  unfold progN
  rw [List.take_add_one, h, List.foldl_append]
  rfl
theorem lineT_size {x : InsS} {n : Int} (h : x.ok n = true) (hn : n ≤ 1000) : (lineT x).size ≤ 60 := by
  obtain ⟨_, ⟨a0, a1⟩, b0, b1⟩ := ins_cases h hn
  have s1 := told_size (n := x.a) (by omega) (by omega)
  have s2 := told_size (n := x.b) (by omega) (by omega)
  have s3 := wordT_size x.op
  unfold lineT
  repeat' split
  all_goals try simp only [ByteArray.size_append, one_size]
  all_goals omega
theorem progN_size {xs : List InsS} {n : Int} (h : ∀ x ∈ xs, x.ok n = true) (hn : n ≤ 1000) : ∀ i, i ≤ xs.length → (progN xs i).size ≤ 61 * i
  | 0, _ => Nat.le_refl _
  | i + 1, hi => by
    have he : xs[i]? = some xs[i] := List.getElem?_eq_getElem (by omega)
    rw [progN_succ he, ByteArray.size_append, ByteArray.size_append, one_size]
    have h1 := progN_size h hn i (by omega)
    have h2 := lineT_size (h xs[i] (List.getElem_mem _)) hn
    omega
def progB (xs : List InsS) : Bool := decide (xs.length ≤ 30) && xs.all (fun e => e.ok xs.length)
def writeR (xs : List InsS) : ByteArray × Bool := if progB xs = true then (progN xs xs.length, true) else (⟨#[]⟩, false)
theorem specWriteProg_ok (xs : List InsS) (hl : xs.length ≤ 1048576) (r : ByteArray × Bool) (hr : writeR xs = r) : SatP Tryd.prog 11 [.fr 53 (rowsI xs)] (.tup [.str r.1, .bool r.2]) [] := by
  have hc := specProgOk_ok xs hl
  change SatP _ _ _ (.bool (progB xs)) _ at hc
  cases hp : progB xs with
  | false =>
    rw [hp] at hc
    rw [writeR, if_neg (by rw [hp]; exact fun h => nomatch h)] at hr
    subst hr
    refine satP_of_body hT Tryd.func11 (by kernel_rfl) rfl (rs := [.tmp 2, .tmp 3]) rfl (n := 24) rfl (by simp) rfl (by simp) fun E hE => ?_
    unfold St.init
    have F := (Eq.refl 0)
    repeat' first
      | refine wSq fun _ hK => ?_
      | refine wRg ?_
      | refine wDr ?_
      | refine VWP_block ?_
      | refine VWP_skip ?_
      | refine VWP_exit ?_
      | refine VWP_ret ?_
      | (refine hK _ ?_; clear hK)
      | (clear hK; refine hK _ ?_; clear hK)
      | (clear hK; clear hK; refine hK _ ?_; clear hK)
      | (clear hK; clear hK; clear hK; refine hK _ ?_; clear hK)
      | (simp only [wHb, reduceCtorEq] at hb <;> try (exfalso; omega))
      | refine wCd (fun hb => ?_) fun hb => ?_
      | refine wCa (c := by first | exact hc) (k := ?_)
      | simp only [go_sem, Nat.reduceLT, Nat.reduceLeDiff, Nat.reduceEqDiff, Nat.reduceAdd, Nat.reduceMul, Nat.reduceSub, reduceCtorEq, F]
      | simp (disch := omega) only [decide_eq_true_eq, if_pos, if_neg, wrap_id, le_maxLen, and_true, true_and, if_true, ite_true]
      | refine wGd (fun hb => ?_) fun hb => ?_
    refine ret_mk (vs := _) (acc := []) (by simp only [go_sem, Nat.reduceLT, Nat.reduceLeDiff, Nat.reduceEqDiff, Nat.reduceAdd, Nat.reduceMul, Nat.reduceSub, reduceCtorEq, vres]; rfl) (by simp only [go_sem, Nat.reduceLT, Nat.reduceLeDiff, Nat.reduceEqDiff, Nat.reduceAdd, Nat.reduceMul, Nat.reduceSub, reduceCtorEq, wrap, exV, exAs, exA, exCs, exC]; try rfl) (by simp) (by first | rfl | simp) (by simp)
  | true =>
    rw [hp] at hc
    have hP := hp
    simp only [progB, Bool.and_eq_true, decide_eq_true_eq, List.all_eq_true] at hP
    obtain ⟨h30, hok⟩ := hP
    rw [writeR, if_pos hp] at hr
    subst hr
    refine satP_of_body hT Tryd.func11 (by kernel_rfl) rfl (rs := [.tmp 2, .tmp 3]) rfl (n := 24) rfl (by simp) rfl (by simp) fun E hE => ?_
    unfold St.init
    have F := (Eq.refl 0)
    repeat' first
      | refine wSq fun _ hK => ?_
      | refine wRg ?_
      | refine wDr ?_
      | refine VWP_block ?_
      | refine VWP_skip ?_
      | refine VWP_exit ?_
      | refine VWP_ret ?_
      | (refine hK _ ?_; clear hK)
      | (clear hK; refine hK _ ?_; clear hK)
      | (clear hK; clear hK; refine hK _ ?_; clear hK)
      | (clear hK; clear hK; clear hK; refine hK _ ?_; clear hK)
      | (simp only [wHb, reduceCtorEq] at hb <;> try (exfalso; omega))
      | refine wCd (fun hb => ?_) fun hb => ?_
      | refine wCa (c := by first | exact hc) (k := ?_)
      | simp only [go_sem, Nat.reduceLT, Nat.reduceLeDiff, Nat.reduceEqDiff, Nat.reduceAdd, Nat.reduceMul, Nat.reduceSub, reduceCtorEq, F]
      | simp (disch := omega) only [decide_eq_true_eq, if_pos, if_neg, wrap_id, le_maxLen, and_true, true_and, if_true, ite_true]
      | refine wGd (fun hb => ?_) fun hb => ?_
    refine VWP_loopN hE (X := Nat) (fun i => [(0, .fr 53 (rowsI xs)), (4, .str (progN xs i)), (5, .int .i64 i)]) (fun i => []) (fun i => xs.length - i)
      (fun i => i ≤ xs.length) [] 0 (by simp) (by decide) (by decide) (by simp [updV, renV, renA, renC, progN]) (by simp) ?_
    intro i hi
    try simp only
    rcases Nat.lt_or_ge i xs.length with hlt | hge
    · obtain ⟨x, hx⟩ : ∃ x, xs[i]? = some x := ⟨_, List.getElem?_eq_getElem hlt⟩
      have hre := rowsI_at hx
      have hi1 : (i : Int) < (xs.length : Int) := by omega
      have hi0 : (0 : Int) ≤ (i : Int) := by omega
      have hw := wrap_id (x := (i : Int) + 1) (by omega)
      have hxo := hok x (List.mem_of_getElem? hx)
      have k1 := l9Line_ok x hxo (by omega)
      have s1 := lineT_size hxo (by omega)
      have s2 := progN_size (n := xs.length) hok (by omega) i hi
      have hsu := progN_succ hx
      obtain ⟨tx, htx⟩ : ∃ z, progN xs i = z := ⟨_, rfl⟩
      rw [htx] at s2 hsu ⊢
      have z1 : tx.size + (lineT x).size ≤ 9223372036854775807 := by omega
      have z2 : tx.size + (lineT x).size + 1 ≤ 9223372036854775807 := by omega
      unfold InsS.cells at k1
      repeat' first
        | refine VWP_seq_k fun _ hK => ?_
        | refine VWP_region_k hT ?_
        | refine VWP_draw_k hT hM (by kernel_rfl) rfl ?_
        | refine VWP_block ?_
        | refine VWP_skip ?_
        | refine VWP_exit ?_
        | refine VWP_ret ?_
        | (refine hK _ ?_; clear hK)
        | (clear hK; refine hK _ ?_; clear hK)
        | (clear hK; clear hK; refine hK _ ?_; clear hK)
        | (clear hK; clear hK; clear hK; refine hK _ ?_; clear hK)
        | (simp only [decide_eq_true_eq, decide_eq_false_iff_not, bne_iff_ne, ne_eq, Bool.not_eq_true', Bool.not_eq_false', Bool.true_eq_false, Bool.false_eq_true, reduceCtorEq, not_true_eq_false, eq_self] at hb <;> try (exfalso; omega))
        | refine VWP_cond2 _ (by simp only [go_sem, Nat.reduceLT, Nat.reduceLeDiff, Nat.reduceEqDiff, Nat.reduceAdd, Nat.reduceMul, Nat.reduceSub, reduceCtorEq, rowsI_len, hre, hi1, hi0, hlt, one_size, ByteArray.size_append, z1, z2]; rfl) (fun hb => ?_) (fun hb => ?_)
        | refine callK (by simp only [go_sem, Nat.reduceLT, Nat.reduceLeDiff, Nat.reduceEqDiff, Nat.reduceAdd, Nat.reduceMul, Nat.reduceSub, reduceCtorEq, rowsI_len, hre, hi1, hi0, hlt, one_size, ByteArray.size_append, z1, z2, List.mem_cons, List.not_mem_nil, or_false, forall_eq_or_imp, forall_eq, frzOk, frzOkC]; try simp) (args' := _) (by simp only [go_sem, Nat.reduceLT, Nat.reduceLeDiff, Nat.reduceEqDiff, Nat.reduceAdd, Nat.reduceMul, Nat.reduceSub, reduceCtorEq, rowsI_len, hre, hi1, hi0, hlt, one_size, ByteArray.size_append, z1, z2, frzA, frzC]; try rfl) (by first | exact k1) (by simp only [go_sem, Nat.reduceLT, Nat.reduceLeDiff, Nat.reduceEqDiff, Nat.reduceAdd, Nat.reduceMul, Nat.reduceSub, reduceCtorEq, rowsI_len, hre, hi1, hi0, hlt, one_size, ByteArray.size_append, z1, z2]; try simp) (by decide) ?_
        | simp only [go_sem, Nat.reduceLT, Nat.reduceLeDiff, Nat.reduceEqDiff, Nat.reduceAdd, Nat.reduceMul, Nat.reduceSub, reduceCtorEq, rowsI_len, hre, hi1, hi0, hlt, one_size, ByteArray.size_append, z1, z2]
        | simp (disch := omega) only [decide_eq_true_eq, if_pos, if_neg, wrap_id, le_maxLen, and_true, true_and, if_true, ite_true]
        | refine guard_split (by simp only [go_sem, Nat.reduceLT, Nat.reduceLeDiff, Nat.reduceEqDiff, Nat.reduceAdd, Nat.reduceMul, Nat.reduceSub, reduceCtorEq, rowsI_len, hre, hi1, hi0, hlt, one_size, ByteArray.size_append, z1, z2]) rfl (fun hb => ?_) (fun hb => ?_)
      all_goals refine nextN [] rfl [] (i + 1) rfl (by decide) (by decide) hlt (by omega) (by simp [updV, tmL, renV, renA, renC, hw, hsu, ByteArray.append_assoc]) (by simp)
    · obtain rfl : i = xs.length := by omega
      have hn2 : ¬ ((xs.length : Nat) : Int) < (xs.length : Int) := by omega
      have F := And.intro @rowsI_len hn2
      repeat' first
        | refine wSq fun _ hK => ?_
        | refine wRg ?_
        | refine wDr ?_
        | refine VWP_block ?_
        | refine VWP_skip ?_
        | refine VWP_exit ?_
        | refine VWP_ret ?_
        | (refine hK _ ?_; clear hK)
        | (clear hK; refine hK _ ?_; clear hK)
        | (clear hK; clear hK; refine hK _ ?_; clear hK)
        | (clear hK; clear hK; clear hK; refine hK _ ?_; clear hK)
        | (simp only [wHb, reduceCtorEq] at hb <;> try (exfalso; omega))
        | refine wCd (fun hb => ?_) fun hb => ?_
        | simp only [go_sem, Nat.reduceLT, Nat.reduceLeDiff, Nat.reduceEqDiff, Nat.reduceAdd, Nat.reduceMul, Nat.reduceSub, reduceCtorEq, F]
        | simp (disch := omega) only [decide_eq_true_eq, if_pos, if_neg, wrap_id, le_maxLen, and_true, true_and, if_true, ite_true]
        | refine wGd (fun hb => ?_) fun hb => ?_
      refine ret_mk (vs := _) (acc := []) (by simp only [go_sem, Nat.reduceLT, Nat.reduceLeDiff, Nat.reduceEqDiff, Nat.reduceAdd, Nat.reduceMul, Nat.reduceSub, reduceCtorEq, vres]; rfl) (by simp only [go_sem, Nat.reduceLT, Nat.reduceLeDiff, Nat.reduceEqDiff, Nat.reduceAdd, Nat.reduceMul, Nat.reduceSub, reduceCtorEq, wrap, exV, exAs, exA, exCs, exC]; try rfl) (by simp) (by first | rfl | simp) (by simp)
theorem implWriteProg_ok (xs : List InsS) (hl : xs.length ≤ 1048576) (r : ByteArray × Bool) (hr : writeR xs = r) : SatP Tryd.prog 13 [.fr 53 (rowsI xs)] (.tup [.str r.1, .bool r.2]) [] := by
  have hc := implProgOk_ok xs hl
  change SatP _ _ _ (.bool (progB xs)) _ at hc
  cases hp : progB xs with
  | false =>
    rw [hp] at hc
    rw [writeR, if_neg (by rw [hp]; exact fun h => nomatch h)] at hr
    subst hr
    refine satP_of_body hT Tryd.func13 (by kernel_rfl) rfl (rs := [.tmp 2, .tmp 3]) rfl (n := 23) rfl (by simp) rfl (by simp) fun E hE => ?_
    unfold St.init
    have F := (Eq.refl 0)
    repeat' first
      | refine wSq fun _ hK => ?_
      | refine wRg ?_
      | refine wDr ?_
      | refine VWP_block ?_
      | refine VWP_skip ?_
      | refine VWP_exit ?_
      | refine VWP_ret ?_
      | (refine hK _ ?_; clear hK)
      | (clear hK; refine hK _ ?_; clear hK)
      | (clear hK; clear hK; refine hK _ ?_; clear hK)
      | (clear hK; clear hK; clear hK; refine hK _ ?_; clear hK)
      | (simp only [wHb, reduceCtorEq] at hb <;> try (exfalso; omega))
      | refine wCd (fun hb => ?_) fun hb => ?_
      | refine wCa (c := by first | exact hc) (k := ?_)
      | simp only [go_sem, Nat.reduceLT, Nat.reduceLeDiff, Nat.reduceEqDiff, Nat.reduceAdd, Nat.reduceMul, Nat.reduceSub, reduceCtorEq, F]
      | simp (disch := omega) only [decide_eq_true_eq, if_pos, if_neg, wrap_id, le_maxLen, and_true, true_and, if_true, ite_true]
      | refine wGd (fun hb => ?_) fun hb => ?_
    refine ret_mk (vs := _) (acc := []) (by simp only [go_sem, Nat.reduceLT, Nat.reduceLeDiff, Nat.reduceEqDiff, Nat.reduceAdd, Nat.reduceMul, Nat.reduceSub, reduceCtorEq, vres]; rfl) (by simp only [go_sem, Nat.reduceLT, Nat.reduceLeDiff, Nat.reduceEqDiff, Nat.reduceAdd, Nat.reduceMul, Nat.reduceSub, reduceCtorEq, wrap, exV, exAs, exA, exCs, exC]; try rfl) (by simp) (by first | rfl | simp) (by simp)
  | true =>
    rw [hp] at hc
    have hP := hp
    simp only [progB, Bool.and_eq_true, decide_eq_true_eq, List.all_eq_true] at hP
    obtain ⟨h30, hok⟩ := hP
    rw [writeR, if_pos hp] at hr
    subst hr
    refine satP_of_body hT Tryd.func13 (by kernel_rfl) rfl (rs := [.tmp 2, .tmp 3]) rfl (n := 23) rfl (by simp) rfl (by simp) fun E hE => ?_
    unfold St.init
    have F := @rowsI_len
    repeat' first
      | refine wSq fun _ hK => ?_
      | refine wRg ?_
      | refine wDr ?_
      | refine VWP_block ?_
      | refine VWP_skip ?_
      | refine VWP_exit ?_
      | refine VWP_ret ?_
      | (refine hK _ ?_; clear hK)
      | (clear hK; refine hK _ ?_; clear hK)
      | (clear hK; clear hK; refine hK _ ?_; clear hK)
      | (clear hK; clear hK; clear hK; refine hK _ ?_; clear hK)
      | (simp only [wHb, reduceCtorEq] at hb <;> try (exfalso; omega))
      | refine wCd (fun hb => ?_) fun hb => ?_
      | refine wCa (c := by first | exact hc) (k := ?_)
      | simp only [go_sem, Nat.reduceLT, Nat.reduceLeDiff, Nat.reduceEqDiff, Nat.reduceAdd, Nat.reduceMul, Nat.reduceSub, reduceCtorEq, F]
      | simp (disch := omega) only [decide_eq_true_eq, if_pos, if_neg, wrap_id, le_maxLen, and_true, true_and, if_true, ite_true]
      | refine wGd (fun hb => ?_) fun hb => ?_
    refine VWP_loopN hE (X := Nat) (fun i => [(4, .str (progN xs i)), (10, .fr 53 (rowsI xs)), (11, .int .i64 xs.length), (12, .int .i64 i)]) (fun i => []) (fun i => xs.length - i)
      (fun i => i ≤ xs.length) [] 0 (by simp) (by decide) (by decide) (by simp [updV, renV, renA, renC, progN, rowsI_len]) (by simp) ?_
    intro i hi
    try simp only
    rcases Nat.lt_or_ge i xs.length with hlt | hge
    · obtain ⟨x, hx⟩ : ∃ x, xs[i]? = some x := ⟨_, List.getElem?_eq_getElem hlt⟩
      have hre := rowsI_at hx
      have hi1 : (i : Int) < (xs.length : Int) := by omega
      have hi0 : (0 : Int) ≤ (i : Int) := by omega
      have hw := wrap_id (x := (i : Int) + 1) (by omega)
      have hxo := hok x (List.mem_of_getElem? hx)
      have k1 := instrLine_ok x hxo (by omega)
      have s1 := lineT_size hxo (by omega)
      have s2 := progN_size (n := xs.length) hok (by omega) i hi
      have hsu := progN_succ hx
      obtain ⟨tx, htx⟩ : ∃ z, progN xs i = z := ⟨_, rfl⟩
      rw [htx] at s2 hsu ⊢
      have z1 : (lineT x).size + 1 ≤ 9223372036854775807 := by omega
      have z2 : tx.size + ((lineT x).size + 1) ≤ 9223372036854775807 := by omega
      unfold InsS.cells at k1
      repeat' first
        | refine VWP_seq_k fun _ hK => ?_
        | refine VWP_region_k hT ?_
        | refine VWP_draw_k hT hM (by kernel_rfl) rfl ?_
        | refine VWP_block ?_
        | refine VWP_skip ?_
        | refine VWP_exit ?_
        | refine VWP_ret ?_
        | (refine hK _ ?_; clear hK)
        | (clear hK; refine hK _ ?_; clear hK)
        | (clear hK; clear hK; refine hK _ ?_; clear hK)
        | (clear hK; clear hK; clear hK; refine hK _ ?_; clear hK)
        | (simp only [decide_eq_true_eq, decide_eq_false_iff_not, bne_iff_ne, ne_eq, Bool.not_eq_true', Bool.not_eq_false', Bool.true_eq_false, Bool.false_eq_true, reduceCtorEq, not_true_eq_false, eq_self] at hb <;> try (exfalso; omega))
        | refine VWP_cond2 _ (by simp only [go_sem, Nat.reduceLT, Nat.reduceLeDiff, Nat.reduceEqDiff, Nat.reduceAdd, Nat.reduceMul, Nat.reduceSub, reduceCtorEq, rowsI_len, hre, hi1, hi0, hlt, one_size, ByteArray.size_append, z1, z2]; rfl) (fun hb => ?_) (fun hb => ?_)
        | refine callK (by simp only [go_sem, Nat.reduceLT, Nat.reduceLeDiff, Nat.reduceEqDiff, Nat.reduceAdd, Nat.reduceMul, Nat.reduceSub, reduceCtorEq, rowsI_len, hre, hi1, hi0, hlt, one_size, ByteArray.size_append, z1, z2, List.mem_cons, List.not_mem_nil, or_false, forall_eq_or_imp, forall_eq, frzOk, frzOkC]; try simp) (args' := _) (by simp only [go_sem, Nat.reduceLT, Nat.reduceLeDiff, Nat.reduceEqDiff, Nat.reduceAdd, Nat.reduceMul, Nat.reduceSub, reduceCtorEq, rowsI_len, hre, hi1, hi0, hlt, one_size, ByteArray.size_append, z1, z2, frzA, frzC]; try rfl) (by first | exact k1) (by simp only [go_sem, Nat.reduceLT, Nat.reduceLeDiff, Nat.reduceEqDiff, Nat.reduceAdd, Nat.reduceMul, Nat.reduceSub, reduceCtorEq, rowsI_len, hre, hi1, hi0, hlt, one_size, ByteArray.size_append, z1, z2]; try simp) (by decide) ?_
        | simp only [go_sem, Nat.reduceLT, Nat.reduceLeDiff, Nat.reduceEqDiff, Nat.reduceAdd, Nat.reduceMul, Nat.reduceSub, reduceCtorEq, rowsI_len, hre, hi1, hi0, hlt, one_size, ByteArray.size_append, z1, z2]
        | simp (disch := omega) only [decide_eq_true_eq, if_pos, if_neg, wrap_id, le_maxLen, and_true, true_and, if_true, ite_true]
        | refine guard_split (by simp only [go_sem, Nat.reduceLT, Nat.reduceLeDiff, Nat.reduceEqDiff, Nat.reduceAdd, Nat.reduceMul, Nat.reduceSub, reduceCtorEq, rowsI_len, hre, hi1, hi0, hlt, one_size, ByteArray.size_append, z1, z2]) rfl (fun hb => ?_) (fun hb => ?_)
      all_goals refine nextN [] rfl [] (i + 1) rfl (by decide) (by decide) hlt (by omega) (by simp [updV, tmL, renV, renA, renC, hw, hsu, ByteArray.append_assoc]) (by simp)
    · obtain rfl : i = xs.length := by omega
      have hn2 : ¬ ((xs.length : Nat) : Int) < (xs.length : Int) := by omega
      have F := And.intro @rowsI_len hn2
      repeat' first
        | refine wSq fun _ hK => ?_
        | refine wRg ?_
        | refine wDr ?_
        | refine VWP_block ?_
        | refine VWP_skip ?_
        | refine VWP_exit ?_
        | refine VWP_ret ?_
        | (refine hK _ ?_; clear hK)
        | (clear hK; refine hK _ ?_; clear hK)
        | (clear hK; clear hK; refine hK _ ?_; clear hK)
        | (clear hK; clear hK; clear hK; refine hK _ ?_; clear hK)
        | (simp only [wHb, reduceCtorEq] at hb <;> try (exfalso; omega))
        | refine wCd (fun hb => ?_) fun hb => ?_
        | simp only [go_sem, Nat.reduceLT, Nat.reduceLeDiff, Nat.reduceEqDiff, Nat.reduceAdd, Nat.reduceMul, Nat.reduceSub, reduceCtorEq, F]
        | simp (disch := omega) only [decide_eq_true_eq, if_pos, if_neg, wrap_id, le_maxLen, and_true, true_and, if_true, ite_true]
        | refine wGd (fun hb => ?_) fun hb => ?_
      refine ret_mk (vs := _) (acc := []) (by simp only [go_sem, Nat.reduceLT, Nat.reduceLeDiff, Nat.reduceEqDiff, Nat.reduceAdd, Nat.reduceMul, Nat.reduceSub, reduceCtorEq, vres]; rfl) (by simp only [go_sem, Nat.reduceLT, Nat.reduceLeDiff, Nat.reduceEqDiff, Nat.reduceAdd, Nat.reduceMul, Nat.reduceSub, reduceCtorEq, wrap, exV, exAs, exA, exCs, exC]; try rfl) (by simp) (by first | rfl | simp) (by simp)
end Go.Proofs.YtchkbgekmoileaaDoor
