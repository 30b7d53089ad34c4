/- What the program's DescText gives. -/
import Derived.Test.YtchkbgekmoileaaDoorST3
namespace Go.Proofs.YtchkbgekmoileaaDoor
open Go Go.RowKit
set_option linter.unusedVariables false
set_option linter.unusedSimpArgs false
set_option maxRecDepth 100000
set_option maxHeartbeats 16000000
attribute [local irreducible] VWP vops vdraw contV contD CallK Guard GuardV NextL Puts Runs RetOK RetQ RetO RetQO thenQ blockQ
attribute [local irreducible] NextN

theorem implDescText_ok (d : DescS) (hl : d.entries.length ≤ 1048576) : SatP Tryd.prog 8 [.agg (d.cells 46)] (.str (descTextR d)) [] := by
  have hc := implDescOk_ok d hl
  cases hp : bP (DescP d) with
  | false =>
    rw [hp] at hc
    have hr : descTextR d = .empty := by rw [descTextR, if_neg (by rw [hp]; exact fun h => nomatch h)]
    unfold DescS.cells at hc ⊢
    refine satP_of_body hT Tryd.func8 (by kernel_rfl) rfl (rs := [.tmp 2]) rfl (n := 51) rfl (by simp) rfl (by simp) fun E hE => ?_
    unfold St.init
    have F := (Eq.refl 0)
    repeat' first
      | refine wSq fun _ hK => ?_
      | refine wRg ?_
      | refine wDr ?_
      | refine VWP_block ?_
      | refine VWP_skip ?_
      | refine VWP_exit ?_
      | refine VWP_ret ?_
      | (refine hK _ ?_; clear hK)
      | (clear hK; refine hK _ ?_; clear hK)
      | (clear hK; clear hK; refine hK _ ?_; clear hK)
      | (clear hK; clear hK; clear hK; refine hK _ ?_; clear hK)
      | (simp only [wHb, reduceCtorEq] at hb <;> try (exfalso; omega))
      | refine wCd (fun hb => ?_) fun hb => ?_
      | refine wCa (c := by first | exact hc) (k := ?_)
      | simp only [go_sem, Nat.reduceLT, Nat.reduceLeDiff, Nat.reduceEqDiff, Nat.reduceAdd, Nat.reduceMul, Nat.reduceSub, reduceCtorEq, F]
      | simp (disch := omega) only [decide_eq_true_eq, if_pos, if_neg, wrap_id, le_maxLen, and_true, true_and, if_true, ite_true]
      | refine wGd (fun hb => ?_) fun hb => ?_
    refine wLf ?_
    rw [hr]
    rfl
  | true =>
    rw [hp] at hc
    have hP : DescP d := bP_is hp
    obtain ⟨_, hok, hown, hst, hl0, hl6⟩ := hP
    have hoks : ∀ e ∈ d.entries, e.ok = true := fun e he => by
      obtain ⟨i, hi⟩ := List.getElem?_of_mem he
      exact hok i e hi
    have hr : descTextR d = descT d := by rw [descTextR, if_pos hp]
    rw [hr]
    simp only [inB, Bool.and_eq_true, decide_eq_true_eq] at hown hst
    have ho := itoa_ok d.owner (by omega) (by omega)
    have hos := told_size (n := d.owner) (by omega) (by omega)
    have hss := statT_size d.status
    obtain ⟨out, hout⟩ : ∃ o, told d.owner ++ ⟨#[32]⟩ ++ statT d.status = o := ⟨_, rfl⟩
    have houts : out.size ≤ 31 := by rw [← hout]; simp only [ByteArray.size_append, one_size]; omega
    have hd : descT d = textN out d.entries d.entries.length := by rw [descT, hout]
    rw [hd]
    have hz1 : (told d.owner).size + 1 ≤ 9223372036854775807 := by omega
    have hz2 : (told d.owner).size + 1 + (statT d.status).size ≤ 9223372036854775807 := by omega
    unfold DescS.cells at hc ⊢
    have key : ∀ st, d.status = st → (st = 0 ∨ st = 1 ∨ st = 2) := fun st h => by omega
    obtain ⟨st, hst2⟩ : ∃ st, d.status = st := ⟨_, rfl⟩
    have hcase := key st hst2
    rw [hst2] at hc hout hz2 ⊢
    clear hd key hst hss hr hp
    refine satP_of_body hT Tryd.func8 (by kernel_rfl) rfl (rs := [.tmp 2]) rfl (n := 51) rfl (by simp) rfl (by simp) fun E hE => ?_
    unfold St.init
    have hs0 : 0 ≤ st := by omega
    have hs1 : st < 3 := by omega
    rcases hcase with hs | hs | hs
    all_goals
      have hs2 := congrArg Int.toNat hs
      rw [hs] at hout hz2
      simp only [statT] at hout hz2
      try simp only [Int.reduceEq, if_false, if_true, ite_true, ite_false] at hout hz2
      try simp only [Int.reduceToNat] at hs2
      repeat' first
        | refine VWP_seq_k fun _ hK => ?_
        | refine VWP_region_k hT ?_
        | refine VWP_draw_k hT hM (by kernel_rfl) rfl ?_
        | refine VWP_block ?_
        | refine VWP_skip ?_
        | refine VWP_exit ?_
        | refine VWP_ret ?_
        | (refine hK _ ?_; clear hK)
        | (clear hK; refine hK _ ?_; clear hK)
        | (clear hK; clear hK; refine hK _ ?_; clear hK)
        | (clear hK; clear hK; clear hK; refine hK _ ?_; clear hK)
        | (simp only [decide_eq_true_eq, decide_eq_false_iff_not, bne_iff_ne, ne_eq, Bool.not_eq_true', Bool.not_eq_false', Bool.true_eq_false, Bool.false_eq_true, reduceCtorEq, not_true_eq_false, eq_self] at hb <;> try (exfalso; omega))
        | refine VWP_cond2 _ (by simp only [go_sem, Nat.reduceLT, Nat.reduceLeDiff, Nat.reduceEqDiff, Nat.reduceAdd, Nat.reduceMul, Nat.reduceSub, reduceCtorEq, one_size, ByteArray.size_append, hz1, hz2, hout, hs0, hs1, hs2]; rfl) (fun hb => ?_) (fun hb => ?_)
        | refine callK (by simp only [go_sem, Nat.reduceLT, Nat.reduceLeDiff, Nat.reduceEqDiff, Nat.reduceAdd, Nat.reduceMul, Nat.reduceSub, reduceCtorEq, one_size, ByteArray.size_append, hz1, hz2, hout, hs0, hs1, hs2, List.mem_cons, List.not_mem_nil, or_false, forall_eq_or_imp, forall_eq, frzOk, frzOkC]; try simp) (args' := _) (by simp only [go_sem, Nat.reduceLT, Nat.reduceLeDiff, Nat.reduceEqDiff, Nat.reduceAdd, Nat.reduceMul, Nat.reduceSub, reduceCtorEq, one_size, ByteArray.size_append, hz1, hz2, hout, hs0, hs1, hs2, frzA, frzC]; try rfl) (by first | exact hc | exact ho) (by simp only [go_sem, Nat.reduceLT, Nat.reduceLeDiff, Nat.reduceEqDiff, Nat.reduceAdd, Nat.reduceMul, Nat.reduceSub, reduceCtorEq, one_size, ByteArray.size_append, hz1, hz2, hout, hs0, hs1, hs2]; try simp) (by decide) ?_
        | simp only [go_sem, Nat.reduceLT, Nat.reduceLeDiff, Nat.reduceEqDiff, Nat.reduceAdd, Nat.reduceMul, Nat.reduceSub, reduceCtorEq, one_size, ByteArray.size_append, hz1, hz2, hout, hs0, hs1, hs2]
        | simp (disch := omega) only [decide_eq_true_eq, if_pos, if_neg, wrap_id, le_maxLen, and_true, true_and, if_true, ite_true]
        | refine guard_split (by simp only [go_sem, Nat.reduceLT, Nat.reduceLeDiff, Nat.reduceEqDiff, Nat.reduceAdd, Nat.reduceMul, Nat.reduceSub, reduceCtorEq, one_size, ByteArray.size_append, hz1, hz2, hout, hs0, hs1, hs2]) rfl (fun hb => ?_) (fun hb => ?_)
      refine VWP_loopN hE (X := Nat) (fun i => [(3, .str (textN out d.entries i)), (19, .fr 46 (rowsE d.entries)), (20, .int .i64 d.entries.length), (21, .int .i64 i)]) (fun i => []) (fun i => d.entries.length - i)
        (fun i => i ≤ d.entries.length) [] 0 (by simp) (by decide) (by decide) (by simp [updV, renV, renA, renC, textN_zero, rowsE_len]) (by simp) ?_
      intro i hi
      try simp only
      rcases Nat.lt_or_ge i d.entries.length with hlt | hge
      · obtain ⟨e, he⟩ : ∃ e, d.entries[i]? = some e := ⟨_, List.getElem?_eq_getElem hlt⟩
        have hre := rowsE_at he
        obtain ⟨s1, s2, s3, s4, ⟨b1, b2⟩, ⟨b3, b4⟩, ⟨b5, b6⟩, ⟨b7, b8⟩⟩ := ok_size (hoks e (List.mem_of_getElem? he))
        have hts := textN_size (out := out) hoks i hi
        have hi1 : (i : Int) < (d.entries.length : Int) := by omega
        have hi0 : (0 : Int) ≤ (i : Int) := by omega
        have hw := wrap_id (x := (i : Int) + 1) (by omega)
        have k1 := itoa_ok _ b1 b2
        have k2 := itoa_ok _ b3 b4
        have k3 := itoa_ok _ b5 b6
        have k4 := itoa_ok _ b7 b8
        have hsu := textN_succ (out := out) he
        obtain ⟨tx, htx⟩ : ∃ z, textN out d.entries i = z := ⟨_, rfl⟩
        rw [htx] at hts hsu ⊢
        have z1 : 1 + (told e.object).size ≤ 9223372036854775807 := by omega
        have z2 : 1 + (told e.object).size + 1 ≤ 9223372036854775807 := by omega
        have z3 : 1 + (told e.object).size + 1 + (told e.version).size ≤ 9223372036854775807 := by omega
        have z4 : 1 + (told e.object).size + 1 + (told e.version).size + 1 ≤ 9223372036854775807 := by omega
        have z5 : 1 + (told e.object).size + 1 + (told e.version).size + 1 + (told e.old).size ≤ 9223372036854775807 := by omega
        have z6 : tx.size + (1 + (told e.object).size + 1 + (told e.version).size + 1 + (told e.old).size) ≤ 9223372036854775807 := by omega
        have z7 : 1 + (told e.new).size ≤ 9223372036854775807 := by omega
        have z8 : tx.size + (1 + (told e.object).size + 1 + (told e.version).size + 1 + (told e.old).size) + (1 + (told e.new).size) ≤ 9223372036854775807 := by omega
        cases hwr : e.write
        all_goals
          simp only [EntS.enc, hwr] at hre
          simp only [entT, hwr, Bool.false_eq_true, if_false, if_true] at hsu
          repeat' first
            | refine VWP_seq_k fun _ hK => ?_
            | refine VWP_region_k hT ?_
            | refine VWP_draw_k hT hM (by kernel_rfl) rfl ?_
            | refine VWP_block ?_
            | refine VWP_skip ?_
            | refine VWP_exit ?_
            | refine VWP_ret ?_
            | (refine hK _ ?_; clear hK)
            | (clear hK; refine hK _ ?_; clear hK)
            | (clear hK; clear hK; refine hK _ ?_; clear hK)
            | (clear hK; clear hK; clear hK; refine hK _ ?_; clear hK)
            | (simp only [decide_eq_true_eq, decide_eq_false_iff_not, bne_iff_ne, ne_eq, Bool.not_eq_true', Bool.not_eq_false', Bool.true_eq_false, Bool.false_eq_true, reduceCtorEq, not_true_eq_false, eq_self] at hb <;> try (exfalso; omega))
            | refine VWP_cond2 _ (by simp only [go_sem, Nat.reduceLT, Nat.reduceLeDiff, Nat.reduceEqDiff, Nat.reduceAdd, Nat.reduceMul, Nat.reduceSub, reduceCtorEq, rowsE_len, hre, hi1, hi0, hlt, one_size, ByteArray.size_append, z1, z2, z3, z4, z5, z6, z7, z8]; rfl) (fun hb => ?_) (fun hb => ?_)
            | refine callK (by simp only [go_sem, Nat.reduceLT, Nat.reduceLeDiff, Nat.reduceEqDiff, Nat.reduceAdd, Nat.reduceMul, Nat.reduceSub, reduceCtorEq, rowsE_len, hre, hi1, hi0, hlt, one_size, ByteArray.size_append, z1, z2, z3, z4, z5, z6, z7, z8, List.mem_cons, List.not_mem_nil, or_false, forall_eq_or_imp, forall_eq, frzOk, frzOkC]; try simp) (args' := _) (by simp only [go_sem, Nat.reduceLT, Nat.reduceLeDiff, Nat.reduceEqDiff, Nat.reduceAdd, Nat.reduceMul, Nat.reduceSub, reduceCtorEq, rowsE_len, hre, hi1, hi0, hlt, one_size, ByteArray.size_append, z1, z2, z3, z4, z5, z6, z7, z8, frzA, frzC]; try rfl) (by first | exact k1 | exact k2 | exact k3 | exact k4) (by simp only [go_sem, Nat.reduceLT, Nat.reduceLeDiff, Nat.reduceEqDiff, Nat.reduceAdd, Nat.reduceMul, Nat.reduceSub, reduceCtorEq, rowsE_len, hre, hi1, hi0, hlt, one_size, ByteArray.size_append, z1, z2, z3, z4, z5, z6, z7, z8]; try simp) (by decide) ?_
            | simp only [go_sem, Nat.reduceLT, Nat.reduceLeDiff, Nat.reduceEqDiff, Nat.reduceAdd, Nat.reduceMul, Nat.reduceSub, reduceCtorEq, rowsE_len, hre, hi1, hi0, hlt, one_size, ByteArray.size_append, z1, z2, z3, z4, z5, z6, z7, z8]
            | simp (disch := omega) only [decide_eq_true_eq, if_pos, if_neg, wrap_id, le_maxLen, and_true, true_and, if_true, ite_true]
            | refine guard_split (by simp only [go_sem, Nat.reduceLT, Nat.reduceLeDiff, Nat.reduceEqDiff, Nat.reduceAdd, Nat.reduceMul, Nat.reduceSub, reduceCtorEq, rowsE_len, hre, hi1, hi0, hlt, one_size, ByteArray.size_append, z1, z2, z3, z4, z5, z6, z7, z8]) rfl (fun hb => ?_) (fun hb => ?_)
          all_goals refine nextN [] rfl [] (i + 1) rfl (by decide) (by decide) hlt (by omega) (by simp [updV, tmL, renV, renA, renC, hw, hsu, ByteArray.append_assoc]) (by simp)
      · obtain rfl : i = d.entries.length := by omega
        have hn2 : ¬ ((d.entries.length : Nat) : Int) < (d.entries.length : Int) := by omega
        have F := And.intro @rowsE_len hn2
        repeat' first
          | refine wSq fun _ hK => ?_
          | refine wRg ?_
          | refine wDr ?_
          | refine VWP_block ?_
          | refine VWP_skip ?_
          | refine VWP_exit ?_
          | refine VWP_ret ?_
          | (refine hK _ ?_; clear hK)
          | (clear hK; refine hK _ ?_; clear hK)
          | (clear hK; clear hK; refine hK _ ?_; clear hK)
          | (clear hK; clear hK; clear hK; refine hK _ ?_; clear hK)
          | (simp only [wHb, reduceCtorEq] at hb <;> try (exfalso; omega))
          | refine wCd (fun hb => ?_) fun hb => ?_
          | simp only [go_sem, Nat.reduceLT, Nat.reduceLeDiff, Nat.reduceEqDiff, Nat.reduceAdd, Nat.reduceMul, Nat.reduceSub, reduceCtorEq, F]
          | simp (disch := omega) only [decide_eq_true_eq, if_pos, if_neg, wrap_id, le_maxLen, and_true, true_and, if_true, ite_true]
          | refine wGd (fun hb => ?_) fun hb => ?_
        all_goals refine wLf ?_
        all_goals rfl
end Go.Proofs.YtchkbgekmoileaaDoor
