/- What both DescText give. -/
import Derived.Test.YtchkbgekmoileaaDoorST2
import Derived.Test.YtchkbgekmoileaaDoorDE
import Derived.Test.YtchkbgekmoileaaDoorEf
namespace Go.Proofs.YtchkbgekmoileaaDoor
open Go Go.RowKit
set_option linter.unusedVariables false
set_option linter.unusedSimpArgs false
set_option maxRecDepth 100000
set_option maxHeartbeats 16000000
attribute [local irreducible] VWP vops vdraw contV contD CallK Guard GuardV NextL Puts Runs RetOK RetQ RetO RetQO thenQ blockQ
attribute [local irreducible] NextN

theorem bP_is {p : Prop} (h : bP p = true) : p := by
  unfold bP at h
  exact @of_decide_eq_true p (Classical.propDecidable p) h
/-- An entry, told. -/
def entT (e : EntS) : ByteArray := if e.write = true then ⟨#[32]⟩ ++ (told e.object ++ (⟨#[64]⟩ ++ (told e.version ++ (⟨#[58]⟩ ++ (told e.old ++ (⟨#[62]⟩ ++ told e.new)))))) else ⟨#[32]⟩ ++ (told e.object ++ (⟨#[64]⟩ ++ (told e.version ++ (⟨#[58]⟩ ++ told e.old))))
def textN (out : ByteArray) (es : List EntS) (i : Nat) : ByteArray := (es.take i).foldl (fun o e => o ++ entT e) out
theorem textN_zero (out : ByteArray) (es : List EntS) : textN out es 0 = out := rfl
theorem textN_succ {out : ByteArray} {es : List EntS} {i : Nat} {e : EntS} (h : es[i]? = some e) : textN out es (i + 1) = textN out es i ++ entT e := by
  unfold textN
  rw [List.take_add_one, h, List.foldl_append]
  rfl
theorem ok_size {e : EntS} (h : e.ok = true) : (told e.object).size ≤ 21 ∧ (told e.version).size ≤ 21 ∧ (told e.old).size ≤ 21 ∧ (told e.new).size ≤ 21 ∧ (-9223372036854775808 ≤ e.object ∧ e.object ≤ 9223372036854775807) ∧ (-9223372036854775808 ≤ e.version ∧ e.version ≤ 9223372036854775807) ∧ (-9223372036854775808 ≤ e.old ∧ e.old ≤ 9223372036854775807) ∧ (-9223372036854775808 ≤ e.new ∧ e.new ≤ 9223372036854775807) := by
  simp only [EntS.ok, inB, Bool.and_eq_true, decide_eq_true_eq] at h
  obtain ⟨⟨⟨⟨h1, h2⟩, h3⟩, h4⟩, _⟩ := h
  exact ⟨told_size (by omega) (by omega), told_size (by omega) (by omega), told_size (by omega) (by omega), told_size (by omega) (by omega), by omega, by omega, by omega, by omega⟩
theorem entT_size {e : EntS} (h : e.ok = true) : (entT e).size ≤ 100 := by
  obtain ⟨a, b, c, d, _⟩ := ok_size h
  unfold entT
  split <;> simp only [ByteArray.size_append, one_size] <;> omega
theorem textN_size {out : ByteArray} {es : List EntS} (h : ∀ e ∈ es, e.ok = true) : ∀ i, i ≤ es.length → (textN out es i).size ≤ out.size + 100 * i
  | 0, _ => Nat.le_refl _
  | i + 1, hi => by
    have he : es[i]? = some es[i] := List.getElem?_eq_getElem (by omega)
    rw [textN_succ he, ByteArray.size_append]
    have h1 := textN_size (out := out) h i (by omega)
    have h2 := entT_size (h es[i] (List.getElem_mem _))
    omega
def statT (s : Int) : ByteArray := if s = 0 then ⟨#[117, 110, 100, 101, 99, 105, 100, 101, 100]⟩ else if s = 1 then ⟨#[99, 111, 109, 109, 105, 116, 116, 101, 100]⟩ else ⟨#[102, 97, 105, 108, 101, 100]⟩
theorem statT_size (s : Int) : (statT s).size ≤ 9 := by
  unfold statT
  split
  · decide
  · split <;> decide
def descT (d : DescS) : ByteArray := textN (told d.owner ++ ⟨#[32]⟩ ++ statT d.status) d.entries d.entries.length
noncomputable def descTextR (d : DescS) : ByteArray := if bP (DescP d) = true then descT d else .empty
theorem specDescText_ok (d : DescS) (hl : d.entries.length ≤ 1048576) : SatP Tryd.prog 6 [.agg (d.cells 46)] (.str (descTextR d)) [] := by
  have hc := specDescOk_ok d hl
  cases hp : bP (DescP d) with
  | false =>
    rw [hp] at hc
    have hr : descTextR d = .empty := by rw [descTextR, if_neg (by rw [hp]; exact fun h => nomatch h)]
    unfold DescS.cells at hc ⊢
    refine satP_of_body hT Tryd.func6 (by kernel_rfl) rfl (rs := [.tmp 2]) rfl (n := 56) rfl (by simp) rfl (by simp) fun E hE => ?_
    unfold St.init
    have F := (Eq.refl 0)
    repeat' first
      | refine wSq fun _ hK => ?_
      | refine wRg ?_
      | refine wDr ?_
      | refine VWP_block ?_
      | refine VWP_skip ?_
      | refine VWP_exit ?_
      | refine VWP_ret ?_
      | (refine hK _ ?_; clear hK)
      | (clear hK; refine hK _ ?_; clear hK)
      | (clear hK; clear hK; refine hK _ ?_; clear hK)
      | (clear hK; clear hK; clear hK; refine hK _ ?_; clear hK)
      | (simp only [wHb, reduceCtorEq] at hb <;> try (exfalso; omega))
      | refine wCd (fun hb => ?_) fun hb => ?_
      | refine wCa (c := by first | exact hc) (k := ?_)
      | simp only [go_sem, Nat.reduceLT, Nat.reduceLeDiff, Nat.reduceEqDiff, Nat.reduceAdd, Nat.reduceMul, Nat.reduceSub, reduceCtorEq, F]
      | simp (disch := omega) only [decide_eq_true_eq, if_pos, if_neg, wrap_id, le_maxLen, and_true, true_and, if_true, ite_true]
      | refine wGd (fun hb => ?_) fun hb => ?_
    refine wLf ?_
    rw [hr]
    rfl
  | true =>
    rw [hp] at hc
    have hP : DescP d := bP_is hp
    obtain ⟨_, hok, hown, hst, hl0, hl6⟩ := hP
    have hoks : ∀ e ∈ d.entries, e.ok = true := fun e he => by
      obtain ⟨i, hi⟩ := List.getElem?_of_mem he
      exact hok i e hi
    have hr : descTextR d = descT d := by rw [descTextR, if_pos hp]
    rw [hr]
    simp only [inB, Bool.and_eq_true, decide_eq_true_eq] at hown hst
    have ho := l1T_ok (n := d.owner) (by omega) (by omega)
    have hos := told_size (n := d.owner) (by omega) (by omega)
    have hss := statT_size d.status
    obtain ⟨out, hout⟩ : ∃ o, told d.owner ++ ⟨#[32]⟩ ++ statT d.status = o := ⟨_, rfl⟩
    have houts : out.size ≤ 31 := by rw [← hout]; simp only [ByteArray.size_append, one_size]; omega
    have hd : descT d = textN out d.entries d.entries.length := by rw [descT, hout]
    rw [hd]
    have hz1 : (told d.owner).size + 1 ≤ 9223372036854775807 := by omega
    have hz2 : (told d.owner).size + 1 + (statT d.status).size ≤ 9223372036854775807 := by omega
    unfold DescS.cells at hc ⊢
    have key : ∀ st, d.status = st → (st = 0 ∨ st = 1 ∨ st = 2) := fun st h => by omega
    obtain ⟨st, hst2⟩ : ∃ st, d.status = st := ⟨_, rfl⟩
    have hcase := key st hst2
    rw [hst2] at hc hout hz2 ⊢
    clear hd key hst hss hr hp
    refine satP_of_body hT Tryd.func6 (by kernel_rfl) rfl (rs := [.tmp 2]) rfl (n := 56) rfl (by simp) rfl (by simp) fun E hE => ?_
    unfold St.init
    have hs0 : 0 ≤ st := by omega
    have hs1 : st < 3 := by omega
    rcases hcase with hs | hs | hs
    all_goals
      have hs2 := congrArg Int.toNat hs
      rw [hs] at hout hz2
      simp only [statT] at hout hz2
      try simp only [Int.reduceEq, if_false, if_true, ite_true, ite_false] at hout hz2
      try simp only [Int.reduceToNat] at hs2
      repeat' first
        | refine VWP_seq_k fun _ hK => ?_
        | refine VWP_region_k hT ?_
        | refine VWP_draw_k hT hM (by kernel_rfl) rfl ?_
        | refine VWP_block ?_
        | refine VWP_skip ?_
        | refine VWP_exit ?_
        | refine VWP_ret ?_
        | (refine hK _ ?_; clear hK)
        | (clear hK; refine hK _ ?_; clear hK)
        | (clear hK; clear hK; refine hK _ ?_; clear hK)
        | (clear hK; clear hK; clear hK; refine hK _ ?_; clear hK)
        | (simp only [decide_eq_true_eq, decide_eq_false_iff_not, bne_iff_ne, ne_eq, Bool.not_eq_true', Bool.not_eq_false', Bool.true_eq_false, Bool.false_eq_true, reduceCtorEq, not_true_eq_false, eq_self] at hb <;> try (exfalso; omega))
        | refine VWP_cond2 _ (by simp only [go_sem, Nat.reduceLT, Nat.reduceLeDiff, Nat.reduceEqDiff, Nat.reduceAdd, Nat.reduceMul, Nat.reduceSub, reduceCtorEq, one_size, ByteArray.size_append, hz1, hz2, hout, hs0, hs1, hs2]; rfl) (fun hb => ?_) (fun hb => ?_)
        | refine callK (by simp only [go_sem, Nat.reduceLT, Nat.reduceLeDiff, Nat.reduceEqDiff, Nat.reduceAdd, Nat.reduceMul, Nat.reduceSub, reduceCtorEq, one_size, ByteArray.size_append, hz1, hz2, hout, hs0, hs1, hs2, List.mem_cons, List.not_mem_nil, or_false, forall_eq_or_imp, forall_eq, frzOk, frzOkC]; try simp) (args' := _) (by simp only [go_sem, Nat.reduceLT, Nat.reduceLeDiff, Nat.reduceEqDiff, Nat.reduceAdd, Nat.reduceMul, Nat.reduceSub, reduceCtorEq, one_size, ByteArray.size_append, hz1, hz2, hout, hs0, hs1, hs2, frzA, frzC]; try rfl) (by first | exact hc | exact ho) (by simp only [go_sem, Nat.reduceLT, Nat.reduceLeDiff, Nat.reduceEqDiff, Nat.reduceAdd, Nat.reduceMul, Nat.reduceSub, reduceCtorEq, one_size, ByteArray.size_append, hz1, hz2, hout, hs0, hs1, hs2]; try simp) (by decide) ?_
        | simp only [go_sem, Nat.reduceLT, Nat.reduceLeDiff, Nat.reduceEqDiff, Nat.reduceAdd, Nat.reduceMul, Nat.reduceSub, reduceCtorEq, one_size, ByteArray.size_append, hz1, hz2, hout, hs0, hs1, hs2]
        | simp (disch := omega) only [decide_eq_true_eq, if_pos, if_neg, wrap_id, le_maxLen, and_true, true_and, if_true, ite_true]
        | refine guard_split (by simp only [go_sem, Nat.reduceLT, Nat.reduceLeDiff, Nat.reduceEqDiff, Nat.reduceAdd, Nat.reduceMul, Nat.reduceSub, reduceCtorEq, one_size, ByteArray.size_append, hz1, hz2, hout, hs0, hs1, hs2]) rfl (fun hb => ?_) (fun hb => ?_)
      refine VWP_loopN hE (X := Nat) (fun i => [(1, .bp 0 0), (3, .str (textN out d.entries i)), (4, .int .i64 i)]) (fun i => [(0, .box [.int .i64 d.owner, .int .i64 st, .fr 46 (rowsE d.entries)])]) (fun i => d.entries.length - i)     (fun i => i ≤ d.entries.length) [0] 0 (by simp) (by decide) (by decide) (by simp [updV, renV, renA, renC, textN_zero]) (by simp [updH, renH_at, renE, renC]) ?_
      intro i hi
      try simp only
      rcases Nat.lt_or_ge i d.entries.length with hlt | hge
      · obtain ⟨e, he⟩ : ∃ e, d.entries[i]? = some e := ⟨_, List.getElem?_eq_getElem hlt⟩
        have hre := rowsE_at he
        obtain ⟨s1, s2, s3, s4, ⟨b1, b2⟩, ⟨b3, b4⟩, ⟨b5, b6⟩, ⟨b7, b8⟩⟩ := ok_size (hoks e (List.mem_of_getElem? he))
        have hts := textN_size (out := out) hoks i hi
        have hi1 : (i : Int) < (d.entries.length : Int) := by omega
        have hi0 : (0 : Int) ≤ (i : Int) := by omega
        have hw := wrap_id (x := (i : Int) + 1) (by omega)
        have k1 := l1T_ok b1 b2
        have k2 := l1T_ok b3 b4
        have k3 := l1T_ok b5 b6
        have k4 := l1T_ok b7 b8
        have hsu := textN_succ (out := out) he
        obtain ⟨tx, htx⟩ : ∃ z, textN out d.entries i = z := ⟨_, rfl⟩
        rw [htx] at hts hsu ⊢
        have z1 : tx.size + 1 ≤ 9223372036854775807 := by omega
        have z2 : tx.size + 1 + (told e.object).size ≤ 9223372036854775807 := by omega
        have z3 : tx.size + 1 + (told e.object).size + 1 ≤ 9223372036854775807 := by omega
        have z4 : tx.size + 1 + (told e.object).size + 1 + (told e.version).size ≤ 9223372036854775807 := by omega
        have z5 : tx.size + 1 + (told e.object).size + 1 + (told e.version).size + 1 ≤ 9223372036854775807 := by omega
        have z6 : tx.size + 1 + (told e.object).size + 1 + (told e.version).size + 1 + (told e.old).size ≤ 9223372036854775807 := by omega
        have z7 : tx.size + 1 + (told e.object).size + 1 + (told e.version).size + 1 + (told e.old).size + 1 ≤ 9223372036854775807 := by omega
        have z8 : tx.size + 1 + (told e.object).size + 1 + (told e.version).size + 1 + (told e.old).size + 1 + (told e.new).size ≤ 9223372036854775807 := by omega
        cases hwr : e.write
        all_goals
          simp only [EntS.enc, hwr] at hre
          simp only [entT, hwr, Bool.false_eq_true, if_false, if_true] at hsu
          repeat' first
            | refine VWP_seq_k fun _ hK => ?_
            | refine VWP_region_k hT ?_
            | refine VWP_draw_k hT hM (by kernel_rfl) rfl ?_
            | refine VWP_block ?_
            | refine VWP_skip ?_
            | refine VWP_exit ?_
            | refine VWP_ret ?_
            | (refine hK _ ?_; clear hK)
            | (clear hK; refine hK _ ?_; clear hK)
            | (clear hK; clear hK; refine hK _ ?_; clear hK)
            | (clear hK; clear hK; clear hK; refine hK _ ?_; clear hK)
            | (simp only [decide_eq_true_eq, decide_eq_false_iff_not, bne_iff_ne, ne_eq, Bool.not_eq_true', Bool.not_eq_false', Bool.true_eq_false, Bool.false_eq_true, reduceCtorEq, not_true_eq_false, eq_self] at hb <;> try (exfalso; omega))
            | refine VWP_cond2 _ (by simp only [go_sem, Nat.reduceLT, Nat.reduceLeDiff, Nat.reduceEqDiff, Nat.reduceAdd, Nat.reduceMul, Nat.reduceSub, reduceCtorEq, rowsE_len, hre, hi1, hi0, hlt, one_size, ByteArray.size_append, z1, z2, z3, z4, z5, z6, z7, z8]; rfl) (fun hb => ?_) (fun hb => ?_)
            | refine callK (by simp only [go_sem, Nat.reduceLT, Nat.reduceLeDiff, Nat.reduceEqDiff, Nat.reduceAdd, Nat.reduceMul, Nat.reduceSub, reduceCtorEq, rowsE_len, hre, hi1, hi0, hlt, one_size, ByteArray.size_append, z1, z2, z3, z4, z5, z6, z7, z8, List.mem_cons, List.not_mem_nil, or_false, forall_eq_or_imp, forall_eq, frzOk, frzOkC]; try simp) (args' := _) (by simp only [go_sem, Nat.reduceLT, Nat.reduceLeDiff, Nat.reduceEqDiff, Nat.reduceAdd, Nat.reduceMul, Nat.reduceSub, reduceCtorEq, rowsE_len, hre, hi1, hi0, hlt, one_size, ByteArray.size_append, z1, z2, z3, z4, z5, z6, z7, z8, frzA, frzC]; try rfl) (by first | exact k1 | exact k2 | exact k3 | exact k4) (by simp only [go_sem, Nat.reduceLT, Nat.reduceLeDiff, Nat.reduceEqDiff, Nat.reduceAdd, Nat.reduceMul, Nat.reduceSub, reduceCtorEq, rowsE_len, hre, hi1, hi0, hlt, one_size, ByteArray.size_append, z1, z2, z3, z4, z5, z6, z7, z8]; try simp) (by decide) ?_
            | simp only [go_sem, Nat.reduceLT, Nat.reduceLeDiff, Nat.reduceEqDiff, Nat.reduceAdd, Nat.reduceMul, Nat.reduceSub, reduceCtorEq, rowsE_len, hre, hi1, hi0, hlt, one_size, ByteArray.size_append, z1, z2, z3, z4, z5, z6, z7, z8]
            | simp (disch := omega) only [decide_eq_true_eq, if_pos, if_neg, wrap_id, le_maxLen, and_true, true_and, if_true, ite_true]
            | refine guard_split (by simp only [go_sem, Nat.reduceLT, Nat.reduceLeDiff, Nat.reduceEqDiff, Nat.reduceAdd, Nat.reduceMul, Nat.reduceSub, reduceCtorEq, rowsE_len, hre, hi1, hi0, hlt, one_size, ByteArray.size_append, z1, z2, z3, z4, z5, z6, z7, z8]) rfl (fun hb => ?_) (fun hb => ?_)
          all_goals refine nextN [] rfl [0] (i + 1) rfl (by decide) (by decide) hlt (by omega) (by simp [updV, tmL, renV, renA, renC, hw, hsu, ByteArray.append_assoc]) (by simp [updH, hpL, renH_at, renE, renC])
      · obtain rfl : i = d.entries.length := by omega
        have hn2 : ¬ ((d.entries.length : Nat) : Int) < (d.entries.length : Int) := by omega
        have F := And.intro @rowsE_len hn2
        repeat' first
          | refine wSq fun _ hK => ?_
          | refine wRg ?_
          | refine wDr ?_
          | refine VWP_block ?_
          | refine VWP_skip ?_
          | refine VWP_exit ?_
          | refine VWP_ret ?_
          | (refine hK _ ?_; clear hK)
          | (clear hK; refine hK _ ?_; clear hK)
          | (clear hK; clear hK; refine hK _ ?_; clear hK)
          | (clear hK; clear hK; clear hK; refine hK _ ?_; clear hK)
          | (simp only [wHb, reduceCtorEq] at hb <;> try (exfalso; omega))
          | refine wCd (fun hb => ?_) fun hb => ?_
          | simp only [go_sem, Nat.reduceLT, Nat.reduceLeDiff, Nat.reduceEqDiff, Nat.reduceAdd, Nat.reduceMul, Nat.reduceSub, reduceCtorEq, F]
          | simp (disch := omega) only [decide_eq_true_eq, if_pos, if_neg, wrap_id, le_maxLen, and_true, true_and, if_true, ite_true]
          | refine wGd (fun hb => ?_) fun hb => ?_
        all_goals refine wLf ?_
        all_goals rfl
end Go.Proofs.YtchkbgekmoileaaDoor
