/- What onTheWay gives; ways. -/
import Derived.Test.YtfkefjcopbcmlaaWA
namespace Go.Proofs.Ytfkefjcopbcmlaa
open Go Go.RowKit
set_option linter.unusedVariables false
set_option linter.unusedSimpArgs false
set_option maxRecDepth 100000
set_option maxHeartbeats 4000000
attribute [local irreducible] VWP vops vdraw contV contD CallK Guard GuardV NextL Puts Runs RetOK RetQ RetO RetQO thenQ blockQ

/-- The descriptor that lies over an entry's object, if it is another one. -/
def metE (s : StoreD) (d : Int) (e : EntS) : Option Int := match s.heads[e.object.toNat]? with
  | some h => if 0 ≤ h.desc ∧ h.desc ≠ d then some h.desc else none
  | none => none
def nextD (s : StoreD) (d : Nat) : Int := match s.descs[d]? with
  | some x => (x.entries.findSome? (metE s d)).getD (-1)
  | none => -1
theorem findSome_at {α β : Type} {f : α → Option β} : ∀ {l : List α} {i : Nat} {x : α} {v : β}, l[i]? = some x → f x = some v → (∀ (j : Nat) (y : α), j < i → l[j]? = some y → f y = none) → l.findSome? f = some v
  | [], i, x, v, h, _, _ => by simp at h
  | a :: l, 0, x, v, h, hv, _ => by
    simp only [List.getElem?_cons_zero, Option.some.injEq] at h
    subst h
    simp [List.findSome?, hv]
  | a :: l, i + 1, x, v, h, hv, hn => by
    have h0 := hn 0 a (by omega) rfl
    simp only [List.findSome?, h0]
    exact findSome_at (by simpa using h) hv fun j y hj hy => hn (j + 1) y (by omega) (by simpa using hy)
theorem findSome_none {α β : Type} {f : α → Option β} : ∀ {l : List α}, (∀ (j : Nat) (y : α), l[j]? = some y → f y = none) → l.findSome? f = none
  | [], _ => rfl
  | a :: l, h => by
    have h0 := h 0 a rfl
    simp only [List.findSome?, h0]
    exact findSome_none fun j y hy => h (j + 1) y (by simpa using hy)
/-- The head of an entry of a right store. -/
theorem head_of {s : StoreD} (hS : StoreP s) {d : DescS} (hd : d ∈ s.descs) {i : Nat} {e : EntS} (he : d.entries[i]? = some e) : ∃ (o : Nat) (h : HeadD), e.object = o ∧ s.heads[o]? = some h ∧ -1 ≤ h.desc ∧ h.desc < s.descs.length := by
  have hf := hS.2.2.2.1 d hd
  have hok := hf.1.2.1 i e he
  have hlt : e.object < s.heads.length := by
    have hlen : d.entries.length - 1 < d.entries.length := by have := (List.getElem?_eq_some_iff.1 he).1; omega
    have hlast := hf.2 _ (List.getElem?_eq_getElem hlen)
    have hi := (List.getElem?_eq_some_iff.1 he).1
    rcases Nat.lt_or_ge i (d.entries.length - 1) with h | h
    · obtain ⟨n, hn⟩ : ∃ n, d.entries.length - 1 = i + n + 1 := ⟨d.entries.length - 1 - i - 1, by omega⟩
      have := sorted_lt hf.1.1 n i e d.entries[d.entries.length - 1] he (by rw [← hn]; exact List.getElem?_eq_getElem hlen)
      omega
    · have hi2 : i = d.entries.length - 1 := by omega
      subst hi2
      rw [List.getElem?_eq_getElem hlen] at he
      cases he
      exact hlast
  have hpos : 0 ≤ e.object := by
    simp [EntS.ok, inB] at hok
    omega
  obtain ⟨o, ho⟩ : ∃ o : Nat, e.object = o := ⟨e.object.toNat, by omega⟩
  have hol : o < s.heads.length := by omega
  have hb := hS.2.2.2.2 o _ (List.getElem?_eq_getElem hol)
  refine ⟨o, s.heads[o], ho, List.getElem?_eq_getElem hol, ?_⟩
  have hb2 : inB s.heads[o].desc (-1) ((s.descs.length : Int) - 1) = true := by
    unfold headB at hb
    simp only [Bool.and_eq_true] at hb
    exact hb.1.2
  simp [inB] at hb2
  omega
theorem nextD_lt {s : StoreD} (hS : StoreP s) (d : Nat) : -1 ≤ nextD s d ∧ nextD s d < s.descs.length := by
  unfold nextD
  cases hd : s.descs[d]? with
  | none => simp; omega
  | some x =>
    simp only
    cases hf : x.entries.findSome? (metE s d) with
    | none => simp; omega
    | some v =>
      simp only [Option.getD_some]
      obtain ⟨e, he, hv⟩ := List.exists_of_findSome?_eq_some hf
      obtain ⟨i, hi⟩ := List.getElem?_of_mem he
      obtain ⟨o, h, h1, h2, h3, h4⟩ := head_of hS (List.mem_of_getElem? hd) hi
      simp only [metE, h1, Int.toNat_natCast, h2] at hv
      split at hv
      · cases hv; exact ⟨h3, h4⟩
      · cases hv
theorem onTheWay_ok (s : StoreD) (hs : s.small) (hS : StoreP s) (d : Nat) (hd : d < s.descs.length) : SatP Try.prog 131 [.agg (s.cells 36 40 121), .int .i64 d] (.int .i64 (nextD s d)) [] := by
  obtain ⟨f1, f2, f3⟩ := hs
  obtain ⟨x, hx⟩ : ∃ x, s.descs[d]? = some x := ⟨_, List.getElem?_eq_getElem hd⟩
  have hrx := rowsD_at (te := 121) hx
  have hxm := List.mem_of_getElem? hx
  have hxe := f3 x hxm
  refine satP_of_body hT Try.func131 (by kernel_rfl) rfl (rs := [.tmp 4]) rfl (n := 35) rfl (by simp) rfl (by simp) fun E => ?_
  unfold St.init
  unfold StoreD.cells
  repeat' first
    | refine VWP_seq_k fun _ hK => ?_
    | refine VWP_region_k hT ?_
    | refine VWP_draw_k hT hM (by kernel_rfl) rfl ?_
    | refine VWP_block ?_
    | refine VWP_skip ?_
    | refine VWP_exit ?_
    | refine VWP_ret ?_
    | (refine hK _ ?_; clear hK)
    | (clear hK; refine hK _ ?_; clear hK)
    | (clear hK; clear hK; refine hK _ ?_; clear hK)
    | (clear hK; clear hK; clear hK; refine hK _ ?_; clear hK)
    | (simp only [decide_eq_true_eq, decide_eq_false_iff_not, bne_iff_ne, ne_eq, Bool.not_eq_true', Bool.not_eq_false', Bool.true_eq_false, Bool.false_eq_true, reduceCtorEq, not_true_eq_false, eq_self] at hb <;> try (exfalso; omega))
    | refine VWP_cond2 _ (by simp only [go_sem, Nat.reduceLT, Nat.reduceLeDiff, Nat.reduceEqDiff, Nat.reduceAdd, Nat.reduceMul, Nat.reduceSub, reduceCtorEq, rowsD_len, rowsE_len, hrx, hd]; rfl) (fun hb => ?_) (fun hb => ?_)
    | refine callK (by simp only [go_sem, Nat.reduceLT, Nat.reduceLeDiff, Nat.reduceEqDiff, Nat.reduceAdd, Nat.reduceMul, Nat.reduceSub, reduceCtorEq, rowsD_len, rowsE_len, hrx, hd, List.mem_cons, List.not_mem_nil, or_false, forall_eq_or_imp, forall_eq, frzOk, frzOkC]; try simp) (args' := _) (by simp only [go_sem, Nat.reduceLT, Nat.reduceLeDiff, Nat.reduceEqDiff, Nat.reduceAdd, Nat.reduceMul, Nat.reduceSub, reduceCtorEq, rowsD_len, rowsE_len, hrx, hd, frzA, frzC]; try rfl) (by first | fail) (by simp only [go_sem, Nat.reduceLT, Nat.reduceLeDiff, Nat.reduceEqDiff, Nat.reduceAdd, Nat.reduceMul, Nat.reduceSub, reduceCtorEq, rowsD_len, rowsE_len, hrx, hd]; try simp) (by decide) ?_
    | simp only [go_sem, Nat.reduceLT, Nat.reduceLeDiff, Nat.reduceEqDiff, Nat.reduceAdd, Nat.reduceMul, Nat.reduceSub, reduceCtorEq, rowsD_len, rowsE_len, hrx, hd]
    | simp (disch := omega) only [decide_eq_true_eq, if_pos, if_neg, wrap_id, le_maxLen, and_true, true_and, if_true, ite_true]
    | refine guard_split (by simp only [go_sem, Nat.reduceLT, Nat.reduceLeDiff, Nat.reduceEqDiff, Nat.reduceAdd, Nat.reduceMul, Nat.reduceSub, reduceCtorEq, rowsD_len, rowsE_len, hrx, hd]) rfl (fun hb => ?_) (fun hb => ?_)
  refine VWP_loopL (X := Nat) (fun i => [(1, .int .i64 d), (2, .bp 0 0), (13, .fr 121 (rowsE x.entries)), (14, .int .i64 x.entries.length), (15, .int .i64 i)]) (fun _ => [(0, .box [.fr 36 (rowsH s.heads), .fr 40 (rowsD 121 s.descs)])]) (fun i => x.entries.length - i)
    (fun i => i ≤ x.entries.length ∧ ∀ (j : Nat) (e : EntS), j < i → x.entries[j]? = some e → metE s d e = none) 1 0 ⟨by simp, by simp⟩ (by simp [updV]) (by simp [updH]) (by simp) ?_
  rintro i nx ⟨hi, hdone⟩ hB
  rcases Nat.lt_or_ge i x.entries.length with hlt | hge
  · obtain ⟨e, he⟩ : ∃ e, x.entries[i]? = some e := ⟨_, List.getElem?_eq_getElem hlt⟩
    obtain ⟨o, h, h1, h2, h3, h4⟩ := head_of hS hxm he
    have hre := rowsE_at he
    have hrh := rowsH_at h2
    have hol := (List.getElem?_eq_some_iff.1 h2).1
    have hne : nx ≠ 0 := by omega
    have hne2 : (0 : Nat) ≠ nx := by omega
    have hw := wrap_id (x := (i : Int) + 1) (by omega)
    have hm : metE s d e = if 0 ≤ h.desc ∧ h.desc ≠ d then some h.desc else none := by simp [metE, h1, h2]
    have hyes : 0 ≤ h.desc → h.desc ≠ d → nextD s d = h.desc := fun k1 k2 => by
      rw [if_pos ⟨k1, k2⟩] at hm
      simp [nextD, hx, findSome_at he hm hdone]
    have hno : ¬ (0 ≤ h.desc ∧ h.desc ≠ d) → ∀ (j : Nat) (g : EntS), j < i + 1 → x.entries[j]? = some g → metE s d g = none := fun k j g hj hg => by
      rcases Nat.lt_or_ge j i with h5 | h5
      · exact hdone j g h5 hg
      · obtain rfl : j = i := by omega
        rw [he] at hg; cases hg
        rw [hm, if_neg k]
    repeat' first
      | refine VWP_seq_k fun _ hK => ?_
      | refine VWP_region_k hT ?_
      | refine VWP_draw_k hT hM (by kernel_rfl) rfl ?_
      | refine VWP_block ?_
      | refine VWP_skip ?_
      | refine VWP_exit ?_
      | refine VWP_ret ?_
      | (refine hK _ ?_; clear hK)
      | (clear hK; refine hK _ ?_; clear hK)
      | (clear hK; clear hK; refine hK _ ?_; clear hK)
      | (clear hK; clear hK; clear hK; refine hK _ ?_; clear hK)
      | (simp only [decide_eq_true_eq, decide_eq_false_iff_not, bne_iff_ne, ne_eq, Bool.not_eq_true', Bool.not_eq_false', Bool.true_eq_false, Bool.false_eq_true, reduceCtorEq, not_true_eq_false, eq_self] at hb <;> try (exfalso; omega))
      | refine VWP_cond2 _ (by simp only [go_sem, Nat.reduceLT, Nat.reduceLeDiff, Nat.reduceEqDiff, Nat.reduceAdd, Nat.reduceMul, Nat.reduceSub, reduceCtorEq, rowsE_len, rowsH_len, hre, hrh, hol, h1, hne, hne2]; rfl) (fun hb => ?_) (fun hb => ?_)
      | refine callK (by simp only [go_sem, Nat.reduceLT, Nat.reduceLeDiff, Nat.reduceEqDiff, Nat.reduceAdd, Nat.reduceMul, Nat.reduceSub, reduceCtorEq, rowsE_len, rowsH_len, hre, hrh, hol, h1, hne, hne2, List.mem_cons, List.not_mem_nil, or_false, forall_eq_or_imp, forall_eq, frzOk, frzOkC]; try simp) (args' := _) (by simp only [go_sem, Nat.reduceLT, Nat.reduceLeDiff, Nat.reduceEqDiff, Nat.reduceAdd, Nat.reduceMul, Nat.reduceSub, reduceCtorEq, rowsE_len, rowsH_len, hre, hrh, hol, h1, hne, hne2, frzA, frzC]; try rfl) (by first | fail) (by simp only [go_sem, Nat.reduceLT, Nat.reduceLeDiff, Nat.reduceEqDiff, Nat.reduceAdd, Nat.reduceMul, Nat.reduceSub, reduceCtorEq, rowsE_len, rowsH_len, hre, hrh, hol, h1, hne, hne2]; try simp) (by decide) ?_
      | simp only [go_sem, Nat.reduceLT, Nat.reduceLeDiff, Nat.reduceEqDiff, Nat.reduceAdd, Nat.reduceMul, Nat.reduceSub, reduceCtorEq, rowsE_len, rowsH_len, hre, hrh, hol, h1, hne, hne2]
      | simp (disch := omega) only [decide_eq_true_eq, if_pos, if_neg, wrap_id, le_maxLen, and_true, true_and, if_true, ite_true]
      | refine guard_split (by simp only [go_sem, Nat.reduceLT, Nat.reduceLeDiff, Nat.reduceEqDiff, Nat.reduceAdd, Nat.reduceMul, Nat.reduceSub, reduceCtorEq, rowsE_len, rowsH_len, hre, hrh, hol, h1, hne, hne2]) rfl (fun hb => ?_) (fun hb => ?_)
    all_goals first
      | (refine ret_scal (by simp only [go_sem, Nat.reduceLT, Nat.reduceLeDiff, Nat.reduceEqDiff, Nat.reduceAdd, Nat.reduceMul, Nat.reduceSub, reduceCtorEq]; rfl) rfl ?_
         rw [hyes (by simp_all) (by simp_all)]
         done)
      | (refine nextL (i + 1) ⟨by omega, hno (fun k => by first | exact absurd k.1 (by assumption) | exact absurd k.1 (by omega) | exact k.2 (by simpa using hb))⟩ (by omega) (by simp [updV, tmL, hw]) (by simp [updH, hpL, hne2]) (by omega))
  · obtain rfl : i = x.entries.length := by omega
    repeat' first
      | refine VWP_seq_k fun _ hK => ?_
      | refine VWP_region_k hT ?_
      | refine VWP_draw_k hT hM (by kernel_rfl) rfl ?_
      | refine VWP_block ?_
      | refine VWP_skip ?_
      | refine VWP_exit ?_
      | refine VWP_ret ?_
      | (refine hK _ ?_; clear hK)
      | (clear hK; refine hK _ ?_; clear hK)
      | (clear hK; clear hK; refine hK _ ?_; clear hK)
      | (clear hK; clear hK; clear hK; refine hK _ ?_; clear hK)
      | (simp only [decide_eq_true_eq, decide_eq_false_iff_not, bne_iff_ne, ne_eq, Bool.not_eq_true', Bool.not_eq_false', Bool.true_eq_false, Bool.false_eq_true, reduceCtorEq, not_true_eq_false, eq_self] at hb <;> try (exfalso; omega))
      | refine VWP_cond2 _ (by simp only [go_sem, Nat.reduceLT, Nat.reduceLeDiff, Nat.reduceEqDiff, Nat.reduceAdd, Nat.reduceMul, Nat.reduceSub, reduceCtorEq, rowsE_len]; rfl) (fun hb => ?_) (fun hb => ?_)
      | refine callK (by simp only [go_sem, Nat.reduceLT, Nat.reduceLeDiff, Nat.reduceEqDiff, Nat.reduceAdd, Nat.reduceMul, Nat.reduceSub, reduceCtorEq, rowsE_len, List.mem_cons, List.not_mem_nil, or_false, forall_eq_or_imp, forall_eq, frzOk, frzOkC]; try simp) (args' := _) (by simp only [go_sem, Nat.reduceLT, Nat.reduceLeDiff, Nat.reduceEqDiff, Nat.reduceAdd, Nat.reduceMul, Nat.reduceSub, reduceCtorEq, rowsE_len, frzA, frzC]; try rfl) (by first | fail) (by simp only [go_sem, Nat.reduceLT, Nat.reduceLeDiff, Nat.reduceEqDiff, Nat.reduceAdd, Nat.reduceMul, Nat.reduceSub, reduceCtorEq, rowsE_len]; try simp) (by decide) ?_
      | simp only [go_sem, Nat.reduceLT, Nat.reduceLeDiff, Nat.reduceEqDiff, Nat.reduceAdd, Nat.reduceMul, Nat.reduceSub, reduceCtorEq, rowsE_len]
      | simp (disch := omega) only [decide_eq_true_eq, if_pos, if_neg, wrap_id, le_maxLen, and_true, true_and, if_true, ite_true]
      | refine guard_split (by simp only [go_sem, Nat.reduceLT, Nat.reduceLeDiff, Nat.reduceEqDiff, Nat.reduceAdd, Nat.reduceMul, Nat.reduceSub, reduceCtorEq, rowsE_len]) rfl (fun hb => ?_) (fun hb => ?_)
    refine ret_scal (by simp only [go_sem, Nat.reduceLT, Nat.reduceLeDiff, Nat.reduceEqDiff, Nat.reduceAdd, Nat.reduceMul, Nat.reduceSub, reduceCtorEq]; rfl) rfl ?_
    have : x.entries.findSome? (metE s d) = none := findSome_none fun j e he => hdone j e (List.getElem?_eq_some_iff.1 he).1 he
    simp [nextD, hx, this]
end Go.Proofs.Ytfkefjcopbcmlaa
