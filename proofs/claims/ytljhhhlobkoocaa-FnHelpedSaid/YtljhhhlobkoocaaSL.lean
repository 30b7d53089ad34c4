/- What Look and FrameOk give, the program's and the reference's; the laws on values. -/
import Derived.Test.YtljhhhlobkoocaaSI
import Derived.Test.YtljhhhlobkoocaaSF
namespace Go.Proofs.Ytljhhhlobkoocaa
open Go Go.RowKit
set_option linter.unusedVariables false
set_option linter.unusedSimpArgs false
set_option maxRecDepth 100000
set_option maxHeartbeats 4000000
attribute [local irreducible] VWP vops vdraw contV contD CallK Guard GuardV NextL Puts Runs RetOK RetQ RetO RetQO thenQ blockQ

noncomputable def lookL (s : StoreD) (o : Int) : HeadD × Bool := if bP (StoreP s) = true ∧ inB o 0 ((s.heads.length : Int) - 1) = true then ((s.heads[o.toNat]?).getD ⟨0, 0, 0⟩, true) else (⟨0, 0, 0⟩, false)
theorem implLook_ok (s : StoreD) (o : Int) (r : HeadD × Bool) (hr : lookL s o = r) (hs : s.small) : SatP Try.prog 12 [.agg (s.cells 40 38 76), .int .i64 o] (.tup [.agg r.1.cells, .bool r.2]) [] := by
  obtain ⟨f1, f2, f3⟩ := hs
  have hc := implStoreOk_ok s ⟨f1, f2, f3⟩
  refine satP_of_body hT Try.func12 (by kernel_rfl) rfl (rs := [.cell 4 40, .tmp 5]) rfl (n := 24) rfl (by simp) rfl (by simp) fun E hE => ?_
  unfold St.init
  unfold StoreD.cells at hc ⊢
  have hws := wrap_id (x := (s.heads.length : Int) - 1) (by omega)
  by_cases hin : 0 ≤ o ∧ o < s.heads.length
  · obtain ⟨k, rfl⟩ : ∃ k : Nat, o = k := ⟨o.toNat, by omega⟩
    have hkl : k < s.heads.length := by omega
    obtain ⟨h, hh⟩ : ∃ h, s.heads[k]? = some h := ⟨_, List.getElem?_eq_getElem hkl⟩
    have hre := rowsH_at hh
    have h1 : inB k 0 ((s.heads.length : Int) - 1) = true := by simp [inB]; omega
    cases hp : bP (StoreP s) with
    | true =>
      have hl : lookL s k = (h, true) := by simp [lookL, hp, h1, hh]
      rw [hl] at hr
      subst hr
      have F := And.intro @rowsH_len (And.intro hws (And.intro h1 (And.intro hre (And.intro hkl hp))))
      repeat' first
        | refine wSq fun _ hK => ?_
        | refine wRg ?_
        | refine wDr ?_
        | refine VWP_block ?_
        | refine VWP_skip ?_
        | refine VWP_exit ?_
        | refine VWP_ret ?_
        | (refine hK _ ?_; clear hK)
        | (clear hK; refine hK _ ?_; clear hK)
        | (clear hK; clear hK; refine hK _ ?_; clear hK)
        | (clear hK; clear hK; clear hK; refine hK _ ?_; clear hK)
        | (simp only [wHb, reduceCtorEq] at hb <;> try (exfalso; omega))
        | refine wCd (fun hb => ?_) fun hb => ?_
        | refine wCa (c := by first | exact hc | exact in_ok _ _ _) (k := ?_)
        | simp only [go_sem, Nat.reduceLT, Nat.reduceLeDiff, Nat.reduceEqDiff, Nat.reduceAdd, Nat.reduceMul, Nat.reduceSub, reduceCtorEq, F]
        | simp (disch := omega) only [decide_eq_true_eq, if_pos, if_neg, wrap_id, le_maxLen, and_true, true_and, if_true, ite_true]
        | refine wGd (fun hb => ?_) fun hb => ?_
      refine ret_mk (vs := _) (acc := _) (by simp only [go_sem, Nat.reduceLT, Nat.reduceLeDiff, Nat.reduceEqDiff, Nat.reduceAdd, Nat.reduceMul, Nat.reduceSub, reduceCtorEq, vres]; rfl) (by simp only [go_sem, Nat.reduceLT, Nat.reduceLeDiff, Nat.reduceEqDiff, Nat.reduceAdd, Nat.reduceMul, Nat.reduceSub, reduceCtorEq, wrap, exV, exAs, exA, exCs, exC]; rfl) (by simp) (by simp) (by simp)
    | false =>
      have hl : lookL s k = (⟨0, 0, 0⟩, false) := by simp [lookL, hp]
      rw [hl] at hr
      subst hr
      have F := And.intro @rowsH_len (And.intro hws hp)
      repeat' first
        | refine wSq fun _ hK => ?_
        | refine wRg ?_
        | refine wDr ?_
        | refine VWP_block ?_
        | refine VWP_skip ?_
        | refine VWP_exit ?_
        | refine VWP_ret ?_
        | (refine hK _ ?_; clear hK)
        | (clear hK; refine hK _ ?_; clear hK)
        | (clear hK; clear hK; refine hK _ ?_; clear hK)
        | (clear hK; clear hK; clear hK; refine hK _ ?_; clear hK)
        | (simp only [wHb, reduceCtorEq] at hb <;> try (exfalso; omega))
        | refine wCd (fun hb => ?_) fun hb => ?_
        | refine wCa (c := by first | exact hc | exact in_ok _ _ _) (k := ?_)
        | simp only [go_sem, Nat.reduceLT, Nat.reduceLeDiff, Nat.reduceEqDiff, Nat.reduceAdd, Nat.reduceMul, Nat.reduceSub, reduceCtorEq, F]
        | simp (disch := omega) only [decide_eq_true_eq, if_pos, if_neg, wrap_id, le_maxLen, and_true, true_and, if_true, ite_true]
        | refine wGd (fun hb => ?_) fun hb => ?_
      refine ret_mk (vs := _) (acc := _) (by simp only [go_sem, Nat.reduceLT, Nat.reduceLeDiff, Nat.reduceEqDiff, Nat.reduceAdd, Nat.reduceMul, Nat.reduceSub, reduceCtorEq, vres]; rfl) (by simp only [go_sem, Nat.reduceLT, Nat.reduceLeDiff, Nat.reduceEqDiff, Nat.reduceAdd, Nat.reduceMul, Nat.reduceSub, reduceCtorEq, wrap, exV, exAs, exA, exCs, exC]; rfl) (by simp) (by simp) (by simp)
  · have h1 : inB o 0 ((s.heads.length : Int) - 1) = false := by
      simp [inB]
      omega
    have hl : lookL s o = (⟨0, 0, 0⟩, false) := by simp [lookL, h1]
    rw [hl] at hr
    subst hr
    have F := And.intro @rowsH_len (And.intro hws h1)
    repeat' first
      | refine wSq fun _ hK => ?_
      | refine wRg ?_
      | refine wDr ?_
      | refine VWP_block ?_
      | refine VWP_skip ?_
      | refine VWP_exit ?_
      | refine VWP_ret ?_
      | (refine hK _ ?_; clear hK)
      | (clear hK; refine hK _ ?_; clear hK)
      | (clear hK; clear hK; refine hK _ ?_; clear hK)
      | (clear hK; clear hK; clear hK; refine hK _ ?_; clear hK)
      | (simp only [wHb, reduceCtorEq] at hb <;> try (exfalso; omega))
      | refine wCd (fun hb => ?_) fun hb => ?_
      | refine wCa (c := by first | exact hc | exact in_ok _ _ _) (k := ?_)
      | simp only [go_sem, Nat.reduceLT, Nat.reduceLeDiff, Nat.reduceEqDiff, Nat.reduceAdd, Nat.reduceMul, Nat.reduceSub, reduceCtorEq, F]
      | simp (disch := omega) only [decide_eq_true_eq, if_pos, if_neg, wrap_id, le_maxLen, and_true, true_and, if_true, ite_true]
      | refine wGd (fun hb => ?_) fun hb => ?_
    all_goals refine ret_mk (vs := _) (acc := _) (by simp only [go_sem, Nat.reduceLT, Nat.reduceLeDiff, Nat.reduceEqDiff, Nat.reduceAdd, Nat.reduceMul, Nat.reduceSub, reduceCtorEq, vres]; rfl) (by simp only [go_sem, Nat.reduceLT, Nat.reduceLeDiff, Nat.reduceEqDiff, Nat.reduceAdd, Nat.reduceMul, Nat.reduceSub, reduceCtorEq, wrap, exV, exAs, exA, exCs, exC]; rfl) (by simp) (by simp) (by simp)
def frmB (s : StoreD) (f : FrameD) : Bool := inB f.desc 0 ((s.descs.length : Int) - 1) && inB f.phase 0 5 &&
  (if f.phase = 1 ∨ f.phase = 4 then (match s.descs[f.desc.toNat]? with | some d => inB f.place 0 ((d.entries.length : Int) - 1) | none => false) else f.place == 0)
theorem isFrame_ok (s : StoreD) (f : FrameD) (hs : s.small) : SatP Try.prog 31 [.agg (s.cells 40 38 76), .agg f.cells] (.bool (frmB s f)) [] := by
  obtain ⟨f1, f2, f3⟩ := hs
  refine satP_of_body hT Try.func31 (by kernel_rfl) rfl (rs := [.tmp 4]) rfl (n := 42) rfl (by simp) rfl (by simp) fun E hE => ?_
  unfold St.init
  unfold StoreD.cells FrameD.cells
  have hws := wrap_id (x := (s.descs.length : Int) - 1) (by omega)
  by_cases hin : 0 ≤ f.desc ∧ f.desc < s.descs.length
  · obtain ⟨k, hk⟩ : ∃ k : Nat, f.desc = k := ⟨f.desc.toNat, by omega⟩
    have hkl : k < s.descs.length := by omega
    obtain ⟨d, hd⟩ : ∃ d, s.descs[k]? = some d := ⟨_, List.getElem?_eq_getElem hkl⟩
    have hre := rowsD_at (te := 76) hd
    have hde := f3 d (List.mem_of_getElem? hd)
    have hwe := wrap_id (x := (d.entries.length : Int) - 1) (by omega)
    have h1 : inB k 0 ((s.descs.length : Int) - 1) = true := by simp [inB]; omega
    have hf : frmB s f = (inB f.phase 0 5 && (if f.phase = 1 ∨ f.phase = 4 then inB f.place 0 ((d.entries.length : Int) - 1) else f.place == 0)) := by
      simp [frmB, hk, h1, hd]
    rw [hf]
    clear hf
    have F := And.intro @rowsD_len (And.intro @rowsE_len (And.intro hws (And.intro hwe (And.intro h1 (And.intro hre (And.intro hkl hk))))))
    repeat' first
      | refine wSq fun _ hK => ?_
      | refine wRg ?_
      | refine wDr ?_
      | refine VWP_block ?_
      | refine VWP_skip ?_
      | refine VWP_exit ?_
      | refine VWP_ret ?_
      | (refine hK _ ?_; clear hK)
      | (clear hK; refine hK _ ?_; clear hK)
      | (clear hK; clear hK; refine hK _ ?_; clear hK)
      | (clear hK; clear hK; clear hK; refine hK _ ?_; clear hK)
      | (simp only [wHb, reduceCtorEq] at hb <;> try (exfalso; omega))
      | refine wCd (fun hb => ?_) fun hb => ?_
      | refine wCa (c := by first | exact in_ok _ _ _) (k := ?_)
      | simp only [go_sem, Nat.reduceLT, Nat.reduceLeDiff, Nat.reduceEqDiff, Nat.reduceAdd, Nat.reduceMul, Nat.reduceSub, reduceCtorEq, F]
      | simp (disch := omega) only [decide_eq_true_eq, if_pos, if_neg, wrap_id, le_maxLen, and_true, true_and, if_true, ite_true]
      | refine wGd (fun hb => ?_) fun hb => ?_
    all_goals refine wLf ?_
    all_goals simp_all
  · have h1 : inB f.desc 0 ((s.descs.length : Int) - 1) = false := by
      simp [inB]
      omega
    have hf : frmB s f = false := by simp [frmB, h1]
    rw [hf]
    clear hf
    have F := And.intro @rowsD_len (And.intro hws h1)
    repeat' first
      | refine wSq fun _ hK => ?_
      | refine wRg ?_
      | refine wDr ?_
      | refine VWP_block ?_
      | refine VWP_skip ?_
      | refine VWP_exit ?_
      | refine VWP_ret ?_
      | (refine hK _ ?_; clear hK)
      | (clear hK; refine hK _ ?_; clear hK)
      | (clear hK; clear hK; refine hK _ ?_; clear hK)
      | (clear hK; clear hK; clear hK; refine hK _ ?_; clear hK)
      | (simp only [wHb, reduceCtorEq] at hb <;> try (exfalso; omega))
      | refine wCd (fun hb => ?_) fun hb => ?_
      | refine wCa (c := by first | exact in_ok _ _ _) (k := ?_)
      | simp only [go_sem, Nat.reduceLT, Nat.reduceLeDiff, Nat.reduceEqDiff, Nat.reduceAdd, Nat.reduceMul, Nat.reduceSub, reduceCtorEq, F]
      | simp (disch := omega) only [decide_eq_true_eq, if_pos, if_neg, wrap_id, le_maxLen, and_true, true_and, if_true, ite_true]
      | refine wGd (fun hb => ?_) fun hb => ?_
    all_goals refine wLf ?_
    all_goals rfl
noncomputable def frameB (s : StoreD) (f : FrameD) : Bool := bP (StoreP s) && frmB s f
theorem implFrameOk_ok (s : StoreD) (f : FrameD) (hs : s.small) : SatP Try.prog 11 [.agg (s.cells 40 38 76), .agg f.cells] (.bool (frameB s f)) [] := by
  have hc := implStoreOk_ok s hs
  have hc2 := isFrame_ok s f hs
  refine satP_of_body hT Try.func11 (by kernel_rfl) rfl (rs := [.tmp 4]) rfl (n := 12) rfl (by simp) rfl (by simp) fun E hE => ?_
  unfold St.init
  unfold StoreD.cells FrameD.cells at *
  have F := (Eq.refl 0)
  repeat' first
    | refine wSq fun _ hK => ?_
    | refine wRg ?_
    | refine wDr ?_
    | refine VWP_block ?_
    | refine VWP_skip ?_
    | refine VWP_exit ?_
    | refine VWP_ret ?_
    | (refine hK _ ?_; clear hK)
    | (clear hK; refine hK _ ?_; clear hK)
    | (clear hK; clear hK; refine hK _ ?_; clear hK)
    | (clear hK; clear hK; clear hK; refine hK _ ?_; clear hK)
    | (simp only [wHb, reduceCtorEq] at hb <;> try (exfalso; omega))
    | refine wCd (fun hb => ?_) fun hb => ?_
    | refine wCa (c := by first | exact hc | exact hc2) (k := ?_)
    | simp only [go_sem, Nat.reduceLT, Nat.reduceLeDiff, Nat.reduceEqDiff, Nat.reduceAdd, Nat.reduceMul, Nat.reduceSub, reduceCtorEq, F]
    | simp (disch := omega) only [decide_eq_true_eq, if_pos, if_neg, wrap_id, le_maxLen, and_true, true_and, if_true, ite_true]
    | refine wGd (fun hb => ?_) fun hb => ?_
  all_goals refine wLf ?_
  all_goals simp_all [frameB]
end Go.Proofs.Ytljhhhlobkoocaa
