/- What Look and FrameOk give, the program's and the reference's; the laws on values. -/
import Derived.Test.YtclljpdcpcolpaaGreatSI
import Derived.Test.YtclljpdcpcolpaaGreatSF
namespace Go.Proofs.YtclljpdcpcolpaaGreat
open Go Go.RowKit
set_option linter.unusedVariables false
set_option linter.unusedSimpArgs false
set_option maxRecDepth 100000
set_option maxHeartbeats 4000000
attribute [local irreducible] VWP vops vdraw contV contD CallK Guard GuardV NextL Puts Runs RetOK RetQ RetO RetQO thenQ blockQ

noncomputable def lookL (s : StoreD) (o : Int) : HeadD × Bool := if bP (StoreP s) = true ∧ inB o 0 ((s.heads.length : Int) - 1) = true then ((s.heads[o.toNat]?).getD ⟨0, 0, 0⟩, true) else (⟨0, 0, 0⟩, false)
def frmB (s : StoreD) (f : FrameD) : Bool := inB f.desc 0 ((s.descs.length : Int) - 1) && inB f.phase 0 5 &&
  (if f.phase = 1 ∨ f.phase = 4 then (match s.descs[f.desc.toNat]? with | some d => inB f.place 0 ((d.entries.length : Int) - 1) | none => false) else f.place == 0)
theorem isFrame_ok (s : StoreD) (f : FrameD) (hs : s.small) : SatP Tryz.prog 111 [.agg (s.cells 67 70 72), .agg f.cells] (.bool (frmB s f)) [] := by
  obtain ⟨f1, f2, f3⟩ := hs
  refine satP_of_body hT Tryz.func111 (by kernel_rfl) rfl (rs := [.tmp 4]) rfl (n := 42) rfl (by simp) rfl (by simp) fun E => ?_
  unfold St.init
  unfold StoreD.cells FrameD.cells
  have hws := wrap_id (x := (s.descs.length : Int) - 1) (by omega)
  by_cases hin : 0 ≤ f.desc ∧ f.desc < s.descs.length
  · obtain ⟨k, hk⟩ : ∃ k : Nat, f.desc = k := ⟨f.desc.toNat, by omega⟩
    have hkl : k < s.descs.length := by omega
    obtain ⟨d, hd⟩ : ∃ d, s.descs[k]? = some d := ⟨_, List.getElem?_eq_getElem hkl⟩
    have hre := rowsD_at (te := 72) hd
    have hde := f3 d (List.mem_of_getElem? hd)
    have hwe := wrap_id (x := (d.entries.length : Int) - 1) (by omega)
    have h1 : inB k 0 ((s.descs.length : Int) - 1) = true := by simp [inB]; omega
    have hf : frmB s f = (inB f.phase 0 5 && (if f.phase = 1 ∨ f.phase = 4 then inB f.place 0 ((d.entries.length : Int) - 1) else f.place == 0)) := by
      simp [frmB, hk, h1, hd]
    rw [hf]
    clear hf
    repeat' first
      | refine VWP_seq_k fun _ hK => ?_
      | refine VWP_region_k hT ?_
      | refine VWP_draw_k hT hM (by kernel_rfl) rfl ?_
      | refine VWP_block ?_
      | refine VWP_skip ?_
      | refine VWP_exit ?_
      | refine VWP_ret ?_
      | (refine hK _ ?_; clear hK)
      | (clear hK; refine hK _ ?_; clear hK)
      | (clear hK; clear hK; refine hK _ ?_; clear hK)
      | (clear hK; clear hK; clear hK; refine hK _ ?_; clear hK)
      | (simp only [decide_eq_true_eq, decide_eq_false_iff_not, bne_iff_ne, ne_eq, Bool.not_eq_true', Bool.not_eq_false', Bool.true_eq_false, Bool.false_eq_true, reduceCtorEq, not_true_eq_false, eq_self] at hb <;> try (exfalso; omega))
      | refine VWP_cond2 _ (by simp only [go_sem, Nat.reduceLT, Nat.reduceLeDiff, Nat.reduceEqDiff, Nat.reduceAdd, Nat.reduceMul, Nat.reduceSub, reduceCtorEq, rowsD_len, rowsE_len, hws, hwe, h1, hre, hkl, hk]; rfl) (fun hb => ?_) (fun hb => ?_)
      | refine callK (by simp only [go_sem, Nat.reduceLT, Nat.reduceLeDiff, Nat.reduceEqDiff, Nat.reduceAdd, Nat.reduceMul, Nat.reduceSub, reduceCtorEq, rowsD_len, rowsE_len, hws, hwe, h1, hre, hkl, hk, List.mem_cons, List.not_mem_nil, or_false, forall_eq_or_imp, forall_eq, frzOk, frzOkC]; try simp) (args' := _) (by simp only [go_sem, Nat.reduceLT, Nat.reduceLeDiff, Nat.reduceEqDiff, Nat.reduceAdd, Nat.reduceMul, Nat.reduceSub, reduceCtorEq, rowsD_len, rowsE_len, hws, hwe, h1, hre, hkl, hk, frzA, frzC]; try rfl) (by first | exact in_ok _ _ _) (by simp only [go_sem, Nat.reduceLT, Nat.reduceLeDiff, Nat.reduceEqDiff, Nat.reduceAdd, Nat.reduceMul, Nat.reduceSub, reduceCtorEq, rowsD_len, rowsE_len, hws, hwe, h1, hre, hkl, hk]; try simp) (by decide) ?_
      | simp only [go_sem, Nat.reduceLT, Nat.reduceLeDiff, Nat.reduceEqDiff, Nat.reduceAdd, Nat.reduceMul, Nat.reduceSub, reduceCtorEq, rowsD_len, rowsE_len, hws, hwe, h1, hre, hkl, hk]
      | simp (disch := omega) only [decide_eq_true_eq, if_pos, if_neg, wrap_id, le_maxLen, and_true, true_and, if_true, ite_true]
      | refine guard_split (by simp only [go_sem, Nat.reduceLT, Nat.reduceLeDiff, Nat.reduceEqDiff, Nat.reduceAdd, Nat.reduceMul, Nat.reduceSub, reduceCtorEq, rowsD_len, rowsE_len, hws, hwe, h1, hre, hkl, hk]) rfl (fun hb => ?_) (fun hb => ?_)
    all_goals refine ret_scal (by simp only [go_sem, Nat.reduceLT, Nat.reduceLeDiff, Nat.reduceEqDiff, Nat.reduceAdd, Nat.reduceMul, Nat.reduceSub, reduceCtorEq]; rfl) rfl ?_
    all_goals simp_all
  · have h1 : inB f.desc 0 ((s.descs.length : Int) - 1) = false := by
      simp [inB]
      omega
    have hf : frmB s f = false := by simp [frmB, h1]
    rw [hf]
    clear hf
    repeat' first
      | refine VWP_seq_k fun _ hK => ?_
      | refine VWP_region_k hT ?_
      | refine VWP_draw_k hT hM (by kernel_rfl) rfl ?_
      | refine VWP_block ?_
      | refine VWP_skip ?_
      | refine VWP_exit ?_
      | refine VWP_ret ?_
      | (refine hK _ ?_; clear hK)
      | (clear hK; refine hK _ ?_; clear hK)
      | (clear hK; clear hK; refine hK _ ?_; clear hK)
      | (clear hK; clear hK; clear hK; refine hK _ ?_; clear hK)
      | (simp only [decide_eq_true_eq, decide_eq_false_iff_not, bne_iff_ne, ne_eq, Bool.not_eq_true', Bool.not_eq_false', Bool.true_eq_false, Bool.false_eq_true, reduceCtorEq, not_true_eq_false, eq_self] at hb <;> try (exfalso; omega))
      | refine VWP_cond2 _ (by simp only [go_sem, Nat.reduceLT, Nat.reduceLeDiff, Nat.reduceEqDiff, Nat.reduceAdd, Nat.reduceMul, Nat.reduceSub, reduceCtorEq, rowsD_len, hws, h1]; rfl) (fun hb => ?_) (fun hb => ?_)
      | refine callK (by simp only [go_sem, Nat.reduceLT, Nat.reduceLeDiff, Nat.reduceEqDiff, Nat.reduceAdd, Nat.reduceMul, Nat.reduceSub, reduceCtorEq, rowsD_len, hws, h1, List.mem_cons, List.not_mem_nil, or_false, forall_eq_or_imp, forall_eq, frzOk, frzOkC]; try simp) (args' := _) (by simp only [go_sem, Nat.reduceLT, Nat.reduceLeDiff, Nat.reduceEqDiff, Nat.reduceAdd, Nat.reduceMul, Nat.reduceSub, reduceCtorEq, rowsD_len, hws, h1, frzA, frzC]; try rfl) (by first | exact in_ok _ _ _) (by simp only [go_sem, Nat.reduceLT, Nat.reduceLeDiff, Nat.reduceEqDiff, Nat.reduceAdd, Nat.reduceMul, Nat.reduceSub, reduceCtorEq, rowsD_len, hws, h1]; try simp) (by decide) ?_
      | simp only [go_sem, Nat.reduceLT, Nat.reduceLeDiff, Nat.reduceEqDiff, Nat.reduceAdd, Nat.reduceMul, Nat.reduceSub, reduceCtorEq, rowsD_len, hws, h1]
      | simp (disch := omega) only [decide_eq_true_eq, if_pos, if_neg, wrap_id, le_maxLen, and_true, true_and, if_true, ite_true]
      | refine guard_split (by simp only [go_sem, Nat.reduceLT, Nat.reduceLeDiff, Nat.reduceEqDiff, Nat.reduceAdd, Nat.reduceMul, Nat.reduceSub, reduceCtorEq, rowsD_len, hws, h1]) rfl (fun hb => ?_) (fun hb => ?_)
    all_goals refine ret_scal (by simp only [go_sem, Nat.reduceLT, Nat.reduceLeDiff, Nat.reduceEqDiff, Nat.reduceAdd, Nat.reduceMul, Nat.reduceSub, reduceCtorEq]; rfl) rfl ?_
    all_goals rfl
noncomputable def frameB (s : StoreD) (f : FrameD) : Bool := bP (StoreP s) && frmB s f
theorem specFrameOk_ok (s : StoreD) (f : FrameD) (hs : s.small) : SatP Tryz.prog 102 [.agg (s.cells 67 70 72), .agg f.cells] (.bool (frameB s f)) [] := by
  have hc := specStoreOk_ok s hs
  obtain ⟨f1, f2, f3⟩ := hs
  refine satP_of_body hT Tryz.func102 (by kernel_rfl) rfl (rs := [.tmp 4]) rfl (n := 47) rfl (by simp) rfl (by simp) fun E => ?_
  unfold St.init
  unfold StoreD.cells FrameD.cells at *
  have hws := wrap_id (x := (s.descs.length : Int) - 1) (by omega)
  by_cases hin : 0 ≤ f.desc ∧ f.desc < s.descs.length
  · obtain ⟨k, hk⟩ : ∃ k : Nat, f.desc = k := ⟨f.desc.toNat, by omega⟩
    have hkl : k < s.descs.length := by omega
    obtain ⟨d, hd⟩ : ∃ d, s.descs[k]? = some d := ⟨_, List.getElem?_eq_getElem hkl⟩
    have hre := rowsD_at (te := 72) hd
    have hde := f3 d (List.mem_of_getElem? hd)
    have hwe := wrap_id (x := (d.entries.length : Int) - 1) (by omega)
    have h1 : inB k 0 ((s.descs.length : Int) - 1) = true := by simp [inB]; omega
    have hf : frameB s f = (bP (StoreP s) && (inB f.phase 0 5 && (if f.phase = 1 ∨ f.phase = 4 then inB f.place 0 ((d.entries.length : Int) - 1) else f.place == 0))) := by
      simp [frameB, frmB, hk, h1, hd]
    rw [hf]
    clear hf
    repeat' first
      | refine VWP_seq_k fun _ hK => ?_
      | refine VWP_region_k hT ?_
      | refine VWP_draw_k hT hM (by kernel_rfl) rfl ?_
      | refine VWP_block ?_
      | refine VWP_skip ?_
      | refine VWP_exit ?_
      | refine VWP_ret ?_
      | (refine hK _ ?_; clear hK)
      | (clear hK; refine hK _ ?_; clear hK)
      | (clear hK; clear hK; refine hK _ ?_; clear hK)
      | (clear hK; clear hK; clear hK; refine hK _ ?_; clear hK)
      | (simp only [decide_eq_true_eq, decide_eq_false_iff_not, bne_iff_ne, ne_eq, Bool.not_eq_true', Bool.not_eq_false', Bool.true_eq_false, Bool.false_eq_true, reduceCtorEq, not_true_eq_false, eq_self] at hb <;> try (exfalso; omega))
      | refine VWP_cond2 _ (by simp only [go_sem, Nat.reduceLT, Nat.reduceLeDiff, Nat.reduceEqDiff, Nat.reduceAdd, Nat.reduceMul, Nat.reduceSub, reduceCtorEq, rowsD_len, rowsE_len, hws, hwe, h1, hre, hkl, hk]; rfl) (fun hb => ?_) (fun hb => ?_)
      | refine callK (by simp only [go_sem, Nat.reduceLT, Nat.reduceLeDiff, Nat.reduceEqDiff, Nat.reduceAdd, Nat.reduceMul, Nat.reduceSub, reduceCtorEq, rowsD_len, rowsE_len, hws, hwe, h1, hre, hkl, hk, List.mem_cons, List.not_mem_nil, or_false, forall_eq_or_imp, forall_eq, frzOk, frzOkC]; try simp) (args' := _) (by simp only [go_sem, Nat.reduceLT, Nat.reduceLeDiff, Nat.reduceEqDiff, Nat.reduceAdd, Nat.reduceMul, Nat.reduceSub, reduceCtorEq, rowsD_len, rowsE_len, hws, hwe, h1, hre, hkl, hk, frzA, frzC]; try rfl) (by first | exact hc | exact l1In_ok _ _ _) (by simp only [go_sem, Nat.reduceLT, Nat.reduceLeDiff, Nat.reduceEqDiff, Nat.reduceAdd, Nat.reduceMul, Nat.reduceSub, reduceCtorEq, rowsD_len, rowsE_len, hws, hwe, h1, hre, hkl, hk]; try simp) (by decide) ?_
      | simp only [go_sem, Nat.reduceLT, Nat.reduceLeDiff, Nat.reduceEqDiff, Nat.reduceAdd, Nat.reduceMul, Nat.reduceSub, reduceCtorEq, rowsD_len, rowsE_len, hws, hwe, h1, hre, hkl, hk]
      | simp (disch := omega) only [decide_eq_true_eq, if_pos, if_neg, wrap_id, le_maxLen, and_true, true_and, if_true, ite_true]
      | refine guard_split (by simp only [go_sem, Nat.reduceLT, Nat.reduceLeDiff, Nat.reduceEqDiff, Nat.reduceAdd, Nat.reduceMul, Nat.reduceSub, reduceCtorEq, rowsD_len, rowsE_len, hws, hwe, h1, hre, hkl, hk]) rfl (fun hb => ?_) (fun hb => ?_)
    all_goals refine ret_scal (by simp only [go_sem, Nat.reduceLT, Nat.reduceLeDiff, Nat.reduceEqDiff, Nat.reduceAdd, Nat.reduceMul, Nat.reduceSub, reduceCtorEq]; rfl) rfl ?_
    all_goals simp_all
  · have h1 : inB f.desc 0 ((s.descs.length : Int) - 1) = false := by
      simp [inB]
      omega
    have hf : frameB s f = false := by simp [frameB, frmB, h1]
    rw [hf]
    clear hf
    repeat' first
      | refine VWP_seq_k fun _ hK => ?_
      | refine VWP_region_k hT ?_
      | refine VWP_draw_k hT hM (by kernel_rfl) rfl ?_
      | refine VWP_block ?_
      | refine VWP_skip ?_
      | refine VWP_exit ?_
      | refine VWP_ret ?_
      | (refine hK _ ?_; clear hK)
      | (clear hK; refine hK _ ?_; clear hK)
      | (clear hK; clear hK; refine hK _ ?_; clear hK)
      | (clear hK; clear hK; clear hK; refine hK _ ?_; clear hK)
      | (simp only [decide_eq_true_eq, decide_eq_false_iff_not, bne_iff_ne, ne_eq, Bool.not_eq_true', Bool.not_eq_false', Bool.true_eq_false, Bool.false_eq_true, reduceCtorEq, not_true_eq_false, eq_self] at hb <;> try (exfalso; omega))
      | refine VWP_cond2 _ (by simp only [go_sem, Nat.reduceLT, Nat.reduceLeDiff, Nat.reduceEqDiff, Nat.reduceAdd, Nat.reduceMul, Nat.reduceSub, reduceCtorEq, rowsD_len, hws, h1]; rfl) (fun hb => ?_) (fun hb => ?_)
      | refine callK (by simp only [go_sem, Nat.reduceLT, Nat.reduceLeDiff, Nat.reduceEqDiff, Nat.reduceAdd, Nat.reduceMul, Nat.reduceSub, reduceCtorEq, rowsD_len, hws, h1, List.mem_cons, List.not_mem_nil, or_false, forall_eq_or_imp, forall_eq, frzOk, frzOkC]; try simp) (args' := _) (by simp only [go_sem, Nat.reduceLT, Nat.reduceLeDiff, Nat.reduceEqDiff, Nat.reduceAdd, Nat.reduceMul, Nat.reduceSub, reduceCtorEq, rowsD_len, hws, h1, frzA, frzC]; try rfl) (by first | exact hc | exact l1In_ok _ _ _) (by simp only [go_sem, Nat.reduceLT, Nat.reduceLeDiff, Nat.reduceEqDiff, Nat.reduceAdd, Nat.reduceMul, Nat.reduceSub, reduceCtorEq, rowsD_len, hws, h1]; try simp) (by decide) ?_
      | simp only [go_sem, Nat.reduceLT, Nat.reduceLeDiff, Nat.reduceEqDiff, Nat.reduceAdd, Nat.reduceMul, Nat.reduceSub, reduceCtorEq, rowsD_len, hws, h1]
      | simp (disch := omega) only [decide_eq_true_eq, if_pos, if_neg, wrap_id, le_maxLen, and_true, true_and, if_true, ite_true]
      | refine guard_split (by simp only [go_sem, Nat.reduceLT, Nat.reduceLeDiff, Nat.reduceEqDiff, Nat.reduceAdd, Nat.reduceMul, Nat.reduceSub, reduceCtorEq, rowsD_len, hws, h1]) rfl (fun hb => ?_) (fun hb => ?_)
    all_goals refine ret_scal (by simp only [go_sem, Nat.reduceLT, Nat.reduceLeDiff, Nat.reduceEqDiff, Nat.reduceAdd, Nat.reduceMul, Nat.reduceSub, reduceCtorEq]; rfl) rfl ?_
    all_goals rfl
end Go.Proofs.YtclljpdcpcolpaaGreat
