/- What Look and FrameOk give, the program's and the reference's; the laws on values. -/
import Derived.Test.YtchkbgekmoileaaSI
import Derived.Test.YtchkbgekmoileaaSF
namespace Go.Proofs.Ytchkbgekmoileaa
open Go Go.RowKit
set_option linter.unusedVariables false
set_option linter.unusedSimpArgs false
set_option maxRecDepth 100000
set_option maxHeartbeats 4000000
attribute [local irreducible] VWP vops vdraw contV contD CallK Guard GuardV NextL Puts Runs RetOK RetQ RetO RetQO thenQ blockQ

noncomputable def lookL (s : StoreD) (o : Int) : HeadD × Bool := if bP (StoreP s) = true ∧ inB o 0 ((s.heads.length : Int) - 1) = true then ((s.heads[o.toNat]?).getD ⟨0, 0, 0⟩, true) else (⟨0, 0, 0⟩, false)
def frmB (s : StoreD) (f : FrameD) : Bool := inB f.desc 0 ((s.descs.length : Int) - 1) && inB f.phase 0 5 &&
  (if f.phase = 1 ∨ f.phase = 4 then (match s.descs[f.desc.toNat]? with | some d => inB f.place 0 ((d.entries.length : Int) - 1) | none => false) else f.place == 0)
theorem isFrame_ok (s : StoreD) (f : FrameD) (hs : s.small) : SatP Try.prog 67 [.agg (s.cells 36 40 70), .agg f.cells] (.bool (frmB s f)) [] := by
  obtain ⟨f1, f2, f3⟩ := hs
  refine satP_of_body hT Try.func67 (by kernel_rfl) rfl (rs := [.tmp 4]) rfl (n := 42) rfl (by simp) rfl (by simp) fun E hE => ?_
  unfold St.init
  unfold StoreD.cells FrameD.cells
  have hws := wrap_id (x := (s.descs.length : Int) - 1) (by omega)
  by_cases hin : 0 ≤ f.desc ∧ f.desc < s.descs.length
  · obtain ⟨k, hk⟩ : ∃ k : Nat, f.desc = k := ⟨f.desc.toNat, by omega⟩
    have hkl : k < s.descs.length := by omega
    obtain ⟨d, hd⟩ : ∃ d, s.descs[k]? = some d := ⟨_, List.getElem?_eq_getElem hkl⟩
    have hre := rowsD_at (te := 70) hd
    have hde := f3 d (List.mem_of_getElem? hd)
    have hwe := wrap_id (x := (d.entries.length : Int) - 1) (by omega)
    have h1 : inB k 0 ((s.descs.length : Int) - 1) = true := by simp [inB]; omega
    have hf : frmB s f = (inB f.phase 0 5 && (if f.phase = 1 ∨ f.phase = 4 then inB f.place 0 ((d.entries.length : Int) - 1) else f.place == 0)) := by
      simp [frmB, hk, h1, hd]
    rw [hf]
    clear hf
    have F := And.intro @rowsD_len (And.intro @rowsE_len (And.intro hws (And.intro hwe (And.intro h1 (And.intro hre (And.intro hkl hk))))))
    repeat' first
      | refine wSq fun _ hK => ?_
      | refine wRg ?_
      | refine wDr ?_
      | refine VWP_block ?_
      | refine VWP_skip ?_
      | refine VWP_exit ?_
      | refine VWP_ret ?_
      | (refine hK _ ?_; clear hK)
      | (clear hK; refine hK _ ?_; clear hK)
      | (clear hK; clear hK; refine hK _ ?_; clear hK)
      | (clear hK; clear hK; clear hK; refine hK _ ?_; clear hK)
      | (simp only [wHb, reduceCtorEq] at hb <;> try (exfalso; omega))
      | refine wCd (fun hb => ?_) fun hb => ?_
      | refine wCa (c := by first | exact in_ok _ _ _) (k := ?_)
      | simp only [go_sem, Nat.reduceLT, Nat.reduceLeDiff, Nat.reduceEqDiff, Nat.reduceAdd, Nat.reduceMul, Nat.reduceSub, reduceCtorEq, F]
      | simp (disch := omega) only [decide_eq_true_eq, if_pos, if_neg, wrap_id, le_maxLen, and_true, true_and, if_true, ite_true]
      | refine wGd (fun hb => ?_) fun hb => ?_
    all_goals refine wLf ?_
    all_goals simp_all
  · have h1 : inB f.desc 0 ((s.descs.length : Int) - 1) = false := by
      simp [inB]
      omega
    have hf : frmB s f = false := by simp [frmB, h1]
    rw [hf]
    clear hf
    have F := And.intro @rowsD_len (And.intro hws h1)
    repeat' first
      | refine wSq fun _ hK => ?_
      | refine wRg ?_
      | refine wDr ?_
      | refine VWP_block ?_
      | refine VWP_skip ?_
      | refine VWP_exit ?_
      | refine VWP_ret ?_
      | (refine hK _ ?_; clear hK)
      | (clear hK; refine hK _ ?_; clear hK)
      | (clear hK; clear hK; refine hK _ ?_; clear hK)
      | (clear hK; clear hK; clear hK; refine hK _ ?_; clear hK)
      | (simp only [wHb, reduceCtorEq] at hb <;> try (exfalso; omega))
      | refine wCd (fun hb => ?_) fun hb => ?_
      | refine wCa (c := by first | exact in_ok _ _ _) (k := ?_)
      | simp only [go_sem, Nat.reduceLT, Nat.reduceLeDiff, Nat.reduceEqDiff, Nat.reduceAdd, Nat.reduceMul, Nat.reduceSub, reduceCtorEq, F]
      | simp (disch := omega) only [decide_eq_true_eq, if_pos, if_neg, wrap_id, le_maxLen, and_true, true_and, if_true, ite_true]
      | refine wGd (fun hb => ?_) fun hb => ?_
    all_goals refine wLf ?_
    all_goals rfl
noncomputable def frameB (s : StoreD) (f : FrameD) : Bool := bP (StoreP s) && frmB s f
end Go.Proofs.Ytchkbgekmoileaa
