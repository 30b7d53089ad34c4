/- Where a frame goes: the program's onward and the reference's. -/
import Derived.Test.YtchkbgekmoileaaLB
import Derived.Test.YtchkbgekmoileaaSL
namespace Go.Proofs.Ytchkbgekmoileaa
open Go Go.RowKit
set_option linter.unusedVariables false
set_option linter.unusedSimpArgs false
set_option maxRecDepth 100000
set_option maxHeartbeats 4000000
attribute [local irreducible] VWP vops vdraw contV contD CallK Guard GuardV NextL Puts Runs RetOK RetQ RetO RetQO thenQ blockQ

/-- The frame at the next entry, or in another phase behind the last one. -/
def onwardM (n : Nat) (f : FrameD) (behind : Int) : FrameD := if f.place + 1 < (n : Int) then ⟨f.desc, f.phase, f.place + 1⟩ else ⟨f.desc, behind, 0⟩
theorem onward_ok (s : StoreD) (f : FrameD) (behind : Int) (k : Nat) (d : DescS) (hk : f.desc = k) (hd : s.descs[k]? = some d) (h0 : 0 ≤ f.place) (h1 : f.place ≤ 1048576) (hs : s.small) :
    SatP Try.prog 112 [.agg (s.cells 36 40 70), .agg f.cells, .int .i64 behind] (.agg (onwardM d.entries.length f behind).cells) [] := by
  obtain ⟨f1, f2, f3⟩ := hs
  have hkl := (List.getElem?_eq_some_iff.1 hd).1
  have hk0 : (0 : Int) ≤ (k : Nat) := by omega
  have hrd := rowsD_at (te := 70) hd
  have hde := f3 d (List.mem_of_getElem? hd)
  have hw := wrap_id (x := f.place + 1) (by omega)
  refine satP_of_body hT Try.func112 (by kernel_rfl) rfl (rs := [.cell 6 50]) rfl (n := 31) rfl (by simp) rfl (by simp) fun E hE => ?_
  unfold St.init
  unfold StoreD.cells FrameD.cells
  by_cases hlt : f.place + 1 < (d.entries.length : Int)
  · have he : onwardM d.entries.length f behind = ⟨f.desc, f.phase, f.place + 1⟩ := if_pos hlt
    rw [he]
    have F := And.intro @rowsD_len (And.intro @rowsE_len (And.intro hk (And.intro hk0 (And.intro hkl (And.intro hrd (And.intro hw hlt))))))
    repeat' first
      | refine wSq fun _ hK => ?_
      | refine wRg ?_
      | refine wDr ?_
      | refine VWP_block ?_
      | refine VWP_skip ?_
      | refine VWP_exit ?_
      | refine VWP_ret ?_
      | (refine hK _ ?_; clear hK)
      | (clear hK; refine hK _ ?_; clear hK)
      | (clear hK; clear hK; refine hK _ ?_; clear hK)
      | (clear hK; clear hK; clear hK; refine hK _ ?_; clear hK)
      | (simp only [wHb, reduceCtorEq] at hb <;> try (exfalso; omega))
      | refine wCd (fun hb => ?_) fun hb => ?_
      | simp only [go_sem, Nat.reduceLT, Nat.reduceLeDiff, Nat.reduceEqDiff, Nat.reduceAdd, Nat.reduceMul, Nat.reduceSub, reduceCtorEq, F]
      | simp (disch := omega) only [decide_eq_true_eq, if_pos, if_neg, wrap_id, le_maxLen, and_true, true_and, if_true, ite_true]
      | refine wGd (fun hb => ?_) fun hb => ?_
    refine ret_mk (vs := _) (acc := _) (by simp only [go_sem, Nat.reduceLT, Nat.reduceLeDiff, Nat.reduceEqDiff, Nat.reduceAdd, Nat.reduceMul, Nat.reduceSub, reduceCtorEq, vres]; rfl) (by simp only [go_sem, Nat.reduceLT, Nat.reduceLeDiff, Nat.reduceEqDiff, Nat.reduceAdd, Nat.reduceMul, Nat.reduceSub, reduceCtorEq, wrap, exV, exA, exCs, exC]; rfl) (by simp) (by simp) (by simp)
  · have he : onwardM d.entries.length f behind = ⟨f.desc, behind, 0⟩ := if_neg hlt
    rw [he]
    have F := And.intro @rowsD_len (And.intro @rowsE_len (And.intro hk (And.intro hk0 (And.intro hkl (And.intro hrd (And.intro hw hlt))))))
    repeat' first
      | refine wSq fun _ hK => ?_
      | refine wRg ?_
      | refine wDr ?_
      | refine VWP_block ?_
      | refine VWP_skip ?_
      | refine VWP_exit ?_
      | refine VWP_ret ?_
      | (refine hK _ ?_; clear hK)
      | (clear hK; refine hK _ ?_; clear hK)
      | (clear hK; clear hK; refine hK _ ?_; clear hK)
      | (clear hK; clear hK; clear hK; refine hK _ ?_; clear hK)
      | (simp only [wHb, reduceCtorEq] at hb <;> try (exfalso; omega))
      | refine wCd (fun hb => ?_) fun hb => ?_
      | simp only [go_sem, Nat.reduceLT, Nat.reduceLeDiff, Nat.reduceEqDiff, Nat.reduceAdd, Nat.reduceMul, Nat.reduceSub, reduceCtorEq, F]
      | simp (disch := omega) only [decide_eq_true_eq, if_pos, if_neg, wrap_id, le_maxLen, and_true, true_and, if_true, ite_true]
      | refine wGd (fun hb => ?_) fun hb => ?_
    refine ret_mk (vs := _) (acc := _) (by simp only [go_sem, Nat.reduceLT, Nat.reduceLeDiff, Nat.reduceEqDiff, Nat.reduceAdd, Nat.reduceMul, Nat.reduceSub, reduceCtorEq, vres]; rfl) (by simp only [go_sem, Nat.reduceLT, Nat.reduceLeDiff, Nat.reduceEqDiff, Nat.reduceAdd, Nat.reduceMul, Nat.reduceSub, reduceCtorEq, wrap, exV, exA, exCs, exC]; rfl) (by simp) (by simp) (by simp)
theorem l7Next_ok (s : StoreD) (f : FrameD) (behind : Int) (k : Nat) (d : DescS) (hk : f.desc = k) (hd : s.descs[k]? = some d) (h0 : 0 ≤ f.place) (h1 : f.place ≤ 1048576) (hs : s.small) :
    SatP Try.prog 88 [.agg (s.cells 36 40 70), .agg f.cells, .int .i64 behind] (.agg (onwardM d.entries.length f behind).cells) [] := by
  obtain ⟨f1, f2, f3⟩ := hs
  have hkl := (List.getElem?_eq_some_iff.1 hd).1
  have hk0 : (0 : Int) ≤ (k : Nat) := by omega
  have hrd := rowsD_at (te := 70) hd
  have hde := f3 d (List.mem_of_getElem? hd)
  have hw := wrap_id (x := f.place + 1) (by omega)
  refine satP_of_body hT Try.func88 (by kernel_rfl) rfl (rs := [.cell 6 50]) rfl (n := 28) rfl (by simp) rfl (by simp) fun E hE => ?_
  unfold St.init
  unfold StoreD.cells FrameD.cells
  by_cases hlt : f.place + 1 < (d.entries.length : Int)
  · have he : onwardM d.entries.length f behind = ⟨f.desc, f.phase, f.place + 1⟩ := if_pos hlt
    rw [he]
    have F := And.intro @rowsD_len (And.intro @rowsE_len (And.intro hk (And.intro hk0 (And.intro hkl (And.intro hrd (And.intro hw hlt))))))
    repeat' first
      | refine wSq fun _ hK => ?_
      | refine wRg ?_
      | refine wDr ?_
      | refine VWP_block ?_
      | refine VWP_skip ?_
      | refine VWP_exit ?_
      | refine VWP_ret ?_
      | (refine hK _ ?_; clear hK)
      | (clear hK; refine hK _ ?_; clear hK)
      | (clear hK; clear hK; refine hK _ ?_; clear hK)
      | (clear hK; clear hK; clear hK; refine hK _ ?_; clear hK)
      | (simp only [wHb, reduceCtorEq] at hb <;> try (exfalso; omega))
      | refine wCd (fun hb => ?_) fun hb => ?_
      | simp only [go_sem, Nat.reduceLT, Nat.reduceLeDiff, Nat.reduceEqDiff, Nat.reduceAdd, Nat.reduceMul, Nat.reduceSub, reduceCtorEq, F]
      | simp (disch := omega) only [decide_eq_true_eq, if_pos, if_neg, wrap_id, le_maxLen, and_true, true_and, if_true, ite_true]
      | refine wGd (fun hb => ?_) fun hb => ?_
    refine ret_mk (vs := _) (acc := _) (by simp only [go_sem, Nat.reduceLT, Nat.reduceLeDiff, Nat.reduceEqDiff, Nat.reduceAdd, Nat.reduceMul, Nat.reduceSub, reduceCtorEq, vres]; rfl) (by simp only [go_sem, Nat.reduceLT, Nat.reduceLeDiff, Nat.reduceEqDiff, Nat.reduceAdd, Nat.reduceMul, Nat.reduceSub, reduceCtorEq, wrap, exV, exA, exCs, exC]; rfl) (by simp) (by simp) (by simp)
  · have he : onwardM d.entries.length f behind = ⟨f.desc, behind, 0⟩ := if_neg hlt
    rw [he]
    have F := And.intro @rowsD_len (And.intro @rowsE_len (And.intro hk (And.intro hk0 (And.intro hkl (And.intro hrd (And.intro hw hlt))))))
    repeat' first
      | refine wSq fun _ hK => ?_
      | refine wRg ?_
      | refine wDr ?_
      | refine VWP_block ?_
      | refine VWP_skip ?_
      | refine VWP_exit ?_
      | refine VWP_ret ?_
      | (refine hK _ ?_; clear hK)
      | (clear hK; refine hK _ ?_; clear hK)
      | (clear hK; clear hK; refine hK _ ?_; clear hK)
      | (clear hK; clear hK; clear hK; refine hK _ ?_; clear hK)
      | (simp only [wHb, reduceCtorEq] at hb <;> try (exfalso; omega))
      | refine wCd (fun hb => ?_) fun hb => ?_
      | simp only [go_sem, Nat.reduceLT, Nat.reduceLeDiff, Nat.reduceEqDiff, Nat.reduceAdd, Nat.reduceMul, Nat.reduceSub, reduceCtorEq, F]
      | simp (disch := omega) only [decide_eq_true_eq, if_pos, if_neg, wrap_id, le_maxLen, and_true, true_and, if_true, ite_true]
      | refine wGd (fun hb => ?_) fun hb => ?_
    refine ret_mk (vs := _) (acc := _) (by simp only [go_sem, Nat.reduceLT, Nat.reduceLeDiff, Nat.reduceEqDiff, Nat.reduceAdd, Nat.reduceMul, Nat.reduceSub, reduceCtorEq, vres]; rfl) (by simp only [go_sem, Nat.reduceLT, Nat.reduceLeDiff, Nat.reduceEqDiff, Nat.reduceAdd, Nat.reduceMul, Nat.reduceSub, reduceCtorEq, wrap, exV, exA, exCs, exC]; rfl) (by simp) (by simp) (by simp)
end Go.Proofs.Ytchkbgekmoileaa
