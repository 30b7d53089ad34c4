/- What is told by marks on descriptors and stores. -/
import Derived.Test.YtclljpdcpcolpaaGreatYA
namespace Go.Proofs.YtclljpdcpcolpaaGreat
open Go Go.RowKit
set_option linter.unusedVariables false
set_option linter.unusedSimpArgs false
set_option maxRecDepth 100000
set_option maxHeartbeats 4000000
attribute [local irreducible] VWP vops vdraw contV contD CallK Guard GuardV NextL Puts Runs RetOK RetQ RetO RetQO thenQ blockQ

def StoreD.tiny (s : StoreD) : Prop := s.heads.length ≤ 1048576 ∧ s.descs.length ≤ 1048576 ∧ entsN s.descs ≤ 1048576
theorem StoreD.tiny.small {s : StoreD} (h : s.tiny) : s.small := ⟨h.1, h.2.1, fun d hd => Nat.le_trans (entsN_mem hd) h.2.2⟩
theorem szS_tiny {s : StoreD} {left : Int} (h0 : 0 ≤ left) (h1 : left ≤ 1048576) (h : 0 ≤ szS s left) : s.tiny := by
  obtain ⟨k1, _⟩ := (szS_fits s left h0).1 h
  exact ⟨by omega, by omega, by omega⟩
/-- How many marks lie on a store. -/
def cntS (s : StoreD) : Int := 3 * (s.heads.length : Int) + cntD s.descs s.descs.length
def marksS (k : Int) (s : StoreD) : StoreD := ⟨marksH k s.heads.length, marksD (k + 3 * s.heads.length) s.descs⟩
theorem markStore_ok (s : StoreD) (k : Int) (h0 : 0 ≤ k) (h1 : k ≤ 536870912) (hs : s.tiny) :
    SatO Tryz.prog 32 [.agg [.rf 0 s.heads.length, .rf 1 s.descs.length], .int .i64 k] [.root 67 (rowsH s.heads), .root 70 (rowsD 72 s.descs)] (.int .i64 (k + cntS s))
      [.root 67 (rowsH (marksS k s).heads), .root 70 (rowsD 72 (marksS k s).descs)] := by
  obtain ⟨f1, f2, f3⟩ := hs
  have hk : k + cntS s = k + 3 * (s.heads.length : Int) + cntD s.descs s.descs.length := by unfold cntS; omega
  rw [hk]
  refine satO_of_body hT Tryz.func32 (by kernel_rfl) rfl (rs := [.tmp 4]) rfl (n := 14) rfl (by simp) rfl (m := 2) rfl ⟨⟨rfl, rowsH_pur _⟩, ⟨rfl, rowsD_pur _ _⟩, by simp [keptL]⟩ fun E => ?_
  unfold St.initO
  repeat' first
    | refine VWP_seq_k fun _ hK => ?_
    | refine VWP_region_k hT ?_
    | refine VWP_draw_k hT hM (by kernel_rfl) rfl ?_
    | refine VWP_block ?_
    | refine VWP_skip ?_
    | refine VWP_exit ?_
    | refine VWP_ret ?_
    | (refine hK _ ?_; clear hK)
    | (clear hK; refine hK _ ?_; clear hK)
    | (clear hK; clear hK; refine hK _ ?_; clear hK)
    | (clear hK; clear hK; clear hK; refine hK _ ?_; clear hK)
    | (simp only [decide_eq_true_eq, decide_eq_false_iff_not, bne_iff_ne, ne_eq, Bool.not_eq_true', Bool.not_eq_false', Bool.true_eq_false, Bool.false_eq_true, reduceCtorEq, not_true_eq_false, eq_self] at hb <;> try (exfalso; omega))
    | refine VWP_cond2 _ (by simp only [go_sem, Nat.reduceLT, Nat.reduceLeDiff, Nat.reduceEqDiff, Nat.reduceAdd, Nat.reduceMul, Nat.reduceSub, reduceCtorEq, rowsH_pur, rowsH_len, rowsD_pur, rowsD_len]; rfl) (fun hb => ?_) (fun hb => ?_)
    | refine callK (by simp only [go_sem, Nat.reduceLT, Nat.reduceLeDiff, Nat.reduceEqDiff, Nat.reduceAdd, Nat.reduceMul, Nat.reduceSub, reduceCtorEq, rowsH_pur, rowsH_len, rowsD_pur, rowsD_len, List.mem_cons, List.not_mem_nil, or_false, forall_eq_or_imp, forall_eq, frzOk, frzOkC]; try simp) (args' := _) (by simp only [go_sem, Nat.reduceLT, Nat.reduceLeDiff, Nat.reduceEqDiff, Nat.reduceAdd, Nat.reduceMul, Nat.reduceSub, reduceCtorEq, rowsH_pur, rowsH_len, rowsD_pur, rowsD_len, frzA, frzC]; try rfl) (by first | fail) (by simp only [go_sem, Nat.reduceLT, Nat.reduceLeDiff, Nat.reduceEqDiff, Nat.reduceAdd, Nat.reduceMul, Nat.reduceSub, reduceCtorEq, rowsH_pur, rowsH_len, rowsD_pur, rowsD_len]; try simp) (by decide) ?_
    | refine callO [0] (by simp) (by simp only [go_sem, Nat.reduceLT, Nat.reduceLeDiff, Nat.reduceEqDiff, Nat.reduceAdd, Nat.reduceMul, Nat.reduceSub, reduceCtorEq, rowsH_pur, rowsH_len, rowsD_pur, rowsD_len, List.mem_cons, List.not_mem_nil, or_false, forall_eq_or_imp, forall_eq, viewOkE, viewOkC]; try simp) (by simp only [go_sem, Nat.reduceLT, Nat.reduceLeDiff, Nat.reduceEqDiff, Nat.reduceAdd, Nat.reduceMul, Nat.reduceSub, reduceCtorEq, rowsH_pur, rowsH_len, rowsD_pur, rowsD_len, List.mem_cons, List.not_mem_nil, or_false, forall_eq_or_imp, forall_eq, viewOk, viewOkC, frzOk, frzOkC]; try simp) (args' := _) (by simp only [go_sem, Nat.reduceLT, Nat.reduceLeDiff, Nat.reduceEqDiff, Nat.reduceAdd, Nat.reduceMul, Nat.reduceSub, reduceCtorEq, rowsH_pur, rowsH_len, rowsD_pur, rowsD_len, frzA, frzC]; try rfl) (I := _) (by simp only [go_sem, Nat.reduceLT, Nat.reduceLeDiff, Nat.reduceEqDiff, Nat.reduceAdd, Nat.reduceMul, Nat.reduceSub, reduceCtorEq, rowsH_pur, rowsH_len, rowsD_pur, rowsD_len]; try rfl) (by exact markHeadS_ok s.heads k h0 (by omega) (by omega)) (by decide) ?_
    | refine callO [1] (by simp) (by simp only [go_sem, Nat.reduceLT, Nat.reduceLeDiff, Nat.reduceEqDiff, Nat.reduceAdd, Nat.reduceMul, Nat.reduceSub, reduceCtorEq, rowsH_pur, rowsH_len, rowsD_pur, rowsD_len, List.mem_cons, List.not_mem_nil, or_false, forall_eq_or_imp, forall_eq, viewOkE, viewOkC]; try simp) (by simp only [go_sem, Nat.reduceLT, Nat.reduceLeDiff, Nat.reduceEqDiff, Nat.reduceAdd, Nat.reduceMul, Nat.reduceSub, reduceCtorEq, rowsH_pur, rowsH_len, rowsD_pur, rowsD_len, List.mem_cons, List.not_mem_nil, or_false, forall_eq_or_imp, forall_eq, viewOk, viewOkC, frzOk, frzOkC]; try simp) (args' := _) (by simp only [go_sem, Nat.reduceLT, Nat.reduceLeDiff, Nat.reduceEqDiff, Nat.reduceAdd, Nat.reduceMul, Nat.reduceSub, reduceCtorEq, rowsH_pur, rowsH_len, rowsD_pur, rowsD_len, frzA, frzC]; try rfl) (I := _) (by simp only [go_sem, Nat.reduceLT, Nat.reduceLeDiff, Nat.reduceEqDiff, Nat.reduceAdd, Nat.reduceMul, Nat.reduceSub, reduceCtorEq, rowsH_pur, rowsH_len, rowsD_pur, rowsD_len]; try rfl) (by exact markDescS_ok s.descs _ (by omega) (by omega) f2 f3) (by decide) ?_
    | simp only [go_sem, Nat.reduceLT, Nat.reduceLeDiff, Nat.reduceEqDiff, Nat.reduceAdd, Nat.reduceMul, Nat.reduceSub, reduceCtorEq, rowsH_pur, rowsH_len, rowsD_pur, rowsD_len]
    | simp (disch := omega) only [decide_eq_true_eq, if_pos, if_neg, wrap_id, le_maxLen, and_true, true_and, if_true, ite_true]
    | refine guard_split (by simp only [go_sem, Nat.reduceLT, Nat.reduceLeDiff, Nat.reduceEqDiff, Nat.reduceAdd, Nat.reduceMul, Nat.reduceSub, reduceCtorEq, rowsH_pur, rowsH_len, rowsD_pur, rowsD_len]) rfl (fun hb => ?_) (fun hb => ?_)
  exact retO_mk [] rfl [.root 67 (rowsH (marksS k s).heads), .root 70 (rowsD 72 (marksS k s).descs)] rfl (by simp [keepsL, updH, HpE, marksS]) rfl (by simp only [go_sem, Nat.reduceLT, Nat.reduceLeDiff, Nat.reduceEqDiff, Nat.reduceAdd, Nat.reduceMul, Nat.reduceSub, reduceCtorEq, vres]; rfl) (acc := []) rfl (by simp) rfl
end Go.Proofs.YtclljpdcpcolpaaGreat
