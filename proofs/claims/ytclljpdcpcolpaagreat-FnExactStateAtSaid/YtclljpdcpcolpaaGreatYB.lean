/- What is told by marks on descriptors and stores. -/
import Derived.Test.YtclljpdcpcolpaaGreatYA
namespace Go.Proofs.YtclljpdcpcolpaaGreat
open Go Go.RowKit
set_option linter.unusedVariables false
set_option linter.unusedSimpArgs false
set_option maxRecDepth 100000
set_option maxHeartbeats 4000000
attribute [local irreducible] VWP vops vdraw contV contD CallK Guard GuardV NextL Puts Runs RetOK RetQ RetO RetQO thenQ blockQ

def StoreD.tiny (s : StoreD) : Prop := s.heads.length ≤ 1048576 ∧ s.descs.length ≤ 1048576 ∧ entsN s.descs ≤ 1048576
theorem StoreD.tiny.small {s : StoreD} (h : s.tiny) : s.small := ⟨h.1, h.2.1, fun d hd => Nat.le_trans (entsN_mem hd) h.2.2⟩
theorem szS_tiny {s : StoreD} {left : Int} (h0 : 0 ≤ left) (h1 : left ≤ 1048576) (h : 0 ≤ szS s left) : s.tiny := by
  obtain ⟨k1, _⟩ := (szS_fits s left h0).1 h
  exact ⟨by omega, by omega, by omega⟩
/-- How many marks lie on a store. -/
def cntS (s : StoreD) : Int := 3 * (s.heads.length : Int) + cntD s.descs s.descs.length
def marksS (k : Int) (s : StoreD) : StoreD := ⟨marksH k s.heads.length, marksD (k + 3 * s.heads.length) s.descs⟩
theorem markStore_ok (s : StoreD) (k : Int) (h0 : 0 ≤ k) (h1 : k ≤ 536870912) (hs : s.tiny) :
    SatO Tryz.prog 32 [.agg [.rf 0 s.heads.length, .rf 1 s.descs.length], .int .i64 k] [.root 67 (rowsH s.heads), .root 70 (rowsD 72 s.descs)] (.int .i64 (k + cntS s))
      [.root 67 (rowsH (marksS k s).heads), .root 70 (rowsD 72 (marksS k s).descs)] := by
  obtain ⟨f1, f2, f3⟩ := hs
  have hk : k + cntS s = k + 3 * (s.heads.length : Int) + cntD s.descs s.descs.length := by unfold cntS; omega
  rw [hk]
  refine satO_of_body hT Tryz.func32 (by kernel_rfl) rfl (rs := [.tmp 4]) rfl (n := 14) rfl (by simp) rfl (m := 2) rfl ⟨⟨rfl, rowsH_pur _⟩, ⟨rfl, rowsD_pur _ _⟩, by simp [keptL]⟩ fun E hE => ?_
  unfold St.initO
  have F := And.intro @rowsH_pur (And.intro @rowsH_len (And.intro @rowsD_pur @rowsD_len))
  repeat' first
    | refine wSq fun _ hK => ?_
    | refine wRg ?_
    | refine wDr ?_
    | refine VWP_block ?_
    | refine VWP_skip ?_
    | refine VWP_exit ?_
    | refine VWP_ret ?_
    | (refine hK _ ?_; clear hK)
    | (clear hK; refine hK _ ?_; clear hK)
    | (clear hK; clear hK; refine hK _ ?_; clear hK)
    | (clear hK; clear hK; clear hK; refine hK _ ?_; clear hK)
    | (simp only [wHb, reduceCtorEq] at hb <;> try (exfalso; omega))
    | refine wCd (fun hb => ?_) fun hb => ?_
    | refine wOw [0] (c := by exact markHeadS_ok s.heads k h0 (by omega) (by omega)) (k := ?_)
    | refine wOw [1] (c := by exact markDescS_ok s.descs _ (by omega) (by omega) f2 f3) (k := ?_)
    | simp only [go_sem, Nat.reduceLT, Nat.reduceLeDiff, Nat.reduceEqDiff, Nat.reduceAdd, Nat.reduceMul, Nat.reduceSub, reduceCtorEq, F]
    | simp (disch := omega) only [decide_eq_true_eq, if_pos, if_neg, wrap_id, le_maxLen, and_true, true_and, if_true, ite_true]
    | refine wGd (fun hb => ?_) fun hb => ?_
  exact retO_mk [] rfl [.root 67 (rowsH (marksS k s).heads), .root 70 (rowsD 72 (marksS k s).descs)] rfl (by simp [keepsL, updH, HpE, marksS]) rfl (by simp only [go_sem, Nat.reduceLT, Nat.reduceLeDiff, Nat.reduceEqDiff, Nat.reduceAdd, Nat.reduceMul, Nat.reduceSub, reduceCtorEq, vres]; rfl) (acc := []) rfl (by simp) rfl
end Go.Proofs.YtclljpdcpcolpaaGreat
