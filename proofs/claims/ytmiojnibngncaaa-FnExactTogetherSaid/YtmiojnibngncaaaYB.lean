/- What is told by marks on descriptors and stores. -/
import Derived.Test.YtmiojnibngncaaaYA
namespace Go.Proofs.Ytmiojnibngncaaa
open Go Go.RowKit
set_option linter.unusedVariables false
set_option linter.unusedSimpArgs false
set_option maxRecDepth 100000
set_option maxHeartbeats 4000000
attribute [local irreducible] VWP vops vdraw contV contD CallK Guard GuardV NextL Puts Runs RetOK RetQ RetO RetQO thenQ blockQ

theorem heldDescS_ok (ds : List DescS) (k : Int) (h0 : 0 ≤ k) (h1 : k ≤ 1073741824) (hl : ds.length ≤ 1048576) (he : entsN ds ≤ 1048576) :
    SatP Try.prog 91 [.fr 37 (rowsD 96 (marksD k ds)), .int .i64 k] (.int .i64 (k + cntD ds ds.length)) [] := by
  refine satP_of_body hT Try.func91 (by kernel_rfl) rfl (rs := [.tmp 4]) rfl (n := 40) rfl (by simp) rfl (by simp) fun E hE => ?_
  unfold St.init
  have F := And.intro @rowsD_len @marksD_len
  repeat' first
    | refine wSq fun _ hK => ?_
    | refine wRg ?_
    | refine wDr ?_
    | refine VWP_block ?_
    | refine VWP_skip ?_
    | refine VWP_exit ?_
    | refine VWP_ret ?_
    | (refine hK _ ?_; clear hK)
    | (clear hK; refine hK _ ?_; clear hK)
    | (clear hK; clear hK; refine hK _ ?_; clear hK)
    | (clear hK; clear hK; clear hK; refine hK _ ?_; clear hK)
    | (simp only [wHb, reduceCtorEq] at hb <;> try (exfalso; omega))
    | refine wCd (fun hb => ?_) fun hb => ?_
    | simp only [go_sem, Nat.reduceLT, Nat.reduceLeDiff, Nat.reduceEqDiff, Nat.reduceAdd, Nat.reduceMul, Nat.reduceSub, reduceCtorEq, F]
    | simp (disch := omega) only [decide_eq_true_eq, if_pos, if_neg, wrap_id, le_maxLen, and_true, true_and, if_true, ite_true]
    | refine wGd (fun hb => ?_) fun hb => ?_
  refine VWP_loopL (X := Nat) (fun i => [(0, .fr 37 (rowsD 96 (marksD k ds))), (1, .int .i64 (k + cntD ds i)), (5, .int .i64 i)]) (fun _ => []) (fun i => ds.length - i)
    (fun i => i ≤ ds.length) 0 0 (by simp) (by simp [updV, cntD, entsN]) (by simp) (by simp) ?_
  rintro i nx hi hB
  rcases Nat.lt_or_ge i ds.length with hlt | hge
  · obtain ⟨e, hei⟩ : ∃ e, ds[i]? = some e := ⟨_, List.getElem?_eq_getElem hlt⟩
    have hr := rowsD_at (te := 96) (marksD_at (k := k) hei)
    simp only [mkD] at hr
    have hcl := cntD_le ds (Nat.le_of_lt hlt)
    have hcs := cntD_le ds (i := i + 1) (by omega)
    have hsu := cntD_succ hei
    have hw := wrap_id (x := (i : Int) + 1) (by omega)
    have hw1 := wrap_id (x := k + cntD ds i + 1) (by omega)
    have hw2 := wrap_id (x := k + cntD ds i + 1 + 1) (by omega)
    have hel : e.entries.length ≤ 1048576 := by have := entsN_mem (List.mem_of_getElem? hei); omega
    have hn : ¬ k + cntD ds i + 1 + 1 + 5 * (e.entries.length : Int) < 0 := by omega
    have F := And.intro hr (And.intro hlt (And.intro hw1 (And.intro hw2 (And.intro @rowsD_len (And.intro @marksD_len (And.intro @bne_self_eq_false.{0} hn))))))
    repeat' first
      | refine wSq fun _ hK => ?_
      | refine wRg ?_
      | refine wDr ?_
      | refine VWP_block ?_
      | refine VWP_skip ?_
      | refine VWP_exit ?_
      | refine VWP_ret ?_
      | (refine hK _ ?_; clear hK)
      | (clear hK; refine hK _ ?_; clear hK)
      | (clear hK; clear hK; refine hK _ ?_; clear hK)
      | (clear hK; clear hK; clear hK; refine hK _ ?_; clear hK)
      | (simp only [wHb, reduceCtorEq] at hb <;> try (exfalso; omega))
      | refine wCd (fun hb => ?_) fun hb => ?_
      | refine wCa (c := by first | exact heldEntryS_ok e.entries.length (k + cntD ds i + 1 + 1) (by omega) (by omega) (by omega)) (k := ?_)
      | simp only [go_sem, Nat.reduceLT, Nat.reduceLeDiff, Nat.reduceEqDiff, Nat.reduceAdd, Nat.reduceMul, Nat.reduceSub, reduceCtorEq, F]
      | simp (disch := omega) only [decide_eq_true_eq, if_pos, if_neg, wrap_id, le_maxLen, and_true, true_and, if_true, ite_true]
      | refine wGd (fun hb => ?_) fun hb => ?_
    have : k + cntD ds i + 1 + 1 + 5 * (e.entries.length : Int) = k + cntD ds (i + 1) := by omega
    exact nextL (i + 1) (by omega) (by omega) (by simp [updV, tmL, hw, this]) (by simp) (by simp)
  · obtain rfl : i = ds.length := by omega
    have F := And.intro @rowsD_len @marksD_len
    repeat' first
      | refine wSq fun _ hK => ?_
      | refine wRg ?_
      | refine wDr ?_
      | refine VWP_block ?_
      | refine VWP_skip ?_
      | refine VWP_exit ?_
      | refine VWP_ret ?_
      | (refine hK _ ?_; clear hK)
      | (clear hK; refine hK _ ?_; clear hK)
      | (clear hK; clear hK; refine hK _ ?_; clear hK)
      | (clear hK; clear hK; clear hK; refine hK _ ?_; clear hK)
      | (simp only [wHb, reduceCtorEq] at hb <;> try (exfalso; omega))
      | refine wCd (fun hb => ?_) fun hb => ?_
      | simp only [go_sem, Nat.reduceLT, Nat.reduceLeDiff, Nat.reduceEqDiff, Nat.reduceAdd, Nat.reduceMul, Nat.reduceSub, reduceCtorEq, F]
      | simp (disch := omega) only [decide_eq_true_eq, if_pos, if_neg, wrap_id, le_maxLen, and_true, true_and, if_true, ite_true]
      | refine wGd (fun hb => ?_) fun hb => ?_
    refine wLf ?_
    rfl
/-- A store of which all is not too much. -/
def StoreD.tiny (s : StoreD) : Prop := s.heads.length ≤ 1048576 ∧ s.descs.length ≤ 1048576 ∧ entsN s.descs ≤ 1048576
theorem StoreD.tiny.small {s : StoreD} (h : s.tiny) : s.small := ⟨h.1, h.2.1, fun d hd => Nat.le_trans (entsN_mem hd) h.2.2⟩
theorem szS_tiny {s : StoreD} {left : Int} (h0 : 0 ≤ left) (h1 : left ≤ 1048576) (h : 0 ≤ szS s left) : s.tiny := by
  obtain ⟨k1, _⟩ := (szS_fits s left h0).1 h
  exact ⟨by omega, by omega, by omega⟩
/-- How many marks lie on a store. -/
def cntS (s : StoreD) : Int := 3 * (s.heads.length : Int) + cntD s.descs s.descs.length
def marksS (k : Int) (s : StoreD) : StoreD := ⟨marksH k s.heads.length, marksD (k + 3 * s.heads.length) s.descs⟩
theorem markStore_ok (s : StoreD) (k : Int) (h0 : 0 ≤ k) (h1 : k ≤ 536870912) (hs : s.tiny) :
    SatO Try.prog 41 [.agg [.rf 0 s.heads.length, .rf 1 s.descs.length], .int .i64 k] [.root 147 (rowsH s.heads), .root 37 (rowsD 96 s.descs)] (.int .i64 (k + cntS s))
      [.root 147 (rowsH (marksS k s).heads), .root 37 (rowsD 96 (marksS k s).descs)] := by
  obtain ⟨f1, f2, f3⟩ := hs
  have hk : k + cntS s = k + 3 * (s.heads.length : Int) + cntD s.descs s.descs.length := by unfold cntS; omega
  rw [hk]
  refine satO_of_body hT Try.func41 (by kernel_rfl) rfl (rs := [.tmp 4]) rfl (n := 14) rfl (by simp) rfl (m := 2) rfl ⟨⟨rfl, rowsH_pur _⟩, ⟨rfl, rowsD_pur _ _⟩, by simp [keptL]⟩ fun E hE => ?_
  unfold St.initO
  have F := And.intro @rowsH_pur (And.intro @rowsH_len (And.intro @rowsD_pur @rowsD_len))
  repeat' first
    | refine wSq fun _ hK => ?_
    | refine wRg ?_
    | refine wDr ?_
    | refine VWP_block ?_
    | refine VWP_skip ?_
    | refine VWP_exit ?_
    | refine VWP_ret ?_
    | (refine hK _ ?_; clear hK)
    | (clear hK; refine hK _ ?_; clear hK)
    | (clear hK; clear hK; refine hK _ ?_; clear hK)
    | (clear hK; clear hK; clear hK; refine hK _ ?_; clear hK)
    | (simp only [wHb, reduceCtorEq] at hb <;> try (exfalso; omega))
    | refine wCd (fun hb => ?_) fun hb => ?_
    | refine wOw [0] (c := by exact markHeadS_ok s.heads k h0 (by omega) (by omega)) (k := ?_)
    | refine wOw [1] (c := by exact markDescS_ok s.descs _ (by omega) (by omega) f2 f3) (k := ?_)
    | simp only [go_sem, Nat.reduceLT, Nat.reduceLeDiff, Nat.reduceEqDiff, Nat.reduceAdd, Nat.reduceMul, Nat.reduceSub, reduceCtorEq, F]
    | simp (disch := omega) only [decide_eq_true_eq, if_pos, if_neg, wrap_id, le_maxLen, and_true, true_and, if_true, ite_true]
    | refine wGd (fun hb => ?_) fun hb => ?_
  exact retO_mk [] rfl [.root 147 (rowsH (marksS k s).heads), .root 37 (rowsD 96 (marksS k s).descs)] rfl (by simp [keepsL, updH, HpE, marksS]) rfl (by simp only [go_sem, Nat.reduceLT, Nat.reduceLeDiff, Nat.reduceEqDiff, Nat.reduceAdd, Nat.reduceMul, Nat.reduceSub, reduceCtorEq, vres]; rfl) (acc := []) rfl (by simp) rfl
theorem heldStore_ok (s : StoreD) (k : Int) (h0 : 0 ≤ k) (h1 : k ≤ 536870912) (hs : s.tiny) :
    SatP Try.prog 43 [.agg [.fr 147 (rowsH (marksS k s).heads), .fr 37 (rowsD 96 (marksS k s).descs)], .int .i64 k] (.int .i64 (k + cntS s)) [] := by
  obtain ⟨f1, f2, f3⟩ := hs
  have hn : ¬ k + 3 * (s.heads.length : Int) < 0 := by omega
  have hc := cntD_le s.descs (Nat.le_refl _)
  have hn2 : ¬ k + 3 * (s.heads.length : Int) + cntD s.descs s.descs.length < 0 := by omega
  refine satP_of_body hT Try.func43 (by kernel_rfl) rfl (rs := [.tmp 4]) rfl (n := 18) rfl (by simp) rfl (by simp) fun E hE => ?_
  unfold St.init
  unfold marksS
  have F := And.intro hn hn2
  repeat' first
    | refine wSq fun _ hK => ?_
    | refine wRg ?_
    | refine wDr ?_
    | refine VWP_block ?_
    | refine VWP_skip ?_
    | refine VWP_exit ?_
    | refine VWP_ret ?_
    | (refine hK _ ?_; clear hK)
    | (clear hK; refine hK _ ?_; clear hK)
    | (clear hK; clear hK; refine hK _ ?_; clear hK)
    | (clear hK; clear hK; clear hK; refine hK _ ?_; clear hK)
    | (simp only [wHb, reduceCtorEq] at hb <;> try (exfalso; omega))
    | refine wCd (fun hb => ?_) fun hb => ?_
    | refine wCa (c := by first | exact heldHeadS_ok s.heads.length k h0 (by omega) (by omega) | exact heldDescS_ok s.descs _ (by omega) (by omega) f2 f3) (k := ?_)
    | simp only [go_sem, Nat.reduceLT, Nat.reduceLeDiff, Nat.reduceEqDiff, Nat.reduceAdd, Nat.reduceMul, Nat.reduceSub, reduceCtorEq, F]
    | simp (disch := omega) only [decide_eq_true_eq, if_pos, if_neg, wrap_id, le_maxLen, and_true, true_and, if_true, ite_true]
    | refine wGd (fun hb => ?_) fun hb => ?_
  refine wLf ?_
  rw [cntS, Int.add_assoc]
end Go.Proofs.Ytmiojnibngncaaa
