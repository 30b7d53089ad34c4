/- Stores: what the laws' functions of stores give. -/
import Derived.Test.YtmiojnibngncaaaSD
namespace Go.Proofs.Ytmiojnibngncaaa
open Go Go.RowKit
set_option linter.unusedVariables false
set_option linter.unusedSimpArgs false
set_option maxRecDepth 100000
set_option maxHeartbeats 4000000
attribute [local irreducible] VWP vops vdraw contV contD CallK Guard GuardV NextL Puts Runs RetOK RetQ RetO RetQO thenQ blockQ

structure StoreD where
  heads : List HeadD
  descs : List DescS
  deriving DecidableEq
def StoreD.cells (th td te : TypeId) (s : StoreD) : List VV := [.fr th (rowsH s.heads), .fr td (rowsD te s.descs)]
def szS (s : StoreD) (left : Int) : Int := if szB s.heads.length left < 0 then -1 else szDs s.descs (szB s.heads.length left)
theorem szDs_neg {ds : List DescS} {left : Int} (h : szDs ds left < 0) (h0 : 0 ≤ left) : szDs ds left = -1 := by
  unfold szDs at *
  split
  · rename_i h2
    rw [if_pos h2] at h
    omega
  · rfl
theorem szS_fits (s : StoreD) (left : Int) (h0 : 0 ≤ left) : (0 ≤ szS s left → (s.heads.length : Int) + s.descs.length + entsN s.descs ≤ left ∧ szS s left = left - s.heads.length - s.descs.length - entsN s.descs) ∧ (szS s left < 0 → szS s left = -1) := by
  unfold szS szDs szB
  repeat' split
  all_goals omega
theorem entsN_mem : ∀ {ds : List DescS} {d : DescS}, d ∈ ds → d.entries.length ≤ entsN ds
  | [], d, h => by simp at h
  | a :: ds, d, h => by
    simp only [entsN]
    rcases List.mem_cons.1 h with rfl | h
    · omega
    · have := entsN_mem h
      omega
/-- What the kit knows of a store that came in. -/
def StoreD.fits (s : StoreD) : Prop := s.heads.length ≤ 9223372036854775807 ∧ s.descs.length ≤ 9223372036854775807 ∧ ∀ d ∈ s.descs, d.entries.length ≤ 9223372036854775807
/-- A store that is not too big. -/
def StoreD.small (s : StoreD) : Prop := s.heads.length ≤ 1048576 ∧ s.descs.length ≤ 1048576 ∧ ∀ d ∈ s.descs, d.entries.length ≤ 1048576
theorem szS_small {s : StoreD} {left : Int} (h0 : 0 ≤ left) (h1 : left ≤ 1048576) (h : 0 ≤ szS s left) : s.small := by
  obtain ⟨k1, _⟩ := (szS_fits s left h0).1 h
  exact ⟨by omega, by omega, fun d hd => by have := entsN_mem hd; omega⟩
theorem szStore_ok (s : StoreD) (left : Int) (h0 : 0 ≤ left) (h1 : left ≤ 1048576) (hf : s.fits) :
    SatP Try.prog 33 [.agg (s.cells 149 87 98), .int .i64 left] (.int .i64 (szS s left)) [] := by
  obtain ⟨f1, f2, f3⟩ := hf
  have k1 := szB_le (n := s.heads.length) (left := left) (by omega) h1
  refine satP_of_body hT Try.func33 (by kernel_rfl) rfl (rs := [.tmp 4]) rfl (n := 18) rfl (by simp) rfl (by simp) fun E hE => ?_
  unfold St.init
  unfold StoreD.cells
  have F := (Eq.refl 0)
  repeat' first
    | refine wSq fun _ hK => ?_
    | refine wRg ?_
    | refine wDr ?_
    | refine VWP_block ?_
    | refine VWP_skip ?_
    | refine VWP_exit ?_
    | refine VWP_ret ?_
    | (refine hK _ ?_; clear hK)
    | (clear hK; refine hK _ ?_; clear hK)
    | (clear hK; clear hK; refine hK _ ?_; clear hK)
    | (clear hK; clear hK; clear hK; refine hK _ ?_; clear hK)
    | (simp only [wHb, reduceCtorEq] at hb <;> try (exfalso; omega))
    | refine wCd (fun hb => ?_) fun hb => ?_
    | refine wCa (c := by first | exact szHeadS_ok s.heads left h0 h1 f1 | exact szDescS_ok s.descs _ (by omega) (by omega) f2 f3) (k := ?_)
    | simp only [go_sem, Nat.reduceLT, Nat.reduceLeDiff, Nat.reduceEqDiff, Nat.reduceAdd, Nat.reduceMul, Nat.reduceSub, reduceCtorEq, F]
    | simp (disch := omega) only [decide_eq_true_eq, if_pos, if_neg, wrap_id, le_maxLen, and_true, true_and, if_true, ite_true]
    | refine wGd (fun hb => ?_) fun hb => ?_
  all_goals refine wLf ?_
  · rw [szS, if_pos (by assumption)]
  · rw [szS, if_neg (by omega), szDs_neg (by omega) (by omega)]
  · rw [szS, if_neg (by omega)]
theorem toStore_ok (s : StoreD) (hs : s.small) :
    SatP Try.prog 36 [.agg (s.cells 149 87 98)] (.agg [.rf 0 s.heads.length, .rf 1 s.descs.length]) [(147, rowsH s.heads), (37, rowsD 96 s.descs)] := by
  obtain ⟨f1, f2, f3⟩ := hs
  refine satP_of_body hT Try.func36 (by kernel_rfl) rfl (rs := [.cell 2 64]) rfl (n := 13) rfl (by simp) rfl (by simp [rowsH_pur, rowsD_pur]) fun E hE => ?_
  unfold St.init
  unfold StoreD.cells
  have F := (Eq.refl 0)
  repeat' first
    | refine wSq fun _ hK => ?_
    | refine wRg ?_
    | refine wDr ?_
    | refine VWP_block ?_
    | refine VWP_skip ?_
    | refine VWP_exit ?_
    | refine VWP_ret ?_
    | (refine hK _ ?_; clear hK)
    | (clear hK; refine hK _ ?_; clear hK)
    | (clear hK; clear hK; refine hK _ ?_; clear hK)
    | (clear hK; clear hK; clear hK; refine hK _ ?_; clear hK)
    | (simp only [wHb, reduceCtorEq] at hb <;> try (exfalso; omega))
    | refine wCd (fun hb => ?_) fun hb => ?_
    | refine wCa (c := by first | exact toHeadS_ok s.heads f1 | exact toDescS_ok s.descs f2 f3) (k := ?_)
    | simp only [go_sem, Nat.reduceLT, Nat.reduceLeDiff, Nat.reduceEqDiff, Nat.reduceAdd, Nat.reduceMul, Nat.reduceSub, reduceCtorEq, F]
    | simp (disch := omega) only [decide_eq_true_eq, if_pos, if_neg, wrap_id, le_maxLen, and_true, true_and, if_true, ite_true]
    | refine wGd (fun hb => ?_) fun hb => ?_
  refine ret_mk (vs := _) (acc := _) (by simp only [go_sem, Nat.reduceLT, Nat.reduceLeDiff, Nat.reduceEqDiff, Nat.reduceAdd, Nat.reduceMul, Nat.reduceSub, reduceCtorEq, vres]; rfl) (by simp only [go_sem, Nat.reduceLT, Nat.reduceLeDiff, Nat.reduceEqDiff, Nat.reduceAdd, Nat.reduceMul, Nat.reduceSub, reduceCtorEq, wrap, exV, exA, exCs, exC, rowsH_len, rowsD_len, Nat.le_refl]; rfl) (by simp) (by simp [List.take_of_length_le, rowsH_len, rowsD_len]) (by simp [rowsH_pur, rowsD_pur])
theorem eqDescS_ok (es fs : List DescS) (hl : es.length ≤ 1099511627776) (he : ∀ d ∈ es, d.entries.length ≤ 1048576) : SatP Try.prog 15 [.fr 37 (rowsD 96 es), .fr 37 (rowsD 96 fs)] (.bool (decide (es = fs))) [] := by
  refine satP_of_body hT Try.func15 (by kernel_rfl) rfl (rs := [.tmp 4]) rfl (n := 27) rfl (by simp) rfl (by simp) fun E hE => ?_
  unfold St.init
  have F := @rowsD_len
  repeat' first
    | refine wSq fun _ hK => ?_
    | refine wRg ?_
    | refine wDr ?_
    | refine VWP_block ?_
    | refine VWP_skip ?_
    | refine VWP_exit ?_
    | refine VWP_ret ?_
    | (refine hK _ ?_; clear hK)
    | (clear hK; refine hK _ ?_; clear hK)
    | (clear hK; clear hK; refine hK _ ?_; clear hK)
    | (clear hK; clear hK; clear hK; refine hK _ ?_; clear hK)
    | (simp only [wHb, reduceCtorEq] at hb <;> try (exfalso; omega))
    | refine wCd (fun hb => ?_) fun hb => ?_
    | simp only [go_sem, Nat.reduceLT, Nat.reduceLeDiff, Nat.reduceEqDiff, Nat.reduceAdd, Nat.reduceMul, Nat.reduceSub, reduceCtorEq, F]
    | simp (disch := omega) only [decide_eq_true_eq, if_pos, if_neg, wrap_id, le_maxLen, and_true, true_and, if_true, ite_true]
    | refine wGd (fun hb => ?_) fun hb => ?_
  · refine wLf ?_
    have : es ≠ fs := fun h => by subst h; simp at hb
    simp [this]
  have hlen : es.length = fs.length := by simp at hb; omega
  clear hb
  refine VWP_loopL (X := Nat) (fun i => [(0, .fr 37 (rowsD 96 es)), (1, .fr 37 (rowsD 96 fs)), (5, .int .i64 i)]) (fun _ => []) (fun i => es.length - i) (fun i => i ≤ es.length ∧ ∀ j, j < i → es[j]? = fs[j]?) 0 0 ⟨by simp, by simp⟩ (by simp [updV]) (by simp) (by simp) ?_
  rintro i nx ⟨hi, hdone⟩ hB
  rcases Nat.lt_or_ge i es.length with hlt | hge
  · obtain ⟨e, hei⟩ : ∃ e, es[i]? = some e := ⟨_, List.getElem?_eq_getElem hlt⟩
    obtain ⟨f, hfi⟩ : ∃ f, fs[i]? = some f := ⟨_, List.getElem?_eq_getElem (by omega)⟩
    have hre := rowsD_at (te := 96) hei
    have hrf := rowsD_at (te := 96) hfi
    have F := And.intro @rowsD_len (And.intro hre (And.intro hrf @DescS.cells.eq_1))
    repeat' first
      | refine wSq fun _ hK => ?_
      | refine wRg ?_
      | refine wDr ?_
      | refine VWP_block ?_
      | refine VWP_skip ?_
      | refine VWP_exit ?_
      | refine VWP_ret ?_
      | (refine hK _ ?_; clear hK)
      | (clear hK; refine hK _ ?_; clear hK)
      | (clear hK; clear hK; refine hK _ ?_; clear hK)
      | (clear hK; clear hK; clear hK; refine hK _ ?_; clear hK)
      | (simp only [wHb, reduceCtorEq] at hb <;> try (exfalso; omega))
      | refine wCd (fun hb => ?_) fun hb => ?_
      | refine wCa (c := by first | exact eqDesc_ok e f (he e (List.mem_of_getElem? hei))) (k := ?_)
      | simp only [go_sem, Nat.reduceLT, Nat.reduceLeDiff, Nat.reduceEqDiff, Nat.reduceAdd, Nat.reduceMul, Nat.reduceSub, reduceCtorEq, F]
      | simp (disch := omega) only [decide_eq_true_eq, if_pos, if_neg, wrap_id, le_maxLen, and_true, true_and, if_true, ite_true]
      | refine wGd (fun hb => ?_) fun hb => ?_
    · refine wLf ?_
      have : es ≠ fs := fun h => by subst h; rw [hei] at hfi; cases hfi; simp_all
      simp [this]
    · have hef : e = f := by assumption
      have hw := wrap_id (x := (i : Int) + 1) (by omega)
      refine nextL (i + 1) ⟨by omega, fun j hj => ?_⟩ (by omega) (by simp [updV, tmL, hw]) (by simp) (by simp)
      rcases Nat.lt_or_ge j i with h | h
      · exact hdone j h
      · obtain rfl : j = i := by omega
        rw [hei, hfi, hef]
  · obtain rfl : i = es.length := by omega
    have : es = fs := List.ext_getElem? fun j => by
      rcases Nat.lt_or_ge j es.length with h | h
      · exact hdone j h
      · rw [List.getElem?_eq_none (by omega), List.getElem?_eq_none (by omega)]
    subst this
    have F := @rowsD_len
    repeat' first
      | refine wSq fun _ hK => ?_
      | refine wRg ?_
      | refine wDr ?_
      | refine VWP_block ?_
      | refine VWP_skip ?_
      | refine VWP_exit ?_
      | refine VWP_ret ?_
      | (refine hK _ ?_; clear hK)
      | (clear hK; refine hK _ ?_; clear hK)
      | (clear hK; clear hK; refine hK _ ?_; clear hK)
      | (clear hK; clear hK; clear hK; refine hK _ ?_; clear hK)
      | (simp only [wHb, reduceCtorEq] at hb <;> try (exfalso; omega))
      | refine wCd (fun hb => ?_) fun hb => ?_
      | simp only [go_sem, Nat.reduceLT, Nat.reduceLeDiff, Nat.reduceEqDiff, Nat.reduceAdd, Nat.reduceMul, Nat.reduceSub, reduceCtorEq, F]
      | simp (disch := omega) only [decide_eq_true_eq, if_pos, if_neg, wrap_id, le_maxLen, and_true, true_and, if_true, ite_true]
      | refine wGd (fun hb => ?_) fun hb => ?_
    refine wLf ?_
    simp
theorem eqStore_ok (a b : StoreD) (hs : a.small) :
    SatP Try.prog 39 [.agg (a.cells 147 37 96), .agg (b.cells 147 37 96)] (.bool (decide (a = b))) [] := by
  obtain ⟨f1, f2, f3⟩ := hs
  refine satP_of_body hT Try.func39 (by kernel_rfl) rfl (rs := [.tmp 4]) rfl (n := 17) rfl (by simp) rfl (by simp) fun E hE => ?_
  unfold St.init
  unfold StoreD.cells
  have F := (Eq.refl 0)
  repeat' first
    | refine wSq fun _ hK => ?_
    | refine wRg ?_
    | refine wDr ?_
    | refine VWP_block ?_
    | refine VWP_skip ?_
    | refine VWP_exit ?_
    | refine VWP_ret ?_
    | (refine hK _ ?_; clear hK)
    | (clear hK; refine hK _ ?_; clear hK)
    | (clear hK; clear hK; refine hK _ ?_; clear hK)
    | (clear hK; clear hK; clear hK; refine hK _ ?_; clear hK)
    | (simp only [wHb, reduceCtorEq] at hb <;> try (exfalso; omega))
    | refine wCd (fun hb => ?_) fun hb => ?_
    | refine wCa (c := by first | exact eqHeadS_ok a.heads b.heads (by omega) | exact eqDescS_ok a.descs b.descs (by omega) f3) (k := ?_)
    | simp only [go_sem, Nat.reduceLT, Nat.reduceLeDiff, Nat.reduceEqDiff, Nat.reduceAdd, Nat.reduceMul, Nat.reduceSub, reduceCtorEq, F]
    | simp (disch := omega) only [decide_eq_true_eq, if_pos, if_neg, wrap_id, le_maxLen, and_true, true_and, if_true, ite_true]
    | refine wGd (fun hb => ?_) fun hb => ?_
  all_goals refine wLf ?_
  all_goals (cases a; cases b; simp_all)
end Go.Proofs.Ytmiojnibngncaaa
