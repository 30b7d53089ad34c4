/- Stores: what the laws' functions of stores give. -/
import Derived.Test.YtchkbgekmoileaaSD
namespace Go.Proofs.Ytchkbgekmoileaa
open Go Go.RowKit
set_option linter.unusedVariables false
set_option linter.unusedSimpArgs false
set_option maxRecDepth 100000
set_option maxHeartbeats 4000000
attribute [local irreducible] VWP vops vdraw contV contD CallK Guard GuardV NextL Puts Runs RetOK RetQ RetO RetQO thenQ blockQ

structure StoreD where
  heads : List HeadD
  descs : List DescS
  deriving DecidableEq
def StoreD.cells (th td te : TypeId) (s : StoreD) : List VV := [.fr th (rowsH s.heads), .fr td (rowsD te s.descs)]
def szS (s : StoreD) (left : Int) : Int := if szB s.heads.length left < 0 then -1 else szDs s.descs (szB s.heads.length left)
theorem szDs_neg {ds : List DescS} {left : Int} (h : szDs ds left < 0) (h0 : 0 ≤ left) : szDs ds left = -1 := by
  unfold szDs at *
  split
  · rename_i h2
    rw [if_pos h2] at h
    omega
  · rfl
theorem szS_fits (s : StoreD) (left : Int) (h0 : 0 ≤ left) : (0 ≤ szS s left → (s.heads.length : Int) + s.descs.length + entsN s.descs ≤ left ∧ szS s left = left - s.heads.length - s.descs.length - entsN s.descs) ∧ (szS s left < 0 → szS s left = -1) := by
  unfold szS szDs szB
  repeat' split
  all_goals omega
theorem entsN_mem : ∀ {ds : List DescS} {d : DescS}, d ∈ ds → d.entries.length ≤ entsN ds
  | [], d, h => by simp at h
  | a :: ds, d, h => by
    simp only [entsN]
    rcases List.mem_cons.1 h with rfl | h
    · omega
    · have := entsN_mem h
      omega
/-- What the kit knows of a store that came in. -/
def StoreD.fits (s : StoreD) : Prop := s.heads.length ≤ 9223372036854775807 ∧ s.descs.length ≤ 9223372036854775807 ∧ ∀ d ∈ s.descs, d.entries.length ≤ 9223372036854775807
/-- A store that is not too big. -/
def StoreD.small (s : StoreD) : Prop := s.heads.length ≤ 1048576 ∧ s.descs.length ≤ 1048576 ∧ ∀ d ∈ s.descs, d.entries.length ≤ 1048576
theorem szS_small {s : StoreD} {left : Int} (h0 : 0 ≤ left) (h1 : left ≤ 1048576) (h : 0 ≤ szS s left) : s.small := by
  obtain ⟨k1, _⟩ := (szS_fits s left h0).1 h
  exact ⟨by omega, by omega, fun d hd => by have := entsN_mem hd; omega⟩
theorem eqDescS_ok (es fs : List DescS) (hl : es.length ≤ 1099511627776) (he : ∀ d ∈ es, d.entries.length ≤ 1048576) : SatP Try.prog 21 [.fr 40 (rowsD 70 es), .fr 40 (rowsD 70 fs)] (.bool (decide (es = fs))) [] := by
  refine satP_of_body hT Try.func21 (by kernel_rfl) rfl (rs := [.tmp 4]) rfl (n := 27) rfl (by simp) rfl (by simp) fun E hE => ?_
  unfold St.init
  have F := @rowsD_len
  repeat' first
    | refine wSq fun _ hK => ?_
    | refine wRg ?_
    | refine wDr ?_
    | refine VWP_block ?_
    | refine VWP_skip ?_
    | refine VWP_exit ?_
    | refine VWP_ret ?_
    | (refine hK _ ?_; clear hK)
    | (clear hK; refine hK _ ?_; clear hK)
    | (clear hK; clear hK; refine hK _ ?_; clear hK)
    | (clear hK; clear hK; clear hK; refine hK _ ?_; clear hK)
    | (simp only [wHb, reduceCtorEq] at hb <;> try (exfalso; omega))
    | refine wCd (fun hb => ?_) fun hb => ?_
    | simp only [go_sem, Nat.reduceLT, Nat.reduceLeDiff, Nat.reduceEqDiff, Nat.reduceAdd, Nat.reduceMul, Nat.reduceSub, reduceCtorEq, F]
    | simp (disch := omega) only [decide_eq_true_eq, if_pos, if_neg, wrap_id, le_maxLen, and_true, true_and, if_true, ite_true]
    | refine wGd (fun hb => ?_) fun hb => ?_
  · refine wLf ?_
    have : es ≠ fs := fun h => by subst h; simp at hb
    simp [this]
  have hlen : es.length = fs.length := by simp at hb; omega
  clear hb
  refine VWP_loopL (X := Nat) (fun i => [(0, .fr 40 (rowsD 70 es)), (1, .fr 40 (rowsD 70 fs)), (5, .int .i64 i)]) (fun _ => []) (fun i => es.length - i) (fun i => i ≤ es.length ∧ ∀ j, j < i → es[j]? = fs[j]?) 0 0 ⟨by simp, by simp⟩ (by simp [updV]) (by simp) (by simp) ?_
  rintro i nx ⟨hi, hdone⟩ hB
  rcases Nat.lt_or_ge i es.length with hlt | hge
  · obtain ⟨e, hei⟩ : ∃ e, es[i]? = some e := ⟨_, List.getElem?_eq_getElem hlt⟩
    obtain ⟨f, hfi⟩ : ∃ f, fs[i]? = some f := ⟨_, List.getElem?_eq_getElem (by omega)⟩
    have hre := rowsD_at (te := 70) hei
    have hrf := rowsD_at (te := 70) hfi
    have F := And.intro @rowsD_len (And.intro hre (And.intro hrf @DescS.cells.eq_1))
    repeat' first
      | refine wSq fun _ hK => ?_
      | refine wRg ?_
      | refine wDr ?_
      | refine VWP_block ?_
      | refine VWP_skip ?_
      | refine VWP_exit ?_
      | refine VWP_ret ?_
      | (refine hK _ ?_; clear hK)
      | (clear hK; refine hK _ ?_; clear hK)
      | (clear hK; clear hK; refine hK _ ?_; clear hK)
      | (clear hK; clear hK; clear hK; refine hK _ ?_; clear hK)
      | (simp only [wHb, reduceCtorEq] at hb <;> try (exfalso; omega))
      | refine wCd (fun hb => ?_) fun hb => ?_
      | refine wCa (c := by first | exact eqDesc_ok e f (he e (List.mem_of_getElem? hei))) (k := ?_)
      | simp only [go_sem, Nat.reduceLT, Nat.reduceLeDiff, Nat.reduceEqDiff, Nat.reduceAdd, Nat.reduceMul, Nat.reduceSub, reduceCtorEq, F]
      | simp (disch := omega) only [decide_eq_true_eq, if_pos, if_neg, wrap_id, le_maxLen, and_true, true_and, if_true, ite_true]
      | refine wGd (fun hb => ?_) fun hb => ?_
    · refine wLf ?_
      have : es ≠ fs := fun h => by subst h; rw [hei] at hfi; cases hfi; simp_all
      simp [this]
    · have hef : e = f := by assumption
      have hw := wrap_id (x := (i : Int) + 1) (by omega)
      refine nextL (i + 1) ⟨by omega, fun j hj => ?_⟩ (by omega) (by simp [updV, tmL, hw]) (by simp) (by simp)
      rcases Nat.lt_or_ge j i with h | h
      · exact hdone j h
      · obtain rfl : j = i := by omega
        rw [hei, hfi, hef]
  · obtain rfl : i = es.length := by omega
    have : es = fs := List.ext_getElem? fun j => by
      rcases Nat.lt_or_ge j es.length with h | h
      · exact hdone j h
      · rw [List.getElem?_eq_none (by omega), List.getElem?_eq_none (by omega)]
    subst this
    have F := @rowsD_len
    repeat' first
      | refine wSq fun _ hK => ?_
      | refine wRg ?_
      | refine wDr ?_
      | refine VWP_block ?_
      | refine VWP_skip ?_
      | refine VWP_exit ?_
      | refine VWP_ret ?_
      | (refine hK _ ?_; clear hK)
      | (clear hK; refine hK _ ?_; clear hK)
      | (clear hK; clear hK; refine hK _ ?_; clear hK)
      | (clear hK; clear hK; clear hK; refine hK _ ?_; clear hK)
      | (simp only [wHb, reduceCtorEq] at hb <;> try (exfalso; omega))
      | refine wCd (fun hb => ?_) fun hb => ?_
      | simp only [go_sem, Nat.reduceLT, Nat.reduceLeDiff, Nat.reduceEqDiff, Nat.reduceAdd, Nat.reduceMul, Nat.reduceSub, reduceCtorEq, F]
      | simp (disch := omega) only [decide_eq_true_eq, if_pos, if_neg, wrap_id, le_maxLen, and_true, true_and, if_true, ite_true]
      | refine wGd (fun hb => ?_) fun hb => ?_
    refine wLf ?_
    simp
end Go.Proofs.Ytchkbgekmoileaa
