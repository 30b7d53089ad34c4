/- Worlds: what the laws' functions of worlds give. -/
import Derived.Test.YtclljpdcpcolpaaZA
import Derived.Test.YtclljpdcpcolpaaZV
import Derived.Test.YtclljpdcpcolpaaYB
namespace Go.Proofs.Ytclljpdcpcolpaa
open Go Go.RowKit
set_option linter.unusedVariables false
set_option linter.unusedSimpArgs false
set_option maxRecDepth 100000
set_option maxHeartbeats 4000000
attribute [local irreducible] VWP vops vdraw contV contD CallK Guard GuardV NextL Puts Runs RetOK RetQ RetO RetQO thenQ blockQ

structure WorldD where
  first : List Int
  store : StoreD
  threads : List ThreadD
  log : List EventD
  deriving DecidableEq
def WorldD.cells (tn th td te tt ti tf tv : TypeId) (w : WorldD) : List VV := [.fr tn (rowsN w.first), .fr th (rowsH w.store.heads), .fr td (rowsD te w.store.descs), .fr tt (rowsTh ti te tf w.threads), .fr tv (rowsV w.log)]
theorem szIntS_ok (es : List Int) (left : Int) (h0 : 0 ≤ left) (h1 : left ≤ 1048576) (hl : es.length ≤ 9223372036854775807) : SatP Try.prog 123 [.fr 3 (rowsN es), .int .i64 left] (.int .i64 (szB es.length left)) [] := by
  have hw : IntKind.i64.wrap (left - es.length) = left - es.length := wrap_id (by omega)
  refine satP_of_body hT Try.func123 (by kernel_rfl) rfl (rs := [.tmp 4]) rfl (n := 12) rfl (by simp) rfl (by simp) fun E hE => ?_
  unfold St.init
  have F := And.intro @rowsN_len hw
  repeat' first
    | refine wSq fun _ hK => ?_
    | refine wRg ?_
    | refine wDr ?_
    | refine VWP_block ?_
    | refine VWP_skip ?_
    | refine VWP_exit ?_
    | refine VWP_ret ?_
    | (refine hK _ ?_; clear hK)
    | (clear hK; refine hK _ ?_; clear hK)
    | (clear hK; clear hK; refine hK _ ?_; clear hK)
    | (clear hK; clear hK; clear hK; refine hK _ ?_; clear hK)
    | (simp only [wHb, reduceCtorEq] at hb <;> try (exfalso; omega))
    | refine wCd (fun hb => ?_) fun hb => ?_
    | simp only [go_sem, Nat.reduceLT, Nat.reduceLeDiff, Nat.reduceEqDiff, Nat.reduceAdd, Nat.reduceMul, Nat.reduceSub, reduceCtorEq, F]
    | simp (disch := omega) only [decide_eq_true_eq, if_pos, if_neg, wrap_id, le_maxLen, and_true, true_and, if_true, ite_true]
    | refine wGd (fun hb => ?_) fun hb => ?_
  all_goals refine wLf ?_
  all_goals simp only [szB]
  · rw [if_pos (by omega)]
  · rw [if_neg (by omega)]
def szW (w : WorldD) (left : Int) : Int :=
  if szB w.first.length left < 0 then -1 else
  if szS w.store (szB w.first.length left) < 0 then -1 else
  if szTs w.threads (szS w.store (szB w.first.length left)) < 0 then -1 else
  szB w.log.length (szTs w.threads (szS w.store (szB w.first.length left)))
def WorldD.fits (w : WorldD) : Prop := w.first.length ≤ 9223372036854775807 ∧ w.store.fits ∧ w.threads.length ≤ 9223372036854775807 ∧ (∀ t ∈ w.threads, t.fits) ∧ w.log.length ≤ 9223372036854775807
/-- A world of which all is not too much. -/
def WorldD.tiny (w : WorldD) : Prop := w.first.length ≤ 1048576 ∧ w.store.tiny ∧ w.threads.length ≤ 1048576 ∧ thN w.threads ≤ 1048576 ∧ w.log.length ≤ 1048576
theorem WorldD.tiny.thr {w : WorldD} (h : w.tiny) : ∀ t ∈ w.threads, t.small := fun t ht => by
  have := thN_mem ht
  have := h.2.2.2.1
  exact ⟨by omega, by omega, by omega⟩
theorem szTs_fits (ts : List ThreadD) (left : Int) (h0 : 0 ≤ left) : (0 ≤ szTs ts left → (ts.length : Int) + thN ts ≤ left ∧ szTs ts left = left - ts.length - thN ts) ∧ (szTs ts left < 0 → szTs ts left = -1) := by
  unfold szTs
  split <;> omega
theorem szW_tiny {w : WorldD} {left : Int} (h0 : 0 ≤ left) (h1 : left ≤ 1048576) : (0 ≤ szW w left → w.tiny) ∧ (szW w left < 0 → szW w left = -1) := by
  unfold szW
  split
  · exact ⟨fun h => by omega, fun _ => rfl⟩
  · rename_i a1
    have b1 := szB_le (n := w.first.length) (left := left) (by omega) h1
    obtain ⟨s1, s2⟩ := szS_fits w.store (szB w.first.length left) (by omega)
    split
    · exact ⟨fun h => by omega, fun _ => rfl⟩
    · rename_i a2
      obtain ⟨s3, s4⟩ := s1 (by omega)
      obtain ⟨t1, t2⟩ := szTs_fits w.threads (szS w.store (szB w.first.length left)) (by omega)
      split
      · exact ⟨fun h => by omega, fun _ => rfl⟩
      · rename_i a3
        obtain ⟨t3, t4⟩ := t1 (by omega)
        refine ⟨fun h => ?_, fun h => szB_neg h⟩
        have ha : w.first.length ≤ left ∧ szB w.first.length left = left - w.first.length := by
          unfold szB at a1 ⊢
          split at a1 <;> rename_i q
          · omega
          · rw [if_neg q]; omega
        have hb : (w.log.length : Int) ≤ szTs w.threads (szS w.store (szB w.first.length left)) := by
          rw [szB] at h
          split at h <;> omega
        exact ⟨by omega, ⟨by omega, by omega, by omega⟩, by omega, by omega, by omega⟩
theorem szWorld_ok (w : WorldD) (left : Int) (h0 : 0 ≤ left) (h1 : left ≤ 1048576) (hf : w.fits) :
    SatP Try.prog 60 [.agg (w.cells 3 170 56 174 78 184 68 196), .int .i64 left] (.int .i64 (szW w left)) [] := by
  obtain ⟨f1, f2, f3, f4, f5⟩ := hf
  have k1 := szB_le (n := w.first.length) (left := left) (by omega) h1
  have hcs := fun (l : Int) (h0 : 0 ≤ l) (h1 : l ≤ 1048576) => szStore_ok w.store l h0 h1 f2
  unfold StoreD.cells at hcs
  have k2 : ¬ szB w.first.length left < 0 → szS w.store (szB w.first.length left) ≤ 1048576 := fun h => by
    have := szS_fits w.store (szB w.first.length left) (by omega)
    omega
  have k3 : ¬ szB w.first.length left < 0 → ¬ szS w.store (szB w.first.length left) < 0 → szTs w.threads (szS w.store (szB w.first.length left)) ≤ 1048576 := fun h h' => by
    have := szTs_fits w.threads (szS w.store (szB w.first.length left)) (by omega)
    have := k2 h
    omega
  refine satP_of_body hT Try.func60 (by kernel_rfl) rfl (rs := [.tmp 4]) rfl (n := 30) rfl (by simp) rfl (by simp) fun E hE => ?_
  unfold St.init
  unfold WorldD.cells
  have F := (Eq.refl 0)
  repeat' first
    | refine wSq fun _ hK => ?_
    | refine wRg ?_
    | refine wDr ?_
    | refine VWP_block ?_
    | refine VWP_skip ?_
    | refine VWP_exit ?_
    | refine VWP_ret ?_
    | (refine hK _ ?_; clear hK)
    | (clear hK; refine hK _ ?_; clear hK)
    | (clear hK; clear hK; refine hK _ ?_; clear hK)
    | (clear hK; clear hK; clear hK; refine hK _ ?_; clear hK)
    | (simp only [wHb, reduceCtorEq] at hb <;> try (exfalso; omega))
    | refine wCd (fun hb => ?_) fun hb => ?_
    | refine wCa (c := by first | exact szIntS_ok w.first left h0 h1 f1 | exact hcs _ (by omega) (by omega) | exact szThreadS_ok w.threads _ (by omega) (by omega) f3 f4 | exact szEventS_ok w.log _ (by omega) (by omega) f5) (k := ?_)
    | simp only [go_sem, Nat.reduceLT, Nat.reduceLeDiff, Nat.reduceEqDiff, Nat.reduceAdd, Nat.reduceMul, Nat.reduceSub, reduceCtorEq, F]
    | simp (disch := omega) only [decide_eq_true_eq, if_pos, if_neg, wrap_id, le_maxLen, and_true, true_and, if_true, ite_true]
    | refine wGd (fun hb => ?_) fun hb => ?_
  all_goals refine wLf ?_
  · rw [szW, if_pos (by assumption)]
  · rw [szW, if_neg (by assumption), if_pos (by assumption)]
  · rw [szW, if_neg (by assumption), if_neg (by assumption), if_pos (by assumption)]
  · rw [szW, if_neg (by assumption), if_neg (by assumption), if_neg (by assumption)]
    rw [szB_neg (by omega)]
  · rw [szW, if_neg (by assumption), if_neg (by assumption), if_neg (by assumption)]
theorem toWorld_ok (w : WorldD) (hs : w.tiny) :
    SatP Try.prog 62 [.agg (w.cells 3 170 56 174 78 184 68 196)]
      (.agg [.rf 0 w.first.length, .rf 1 w.store.heads.length, .rf 2 w.store.descs.length, .rf 3 w.threads.length, .rf 4 w.log.length])
      [(3, rowsN w.first), (125, rowsH w.store.heads), (62, rowsD 131 w.store.descs), (83, rowsTh 146 131 69 w.threads), (193, rowsV w.log)] := by
  obtain ⟨f1, f2, f3, f4, f5⟩ := hs
  have hthr := WorldD.tiny.thr (w := w) ⟨f1, f2, f3, f4, f5⟩
  have hcs := toStore_ok w.store f2.small
  unfold StoreD.cells at hcs
  refine satP_of_body hT Try.func62 (by kernel_rfl) rfl (rs := [.cell 2 94]) rfl (n := 21) rfl (by simp) rfl (by simp [rowsN_pur, rowsH_pur, rowsD_pur, rowsTh_pur, rowsV_pur]) fun E hE => ?_
  unfold St.init
  unfold WorldD.cells
  have F := (Eq.refl 0)
  repeat' first
    | refine wSq fun _ hK => ?_
    | refine wRg ?_
    | refine wDr ?_
    | refine VWP_block ?_
    | refine VWP_skip ?_
    | refine VWP_exit ?_
    | refine VWP_ret ?_
    | (refine hK _ ?_; clear hK)
    | (clear hK; refine hK _ ?_; clear hK)
    | (clear hK; clear hK; refine hK _ ?_; clear hK)
    | (clear hK; clear hK; clear hK; refine hK _ ?_; clear hK)
    | (simp only [wHb, reduceCtorEq] at hb <;> try (exfalso; omega))
    | refine wCd (fun hb => ?_) fun hb => ?_
    | refine wCa (c := by first | exact toIntS_ok w.first f1 | exact hcs | exact toThreadS_ok w.threads f3 hthr | exact toEventS_ok w.log f5) (k := ?_)
    | simp only [go_sem, Nat.reduceLT, Nat.reduceLeDiff, Nat.reduceEqDiff, Nat.reduceAdd, Nat.reduceMul, Nat.reduceSub, reduceCtorEq, F]
    | simp (disch := omega) only [decide_eq_true_eq, if_pos, if_neg, wrap_id, le_maxLen, and_true, true_and, if_true, ite_true]
    | refine wGd (fun hb => ?_) fun hb => ?_
  refine ret_mk (vs := _) (acc := _) (by simp only [go_sem, Nat.reduceLT, Nat.reduceLeDiff, Nat.reduceEqDiff, Nat.reduceAdd, Nat.reduceMul, Nat.reduceSub, reduceCtorEq, vres]; rfl) (by simp only [go_sem, Nat.reduceLT, Nat.reduceLeDiff, Nat.reduceEqDiff, Nat.reduceAdd, Nat.reduceMul, Nat.reduceSub, reduceCtorEq, wrap, exV, exA, exCs, exC, rowsN_len, rowsH_len, rowsD_len, rowsTh_len, rowsV_len, Nat.le_refl]; rfl) (by simp) (by simp [List.take_of_length_le, rowsN_len, rowsH_len, rowsD_len, rowsTh_len, rowsV_len]) (by simp [rowsN_pur, rowsH_pur, rowsD_pur, rowsTh_pur, rowsV_pur])
theorem eqWorld_ok (a b : WorldD) (hs : a.tiny) :
    SatP Try.prog 55 [.agg (a.cells 3 125 62 131 83 146 69 193), .agg (b.cells 3 125 62 131 83 146 69 193)] (.bool (decide (a = b))) [] := by
  obtain ⟨f1, f2, f3, f4, f5⟩ := hs
  have hthr := WorldD.tiny.thr (w := a) ⟨f1, f2, f3, f4, f5⟩
  have hcs := eqStore_ok a.store b.store f2.small
  unfold StoreD.cells at hcs
  refine satP_of_body hT Try.func55 (by kernel_rfl) rfl (rs := [.tmp 4]) rfl (n := 29) rfl (by simp) rfl (by simp) fun E hE => ?_
  unfold St.init
  unfold WorldD.cells
  have F := (Eq.refl 0)
  repeat' first
    | refine wSq fun _ hK => ?_
    | refine wRg ?_
    | refine wDr ?_
    | refine VWP_block ?_
    | refine VWP_skip ?_
    | refine VWP_exit ?_
    | refine VWP_ret ?_
    | (refine hK _ ?_; clear hK)
    | (clear hK; refine hK _ ?_; clear hK)
    | (clear hK; clear hK; refine hK _ ?_; clear hK)
    | (clear hK; clear hK; clear hK; refine hK _ ?_; clear hK)
    | (simp only [wHb, reduceCtorEq] at hb <;> try (exfalso; omega))
    | refine wCd (fun hb => ?_) fun hb => ?_
    | refine wCa (c := by first | exact eqIntS_ok a.first b.first (by omega) | exact hcs | exact eqThreadS_ok a.threads b.threads (by omega) hthr | exact eqEventS_ok a.log b.log (by omega)) (k := ?_)
    | simp only [go_sem, Nat.reduceLT, Nat.reduceLeDiff, Nat.reduceEqDiff, Nat.reduceAdd, Nat.reduceMul, Nat.reduceSub, reduceCtorEq, F]
    | simp (disch := omega) only [decide_eq_true_eq, if_pos, if_neg, wrap_id, le_maxLen, and_true, true_and, if_true, ite_true]
    | refine wGd (fun hb => ?_) fun hb => ?_
  all_goals refine wLf ?_
  all_goals (cases a; cases b; simp_all)
end Go.Proofs.Ytclljpdcpcolpaa
