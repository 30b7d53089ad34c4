/- Stores in new memory: the reference's copy. -/
import Derived.Test.YtchkbgekmoileaaLA
namespace Go.Proofs.Ytchkbgekmoileaa
open Go Go.RowKit
set_option linter.unusedVariables false
set_option linter.unusedSimpArgs false
set_option maxRecDepth 100000
set_option maxHeartbeats 4000000
attribute [local irreducible] VWP vops vdraw contV contD CallK Guard GuardV NextL Puts Runs RetOK RetQ RetO RetQO thenQ blockQ
attribute [local irreducible] NextB

/-- The list of descriptors, as it grows: nil at first. -/
def dcell (td : TypeId) (x : Nat × Nat) : VV := if x.1 = 0 then .nl td else .rf x.2 x.1
def dent (td te : TypeId) (ds : List DescS) (x : Nat × Nat) : Ent := if x.1 = 0 then .dead else .root td (rowsD te (ds.take x.1))
theorem l7Copy_ok (s : StoreD) (hs : s.small) :
    SatP Try.prog 86 [.agg (s.cells 36 40 70)] (.agg [.rf 0 s.heads.length, .rf 1 s.descs.length]) [(36, rowsH s.heads), (40, rowsD 70 s.descs)] := by
  obtain ⟨f1, f2, f3⟩ := hs
  refine satP_of_body hT Try.func86 (by kernel_rfl) rfl (rs := [.cell 2 27]) rfl (n := 34) rfl (by simp) rfl (by simp [rowsH_pur, rowsD_pur]) fun E hE => ?_
  unfold St.init
  unfold StoreD.cells
  have F := And.intro @rowsH_len (And.intro @rowsH_scal @rowsD_len)
  repeat' first
    | refine wSq fun _ hK => ?_
    | refine wRg ?_
    | refine wDr ?_
    | refine VWP_block ?_
    | refine VWP_skip ?_
    | refine VWP_exit ?_
    | refine VWP_ret ?_
    | (refine hK _ ?_; clear hK)
    | (clear hK; refine hK _ ?_; clear hK)
    | (clear hK; clear hK; refine hK _ ?_; clear hK)
    | (clear hK; clear hK; clear hK; refine hK _ ?_; clear hK)
    | (simp only [wHb, reduceCtorEq] at hb <;> try (exfalso; omega))
    | refine wCd (fun hb => ?_) fun hb => ?_
    | simp only [go_sem, Nat.reduceLT, Nat.reduceLeDiff, Nat.reduceEqDiff, Nat.reduceAdd, Nat.reduceMul, Nat.reduceSub, reduceCtorEq, F]
    | simp (disch := omega) only [decide_eq_true_eq, if_pos, if_neg, wrap_id, le_maxLen, and_true, true_and, if_true, ite_true]
    | refine wGd (fun hb => ?_) fun hb => ?_
  refine VWP_loopB (X := Nat × Nat) (fun x => [(1, .bp 0 0), (2, .bp 1 0), (3, .bp 4 0), (4, .int .i64 x.1)])
    (fun x => [(0, .box [.fr 36 (rowsH s.heads), .fr 40 (rowsD 70 s.descs)]), (1, .box [.nl 36, .nl 40]), (3, .root 36 (rowsH s.heads)), (4, .box [.rf 3 s.heads.length, dcell 40 x]), (x.2, dent 40 70 s.descs x)]) (fun x => s.descs.length - x.1)
    (fun x => x.1 ≤ s.descs.length ∧ 5 ≤ x.2) (fun x => if x.1 = 0 then x.2 else x.2 + 1) (0, 5) ⟨by simp, by simp⟩ (by simp [updV]) (by simp [updH, dcell, dent, rowsH_take]) (by simp) ?_
  rintro ⟨i, T⟩ nx ⟨hi, hTg⟩ hB
  simp only at hi hTg hB
  have a0 : T ≠ 0 := by omega
  have a1 : T ≠ 1 := by omega
  have a3 : T ≠ 3 := by omega
  have a4 : T ≠ 4 := by omega
  have b0 : (0 : Nat) ≠ T := by omega
  have b1 : (1 : Nat) ≠ T := by omega
  have b3 : (3 : Nat) ≠ T := by omega
  have b4 : (4 : Nat) ≠ T := by omega
  have hB6 : T ≤ nx := by split at hB <;> omega
  have hw := wrap_id (x := (i : Int) + 1) (by omega)
  rcases Nat.lt_or_ge i s.descs.length with hlt | hge
  · obtain ⟨d, hd⟩ : ∃ d, s.descs[i]? = some d := ⟨_, List.getElem?_eq_getElem hlt⟩
    have hre := rowsD_at (te := 70) hd
    have c0 : nx ≠ 0 := by omega
    have c1 : nx ≠ 1 := by omega
    have c3 : nx ≠ 3 := by omega
    have c4 : nx ≠ 4 := by omega
    have d0 : (0 : Nat) ≠ nx := by omega
    have d1 : (1 : Nat) ≠ nx := by omega
    have d3 : (3 : Nat) ≠ nx := by omega
    have d4 : (4 : Nat) ≠ nx := by omega
    have hsn := rowsDt_snoc 70 hd
    have hcp := l6Copy_ok d.entries (by have := f3 d (List.mem_of_getElem? hd); omega)
    rcases Nat.eq_zero_or_pos i with hz | hz
    · have hz2 : dcell 40 (i, T) = .nl 40 := if_pos hz
      have hz3 : dent 40 70 s.descs (i, T) = .dead := if_pos hz
      have F := And.intro @rowsD_len (And.intro @rowsE_len (And.intro hre (And.intro hz2 (And.intro hz3 (And.intro @Nat.le_refl (And.intro a0 (And.intro a1 (And.intro a3 (And.intro a4 (And.intro b0 (And.intro b1 (And.intro b3 (And.intro b4 (And.intro c0 (And.intro c1 (And.intro c3 (And.intro c4 (And.intro d0 (And.intro d1 (And.intro d3 d4))))))))))))))))))))
      repeat' first
        | refine wSq fun _ hK => ?_
        | refine wRg ?_
        | refine wDr ?_
        | refine VWP_block ?_
        | refine VWP_skip ?_
        | refine VWP_exit ?_
        | refine VWP_ret ?_
        | (refine hK _ ?_; clear hK)
        | (clear hK; refine hK _ ?_; clear hK)
        | (clear hK; clear hK; refine hK _ ?_; clear hK)
        | (clear hK; clear hK; clear hK; refine hK _ ?_; clear hK)
        | (simp only [wHb, reduceCtorEq] at hb <;> try (exfalso; omega))
        | refine wCd (fun hb => ?_) fun hb => ?_
        | refine wCa (c := by first | exact hcp) (k := ?_)
        | simp only [go_sem, Nat.reduceLT, Nat.reduceLeDiff, Nat.reduceEqDiff, Nat.reduceAdd, Nat.reduceMul, Nat.reduceSub, reduceCtorEq, F]
        | simp (disch := omega) only [decide_eq_true_eq, if_pos, if_neg, wrap_id, le_maxLen, and_true, true_and, if_true, ite_true]
        | refine wGd (fun hb => ?_) fun hb => ?_
      simp only [Nat.add_assoc, Nat.reduceAdd]
      generalize hA : nx + 1 = A
      generalize hC : nx + 4 = C
      have q1 : A ≠ nx + 2 := by omega
      have q2 : A ≠ nx + 3 := by omega
      have r1 : (0 : Nat) ≠ nx + 2 ∧ (1 : Nat) ≠ nx + 2 ∧ (3 : Nat) ≠ nx + 2 ∧ (4 : Nat) ≠ nx + 2 ∧ (0 : Nat) ≠ nx + 3 ∧ (1 : Nat) ≠ nx + 3 ∧ (3 : Nat) ≠ nx + 3 ∧ (4 : Nat) ≠ nx + 3 := by omega
      obtain ⟨r1, r2, r3, r4, r5, r6, r7, r8⟩ := r1
      have k0 : (0 : Nat) ≠ C ∧ (0 : Nat) ≠ A ∧ (1 : Nat) ≠ C ∧ (1 : Nat) ≠ A ∧ (3 : Nat) ≠ C ∧ (3 : Nat) ≠ A ∧ (4 : Nat) ≠ C ∧ (4 : Nat) ≠ A ∧ A ≠ C ∧ A ≠ nx ∧ C ≠ nx ∧ A ≠ 4 ∧ C ≠ 4 := by omega
      obtain ⟨k1, k2, k3, k4, k5, k6, k7, k8, k9, k10, k11, k12, k13⟩ := k0
      subst hz
      have hsn2 : rowsD 70 (s.descs.take 1) = [[.int .i64 d.owner, .int .i64 d.status, .list 70 (rowsE d.entries)]] := by rw [← hsn]; rfl
      refine nextBM [(C, 0, 2)] (by simp only [merges, mergeH, go_sem, Nat.reduceLT, Nat.reduceLeDiff, Nat.reduceEqDiff, Nat.reduceAdd, Nat.reduceMul, Nat.reduceSub, reduceCtorEq, q1, q2, k9, k10, k11, k12, k13, List.set_cons_succ, List.set_cons_zero, rowsE_len, Nat.le_refl]; rfl) (1, C) ⟨by simp only; omega, by simp only; omega⟩ (by simp only; omega) (by simp [updV, tmL]) ?_ (by simp; omega)
      simp [updH, hpL, rowsE_take, hsn2, dcell, dent, k1, k2, k3, k4, k5, k6, k7, k8, b0, b1, b3, b4, d0, d1, d3, d4, r1, r2, r3, r4, r5, r6, r7, r8, c0]
    · have hz2 : dcell 40 (i, T) = .rf T i := if_neg (by omega)
      have hz3 : dent 40 70 s.descs (i, T) = .root 40 (rowsD 70 (s.descs.take i)) := if_neg (by omega)
      have hBT : T < nx := by rw [if_neg (by omega)] at hB; omega
      have cT : nx ≠ T := by omega
      have dT : T ≠ nx := by omega
      have hl1 := rowsDt_len 70 (ds := s.descs) (i := i) hi
      have hl2 := rowsDt_take 70 (ds := s.descs) (i := i) hi
      have F := And.intro @rowsD_len (And.intro @rowsE_len (And.intro hre (And.intro hz2 (And.intro hz3 (And.intro hl1 (And.intro hl2 (And.intro @Nat.le_refl (And.intro a0 (And.intro a1 (And.intro a3 (And.intro a4 (And.intro b0 (And.intro b1 (And.intro b3 (And.intro b4 (And.intro c0 (And.intro c1 (And.intro c3 (And.intro c4 (And.intro cT (And.intro d0 (And.intro d1 (And.intro d3 (And.intro d4 dT))))))))))))))))))))))))
      repeat' first
        | refine wSq fun _ hK => ?_
        | refine wRg ?_
        | refine wDr ?_
        | refine VWP_block ?_
        | refine VWP_skip ?_
        | refine VWP_exit ?_
        | refine VWP_ret ?_
        | (refine hK _ ?_; clear hK)
        | (clear hK; refine hK _ ?_; clear hK)
        | (clear hK; clear hK; refine hK _ ?_; clear hK)
        | (clear hK; clear hK; clear hK; refine hK _ ?_; clear hK)
        | (simp only [wHb, reduceCtorEq] at hb <;> try (exfalso; omega))
        | refine wCd (fun hb => ?_) fun hb => ?_
        | refine wCa (c := by first | exact hcp) (k := ?_)
        | simp only [go_sem, Nat.reduceLT, Nat.reduceLeDiff, Nat.reduceEqDiff, Nat.reduceAdd, Nat.reduceMul, Nat.reduceSub, reduceCtorEq, F]
        | simp (disch := omega) only [decide_eq_true_eq, if_pos, if_neg, wrap_id, le_maxLen, and_true, true_and, if_true, ite_true]
        | refine wGd (fun hb => ?_) fun hb => ?_
      simp only [Nat.add_assoc, Nat.reduceAdd]
      generalize hA : nx + 1 = A
      generalize hC : nx + 3 = C
      have q1 : A ≠ nx + 2 := by omega
      have q2 : A ≠ T := by omega
      have q3 : C ≠ T := by omega
      have r1 : (0 : Nat) ≠ nx + 2 ∧ (1 : Nat) ≠ nx + 2 ∧ (3 : Nat) ≠ nx + 2 ∧ (4 : Nat) ≠ nx + 2 := by omega
      obtain ⟨r1, r2, r3, r4⟩ := r1
      have k0 : (0 : Nat) ≠ C ∧ (0 : Nat) ≠ A ∧ (1 : Nat) ≠ C ∧ (1 : Nat) ≠ A ∧ (3 : Nat) ≠ C ∧ (3 : Nat) ≠ A ∧ (4 : Nat) ≠ C ∧ (4 : Nat) ≠ A ∧ A ≠ C ∧ A ≠ nx ∧ C ≠ nx ∧ A ≠ 4 ∧ C ≠ 4 := by omega
      obtain ⟨k1, k2, k3, k4, k5, k6, k7, k8, k9, k10, k11, k12, k13⟩ := k0
      refine nextBM [(C, i, 2)] (by simp only [merges, mergeH, go_sem, Nat.reduceLT, Nat.reduceLeDiff, Nat.reduceEqDiff, Nat.reduceAdd, Nat.reduceMul, Nat.reduceSub, reduceCtorEq, q1, q2, q3, k9, k10, k11, k12, k13, rowsDt_get 70 hi, rowsDt_set 70 hi, List.set_cons_succ, List.set_cons_zero, rowsE_len, Nat.le_refl]; rfl) (i + 1, C) ⟨by simp only; omega, by simp only; omega⟩ (by simp only; omega) (by simp [updV, tmL, hw]) ?_ (by simp; omega)
      simp [updH, hpL, rowsE_take, hsn, dcell, dent, k1, k2, k3, k4, k5, k6, k7, k8, b0, b1, b3, b4, d0, d1, d3, d4, r1, r2, r3, r4, c0]
  · obtain rfl : i = s.descs.length := by omega
    rcases Nat.eq_zero_or_pos s.descs.length with hz | hz
    · have hz2 : dcell 40 (s.descs.length, T) = .nl 40 := if_pos hz
      have hz3 : dent 40 70 s.descs (s.descs.length, T) = .dead := if_pos hz
      have hz4 : s.descs = [] := List.eq_nil_of_length_eq_zero hz
      have F := And.intro @rowsD_len (And.intro hz2 (And.intro hz3 (And.intro a0 (And.intro a1 (And.intro a3 (And.intro a4 (And.intro b0 (And.intro b1 (And.intro b3 b4)))))))))
      repeat' first
        | refine wSq fun _ hK => ?_
        | refine wRg ?_
        | refine wDr ?_
        | refine VWP_block ?_
        | refine VWP_skip ?_
        | refine VWP_exit ?_
        | refine VWP_ret ?_
        | (refine hK _ ?_; clear hK)
        | (clear hK; refine hK _ ?_; clear hK)
        | (clear hK; clear hK; refine hK _ ?_; clear hK)
        | (clear hK; clear hK; clear hK; refine hK _ ?_; clear hK)
        | (simp only [wHb, reduceCtorEq] at hb <;> try (exfalso; omega))
        | refine wCd (fun hb => ?_) fun hb => ?_
        | simp only [go_sem, Nat.reduceLT, Nat.reduceLeDiff, Nat.reduceEqDiff, Nat.reduceAdd, Nat.reduceMul, Nat.reduceSub, reduceCtorEq, F]
        | simp (disch := omega) only [decide_eq_true_eq, if_pos, if_neg, wrap_id, le_maxLen, and_true, true_and, if_true, ite_true]
        | refine wGd (fun hb => ?_) fun hb => ?_
      refine ret_mk (vs := _) (acc := _) (by simp only [go_sem, Nat.reduceLT, Nat.reduceLeDiff, Nat.reduceEqDiff, Nat.reduceAdd, Nat.reduceMul, Nat.reduceSub, reduceCtorEq, vres, a0, a1, a3, a4, b0, b1, b3, b4]; rfl) (by simp only [go_sem, Nat.reduceLT, Nat.reduceLeDiff, Nat.reduceEqDiff, Nat.reduceAdd, Nat.reduceMul, Nat.reduceSub, reduceCtorEq, wrap, exV, exA, exCs, exC, rowsH_len, rowsH_take, List.take_length, rowsD_len, rowsD_take, Nat.le_refl, a0, a1, a3, a4, b0, b1, b3, b4, hz]; rfl) (by simp) (by simp [hz4, rowsD]) (by simp [rowsH_pur, rowsD_pur])
    · have hz2 : dcell 40 (s.descs.length, T) = .rf T s.descs.length := if_neg (by omega)
      have hz3 : dent 40 70 s.descs (s.descs.length, T) = .root 40 (rowsD 70 s.descs) := by rw [dent, if_neg (by simp only; omega), List.take_length]
      have F := And.intro @rowsD_len (And.intro hz2 (And.intro hz3 (And.intro a0 (And.intro a1 (And.intro a3 (And.intro a4 (And.intro b0 (And.intro b1 (And.intro b3 b4)))))))))
      repeat' first
        | refine wSq fun _ hK => ?_
        | refine wRg ?_
        | refine wDr ?_
        | refine VWP_block ?_
        | refine VWP_skip ?_
        | refine VWP_exit ?_
        | refine VWP_ret ?_
        | (refine hK _ ?_; clear hK)
        | (clear hK; refine hK _ ?_; clear hK)
        | (clear hK; clear hK; refine hK _ ?_; clear hK)
        | (clear hK; clear hK; clear hK; refine hK _ ?_; clear hK)
        | (simp only [wHb, reduceCtorEq] at hb <;> try (exfalso; omega))
        | refine wCd (fun hb => ?_) fun hb => ?_
        | simp only [go_sem, Nat.reduceLT, Nat.reduceLeDiff, Nat.reduceEqDiff, Nat.reduceAdd, Nat.reduceMul, Nat.reduceSub, reduceCtorEq, F]
        | simp (disch := omega) only [decide_eq_true_eq, if_pos, if_neg, wrap_id, le_maxLen, and_true, true_and, if_true, ite_true]
        | refine wGd (fun hb => ?_) fun hb => ?_
      refine ret_mk (vs := _) (acc := _) (by simp only [go_sem, Nat.reduceLT, Nat.reduceLeDiff, Nat.reduceEqDiff, Nat.reduceAdd, Nat.reduceMul, Nat.reduceSub, reduceCtorEq, vres, a0, a1, a3, a4, b0, b1, b3, b4]; rfl) (by simp only [go_sem, Nat.reduceLT, Nat.reduceLeDiff, Nat.reduceEqDiff, Nat.reduceAdd, Nat.reduceMul, Nat.reduceSub, reduceCtorEq, wrap, exV, exA, exCs, exC, rowsH_len, rowsH_take, List.take_length, rowsD_len, rowsD_take, Nat.le_refl, a0, a1, a3, a4, b0, b1, b3, b4]; rfl) (by simp [Ne.symm a3]; try omega) (by simp) (by simp [rowsH_pur, rowsD_pur])
end Go.Proofs.Ytchkbgekmoileaa
