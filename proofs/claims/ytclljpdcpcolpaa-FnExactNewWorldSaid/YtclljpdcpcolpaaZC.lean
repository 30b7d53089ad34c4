/- Marks on threads and worlds. -/
import Derived.Test.YtclljpdcpcolpaaZB
import Derived.Test.YtclljpdcpcolpaaTD
namespace Go.Proofs.Ytclljpdcpcolpaa
open Go Go.RowKit
set_option linter.unusedVariables false
set_option linter.unusedSimpArgs false
set_option maxRecDepth 100000
set_option maxHeartbeats 4000000
attribute [local irreducible] VWP vops vdraw contV contD CallK Guard GuardV NextL Puts Runs RetOK RetQ RetO RetQO thenQ blockQ

/-- How many marks lie on threads. -/
def mkN : List ThreadD → Nat
  | [] => 0
  | t :: ts => 11 + 3 * t.prog.length + 5 * t.opens.length + 3 * t.stack.length + mkN ts
theorem mkN_app : ∀ (xs bs : List ThreadD), mkN (xs ++ bs) = mkN xs + mkN bs
  | [], bs => by simp [mkN]
  | a :: xs, bs => by simp only [List.cons_append, mkN, mkN_app xs bs]; omega
theorem mkN_succ {ts : List ThreadD} {i : Nat} {t : ThreadD} (h : ts[i]? = some t) : mkN (ts.take (i + 1)) = mkN (ts.take i) + (11 + 3 * t.prog.length + 5 * t.opens.length + 3 * t.stack.length) := by
  rw [List.take_add_one, h, mkN_app]
  simp [mkN]
theorem mkN_le : ∀ (ts : List ThreadD), mkN ts ≤ 11 * ts.length + 5 * thN ts
  | [] => by simp [mkN]
  | t :: ts => by
    have := mkN_le ts
    simp only [mkN, thN, List.length_cons]
    omega
theorem mkN_take (ts : List ThreadD) (i : Nat) : mkN (ts.take i) ≤ mkN ts := by
  have := mkN_app (ts.take i) (ts.drop i)
  rw [List.take_append_drop] at this
  omega
def Q (K : Int) (t : ThreadD) : Int := K + 1 + 3 * (t.prog.length : Int) + 1
def mkTh (K : Int) (t : ThreadD) : ThreadD := ⟨K, marksI (K + 1) t.prog.length, K + 1 + 3 * (t.prog.length : Int), Q K t + 0, Q K t + 1, Q K t + 2, Q K t + 3, marksE (Q K t + 4) t.opens.length, Q K t + 4 + 5 * (t.opens.length : Int), marksF (Q K t + 4 + 5 * (t.opens.length : Int) + 1) t.stack.length,
  Q K t + 4 + 5 * (t.opens.length : Int) + 1 + 3 * (t.stack.length : Int), Q K t + 4 + 5 * (t.opens.length : Int) + 1 + 3 * (t.stack.length : Int) + 1, Q K t + 4 + 5 * (t.opens.length : Int) + 1 + 3 * (t.stack.length : Int) + 1 + 1, Q K t + 4 + 5 * (t.opens.length : Int) + 1 + 3 * (t.stack.length : Int) + 1 + 1 + 1⟩
def marksTh (k : Int) (ts : List ThreadD) : List ThreadD := ts.mapIdx fun j t => mkTh (k + (mkN (ts.take j) : Int)) t
theorem marksTh_len (k : Int) (ts : List ThreadD) : (marksTh k ts).length = ts.length := by simp [marksTh]
theorem marksTh_at {k : Int} {ts : List ThreadD} {j : Nat} {t : ThreadD} (h : ts[j]? = some t) : (marksTh k ts)[j]? = some (mkTh (k + (mkN (ts.take j) : Int)) t) := by simp [marksTh, h]
/-- A row in the midst of a thread's round. -/
def rgJ (K : Int) (t : ThreadD) (j m : Nat) (old : Int) : Int := if m < j then Q K t + (m : Nat) else old
def rowJ (nx : Nat) (K : Int) (t : ThreadD) (j : Nat) : List PT := [.int .i64 K, .ref nx t.prog.length, .int .i64 (K + 1 + 3 * (t.prog.length : Int)), .int .i64 (rgJ K t j 0 t.r0), .int .i64 (rgJ K t j 1 t.r1), .int .i64 (rgJ K t j 2 t.r2), .int .i64 (rgJ K t j 3 t.r3), .ref (nx + 1) t.opens.length, .int .i64 t.check, .ref (nx + 1 + 1) t.stack.length, .int .i64 t.mine, .int .i64 t.state, .int .i64 t.commits, .int .i64 t.fails]
theorem markThreadS_ok (ts : List ThreadD) (k : Int) (h0 : 0 ≤ k) (h1 : k ≤ 1073741824) (hl : ts.length ≤ 1048576) (he : thN ts ≤ 1048576) :
    SatO Try.prog 119 [.rf 0 ts.length, .int .i64 k] [.root 83 (rowsTh 146 131 69 ts)] (.int .i64 (k + (mkN ts : Int))) [.root 83 (rowsTh 146 131 69 (marksTh k ts))] := by
  refine satO_of_body hT Try.func119 (by kernel_rfl) rfl (rs := [.tmp 4]) rfl (n := 97) rfl (by simp) rfl (m := 1) rfl ⟨⟨rfl, rowsTh_pur _ _ _ _⟩, by simp [keptL]⟩ fun E hE => ?_
  unfold St.initO
  have F := @rowsTh_len
  repeat' first
    | refine wSq fun _ hK => ?_
    | refine wRg ?_
    | refine wDr ?_
    | refine VWP_block ?_
    | refine VWP_skip ?_
    | refine VWP_exit ?_
    | refine VWP_ret ?_
    | (refine hK _ ?_; clear hK)
    | (clear hK; refine hK _ ?_; clear hK)
    | (clear hK; clear hK; refine hK _ ?_; clear hK)
    | (clear hK; clear hK; clear hK; refine hK _ ?_; clear hK)
    | (simp only [wHb, reduceCtorEq] at hb <;> try (exfalso; omega))
    | refine wCd (fun hb => ?_) fun hb => ?_
    | simp only [go_sem, Nat.reduceLT, Nat.reduceLeDiff, Nat.reduceEqDiff, Nat.reduceAdd, Nat.reduceMul, Nat.reduceSub, reduceCtorEq, F]
    | simp (disch := omega) only [decide_eq_true_eq, if_pos, if_neg, wrap_id, le_maxLen, and_true, true_and, if_true, ite_true]
    | refine wGd (fun hb => ?_) fun hb => ?_
  refine VWP_loopL (X := Nat × List (List PT)) (fun x => [(0, .rf 0 ts.length), (1, .int .i64 (k + (mkN (ts.take x.1) : Int))), (5, .int .i64 x.1)]) (fun x => [(0, .root 83 x.2)]) (fun x => ts.length - x.1)
    (fun x => x.1 ≤ ts.length ∧ x.2.length = ts.length ∧ (∀ j e, j < x.1 → ts[j]? = some e → x.2[j]? = some (rowTh 146 131 69 (mkTh (k + (mkN (ts.take j) : Int)) e))) ∧ (∀ j e, x.1 ≤ j → ts[j]? = some e → x.2[j]? = some (rowTh 146 131 69 e)))
    1 (0, rowsTh 146 131 69 ts) ⟨by simp, by simp [rowsTh_len], by simp, fun j e _ hj => by rw [rowsTh_at hj]; rfl⟩ (by simp [updV, mkN]) (by simp [HpE]) (by simp) ?_
  rintro ⟨i, rows⟩ nx ⟨hi, hlen, hdone, hrest⟩ hB
  simp only at hi hlen hdone hrest
  rcases Nat.lt_or_ge i ts.length with hlt | hge
  · obtain ⟨t, hti⟩ : ∃ e, ts[i]? = some e := ⟨_, List.getElem?_eq_getElem hlt⟩
    have hr := hrest i t (Nat.le_refl _) hti
    simp only [rowTh] at hr
    have hli : i < rows.length := by omega
    have hlt' : i < ts.length := hlt
    have hle : ts.length ≤ rows.length := by omega
    have n0 : nx ≠ 0 := by omega
    have m0 : (0 : Nat) ≠ nx := by omega
    have n1 : nx + 1 ≠ 0 := by omega
    have m1 : (0 : Nat) ≠ nx + 1 := by omega
    have n2 : nx + 1 + 1 ≠ 0 := by omega
    have m2 : (0 : Nat) ≠ nx + 1 + 1 := by omega
    have e1 : nx ≠ nx + 1 := by omega
    have e2 : nx ≠ nx + 1 + 1 := by omega
    have e3 : nx + 1 ≠ nx + 1 + 1 := by omega
    have hb1 := mkN_take ts i
    have hb2 := mkN_le ts
    have hb3 := mkN_take ts (i + 1)
    have hsu := mkN_succ hti
    have htn := thN_mem (List.mem_of_getElem? hti)
    generalize hK : k + (mkN (ts.take i) : Int) = K at *
    have K0 : 0 ≤ K := by omega
    have K1 : K ≤ 2147483648 := by omega
    have hQ : Q K t = K + 1 + 3 * (t.prog.length : Int) + 1 := rfl
    have hw := wrap_id (x := (i : Int) + 1) (by omega)
    have hwa := wrap_id (x := K + 1) (by omega)
    have hwb := wrap_id (x := K + 1 + 3 * (t.prog.length : Int) + 1) (by omega)
    refine VWP_split [(0, i, 1), (0, i, 7), (0, i, 9)] (by simp only [splits, splitH, hpL, hr, go_sem, Nat.reduceLT, Nat.reduceLeDiff, Nat.reduceEqDiff, Nat.reduceAdd, Nat.reduceMul, Nat.reduceSub, reduceCtorEq, List.find?, n0, n1, n2, m0, m1, m2, List.getElem?_set_self hli, List.length_set, hli, List.getElem?_set_self, List.set_set, List.set_cons_succ, List.set_cons_zero]; rfl) ?_
    have F := And.intro hlen (And.intro hli (And.intro hlt' (And.intro hle (And.intro n0 (And.intro n1 (And.intro n2 (And.intro m0 (And.intro m1 (And.intro m2 (And.intro e1 (And.intro e2 (And.intro e3 (And.intro (Ne.symm e1) (And.intro (Ne.symm e2) (And.intro (Ne.symm e3) (And.intro hwa (And.intro hwb (And.intro @rowsI_pur (And.intro @rowsI_len (And.intro @rowsI_take (And.intro @marksI_len (And.intro @Nat.le_refl (And.intro @List.getElem?_set_self.{0} (And.intro @List.set_set.{0} (And.intro @List.length_set.{0} (And.intro @List.length_cons.{0} (And.intro @List.set_cons_succ.{0} @List.set_cons_zero.{0})))))))))))))))))))))))))))
    repeat' first
      | refine wSq fun _ hK => ?_
      | refine wRg ?_
      | refine wDr ?_
      | refine VWP_block ?_
      | refine VWP_skip ?_
      | refine VWP_exit ?_
      | refine VWP_ret ?_
      | (refine hK _ ?_; clear hK)
      | (clear hK; refine hK _ ?_; clear hK)
      | (clear hK; clear hK; refine hK _ ?_; clear hK)
      | (clear hK; clear hK; clear hK; refine hK _ ?_; clear hK)
      | (simp only [wHb, reduceCtorEq] at hb <;> try (exfalso; omega))
      | refine wCd (fun hb => ?_) fun hb => ?_
      | refine wOw [nx] (c := by exact markInstrS_ok t.prog (K + 1) (by omega) (by omega) (by omega)) (k := ?_)
      | simp only [go_sem, Nat.reduceLT, Nat.reduceLeDiff, Nat.reduceEqDiff, Nat.reduceAdd, Nat.reduceMul, Nat.reduceSub, reduceCtorEq, F]
      | simp (disch := omega) only [decide_eq_true_eq, if_pos, if_neg, wrap_id, le_maxLen, and_true, true_and, if_true, ite_true]
      | refine wGd (fun hb => ?_) fun hb => ?_
    refine VWP_loopL (X := Nat) (fun j => [(0, .rf 0 ts.length), (1, .int .i64 (Q K t + (j : Nat))), (5, .int .i64 i), (6, .int .i64 j)]) (fun j => [(0, .root 83 (rows.set i (rowJ nx K t j))), (nx, .root 146 (rowsI (marksI (K + 1) t.prog.length))), (nx + 1, .root 131 (rowsE t.opens)), (nx + 1 + 1, .root 69 (rowsF t.stack))]) (fun j => 4 - j)
      (fun j => j ≤ 4) (nx + 3) 0 (by simp) (by simp [updV, tmL, hQ]) (by simp [updH, hpL, rowJ, rgJ, rowsE_len, rowsF_len, n0, n1, n2, m0, m1, m2, e1, e2, e3, Ne.symm e1, Ne.symm e2, Ne.symm e3]) (by omega) ?_
    rintro j nx2 hj hB2
    have h5 : j = 0 ∨ j = 1 ∨ j = 2 ∨ j = 3 ∨ j = 4 := by omega
    have z0 : ((0 : Nat) : Int) = 0 := rfl
    have z1 : ((1 : Nat) : Int) = 1 := rfl
    have z2 : ((2 : Nat) : Int) = 2 := rfl
    have z3 : ((3 : Nat) : Int) = 3 := rfl
    have z4 : ((4 : Nat) : Int) = 4 := rfl
    have w0 := wrap_id (x := Q K t + 0 + 1) (by omega)
    have w1 := wrap_id (x := Q K t + 1 + 1) (by omega)
    have w2 := wrap_id (x := Q K t + 2 + 1) (by omega)
    have w3 := wrap_id (x := Q K t + 3 + 1) (by omega)
    have s1 : Q K t + 0 + 1 = Q K t + 1 := by omega
    have s2 : Q K t + 1 + 1 = Q K t + 2 := by omega
    have s3 : Q K t + 2 + 1 = Q K t + 3 := by omega
    have s4 : Q K t + 3 + 1 = Q K t + 4 := by omega
    rcases h5 with rfl | rfl | rfl | rfl | rfl
    · skip
      have F := And.intro @rowJ.eq_1 (And.intro @rgJ.eq_1 (And.intro hlen (And.intro hli (And.intro hlt' (And.intro hle (And.intro n0 (And.intro n1 (And.intro n2 (And.intro m0 (And.intro m1 (And.intro m2 (And.intro e1 (And.intro e2 (And.intro e3 (And.intro (Ne.symm e1) (And.intro (Ne.symm e2) (And.intro (Ne.symm e3) (And.intro z0 (And.intro z1 (And.intro z2 (And.intro z3 (And.intro z4 (And.intro w0 (And.intro w1 (And.intro w2 (And.intro w3 (And.intro s1 (And.intro s2 (And.intro s3 (And.intro s4 (And.intro @Nat.le_refl (And.intro (fun a => List.getElem?_set_self (a := a) hli) (And.intro @List.set_set.{0} (And.intro @List.length_set.{0} (And.intro @List.set_cons_succ.{0} (And.intro @List.set_cons_zero.{0} (And.intro @Nat.lt_irrefl (And.intro @Int.zero_add @Nat.zero_add))))))))))))))))))))))))))))))))))))))
      repeat' first
        | refine wSq fun _ hK => ?_
        | refine wRg ?_
        | refine wDr ?_
        | refine VWP_block ?_
        | refine VWP_skip ?_
        | refine VWP_exit ?_
        | refine VWP_ret ?_
        | (refine hK _ ?_; clear hK)
        | (clear hK; refine hK _ ?_; clear hK)
        | (clear hK; clear hK; refine hK _ ?_; clear hK)
        | (clear hK; clear hK; clear hK; refine hK _ ?_; clear hK)
        | (simp only [wHb, reduceCtorEq] at hb <;> try (exfalso; omega))
        | refine wCdx (fun hb => ?_) fun hb => ?_
        | simp only [go_sem, Nat.reduceLT, Nat.reduceLeDiff, Nat.reduceEqDiff, Nat.reduceAdd, Nat.reduceMul, Nat.reduceSub, reduceCtorEq, Int.reduceBEq, Int.reduceBNe, Int.reduceLT, Int.reduceLE, Int.reduceAdd, Int.reduceToNat, F]
        | simp (disch := omega) only [decide_eq_true_eq, if_pos, if_neg, wrap_id, le_maxLen, and_true, true_and, if_true, ite_true]
        | refine wGdx (fun hb => ?_) fun hb => ?_
      exact nextL 1 (by omega) (by omega) (by simp [updV, tmL]; try omega) (by simp [updH, hpL, rowJ, rgJ, n0, n1, n2, m0, m1, m2, e1, e2, e3, Ne.symm e1, Ne.symm e2, Ne.symm e3]; try omega) (by omega)
    · skip
      have F := And.intro @rowJ.eq_1 (And.intro @rgJ.eq_1 (And.intro hlen (And.intro hli (And.intro hlt' (And.intro hle (And.intro n0 (And.intro n1 (And.intro n2 (And.intro m0 (And.intro m1 (And.intro m2 (And.intro e1 (And.intro e2 (And.intro e3 (And.intro (Ne.symm e1) (And.intro (Ne.symm e2) (And.intro (Ne.symm e3) (And.intro z0 (And.intro z1 (And.intro z2 (And.intro z3 (And.intro z4 (And.intro w0 (And.intro w1 (And.intro w2 (And.intro w3 (And.intro s1 (And.intro s2 (And.intro s3 (And.intro s4 (And.intro @Nat.le_refl (And.intro (fun a => List.getElem?_set_self (a := a) hli) (And.intro @List.set_set.{0} (And.intro @List.length_set.{0} (And.intro @List.set_cons_succ.{0} (And.intro @List.set_cons_zero.{0} (And.intro @Nat.lt_irrefl (And.intro @Int.zero_add @Nat.zero_add))))))))))))))))))))))))))))))))))))))
      repeat' first
        | refine wSq fun _ hK => ?_
        | refine wRg ?_
        | refine wDr ?_
        | refine VWP_block ?_
        | refine VWP_skip ?_
        | refine VWP_exit ?_
        | refine VWP_ret ?_
        | (refine hK _ ?_; clear hK)
        | (clear hK; refine hK _ ?_; clear hK)
        | (clear hK; clear hK; refine hK _ ?_; clear hK)
        | (clear hK; clear hK; clear hK; refine hK _ ?_; clear hK)
        | (simp only [wHb, reduceCtorEq] at hb <;> try (exfalso; omega))
        | refine wCdx (fun hb => ?_) fun hb => ?_
        | simp only [go_sem, Nat.reduceLT, Nat.reduceLeDiff, Nat.reduceEqDiff, Nat.reduceAdd, Nat.reduceMul, Nat.reduceSub, reduceCtorEq, Int.reduceBEq, Int.reduceBNe, Int.reduceLT, Int.reduceLE, Int.reduceAdd, Int.reduceToNat, F]
        | simp (disch := omega) only [decide_eq_true_eq, if_pos, if_neg, wrap_id, le_maxLen, and_true, true_and, if_true, ite_true]
        | refine wGdx (fun hb => ?_) fun hb => ?_
      exact nextL 2 (by omega) (by omega) (by simp [updV, tmL]; try omega) (by simp [updH, hpL, rowJ, rgJ, n0, n1, n2, m0, m1, m2, e1, e2, e3, Ne.symm e1, Ne.symm e2, Ne.symm e3]; try omega) (by omega)
    · skip
      have F := And.intro @rowJ.eq_1 (And.intro @rgJ.eq_1 (And.intro hlen (And.intro hli (And.intro hlt' (And.intro hle (And.intro n0 (And.intro n1 (And.intro n2 (And.intro m0 (And.intro m1 (And.intro m2 (And.intro e1 (And.intro e2 (And.intro e3 (And.intro (Ne.symm e1) (And.intro (Ne.symm e2) (And.intro (Ne.symm e3) (And.intro z0 (And.intro z1 (And.intro z2 (And.intro z3 (And.intro z4 (And.intro w0 (And.intro w1 (And.intro w2 (And.intro w3 (And.intro s1 (And.intro s2 (And.intro s3 (And.intro s4 (And.intro @Nat.le_refl (And.intro (fun a => List.getElem?_set_self (a := a) hli) (And.intro @List.set_set.{0} (And.intro @List.length_set.{0} (And.intro @List.set_cons_succ.{0} (And.intro @List.set_cons_zero.{0} (And.intro @Nat.lt_irrefl (And.intro @Int.zero_add @Nat.zero_add))))))))))))))))))))))))))))))))))))))
      repeat' first
        | refine wSq fun _ hK => ?_
        | refine wRg ?_
        | refine wDr ?_
        | refine VWP_block ?_
        | refine VWP_skip ?_
        | refine VWP_exit ?_
        | refine VWP_ret ?_
        | (refine hK _ ?_; clear hK)
        | (clear hK; refine hK _ ?_; clear hK)
        | (clear hK; clear hK; refine hK _ ?_; clear hK)
        | (clear hK; clear hK; clear hK; refine hK _ ?_; clear hK)
        | (simp only [wHb, reduceCtorEq] at hb <;> try (exfalso; omega))
        | refine wCdx (fun hb => ?_) fun hb => ?_
        | simp only [go_sem, Nat.reduceLT, Nat.reduceLeDiff, Nat.reduceEqDiff, Nat.reduceAdd, Nat.reduceMul, Nat.reduceSub, reduceCtorEq, Int.reduceBEq, Int.reduceBNe, Int.reduceLT, Int.reduceLE, Int.reduceAdd, Int.reduceToNat, F]
        | simp (disch := omega) only [decide_eq_true_eq, if_pos, if_neg, wrap_id, le_maxLen, and_true, true_and, if_true, ite_true]
        | refine wGdx (fun hb => ?_) fun hb => ?_
      exact nextL 3 (by omega) (by omega) (by simp [updV, tmL]; try omega) (by simp [updH, hpL, rowJ, rgJ, n0, n1, n2, m0, m1, m2, e1, e2, e3, Ne.symm e1, Ne.symm e2, Ne.symm e3]; try omega) (by omega)
    · skip
      have F := And.intro @rowJ.eq_1 (And.intro @rgJ.eq_1 (And.intro hlen (And.intro hli (And.intro hlt' (And.intro hle (And.intro n0 (And.intro n1 (And.intro n2 (And.intro m0 (And.intro m1 (And.intro m2 (And.intro e1 (And.intro e2 (And.intro e3 (And.intro (Ne.symm e1) (And.intro (Ne.symm e2) (And.intro (Ne.symm e3) (And.intro z0 (And.intro z1 (And.intro z2 (And.intro z3 (And.intro z4 (And.intro w0 (And.intro w1 (And.intro w2 (And.intro w3 (And.intro s1 (And.intro s2 (And.intro s3 (And.intro s4 (And.intro @Nat.le_refl (And.intro (fun a => List.getElem?_set_self (a := a) hli) (And.intro @List.set_set.{0} (And.intro @List.length_set.{0} (And.intro @List.set_cons_succ.{0} (And.intro @List.set_cons_zero.{0} (And.intro @Nat.lt_irrefl (And.intro @Int.zero_add @Nat.zero_add))))))))))))))))))))))))))))))))))))))
      repeat' first
        | refine wSq fun _ hK => ?_
        | refine wRg ?_
        | refine wDr ?_
        | refine VWP_block ?_
        | refine VWP_skip ?_
        | refine VWP_exit ?_
        | refine VWP_ret ?_
        | (refine hK _ ?_; clear hK)
        | (clear hK; refine hK _ ?_; clear hK)
        | (clear hK; clear hK; refine hK _ ?_; clear hK)
        | (clear hK; clear hK; clear hK; refine hK _ ?_; clear hK)
        | (simp only [wHb, reduceCtorEq] at hb <;> try (exfalso; omega))
        | refine wCdx (fun hb => ?_) fun hb => ?_
        | simp only [go_sem, Nat.reduceLT, Nat.reduceLeDiff, Nat.reduceEqDiff, Nat.reduceAdd, Nat.reduceMul, Nat.reduceSub, reduceCtorEq, Int.reduceBEq, Int.reduceBNe, Int.reduceLT, Int.reduceLE, Int.reduceAdd, Int.reduceToNat, F]
        | simp (disch := omega) only [decide_eq_true_eq, if_pos, if_neg, wrap_id, le_maxLen, and_true, true_and, if_true, ite_true]
        | refine wGdx (fun hb => ?_) fun hb => ?_
      exact nextL 4 (by omega) (by omega) (by simp [updV, tmL]; try omega) (by simp [updH, hpL, rowJ, rgJ, n0, n1, n2, m0, m1, m2, e1, e2, e3, Ne.symm e1, Ne.symm e2, Ne.symm e3]; try omega) (by omega)
    · have w5 := wrap_id (x := Q K t + 4 + 5 * (t.opens.length : Int) + 1) (by omega)
      have w6 := wrap_id (x := Q K t + 4 + 5 * (t.opens.length : Int) + 1 + 3 * (t.stack.length : Int) + 1) (by omega)
      have w7 := wrap_id (x := Q K t + 4 + 5 * (t.opens.length : Int) + 1 + 3 * (t.stack.length : Int) + 1 + 1) (by omega)
      have w8 := wrap_id (x := Q K t + 4 + 5 * (t.opens.length : Int) + 1 + 3 * (t.stack.length : Int) + 1 + 1 + 1) (by omega)
      have w9 := wrap_id (x := Q K t + 4 + 5 * (t.opens.length : Int) + 1 + 3 * (t.stack.length : Int) + 1 + 1 + 1 + 1) (by omega)
      have F := And.intro @rowJ.eq_1 (And.intro @rgJ.eq_1 (And.intro hlen (And.intro hli (And.intro hlt' (And.intro hle (And.intro n0 (And.intro n1 (And.intro n2 (And.intro m0 (And.intro m1 (And.intro m2 (And.intro e1 (And.intro e2 (And.intro e3 (And.intro (Ne.symm e1) (And.intro (Ne.symm e2) (And.intro (Ne.symm e3) (And.intro z0 (And.intro z1 (And.intro z2 (And.intro z3 (And.intro z4 (And.intro w5 (And.intro w6 (And.intro w7 (And.intro w8 (And.intro w9 (And.intro @rowsI_pur (And.intro @rowsE_pur (And.intro @rowsF_pur (And.intro @rowsE_len (And.intro @rowsF_len (And.intro @Nat.le_refl (And.intro (fun a => List.getElem?_set_self (a := a) hli) (And.intro @List.set_set.{0} (And.intro @List.length_set.{0} (And.intro @List.set_cons_succ.{0} (And.intro @List.set_cons_zero.{0} @Nat.lt_irrefl))))))))))))))))))))))))))))))))))))))
      repeat' first
        | refine wSq fun _ hK => ?_
        | refine wRg ?_
        | refine wDr ?_
        | refine VWP_block ?_
        | refine VWP_skip ?_
        | refine VWP_exit ?_
        | refine VWP_ret ?_
        | (refine hK _ ?_; clear hK)
        | (clear hK; refine hK _ ?_; clear hK)
        | (clear hK; clear hK; refine hK _ ?_; clear hK)
        | (clear hK; clear hK; clear hK; refine hK _ ?_; clear hK)
        | (simp only [wHb, reduceCtorEq] at hb <;> try (exfalso; omega))
        | refine wCdx (fun hb => ?_) fun hb => ?_
        | refine wOwx [nx + 1] (c := by exact markEntryS_ok t.opens (Q K t + 4) (by omega) (by omega) (by omega)) (k := ?_)
        | refine wOwx [nx + 1 + 1] (c := by exact markFrameS_ok t.stack (Q K t + 4 + 5 * (t.opens.length : Int) + 1) (by omega) (by omega) (by omega)) (k := ?_)
        | simp only [go_sem, Nat.reduceLT, Nat.reduceLeDiff, Nat.reduceEqDiff, Nat.reduceAdd, Nat.reduceMul, Nat.reduceSub, reduceCtorEq, Int.reduceBEq, Int.reduceBNe, Int.reduceLT, Int.reduceLE, Int.reduceAdd, Int.reduceToNat, F]
        | simp (disch := omega) only [decide_eq_true_eq, if_pos, if_neg, wrap_id, le_maxLen, and_true, true_and, if_true, ite_true]
        | refine wGdx (fun hb => ?_) fun hb => ?_
      have hmI := rowsI_take (marksI (K + 1) t.prog.length)
      rw [marksI_len] at hmI
      have hmE := rowsE_take (marksE (Q K t + 4) t.opens.length)
      rw [marksE_len] at hmE
      have hmF := rowsF_take (marksF (Q K t + 4 + 5 * (t.opens.length : Int) + 1) t.stack.length)
      rw [marksF_len] at hmF
      have hfin : Q K t + 4 + 5 * (t.opens.length : Int) + 1 + 3 * (t.stack.length : Int) + 1 + 1 + 1 + 1 = k + (mkN (ts.take (i + 1)) : Int) := by omega
      refine nextM [(0, i, 1), (0, i, 7), (0, i, 9)] (by simp only [merges, mergeH, go_sem, Nat.reduceLT, Nat.reduceLeDiff, Nat.reduceEqDiff, Nat.reduceAdd, Nat.reduceMul, Nat.reduceSub, reduceCtorEq, List.getElem?_set_self hli, List.getElem?_set_self, List.length_set, hli, n0, n1, n2, m0, m1, m2, e1, e2, e3, Ne.symm e1, Ne.symm e2, Ne.symm e3, rowsI_len, rowsE_len, rowsF_len, marksI_len, marksE_len, marksF_len, hmI, hmE, hmF, Nat.le_refl, List.set_set, List.set_cons_succ, List.set_cons_zero]; rfl) (i + 1, rows.set i (rowTh 146 131 69 (mkTh K t))) ⟨?_, ?_, ?_, ?_⟩ ?_ ?_ (by simp [updH, hpL, rowTh, mkTh, n0, n1, n2, m0, m1, m2]) (by omega)
      · simp only; omega
      · simpa using hlen
      · intro j f hj hf
        rcases Nat.lt_or_ge j i with h | h
        · simp only; rw [List.getElem?_set_ne (by omega)]; exact hdone j f h hf
        · obtain rfl : j = i := by simp only at hj; omega
          rw [hti] at hf
          cases hf
          simp only
          rw [List.getElem?_set_self hli, hK]
      · intro j f hj hf
        simp only at hj
        simp only
        rw [List.getElem?_set_ne (by omega)]
        exact hrest j f (by omega) hf
      · simp only; omega
      · simp [updV, tmL, hw, hfin]
  · obtain rfl : i = ts.length := by omega
    have hrows : rows = rowsTh 146 131 69 (marksTh k ts) := by
      refine List.ext_getElem? fun j => ?_
      rcases Nat.lt_or_ge j ts.length with h | h
      · obtain ⟨e, he⟩ : ∃ e, ts[j]? = some e := ⟨_, List.getElem?_eq_getElem h⟩
        rw [hdone j e h he]
        simp [rowsTh, marksTh_at he]
      · rw [List.getElem?_eq_none (by omega), List.getElem?_eq_none (by rw [rowsTh_len, marksTh_len]; omega)]
    rw [List.take_length]
    have F := And.intro @rowsTh_len (And.intro @Nat.le_refl hlen)
    repeat' first
      | refine wSq fun _ hK => ?_
      | refine wRg ?_
      | refine wDr ?_
      | refine VWP_block ?_
      | refine VWP_skip ?_
      | refine VWP_exit ?_
      | refine VWP_ret ?_
      | (refine hK _ ?_; clear hK)
      | (clear hK; refine hK _ ?_; clear hK)
      | (clear hK; clear hK; refine hK _ ?_; clear hK)
      | (clear hK; clear hK; clear hK; refine hK _ ?_; clear hK)
      | (simp only [wHb, reduceCtorEq] at hb <;> try (exfalso; omega))
      | refine wCd (fun hb => ?_) fun hb => ?_
      | simp only [go_sem, Nat.reduceLT, Nat.reduceLeDiff, Nat.reduceEqDiff, Nat.reduceAdd, Nat.reduceMul, Nat.reduceSub, reduceCtorEq, F]
      | simp (disch := omega) only [decide_eq_true_eq, if_pos, if_neg, wrap_id, le_maxLen, and_true, true_and, if_true, ite_true]
      | refine wGd (fun hb => ?_) fun hb => ?_
    exact retO_one (by simp only [go_sem, Nat.reduceLT, Nat.reduceLeDiff, Nat.reduceEqDiff, Nat.reduceAdd, Nat.reduceMul, Nat.reduceSub, reduceCtorEq]) rfl (by simp only [go_sem, Nat.reduceLT, Nat.reduceLeDiff, Nat.reduceEqDiff, Nat.reduceAdd, Nat.reduceMul, Nat.reduceSub, reduceCtorEq]) rfl hrows
theorem markWorld_ok (w : WorldD) (k : Int) (h0 : 0 ≤ k) (h1 : k ≤ 1048576) (hs : w.tiny) :
    SatO Try.prog 58 [.agg [.rf 0 w.first.length, .rf 1 w.store.heads.length, .rf 2 w.store.descs.length, .rf 3 w.threads.length, .rf 4 w.log.length], .int .i64 k]
      [.root 3 (rowsN w.first), .root 125 (rowsH w.store.heads), .root 62 (rowsD 131 w.store.descs), .root 83 (rowsTh 146 131 69 w.threads), .root 193 (rowsV w.log)]
      (.int .i64 (k + w.first.length + cntS w.store + (mkN w.threads : Int) + 4 * w.log.length))
      [.root 3 (rowsN (marksN k w.first.length)), .root 125 (rowsH (marksS (k + w.first.length) w.store).heads), .root 62 (rowsD 131 (marksS (k + w.first.length) w.store).descs), .root 83 (rowsTh 146 131 69 (marksTh (k + w.first.length + cntS w.store) w.threads)), .root 193 (rowsV (marksV (k + w.first.length + cntS w.store + (mkN w.threads : Int)) w.log.length))] := by
  obtain ⟨f1, f2, f3, f4, f5⟩ := hs
  obtain ⟨s1, s2, s3⟩ := f2
  have hcn := cntD_le w.store.descs (Nat.le_refl _)
  have hcs : cntS w.store = 3 * (w.store.heads.length : Int) + cntD w.store.descs w.store.descs.length := rfl
  have hmk := mkN_le w.threads
  refine satO_of_body hT Try.func58 (by kernel_rfl) rfl (rs := [.tmp 4]) rfl (n := 22) rfl (by simp) rfl (m := 5) rfl ⟨⟨rfl, rowsN_pur _⟩, ⟨rfl, rowsH_pur _⟩, ⟨rfl, rowsD_pur _ _⟩, ⟨rfl, rowsTh_pur _ _ _ _⟩, ⟨rfl, rowsV_pur _⟩, by simp [keptL]⟩ fun E hE => ?_
  unfold St.initO
  have F := And.intro @rowsN_pur (And.intro @rowsH_pur (And.intro @rowsD_pur (And.intro @rowsTh_pur @rowsV_pur)))
  repeat' first
    | refine wSq fun _ hK => ?_
    | refine wRg ?_
    | refine wDr ?_
    | refine VWP_block ?_
    | refine VWP_skip ?_
    | refine VWP_exit ?_
    | refine VWP_ret ?_
    | (refine hK _ ?_; clear hK)
    | (clear hK; refine hK _ ?_; clear hK)
    | (clear hK; clear hK; refine hK _ ?_; clear hK)
    | (clear hK; clear hK; clear hK; refine hK _ ?_; clear hK)
    | (simp only [wHb, reduceCtorEq] at hb <;> try (exfalso; omega))
    | refine wCd (fun hb => ?_) fun hb => ?_
    | refine wOw [0] (c := by exact markIntS_ok w.first k h0 (by omega) (by omega)) (k := ?_)
    | refine wOw [1, 2] (c := by exact markStore_ok w.store (k + w.first.length) (by omega) (by omega) ⟨s1, s2, s3⟩) (k := ?_)
    | refine wOw [3] (c := by exact markThreadS_ok w.threads (k + w.first.length + cntS w.store) (by omega) (by omega) f3 f4) (k := ?_)
    | refine wOw [4] (c := by exact markEventS_ok w.log (k + w.first.length + cntS w.store + (mkN w.threads : Int)) (by omega) (by omega) (by omega)) (k := ?_)
    | simp only [go_sem, Nat.reduceLT, Nat.reduceLeDiff, Nat.reduceEqDiff, Nat.reduceAdd, Nat.reduceMul, Nat.reduceSub, reduceCtorEq, F]
    | simp (disch := omega) only [decide_eq_true_eq, if_pos, if_neg, wrap_id, le_maxLen, and_true, true_and, if_true, ite_true]
    | refine wGd (fun hb => ?_) fun hb => ?_
  exact retO_mk [] rfl [.root 3 (rowsN (marksN k w.first.length)), .root 125 (rowsH (marksS (k + w.first.length) w.store).heads), .root 62 (rowsD 131 (marksS (k + w.first.length) w.store).descs), .root 83 (rowsTh 146 131 69 (marksTh (k + w.first.length + cntS w.store) w.threads)), .root 193 (rowsV (marksV (k + w.first.length + cntS w.store + (mkN w.threads : Int)) w.log.length))] rfl
    (by simp [keepsL, updH, HpE]) rfl (by simp only [go_sem, Nat.reduceLT, Nat.reduceLeDiff, Nat.reduceEqDiff, Nat.reduceAdd, Nat.reduceMul, Nat.reduceSub, reduceCtorEq, vres]; rfl) (acc := []) rfl (by simp) rfl
end Go.Proofs.Ytclljpdcpcolpaa
