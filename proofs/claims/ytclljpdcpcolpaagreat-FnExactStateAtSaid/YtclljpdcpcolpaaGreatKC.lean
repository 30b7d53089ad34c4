/- What both ThreadOk give. -/
import Derived.Test.YtclljpdcpcolpaaGreatKA
import Derived.Test.YtclljpdcpcolpaaGreatTE
import Derived.Test.YtclljpdcpcolpaaGreatNA
import Derived.Test.YtclljpdcpcolpaaGreatZA
namespace Go.Proofs.YtclljpdcpcolpaaGreat
open Go Go.RowKit
set_option linter.unusedVariables false
set_option linter.unusedSimpArgs false
set_option maxRecDepth 100000
set_option maxHeartbeats 4000000
attribute [local irreducible] VWP vops vdraw contV contD CallK Guard GuardV NextL Puts Runs RetOK RetQ RetO RetQO thenQ blockQ

def valB (x : Int) : Bool := inB x (-1000000000) 1000000000
def regB (t : ThreadD) : Bool := allB [t.r0, t.r1, t.r2, t.r3] (-1000000000) 1000000000
/-- What a thread that has a descriptor of its own is at. -/
def mineB (s : StoreD) (t : ThreadD) : Bool := t.mine == -1 || (t.check == -1 && inB t.mine 0 ((s.descs.length : Int) - 1) &&
  (match s.descs[t.mine.toNat]? with | some d => d.owner == t.id | none => false) && decide (0 < t.stack.length) && decide (t.pc < t.prog.length) &&
  (match t.prog[t.pc.toNat]? with | some x => x.op == 6 | none => false))
def chkB (t : ThreadD) : Bool := t.check == -1 || inB t.check 0 ((t.opens.length : Int) - 2)
def opensB (s : StoreD) (t : ThreadD) : Bool := t.opens.all (fun e => decide (e.object < s.heads.length))
noncomputable def headB1 (s : StoreD) (t : ThreadD) : Bool := stackB s t.stack && inB t.id 0 3 && progOkB t.prog && inB t.pc 0 t.prog.length && regB t && bP (OpenP t.opens) && (chkB t && inB t.state 0 3 && inB t.commits 0 1000000 && inB t.fails 0 1000000)
noncomputable def threadB (s : StoreD) (t : ThreadD) : Bool := headB1 s t && opensB s t && mineB s t
theorem thread_no {s : StoreD} {t : ThreadD} (h : headB1 s t = false) : threadB s t = false := by simp [threadB, h]
theorem thread_far {s : StoreD} {t : ThreadD} {e : EntS} {i : Nat} (he : t.opens[i]? = some e) (h : ¬ e.object < s.heads.length) : threadB s t = false := by
  have : opensB s t = false := List.all_eq_false.2 ⟨e, List.mem_of_getElem? he, by simpa using h⟩
  simp [threadB, this]
theorem thread_yes {s : StoreD} {t : ThreadD} (h1 : headB1 s t = true) (h2 : ∀ (j : Nat) (e : EntS), j < t.opens.length → t.opens[j]? = some e → e.object < s.heads.length) : threadB s t = mineB s t := by
  have : opensB s t = true := List.all_eq_true.2 fun e he => by
    obtain ⟨j, hj⟩ := List.getElem?_of_mem he
    simpa using h2 j e (List.getElem?_eq_some_iff.1 hj).1 hj
  simp [threadB, h1, this]
theorem mineB_one {s : StoreD} {t : ThreadD} (h : t.mine = -1) : mineB s t = true := by simp [mineB, h]
theorem mineB_out {s : StoreD} {t : ThreadD} (h0 : t.mine ≠ -1) (h : ¬ (0 ≤ t.mine ∧ t.mine < s.descs.length)) : inB t.mine 0 ((s.descs.length : Int) - 1) = false ∧ mineB s t = false := by
  have : inB t.mine 0 ((s.descs.length : Int) - 1) = false := by
    simp [inB]
    omega
  exact ⟨this, by simp [mineB, h0, this]⟩
theorem mineB_in {s : StoreD} {t : ThreadD} {k : Nat} {d : DescS} (hk : t.mine = k) (hd : s.descs[k]? = some d) : inB k 0 ((s.descs.length : Int) - 1) = true ∧
    mineB s t = (t.check == -1 && (d.owner == t.id) && decide (0 < t.stack.length) && decide (t.pc < t.prog.length) && (match t.prog[t.pc.toNat]? with | some x => x.op == 6 | none => false)) := by
  have hlt := (List.getElem?_eq_some_iff.1 hd).1
  have h1 : inB k 0 ((s.descs.length : Int) - 1) = true := by simp [inB]; omega
  refine ⟨h1, ?_⟩
  unfold mineB
  rw [hk, h1, Int.toNat_natCast, hd]
  have : ((k : Int) == -1) = false := by rw [beq_eq_false_iff_ne]; omega
  rw [this]
  simp
theorem implThreadOk_ok (s : StoreD) (t : ThreadD) (hs : s.small) (ht : t.small) :
    SatP Tryz.prog 54 [.agg (s.cells 67 70 72), .agg (t.cells 120 72 137)] (.bool (threadB s t)) [] := by
  have hstk := implStackOk_ok s t.stack hs ht.2.2
  have hprog := implProgOk_ok t.prog ht.1
  change SatP Tryz.prog _ _ (.bool (progOkB t.prog)) [] at hprog
  have hopen := implOpenOk_ok t.opens ht.2.1
  have hreg : SatP Tryz.prog 52 [.fr 3 [[.int .i64 t.r0], [.int .i64 t.r1], [.int .i64 t.r2], [.int .i64 t.r3]]] (.bool (regB t)) [] := areValues_ok [t.r0, t.r1, t.r2, t.r3] (by simp)
  obtain ⟨f1, f2, f3⟩ := hs
  obtain ⟨g1, g2, g3⟩ := ht
  have hws := wrap_id (x := (s.descs.length : Int) - 1) (by omega)
  have hwo := wrap_id (x := (t.opens.length : Int) - 2) (by omega)
  refine satP_of_body hT Tryz.func54 (by kernel_rfl) rfl (rs := [.tmp 4]) rfl (n := 143) rfl (by simp) rfl (by simp) fun E hE => ?_
  unfold St.init
  unfold StoreD.cells at hstk ⊢
  unfold ThreadD.cells
  have hno : (stackB s t.stack = false ∨ inB t.id 0 3 = false ∨ progOkB t.prog = false ∨ inB t.pc 0 t.prog.length = false ∨ regB t = false ∨ bP (OpenP t.opens) = false ∨ (t.check ≠ -1 ∧ inB t.check 0 ((t.opens.length : Int) - 2) = false) ∨ inB t.state 0 3 = false ∨ inB t.commits 0 1000000 = false ∨ inB t.fails 0 1000000 = false) → threadB s t = false := fun h => thread_no (by
    unfold headB1 chkB
    rcases h with h | h | h | h | h | h | h | h | h | h
    all_goals simp [h])
  have F := And.intro @rowsI_len (And.intro @rowsE_len (And.intro @rowsF_len (And.intro @rowsH_len (And.intro @rowsD_len (And.intro hws hwo)))))
  repeat' first
    | refine wSq fun _ hK => ?_
    | refine wRg ?_
    | refine wDr ?_
    | refine VWP_block ?_
    | refine VWP_skip ?_
    | refine VWP_exit ?_
    | refine VWP_ret ?_
    | (refine hK _ ?_; clear hK)
    | (clear hK; refine hK _ ?_; clear hK)
    | (clear hK; clear hK; refine hK _ ?_; clear hK)
    | (clear hK; clear hK; clear hK; refine hK _ ?_; clear hK)
    | (simp only [wHb, reduceCtorEq] at hb <;> try (exfalso; omega))
    | refine wCd (fun hb => ?_) fun hb => ?_
    | refine wCa (c := by first | exact hstk | exact isThread_ok _ | exact hprog | exact in_ok _ _ _ | exact hreg | exact hopen) (k := ?_)
    | simp only [go_sem, Nat.reduceLT, Nat.reduceLeDiff, Nat.reduceEqDiff, Nat.reduceAdd, Nat.reduceMul, Nat.reduceSub, reduceCtorEq, F]
    | simp (disch := omega) only [decide_eq_true_eq, if_pos, if_neg, wrap_id, le_maxLen, and_true, true_and, if_true, ite_true]
    | refine wGd (fun hb => ?_) fun hb => ?_
  all_goals first
    | (refine wLf ?_
       rw [hno (by simp_all)]
       done)
    | skip
  all_goals
    have h1 : headB1 s t = true := by
      unfold headB1 chkB
      simp_all
    have hpc : 0 ≤ t.pc := by
      have : inB t.pc 0 t.prog.length = true := by simp_all [headB1]
      simp [inB] at this
      omega
  all_goals
    refine VWP_loopL (X := Nat) (fun i => [(2, .bp 0 0), (3, .bp 1 0), (79, .fr 72 (rowsE t.opens)), (80, .int .i64 t.opens.length), (81, .int .i64 i)]) (fun i => [(0, .box [.fr 67 (rowsH s.heads), .fr 70 (rowsD 72 s.descs)]), (1, .box [.int .i64 t.id, .fr 120 (rowsI t.prog), .int .i64 t.pc, .int .i64 t.r0, .int .i64 t.r1, .int .i64 t.r2, .int .i64 t.r3, .fr 72 (rowsE t.opens), .int .i64 t.check, .fr 137 (rowsF t.stack), .int .i64 t.mine, .int .i64 t.state, .int .i64 t.commits, .int .i64 t.fails])]) (fun i => t.opens.length - i)
      (fun i => i ≤ t.opens.length ∧ ∀ (j : Nat) (e : EntS), j < i → t.opens[j]? = some e → e.object < s.heads.length) 2 0 ⟨by simp, by simp⟩ (by simp [updV]) (by simp [updH]) (by simp) ?_
  all_goals
    rintro i nx ⟨hi, hdone⟩ hB
    have n0 : nx ≠ 0 := by omega
    have n1 : nx ≠ 1 := by omega
    have m0 : (0 : Nat) ≠ nx := by omega
    have m1 : (1 : Nat) ≠ nx := by omega
    rcases Nat.lt_or_ge i t.opens.length with hlt | hge
    · obtain ⟨e, he⟩ : ∃ e, t.opens[i]? = some e := ⟨_, List.getElem?_eq_getElem hlt⟩
      have hre := rowsE_at he
      have F := And.intro @rowsE_len (And.intro @rowsH_len (And.intro hre (And.intro n0 (And.intro n1 (And.intro m0 m1)))))
      repeat' first
        | refine wSq fun _ hK => ?_
        | refine wRg ?_
        | refine wDr ?_
        | refine VWP_block ?_
        | refine VWP_skip ?_
        | refine VWP_exit ?_
        | refine VWP_ret ?_
        | (refine hK _ ?_; clear hK)
        | (clear hK; refine hK _ ?_; clear hK)
        | (clear hK; clear hK; refine hK _ ?_; clear hK)
        | (clear hK; clear hK; clear hK; refine hK _ ?_; clear hK)
        | (simp only [wHb, reduceCtorEq] at hb <;> try (exfalso; omega))
        | refine wCd (fun hb => ?_) fun hb => ?_
        | simp only [go_sem, Nat.reduceLT, Nat.reduceLeDiff, Nat.reduceEqDiff, Nat.reduceAdd, Nat.reduceMul, Nat.reduceSub, reduceCtorEq, F]
        | simp (disch := omega) only [decide_eq_true_eq, if_pos, if_neg, wrap_id, le_maxLen, and_true, true_and, if_true, ite_true]
        | refine wGd (fun hb => ?_) fun hb => ?_
      · refine wLf ?_
        rw [thread_far he (by omega)]
      · have hw := wrap_id (x := (i : Int) + 1) (by omega)
        refine nextL (i + 1) ⟨by omega, fun j y hj hy => ?_⟩ (by omega) (by simp [updV, tmL, hw]) (by simp [updH, hpL, m0, m1]) (by omega)
        rcases Nat.lt_or_ge j i with h | h
        · exact hdone j y h hy
        · obtain rfl : j = i := by omega
          rw [he] at hy; cases hy
          omega
    · obtain rfl : i = t.opens.length := by omega
      have hfin := thread_yes h1 hdone
      clear hstk hprog hopen hreg hno h1
      by_cases hm : t.mine = -1
      · rw [mineB_one hm] at hfin
        have F := And.intro @rowsE_len hm
        repeat' first
          | refine wSq fun _ hK => ?_
          | refine wRg ?_
          | refine wDr ?_
          | refine VWP_block ?_
          | refine VWP_skip ?_
          | refine VWP_exit ?_
          | refine VWP_ret ?_
          | (refine hK _ ?_; clear hK)
          | (clear hK; refine hK _ ?_; clear hK)
          | (clear hK; clear hK; refine hK _ ?_; clear hK)
          | (clear hK; clear hK; clear hK; refine hK _ ?_; clear hK)
          | (simp only [wHb, reduceCtorEq] at hb <;> try (exfalso; omega))
          | refine wCd (fun hb => ?_) fun hb => ?_
          | simp only [go_sem, Nat.reduceLT, Nat.reduceLeDiff, Nat.reduceEqDiff, Nat.reduceAdd, Nat.reduceMul, Nat.reduceSub, reduceCtorEq, F]
          | simp (disch := omega) only [decide_eq_true_eq, if_pos, if_neg, wrap_id, le_maxLen, and_true, true_and, if_true, ite_true]
          | refine wGd (fun hb => ?_) fun hb => ?_
        refine wLf ?_
        rw [hfin]
      · by_cases hin : 0 ≤ t.mine ∧ t.mine < s.descs.length
        · obtain ⟨k, hk⟩ : ∃ k : Nat, t.mine = k := ⟨t.mine.toNat, by omega⟩
          have hkl : k < s.descs.length := by omega
          have hk0 : (0 : Int) ≤ (k : Nat) := by omega
          have hk1 : ¬ ((k : Nat) : Int) = -1 := by omega
          obtain ⟨d, hd⟩ : ∃ d, s.descs[k]? = some d := ⟨_, List.getElem?_eq_getElem hkl⟩
          have hrd := rowsD_at (te := 72) hd
          obtain ⟨hi1, hmb⟩ := mineB_in hk hd
          rw [hmb] at hfin
          obtain ⟨p, hp⟩ : ∃ p : Nat, t.pc = p := ⟨t.pc.toNat, by omega⟩
          have hp0 : (0 : Int) ≤ (p : Nat) := by omega
          rcases Nat.lt_or_ge p t.prog.length with hpl | hpg
          · obtain ⟨x, hx⟩ : ∃ x, t.prog[p]? = some x := ⟨_, List.getElem?_eq_getElem hpl⟩
            have hrx := rowsI_at hx
            rw [hp, Int.toNat_natCast, hx] at hfin
            have F := And.intro @rowsE_len (And.intro @rowsD_len (And.intro @rowsI_len (And.intro @rowsF_len (And.intro hws (And.intro hk (And.intro hk0 (And.intro hk1 (And.intro hkl (And.intro hi1 (And.intro hrd (And.intro hp (And.intro hp0 (And.intro hpl hrx)))))))))))))
            repeat' first
              | refine wSq fun _ hK => ?_
              | refine wRg ?_
              | refine wDr ?_
              | refine VWP_block ?_
              | refine VWP_skip ?_
              | refine VWP_exit ?_
              | refine VWP_ret ?_
              | (refine hK _ ?_; clear hK)
              | (clear hK; refine hK _ ?_; clear hK)
              | (clear hK; clear hK; refine hK _ ?_; clear hK)
              | (clear hK; clear hK; clear hK; refine hK _ ?_; clear hK)
              | (simp only [wHb, reduceCtorEq] at hb <;> try (exfalso; omega))
              | refine wCd (fun hb => ?_) fun hb => ?_
              | refine wCa (c := by first | exact in_ok _ _ _) (k := ?_)
              | simp only [go_sem, Nat.reduceLT, Nat.reduceLeDiff, Nat.reduceEqDiff, Nat.reduceAdd, Nat.reduceMul, Nat.reduceSub, reduceCtorEq, F]
              | simp (disch := omega) only [decide_eq_true_eq, if_pos, if_neg, wrap_id, le_maxLen, and_true, true_and, if_true, ite_true]
              | refine wGd (fun hb => ?_) fun hb => ?_
            all_goals refine wLf ?_
            all_goals rw [hfin]
            all_goals simp_all
          · have hpn : ¬ ((p : Nat) : Int) < t.prog.length := by omega
            have hz : decide (((p : Nat) : Int) < t.prog.length) = false := by simpa using hpn
            rw [hp, hz, Bool.and_false, Bool.false_and] at hfin
            have F := And.intro @rowsE_len (And.intro @rowsD_len (And.intro @rowsI_len (And.intro @rowsF_len (And.intro hws (And.intro hk (And.intro hk0 (And.intro hk1 (And.intro hkl (And.intro hi1 (And.intro hrd (And.intro hp (And.intro hp0 hpn))))))))))))
            repeat' first
              | refine wSq fun _ hK => ?_
              | refine wRg ?_
              | refine wDr ?_
              | refine VWP_block ?_
              | refine VWP_skip ?_
              | refine VWP_exit ?_
              | refine VWP_ret ?_
              | (refine hK _ ?_; clear hK)
              | (clear hK; refine hK _ ?_; clear hK)
              | (clear hK; clear hK; refine hK _ ?_; clear hK)
              | (clear hK; clear hK; clear hK; refine hK _ ?_; clear hK)
              | (simp only [wHb, reduceCtorEq] at hb <;> try (exfalso; omega))
              | refine wCd (fun hb => ?_) fun hb => ?_
              | refine wCa (c := by first | exact in_ok _ _ _) (k := ?_)
              | simp only [go_sem, Nat.reduceLT, Nat.reduceLeDiff, Nat.reduceEqDiff, Nat.reduceAdd, Nat.reduceMul, Nat.reduceSub, reduceCtorEq, F]
              | simp (disch := omega) only [decide_eq_true_eq, if_pos, if_neg, wrap_id, le_maxLen, and_true, true_and, if_true, ite_true]
              | refine wGd (fun hb => ?_) fun hb => ?_
            all_goals refine wLf ?_
            all_goals rw [hfin]
            all_goals simp_all
        · obtain ⟨hi1, hmb⟩ := mineB_out hm hin
          rw [hmb] at hfin
          have F := And.intro @rowsE_len (And.intro @rowsD_len (And.intro hws hi1))
          repeat' first
            | refine wSq fun _ hK => ?_
            | refine wRg ?_
            | refine wDr ?_
            | refine VWP_block ?_
            | refine VWP_skip ?_
            | refine VWP_exit ?_
            | refine VWP_ret ?_
            | (refine hK _ ?_; clear hK)
            | (clear hK; refine hK _ ?_; clear hK)
            | (clear hK; clear hK; refine hK _ ?_; clear hK)
            | (clear hK; clear hK; clear hK; refine hK _ ?_; clear hK)
            | (simp only [wHb, reduceCtorEq] at hb <;> try (exfalso; omega))
            | refine wCd (fun hb => ?_) fun hb => ?_
            | refine wCa (c := by first | exact in_ok _ _ _) (k := ?_)
            | simp only [go_sem, Nat.reduceLT, Nat.reduceLeDiff, Nat.reduceEqDiff, Nat.reduceAdd, Nat.reduceMul, Nat.reduceSub, reduceCtorEq, F]
            | simp (disch := omega) only [decide_eq_true_eq, if_pos, if_neg, wrap_id, le_maxLen, and_true, true_and, if_true, ite_true]
            | refine wGd (fun hb => ?_) fun hb => ?_
          all_goals refine wLf ?_
          all_goals rw [hfin]
          all_goals simp_all
end Go.Proofs.YtclljpdcpcolpaaGreat
