/- What the reference's ThreadOk gives. -/
import Derived.Test.YtclljpdcpcolpaaGreatKC
namespace Go.Proofs.YtclljpdcpcolpaaGreat
open Go Go.RowKit
set_option linter.unusedVariables false
set_option linter.unusedSimpArgs false
set_option maxRecDepth 100000
set_option maxHeartbeats 4000000
attribute [local irreducible] VWP vops vdraw contV contD CallK Guard GuardV NextL Puts Runs RetOK RetQ RetO RetQO thenQ blockQ

/-- What two branches ask for alike: shown once. -/
structure KeyP (p : Prop) : Prop where
  out : p
theorem key_use {p q : Prop} (h : KeyP p → q) (hp : p) : q := h ⟨hp⟩
noncomputable def headB0 (s : StoreD) (t : ThreadD) : Bool := stackB s t.stack && inB t.id 0 3 && progOkB t.prog && inB t.pc 0 t.prog.length && bP (OpenP t.opens) && (chkB t && inB t.state 0 3 && inB t.commits 0 1000000 && inB t.fails 0 1000000)
theorem headB_reg {s : StoreD} {t : ThreadD} (h : headB0 s t = true) : headB1 s t = regB t := by
  unfold headB0 at h
  unfold headB1
  simp only [Bool.and_eq_true] at h ⊢
  obtain ⟨⟨⟨⟨⟨h1, h2⟩, h3⟩, h4⟩, h5⟩, ⟨⟨h6, h7⟩, h8⟩, h9⟩ := h
  simp [h1, h2, h3, h4, h5, h6, h7, h8, h9]
theorem specThreadOk_ok (s : StoreD) (t : ThreadD) (hs : s.small) (ht : t.small) :
    SatP Tryz.prog 46 [.agg (s.cells 67 70 72), .agg (t.cells 120 72 137)] (.bool (threadB s t)) [] := by
  have hstk := specStackOk_ok s t.stack hs ht.2.2
  have hprog := specProgOk_ok t.prog ht.1
  change SatP Tryz.prog _ _ (.bool (progOkB t.prog)) [] at hprog
  have hopen := specOpen_ok t.opens ht.2.1
  obtain ⟨f1, f2, f3⟩ := hs
  obtain ⟨g1, g2, g3⟩ := ht
  have hws := wrap_id (x := (s.descs.length : Int) - 1) (by omega)
  have hwo := wrap_id (x := (t.opens.length : Int) - 2) (by omega)
  refine satP_of_body hT Tryz.func46 (by kernel_rfl) rfl (rs := [.tmp 4]) rfl (n := 152) rfl (by simp) rfl (by simp) fun E hE => ?_
  unfold St.init
  unfold StoreD.cells at hstk ⊢
  unfold ThreadD.cells
  have hno : (stackB s t.stack = false ∨ inB t.id 0 3 = false ∨ progOkB t.prog = false ∨ inB t.pc 0 t.prog.length = false ∨ bP (OpenP t.opens) = false ∨ (t.check ≠ -1 ∧ inB t.check 0 ((t.opens.length : Int) - 2) = false) ∨ inB t.state 0 3 = false ∨ inB t.commits 0 1000000 = false ∨ inB t.fails 0 1000000 = false) → threadB s t = false := fun h => thread_no (by
    unfold headB1 chkB
    rcases h with h | h | h | h | h | h | h | h | h
    all_goals simp [h])
  apply key_use
  case h =>
    intro key
    have F := And.intro @List.append_eq.{0} (And.intro @rowsI_len (And.intro @rowsE_len (And.intro @rowsF_len (And.intro @rowsH_len (And.intro @rowsD_len (And.intro hws hwo))))))
    repeat' first
      | refine wSq fun _ hK => ?_
      | refine wRg ?_
      | refine wDr ?_
      | refine VWP_block ?_
      | refine VWP_skip ?_
      | refine VWP_exit ?_
      | refine VWP_ret ?_
      | (refine hK _ ?_; clear hK)
      | (clear hK; refine hK _ ?_; clear hK)
      | (clear hK; clear hK; refine hK _ ?_; clear hK)
      | (clear hK; clear hK; clear hK; refine hK _ ?_; clear hK)
      | (simp only [wHb, reduceCtorEq] at hb <;> try (exfalso; omega))
      | refine wCd (fun hb => ?_) fun hb => ?_
      | refine wCa (c := by first | exact hstk | exact l1In_ok _ _ _ | exact hprog | exact hopen) (k := ?_)
      | simp only [go_sem, Nat.reduceLT, Nat.reduceLeDiff, Nat.reduceEqDiff, Nat.reduceAdd, Nat.reduceMul, Nat.reduceSub, reduceCtorEq, F]
      | simp (disch := omega) only [decide_eq_true_eq, if_pos, if_neg, wrap_id, le_maxLen, and_true, true_and, if_true, ite_true]
      | refine wGd (fun hb => ?_) fun hb => ?_
    all_goals first
      | (refine wLf ?_
         rw [hno (by simp_all)]
         done)
      | skip
    all_goals
      have h0 : headB0 s t = true := by
        unfold headB0 chkB
        simp_all
    all_goals
      refine VWP_loopL (X := Nat) (fun i => [(2, .bp 0 0), (3, .bp 1 0), (5, .int .i64 i)]) (fun i => [(0, .box [.fr 67 (rowsH s.heads), .fr 70 (rowsD 72 s.descs)]), (1, .box [.int .i64 t.id, .fr 120 (rowsI t.prog), .int .i64 t.pc, .int .i64 t.r0, .int .i64 t.r1, .int .i64 t.r2, .int .i64 t.r3, .fr 72 (rowsE t.opens), .int .i64 t.check, .fr 137 (rowsF t.stack), .int .i64 t.mine, .int .i64 t.state, .int .i64 t.commits, .int .i64 t.fails])]) (fun i => 4 - i)
        (fun i => i ≤ 4 ∧ (0 < i → valB t.r0 = true) ∧ (1 < i → valB t.r1 = true) ∧ (2 < i → valB t.r2 = true) ∧ (3 < i → valB t.r3 = true)) 2 0 ⟨by simp, by simp, by simp, by simp, by simp⟩ (by simp [updV]) (by simp [updH]) (by simp) ?_
    all_goals
      rename_i K K2
      revert h0 hK
      clear K2
      revert K
      exact key.out
  intro K hK h0
  clear hstk hprog hopen hno
  have hpc : 0 ≤ t.pc := by
    have : inB t.pc 0 t.prog.length = true := by simp only [headB0, Bool.and_eq_true] at h0; exact h0.1.1.2
    simp [inB] at this
    omega
  have hrg := headB_reg h0
  rintro i nx ⟨hi, v0, v1, v2, v3⟩ hB
  have h5 : i = 0 ∨ i = 1 ∨ i = 2 ∨ i = 3 ∨ i = 4 := by omega
  have e0 : ((0 : Nat) : Int) = 0 := rfl
  have e1 : ((1 : Nat) : Int) = 1 := rfl
  have e2 : ((2 : Nat) : Int) = 2 := rfl
  have e3 : ((3 : Nat) : Int) = 3 := rfl
  have e4 : ((4 : Nat) : Int) = 4 := rfl
  rcases h5 with rfl | rfl | rfl | rfl | rfl
  · skip
    have F := And.intro e0 (And.intro e1 (And.intro e2 (And.intro e3 (And.intro e4 (And.intro @Nat.lt_irrefl (And.intro @Int.zero_add @Nat.zero_add))))))
    repeat' first
      | refine wSq fun _ hK => ?_
      | refine wRg ?_
      | refine wDr ?_
      | refine VWP_block ?_
      | refine VWP_skip ?_
      | refine VWP_exit ?_
      | refine VWP_ret ?_
      | (refine hK _ ?_; clear hK)
      | (clear hK; refine hK _ ?_; clear hK)
      | (clear hK; clear hK; refine hK _ ?_; clear hK)
      | (clear hK; clear hK; clear hK; refine hK _ ?_; clear hK)
      | (simp only [wHb, reduceCtorEq] at hb <;> try (exfalso; omega))
      | refine wCdx (fun hb => ?_) fun hb => ?_
      | refine wCax (c := by first | exact l1Value_ok _) (k := ?_)
      | simp only [go_sem, Nat.reduceLT, Nat.reduceLeDiff, Nat.reduceEqDiff, Nat.reduceAdd, Nat.reduceMul, Nat.reduceSub, reduceCtorEq, Int.reduceBEq, Int.reduceBNe, Int.reduceLT, Int.reduceLE, Int.reduceAdd, Int.reduceToNat, F]
      | simp (disch := omega) only [decide_eq_true_eq, if_pos, if_neg, wrap_id, le_maxLen, and_true, true_and, if_true, ite_true]
      | refine wGdx (fun hb => ?_) fun hb => ?_
    · refine wLf ?_
      rw [thread_no (by rw [hrg]; simp_all [regB, allB])]
    · exact nextL 1 ⟨by omega, by simp_all [valB], by simp_all [valB], by simp_all [valB], by simp_all [valB]⟩ (by omega) (by simp [updV, tmL]; try decide) (by simp [updH, hpL]; try omega) (by omega)
  · skip
    have F := And.intro e0 (And.intro e1 (And.intro e2 (And.intro e3 (And.intro e4 (And.intro @Nat.lt_irrefl (And.intro @Int.zero_add @Nat.zero_add))))))
    repeat' first
      | refine wSq fun _ hK => ?_
      | refine wRg ?_
      | refine wDr ?_
      | refine VWP_block ?_
      | refine VWP_skip ?_
      | refine VWP_exit ?_
      | refine VWP_ret ?_
      | (refine hK _ ?_; clear hK)
      | (clear hK; refine hK _ ?_; clear hK)
      | (clear hK; clear hK; refine hK _ ?_; clear hK)
      | (clear hK; clear hK; clear hK; refine hK _ ?_; clear hK)
      | (simp only [wHb, reduceCtorEq] at hb <;> try (exfalso; omega))
      | refine wCdx (fun hb => ?_) fun hb => ?_
      | refine wCax (c := by first | exact l1Value_ok _) (k := ?_)
      | simp only [go_sem, Nat.reduceLT, Nat.reduceLeDiff, Nat.reduceEqDiff, Nat.reduceAdd, Nat.reduceMul, Nat.reduceSub, reduceCtorEq, Int.reduceBEq, Int.reduceBNe, Int.reduceLT, Int.reduceLE, Int.reduceAdd, Int.reduceToNat, F]
      | simp (disch := omega) only [decide_eq_true_eq, if_pos, if_neg, wrap_id, le_maxLen, and_true, true_and, if_true, ite_true]
      | refine wGdx (fun hb => ?_) fun hb => ?_
    · refine wLf ?_
      rw [thread_no (by rw [hrg]; simp_all [regB, allB])]
    · exact nextL 2 ⟨by omega, by simp_all [valB], by simp_all [valB], by simp_all [valB], by simp_all [valB]⟩ (by omega) (by simp [updV, tmL]; try decide) (by simp [updH, hpL]; try omega) (by omega)
  · skip
    have F := And.intro e0 (And.intro e1 (And.intro e2 (And.intro e3 (And.intro e4 (And.intro @Nat.lt_irrefl (And.intro @Int.zero_add @Nat.zero_add))))))
    repeat' first
      | refine wSq fun _ hK => ?_
      | refine wRg ?_
      | refine wDr ?_
      | refine VWP_block ?_
      | refine VWP_skip ?_
      | refine VWP_exit ?_
      | refine VWP_ret ?_
      | (refine hK _ ?_; clear hK)
      | (clear hK; refine hK _ ?_; clear hK)
      | (clear hK; clear hK; refine hK _ ?_; clear hK)
      | (clear hK; clear hK; clear hK; refine hK _ ?_; clear hK)
      | (simp only [wHb, reduceCtorEq] at hb <;> try (exfalso; omega))
      | refine wCdx (fun hb => ?_) fun hb => ?_
      | refine wCax (c := by first | exact l1Value_ok _) (k := ?_)
      | simp only [go_sem, Nat.reduceLT, Nat.reduceLeDiff, Nat.reduceEqDiff, Nat.reduceAdd, Nat.reduceMul, Nat.reduceSub, reduceCtorEq, Int.reduceBEq, Int.reduceBNe, Int.reduceLT, Int.reduceLE, Int.reduceAdd, Int.reduceToNat, F]
      | simp (disch := omega) only [decide_eq_true_eq, if_pos, if_neg, wrap_id, le_maxLen, and_true, true_and, if_true, ite_true]
      | refine wGdx (fun hb => ?_) fun hb => ?_
    · refine wLf ?_
      rw [thread_no (by rw [hrg]; simp_all [regB, allB])]
    · exact nextL 3 ⟨by omega, by simp_all [valB], by simp_all [valB], by simp_all [valB], by simp_all [valB]⟩ (by omega) (by simp [updV, tmL]; try decide) (by simp [updH, hpL]; try omega) (by omega)
  · skip
    have F := And.intro e0 (And.intro e1 (And.intro e2 (And.intro e3 (And.intro e4 (And.intro @Nat.lt_irrefl (And.intro @Int.zero_add @Nat.zero_add))))))
    repeat' first
      | refine wSq fun _ hK => ?_
      | refine wRg ?_
      | refine wDr ?_
      | refine VWP_block ?_
      | refine VWP_skip ?_
      | refine VWP_exit ?_
      | refine VWP_ret ?_
      | (refine hK _ ?_; clear hK)
      | (clear hK; refine hK _ ?_; clear hK)
      | (clear hK; clear hK; refine hK _ ?_; clear hK)
      | (clear hK; clear hK; clear hK; refine hK _ ?_; clear hK)
      | (simp only [wHb, reduceCtorEq] at hb <;> try (exfalso; omega))
      | refine wCdx (fun hb => ?_) fun hb => ?_
      | refine wCax (c := by first | exact l1Value_ok _) (k := ?_)
      | simp only [go_sem, Nat.reduceLT, Nat.reduceLeDiff, Nat.reduceEqDiff, Nat.reduceAdd, Nat.reduceMul, Nat.reduceSub, reduceCtorEq, Int.reduceBEq, Int.reduceBNe, Int.reduceLT, Int.reduceLE, Int.reduceAdd, Int.reduceToNat, F]
      | simp (disch := omega) only [decide_eq_true_eq, if_pos, if_neg, wrap_id, le_maxLen, and_true, true_and, if_true, ite_true]
      | refine wGdx (fun hb => ?_) fun hb => ?_
    · refine wLf ?_
      rw [thread_no (by rw [hrg]; simp_all [regB, allB])]
    · exact nextL 4 ⟨by omega, by simp_all [valB], by simp_all [valB], by simp_all [valB], by simp_all [valB]⟩ (by omega) (by simp [updV, tmL]; try decide) (by simp [updH, hpL]; try omega) (by omega)
  · have hreg : regB t = true := by
      have q0 := v0 (by omega)
      have q1 := v1 (by omega)
      have q2 := v2 (by omega)
      have q3 := v3 (by omega)
      unfold valB at q0 q1 q2 q3
      simp [regB, allB, q0, q1, q2, q3]
    have h1 : headB1 s t = true := by rw [hrg, hreg]
    clear v0 v1 v2 v3 hrg hreg h0
    have F := And.intro e0 (And.intro e1 (And.intro e2 (And.intro e3 (And.intro e4 (And.intro @Nat.lt_irrefl (And.intro @Int.zero_add @Nat.zero_add))))))
    repeat' first
      | refine wSq fun _ hK => ?_
      | refine wRg ?_
      | refine wDr ?_
      | refine VWP_block ?_
      | refine VWP_skip ?_
      | refine VWP_exit ?_
      | refine VWP_ret ?_
      | (refine hK _ ?_; clear hK)
      | (clear hK; refine hK _ ?_; clear hK)
      | (clear hK; clear hK; refine hK _ ?_; clear hK)
      | (clear hK; clear hK; clear hK; refine hK _ ?_; clear hK)
      | (simp only [wHb, reduceCtorEq] at hb <;> try (exfalso; omega))
      | refine wCdx (fun hb => ?_) fun hb => ?_
      | simp only [go_sem, Nat.reduceLT, Nat.reduceLeDiff, Nat.reduceEqDiff, Nat.reduceAdd, Nat.reduceMul, Nat.reduceSub, reduceCtorEq, Int.reduceBEq, Int.reduceBNe, Int.reduceLT, Int.reduceLE, Int.reduceAdd, Int.reduceToNat, F]
      | simp (disch := omega) only [decide_eq_true_eq, if_pos, if_neg, wrap_id, le_maxLen, and_true, true_and, if_true, ite_true]
      | refine wGdx (fun hb => ?_) fun hb => ?_
    refine VWP_loopL (X := Nat) (fun i => [(2, .bp 0 0), (3, .bp 1 0), (6, .int .i64 i)]) (fun i => [(0, .box [.fr 67 (rowsH s.heads), .fr 70 (rowsD 72 s.descs)]), (1, .box [.int .i64 t.id, .fr 120 (rowsI t.prog), .int .i64 t.pc, .int .i64 t.r0, .int .i64 t.r1, .int .i64 t.r2, .int .i64 t.r3, .fr 72 (rowsE t.opens), .int .i64 t.check, .fr 137 (rowsF t.stack), .int .i64 t.mine, .int .i64 t.state, .int .i64 t.commits, .int .i64 t.fails])]) (fun i => t.opens.length - i)
      (fun i => i ≤ t.opens.length ∧ ∀ (j : Nat) (e : EntS), j < i → t.opens[j]? = some e → e.object < s.heads.length) 2 0 ⟨by simp, by simp⟩ (by simp [updV, tmL]) (by simp [updH, hpL]) (by omega) ?_
    clear e0 e1 e2 e3 e4 hB hi
    rintro i nx ⟨hi, hdone⟩ hB
    rcases Nat.lt_or_ge i t.opens.length with hlt | hge
    · obtain ⟨e, he⟩ : ∃ e, t.opens[i]? = some e := ⟨_, List.getElem?_eq_getElem hlt⟩
      have hre := rowsE_at he
      have F := And.intro @rowsE_len (And.intro @rowsH_len hre)
      repeat' first
        | refine wSq fun _ hK => ?_
        | refine wRg ?_
        | refine wDr ?_
        | refine VWP_block ?_
        | refine VWP_skip ?_
        | refine VWP_exit ?_
        | refine VWP_ret ?_
        | (refine hK _ ?_; clear hK)
        | (clear hK; refine hK _ ?_; clear hK)
        | (clear hK; clear hK; refine hK _ ?_; clear hK)
        | (clear hK; clear hK; clear hK; refine hK _ ?_; clear hK)
        | (simp only [wHb, reduceCtorEq] at hb <;> try (exfalso; omega))
        | refine wCd (fun hb => ?_) fun hb => ?_
        | simp only [go_sem, Nat.reduceLT, Nat.reduceLeDiff, Nat.reduceEqDiff, Nat.reduceAdd, Nat.reduceMul, Nat.reduceSub, reduceCtorEq, F]
        | simp (disch := omega) only [decide_eq_true_eq, if_pos, if_neg, wrap_id, le_maxLen, and_true, true_and, if_true, ite_true]
        | refine wGd (fun hb => ?_) fun hb => ?_
      · refine wLf ?_
        rw [thread_far he (by omega)]
      · have hw := wrap_id (x := (i : Int) + 1) (by omega)
        refine nextL (i + 1) ⟨by omega, fun j y hj hy => ?_⟩ (by omega) (by simp [updV, tmL, hw]) (by simp [updH, hpL]; try omega) (by omega)
        rcases Nat.lt_or_ge j i with h | h
        · exact hdone j y h hy
        · obtain rfl : j = i := by omega
          rw [he] at hy; cases hy
          omega
    · obtain rfl : i = t.opens.length := by omega
      have hfin := thread_yes h1 hdone
      clear h1 hdone hi hge hB
      by_cases hm : t.mine = -1
      · rw [mineB_one hm] at hfin
        have F := And.intro @rowsE_len hm
        repeat' first
          | refine wSq fun _ hK => ?_
          | refine wRg ?_
          | refine wDr ?_
          | refine VWP_block ?_
          | refine VWP_skip ?_
          | refine VWP_exit ?_
          | refine VWP_ret ?_
          | (refine hK _ ?_; clear hK)
          | (clear hK; refine hK _ ?_; clear hK)
          | (clear hK; clear hK; refine hK _ ?_; clear hK)
          | (clear hK; clear hK; clear hK; refine hK _ ?_; clear hK)
          | (simp only [wHb, reduceCtorEq] at hb <;> try (exfalso; omega))
          | refine wCd (fun hb => ?_) fun hb => ?_
          | simp only [go_sem, Nat.reduceLT, Nat.reduceLeDiff, Nat.reduceEqDiff, Nat.reduceAdd, Nat.reduceMul, Nat.reduceSub, reduceCtorEq, F]
          | simp (disch := omega) only [decide_eq_true_eq, if_pos, if_neg, wrap_id, le_maxLen, and_true, true_and, if_true, ite_true]
          | refine wGd (fun hb => ?_) fun hb => ?_
        refine wLf ?_
        rw [hfin]
      by_cases c1 : t.check = -1
      · by_cases hin : 0 ≤ t.mine ∧ t.mine < s.descs.length
        · obtain ⟨k, hk⟩ : ∃ k : Nat, t.mine = k := ⟨t.mine.toNat, by omega⟩
          have hkl : k < s.descs.length := by omega
          have hk0 : (0 : Int) ≤ (k : Nat) := by omega
          have hk1 : ¬ ((k : Nat) : Int) = -1 := by omega
          obtain ⟨d, hd⟩ : ∃ d, s.descs[k]? = some d := ⟨_, List.getElem?_eq_getElem hkl⟩
          have hrd := rowsD_at (te := 72) hd
          obtain ⟨hi1, hmb⟩ := mineB_in hk hd
          obtain ⟨p, hp⟩ : ∃ p : Nat, t.pc = p := ⟨t.pc.toNat, by omega⟩
          have hp0 : (0 : Int) ≤ (p : Nat) := by omega
          rw [hmb, hp, Int.toNat_natCast] at hfin
          by_cases c2 : d.owner = t.id
          · by_cases c3 : (0 : Int) < t.stack.length
            · rcases Nat.lt_or_ge p t.prog.length with hpl | hpg
              · obtain ⟨x, hx⟩ : ∃ x, t.prog[p]? = some x := ⟨_, List.getElem?_eq_getElem hpl⟩
                have hrx := rowsI_at hx
                have F := And.intro @rowsE_len (And.intro @rowsD_len (And.intro @rowsI_len (And.intro @rowsF_len (And.intro hws (And.intro hk (And.intro hk0 (And.intro hk1 (And.intro hkl (And.intro hi1 (And.intro hrd (And.intro hp (And.intro hp0 (And.intro hpl (And.intro hrx (And.intro c1 (And.intro c2 c3))))))))))))))))
                repeat' first
                  | refine wSq fun _ hK => ?_
                  | refine wRg ?_
                  | refine wDr ?_
                  | refine VWP_block ?_
                  | refine VWP_skip ?_
                  | refine VWP_exit ?_
                  | refine VWP_ret ?_
                  | (refine hK _ ?_; clear hK)
                  | (clear hK; refine hK _ ?_; clear hK)
                  | (clear hK; clear hK; refine hK _ ?_; clear hK)
                  | (clear hK; clear hK; clear hK; refine hK _ ?_; clear hK)
                  | (simp only [wHb, reduceCtorEq] at hb <;> try (exfalso; omega))
                  | refine wCd (fun hb => ?_) fun hb => ?_
                  | refine wCa (c := by first | exact l1In_ok _ _ _) (k := ?_)
                  | simp only [go_sem, Nat.reduceLT, Nat.reduceLeDiff, Nat.reduceEqDiff, Nat.reduceAdd, Nat.reduceMul, Nat.reduceSub, reduceCtorEq, F]
                  | simp (disch := omega) only [decide_eq_true_eq, if_pos, if_neg, wrap_id, le_maxLen, and_true, true_and, if_true, ite_true]
                  | refine wGd (fun hb => ?_) fun hb => ?_
                all_goals refine wLf ?_
                all_goals rw [hfin]
                all_goals simp_all
              · have hpn : ¬ ((p : Nat) : Int) < t.prog.length := by omega
                have F := And.intro @rowsE_len (And.intro @rowsD_len (And.intro @rowsI_len (And.intro @rowsF_len (And.intro hws (And.intro hk (And.intro hk0 (And.intro hk1 (And.intro hkl (And.intro hi1 (And.intro hrd (And.intro hp (And.intro hp0 (And.intro hpn (And.intro c1 (And.intro c2 c3)))))))))))))))
                repeat' first
                  | refine wSq fun _ hK => ?_
                  | refine wRg ?_
                  | refine wDr ?_
                  | refine VWP_block ?_
                  | refine VWP_skip ?_
                  | refine VWP_exit ?_
                  | refine VWP_ret ?_
                  | (refine hK _ ?_; clear hK)
                  | (clear hK; refine hK _ ?_; clear hK)
                  | (clear hK; clear hK; refine hK _ ?_; clear hK)
                  | (clear hK; clear hK; clear hK; refine hK _ ?_; clear hK)
                  | (simp only [wHb, reduceCtorEq] at hb <;> try (exfalso; omega))
                  | refine wCd (fun hb => ?_) fun hb => ?_
                  | refine wCa (c := by first | exact l1In_ok _ _ _) (k := ?_)
                  | simp only [go_sem, Nat.reduceLT, Nat.reduceLeDiff, Nat.reduceEqDiff, Nat.reduceAdd, Nat.reduceMul, Nat.reduceSub, reduceCtorEq, F]
                  | simp (disch := omega) only [decide_eq_true_eq, if_pos, if_neg, wrap_id, le_maxLen, and_true, true_and, if_true, ite_true]
                  | refine wGd (fun hb => ?_) fun hb => ?_
                all_goals refine wLf ?_
                all_goals rw [hfin]
                all_goals simp_all
            · skip
              have F := And.intro @rowsE_len (And.intro @rowsD_len (And.intro @rowsI_len (And.intro @rowsF_len (And.intro hws (And.intro hk (And.intro hk0 (And.intro hk1 (And.intro hkl (And.intro hi1 (And.intro hrd (And.intro c1 (And.intro c2 c3))))))))))))
              repeat' first
                | refine wSq fun _ hK => ?_
                | refine wRg ?_
                | refine wDr ?_
                | refine VWP_block ?_
                | refine VWP_skip ?_
                | refine VWP_exit ?_
                | refine VWP_ret ?_
                | (refine hK _ ?_; clear hK)
                | (clear hK; refine hK _ ?_; clear hK)
                | (clear hK; clear hK; refine hK _ ?_; clear hK)
                | (clear hK; clear hK; clear hK; refine hK _ ?_; clear hK)
                | (simp only [wHb, reduceCtorEq] at hb <;> try (exfalso; omega))
                | refine wCd (fun hb => ?_) fun hb => ?_
                | refine wCa (c := by first | exact l1In_ok _ _ _) (k := ?_)
                | simp only [go_sem, Nat.reduceLT, Nat.reduceLeDiff, Nat.reduceEqDiff, Nat.reduceAdd, Nat.reduceMul, Nat.reduceSub, reduceCtorEq, F]
                | simp (disch := omega) only [decide_eq_true_eq, if_pos, if_neg, wrap_id, le_maxLen, and_true, true_and, if_true, ite_true]
                | refine wGd (fun hb => ?_) fun hb => ?_
              all_goals refine wLf ?_
              all_goals rw [hfin]
              all_goals simp_all
          · have hc2q : (d.owner == t.id) = false := by simpa using c2
            have F := And.intro @rowsE_len (And.intro @rowsD_len (And.intro @rowsI_len (And.intro @rowsF_len (And.intro hws (And.intro hk (And.intro hk0 (And.intro hk1 (And.intro hkl (And.intro hi1 (And.intro hrd (And.intro c1 hc2q)))))))))))
            repeat' first
              | refine wSq fun _ hK => ?_
              | refine wRg ?_
              | refine wDr ?_
              | refine VWP_block ?_
              | refine VWP_skip ?_
              | refine VWP_exit ?_
              | refine VWP_ret ?_
              | (refine hK _ ?_; clear hK)
              | (clear hK; refine hK _ ?_; clear hK)
              | (clear hK; clear hK; refine hK _ ?_; clear hK)
              | (clear hK; clear hK; clear hK; refine hK _ ?_; clear hK)
              | (simp only [wHb, reduceCtorEq] at hb <;> try (exfalso; omega))
              | refine wCd (fun hb => ?_) fun hb => ?_
              | refine wCa (c := by first | exact l1In_ok _ _ _) (k := ?_)
              | simp only [go_sem, Nat.reduceLT, Nat.reduceLeDiff, Nat.reduceEqDiff, Nat.reduceAdd, Nat.reduceMul, Nat.reduceSub, reduceCtorEq, F]
              | simp (disch := omega) only [decide_eq_true_eq, if_pos, if_neg, wrap_id, le_maxLen, and_true, true_and, if_true, ite_true]
              | refine wGd (fun hb => ?_) fun hb => ?_
            all_goals refine wLf ?_
            all_goals rw [hfin]
            all_goals simp_all
        · obtain ⟨hi1, hmb⟩ := mineB_out hm hin
          rw [hmb] at hfin
          have hmq : (t.mine == -1) = false := by simpa using hm
          have F := And.intro @rowsE_len (And.intro @rowsD_len (And.intro hws (And.intro hi1 (And.intro hmq c1))))
          repeat' first
            | refine wSq fun _ hK => ?_
            | refine wRg ?_
            | refine wDr ?_
            | refine VWP_block ?_
            | refine VWP_skip ?_
            | refine VWP_exit ?_
            | refine VWP_ret ?_
            | (refine hK _ ?_; clear hK)
            | (clear hK; refine hK _ ?_; clear hK)
            | (clear hK; clear hK; refine hK _ ?_; clear hK)
            | (clear hK; clear hK; clear hK; refine hK _ ?_; clear hK)
            | (simp only [wHb, reduceCtorEq] at hb <;> try (exfalso; omega))
            | refine wCd (fun hb => ?_) fun hb => ?_
            | refine wCa (c := by first | exact l1In_ok _ _ _) (k := ?_)
            | simp only [go_sem, Nat.reduceLT, Nat.reduceLeDiff, Nat.reduceEqDiff, Nat.reduceAdd, Nat.reduceMul, Nat.reduceSub, reduceCtorEq, F]
            | simp (disch := omega) only [decide_eq_true_eq, if_pos, if_neg, wrap_id, le_maxLen, and_true, true_and, if_true, ite_true]
            | refine wGd (fun hb => ?_) fun hb => ?_
          all_goals refine wLf ?_
          all_goals rw [hfin]
          all_goals simp_all
      · have hmb : mineB s t = false := by simp [mineB, hm, c1]
        rw [hmb] at hfin
        have hmq : (t.mine == -1) = false := by simpa using hm
        have hcq : (t.check == -1) = false := by simpa using c1
        have F := And.intro @rowsE_len (And.intro @rowsD_len (And.intro hws (And.intro hmq hcq)))
        repeat' first
          | refine wSq fun _ hK => ?_
          | refine wRg ?_
          | refine wDr ?_
          | refine VWP_block ?_
          | refine VWP_skip ?_
          | refine VWP_exit ?_
          | refine VWP_ret ?_
          | (refine hK _ ?_; clear hK)
          | (clear hK; refine hK _ ?_; clear hK)
          | (clear hK; clear hK; refine hK _ ?_; clear hK)
          | (clear hK; clear hK; clear hK; refine hK _ ?_; clear hK)
          | (simp only [wHb, reduceCtorEq] at hb <;> try (exfalso; omega))
          | refine wCd (fun hb => ?_) fun hb => ?_
          | refine wCa (c := by first | exact l1In_ok _ _ _) (k := ?_)
          | simp only [go_sem, Nat.reduceLT, Nat.reduceLeDiff, Nat.reduceEqDiff, Nat.reduceAdd, Nat.reduceMul, Nat.reduceSub, reduceCtorEq, F]
          | simp (disch := omega) only [decide_eq_true_eq, if_pos, if_neg, wrap_id, le_maxLen, and_true, true_and, if_true, ite_true]
          | refine wGd (fun hb => ?_) fun hb => ?_
        all_goals refine wLf ?_
        all_goals rw [hfin]
        all_goals simp_all
end Go.Proofs.YtclljpdcpcolpaaGreat
