/- One step of a descriptor: the program's, all phases. -/
import Derived.Test.YtchkbgekmoileaaLI
namespace Go.Proofs.Ytchkbgekmoileaa
open Go Go.RowKit
set_option linter.unusedVariables false
set_option linter.unusedSimpArgs false
set_option maxRecDepth 100000
set_option maxHeartbeats 4000000
attribute [local irreducible] VWP vops vdraw contV contD CallK Guard GuardV NextL Puts Runs RetOK RetQ RetO RetQO thenQ blockQ

theorem drive_ok (s : StoreD) (f : FrameD) (k : Nat) (d : DescS) (j : Nat) (e : EntS) (o : Nat) (h : HeadD) (ha : AtP s f k d j e o h) (hv0 : 0 ≤ h.version) (hv1 : h.version ≤ 1000000) (hs : s.small) (r : StoreD × FrameD × Int) (hr : driveM s f k d e o h = r) :
    SatO Try.prog 68 [.bp 0 0, .agg f.cells] [.box [.rf 1 s.heads.length, .rf 2 s.descs.length], .root 36 (rowsH s.heads), .root 40 (rowsD 70 s.descs)]
      (.tup [.agg r.2.1.cells, .int .i64 r.2.2]) [.box [.rf 1 s.heads.length, .rf 2 s.descs.length], .root 36 (rowsH r.1.heads), .root 40 (rowsD 70 r.1.descs)] := by
  obtain ⟨hk, hd, hj, he, heo, hho⟩ := ha
  obtain ⟨f1, f2, f3⟩ := hs
  have hkl := (List.getElem?_eq_some_iff.1 hd).1
  have hjl := (List.getElem?_eq_some_iff.1 he).1
  have hol := (List.getElem?_eq_some_iff.1 hho).1
  have hde := f3 d (List.mem_of_getElem? hd)
  have hk0 : (0 : Int) ≤ (k : Nat) := by omega
  have hj0 : (0 : Int) ≤ (j : Nat) := by omega
  have ho0 : (0 : Int) ≤ (o : Nat) := by omega
  have hrd := rowsD_at (te := 70) hd
  have hre := rowsE_at he
  have hrh := rowsH_at hho
  have hkr : k < (rowsD 70 s.descs).length := by rw [rowsD_len]; exact hkl
  have hor : o < (rowsH s.heads).length := by rw [rowsH_len]; exact hol
  have hbk := rowsD_back (te := 70) hd
  have ha0 : AtP s f k d j e o h := ⟨hk, hd, hj, he, heo, hho⟩
  have hs0 : s.small := ⟨f1, f2, f3⟩
  refine satO_of_body hT Try.func68 (by kernel_rfl) rfl (rs := [.cell 4 50, .tmp 5]) rfl (n := 60) rfl (by simp) rfl (m := 3) rfl ⟨⟨rfl, rfl⟩, ⟨rfl, rowsH_pur _⟩, ⟨rfl, rowsD_pur _ _⟩, by simp [keptL]⟩ fun E hE => ?_
  unfold St.initO
  unfold FrameD.cells
  by_cases p0 : f.phase = 0
  · have hm : driveM s f k d e o h = (s, ⟨f.desc, if d.status = 0 then 1 else 4, 0⟩, -1) := by rw [driveM, if_pos p0]
    rw [hm] at hr
    subst hr
    by_cases st : d.status = 0
    · have stq : (d.status == 0) = true := by simp [st]
      simp only [if_pos st]
      have F := And.intro @vops_nilCheck (And.intro @vNil_bp (And.intro @rowsD_len (And.intro @rowsE_len (And.intro @rowsH_len (And.intro hk (And.intro hj (And.intro hk0 (And.intro hj0 (And.intro ho0 (And.intro hkl (And.intro hjl (And.intro hol (And.intro hrd (And.intro hre (And.intro hrh (And.intro hkr (And.intro hor (And.intro (fun a => List.getElem?_set_self (a := a) hkr) (And.intro @List.length_set.{0} (And.intro @Nat.le_refl (And.intro @Nat.le_add_right (And.intro p0 stq))))))))))))))))))))))
      repeat' first
        | refine wSq fun _ hK => ?_
        | refine wRg ?_
        | refine wDr ?_
        | refine VWP_block ?_
        | refine VWP_skip ?_
        | refine VWP_exit ?_
        | refine VWP_ret ?_
        | (refine hK _ ?_; clear hK)
        | (clear hK; refine hK _ ?_; clear hK)
        | (clear hK; clear hK; refine hK _ ?_; clear hK)
        | (clear hK; clear hK; clear hK; refine hK _ ?_; clear hK)
        | (simp only [wHb, reduceCtorEq] at hb <;> try (exfalso; omega))
        | (refine VWP_cond2 true ?_ ?_ (fun hh => nomatch hh); focus (simp only [go_sem, Nat.reduceLT, Nat.reduceLeDiff, Nat.reduceEqDiff, Nat.reduceAdd, Nat.reduceMul, Nat.reduceSub, reduceCtorEq, Int.reduceBEq, Int.reduceBNe, Int.reduceLT, Int.reduceLE, Int.reduceAdd, Int.reduceToNat, F]; done); intro _)
        | (refine VWP_cond2 false ?_ (fun hh => nomatch hh) ?_; focus (simp only [go_sem, Nat.reduceLT, Nat.reduceLeDiff, Nat.reduceEqDiff, Nat.reduceAdd, Nat.reduceMul, Nat.reduceSub, reduceCtorEq, Int.reduceBEq, Int.reduceBNe, Int.reduceLT, Int.reduceLE, Int.reduceAdd, Int.reduceToNat, F]; done); intro _)
        | refine wCdx (fun hb => ?_) fun hb => ?_
        | simp only [go_sem, Nat.reduceLT, Nat.reduceLeDiff, Nat.reduceEqDiff, Nat.reduceAdd, Nat.reduceMul, Nat.reduceSub, reduceCtorEq, Int.reduceBEq, Int.reduceBNe, Int.reduceLT, Int.reduceLE, Int.reduceAdd, Int.reduceToNat, F]
        | simp (disch := omega) only [decide_eq_true_eq, if_pos, if_neg, wrap_id, le_maxLen, and_true, true_and, if_true, ite_true]
        | refine wGdx (fun hb => ?_) fun hb => ?_
      refine retO_mk [] rfl [.box [.rf 1 s.heads.length, .rf 2 s.descs.length], .root 36 (rowsH s.heads), .root 40 (rowsD 70 s.descs)] rfl (by simp [keepsL, updH, HpE, rowsD_turn, hbk]) rfl (by simp only [go_sem, Nat.reduceLT, Nat.reduceLeDiff, Nat.reduceEqDiff, Nat.reduceAdd, Nat.reduceMul, Nat.reduceSub, reduceCtorEq, vres]; rfl) (acc := []) rfl (by simp) rfl
    · have stq : (d.status == 0) = false := by simpa using st
      simp only [if_neg st]
      have F := And.intro @vops_nilCheck (And.intro @vNil_bp (And.intro @rowsD_len (And.intro @rowsE_len (And.intro @rowsH_len (And.intro hk (And.intro hj (And.intro hk0 (And.intro hj0 (And.intro ho0 (And.intro hkl (And.intro hjl (And.intro hol (And.intro hrd (And.intro hre (And.intro hrh (And.intro hkr (And.intro hor (And.intro (fun a => List.getElem?_set_self (a := a) hkr) (And.intro @List.length_set.{0} (And.intro @Nat.le_refl (And.intro @Nat.le_add_right (And.intro p0 stq))))))))))))))))))))))
      repeat' first
        | refine wSq fun _ hK => ?_
        | refine wRg ?_
        | refine wDr ?_
        | refine VWP_block ?_
        | refine VWP_skip ?_
        | refine VWP_exit ?_
        | refine VWP_ret ?_
        | (refine hK _ ?_; clear hK)
        | (clear hK; refine hK _ ?_; clear hK)
        | (clear hK; clear hK; refine hK _ ?_; clear hK)
        | (clear hK; clear hK; clear hK; refine hK _ ?_; clear hK)
        | (simp only [wHb, reduceCtorEq] at hb <;> try (exfalso; omega))
        | (refine VWP_cond2 true ?_ ?_ (fun hh => nomatch hh); focus (simp only [go_sem, Nat.reduceLT, Nat.reduceLeDiff, Nat.reduceEqDiff, Nat.reduceAdd, Nat.reduceMul, Nat.reduceSub, reduceCtorEq, Int.reduceBEq, Int.reduceBNe, Int.reduceLT, Int.reduceLE, Int.reduceAdd, Int.reduceToNat, F]; done); intro _)
        | (refine VWP_cond2 false ?_ (fun hh => nomatch hh) ?_; focus (simp only [go_sem, Nat.reduceLT, Nat.reduceLeDiff, Nat.reduceEqDiff, Nat.reduceAdd, Nat.reduceMul, Nat.reduceSub, reduceCtorEq, Int.reduceBEq, Int.reduceBNe, Int.reduceLT, Int.reduceLE, Int.reduceAdd, Int.reduceToNat, F]; done); intro _)
        | refine wCdx (fun hb => ?_) fun hb => ?_
        | simp only [go_sem, Nat.reduceLT, Nat.reduceLeDiff, Nat.reduceEqDiff, Nat.reduceAdd, Nat.reduceMul, Nat.reduceSub, reduceCtorEq, Int.reduceBEq, Int.reduceBNe, Int.reduceLT, Int.reduceLE, Int.reduceAdd, Int.reduceToNat, F]
        | simp (disch := omega) only [decide_eq_true_eq, if_pos, if_neg, wrap_id, le_maxLen, and_true, true_and, if_true, ite_true]
        | refine wGdx (fun hb => ?_) fun hb => ?_
      refine retO_mk [] rfl [.box [.rf 1 s.heads.length, .rf 2 s.descs.length], .root 36 (rowsH s.heads), .root 40 (rowsD 70 s.descs)] rfl (by simp [keepsL, updH, HpE, rowsD_turn, hbk]) rfl (by simp only [go_sem, Nat.reduceLT, Nat.reduceLeDiff, Nat.reduceEqDiff, Nat.reduceAdd, Nat.reduceMul, Nat.reduceSub, reduceCtorEq, vres]; rfl) (acc := []) rfl (by simp) rfl
  by_cases p1 : f.phase = 1
  · have hl := lay_ok s f k d j e o h ha0 hv0 hv1 hs0 p1 r hr
    unfold FrameD.cells at hl
    rw [hk, hj, p1] at hl
    have F := And.intro @vops_nilCheck (And.intro @vNil_bp (And.intro @rowsD_len (And.intro @rowsE_len (And.intro @rowsH_len (And.intro hk (And.intro hj (And.intro hk0 (And.intro hj0 (And.intro ho0 (And.intro hkl (And.intro hjl (And.intro hol (And.intro hrd (And.intro hre (And.intro hrh (And.intro hkr (And.intro hor (And.intro (fun a => List.getElem?_set_self (a := a) hkr) (And.intro @List.length_set.{0} (And.intro @Nat.le_refl (And.intro @Nat.le_add_right (And.intro @rowsH_pur (And.intro @rowsD_pur p1)))))))))))))))))))))))
    repeat' first
      | refine wSq fun _ hK => ?_
      | refine wRg ?_
      | refine wDr ?_
      | refine VWP_block ?_
      | refine VWP_skip ?_
      | refine VWP_exit ?_
      | refine VWP_ret ?_
      | (refine hK _ ?_; clear hK)
      | (clear hK; refine hK _ ?_; clear hK)
      | (clear hK; clear hK; refine hK _ ?_; clear hK)
      | (clear hK; clear hK; clear hK; refine hK _ ?_; clear hK)
      | (simp only [wHb, reduceCtorEq] at hb <;> try (exfalso; omega))
      | (refine VWP_cond2 true ?_ ?_ (fun hh => nomatch hh); focus (simp only [go_sem, Nat.reduceLT, Nat.reduceLeDiff, Nat.reduceEqDiff, Nat.reduceAdd, Nat.reduceMul, Nat.reduceSub, reduceCtorEq, Int.reduceBEq, Int.reduceBNe, Int.reduceLT, Int.reduceLE, Int.reduceAdd, Int.reduceToNat, F]; done); intro _)
      | (refine VWP_cond2 false ?_ (fun hh => nomatch hh) ?_; focus (simp only [go_sem, Nat.reduceLT, Nat.reduceLeDiff, Nat.reduceEqDiff, Nat.reduceAdd, Nat.reduceMul, Nat.reduceSub, reduceCtorEq, Int.reduceBEq, Int.reduceBNe, Int.reduceLT, Int.reduceLE, Int.reduceAdd, Int.reduceToNat, F]; done); intro _)
      | refine wCdx (fun hb => ?_) fun hb => ?_
      | refine wOwx [0, 1, 2] (c := by exact hl) (k := ?_)
      | simp only [go_sem, Nat.reduceLT, Nat.reduceLeDiff, Nat.reduceEqDiff, Nat.reduceAdd, Nat.reduceMul, Nat.reduceSub, reduceCtorEq, Int.reduceBEq, Int.reduceBNe, Int.reduceLT, Int.reduceLE, Int.reduceAdd, Int.reduceToNat, F]
      | simp (disch := omega) only [decide_eq_true_eq, if_pos, if_neg, wrap_id, le_maxLen, and_true, true_and, if_true, ite_true]
      | refine wGdx (fun hb => ?_) fun hb => ?_
    refine retO_mk [] rfl [.box [.rf 1 s.heads.length, .rf 2 s.descs.length], .root 36 (rowsH r.1.heads), .root 40 (rowsD 70 r.1.descs)] rfl (by simp [keepsL, updH, HpE]) rfl (by simp only [go_sem, Nat.reduceLT, Nat.reduceLeDiff, Nat.reduceEqDiff, Nat.reduceAdd, Nat.reduceMul, Nat.reduceSub, reduceCtorEq, vres]; rfl) (acc := []) rfl (by simp) rfl
  by_cases p2 : f.phase = 2
  · by_cases st : d.status = 0
    · have hm : driveM s f k d e o h = (⟨s.heads, s.descs.set k ⟨d.owner, 1, d.entries⟩⟩, ⟨f.desc, 4, 0⟩, -1) := by rw [driveM, if_neg p0, if_neg p1, if_pos (.inl p2), if_pos st, if_pos p2]
      rw [hm] at hr
      subst hr
      have stq : (d.status == 0) = true := by simp [st]
      have F := And.intro @vops_nilCheck (And.intro @vNil_bp (And.intro @rowsD_len (And.intro @rowsE_len (And.intro @rowsH_len (And.intro hk (And.intro hj (And.intro hk0 (And.intro hj0 (And.intro ho0 (And.intro hkl (And.intro hjl (And.intro hol (And.intro hrd (And.intro hre (And.intro hrh (And.intro hkr (And.intro hor (And.intro (fun a => List.getElem?_set_self (a := a) hkr) (And.intro @List.length_set.{0} (And.intro @Nat.le_refl (And.intro @Nat.le_add_right (And.intro p2 (And.intro stq (And.intro @List.set_set.{0} (And.intro @List.set_cons_succ.{0} @List.set_cons_zero.{0})))))))))))))))))))))))))
      repeat' first
        | refine wSq fun _ hK => ?_
        | refine wRg ?_
        | refine wDr ?_
        | refine VWP_block ?_
        | refine VWP_skip ?_
        | refine VWP_exit ?_
        | refine VWP_ret ?_
        | (refine hK _ ?_; clear hK)
        | (clear hK; refine hK _ ?_; clear hK)
        | (clear hK; clear hK; refine hK _ ?_; clear hK)
        | (clear hK; clear hK; clear hK; refine hK _ ?_; clear hK)
        | (simp only [wHb, reduceCtorEq] at hb <;> try (exfalso; omega))
        | (refine VWP_cond2 true ?_ ?_ (fun hh => nomatch hh); focus (simp only [go_sem, Nat.reduceLT, Nat.reduceLeDiff, Nat.reduceEqDiff, Nat.reduceAdd, Nat.reduceMul, Nat.reduceSub, reduceCtorEq, Int.reduceBEq, Int.reduceBNe, Int.reduceLT, Int.reduceLE, Int.reduceAdd, Int.reduceToNat, F]; done); intro _)
        | (refine VWP_cond2 false ?_ (fun hh => nomatch hh) ?_; focus (simp only [go_sem, Nat.reduceLT, Nat.reduceLeDiff, Nat.reduceEqDiff, Nat.reduceAdd, Nat.reduceMul, Nat.reduceSub, reduceCtorEq, Int.reduceBEq, Int.reduceBNe, Int.reduceLT, Int.reduceLE, Int.reduceAdd, Int.reduceToNat, F]; done); intro _)
        | refine wCdx (fun hb => ?_) fun hb => ?_
        | simp only [go_sem, Nat.reduceLT, Nat.reduceLeDiff, Nat.reduceEqDiff, Nat.reduceAdd, Nat.reduceMul, Nat.reduceSub, reduceCtorEq, Int.reduceBEq, Int.reduceBNe, Int.reduceLT, Int.reduceLE, Int.reduceAdd, Int.reduceToNat, F]
        | simp (disch := omega) only [decide_eq_true_eq, if_pos, if_neg, wrap_id, le_maxLen, and_true, true_and, if_true, ite_true]
        | refine wGdx (fun hb => ?_) fun hb => ?_
      refine retO_mk [] rfl [.box [.rf 1 s.heads.length, .rf 2 s.descs.length], .root 36 (rowsH s.heads), .root 40 (rowsD 70 (s.descs.set k ⟨d.owner, 1, d.entries⟩))] rfl (by simp [keepsL, updH, HpE, rowsD_turn, hbk]) rfl (by simp only [go_sem, Nat.reduceLT, Nat.reduceLeDiff, Nat.reduceEqDiff, Nat.reduceAdd, Nat.reduceMul, Nat.reduceSub, reduceCtorEq, vres]; rfl) (acc := []) rfl (by simp) rfl
    · have hm : driveM s f k d e o h = (s, ⟨f.desc, 4, 0⟩, -1) := by rw [driveM, if_neg p0, if_neg p1, if_pos (.inl p2), if_neg st]
      rw [hm] at hr
      subst hr
      have stq : (d.status == 0) = false := by simpa using st
      have F := And.intro @vops_nilCheck (And.intro @vNil_bp (And.intro @rowsD_len (And.intro @rowsE_len (And.intro @rowsH_len (And.intro hk (And.intro hj (And.intro hk0 (And.intro hj0 (And.intro ho0 (And.intro hkl (And.intro hjl (And.intro hol (And.intro hrd (And.intro hre (And.intro hrh (And.intro hkr (And.intro hor (And.intro (fun a => List.getElem?_set_self (a := a) hkr) (And.intro @List.length_set.{0} (And.intro @Nat.le_refl (And.intro @Nat.le_add_right (And.intro p2 stq))))))))))))))))))))))
      repeat' first
        | refine wSq fun _ hK => ?_
        | refine wRg ?_
        | refine wDr ?_
        | refine VWP_block ?_
        | refine VWP_skip ?_
        | refine VWP_exit ?_
        | refine VWP_ret ?_
        | (refine hK _ ?_; clear hK)
        | (clear hK; refine hK _ ?_; clear hK)
        | (clear hK; clear hK; refine hK _ ?_; clear hK)
        | (clear hK; clear hK; clear hK; refine hK _ ?_; clear hK)
        | (simp only [wHb, reduceCtorEq] at hb <;> try (exfalso; omega))
        | (refine VWP_cond2 true ?_ ?_ (fun hh => nomatch hh); focus (simp only [go_sem, Nat.reduceLT, Nat.reduceLeDiff, Nat.reduceEqDiff, Nat.reduceAdd, Nat.reduceMul, Nat.reduceSub, reduceCtorEq, Int.reduceBEq, Int.reduceBNe, Int.reduceLT, Int.reduceLE, Int.reduceAdd, Int.reduceToNat, F]; done); intro _)
        | (refine VWP_cond2 false ?_ (fun hh => nomatch hh) ?_; focus (simp only [go_sem, Nat.reduceLT, Nat.reduceLeDiff, Nat.reduceEqDiff, Nat.reduceAdd, Nat.reduceMul, Nat.reduceSub, reduceCtorEq, Int.reduceBEq, Int.reduceBNe, Int.reduceLT, Int.reduceLE, Int.reduceAdd, Int.reduceToNat, F]; done); intro _)
        | refine wCdx (fun hb => ?_) fun hb => ?_
        | simp only [go_sem, Nat.reduceLT, Nat.reduceLeDiff, Nat.reduceEqDiff, Nat.reduceAdd, Nat.reduceMul, Nat.reduceSub, reduceCtorEq, Int.reduceBEq, Int.reduceBNe, Int.reduceLT, Int.reduceLE, Int.reduceAdd, Int.reduceToNat, F]
        | simp (disch := omega) only [decide_eq_true_eq, if_pos, if_neg, wrap_id, le_maxLen, and_true, true_and, if_true, ite_true]
        | refine wGdx (fun hb => ?_) fun hb => ?_
      refine retO_mk [] rfl [.box [.rf 1 s.heads.length, .rf 2 s.descs.length], .root 36 (rowsH s.heads), .root 40 (rowsD 70 s.descs)] rfl (by simp [keepsL, updH, HpE, rowsD_turn, hbk]) rfl (by simp only [go_sem, Nat.reduceLT, Nat.reduceLeDiff, Nat.reduceEqDiff, Nat.reduceAdd, Nat.reduceMul, Nat.reduceSub, reduceCtorEq, vres]; rfl) (acc := []) rfl (by simp) rfl
  by_cases p3 : f.phase = 3
  · by_cases st : d.status = 0
    · have hm : driveM s f k d e o h = (⟨s.heads, s.descs.set k ⟨d.owner, 2, d.entries⟩⟩, ⟨f.desc, 4, 0⟩, -1) := by rw [driveM, if_neg p0, if_neg p1, if_pos (.inr p3), if_pos st, if_neg p2]
      rw [hm] at hr
      subst hr
      have stq : (d.status == 0) = true := by simp [st]
      have F := And.intro @vops_nilCheck (And.intro @vNil_bp (And.intro @rowsD_len (And.intro @rowsE_len (And.intro @rowsH_len (And.intro hk (And.intro hj (And.intro hk0 (And.intro hj0 (And.intro ho0 (And.intro hkl (And.intro hjl (And.intro hol (And.intro hrd (And.intro hre (And.intro hrh (And.intro hkr (And.intro hor (And.intro (fun a => List.getElem?_set_self (a := a) hkr) (And.intro @List.length_set.{0} (And.intro @Nat.le_refl (And.intro @Nat.le_add_right (And.intro p3 (And.intro stq (And.intro @List.set_set.{0} (And.intro @List.set_cons_succ.{0} @List.set_cons_zero.{0})))))))))))))))))))))))))
      repeat' first
        | refine wSq fun _ hK => ?_
        | refine wRg ?_
        | refine wDr ?_
        | refine VWP_block ?_
        | refine VWP_skip ?_
        | refine VWP_exit ?_
        | refine VWP_ret ?_
        | (refine hK _ ?_; clear hK)
        | (clear hK; refine hK _ ?_; clear hK)
        | (clear hK; clear hK; refine hK _ ?_; clear hK)
        | (clear hK; clear hK; clear hK; refine hK _ ?_; clear hK)
        | (simp only [wHb, reduceCtorEq] at hb <;> try (exfalso; omega))
        | (refine VWP_cond2 true ?_ ?_ (fun hh => nomatch hh); focus (simp only [go_sem, Nat.reduceLT, Nat.reduceLeDiff, Nat.reduceEqDiff, Nat.reduceAdd, Nat.reduceMul, Nat.reduceSub, reduceCtorEq, Int.reduceBEq, Int.reduceBNe, Int.reduceLT, Int.reduceLE, Int.reduceAdd, Int.reduceToNat, F]; done); intro _)
        | (refine VWP_cond2 false ?_ (fun hh => nomatch hh) ?_; focus (simp only [go_sem, Nat.reduceLT, Nat.reduceLeDiff, Nat.reduceEqDiff, Nat.reduceAdd, Nat.reduceMul, Nat.reduceSub, reduceCtorEq, Int.reduceBEq, Int.reduceBNe, Int.reduceLT, Int.reduceLE, Int.reduceAdd, Int.reduceToNat, F]; done); intro _)
        | refine wCdx (fun hb => ?_) fun hb => ?_
        | simp only [go_sem, Nat.reduceLT, Nat.reduceLeDiff, Nat.reduceEqDiff, Nat.reduceAdd, Nat.reduceMul, Nat.reduceSub, reduceCtorEq, Int.reduceBEq, Int.reduceBNe, Int.reduceLT, Int.reduceLE, Int.reduceAdd, Int.reduceToNat, F]
        | simp (disch := omega) only [decide_eq_true_eq, if_pos, if_neg, wrap_id, le_maxLen, and_true, true_and, if_true, ite_true]
        | refine wGdx (fun hb => ?_) fun hb => ?_
      refine retO_mk [] rfl [.box [.rf 1 s.heads.length, .rf 2 s.descs.length], .root 36 (rowsH s.heads), .root 40 (rowsD 70 (s.descs.set k ⟨d.owner, 2, d.entries⟩))] rfl (by simp [keepsL, updH, HpE, rowsD_turn, hbk]) rfl (by simp only [go_sem, Nat.reduceLT, Nat.reduceLeDiff, Nat.reduceEqDiff, Nat.reduceAdd, Nat.reduceMul, Nat.reduceSub, reduceCtorEq, vres]; rfl) (acc := []) rfl (by simp) rfl
    · have hm : driveM s f k d e o h = (s, ⟨f.desc, 4, 0⟩, -1) := by rw [driveM, if_neg p0, if_neg p1, if_pos (.inr p3), if_neg st]
      rw [hm] at hr
      subst hr
      have stq : (d.status == 0) = false := by simpa using st
      have F := And.intro @vops_nilCheck (And.intro @vNil_bp (And.intro @rowsD_len (And.intro @rowsE_len (And.intro @rowsH_len (And.intro hk (And.intro hj (And.intro hk0 (And.intro hj0 (And.intro ho0 (And.intro hkl (And.intro hjl (And.intro hol (And.intro hrd (And.intro hre (And.intro hrh (And.intro hkr (And.intro hor (And.intro (fun a => List.getElem?_set_self (a := a) hkr) (And.intro @List.length_set.{0} (And.intro @Nat.le_refl (And.intro @Nat.le_add_right (And.intro p3 stq))))))))))))))))))))))
      repeat' first
        | refine wSq fun _ hK => ?_
        | refine wRg ?_
        | refine wDr ?_
        | refine VWP_block ?_
        | refine VWP_skip ?_
        | refine VWP_exit ?_
        | refine VWP_ret ?_
        | (refine hK _ ?_; clear hK)
        | (clear hK; refine hK _ ?_; clear hK)
        | (clear hK; clear hK; refine hK _ ?_; clear hK)
        | (clear hK; clear hK; clear hK; refine hK _ ?_; clear hK)
        | (simp only [wHb, reduceCtorEq] at hb <;> try (exfalso; omega))
        | (refine VWP_cond2 true ?_ ?_ (fun hh => nomatch hh); focus (simp only [go_sem, Nat.reduceLT, Nat.reduceLeDiff, Nat.reduceEqDiff, Nat.reduceAdd, Nat.reduceMul, Nat.reduceSub, reduceCtorEq, Int.reduceBEq, Int.reduceBNe, Int.reduceLT, Int.reduceLE, Int.reduceAdd, Int.reduceToNat, F]; done); intro _)
        | (refine VWP_cond2 false ?_ (fun hh => nomatch hh) ?_; focus (simp only [go_sem, Nat.reduceLT, Nat.reduceLeDiff, Nat.reduceEqDiff, Nat.reduceAdd, Nat.reduceMul, Nat.reduceSub, reduceCtorEq, Int.reduceBEq, Int.reduceBNe, Int.reduceLT, Int.reduceLE, Int.reduceAdd, Int.reduceToNat, F]; done); intro _)
        | refine wCdx (fun hb => ?_) fun hb => ?_
        | simp only [go_sem, Nat.reduceLT, Nat.reduceLeDiff, Nat.reduceEqDiff, Nat.reduceAdd, Nat.reduceMul, Nat.reduceSub, reduceCtorEq, Int.reduceBEq, Int.reduceBNe, Int.reduceLT, Int.reduceLE, Int.reduceAdd, Int.reduceToNat, F]
        | simp (disch := omega) only [decide_eq_true_eq, if_pos, if_neg, wrap_id, le_maxLen, and_true, true_and, if_true, ite_true]
        | refine wGdx (fun hb => ?_) fun hb => ?_
      refine retO_mk [] rfl [.box [.rf 1 s.heads.length, .rf 2 s.descs.length], .root 36 (rowsH s.heads), .root 40 (rowsD 70 s.descs)] rfl (by simp [keepsL, updH, HpE, rowsD_turn, hbk]) rfl (by simp only [go_sem, Nat.reduceLT, Nat.reduceLeDiff, Nat.reduceEqDiff, Nat.reduceAdd, Nat.reduceMul, Nat.reduceSub, reduceCtorEq, vres]; rfl) (acc := []) rfl (by simp) rfl
  by_cases p4 : f.phase = 4
  · have hl := free_ok s f k d j e o h ha0 hv0 hv1 hs0 p4 r hr
    have hr2 : r.2.2 = -1 := by rw [← hr, driveM, if_neg p0, if_neg p1, if_neg (by omega), if_pos p4]
    unfold FrameD.cells at hl
    rw [hk, hj, p4] at hl
    have F := And.intro @vops_nilCheck (And.intro @vNil_bp (And.intro @rowsD_len (And.intro @rowsE_len (And.intro @rowsH_len (And.intro hk (And.intro hj (And.intro hk0 (And.intro hj0 (And.intro ho0 (And.intro hkl (And.intro hjl (And.intro hol (And.intro hrd (And.intro hre (And.intro hrh (And.intro hkr (And.intro hor (And.intro (fun a => List.getElem?_set_self (a := a) hkr) (And.intro @List.length_set.{0} (And.intro @Nat.le_refl (And.intro @Nat.le_add_right (And.intro @rowsH_pur (And.intro @rowsD_pur p4)))))))))))))))))))))))
    repeat' first
      | refine wSq fun _ hK => ?_
      | refine wRg ?_
      | refine wDr ?_
      | refine VWP_block ?_
      | refine VWP_skip ?_
      | refine VWP_exit ?_
      | refine VWP_ret ?_
      | (refine hK _ ?_; clear hK)
      | (clear hK; refine hK _ ?_; clear hK)
      | (clear hK; clear hK; refine hK _ ?_; clear hK)
      | (clear hK; clear hK; clear hK; refine hK _ ?_; clear hK)
      | (simp only [wHb, reduceCtorEq] at hb <;> try (exfalso; omega))
      | (refine VWP_cond2 true ?_ ?_ (fun hh => nomatch hh); focus (simp only [go_sem, Nat.reduceLT, Nat.reduceLeDiff, Nat.reduceEqDiff, Nat.reduceAdd, Nat.reduceMul, Nat.reduceSub, reduceCtorEq, Int.reduceBEq, Int.reduceBNe, Int.reduceLT, Int.reduceLE, Int.reduceAdd, Int.reduceToNat, F]; done); intro _)
      | (refine VWP_cond2 false ?_ (fun hh => nomatch hh) ?_; focus (simp only [go_sem, Nat.reduceLT, Nat.reduceLeDiff, Nat.reduceEqDiff, Nat.reduceAdd, Nat.reduceMul, Nat.reduceSub, reduceCtorEq, Int.reduceBEq, Int.reduceBNe, Int.reduceLT, Int.reduceLE, Int.reduceAdd, Int.reduceToNat, F]; done); intro _)
      | refine wCdx (fun hb => ?_) fun hb => ?_
      | refine wOwx [0, 1, 2] (c := by exact hl) (k := ?_)
      | simp only [go_sem, Nat.reduceLT, Nat.reduceLeDiff, Nat.reduceEqDiff, Nat.reduceAdd, Nat.reduceMul, Nat.reduceSub, reduceCtorEq, Int.reduceBEq, Int.reduceBNe, Int.reduceLT, Int.reduceLE, Int.reduceAdd, Int.reduceToNat, F]
      | simp (disch := omega) only [decide_eq_true_eq, if_pos, if_neg, wrap_id, le_maxLen, and_true, true_and, if_true, ite_true]
      | refine wGdx (fun hb => ?_) fun hb => ?_
    rw [hr2]
    refine retO_mk [] rfl [.box [.rf 1 s.heads.length, .rf 2 s.descs.length], .root 36 (rowsH r.1.heads), .root 40 (rowsD 70 r.1.descs)] rfl (by simp [keepsL, updH, HpE]) rfl (by simp only [go_sem, Nat.reduceLT, Nat.reduceLeDiff, Nat.reduceEqDiff, Nat.reduceAdd, Nat.reduceMul, Nat.reduceSub, reduceCtorEq, vres]; rfl) (acc := []) rfl (by simp) rfl
  have p0q : (f.phase == 0) = false := by simpa using p0
  have p1q : (f.phase == 1) = false := by simpa using p1
  have p2q : (f.phase == 2) = false := by simpa using p2
  have p3q : (f.phase == 3) = false := by simpa using p3
  have p4q : (f.phase == 4) = false := by simpa using p4
  have hm : driveM s f k d e o h = (s, f, -1) := by rw [driveM, if_neg p0, if_neg p1, if_neg (by omega), if_neg p4]
  rw [hm] at hr
  subst hr
  have F := And.intro @vops_nilCheck (And.intro @vNil_bp (And.intro @rowsD_len (And.intro @rowsE_len (And.intro @rowsH_len (And.intro hk (And.intro hj (And.intro hk0 (And.intro hj0 (And.intro ho0 (And.intro hkl (And.intro hjl (And.intro hol (And.intro hrd (And.intro hre (And.intro hrh (And.intro hkr (And.intro hor (And.intro (fun a => List.getElem?_set_self (a := a) hkr) (And.intro @List.length_set.{0} (And.intro @Nat.le_refl (And.intro @Nat.le_add_right (And.intro p0q (And.intro p1q (And.intro p2q (And.intro p3q p4q)))))))))))))))))))))))))
  repeat' first
    | refine wSq fun _ hK => ?_
    | refine wRg ?_
    | refine wDr ?_
    | refine VWP_block ?_
    | refine VWP_skip ?_
    | refine VWP_exit ?_
    | refine VWP_ret ?_
    | (refine hK _ ?_; clear hK)
    | (clear hK; refine hK _ ?_; clear hK)
    | (clear hK; clear hK; refine hK _ ?_; clear hK)
    | (clear hK; clear hK; clear hK; refine hK _ ?_; clear hK)
    | (simp only [wHb, reduceCtorEq] at hb <;> try (exfalso; omega))
    | (refine VWP_cond2 true ?_ ?_ (fun hh => nomatch hh); focus (simp only [go_sem, Nat.reduceLT, Nat.reduceLeDiff, Nat.reduceEqDiff, Nat.reduceAdd, Nat.reduceMul, Nat.reduceSub, reduceCtorEq, Int.reduceBEq, Int.reduceBNe, Int.reduceLT, Int.reduceLE, Int.reduceAdd, Int.reduceToNat, F]; done); intro _)
    | (refine VWP_cond2 false ?_ (fun hh => nomatch hh) ?_; focus (simp only [go_sem, Nat.reduceLT, Nat.reduceLeDiff, Nat.reduceEqDiff, Nat.reduceAdd, Nat.reduceMul, Nat.reduceSub, reduceCtorEq, Int.reduceBEq, Int.reduceBNe, Int.reduceLT, Int.reduceLE, Int.reduceAdd, Int.reduceToNat, F]; done); intro _)
    | refine wCdx (fun hb => ?_) fun hb => ?_
    | simp only [go_sem, Nat.reduceLT, Nat.reduceLeDiff, Nat.reduceEqDiff, Nat.reduceAdd, Nat.reduceMul, Nat.reduceSub, reduceCtorEq, Int.reduceBEq, Int.reduceBNe, Int.reduceLT, Int.reduceLE, Int.reduceAdd, Int.reduceToNat, F]
    | simp (disch := omega) only [decide_eq_true_eq, if_pos, if_neg, wrap_id, le_maxLen, and_true, true_and, if_true, ite_true]
    | refine wGdx (fun hb => ?_) fun hb => ?_
  refine retO_mk [] rfl [.box [.rf 1 s.heads.length, .rf 2 s.descs.length], .root 36 (rowsH s.heads), .root 40 (rowsD 70 s.descs)] rfl (by simp [keepsL, updH, HpE, rowsD_turn, hbk]) rfl (by simp only [go_sem, Nat.reduceLT, Nat.reduceLeDiff, Nat.reduceEqDiff, Nat.reduceAdd, Nat.reduceMul, Nat.reduceSub, reduceCtorEq, vres]; rfl) (acc := []) rfl (by simp) rfl
end Go.Proofs.Ytchkbgekmoileaa
