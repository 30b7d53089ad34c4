/- One step of a descriptor: the program's, in a store by pointer. -/
import Derived.Test.YtchkbgekmoileaaLG
import Derived.Test.YtchkbgekmoileaaEf
namespace Go.Proofs.Ytchkbgekmoileaa
open Go Go.RowKit
set_option linter.unusedVariables false
set_option linter.unusedSimpArgs false
set_option maxRecDepth 100000
set_option maxHeartbeats 4000000
attribute [local irreducible] VWP vops vdraw contV contD CallK Guard GuardV NextL Puts Runs RetOK RetQ RetO RetQO thenQ blockQ

theorem lay_ok (s : StoreD) (f : FrameD) (k : Nat) (d : DescS) (j : Nat) (e : EntS) (o : Nat) (h : HeadD) (ha : AtP s f k d j e o h) (hv0 : 0 ≤ h.version) (hv1 : h.version ≤ 1000000) (hs : s.small) (hph : f.phase = 1) (r : StoreD × FrameD × Int) (hr : driveM s f k d e o h = r) :
    SatO Try.prog 100 [.bp 0 0, .agg f.cells] [.box [.rf 1 s.heads.length, .rf 2 s.descs.length], .root 36 (rowsH s.heads), .root 40 (rowsD 70 s.descs)]
      (.tup [.agg r.2.1.cells, .int .i64 r.2.2]) [.box [.rf 1 s.heads.length, .rf 2 s.descs.length], .root 36 (rowsH r.1.heads), .root 40 (rowsD 70 r.1.descs)] := by
  obtain ⟨hk, hd, hj, he, heo, hho⟩ := ha
  obtain ⟨f1, f2, f3⟩ := hs
  have hkl := (List.getElem?_eq_some_iff.1 hd).1
  have hjl := (List.getElem?_eq_some_iff.1 he).1
  have hol := (List.getElem?_eq_some_iff.1 hho).1
  have hde := f3 d (List.mem_of_getElem? hd)
  have hk0 : (0 : Int) ≤ (k : Nat) := by omega
  have hj0 : (0 : Int) ≤ (j : Nat) := by omega
  have ho0 : (0 : Int) ≤ (o : Nat) := by omega
  have hrd := rowsD_at (te := 70) hd
  have hre := rowsE_at he
  have hrh := rowsH_at hho
  have hkr : k < (rowsD 70 s.descs).length := by rw [rowsD_len]; exact hkl
  have hor : o < (rowsH s.heads).length := by rw [rowsH_len]; exact hol
  have hbk := rowsD_back (te := 70) hd
  rw [heo] at hre
  have p0 : ¬ f.phase = 0 := by omega
  refine satO_of_body hT Try.func100 (by kernel_rfl) rfl (rs := [.cell 4 50, .tmp 5]) rfl (n := 75) rfl (by simp) rfl (m := 3) rfl ⟨⟨rfl, rfl⟩, ⟨rfl, rowsH_pur _⟩, ⟨rfl, rowsD_pur _ _⟩, by simp [keptL]⟩ fun E hE => ?_
  unfold St.initO
  unfold FrameD.cells
  by_cases c1 : h.desc = f.desc
  · have hm : driveM s f k d e o h = (s, onwardM d.entries.length f 2, -1) := by rw [driveM, if_neg p0, if_pos hph, if_pos c1]
    rw [hm] at hr
    subst hr
    have c1q : (h.desc == (k : Int)) = true := by simp [c1, hk]
    have hnx := onward_ok s f 2 k d hk hd (by omega) (by omega) ⟨f1, f2, f3⟩
    unfold StoreD.cells FrameD.cells at hnx
    rw [hk, hj, hph] at hnx
    have F := And.intro @vops_nilCheck (And.intro @vNil_bp (And.intro @rowsD_len (And.intro @rowsE_len (And.intro @rowsH_len (And.intro hk (And.intro hj (And.intro hk0 (And.intro hj0 (And.intro ho0 (And.intro hkl (And.intro hjl (And.intro hol (And.intro hrd (And.intro hre (And.intro hrh (And.intro hkr (And.intro hor (And.intro (fun a => List.getElem?_set_self (a := a) hkr) (And.intro @List.length_set.{0} (And.intro @Nat.le_refl (And.intro @Nat.le_add_right (And.intro hph (And.intro c1q (And.intro hbk (And.intro @rowsE_take (And.intro @rowsH_pur (And.intro @rowsH_take (And.intro @rowsD_pur (And.intro @rowsD_take @List.set_set.{0})))))))))))))))))))))))))))))
    repeat' first
      | refine wSq fun _ hK => ?_
      | (refine VWP_split_at (id := 1) [(2, k, 2)] (by simp only [go_sem, Nat.reduceLT, Nat.reduceLeDiff, Nat.reduceEqDiff, Nat.reduceAdd, Nat.reduceMul, Nat.reduceSub, reduceCtorEq, Int.reduceBEq, Int.reduceBNe, Int.reduceLT, Int.reduceLE, Int.reduceAdd, Int.reduceToNat, F, splits, splitH, merges, mergeH, List.set_set, List.set_cons_succ, List.set_cons_zero, List.getElem?_set_self, List.getElem?_cons_succ, List.getElem?_cons_zero, Nat.le_refl]; rfl) ?_)
      | (refine VWP_merge_at (id := 4) [(2, k, 2)] (by simp only [go_sem, Nat.reduceLT, Nat.reduceLeDiff, Nat.reduceEqDiff, Nat.reduceAdd, Nat.reduceMul, Nat.reduceSub, reduceCtorEq, Int.reduceBEq, Int.reduceBNe, Int.reduceLT, Int.reduceLE, Int.reduceAdd, Int.reduceToNat, F, splits, splitH, merges, mergeH, List.set_set, List.set_cons_succ, List.set_cons_zero, List.getElem?_set_self, List.getElem?_cons_succ, List.getElem?_cons_zero, Nat.le_refl]; rfl) ?_)
      | refine wRg ?_
      | refine wDr ?_
      | refine VWP_block ?_
      | refine VWP_skip ?_
      | refine VWP_exit ?_
      | refine VWP_ret ?_
      | (refine hK _ ?_; clear hK)
      | (clear hK; refine hK _ ?_; clear hK)
      | (clear hK; clear hK; refine hK _ ?_; clear hK)
      | (clear hK; clear hK; clear hK; refine hK _ ?_; clear hK)
      | (simp only [wHb, reduceCtorEq] at hb <;> try (exfalso; omega))
      | (refine VWP_cond2 true ?_ ?_ (fun hh => nomatch hh); focus (simp only [go_sem, Nat.reduceLT, Nat.reduceLeDiff, Nat.reduceEqDiff, Nat.reduceAdd, Nat.reduceMul, Nat.reduceSub, reduceCtorEq, Int.reduceBEq, Int.reduceBNe, Int.reduceLT, Int.reduceLE, Int.reduceAdd, Int.reduceToNat, F]; done); intro _)
      | (refine VWP_cond2 false ?_ (fun hh => nomatch hh) ?_; focus (simp only [go_sem, Nat.reduceLT, Nat.reduceLeDiff, Nat.reduceEqDiff, Nat.reduceAdd, Nat.reduceMul, Nat.reduceSub, reduceCtorEq, Int.reduceBEq, Int.reduceBNe, Int.reduceLT, Int.reduceLE, Int.reduceAdd, Int.reduceToNat, F]; done); intro _)
      | refine wCdx (fun hb => ?_) fun hb => ?_
      | refine wCax (c := by first | exact hnx) (k := ?_)
      | simp only [go_sem, Nat.reduceLT, Nat.reduceLeDiff, Nat.reduceEqDiff, Nat.reduceAdd, Nat.reduceMul, Nat.reduceSub, reduceCtorEq, Int.reduceBEq, Int.reduceBNe, Int.reduceLT, Int.reduceLE, Int.reduceAdd, Int.reduceToNat, F]
      | simp (disch := omega) only [decide_eq_true_eq, if_pos, if_neg, wrap_id, le_maxLen, and_true, true_and, if_true, ite_true]
      | refine wGdx (fun hb => ?_) fun hb => ?_
    refine retO_mk [] rfl [.box [.rf 1 s.heads.length, .rf 2 s.descs.length], .root 36 (rowsH s.heads), .root 40 (rowsD 70 s.descs)] rfl (by simp [keepsL, updH, HpE, rowsD_turn, hbk]) rfl (by simp only [go_sem, Nat.reduceLT, Nat.reduceLeDiff, Nat.reduceEqDiff, Nat.reduceAdd, Nat.reduceMul, Nat.reduceSub, reduceCtorEq, vres]; rfl) (acc := []) rfl (by simp) rfl
  have c1q : (h.desc == (k : Int)) = false := by rw [beq_eq_false_iff_ne, ← hk]; exact c1
  by_cases c2 : 0 ≤ h.desc
  · have hm : driveM s f k d e o h = (s, ⟨f.desc, 0, 0⟩, h.desc) := by rw [driveM, if_neg p0, if_pos hph, if_neg c1, if_pos c2]
    rw [hm] at hr
    subst hr
    have c2q : decide (0 ≤ h.desc) = true := decide_eq_true c2
    have F := And.intro @vops_nilCheck (And.intro @vNil_bp (And.intro @rowsD_len (And.intro @rowsE_len (And.intro @rowsH_len (And.intro hk (And.intro hj (And.intro hk0 (And.intro hj0 (And.intro ho0 (And.intro hkl (And.intro hjl (And.intro hol (And.intro hrd (And.intro hre (And.intro hrh (And.intro hkr (And.intro hor (And.intro (fun a => List.getElem?_set_self (a := a) hkr) (And.intro @List.length_set.{0} (And.intro @Nat.le_refl (And.intro @Nat.le_add_right (And.intro hph (And.intro c1q (And.intro c2q (And.intro @vtree_done (And.intro @vtree_step (And.intro @vtreeO_some (And.intro @vtree_both @contT_at))))))))))))))))))))))))))))
    repeat' first
      | refine wSq fun _ hK => ?_
      | (refine VWP_split_at (id := 1) [(2, k, 2)] (by simp only [go_sem, Nat.reduceLT, Nat.reduceLeDiff, Nat.reduceEqDiff, Nat.reduceAdd, Nat.reduceMul, Nat.reduceSub, reduceCtorEq, Int.reduceBEq, Int.reduceBNe, Int.reduceLT, Int.reduceLE, Int.reduceAdd, Int.reduceToNat, F, splits, splitH, merges, mergeH, List.set_set, List.set_cons_succ, List.set_cons_zero, List.getElem?_set_self, List.getElem?_cons_succ, List.getElem?_cons_zero, Nat.le_refl]; rfl) ?_)
      | refine wRg ?_
      | refine VWP_orders hT hM (id := 6) (.both (.step 0 (.both (.step 1 (.both (.step 2 (.both (.step 3 (.both (.step 4 (.both (.step 5 (.both (.step 6 (.step 7 (.step 8 .done))) (.step 7 (.step 6 (.step 8 .done))))) (.step 7 (.step 5 (.step 6 (.step 8 .done)))))) (.step 7 (.step 4 (.step 5 (.step 6 (.step 8 .done))))))) (.step 7 (.step 3 (.step 4 (.step 5 (.step 6 (.step 8 .done)))))))) (.step 3 (.both (.step 2 (.both (.step 4 (.both (.step 5 (.both (.step 6 (.step 7 (.step 8 .done))) (.step 7 (.step 6 (.step 8 .done))))) (.step 7 (.step 5 (.step 6 (.step 8 .done)))))) (.step 7 (.step 4 (.step 5 (.step 6 (.step 8 .done))))))) (.step 4 (.both (.step 2 (.both (.step 5 (.both (.step 6 (.step 7 (.step 8 .done))) (.step 7 (.step 6 (.step 8 .done))))) (.step 7 (.step 5 (.step 6 (.step 8 .done)))))) (.step 5 (.both (.step 2 (.both (.step 6 (.step 7 (.step 8 .done))) (.step 7 (.step 6 (.step 8 .done))))) (.step 6 (.step 2 (.step 7 (.step 8 .done)))))))))))) (.step 3 (.both (.step 1 (.both (.step 2 (.both (.step 4 (.both (.step 5 (.both (.step 6 (.step 7 (.step 8 .done))) (.step 7 (.step 6 (.step 8 .done))))) (.step 7 (.step 5 (.step 6 (.step 8 .done)))))) (.step 7 (.step 4 (.step 5 (.step 6 (.step 8 .done))))))) (.step 4 (.both (.step 2 (.both (.step 5 (.both (.step 6 (.step 7 (.step 8 .done))) (.step 7 (.step 6 (.step 8 .done))))) (.step 7 (.step 5 (.step 6 (.step 8 .done)))))) (.step 5 (.both (.step 2 (.both (.step 6 (.step 7 (.step 8 .done))) (.step 7 (.step 6 (.step 8 .done))))) (.step 6 (.step 2 (.step 7 (.step 8 .done)))))))))) (.step 4 (.both (.step 1 (.both (.step 2 (.both (.step 5 (.both (.step 6 (.step 7 (.step 8 .done))) (.step 7 (.step 6 (.step 8 .done))))) (.step 7 (.step 5 (.step 6 (.step 8 .done)))))) (.step 5 (.both (.step 2 (.both (.step 6 (.step 7 (.step 8 .done))) (.step 7 (.step 6 (.step 8 .done))))) (.step 6 (.step 2 (.step 7 (.step 8 .done)))))))) (.step 5 (.both (.step 1 (.both (.step 2 (.both (.step 6 (.step 7 (.step 8 .done))) (.step 7 (.step 6 (.step 8 .done))))) (.step 6 (.step 2 (.step 7 (.step 8 .done)))))) (.step 6 (.step 1 (.step 2 (.step 7 (.step 8 .done))))))))))))) (.step 3 (.both (.step 0 (.both (.step 1 (.both (.step 2 (.both (.step 4 (.both (.step 5 (.both (.step 6 (.step 7 (.step 8 .done))) (.step 7 (.step 6 (.step 8 .done))))) (.step 7 (.step 5 (.step 6 (.step 8 .done)))))) (.step 7 (.step 4 (.step 5 (.step 6 (.step 8 .done))))))) (.step 4 (.both (.step 2 (.both (.step 5 (.both (.step 6 (.step 7 (.step 8 .done))) (.step 7 (.step 6 (.step 8 .done))))) (.step 7 (.step 5 (.step 6 (.step 8 .done)))))) (.step 5 (.both (.step 2 (.both (.step 6 (.step 7 (.step 8 .done))) (.step 7 (.step 6 (.step 8 .done))))) (.step 6 (.step 2 (.step 7 (.step 8 .done)))))))))) (.step 4 (.both (.step 1 (.both (.step 2 (.both (.step 5 (.both (.step 6 (.step 7 (.step 8 .done))) (.step 7 (.step 6 (.step 8 .done))))) (.step 7 (.step 5 (.step 6 (.step 8 .done)))))) (.step 5 (.both (.step 2 (.both (.step 6 (.step 7 (.step 8 .done))) (.step 7 (.step 6 (.step 8 .done))))) (.step 6 (.step 2 (.step 7 (.step 8 .done)))))))) (.step 5 (.both (.step 1 (.both (.step 2 (.both (.step 6 (.step 7 (.step 8 .done))) (.step 7 (.step 6 (.step 8 .done))))) (.step 6 (.step 2 (.step 7 (.step 8 .done)))))) (.step 6 (.step 1 (.step 2 (.step 7 (.step 8 .done))))))))))) (.step 4 (.both (.step 0 (.both (.step 1 (.both (.step 2 (.both (.step 5 (.both (.step 6 (.step 7 (.step 8 .done))) (.step 7 (.step 6 (.step 8 .done))))) (.step 7 (.step 5 (.step 6 (.step 8 .done)))))) (.step 5 (.both (.step 2 (.both (.step 6 (.step 7 (.step 8 .done))) (.step 7 (.step 6 (.step 8 .done))))) (.step 6 (.step 2 (.step 7 (.step 8 .done)))))))) (.step 5 (.both (.step 1 (.both (.step 2 (.both (.step 6 (.step 7 (.step 8 .done))) (.step 7 (.step 6 (.step 8 .done))))) (.step 6 (.step 2 (.step 7 (.step 8 .done)))))) (.step 6 (.step 1 (.step 2 (.step 7 (.step 8 .done))))))))) (.step 5 (.both (.step 0 (.both (.step 1 (.both (.step 2 (.both (.step 6 (.step 7 (.step 8 .done))) (.step 7 (.step 6 (.step 8 .done))))) (.step 6 (.step 2 (.step 7 (.step 8 .done)))))) (.step 6 (.step 1 (.step 2 (.step 7 (.step 8 .done))))))) (.step 6 (.step 0 (.step 1 (.step 2 (.step 7 (.step 8 .done))))))))))))) (by kernel_rfl) ?_
      | refine And.intro ?_ ?_
      | refine wDr ?_
      | refine VWP_block ?_
      | refine VWP_skip ?_
      | refine VWP_exit ?_
      | refine VWP_ret ?_
      | (refine hK _ ?_; clear hK)
      | (clear hK; refine hK _ ?_; clear hK)
      | (clear hK; clear hK; refine hK _ ?_; clear hK)
      | (clear hK; clear hK; clear hK; refine hK _ ?_; clear hK)
      | (simp only [wHb, reduceCtorEq] at hb <;> try (exfalso; omega))
      | (refine VWP_cond2 true ?_ ?_ (fun hh => nomatch hh); focus (simp only [go_sem, Nat.reduceLT, Nat.reduceLeDiff, Nat.reduceEqDiff, Nat.reduceAdd, Nat.reduceMul, Nat.reduceSub, reduceCtorEq, Int.reduceBEq, Int.reduceBNe, Int.reduceLT, Int.reduceLE, Int.reduceAdd, Int.reduceToNat, F]; done); intro _)
      | (refine VWP_cond2 false ?_ (fun hh => nomatch hh) ?_; focus (simp only [go_sem, Nat.reduceLT, Nat.reduceLeDiff, Nat.reduceEqDiff, Nat.reduceAdd, Nat.reduceMul, Nat.reduceSub, reduceCtorEq, Int.reduceBEq, Int.reduceBNe, Int.reduceLT, Int.reduceLE, Int.reduceAdd, Int.reduceToNat, F]; done); intro _)
      | refine wCdx (fun hb => ?_) fun hb => ?_
      | simp only [go_sem, Nat.reduceLT, Nat.reduceLeDiff, Nat.reduceEqDiff, Nat.reduceAdd, Nat.reduceMul, Nat.reduceSub, reduceCtorEq, Int.reduceBEq, Int.reduceBNe, Int.reduceLT, Int.reduceLE, Int.reduceAdd, Int.reduceToNat, F]
      | simp (disch := omega) only [decide_eq_true_eq, if_pos, if_neg, wrap_id, le_maxLen, and_true, true_and, if_true, ite_true]
      | refine wGdx (fun hb => ?_) fun hb => ?_
    all_goals refine retO_mk [(2, k, 2)] (by simp only [merges, mergeH, go_sem, Nat.reduceLT, Nat.reduceLeDiff, Nat.reduceEqDiff, Nat.reduceAdd, Nat.reduceMul, Nat.reduceSub, reduceCtorEq, hkr, List.getElem?_set_self hkr, List.set_set, List.length_set, List.set_cons_succ, List.set_cons_zero, rowsE_len, rowsE_take, Nat.le_refl, hbk, rowsD_turn]; rfl) [.box [.rf 1 s.heads.length, .rf 2 s.descs.length], .root 36 (rowsH s.heads), .root 40 (rowsD 70 s.descs)] rfl (by simp [keepsL, updH, HpE, rowsD_turn, hbk]) rfl (by simp only [go_sem, Nat.reduceLT, Nat.reduceLeDiff, Nat.reduceEqDiff, Nat.reduceAdd, Nat.reduceMul, Nat.reduceSub, reduceCtorEq, vres]; rfl) (acc := []) rfl (by simp) rfl
  have c2q : decide (0 ≤ h.desc) = false := decide_eq_false c2
  by_cases c3 : h.version = e.version
  · have hm : driveM s f k d e o h = (⟨s.heads.set o ⟨h.value, h.version, f.desc⟩, s.descs⟩, onwardM d.entries.length f 2, -1) := by rw [driveM, if_neg p0, if_pos hph, if_neg c1, if_neg c2, if_neg (by simp [c3])]
    rw [hm] at hr
    subst hr
    have c3q : (h.version != e.version) = false := by simp [c3]
    have hnx := onward_ok ⟨s.heads.set o ⟨h.value, h.version, f.desc⟩, s.descs⟩ f 2 k d hk hd (by omega) (by omega) ⟨by simpa using f1, f2, f3⟩
    unfold StoreD.cells FrameD.cells at hnx
    simp only at hnx
    rw [hk, hj, hph] at hnx
    have hset := rowsH_set s.heads o ⟨h.value, h.version, (k : Int)⟩
    simp only at hset
    have hpr := rowsH_pur (s.heads.set o ⟨h.value, h.version, (k : Int)⟩)
    have htk : (rowsH (s.heads.set o ⟨h.value, h.version, (k : Int)⟩)).take s.heads.length = rowsH (s.heads.set o ⟨h.value, h.version, (k : Int)⟩) := by
      have := rowsH_take (s.heads.set o ⟨h.value, h.version, (k : Int)⟩)
      rwa [List.length_set] at this
    simp only [hk]
    have F := And.intro @vops_nilCheck (And.intro @vNil_bp (And.intro @rowsD_len (And.intro @rowsE_len (And.intro @rowsH_len (And.intro hk (And.intro hj (And.intro hk0 (And.intro hj0 (And.intro ho0 (And.intro hkl (And.intro hjl (And.intro hol (And.intro hrd (And.intro hre (And.intro hrh (And.intro hkr (And.intro hor (And.intro (fun a => List.getElem?_set_self (a := a) hkr) (And.intro @List.length_set.{0} (And.intro @Nat.le_refl (And.intro @Nat.le_add_right (And.intro hph (And.intro c1q (And.intro c2q (And.intro c3q (And.intro hbk (And.intro @rowsE_take (And.intro hpr (And.intro htk (And.intro @rowsD_pur (And.intro @rowsD_take (And.intro @List.set_set.{0} (And.intro hset (And.intro @vtree_done (And.intro @vtree_step (And.intro @vtreeO_some (And.intro @vtree_both @contT_at)))))))))))))))))))))))))))))))))))))
    repeat' first
      | refine wSq fun _ hK => ?_
      | (refine VWP_split_at (id := 1) [(2, k, 2)] (by simp only [go_sem, Nat.reduceLT, Nat.reduceLeDiff, Nat.reduceEqDiff, Nat.reduceAdd, Nat.reduceMul, Nat.reduceSub, reduceCtorEq, Int.reduceBEq, Int.reduceBNe, Int.reduceLT, Int.reduceLE, Int.reduceAdd, Int.reduceToNat, F, splits, splitH, merges, mergeH, List.set_set, List.set_cons_succ, List.set_cons_zero, List.getElem?_set_self, List.getElem?_cons_succ, List.getElem?_cons_zero, Nat.le_refl]; rfl) ?_)
      | (refine VWP_merge_at (id := 10) [(2, k, 2)] (by simp only [go_sem, Nat.reduceLT, Nat.reduceLeDiff, Nat.reduceEqDiff, Nat.reduceAdd, Nat.reduceMul, Nat.reduceSub, reduceCtorEq, Int.reduceBEq, Int.reduceBNe, Int.reduceLT, Int.reduceLE, Int.reduceAdd, Int.reduceToNat, F, splits, splitH, merges, mergeH, List.set_set, List.set_cons_succ, List.set_cons_zero, List.getElem?_set_self, List.getElem?_cons_succ, List.getElem?_cons_zero, Nat.le_refl]; rfl) ?_)
      | refine wRg ?_
      | refine VWP_orders hT hM (id := 6) (.both (.step 0 (.both (.step 1 (.both (.step 2 (.both (.step 3 (.both (.step 4 (.both (.step 5 (.both (.step 6 (.step 7 (.step 8 .done))) (.step 7 (.step 6 (.step 8 .done))))) (.step 7 (.step 5 (.step 6 (.step 8 .done)))))) (.step 7 (.step 4 (.step 5 (.step 6 (.step 8 .done))))))) (.step 7 (.step 3 (.step 4 (.step 5 (.step 6 (.step 8 .done)))))))) (.step 3 (.both (.step 2 (.both (.step 4 (.both (.step 5 (.both (.step 6 (.step 7 (.step 8 .done))) (.step 7 (.step 6 (.step 8 .done))))) (.step 7 (.step 5 (.step 6 (.step 8 .done)))))) (.step 7 (.step 4 (.step 5 (.step 6 (.step 8 .done))))))) (.step 4 (.both (.step 2 (.both (.step 5 (.both (.step 6 (.step 7 (.step 8 .done))) (.step 7 (.step 6 (.step 8 .done))))) (.step 7 (.step 5 (.step 6 (.step 8 .done)))))) (.step 5 (.both (.step 2 (.both (.step 6 (.step 7 (.step 8 .done))) (.step 7 (.step 6 (.step 8 .done))))) (.step 6 (.step 2 (.step 7 (.step 8 .done)))))))))))) (.step 3 (.both (.step 1 (.both (.step 2 (.both (.step 4 (.both (.step 5 (.both (.step 6 (.step 7 (.step 8 .done))) (.step 7 (.step 6 (.step 8 .done))))) (.step 7 (.step 5 (.step 6 (.step 8 .done)))))) (.step 7 (.step 4 (.step 5 (.step 6 (.step 8 .done))))))) (.step 4 (.both (.step 2 (.both (.step 5 (.both (.step 6 (.step 7 (.step 8 .done))) (.step 7 (.step 6 (.step 8 .done))))) (.step 7 (.step 5 (.step 6 (.step 8 .done)))))) (.step 5 (.both (.step 2 (.both (.step 6 (.step 7 (.step 8 .done))) (.step 7 (.step 6 (.step 8 .done))))) (.step 6 (.step 2 (.step 7 (.step 8 .done)))))))))) (.step 4 (.both (.step 1 (.both (.step 2 (.both (.step 5 (.both (.step 6 (.step 7 (.step 8 .done))) (.step 7 (.step 6 (.step 8 .done))))) (.step 7 (.step 5 (.step 6 (.step 8 .done)))))) (.step 5 (.both (.step 2 (.both (.step 6 (.step 7 (.step 8 .done))) (.step 7 (.step 6 (.step 8 .done))))) (.step 6 (.step 2 (.step 7 (.step 8 .done)))))))) (.step 5 (.both (.step 1 (.both (.step 2 (.both (.step 6 (.step 7 (.step 8 .done))) (.step 7 (.step 6 (.step 8 .done))))) (.step 6 (.step 2 (.step 7 (.step 8 .done)))))) (.step 6 (.step 1 (.step 2 (.step 7 (.step 8 .done))))))))))))) (.step 3 (.both (.step 0 (.both (.step 1 (.both (.step 2 (.both (.step 4 (.both (.step 5 (.both (.step 6 (.step 7 (.step 8 .done))) (.step 7 (.step 6 (.step 8 .done))))) (.step 7 (.step 5 (.step 6 (.step 8 .done)))))) (.step 7 (.step 4 (.step 5 (.step 6 (.step 8 .done))))))) (.step 4 (.both (.step 2 (.both (.step 5 (.both (.step 6 (.step 7 (.step 8 .done))) (.step 7 (.step 6 (.step 8 .done))))) (.step 7 (.step 5 (.step 6 (.step 8 .done)))))) (.step 5 (.both (.step 2 (.both (.step 6 (.step 7 (.step 8 .done))) (.step 7 (.step 6 (.step 8 .done))))) (.step 6 (.step 2 (.step 7 (.step 8 .done)))))))))) (.step 4 (.both (.step 1 (.both (.step 2 (.both (.step 5 (.both (.step 6 (.step 7 (.step 8 .done))) (.step 7 (.step 6 (.step 8 .done))))) (.step 7 (.step 5 (.step 6 (.step 8 .done)))))) (.step 5 (.both (.step 2 (.both (.step 6 (.step 7 (.step 8 .done))) (.step 7 (.step 6 (.step 8 .done))))) (.step 6 (.step 2 (.step 7 (.step 8 .done)))))))) (.step 5 (.both (.step 1 (.both (.step 2 (.both (.step 6 (.step 7 (.step 8 .done))) (.step 7 (.step 6 (.step 8 .done))))) (.step 6 (.step 2 (.step 7 (.step 8 .done)))))) (.step 6 (.step 1 (.step 2 (.step 7 (.step 8 .done))))))))))) (.step 4 (.both (.step 0 (.both (.step 1 (.both (.step 2 (.both (.step 5 (.both (.step 6 (.step 7 (.step 8 .done))) (.step 7 (.step 6 (.step 8 .done))))) (.step 7 (.step 5 (.step 6 (.step 8 .done)))))) (.step 5 (.both (.step 2 (.both (.step 6 (.step 7 (.step 8 .done))) (.step 7 (.step 6 (.step 8 .done))))) (.step 6 (.step 2 (.step 7 (.step 8 .done)))))))) (.step 5 (.both (.step 1 (.both (.step 2 (.both (.step 6 (.step 7 (.step 8 .done))) (.step 7 (.step 6 (.step 8 .done))))) (.step 6 (.step 2 (.step 7 (.step 8 .done)))))) (.step 6 (.step 1 (.step 2 (.step 7 (.step 8 .done))))))))) (.step 5 (.both (.step 0 (.both (.step 1 (.both (.step 2 (.both (.step 6 (.step 7 (.step 8 .done))) (.step 7 (.step 6 (.step 8 .done))))) (.step 6 (.step 2 (.step 7 (.step 8 .done)))))) (.step 6 (.step 1 (.step 2 (.step 7 (.step 8 .done))))))) (.step 6 (.step 0 (.step 1 (.step 2 (.step 7 (.step 8 .done))))))))))))) (by kernel_rfl) ?_
      | refine And.intro ?_ ?_
      | refine wDr ?_
      | refine VWP_block ?_
      | refine VWP_skip ?_
      | refine VWP_exit ?_
      | refine VWP_ret ?_
      | (refine hK _ ?_; clear hK)
      | (clear hK; refine hK _ ?_; clear hK)
      | (clear hK; clear hK; refine hK _ ?_; clear hK)
      | (clear hK; clear hK; clear hK; refine hK _ ?_; clear hK)
      | (simp only [wHb, reduceCtorEq] at hb <;> try (exfalso; omega))
      | (refine VWP_cond2 true ?_ ?_ (fun hh => nomatch hh); focus (simp only [go_sem, Nat.reduceLT, Nat.reduceLeDiff, Nat.reduceEqDiff, Nat.reduceAdd, Nat.reduceMul, Nat.reduceSub, reduceCtorEq, Int.reduceBEq, Int.reduceBNe, Int.reduceLT, Int.reduceLE, Int.reduceAdd, Int.reduceToNat, F]; done); intro _)
      | (refine VWP_cond2 false ?_ (fun hh => nomatch hh) ?_; focus (simp only [go_sem, Nat.reduceLT, Nat.reduceLeDiff, Nat.reduceEqDiff, Nat.reduceAdd, Nat.reduceMul, Nat.reduceSub, reduceCtorEq, Int.reduceBEq, Int.reduceBNe, Int.reduceLT, Int.reduceLE, Int.reduceAdd, Int.reduceToNat, F]; done); intro _)
      | refine wCdx (fun hb => ?_) fun hb => ?_
      | refine wCax (c := by first | exact hnx) (k := ?_)
      | simp only [go_sem, Nat.reduceLT, Nat.reduceLeDiff, Nat.reduceEqDiff, Nat.reduceAdd, Nat.reduceMul, Nat.reduceSub, reduceCtorEq, Int.reduceBEq, Int.reduceBNe, Int.reduceLT, Int.reduceLE, Int.reduceAdd, Int.reduceToNat, F]
      | simp (disch := omega) only [decide_eq_true_eq, if_pos, if_neg, wrap_id, le_maxLen, and_true, true_and, if_true, ite_true]
      | refine wGdx (fun hb => ?_) fun hb => ?_
    refine retO_mk [] rfl [.box [.rf 1 s.heads.length, .rf 2 s.descs.length], .root 36 (rowsH (s.heads.set o ⟨h.value, h.version, (k : Int)⟩)), .root 40 (rowsD 70 s.descs)] rfl (by simp [keepsL, updH, HpE, rowsD_turn, hbk]) rfl (by simp only [go_sem, Nat.reduceLT, Nat.reduceLeDiff, Nat.reduceEqDiff, Nat.reduceAdd, Nat.reduceMul, Nat.reduceSub, reduceCtorEq, vres]; rfl) (acc := []) rfl (by simp) rfl
  · have hm : driveM s f k d e o h = (s, ⟨f.desc, 3, 0⟩, -1) := by rw [driveM, if_neg p0, if_pos hph, if_neg c1, if_neg c2, if_pos c3]
    rw [hm] at hr
    subst hr
    have c3q : (h.version != e.version) = true := by simpa using c3
    have F := And.intro @vops_nilCheck (And.intro @vNil_bp (And.intro @rowsD_len (And.intro @rowsE_len (And.intro @rowsH_len (And.intro hk (And.intro hj (And.intro hk0 (And.intro hj0 (And.intro ho0 (And.intro hkl (And.intro hjl (And.intro hol (And.intro hrd (And.intro hre (And.intro hrh (And.intro hkr (And.intro hor (And.intro (fun a => List.getElem?_set_self (a := a) hkr) (And.intro @List.length_set.{0} (And.intro @Nat.le_refl (And.intro @Nat.le_add_right (And.intro hph (And.intro c1q (And.intro c2q (And.intro c3q (And.intro @vtree_done (And.intro @vtree_step (And.intro @vtreeO_some (And.intro @vtree_both @contT_at)))))))))))))))))))))))))))))
    repeat' first
      | refine wSq fun _ hK => ?_
      | (refine VWP_split_at (id := 1) [(2, k, 2)] (by simp only [go_sem, Nat.reduceLT, Nat.reduceLeDiff, Nat.reduceEqDiff, Nat.reduceAdd, Nat.reduceMul, Nat.reduceSub, reduceCtorEq, Int.reduceBEq, Int.reduceBNe, Int.reduceLT, Int.reduceLE, Int.reduceAdd, Int.reduceToNat, F, splits, splitH, merges, mergeH, List.set_set, List.set_cons_succ, List.set_cons_zero, List.getElem?_set_self, List.getElem?_cons_succ, List.getElem?_cons_zero, Nat.le_refl]; rfl) ?_)
      | refine wRg ?_
      | refine VWP_orders hT hM (id := 6) (.both (.step 0 (.both (.step 1 (.both (.step 2 (.both (.step 3 (.both (.step 4 (.both (.step 5 (.both (.step 6 (.step 7 (.step 8 .done))) (.step 7 (.step 6 (.step 8 .done))))) (.step 7 (.step 5 (.step 6 (.step 8 .done)))))) (.step 7 (.step 4 (.step 5 (.step 6 (.step 8 .done))))))) (.step 7 (.step 3 (.step 4 (.step 5 (.step 6 (.step 8 .done)))))))) (.step 3 (.both (.step 2 (.both (.step 4 (.both (.step 5 (.both (.step 6 (.step 7 (.step 8 .done))) (.step 7 (.step 6 (.step 8 .done))))) (.step 7 (.step 5 (.step 6 (.step 8 .done)))))) (.step 7 (.step 4 (.step 5 (.step 6 (.step 8 .done))))))) (.step 4 (.both (.step 2 (.both (.step 5 (.both (.step 6 (.step 7 (.step 8 .done))) (.step 7 (.step 6 (.step 8 .done))))) (.step 7 (.step 5 (.step 6 (.step 8 .done)))))) (.step 5 (.both (.step 2 (.both (.step 6 (.step 7 (.step 8 .done))) (.step 7 (.step 6 (.step 8 .done))))) (.step 6 (.step 2 (.step 7 (.step 8 .done)))))))))))) (.step 3 (.both (.step 1 (.both (.step 2 (.both (.step 4 (.both (.step 5 (.both (.step 6 (.step 7 (.step 8 .done))) (.step 7 (.step 6 (.step 8 .done))))) (.step 7 (.step 5 (.step 6 (.step 8 .done)))))) (.step 7 (.step 4 (.step 5 (.step 6 (.step 8 .done))))))) (.step 4 (.both (.step 2 (.both (.step 5 (.both (.step 6 (.step 7 (.step 8 .done))) (.step 7 (.step 6 (.step 8 .done))))) (.step 7 (.step 5 (.step 6 (.step 8 .done)))))) (.step 5 (.both (.step 2 (.both (.step 6 (.step 7 (.step 8 .done))) (.step 7 (.step 6 (.step 8 .done))))) (.step 6 (.step 2 (.step 7 (.step 8 .done)))))))))) (.step 4 (.both (.step 1 (.both (.step 2 (.both (.step 5 (.both (.step 6 (.step 7 (.step 8 .done))) (.step 7 (.step 6 (.step 8 .done))))) (.step 7 (.step 5 (.step 6 (.step 8 .done)))))) (.step 5 (.both (.step 2 (.both (.step 6 (.step 7 (.step 8 .done))) (.step 7 (.step 6 (.step 8 .done))))) (.step 6 (.step 2 (.step 7 (.step 8 .done)))))))) (.step 5 (.both (.step 1 (.both (.step 2 (.both (.step 6 (.step 7 (.step 8 .done))) (.step 7 (.step 6 (.step 8 .done))))) (.step 6 (.step 2 (.step 7 (.step 8 .done)))))) (.step 6 (.step 1 (.step 2 (.step 7 (.step 8 .done))))))))))))) (.step 3 (.both (.step 0 (.both (.step 1 (.both (.step 2 (.both (.step 4 (.both (.step 5 (.both (.step 6 (.step 7 (.step 8 .done))) (.step 7 (.step 6 (.step 8 .done))))) (.step 7 (.step 5 (.step 6 (.step 8 .done)))))) (.step 7 (.step 4 (.step 5 (.step 6 (.step 8 .done))))))) (.step 4 (.both (.step 2 (.both (.step 5 (.both (.step 6 (.step 7 (.step 8 .done))) (.step 7 (.step 6 (.step 8 .done))))) (.step 7 (.step 5 (.step 6 (.step 8 .done)))))) (.step 5 (.both (.step 2 (.both (.step 6 (.step 7 (.step 8 .done))) (.step 7 (.step 6 (.step 8 .done))))) (.step 6 (.step 2 (.step 7 (.step 8 .done)))))))))) (.step 4 (.both (.step 1 (.both (.step 2 (.both (.step 5 (.both (.step 6 (.step 7 (.step 8 .done))) (.step 7 (.step 6 (.step 8 .done))))) (.step 7 (.step 5 (.step 6 (.step 8 .done)))))) (.step 5 (.both (.step 2 (.both (.step 6 (.step 7 (.step 8 .done))) (.step 7 (.step 6 (.step 8 .done))))) (.step 6 (.step 2 (.step 7 (.step 8 .done)))))))) (.step 5 (.both (.step 1 (.both (.step 2 (.both (.step 6 (.step 7 (.step 8 .done))) (.step 7 (.step 6 (.step 8 .done))))) (.step 6 (.step 2 (.step 7 (.step 8 .done)))))) (.step 6 (.step 1 (.step 2 (.step 7 (.step 8 .done))))))))))) (.step 4 (.both (.step 0 (.both (.step 1 (.both (.step 2 (.both (.step 5 (.both (.step 6 (.step 7 (.step 8 .done))) (.step 7 (.step 6 (.step 8 .done))))) (.step 7 (.step 5 (.step 6 (.step 8 .done)))))) (.step 5 (.both (.step 2 (.both (.step 6 (.step 7 (.step 8 .done))) (.step 7 (.step 6 (.step 8 .done))))) (.step 6 (.step 2 (.step 7 (.step 8 .done)))))))) (.step 5 (.both (.step 1 (.both (.step 2 (.both (.step 6 (.step 7 (.step 8 .done))) (.step 7 (.step 6 (.step 8 .done))))) (.step 6 (.step 2 (.step 7 (.step 8 .done)))))) (.step 6 (.step 1 (.step 2 (.step 7 (.step 8 .done))))))))) (.step 5 (.both (.step 0 (.both (.step 1 (.both (.step 2 (.both (.step 6 (.step 7 (.step 8 .done))) (.step 7 (.step 6 (.step 8 .done))))) (.step 6 (.step 2 (.step 7 (.step 8 .done)))))) (.step 6 (.step 1 (.step 2 (.step 7 (.step 8 .done))))))) (.step 6 (.step 0 (.step 1 (.step 2 (.step 7 (.step 8 .done))))))))))))) (by kernel_rfl) ?_
      | refine And.intro ?_ ?_
      | refine wDr ?_
      | refine VWP_block ?_
      | refine VWP_skip ?_
      | refine VWP_exit ?_
      | refine VWP_ret ?_
      | (refine hK _ ?_; clear hK)
      | (clear hK; refine hK _ ?_; clear hK)
      | (clear hK; clear hK; refine hK _ ?_; clear hK)
      | (clear hK; clear hK; clear hK; refine hK _ ?_; clear hK)
      | (simp only [wHb, reduceCtorEq] at hb <;> try (exfalso; omega))
      | (refine VWP_cond2 true ?_ ?_ (fun hh => nomatch hh); focus (simp only [go_sem, Nat.reduceLT, Nat.reduceLeDiff, Nat.reduceEqDiff, Nat.reduceAdd, Nat.reduceMul, Nat.reduceSub, reduceCtorEq, Int.reduceBEq, Int.reduceBNe, Int.reduceLT, Int.reduceLE, Int.reduceAdd, Int.reduceToNat, F]; done); intro _)
      | (refine VWP_cond2 false ?_ (fun hh => nomatch hh) ?_; focus (simp only [go_sem, Nat.reduceLT, Nat.reduceLeDiff, Nat.reduceEqDiff, Nat.reduceAdd, Nat.reduceMul, Nat.reduceSub, reduceCtorEq, Int.reduceBEq, Int.reduceBNe, Int.reduceLT, Int.reduceLE, Int.reduceAdd, Int.reduceToNat, F]; done); intro _)
      | refine wCdx (fun hb => ?_) fun hb => ?_
      | simp only [go_sem, Nat.reduceLT, Nat.reduceLeDiff, Nat.reduceEqDiff, Nat.reduceAdd, Nat.reduceMul, Nat.reduceSub, reduceCtorEq, Int.reduceBEq, Int.reduceBNe, Int.reduceLT, Int.reduceLE, Int.reduceAdd, Int.reduceToNat, F]
      | simp (disch := omega) only [decide_eq_true_eq, if_pos, if_neg, wrap_id, le_maxLen, and_true, true_and, if_true, ite_true]
      | refine wGdx (fun hb => ?_) fun hb => ?_
    refine retO_mk [(2, k, 2)] (by simp only [merges, mergeH, go_sem, Nat.reduceLT, Nat.reduceLeDiff, Nat.reduceEqDiff, Nat.reduceAdd, Nat.reduceMul, Nat.reduceSub, reduceCtorEq, hkr, List.getElem?_set_self hkr, List.set_set, List.length_set, List.set_cons_succ, List.set_cons_zero, rowsE_len, rowsE_take, Nat.le_refl, hbk, rowsD_turn]; rfl) [.box [.rf 1 s.heads.length, .rf 2 s.descs.length], .root 36 (rowsH s.heads), .root 40 (rowsD 70 s.descs)] rfl (by simp [keepsL, updH, HpE, rowsD_turn, hbk]) rfl (by simp only [go_sem, Nat.reduceLT, Nat.reduceLeDiff, Nat.reduceEqDiff, Nat.reduceAdd, Nat.reduceMul, Nat.reduceSub, reduceCtorEq, vres]; rfl) (acc := []) rfl (by simp) rfl
end Go.Proofs.Ytchkbgekmoileaa
