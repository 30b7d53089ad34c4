/- One step of a stack: the program's. -/
import Derived.Test.YtljhhhlobkoocaaHB
import Derived.Test.YtljhhhlobkoocaaLJ
import Derived.Test.YtljhhhlobkoocaaOF
namespace Go.Proofs.Ytljhhhlobkoocaa
open Go Go.RowKit
set_option linter.unusedVariables false
set_option linter.unusedSimpArgs false
set_option maxRecDepth 100000
set_option maxHeartbeats 4000000
attribute [local irreducible] VWP vops vdraw contV contD CallK Guard GuardV NextL Puts Runs RetOK RetQ RetO RetQO thenQ blockQ

theorem helpNil_ok (s : StoreD) (hs : s.small) :
    SatO Try.prog 45 [.bp 0 0, .fr 32 (rowsF [])] [.box [.rf 1 s.heads.length, .rf 2 s.descs.length], .root 40 (rowsH s.heads), .root 38 (rowsD 76 s.descs)]
      (.rf 3 0) [.box [.rf 1 s.heads.length, .rf 2 s.descs.length], .root 40 (rowsH s.heads), .root 38 (rowsD 76 s.descs), .root 32 (rowsF [])] := by
  have hof := ownFrames_ok [] (by simp)
  refine satO_of_body hT Try.func45 (by kernel_rfl) rfl (rs := [.tmp 4]) rfl (n := 59) rfl (by simp) rfl (m := 3) rfl ⟨⟨rfl, rfl⟩, ⟨rfl, rowsH_pur _⟩, ⟨rfl, rowsD_pur _ _⟩, by simp [keptL, newOk, rowsF_pur]⟩ fun E hE => ?_
  unfold St.initO
  have hneg : IntKind.i64.wrap (((0 : Nat) : Int) - 1) = -1 := by decide
  have hneg2 : IntKind.i64.wrap ((0 : Int) - 1) = -1 := by decide
  have F := And.intro @rowsH_len (And.intro @rowsD_len (And.intro @rowsF_len (And.intro @List.length_nil.{0} (And.intro hneg hneg2))))
  repeat' first
    | refine wSq fun _ hK => ?_
    | refine wRg ?_
    | refine wDr ?_
    | refine VWP_block ?_
    | refine VWP_skip ?_
    | refine VWP_exit ?_
    | refine VWP_ret ?_
    | (refine hK _ ?_; clear hK)
    | (clear hK; refine hK _ ?_; clear hK)
    | (clear hK; clear hK; refine hK _ ?_; clear hK)
    | (clear hK; clear hK; clear hK; refine hK _ ?_; clear hK)
    | (simp only [wHb, reduceCtorEq] at hb <;> try (exfalso; omega))
    | refine wCdx (fun hb => ?_) fun hb => ?_
    | refine wCax (c := by first | exact hof) (k := ?_)
    | simp only [go_sem, Nat.reduceLT, Nat.reduceLeDiff, Nat.reduceEqDiff, Nat.reduceAdd, Nat.reduceMul, Nat.reduceSub, reduceCtorEq, Int.reduceBEq, Int.reduceBNe, Int.reduceLT, Int.reduceLE, Int.reduceAdd, Int.reduceToNat, F]
    | simp (disch := omega) only [decide_eq_true_eq, if_pos, if_neg, wrap_id, le_maxLen, and_true, true_and, if_true, ite_true]
    | refine wGdx (fun hb => ?_) fun hb => ?_
  refine retO_mk [] rfl [.box [.rf 1 s.heads.length, .rf 2 s.descs.length], .root 40 (rowsH s.heads), .root 38 (rowsD 76 s.descs)] rfl (by simp [keepsL, updH, HpE]) rfl (by simp only [go_sem, Nat.reduceLT, Nat.reduceLeDiff, Nat.reduceEqDiff, Nat.reduceAdd, Nat.reduceMul, Nat.reduceSub, reduceCtorEq, vres]; rfl) (acc := _) rfl (by simp) rfl
theorem helpFull_ok (s : StoreD) (init : List FrameD) (f : FrameD) (k : Nat) (d : DescS) (j : Nat) (e : EntS) (o : Nat) (h : HeadD) (ha : AtP s f k d j e o h) (hv0 : 0 ≤ h.version) (hv1 : h.version ≤ 1000000) (hs : s.small) (r : StoreD × FrameD × Int) (hr : driveM s f k d e o h = r) (hm : 0 ≤ r.2.2) (hn : init.length + 1 = 130) :
    SatO Try.prog 45 [.bp 0 0, .fr 32 (rowsF (init ++ [f]))] [.box [.rf 1 s.heads.length, .rf 2 s.descs.length], .root 40 (rowsH s.heads), .root 38 (rowsD 76 s.descs)]
      (.rf 3 (init.length + 1)) [.box [.rf 1 s.heads.length, .rf 2 s.descs.length], .root 40 (rowsH s.heads), .root 38 (rowsD 76 s.descs), .root 32 (rowsF (init ++ [f]))] := by
  have hl := drive_ok s f k d j e o h ha hv0 hv1 hs r hr
  have ho := ownStore_ok s hs
  have hof := ownFrames_ok (init ++ [f]) (by simp; omega)
  have hlen : (init ++ [f]).length = init.length + 1 := by simp
  have hsub : IntKind.i64.wrap (((init.length + 1 : Nat) : Int) - 1) = init.length := by rw [wrap_id (by omega)]; omega
  have hk0 : (0 : Int) ≤ (init.length : Nat) := by omega
  have hmid := rowsF_mid init [] f
  have hput := rowsF_put init [] f r.2.1
  have hmore := rowsF_more init [] r.2.1 r.2.2
  have hlen2 : (init ++ [r.2.1]).length = init.length + 1 := by simp
  have hle3 : init.length + 1 + 1 ≤ (init ++ [r.2.1, ⟨r.2.2, 0, 0⟩]).length := by simp
  have hlt : init.length < init.length + 1 := by omega
  have hle : init.length ≤ init.length + 1 := by omega
  have e1 : r.1.heads.length = s.heads.length := by subst hr; unfold driveM; (repeat' split) <;> simp
  have e2 : r.1.descs.length = s.descs.length := by subst hr; unfold driveM; (repeat' split) <;> simp
  have t1 := rowsH_take r.1.heads
  have t2 := rowsD_take 76 r.1.descs
  rw [e1] at t1
  rw [e2] at t2
  have t3 : (rowsF (init ++ [r.2.1])).take init.length = rowsF init := by simp [rowsF]
  have t4 : (rowsF (init ++ [r.2.1])).take (init.length + 1) = rowsF (init ++ [r.2.1]) := by rw [List.take_of_length_le (by rw [rowsF_len, hlen2]; exact Nat.le_refl _)]
  have t5 : (rowsF (init ++ [f])).take (init.length + 1) = rowsF (init ++ [f]) := by rw [List.take_of_length_le (by rw [rowsF_len, hlen]; exact Nat.le_refl _)]
  have t6 : (rowsF (init ++ [r.2.1, ⟨r.2.2, 0, 0⟩])).take (init.length + 1 + 1) = rowsF (init ++ [r.2.1, ⟨r.2.2, 0, 0⟩]) := by rw [List.take_of_length_le (by rw [rowsF_len]; simp)]
  have hnq : (((init.length + 1 : Nat) : Int) == 130) = true := by simp; omega
  refine satO_of_body hT Try.func45 (by kernel_rfl) rfl (rs := [.tmp 4]) rfl (n := 59) rfl (by simp) rfl (m := 3) rfl ⟨⟨rfl, rfl⟩, ⟨rfl, rowsH_pur _⟩, ⟨rfl, rowsD_pur _ _⟩, by simp [keptL, newOk, rowsF_pur, rowsH_pur, rowsD_pur]⟩ fun E hE => ?_
  unfold St.initO
  unfold FrameD.cells at hl
  unfold StoreD.cells at ho
  have F := And.intro @vops_nilCheck (And.intro @vNil_bp (And.intro @rowsH_len (And.intro @rowsD_len (And.intro @rowsF_len (And.intro @rowsH_pur (And.intro @rowsD_pur (And.intro hlen (And.intro hlen2 (And.intro hsub (And.intro hk0 (And.intro hlt (And.intro hle (And.intro hmid (And.intro hput (And.intro hmore (And.intro @rowsH_take (And.intro @rowsD_take (And.intro @rowsF_take (And.intro t1 (And.intro t2 (And.intro @Nat.le_refl (And.intro hm hnq))))))))))))))))))))))
  repeat' first
    | refine wSq fun _ hK => ?_
    | refine wRg ?_
    | refine VWP_cls hT hM (id := 8) 9 [[0, 1, 2, 3, 4, 5, 6, 7, 8], [0, 1, 2, 3, 5, 6, 4, 7, 8]] (by kernel_rfl) ?_
    | refine And.intro ?_ ?_
    | exact trivial
    | refine wDr ?_
    | refine VWP_block ?_
    | refine VWP_skip ?_
    | refine VWP_exit ?_
    | refine VWP_ret ?_
    | (refine hK _ ?_; clear hK)
    | (clear hK; refine hK _ ?_; clear hK)
    | (clear hK; clear hK; refine hK _ ?_; clear hK)
    | (clear hK; clear hK; clear hK; refine hK _ ?_; clear hK)
    | (simp only [wHb, reduceCtorEq] at hb <;> try (exfalso; omega))
    | (refine VWP_cond2 true ?_ ?_ (fun hh => nomatch hh); focus (simp only [go_sem, Nat.reduceLT, Nat.reduceLeDiff, Nat.reduceEqDiff, Nat.reduceAdd, Nat.reduceMul, Nat.reduceSub, reduceCtorEq, F]; done); intro _)
    | (refine VWP_cond2 false ?_ (fun hh => nomatch hh) ?_; focus (simp only [go_sem, Nat.reduceLT, Nat.reduceLeDiff, Nat.reduceEqDiff, Nat.reduceAdd, Nat.reduceMul, Nat.reduceSub, reduceCtorEq, F]; done); intro _)
    | refine wCd (fun hb => ?_) fun hb => ?_
    | refine wCa (c := by first | exact hof | exact ho) (k := ?_)
    | refine wOw [6, 4, 5] (c := by exact hl) (k := ?_)
    | simp only [go_sem, Nat.reduceLT, Nat.reduceLeDiff, Nat.reduceEqDiff, Nat.reduceAdd, Nat.reduceMul, Nat.reduceSub, reduceCtorEq, F]
    | simp (disch := omega) only [decide_eq_true_eq, if_pos, if_neg, wrap_id, le_maxLen, and_true, true_and, if_true, ite_true]
    | refine wGd (fun hb => ?_) fun hb => ?_
  all_goals skip
  all_goals refine retO_mk [] rfl [.box [.rf 1 s.heads.length, .rf 2 s.descs.length], .root 40 (rowsH s.heads), .root 38 (rowsD 76 s.descs)] rfl (by simp [keepsL, updH, HpE, hput]) (acc1 := _) (by simp only [go_sem, Nat.reduceLT, Nat.reduceLeDiff, Nat.reduceEqDiff, Nat.reduceAdd, Nat.reduceMul, Nat.reduceSub, reduceCtorEq, exEs, exOCs, exOC, rowsH_len, rowsD_len, e1, e2, t1, t2, Nat.le_refl]; try rfl) (by simp only [go_sem, Nat.reduceLT, Nat.reduceLeDiff, Nat.reduceEqDiff, Nat.reduceAdd, Nat.reduceMul, Nat.reduceSub, reduceCtorEq, vres]; rfl) (acc := _) (by simp only [go_sem, Nat.reduceLT, Nat.reduceLeDiff, Nat.reduceEqDiff, Nat.reduceAdd, Nat.reduceMul, Nat.reduceSub, reduceCtorEq, wrap, exOV, exOA, exOC, rowsF_len, hlen, hlen2, hle, hle3, t3, t4, t5, t6, Nat.le_refl]; try rfl) (by simp) (by simp [rootOf, e1, e2])
theorem helpPush_ok (s : StoreD) (init : List FrameD) (f : FrameD) (k : Nat) (d : DescS) (j : Nat) (e : EntS) (o : Nat) (h : HeadD) (ha : AtP s f k d j e o h) (hv0 : 0 ≤ h.version) (hv1 : h.version ≤ 1000000) (hs : s.small) (r : StoreD × FrameD × Int) (hr : driveM s f k d e o h = r) (hm : 0 ≤ r.2.2) (h5 : ¬ r.2.1.phase = 5) (hn : init.length + 1 < 130) :
    SatO Try.prog 45 [.bp 0 0, .fr 32 (rowsF (init ++ [f]))] [.box [.rf 1 s.heads.length, .rf 2 s.descs.length], .root 40 (rowsH s.heads), .root 38 (rowsD 76 s.descs)]
      (.rf 5 (init.length + 1 + 1)) [.box [.rf 3 s.heads.length, .rf 4 s.descs.length], .root 40 (rowsH s.heads), .root 38 (rowsD 76 s.descs), .root 40 (rowsH r.1.heads), .root 38 (rowsD 76 r.1.descs), .root 32 (rowsF (init ++ [r.2.1, ⟨r.2.2, 0, 0⟩]))] := by
  have hl := drive_ok s f k d j e o h ha hv0 hv1 hs r hr
  have ho := ownStore_ok s hs
  have hof := ownFrames_ok (init ++ [f]) (by simp; omega)
  have hlen : (init ++ [f]).length = init.length + 1 := by simp
  have hsub : IntKind.i64.wrap (((init.length + 1 : Nat) : Int) - 1) = init.length := by rw [wrap_id (by omega)]; omega
  have hk0 : (0 : Int) ≤ (init.length : Nat) := by omega
  have hmid := rowsF_mid init [] f
  have hput := rowsF_put init [] f r.2.1
  have hmore := rowsF_more init [] r.2.1 r.2.2
  have hlen2 : (init ++ [r.2.1]).length = init.length + 1 := by simp
  have hle3 : init.length + 1 + 1 ≤ (init ++ [r.2.1, ⟨r.2.2, 0, 0⟩]).length := by simp
  have hlt : init.length < init.length + 1 := by omega
  have hle : init.length ≤ init.length + 1 := by omega
  have e1 : r.1.heads.length = s.heads.length := by subst hr; unfold driveM; (repeat' split) <;> simp
  have e2 : r.1.descs.length = s.descs.length := by subst hr; unfold driveM; (repeat' split) <;> simp
  have t1 := rowsH_take r.1.heads
  have t2 := rowsD_take 76 r.1.descs
  rw [e1] at t1
  rw [e2] at t2
  have t3 : (rowsF (init ++ [r.2.1])).take init.length = rowsF init := by simp [rowsF]
  have t4 : (rowsF (init ++ [r.2.1])).take (init.length + 1) = rowsF (init ++ [r.2.1]) := by rw [List.take_of_length_le (by rw [rowsF_len, hlen2]; exact Nat.le_refl _)]
  have t5 : (rowsF (init ++ [f])).take (init.length + 1) = rowsF (init ++ [f]) := by rw [List.take_of_length_le (by rw [rowsF_len, hlen]; exact Nat.le_refl _)]
  have t6 : (rowsF (init ++ [r.2.1, ⟨r.2.2, 0, 0⟩])).take (init.length + 1 + 1) = rowsF (init ++ [r.2.1, ⟨r.2.2, 0, 0⟩]) := by rw [List.take_of_length_le (by rw [rowsF_len]; simp)]
  have hnq : (((init.length + 1 : Nat) : Int) == 130) = false := by simp; omega
  have h5q : (r.2.1.phase == 5) = false := by simpa using h5
  have hnn : ¬ init.length + 1 = 130 := by omega
  refine satO_of_body hT Try.func45 (by kernel_rfl) rfl (rs := [.tmp 4]) rfl (n := 59) rfl (by simp) rfl (m := 3) rfl ⟨⟨rfl, rfl⟩, ⟨rfl, rowsH_pur _⟩, ⟨rfl, rowsD_pur _ _⟩, by simp [keptL, newOk, rowsF_pur, rowsH_pur, rowsD_pur]⟩ fun E hE => ?_
  unfold St.initO
  unfold FrameD.cells at hl
  unfold StoreD.cells at ho
  have F := And.intro @vops_nilCheck (And.intro @vNil_bp (And.intro @rowsH_len (And.intro @rowsD_len (And.intro @rowsF_len (And.intro @rowsH_pur (And.intro @rowsD_pur (And.intro hlen (And.intro hlen2 (And.intro hsub (And.intro hk0 (And.intro hlt (And.intro hle (And.intro hmid (And.intro hput (And.intro hmore (And.intro @rowsH_take (And.intro @rowsD_take (And.intro @rowsF_take (And.intro t1 (And.intro t2 (And.intro @Nat.le_refl (And.intro hm (And.intro h5q hnq)))))))))))))))))))))))
  repeat' first
    | refine wSq fun _ hK => ?_
    | refine wRg ?_
    | refine VWP_cls hT hM (id := 8) 9 [[0, 1, 2, 3, 4, 5, 6, 7, 8], [0, 1, 2, 3, 5, 6, 4, 7, 8]] (by kernel_rfl) ?_
    | refine And.intro ?_ ?_
    | exact trivial
    | refine wDr ?_
    | refine VWP_block ?_
    | refine VWP_skip ?_
    | refine VWP_exit ?_
    | refine VWP_ret ?_
    | (refine hK _ ?_; clear hK)
    | (clear hK; refine hK _ ?_; clear hK)
    | (clear hK; clear hK; refine hK _ ?_; clear hK)
    | (clear hK; clear hK; clear hK; refine hK _ ?_; clear hK)
    | (simp only [wHb, reduceCtorEq] at hb <;> try (exfalso; omega))
    | (refine VWP_cond2 true ?_ ?_ (fun hh => nomatch hh); focus (simp only [go_sem, Nat.reduceLT, Nat.reduceLeDiff, Nat.reduceEqDiff, Nat.reduceAdd, Nat.reduceMul, Nat.reduceSub, reduceCtorEq, F]; done); intro _)
    | (refine VWP_cond2 false ?_ (fun hh => nomatch hh) ?_; focus (simp only [go_sem, Nat.reduceLT, Nat.reduceLeDiff, Nat.reduceEqDiff, Nat.reduceAdd, Nat.reduceMul, Nat.reduceSub, reduceCtorEq, F]; done); intro _)
    | refine wCd (fun hb => ?_) fun hb => ?_
    | refine wCa (c := by first | exact hof | exact ho) (k := ?_)
    | refine wOw [6, 4, 5] (c := by exact hl) (k := ?_)
    | simp only [go_sem, Nat.reduceLT, Nat.reduceLeDiff, Nat.reduceEqDiff, Nat.reduceAdd, Nat.reduceMul, Nat.reduceSub, reduceCtorEq, F]
    | simp (disch := omega) only [decide_eq_true_eq, if_pos, if_neg, wrap_id, le_maxLen, and_true, true_and, if_true, ite_true]
    | refine wGd (fun hb => ?_) fun hb => ?_
  all_goals skip
  all_goals refine retO_mk [] rfl [.box [.rf 4 s.heads.length, .rf 5 s.descs.length], .root 40 (rowsH s.heads), .root 38 (rowsD 76 s.descs)] rfl (by simp [keepsL, updH, HpE, hput]) (acc1 := _) (by simp only [go_sem, Nat.reduceLT, Nat.reduceLeDiff, Nat.reduceEqDiff, Nat.reduceAdd, Nat.reduceMul, Nat.reduceSub, reduceCtorEq, exEs, exOCs, exOC, rowsH_len, rowsD_len, e1, e2, t1, t2, Nat.le_refl]; try rfl) (by simp only [go_sem, Nat.reduceLT, Nat.reduceLeDiff, Nat.reduceEqDiff, Nat.reduceAdd, Nat.reduceMul, Nat.reduceSub, reduceCtorEq, vres]; rfl) (acc := _) (by simp only [go_sem, Nat.reduceLT, Nat.reduceLeDiff, Nat.reduceEqDiff, Nat.reduceAdd, Nat.reduceMul, Nat.reduceSub, reduceCtorEq, wrap, exOV, exOA, exOC, rowsF_len, hlen, hlen2, hle, hle3, t3, t4, t5, t6, Nat.le_refl]; try rfl) (by simp) (by simp [rootOf, e1, e2])
theorem helpPop_ok (s : StoreD) (init : List FrameD) (f : FrameD) (k : Nat) (d : DescS) (j : Nat) (e : EntS) (o : Nat) (h : HeadD) (ha : AtP s f k d j e o h) (hv0 : 0 ≤ h.version) (hv1 : h.version ≤ 1000000) (hs : s.small) (r : StoreD × FrameD × Int) (hr : driveM s f k d e o h = r) (hm : ¬ 0 ≤ r.2.2) (h5 : r.2.1.phase = 5) (hn : init.length + 1 ≤ 130) :
    SatO Try.prog 45 [.bp 0 0, .fr 32 (rowsF (init ++ [f]))] [.box [.rf 1 s.heads.length, .rf 2 s.descs.length], .root 40 (rowsH s.heads), .root 38 (rowsD 76 s.descs)]
      (.rf 5 init.length) [.box [.rf 3 s.heads.length, .rf 4 s.descs.length], .root 40 (rowsH s.heads), .root 38 (rowsD 76 s.descs), .root 40 (rowsH r.1.heads), .root 38 (rowsD 76 r.1.descs), .root 32 (rowsF init)] := by
  have hl := drive_ok s f k d j e o h ha hv0 hv1 hs r hr
  have ho := ownStore_ok s hs
  have hof := ownFrames_ok (init ++ [f]) (by simp; omega)
  have hlen : (init ++ [f]).length = init.length + 1 := by simp
  have hsub : IntKind.i64.wrap (((init.length + 1 : Nat) : Int) - 1) = init.length := by rw [wrap_id (by omega)]; omega
  have hk0 : (0 : Int) ≤ (init.length : Nat) := by omega
  have hmid := rowsF_mid init [] f
  have hput := rowsF_put init [] f r.2.1
  have hmore := rowsF_more init [] r.2.1 r.2.2
  have hlen2 : (init ++ [r.2.1]).length = init.length + 1 := by simp
  have hle3 : init.length + 1 + 1 ≤ (init ++ [r.2.1, ⟨r.2.2, 0, 0⟩]).length := by simp
  have hlt : init.length < init.length + 1 := by omega
  have hle : init.length ≤ init.length + 1 := by omega
  have e1 : r.1.heads.length = s.heads.length := by subst hr; unfold driveM; (repeat' split) <;> simp
  have e2 : r.1.descs.length = s.descs.length := by subst hr; unfold driveM; (repeat' split) <;> simp
  have t1 := rowsH_take r.1.heads
  have t2 := rowsD_take 76 r.1.descs
  rw [e1] at t1
  rw [e2] at t2
  have t3 : (rowsF (init ++ [r.2.1])).take init.length = rowsF init := by simp [rowsF]
  have t4 : (rowsF (init ++ [r.2.1])).take (init.length + 1) = rowsF (init ++ [r.2.1]) := by rw [List.take_of_length_le (by rw [rowsF_len, hlen2]; exact Nat.le_refl _)]
  have t5 : (rowsF (init ++ [f])).take (init.length + 1) = rowsF (init ++ [f]) := by rw [List.take_of_length_le (by rw [rowsF_len, hlen]; exact Nat.le_refl _)]
  have t6 : (rowsF (init ++ [r.2.1, ⟨r.2.2, 0, 0⟩])).take (init.length + 1 + 1) = rowsF (init ++ [r.2.1, ⟨r.2.2, 0, 0⟩]) := by rw [List.take_of_length_le (by rw [rowsF_len]; simp)]
  have h5q : (r.2.1.phase == 5) = true := by simp [h5]
  refine satO_of_body hT Try.func45 (by kernel_rfl) rfl (rs := [.tmp 4]) rfl (n := 59) rfl (by simp) rfl (m := 3) rfl ⟨⟨rfl, rfl⟩, ⟨rfl, rowsH_pur _⟩, ⟨rfl, rowsD_pur _ _⟩, by simp [keptL, newOk, rowsF_pur, rowsH_pur, rowsD_pur]⟩ fun E hE => ?_
  unfold St.initO
  unfold FrameD.cells at hl
  unfold StoreD.cells at ho
  have F := And.intro @vops_nilCheck (And.intro @vNil_bp (And.intro @rowsH_len (And.intro @rowsD_len (And.intro @rowsF_len (And.intro @rowsH_pur (And.intro @rowsD_pur (And.intro hlen (And.intro hlen2 (And.intro hsub (And.intro hk0 (And.intro hlt (And.intro hle (And.intro hmid (And.intro hput (And.intro hmore (And.intro @rowsH_take (And.intro @rowsD_take (And.intro @rowsF_take (And.intro t1 (And.intro t2 (And.intro @Nat.le_refl (And.intro hm h5q))))))))))))))))))))))
  repeat' first
    | refine wSq fun _ hK => ?_
    | refine wRg ?_
    | refine VWP_cls hT hM (id := 8) 9 [[0, 1, 2, 3, 4, 5, 6, 7, 8], [0, 1, 2, 3, 5, 6, 4, 7, 8]] (by kernel_rfl) ?_
    | refine And.intro ?_ ?_
    | exact trivial
    | refine wDr ?_
    | refine VWP_block ?_
    | refine VWP_skip ?_
    | refine VWP_exit ?_
    | refine VWP_ret ?_
    | (refine hK _ ?_; clear hK)
    | (clear hK; refine hK _ ?_; clear hK)
    | (clear hK; clear hK; refine hK _ ?_; clear hK)
    | (clear hK; clear hK; clear hK; refine hK _ ?_; clear hK)
    | (simp only [wHb, reduceCtorEq] at hb <;> try (exfalso; omega))
    | (refine VWP_cond2 true ?_ ?_ (fun hh => nomatch hh); focus (simp only [go_sem, Nat.reduceLT, Nat.reduceLeDiff, Nat.reduceEqDiff, Nat.reduceAdd, Nat.reduceMul, Nat.reduceSub, reduceCtorEq, F]; done); intro _)
    | (refine VWP_cond2 false ?_ (fun hh => nomatch hh) ?_; focus (simp only [go_sem, Nat.reduceLT, Nat.reduceLeDiff, Nat.reduceEqDiff, Nat.reduceAdd, Nat.reduceMul, Nat.reduceSub, reduceCtorEq, F]; done); intro _)
    | refine wCd (fun hb => ?_) fun hb => ?_
    | refine wCa (c := by first | exact hof | exact ho) (k := ?_)
    | refine wOw [6, 4, 5] (c := by exact hl) (k := ?_)
    | simp only [go_sem, Nat.reduceLT, Nat.reduceLeDiff, Nat.reduceEqDiff, Nat.reduceAdd, Nat.reduceMul, Nat.reduceSub, reduceCtorEq, F]
    | simp (disch := omega) only [decide_eq_true_eq, if_pos, if_neg, wrap_id, le_maxLen, and_true, true_and, if_true, ite_true]
    | refine wGd (fun hb => ?_) fun hb => ?_
  all_goals skip
  all_goals refine retO_mk [] rfl [.box [.rf 4 s.heads.length, .rf 5 s.descs.length], .root 40 (rowsH s.heads), .root 38 (rowsD 76 s.descs)] rfl (by simp [keepsL, updH, HpE, hput]) (acc1 := _) (by simp only [go_sem, Nat.reduceLT, Nat.reduceLeDiff, Nat.reduceEqDiff, Nat.reduceAdd, Nat.reduceMul, Nat.reduceSub, reduceCtorEq, exEs, exOCs, exOC, rowsH_len, rowsD_len, e1, e2, t1, t2, Nat.le_refl]; try rfl) (by simp only [go_sem, Nat.reduceLT, Nat.reduceLeDiff, Nat.reduceEqDiff, Nat.reduceAdd, Nat.reduceMul, Nat.reduceSub, reduceCtorEq, vres]; rfl) (acc := _) (by simp only [go_sem, Nat.reduceLT, Nat.reduceLeDiff, Nat.reduceEqDiff, Nat.reduceAdd, Nat.reduceMul, Nat.reduceSub, reduceCtorEq, wrap, exOV, exOA, exOC, rowsF_len, hlen, hlen2, hle, hle3, t3, t4, t5, t6, Nat.le_refl]; try rfl) (by simp) (by simp [rootOf, e1, e2])
theorem helpPut_ok (s : StoreD) (init : List FrameD) (f : FrameD) (k : Nat) (d : DescS) (j : Nat) (e : EntS) (o : Nat) (h : HeadD) (ha : AtP s f k d j e o h) (hv0 : 0 ≤ h.version) (hv1 : h.version ≤ 1000000) (hs : s.small) (r : StoreD × FrameD × Int) (hr : driveM s f k d e o h = r) (hm : ¬ 0 ≤ r.2.2) (h5 : ¬ r.2.1.phase = 5) (hn : init.length + 1 ≤ 130) :
    SatO Try.prog 45 [.bp 0 0, .fr 32 (rowsF (init ++ [f]))] [.box [.rf 1 s.heads.length, .rf 2 s.descs.length], .root 40 (rowsH s.heads), .root 38 (rowsD 76 s.descs)]
      (.rf 5 (init.length + 1)) [.box [.rf 3 s.heads.length, .rf 4 s.descs.length], .root 40 (rowsH s.heads), .root 38 (rowsD 76 s.descs), .root 40 (rowsH r.1.heads), .root 38 (rowsD 76 r.1.descs), .root 32 (rowsF (init ++ [r.2.1]))] := by
  have hl := drive_ok s f k d j e o h ha hv0 hv1 hs r hr
  have ho := ownStore_ok s hs
  have hof := ownFrames_ok (init ++ [f]) (by simp; omega)
  have hlen : (init ++ [f]).length = init.length + 1 := by simp
  have hsub : IntKind.i64.wrap (((init.length + 1 : Nat) : Int) - 1) = init.length := by rw [wrap_id (by omega)]; omega
  have hk0 : (0 : Int) ≤ (init.length : Nat) := by omega
  have hmid := rowsF_mid init [] f
  have hput := rowsF_put init [] f r.2.1
  have hmore := rowsF_more init [] r.2.1 r.2.2
  have hlen2 : (init ++ [r.2.1]).length = init.length + 1 := by simp
  have hle3 : init.length + 1 + 1 ≤ (init ++ [r.2.1, ⟨r.2.2, 0, 0⟩]).length := by simp
  have hlt : init.length < init.length + 1 := by omega
  have hle : init.length ≤ init.length + 1 := by omega
  have e1 : r.1.heads.length = s.heads.length := by subst hr; unfold driveM; (repeat' split) <;> simp
  have e2 : r.1.descs.length = s.descs.length := by subst hr; unfold driveM; (repeat' split) <;> simp
  have t1 := rowsH_take r.1.heads
  have t2 := rowsD_take 76 r.1.descs
  rw [e1] at t1
  rw [e2] at t2
  have t3 : (rowsF (init ++ [r.2.1])).take init.length = rowsF init := by simp [rowsF]
  have t4 : (rowsF (init ++ [r.2.1])).take (init.length + 1) = rowsF (init ++ [r.2.1]) := by rw [List.take_of_length_le (by rw [rowsF_len, hlen2]; exact Nat.le_refl _)]
  have t5 : (rowsF (init ++ [f])).take (init.length + 1) = rowsF (init ++ [f]) := by rw [List.take_of_length_le (by rw [rowsF_len, hlen]; exact Nat.le_refl _)]
  have t6 : (rowsF (init ++ [r.2.1, ⟨r.2.2, 0, 0⟩])).take (init.length + 1 + 1) = rowsF (init ++ [r.2.1, ⟨r.2.2, 0, 0⟩]) := by rw [List.take_of_length_le (by rw [rowsF_len]; simp)]
  have h5q : (r.2.1.phase == 5) = false := by simpa using h5
  refine satO_of_body hT Try.func45 (by kernel_rfl) rfl (rs := [.tmp 4]) rfl (n := 59) rfl (by simp) rfl (m := 3) rfl ⟨⟨rfl, rfl⟩, ⟨rfl, rowsH_pur _⟩, ⟨rfl, rowsD_pur _ _⟩, by simp [keptL, newOk, rowsF_pur, rowsH_pur, rowsD_pur]⟩ fun E hE => ?_
  unfold St.initO
  unfold FrameD.cells at hl
  unfold StoreD.cells at ho
  have F := And.intro @vops_nilCheck (And.intro @vNil_bp (And.intro @rowsH_len (And.intro @rowsD_len (And.intro @rowsF_len (And.intro @rowsH_pur (And.intro @rowsD_pur (And.intro hlen (And.intro hlen2 (And.intro hsub (And.intro hk0 (And.intro hlt (And.intro hle (And.intro hmid (And.intro hput (And.intro hmore (And.intro @rowsH_take (And.intro @rowsD_take (And.intro @rowsF_take (And.intro t1 (And.intro t2 (And.intro @Nat.le_refl (And.intro hm h5q))))))))))))))))))))))
  repeat' first
    | refine wSq fun _ hK => ?_
    | refine wRg ?_
    | refine VWP_cls hT hM (id := 8) 9 [[0, 1, 2, 3, 4, 5, 6, 7, 8], [0, 1, 2, 3, 5, 6, 4, 7, 8]] (by kernel_rfl) ?_
    | refine And.intro ?_ ?_
    | exact trivial
    | refine wDr ?_
    | refine VWP_block ?_
    | refine VWP_skip ?_
    | refine VWP_exit ?_
    | refine VWP_ret ?_
    | (refine hK _ ?_; clear hK)
    | (clear hK; refine hK _ ?_; clear hK)
    | (clear hK; clear hK; refine hK _ ?_; clear hK)
    | (clear hK; clear hK; clear hK; refine hK _ ?_; clear hK)
    | (simp only [wHb, reduceCtorEq] at hb <;> try (exfalso; omega))
    | (refine VWP_cond2 true ?_ ?_ (fun hh => nomatch hh); focus (simp only [go_sem, Nat.reduceLT, Nat.reduceLeDiff, Nat.reduceEqDiff, Nat.reduceAdd, Nat.reduceMul, Nat.reduceSub, reduceCtorEq, F]; done); intro _)
    | (refine VWP_cond2 false ?_ (fun hh => nomatch hh) ?_; focus (simp only [go_sem, Nat.reduceLT, Nat.reduceLeDiff, Nat.reduceEqDiff, Nat.reduceAdd, Nat.reduceMul, Nat.reduceSub, reduceCtorEq, F]; done); intro _)
    | refine wCd (fun hb => ?_) fun hb => ?_
    | refine wCa (c := by first | exact hof | exact ho) (k := ?_)
    | refine wOw [6, 4, 5] (c := by exact hl) (k := ?_)
    | simp only [go_sem, Nat.reduceLT, Nat.reduceLeDiff, Nat.reduceEqDiff, Nat.reduceAdd, Nat.reduceMul, Nat.reduceSub, reduceCtorEq, F]
    | simp (disch := omega) only [decide_eq_true_eq, if_pos, if_neg, wrap_id, le_maxLen, and_true, true_and, if_true, ite_true]
    | refine wGd (fun hb => ?_) fun hb => ?_
  all_goals skip
  all_goals refine retO_mk [] rfl [.box [.rf 4 s.heads.length, .rf 5 s.descs.length], .root 40 (rowsH s.heads), .root 38 (rowsD 76 s.descs)] rfl (by simp [keepsL, updH, HpE, hput]) (acc1 := _) (by simp only [go_sem, Nat.reduceLT, Nat.reduceLeDiff, Nat.reduceEqDiff, Nat.reduceAdd, Nat.reduceMul, Nat.reduceSub, reduceCtorEq, exEs, exOCs, exOC, rowsH_len, rowsD_len, e1, e2, t1, t2, Nat.le_refl]; try rfl) (by simp only [go_sem, Nat.reduceLT, Nat.reduceLeDiff, Nat.reduceEqDiff, Nat.reduceAdd, Nat.reduceMul, Nat.reduceSub, reduceCtorEq, vres]; rfl) (acc := _) (by simp only [go_sem, Nat.reduceLT, Nat.reduceLeDiff, Nat.reduceEqDiff, Nat.reduceAdd, Nat.reduceMul, Nat.reduceSub, reduceCtorEq, wrap, exOV, exOA, exOC, rowsF_len, hlen, hlen2, hle, hle3, t3, t4, t5, t6, Nat.le_refl]; try rfl) (by simp) (by simp [rootOf, e1, e2])
end Go.Proofs.Ytljhhhlobkoocaa
