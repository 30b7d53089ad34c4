/- One step of a stack: the reference's. -/
import Derived.Test.YtmiojnibngncaaaHA
import Derived.Test.YtmiojnibngncaaaEK
import Derived.Test.YtmiojnibngncaaaEc
namespace Go.Proofs.Ytmiojnibngncaaa
open Go Go.RowKit
set_option linter.unusedVariables false
set_option linter.unusedSimpArgs false
set_option maxRecDepth 100000
set_option maxHeartbeats 4000000
attribute [local irreducible] VWP vops vdraw contV contD CallK Guard GuardV NextL Puts Runs RetOK RetQ RetO RetQO thenQ blockQ

theorem rowsF_mid (xs ys : List FrameD) (f : FrameD) : (rowsF (xs ++ f :: ys))[xs.length]? = some [.int .i64 f.desc, .int .i64 f.phase, .int .i64 f.place] := rowsF_at (by simp)
theorem rowsF_put (xs ys : List FrameD) (f g : FrameD) : (rowsF (xs ++ f :: ys)).set xs.length [.int .i64 g.desc, .int .i64 g.phase, .int .i64 g.place] = rowsF (xs ++ g :: ys) := by
  rw [rowsF_set]
  simp
theorem rowsF_more (xs ys : List FrameD) (f : FrameD) (m : Int) : (rowsF (xs ++ f :: ys)).take (xs.length + 1) ++ [[.int .i64 m, .int .i64 0, .int .i64 0]] = rowsF (xs ++ [f, ⟨m, 0, 0⟩]) := by
  have : xs ++ f :: ys = (xs ++ [f]) ++ ys := by simp
  rw [this, show rowsF ((xs ++ [f]) ++ ys) = rowsF (xs ++ [f]) ++ rowsF ys by simp [rowsF], List.take_left' (by simp [rowsF])]
  simp [rowsF, FrameD.enc]
theorem l8Nil_ok (s : StoreD) (junk : List FrameD) (hs : s.small) :
    SatO Try.prog 79 [.agg [.rf 0 s.heads.length, .rf 1 s.descs.length], .rf 2 0] [.root 147 (rowsH s.heads), .root 37 (rowsD 96 s.descs), .root 118 (rowsF junk)]
      (.rf 2 0) [.root 147 (rowsH s.heads), .root 37 (rowsD 96 s.descs), .root 118 (rowsF junk)] := by
  refine satO_of_body hT Try.func79 (by kernel_rfl) rfl (rs := [.tmp 4]) rfl (n := 49) rfl (by simp) rfl (m := 3) rfl ⟨⟨rfl, rowsH_pur _⟩, ⟨rfl, rowsD_pur _ _⟩, ⟨rfl, rowsF_pur _⟩, by simp [keptL]⟩ fun E hE => ?_
  unfold St.initO
  have hneg : IntKind.i64.wrap (((0 : Nat) : Int) - 1) = -1 := by decide
  have hneg2 : IntKind.i64.wrap ((0 : Int) - 1) = -1 := by decide
  have F := And.intro @rowsH_len (And.intro @rowsD_len (And.intro @rowsF_len (And.intro hneg hneg2)))
  repeat' first
    | refine wSq fun _ hK => ?_
    | refine wRg ?_
    | refine wDr ?_
    | refine VWP_block ?_
    | refine VWP_skip ?_
    | refine VWP_exit ?_
    | refine VWP_ret ?_
    | (refine hK _ ?_; clear hK)
    | (clear hK; refine hK _ ?_; clear hK)
    | (clear hK; clear hK; refine hK _ ?_; clear hK)
    | (clear hK; clear hK; clear hK; refine hK _ ?_; clear hK)
    | (simp only [wHb, reduceCtorEq] at hb <;> try (exfalso; omega))
    | refine wCdx (fun hb => ?_) fun hb => ?_
    | simp only [go_sem, Nat.reduceLT, Nat.reduceLeDiff, Nat.reduceEqDiff, Nat.reduceAdd, Nat.reduceMul, Nat.reduceSub, reduceCtorEq, Int.reduceBEq, Int.reduceBNe, Int.reduceLT, Int.reduceLE, Int.reduceAdd, Int.reduceToNat, F]
    | simp (disch := omega) only [decide_eq_true_eq, if_pos, if_neg, wrap_id, le_maxLen, and_true, true_and, if_true, ite_true]
    | refine wGdx (fun hb => ?_) fun hb => ?_
  refine retO_mk [] rfl [.root 147 (rowsH s.heads), .root 37 (rowsD 96 s.descs), .root 118 (rowsF junk)] rfl (by simp [keepsL, updH, HpE]) rfl (by simp only [go_sem, Nat.reduceLT, Nat.reduceLeDiff, Nat.reduceEqDiff, Nat.reduceAdd, Nat.reduceMul, Nat.reduceSub, reduceCtorEq, vres]; rfl) (acc := []) rfl (by simp) rfl
theorem l8Full_ok (s : StoreD) (init junk : List FrameD) (f : FrameD) (k : Nat) (d : DescS) (j : Nat) (e : EntS) (o : Nat) (h : HeadD) (ha : AtP s f k d j e o h) (hv0 : 0 ≤ h.version) (hv1 : h.version ≤ 1000000) (hs : s.small) (r : StoreD × FrameD × Int) (hr : driveM s f k d e o h = r) (hm : 0 ≤ r.2.2) (hn : init.length + 1 = 130) :
    SatO Try.prog 79 [.agg [.rf 0 s.heads.length, .rf 1 s.descs.length], .rf 2 (init.length + 1)] [.root 147 (rowsH s.heads), .root 37 (rowsD 96 s.descs), .root 118 (rowsF (init ++ f :: junk))]
      (.rf 2 (init.length + 1)) [.root 147 (rowsH r.1.heads), .root 37 (rowsD 96 r.1.descs), .root 118 (rowsF (init ++ f :: junk))] := by
  have hl := l7Drive_ok s f k d j e o h ha hv0 hv1 hs r hr
  have hsub : IntKind.i64.wrap (((init.length + 1 : Nat) : Int) - 1) = init.length := by rw [wrap_id (by omega)]; omega
  have hadd : IntKind.i64.wrap ((init.length : Int) + 1) = init.length + 1 := wrap_id (by omega)
  have hk0 : (0 : Int) ≤ (init.length : Nat) := by omega
  have hlt : init.length < (init ++ f :: junk).length := by simp
  have hmid := rowsF_mid init junk f
  have hput := rowsF_put init junk f r.2.1
  have hmore := rowsF_more init junk r.2.1 r.2.2
  have hle : init.length + 1 ≤ (init ++ f :: junk).length := by simp
  have hle2 : init.length + 1 ≤ (init ++ r.2.1 :: junk).length := by simp
  have hle3 : init.length + 1 + 1 ≤ (init ++ [r.2.1, ⟨r.2.2, 0, 0⟩]).length := by simp
  have hle4 : init.length ≤ (init ++ r.2.1 :: junk).length := by simp
  have hle5 := hle
  have t6 : (rowsF (init ++ [r.2.1, ⟨r.2.2, 0, 0⟩])).take (init.length + 1 + 1) = rowsF (init ++ [r.2.1, ⟨r.2.2, 0, 0⟩]) := by rw [List.take_of_length_le (by rw [rowsF_len]; simp)]
  have hnq : ((init.length : Int) + 1 == 130) = true := by simp; omega
  refine satO_of_body hT Try.func79 (by kernel_rfl) rfl (rs := [.tmp 4]) rfl (n := 49) rfl (by simp) rfl (m := 3) rfl ⟨⟨rfl, rowsH_pur _⟩, ⟨rfl, rowsD_pur _ _⟩, ⟨rfl, rowsF_pur _⟩, by simp [keptL, newOk, rowsF_pur]⟩ fun E hE => ?_
  unfold St.initO
  unfold FrameD.cells at hl
  have F := And.intro @rowsH_len (And.intro @rowsD_len (And.intro @rowsF_len (And.intro @rowsH_pur (And.intro @rowsD_pur (And.intro hsub (And.intro hadd (And.intro hk0 (And.intro hlt (And.intro hmid (And.intro hput (And.intro hmore (And.intro hle (And.intro hle2 (And.intro hle4 (And.intro @Nat.le_refl (And.intro hm hnq))))))))))))))))
  repeat' first
    | refine wSq fun _ hK => ?_
    | refine wRg ?_
    | refine VWP_cls hT hM (id := 4) 5 [[0, 1, 2, 3, 4, 5, 6, 7, 8, 9, 10, 11], [0, 1, 2, 3, 4, 9, 5, 6, 7, 8, 10, 11]] (by kernel_rfl) ?_
    | refine And.intro ?_ ?_
    | exact trivial
    | refine wDr ?_
    | refine VWP_block ?_
    | refine VWP_skip ?_
    | refine VWP_exit ?_
    | refine VWP_ret ?_
    | (refine hK _ ?_; clear hK)
    | (clear hK; refine hK _ ?_; clear hK)
    | (clear hK; clear hK; refine hK _ ?_; clear hK)
    | (clear hK; clear hK; clear hK; refine hK _ ?_; clear hK)
    | (simp only [wHb, reduceCtorEq] at hb <;> try (exfalso; omega))
    | (refine VWP_cond2 true ?_ ?_ (fun hh => nomatch hh); focus (simp only [go_sem, Nat.reduceLT, Nat.reduceLeDiff, Nat.reduceEqDiff, Nat.reduceAdd, Nat.reduceMul, Nat.reduceSub, reduceCtorEq, F]; done); intro _)
    | (refine VWP_cond2 false ?_ (fun hh => nomatch hh) ?_; focus (simp only [go_sem, Nat.reduceLT, Nat.reduceLeDiff, Nat.reduceEqDiff, Nat.reduceAdd, Nat.reduceMul, Nat.reduceSub, reduceCtorEq, F]; done); intro _)
    | refine wCd (fun hb => ?_) fun hb => ?_
    | refine wOw [0, 1] (c := by exact hl) (k := ?_)
    | simp only [go_sem, Nat.reduceLT, Nat.reduceLeDiff, Nat.reduceEqDiff, Nat.reduceAdd, Nat.reduceMul, Nat.reduceSub, reduceCtorEq, F]
    | simp (disch := omega) only [decide_eq_true_eq, if_pos, if_neg, wrap_id, le_maxLen, and_true, true_and, if_true, ite_true]
    | refine wGd (fun hb => ?_) fun hb => ?_
  all_goals skip
  all_goals refine retO_mk [] rfl [.root 147 (rowsH r.1.heads), .root 37 (rowsD 96 r.1.descs), .root 118 (rowsF (init ++ f :: junk))] rfl (by simp [keepsL, updH, HpE, hput]) rfl (by simp only [go_sem, Nat.reduceLT, Nat.reduceLeDiff, Nat.reduceEqDiff, Nat.reduceAdd, Nat.reduceMul, Nat.reduceSub, reduceCtorEq, vres]; rfl) (acc := _) (by simp only [go_sem, Nat.reduceLT, Nat.reduceLeDiff, Nat.reduceEqDiff, Nat.reduceAdd, Nat.reduceMul, Nat.reduceSub, reduceCtorEq, wrap, exOV, exOA, exOC, rowsF_len, Nat.le_refl, hle3, hle4, hle5, t6]; try rfl) (by simp) (by simp [rootOf])
theorem l8Push_ok (s : StoreD) (init junk : List FrameD) (f : FrameD) (k : Nat) (d : DescS) (j : Nat) (e : EntS) (o : Nat) (h : HeadD) (ha : AtP s f k d j e o h) (hv0 : 0 ≤ h.version) (hv1 : h.version ≤ 1000000) (hs : s.small) (r : StoreD × FrameD × Int) (hr : driveM s f k d e o h = r) (hm : 0 ≤ r.2.2) (hn : init.length + 1 < 130) :
    SatO Try.prog 79 [.agg [.rf 0 s.heads.length, .rf 1 s.descs.length], .rf 2 (init.length + 1)] [.root 147 (rowsH s.heads), .root 37 (rowsD 96 s.descs), .root 118 (rowsF (init ++ f :: junk))]
      (.rf 3 (init.length + 1 + 1)) [.root 147 (rowsH r.1.heads), .root 37 (rowsD 96 r.1.descs), .dead, .root 118 (rowsF (init ++ [r.2.1, ⟨r.2.2, 0, 0⟩]))] := by
  have hl := l7Drive_ok s f k d j e o h ha hv0 hv1 hs r hr
  have hsub : IntKind.i64.wrap (((init.length + 1 : Nat) : Int) - 1) = init.length := by rw [wrap_id (by omega)]; omega
  have hadd : IntKind.i64.wrap ((init.length : Int) + 1) = init.length + 1 := wrap_id (by omega)
  have hk0 : (0 : Int) ≤ (init.length : Nat) := by omega
  have hlt : init.length < (init ++ f :: junk).length := by simp
  have hmid := rowsF_mid init junk f
  have hput := rowsF_put init junk f r.2.1
  have hmore := rowsF_more init junk r.2.1 r.2.2
  have hle : init.length + 1 ≤ (init ++ f :: junk).length := by simp
  have hle2 : init.length + 1 ≤ (init ++ r.2.1 :: junk).length := by simp
  have hle3 : init.length + 1 + 1 ≤ (init ++ [r.2.1, ⟨r.2.2, 0, 0⟩]).length := by simp
  have hle4 : init.length ≤ (init ++ r.2.1 :: junk).length := by simp
  have hle5 := hle
  have t6 : (rowsF (init ++ [r.2.1, ⟨r.2.2, 0, 0⟩])).take (init.length + 1 + 1) = rowsF (init ++ [r.2.1, ⟨r.2.2, 0, 0⟩]) := by rw [List.take_of_length_le (by rw [rowsF_len]; simp)]
  have hnq : ((init.length : Int) + 1 == 130) = false := by simp; omega
  refine satO_of_body hT Try.func79 (by kernel_rfl) rfl (rs := [.tmp 4]) rfl (n := 49) rfl (by simp) rfl (m := 3) rfl ⟨⟨rfl, rowsH_pur _⟩, ⟨rfl, rowsD_pur _ _⟩, trivial, by simp [keptL, newOk, rowsF_pur]⟩ fun E hE => ?_
  unfold St.initO
  unfold FrameD.cells at hl
  have F := And.intro @rowsH_len (And.intro @rowsD_len (And.intro @rowsF_len (And.intro @rowsH_pur (And.intro @rowsD_pur (And.intro hsub (And.intro hadd (And.intro hk0 (And.intro hlt (And.intro hmid (And.intro hput (And.intro hmore (And.intro hle (And.intro hle2 (And.intro hle4 (And.intro @Nat.le_refl (And.intro hm hnq))))))))))))))))
  repeat' first
    | refine wSq fun _ hK => ?_
    | refine wRg ?_
    | refine VWP_cls hT hM (id := 4) 5 [[0, 1, 2, 3, 4, 5, 6, 7, 8, 9, 10, 11], [0, 1, 2, 3, 4, 9, 5, 6, 7, 8, 10, 11]] (by kernel_rfl) ?_
    | refine And.intro ?_ ?_
    | exact trivial
    | refine wDr ?_
    | refine VWP_block ?_
    | refine VWP_skip ?_
    | refine VWP_exit ?_
    | refine VWP_ret ?_
    | (refine hK _ ?_; clear hK)
    | (clear hK; refine hK _ ?_; clear hK)
    | (clear hK; clear hK; refine hK _ ?_; clear hK)
    | (clear hK; clear hK; clear hK; refine hK _ ?_; clear hK)
    | (simp only [wHb, reduceCtorEq] at hb <;> try (exfalso; omega))
    | (refine VWP_cond2 true ?_ ?_ (fun hh => nomatch hh); focus (simp only [go_sem, Nat.reduceLT, Nat.reduceLeDiff, Nat.reduceEqDiff, Nat.reduceAdd, Nat.reduceMul, Nat.reduceSub, reduceCtorEq, F]; done); intro _)
    | (refine VWP_cond2 false ?_ (fun hh => nomatch hh) ?_; focus (simp only [go_sem, Nat.reduceLT, Nat.reduceLeDiff, Nat.reduceEqDiff, Nat.reduceAdd, Nat.reduceMul, Nat.reduceSub, reduceCtorEq, F]; done); intro _)
    | refine wCd (fun hb => ?_) fun hb => ?_
    | refine wOw [0, 1] (c := by exact hl) (k := ?_)
    | simp only [go_sem, Nat.reduceLT, Nat.reduceLeDiff, Nat.reduceEqDiff, Nat.reduceAdd, Nat.reduceMul, Nat.reduceSub, reduceCtorEq, F]
    | simp (disch := omega) only [decide_eq_true_eq, if_pos, if_neg, wrap_id, le_maxLen, and_true, true_and, if_true, ite_true]
    | refine wGd (fun hb => ?_) fun hb => ?_
  all_goals skip
  all_goals refine retO_mk [] rfl [.root 147 (rowsH r.1.heads), .root 37 (rowsD 96 r.1.descs), .dead] rfl (by simp [keepsL, updH, HpE, hput]) rfl (by simp only [go_sem, Nat.reduceLT, Nat.reduceLeDiff, Nat.reduceEqDiff, Nat.reduceAdd, Nat.reduceMul, Nat.reduceSub, reduceCtorEq, vres]; rfl) (acc := _) (by simp only [go_sem, Nat.reduceLT, Nat.reduceLeDiff, Nat.reduceEqDiff, Nat.reduceAdd, Nat.reduceMul, Nat.reduceSub, reduceCtorEq, wrap, exOV, exOA, exOC, rowsF_len, Nat.le_refl, hle3, hle4, hle5, t6]; try rfl) (by simp) (by simp [rootOf])
theorem l8Pop_ok (s : StoreD) (init junk : List FrameD) (f : FrameD) (k : Nat) (d : DescS) (j : Nat) (e : EntS) (o : Nat) (h : HeadD) (ha : AtP s f k d j e o h) (hv0 : 0 ≤ h.version) (hv1 : h.version ≤ 1000000) (hs : s.small) (r : StoreD × FrameD × Int) (hr : driveM s f k d e o h = r) (hm : ¬ 0 ≤ r.2.2) (h5 : r.2.1.phase = 5) (hn : init.length + 1 ≤ 130) :
    SatO Try.prog 79 [.agg [.rf 0 s.heads.length, .rf 1 s.descs.length], .rf 2 (init.length + 1)] [.root 147 (rowsH s.heads), .root 37 (rowsD 96 s.descs), .root 118 (rowsF (init ++ f :: junk))]
      (.rf 2 init.length) [.root 147 (rowsH r.1.heads), .root 37 (rowsD 96 r.1.descs), .root 118 (rowsF (init ++ r.2.1 :: junk))] := by
  have hl := l7Drive_ok s f k d j e o h ha hv0 hv1 hs r hr
  have hsub : IntKind.i64.wrap (((init.length + 1 : Nat) : Int) - 1) = init.length := by rw [wrap_id (by omega)]; omega
  have hadd : IntKind.i64.wrap ((init.length : Int) + 1) = init.length + 1 := wrap_id (by omega)
  have hk0 : (0 : Int) ≤ (init.length : Nat) := by omega
  have hlt : init.length < (init ++ f :: junk).length := by simp
  have hmid := rowsF_mid init junk f
  have hput := rowsF_put init junk f r.2.1
  have hmore := rowsF_more init junk r.2.1 r.2.2
  have hle : init.length + 1 ≤ (init ++ f :: junk).length := by simp
  have hle2 : init.length + 1 ≤ (init ++ r.2.1 :: junk).length := by simp
  have hle3 : init.length + 1 + 1 ≤ (init ++ [r.2.1, ⟨r.2.2, 0, 0⟩]).length := by simp
  have hle4 : init.length ≤ (init ++ r.2.1 :: junk).length := by simp
  have hle5 := hle
  have t6 : (rowsF (init ++ [r.2.1, ⟨r.2.2, 0, 0⟩])).take (init.length + 1 + 1) = rowsF (init ++ [r.2.1, ⟨r.2.2, 0, 0⟩]) := by rw [List.take_of_length_le (by rw [rowsF_len]; simp)]
  have h5q : (r.2.1.phase == 5) = true := by simp [h5]
  refine satO_of_body hT Try.func79 (by kernel_rfl) rfl (rs := [.tmp 4]) rfl (n := 49) rfl (by simp) rfl (m := 3) rfl ⟨⟨rfl, rowsH_pur _⟩, ⟨rfl, rowsD_pur _ _⟩, ⟨rfl, rowsF_pur _⟩, by simp [keptL, newOk, rowsF_pur]⟩ fun E hE => ?_
  unfold St.initO
  unfold FrameD.cells at hl
  have F := And.intro @rowsH_len (And.intro @rowsD_len (And.intro @rowsF_len (And.intro @rowsH_pur (And.intro @rowsD_pur (And.intro hsub (And.intro hadd (And.intro hk0 (And.intro hlt (And.intro hmid (And.intro hput (And.intro hmore (And.intro hle (And.intro hle2 (And.intro hle4 (And.intro @Nat.le_refl (And.intro hm h5q))))))))))))))))
  repeat' first
    | refine wSq fun _ hK => ?_
    | refine wRg ?_
    | refine VWP_cls hT hM (id := 4) 5 [[0, 1, 2, 3, 4, 5, 6, 7, 8, 9, 10, 11], [0, 1, 2, 3, 4, 9, 5, 6, 7, 8, 10, 11]] (by kernel_rfl) ?_
    | refine And.intro ?_ ?_
    | exact trivial
    | refine wDr ?_
    | refine VWP_block ?_
    | refine VWP_skip ?_
    | refine VWP_exit ?_
    | refine VWP_ret ?_
    | (refine hK _ ?_; clear hK)
    | (clear hK; refine hK _ ?_; clear hK)
    | (clear hK; clear hK; refine hK _ ?_; clear hK)
    | (clear hK; clear hK; clear hK; refine hK _ ?_; clear hK)
    | (simp only [wHb, reduceCtorEq] at hb <;> try (exfalso; omega))
    | (refine VWP_cond2 true ?_ ?_ (fun hh => nomatch hh); focus (simp only [go_sem, Nat.reduceLT, Nat.reduceLeDiff, Nat.reduceEqDiff, Nat.reduceAdd, Nat.reduceMul, Nat.reduceSub, reduceCtorEq, F]; done); intro _)
    | (refine VWP_cond2 false ?_ (fun hh => nomatch hh) ?_; focus (simp only [go_sem, Nat.reduceLT, Nat.reduceLeDiff, Nat.reduceEqDiff, Nat.reduceAdd, Nat.reduceMul, Nat.reduceSub, reduceCtorEq, F]; done); intro _)
    | refine wCd (fun hb => ?_) fun hb => ?_
    | refine wOw [0, 1] (c := by exact hl) (k := ?_)
    | simp only [go_sem, Nat.reduceLT, Nat.reduceLeDiff, Nat.reduceEqDiff, Nat.reduceAdd, Nat.reduceMul, Nat.reduceSub, reduceCtorEq, F]
    | simp (disch := omega) only [decide_eq_true_eq, if_pos, if_neg, wrap_id, le_maxLen, and_true, true_and, if_true, ite_true]
    | refine wGd (fun hb => ?_) fun hb => ?_
  all_goals skip
  all_goals refine retO_mk [] rfl [.root 147 (rowsH r.1.heads), .root 37 (rowsD 96 r.1.descs), .root 118 (rowsF (init ++ r.2.1 :: junk))] rfl (by simp [keepsL, updH, HpE, hput]) rfl (by simp only [go_sem, Nat.reduceLT, Nat.reduceLeDiff, Nat.reduceEqDiff, Nat.reduceAdd, Nat.reduceMul, Nat.reduceSub, reduceCtorEq, vres]; rfl) (acc := _) (by simp only [go_sem, Nat.reduceLT, Nat.reduceLeDiff, Nat.reduceEqDiff, Nat.reduceAdd, Nat.reduceMul, Nat.reduceSub, reduceCtorEq, wrap, exOV, exOA, exOC, rowsF_len, Nat.le_refl, hle3, hle4, hle5, t6]; try rfl) (by simp) (by simp [rootOf])
theorem l8Put_ok (s : StoreD) (init junk : List FrameD) (f : FrameD) (k : Nat) (d : DescS) (j : Nat) (e : EntS) (o : Nat) (h : HeadD) (ha : AtP s f k d j e o h) (hv0 : 0 ≤ h.version) (hv1 : h.version ≤ 1000000) (hs : s.small) (r : StoreD × FrameD × Int) (hr : driveM s f k d e o h = r) (hm : ¬ 0 ≤ r.2.2) (h5 : ¬ r.2.1.phase = 5) (hn : init.length + 1 ≤ 130) :
    SatO Try.prog 79 [.agg [.rf 0 s.heads.length, .rf 1 s.descs.length], .rf 2 (init.length + 1)] [.root 147 (rowsH s.heads), .root 37 (rowsD 96 s.descs), .root 118 (rowsF (init ++ f :: junk))]
      (.rf 2 (init.length + 1)) [.root 147 (rowsH r.1.heads), .root 37 (rowsD 96 r.1.descs), .root 118 (rowsF (init ++ r.2.1 :: junk))] := by
  have hl := l7Drive_ok s f k d j e o h ha hv0 hv1 hs r hr
  have hsub : IntKind.i64.wrap (((init.length + 1 : Nat) : Int) - 1) = init.length := by rw [wrap_id (by omega)]; omega
  have hadd : IntKind.i64.wrap ((init.length : Int) + 1) = init.length + 1 := wrap_id (by omega)
  have hk0 : (0 : Int) ≤ (init.length : Nat) := by omega
  have hlt : init.length < (init ++ f :: junk).length := by simp
  have hmid := rowsF_mid init junk f
  have hput := rowsF_put init junk f r.2.1
  have hmore := rowsF_more init junk r.2.1 r.2.2
  have hle : init.length + 1 ≤ (init ++ f :: junk).length := by simp
  have hle2 : init.length + 1 ≤ (init ++ r.2.1 :: junk).length := by simp
  have hle3 : init.length + 1 + 1 ≤ (init ++ [r.2.1, ⟨r.2.2, 0, 0⟩]).length := by simp
  have hle4 : init.length ≤ (init ++ r.2.1 :: junk).length := by simp
  have hle5 := hle
  have t6 : (rowsF (init ++ [r.2.1, ⟨r.2.2, 0, 0⟩])).take (init.length + 1 + 1) = rowsF (init ++ [r.2.1, ⟨r.2.2, 0, 0⟩]) := by rw [List.take_of_length_le (by rw [rowsF_len]; simp)]
  have h5q : (r.2.1.phase == 5) = false := by simpa using h5
  refine satO_of_body hT Try.func79 (by kernel_rfl) rfl (rs := [.tmp 4]) rfl (n := 49) rfl (by simp) rfl (m := 3) rfl ⟨⟨rfl, rowsH_pur _⟩, ⟨rfl, rowsD_pur _ _⟩, ⟨rfl, rowsF_pur _⟩, by simp [keptL, newOk, rowsF_pur]⟩ fun E hE => ?_
  unfold St.initO
  unfold FrameD.cells at hl
  have F := And.intro @rowsH_len (And.intro @rowsD_len (And.intro @rowsF_len (And.intro @rowsH_pur (And.intro @rowsD_pur (And.intro hsub (And.intro hadd (And.intro hk0 (And.intro hlt (And.intro hmid (And.intro hput (And.intro hmore (And.intro hle (And.intro hle2 (And.intro hle4 (And.intro @Nat.le_refl (And.intro hm h5q))))))))))))))))
  repeat' first
    | refine wSq fun _ hK => ?_
    | refine wRg ?_
    | refine VWP_cls hT hM (id := 4) 5 [[0, 1, 2, 3, 4, 5, 6, 7, 8, 9, 10, 11], [0, 1, 2, 3, 4, 9, 5, 6, 7, 8, 10, 11]] (by kernel_rfl) ?_
    | refine And.intro ?_ ?_
    | exact trivial
    | refine wDr ?_
    | refine VWP_block ?_
    | refine VWP_skip ?_
    | refine VWP_exit ?_
    | refine VWP_ret ?_
    | (refine hK _ ?_; clear hK)
    | (clear hK; refine hK _ ?_; clear hK)
    | (clear hK; clear hK; refine hK _ ?_; clear hK)
    | (clear hK; clear hK; clear hK; refine hK _ ?_; clear hK)
    | (simp only [wHb, reduceCtorEq] at hb <;> try (exfalso; omega))
    | (refine VWP_cond2 true ?_ ?_ (fun hh => nomatch hh); focus (simp only [go_sem, Nat.reduceLT, Nat.reduceLeDiff, Nat.reduceEqDiff, Nat.reduceAdd, Nat.reduceMul, Nat.reduceSub, reduceCtorEq, F]; done); intro _)
    | (refine VWP_cond2 false ?_ (fun hh => nomatch hh) ?_; focus (simp only [go_sem, Nat.reduceLT, Nat.reduceLeDiff, Nat.reduceEqDiff, Nat.reduceAdd, Nat.reduceMul, Nat.reduceSub, reduceCtorEq, F]; done); intro _)
    | refine wCd (fun hb => ?_) fun hb => ?_
    | refine wOw [0, 1] (c := by exact hl) (k := ?_)
    | simp only [go_sem, Nat.reduceLT, Nat.reduceLeDiff, Nat.reduceEqDiff, Nat.reduceAdd, Nat.reduceMul, Nat.reduceSub, reduceCtorEq, F]
    | simp (disch := omega) only [decide_eq_true_eq, if_pos, if_neg, wrap_id, le_maxLen, and_true, true_and, if_true, ite_true]
    | refine wGd (fun hb => ?_) fun hb => ?_
  all_goals skip
  all_goals refine retO_mk [] rfl [.root 147 (rowsH r.1.heads), .root 37 (rowsD 96 r.1.descs), .root 118 (rowsF (init ++ r.2.1 :: junk))] rfl (by simp [keepsL, updH, HpE, hput]) rfl (by simp only [go_sem, Nat.reduceLT, Nat.reduceLeDiff, Nat.reduceEqDiff, Nat.reduceAdd, Nat.reduceMul, Nat.reduceSub, reduceCtorEq, vres]; rfl) (acc := _) (by simp only [go_sem, Nat.reduceLT, Nat.reduceLeDiff, Nat.reduceEqDiff, Nat.reduceAdd, Nat.reduceMul, Nat.reduceSub, reduceCtorEq, wrap, exOV, exOA, exOC, rowsF_len, Nat.le_refl, hle3, hle4, hle5, t6]; try rfl) (by simp) (by simp [rootOf])
end Go.Proofs.Ytmiojnibngncaaa
