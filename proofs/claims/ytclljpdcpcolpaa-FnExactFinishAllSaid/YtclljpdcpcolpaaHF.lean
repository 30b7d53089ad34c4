/- What both FinishAll give. -/
import Derived.Test.YtclljpdcpcolpaaHE
import Derived.Test.YtclljpdcpcolpaaKE
namespace Go.Proofs.Ytclljpdcpcolpaa
open Go Go.RowKit
set_option linter.unusedVariables false
set_option linter.unusedSimpArgs false
set_option maxRecDepth 100000
set_option maxHeartbeats 4000000
attribute [local irreducible] VWP vops vdraw contV contD CallK Guard GuardV NextL Puts Runs RetOK RetQ RetO RetQO thenQ blockQ
attribute [local irreducible] NextN

def hdOf (s : StoreD) (o : Int) : Int := match s.heads[o.toNat]? with
  | some h => h.desc
  | none => 0
/-- Finish the descriptor that lies over the first object over which one lies, so many times at most. -/
noncomputable def finAllF : Nat → StoreD → StoreD × Bool
  | 0, s => (s, (heldL s).isEmpty)
  | m + 1, s => match heldL s with
    | [] => (s, true)
    | o :: _ => finAllF m (finF 2000 s [⟨hdOf s o, 0, 0⟩]).1
noncomputable def finAllR (s : StoreD) : StoreD × Bool := if bP (StoreP s) = true then (if (finAllF 60 s).2 = true then ((finAllF 60 s).1, true) else (s, false)) else (s, false)
theorem heldL_cons {s : StoreD} {o : Int} {rest : List Int} (h : heldL s = o :: rest) : ∃ (k : Nat) (hd : HeadD), StoreP s ∧ o = k ∧ s.heads[k]? = some hd ∧ hdOf s o = hd.desc ∧ stackB s [⟨hd.desc, 0, 0⟩] = true ∧ stuckB s [⟨hd.desc, 0, 0⟩] = false := by
  unfold heldL at h
  split at h
  · rename_i hp
    have hS := bP_iff.1 hp
    have hm : o ∈ heldN s.heads s.heads.length := by rw [h]; exact List.mem_cons_self ..
    unfold heldN at hm
    simp only [List.mem_map, List.mem_filter, List.mem_range] at hm
    obtain ⟨k, ⟨hk, hl⟩, rfl⟩ := hm
    obtain ⟨hd, hh⟩ : ∃ hd, s.heads[k]? = some hd := ⟨_, List.getElem?_eq_getElem hk⟩
    simp only [liesB, hh, decide_eq_true_eq] at hl
    have hb := hS.2.2.2.2 k hd hh
    unfold headB at hb
    simp only [Bool.and_eq_true] at hb
    have hd2 := hb.1.2
    refine ⟨k, hd, hS, rfl, hh, by simp [hdOf, hh], ?_, ?_⟩
    · simp [inB] at hd2
      simp [stackB, hp, stB, frmB, inB]
      omega
    · simp [stuckB]
  · cases h
theorem finAll_step {m : Nat} {s : StoreD} {o : Int} {rest : List Int} (h : heldL s = o :: rest) : finAllF (m + 1) s = finAllF m (finF 2000 s [⟨hdOf s o, 0, 0⟩]).1 := by rw [finAllF, h]
theorem finAll_nil {m : Nat} {s : StoreD} (h : heldL s = []) : finAllF m s = (s, true) := by
  cases m with
  | zero => simp [finAllF, h]
  | succ m => rw [finAllF, h]
theorem rowsN_cons (o : Int) (rest : List Int) : (rowsN (o :: rest))[0]? = some [.int .i64 o] := by simp [rowsN, encN]
structure AllJ (s0 : StoreD) (i : Nat) (s : StoreD) : Prop where
  le : i ≤ 60
  tin : s.tiny
  hl : s.heads.length = s0.heads.length
  dl : s.descs.length = s0.descs.length
  res : finAllF 60 s0 = finAllF (60 - i) s
theorem allJ_step {s0 s : StoreD} {i : Nat} (h : AllJ s0 i s) (hi : i < 60) {o : Int} {rest : List Int} (ho : heldL s = o :: rest) : AllJ s0 (i + 1) (finF 2000 s [⟨hdOf s o, 0, 0⟩]).1 := by
  obtain ⟨k, hd, hS, rfl, hh, hdo, hst, hsk⟩ := heldL_cons ho
  rw [hdo]
  have hI := stack_help hst
  have hk := finF_keeps 2000 hI
  refine ⟨hi, finF_tiny 2000 hI h.tin, by rw [← h.hl]; exact hk.hl, by rw [← h.dl]; exact hk.dl, ?_⟩
  rw [h.res, show 60 - i = (60 - (i + 1)) + 1 by omega, finAll_step ho, hdo]
theorem implFinishAll_ok (s0 : StoreD) (hs : s0.tiny) (r : StoreD × Bool) (hr : finAllR s0 = r) :
    SatP Try.prog 50 [.agg (s0.cells 125 62 131)]
      (.tup [.agg [.rf 0 s0.heads.length, .rf 1 s0.descs.length], .bool r.2]) [(125, rowsH r.1.heads), (62, rowsD 131 r.1.descs)] := by
  have hc := implStoreOk_ok s0 hs.small
  have ho := ownStore_ok s0 hs.small
  refine satP_of_body hT Try.func50 (by kernel_rfl) rfl (rs := [.cell 2 44, .tmp 3]) rfl (n := 40) rfl (by simp) rfl (by simp [rowsH_pur, rowsD_pur]) fun E hE => ?_
  unfold St.init
  unfold StoreD.cells at *
  rcases (Bool.eq_false_or_eq_true (bP (StoreP s0))).symm with hp | hp
  · rw [finAllR, if_neg (by rw [hp]; exact fun h => nomatch h)] at hr
    subst hr
    rw [hp] at hc
    have F := And.intro @rowsH_len (And.intro @rowsD_len (And.intro @rowsH_take @rowsD_take))
    repeat' first
      | refine wSq fun _ hK => ?_
      | refine wRg ?_
      | refine wDr ?_
      | refine VWP_block ?_
      | refine VWP_skip ?_
      | refine VWP_exit ?_
      | refine VWP_ret ?_
      | (refine hK _ ?_; clear hK)
      | (clear hK; refine hK _ ?_; clear hK)
      | (clear hK; clear hK; refine hK _ ?_; clear hK)
      | (clear hK; clear hK; clear hK; refine hK _ ?_; clear hK)
      | (simp only [wHb, reduceCtorEq] at hb <;> try (exfalso; omega))
      | refine wCd (fun hb => ?_) fun hb => ?_
      | refine wCa (c := by first | exact hc | exact ho) (k := ?_)
      | simp only [go_sem, Nat.reduceLT, Nat.reduceLeDiff, Nat.reduceEqDiff, Nat.reduceAdd, Nat.reduceMul, Nat.reduceSub, reduceCtorEq, F]
      | simp (disch := omega) only [decide_eq_true_eq, if_pos, if_neg, wrap_id, le_maxLen, and_true, true_and, if_true, ite_true]
      | refine wGd (fun hb => ?_) fun hb => ?_
    refine ret_mk (vs := _) (acc := _) (by simp only [go_sem, Nat.reduceLT, Nat.reduceLeDiff, Nat.reduceEqDiff, Nat.reduceAdd, Nat.reduceMul, Nat.reduceSub, reduceCtorEq, vres]; rfl) (by simp only [go_sem, Nat.reduceLT, Nat.reduceLeDiff, Nat.reduceEqDiff, Nat.reduceAdd, Nat.reduceMul, Nat.reduceSub, reduceCtorEq, wrap, exV, exAs, exA, exCs, exC, rowsH_len, rowsH_take, rowsD_len, rowsD_take, Nat.le_refl]; rfl) (by simp) (by simp) (by simp [rowsH_pur, rowsD_pur])
  · rw [finAllR, if_pos hp] at hr
    rw [hp] at hc
    have F := And.intro @rowsH_len (And.intro @rowsD_len (And.intro @rowsH_take @rowsD_take))
    repeat' first
      | refine wSq fun _ hK => ?_
      | refine wRg ?_
      | refine wDr ?_
      | refine VWP_block ?_
      | refine VWP_skip ?_
      | refine VWP_exit ?_
      | refine VWP_ret ?_
      | (refine hK _ ?_; clear hK)
      | (clear hK; refine hK _ ?_; clear hK)
      | (clear hK; clear hK; refine hK _ ?_; clear hK)
      | (clear hK; clear hK; clear hK; refine hK _ ?_; clear hK)
      | (simp only [wHb, reduceCtorEq] at hb <;> try (exfalso; omega))
      | refine wCd (fun hb => ?_) fun hb => ?_
      | refine wCa (c := by first | exact hc | exact ho) (k := ?_)
      | simp only [go_sem, Nat.reduceLT, Nat.reduceLeDiff, Nat.reduceEqDiff, Nat.reduceAdd, Nat.reduceMul, Nat.reduceSub, reduceCtorEq, F]
      | simp (disch := omega) only [decide_eq_true_eq, if_pos, if_neg, wrap_id, le_maxLen, and_true, true_and, if_true, ite_true]
      | refine wGd (fun hb => ?_) fun hb => ?_
    refine VWP_loopN hE (X := Nat × StoreD) (fun x => [(1, .bp 0 0), (2, .bp 1 0), (4, .bp 4 0), (13, .int .i64 x.1)]) (fun x => [(0, .box [.fr 125 (rowsH s0.heads), .fr 62 (rowsD 131 s0.descs)]), (1, .box [.nl 125, .nl 62]), (4, .box [.rf 2 s0.heads.length, .rf 3 s0.descs.length]), (2, .root 125 (rowsH x.2.heads)), (3, .root 62 (rowsD 131 x.2.descs))])
      (fun x => 60 - x.1) (fun x => AllJ s0 x.1 x.2) [0, 1, 2, 3, 4] (0, s0) ⟨by simp, hs, rfl, rfl, by simp⟩ (by decide) (by decide) (by simp [updV, renV, renA, renC]) (by simp [updH, renH_at, renE, renC, rowsH_pur, rowsD_pur]) ?_
    rintro ⟨i, s⟩ hJ
    have hle : i ≤ 60 := hJ.le
    have hhl : s.heads.length = s0.heads.length := hJ.hl
    have hdl : s.descs.length = s0.descs.length := hJ.dl
    have htin : s.tiny := hJ.tin
    have hres : finAllF 60 s0 = finAllF (60 - i) s := hJ.res
    have hw := wrap_id (x := (i : Int) + 1) (by omega)
    have t1 := rowsH_take s.heads
    have t2 := rowsD_take 131 s.descs
    rw [hhl] at t1
    rw [hdl] at t2
    obtain ⟨hl, hhe⟩ : ∃ l, heldL s = l := ⟨_, rfl⟩
    have hheld := implHeld_ok s hl hhe htin.small
    unfold StoreD.cells at hheld
    rcases Nat.lt_or_ge i 60 with hlt | hge
    · have hlt2 : (i : Int) < 60 := by omega
      cases hl with
      | nil =>
        rw [finAll_nil hhe] at hres
        rw [hres, if_pos rfl] at hr
        subst hr
        have hz0 : (((0 : Nat) : Int) == 0) = true := rfl
        have F := And.intro @rowsH_len (And.intro @rowsD_len (And.intro @rowsN_len (And.intro @rowsH_pur (And.intro @rowsD_pur (And.intro hhl (And.intro hdl (And.intro t1 (And.intro t2 (And.intro hlt2 (And.intro hz0 @Nat.le_refl))))))))))
        repeat' first
          | refine wSq fun _ hK => ?_
          | refine wRg ?_
          | refine wDr ?_
          | refine VWP_block ?_
          | refine VWP_skip ?_
          | refine VWP_exit ?_
          | refine VWP_ret ?_
          | (refine hK _ ?_; clear hK)
          | (clear hK; refine hK _ ?_; clear hK)
          | (clear hK; clear hK; refine hK _ ?_; clear hK)
          | (clear hK; clear hK; clear hK; refine hK _ ?_; clear hK)
          | (simp only [wHb, reduceCtorEq] at hb <;> try (exfalso; omega))
          | refine wCd (fun hb => ?_) fun hb => ?_
          | refine wCa (c := by first | exact hheld) (k := ?_)
          | simp only [go_sem, Nat.reduceLT, Nat.reduceLeDiff, Nat.reduceEqDiff, Nat.reduceAdd, Nat.reduceMul, Nat.reduceSub, reduceCtorEq, F]
          | simp (disch := omega) only [decide_eq_true_eq, if_pos, if_neg, wrap_id, le_maxLen, and_true, true_and, if_true, ite_true]
          | refine wGd (fun hb => ?_) fun hb => ?_
        refine ret_mk (vs := _) (acc := _) (by simp only [go_sem, Nat.reduceLT, Nat.reduceLeDiff, Nat.reduceEqDiff, Nat.reduceAdd, Nat.reduceMul, Nat.reduceSub, reduceCtorEq, vres]; rfl) (by simp only [go_sem, Nat.reduceLT, Nat.reduceLeDiff, Nat.reduceEqDiff, Nat.reduceAdd, Nat.reduceMul, Nat.reduceSub, reduceCtorEq, wrap, exV, exAs, exA, exCs, exC, rowsH_len, rowsD_len, hhl, hdl, t1, t2, Nat.le_refl]; rfl) (by simp) (by simp) (by simp [rowsH_pur, rowsD_pur])
      | cons o rest =>
        have hJ2 := allJ_step hJ hlt hhe
        obtain ⟨k, hd, hS, rfl, hh, hdo, hst, hsk⟩ := heldL_cons hhe
        rw [hdo] at hJ2
        have hI := stack_help hst
        obtain ⟨q, hq⟩ : ∃ q, finF 2000 s [⟨hd.desc, 0, 0⟩] = q := ⟨_, rfl⟩
        have hf := finish_ok s [⟨hd.desc, 0, 0⟩] 2000 hI htin (by omega) (by omega) (by simp) hsk q hq
        rw [hq] at hJ2
        rw [hhl, hdl] at hf
        have hr0 : rowsF [(⟨hd.desc, 0, 0⟩ : FrameD)] = [[.int .i64 hd.desc, .int .i64 0, .int .i64 0]] := rfl
        have hpf := rowsF_pur [(⟨hd.desc, 0, 0⟩ : FrameD)]
        rw [hr0] at hf hpf
        have hk0 : (0 : Int) ≤ (k : Nat) := by omega
        have hkl : k < s0.heads.length := by rw [← hhl]; exact (List.getElem?_eq_some_iff.1 hh).1
        have hre := rowsH_at hh
        have hrn := rowsN_cons (k : Int) rest
        have hne : (((rest.length + 1 : Nat) : Int) == 0) = false := by simp; omega
        have hne2 : (((k : Int) :: rest).length) = rest.length + 1 := rfl
        have hz : 0 < rest.length + 1 := by omega
        have F := And.intro @rowsH_len (And.intro @rowsD_len (And.intro @rowsN_len (And.intro @rowsH_pur (And.intro @rowsD_pur (And.intro hhl (And.intro hdl (And.intro t1 (And.intro t2 (And.intro hlt2 (And.intro hk0 (And.intro hkl (And.intro hre (And.intro hrn (And.intro hne (And.intro hne2 (And.intro hz (And.intro hpf @Nat.le_refl)))))))))))))))))
        repeat' first
          | refine wSq fun _ hK => ?_
          | refine wRg ?_
          | refine VWP_cls hT hM (id := 9) 10 [[0, 1, 2, 3, 4, 5, 6, 7, 8, 9, 10]] (by kernel_rfl) ?_
          | refine And.intro ?_ ?_
          | exact trivial
          | refine wDr ?_
          | refine VWP_block ?_
          | refine VWP_skip ?_
          | refine VWP_exit ?_
          | refine VWP_ret ?_
          | (refine hK _ ?_; clear hK)
          | (clear hK; refine hK _ ?_; clear hK)
          | (clear hK; clear hK; refine hK _ ?_; clear hK)
          | (clear hK; clear hK; clear hK; refine hK _ ?_; clear hK)
          | (simp only [wHb, reduceCtorEq] at hb <;> try (exfalso; omega))
          | refine wCdx (fun hb => ?_) fun hb => ?_
          | refine wCax (c := by first | exact hheld) (k := ?_)
          | refine wOwx [4, 2, 3] (c := by exact hf) (k := ?_)
          | simp only [go_sem, Nat.reduceLT, Nat.reduceLeDiff, Nat.reduceEqDiff, Nat.reduceAdd, Nat.reduceMul, Nat.reduceSub, reduceCtorEq, Int.reduceBEq, Int.reduceBNe, Int.reduceLT, Int.reduceLE, Int.reduceAdd, Int.reduceToNat, F]
          | simp (disch := omega) only [decide_eq_true_eq, if_pos, if_neg, wrap_id, le_maxLen, and_true, true_and, if_true, ite_true]
          | refine wGdx (fun hb => ?_) fun hb => ?_
        exact nextN [] rfl [0, 1, 710, 711, 4] (i + 1, q.1) rfl (by decide) (by decide) hJ2 (by simp only; omega) (by simp [updV, tmL, renV, renA, renC, hw]) (by simp [updH, hpL, renH_at, renE, renC, rowsH_pur, rowsD_pur])
    · obtain rfl : i = 60 := by omega
      have hge2 : ¬ (((60 : Nat) : Int) < 60) := by omega
      have hres2 : finAllF 60 s0 = (s, hl.isEmpty) := by rw [hres, ← hhe]; rfl
      rw [hres2] at hr
      cases hl with
      | nil =>
        rw [if_pos (show (s, ([] : List Int).isEmpty).2 = true from rfl)] at hr
        subst hr
        have hz0 : ¬ (0 : Int) < ((0 : Nat) : Int) := by omega
        have F := And.intro @rowsH_len (And.intro @rowsD_len (And.intro @rowsN_len (And.intro @rowsH_pur (And.intro @rowsD_pur (And.intro hhl (And.intro hdl (And.intro t1 (And.intro t2 (And.intro hge2 (And.intro hz0 @Nat.le_refl))))))))))
        repeat' first
          | refine wSq fun _ hK => ?_
          | refine wRg ?_
          | refine wDr ?_
          | refine VWP_block ?_
          | refine VWP_skip ?_
          | refine VWP_exit ?_
          | refine VWP_ret ?_
          | (refine hK _ ?_; clear hK)
          | (clear hK; refine hK _ ?_; clear hK)
          | (clear hK; clear hK; refine hK _ ?_; clear hK)
          | (clear hK; clear hK; clear hK; refine hK _ ?_; clear hK)
          | (simp only [wHb, reduceCtorEq] at hb <;> try (exfalso; omega))
          | refine wCd (fun hb => ?_) fun hb => ?_
          | refine wCa (c := by first | exact hheld) (k := ?_)
          | simp only [go_sem, Nat.reduceLT, Nat.reduceLeDiff, Nat.reduceEqDiff, Nat.reduceAdd, Nat.reduceMul, Nat.reduceSub, reduceCtorEq, F]
          | simp (disch := omega) only [decide_eq_true_eq, if_pos, if_neg, wrap_id, le_maxLen, and_true, true_and, if_true, ite_true]
          | refine wGd (fun hb => ?_) fun hb => ?_
        refine ret_mk (vs := _) (acc := _) (by simp only [go_sem, Nat.reduceLT, Nat.reduceLeDiff, Nat.reduceEqDiff, Nat.reduceAdd, Nat.reduceMul, Nat.reduceSub, reduceCtorEq, vres]; rfl) (by simp only [go_sem, Nat.reduceLT, Nat.reduceLeDiff, Nat.reduceEqDiff, Nat.reduceAdd, Nat.reduceMul, Nat.reduceSub, reduceCtorEq, wrap, exV, exAs, exA, exCs, exC, rowsH_len, rowsD_len, hhl, hdl, t1, t2, Nat.le_refl]; rfl) (by simp) (by simp) (by simp [rowsH_pur, rowsD_pur])
      | cons o rest =>
        rw [if_neg (fun h => nomatch h)] at hr
        subst hr
        have hz0 : (0 : Int) < (((o :: rest).length : Nat) : Int) := by simp only [List.length_cons]; omega
        have hz1 : (0 : Int) < ((rest.length + 1 : Nat) : Int) := by omega
        have F := And.intro @rowsH_len (And.intro @rowsD_len (And.intro @rowsN_len (And.intro @rowsH_pur (And.intro @rowsD_pur (And.intro @rowsH_take (And.intro @rowsD_take (And.intro hhl (And.intro hdl (And.intro t1 (And.intro t2 (And.intro hge2 (And.intro hz0 (And.intro hz1 @Nat.le_refl)))))))))))))
        repeat' first
          | refine wSq fun _ hK => ?_
          | refine wRg ?_
          | refine wDr ?_
          | refine VWP_block ?_
          | refine VWP_skip ?_
          | refine VWP_exit ?_
          | refine VWP_ret ?_
          | (refine hK _ ?_; clear hK)
          | (clear hK; refine hK _ ?_; clear hK)
          | (clear hK; clear hK; refine hK _ ?_; clear hK)
          | (clear hK; clear hK; clear hK; refine hK _ ?_; clear hK)
          | (simp only [wHb, reduceCtorEq] at hb <;> try (exfalso; omega))
          | refine wCd (fun hb => ?_) fun hb => ?_
          | refine wCa (c := by first | exact hheld | exact ho) (k := ?_)
          | simp only [go_sem, Nat.reduceLT, Nat.reduceLeDiff, Nat.reduceEqDiff, Nat.reduceAdd, Nat.reduceMul, Nat.reduceSub, reduceCtorEq, F]
          | simp (disch := omega) only [decide_eq_true_eq, if_pos, if_neg, wrap_id, le_maxLen, and_true, true_and, if_true, ite_true]
          | refine wGd (fun hb => ?_) fun hb => ?_
        refine ret_mk (vs := _) (acc := _) (by simp only [go_sem, Nat.reduceLT, Nat.reduceLeDiff, Nat.reduceEqDiff, Nat.reduceAdd, Nat.reduceMul, Nat.reduceSub, reduceCtorEq, vres]; rfl) (by simp only [go_sem, Nat.reduceLT, Nat.reduceLeDiff, Nat.reduceEqDiff, Nat.reduceAdd, Nat.reduceMul, Nat.reduceSub, reduceCtorEq, wrap, exV, exAs, exA, exCs, exC, rowsH_len, rowsD_len, rowsH_take, rowsD_take, Nat.le_refl]; rfl) (by simp) (by simp) (by simp [rowsH_pur, rowsD_pur])
theorem finR_at {s : StoreD} {f : FrameD} (h : stackB s [f] = true) : finishR s [f] 2000 = ((finF 2000 s [f]).1, (((finF 2000 s [f]).2.2 : Nat) : Int), decide ((finF 2000 s [f]).2.1 = [])) := by
  unfold finishR
  rw [if_pos (by simp [finOk, h, inB])]
  rfl
theorem specFinishAll_ok (s0 : StoreD) (hs : s0.tiny) (r : StoreD × Bool) (hr : finAllR s0 = r) :
    SatP Try.prog 49 [.agg (s0.cells 125 62 131)]
      (.tup [.agg [.rf 0 s0.heads.length, .rf 1 s0.descs.length], .bool r.2]) [(125, rowsH r.1.heads), (62, rowsD 131 r.1.descs)] := by
  have hc := specStoreOk_ok s0 hs.small
  have ho := l7Copy_ok s0 hs.small
  refine satP_of_body hT Try.func49 (by kernel_rfl) rfl (rs := [.cell 2 44, .tmp 3]) rfl (n := 43) rfl (by simp) rfl (by simp [rowsH_pur, rowsD_pur]) fun E hE => ?_
  unfold St.init
  unfold StoreD.cells at *
  rcases (Bool.eq_false_or_eq_true (bP (StoreP s0))).symm with hp | hp
  · rw [finAllR, if_neg (by rw [hp]; exact fun h => nomatch h)] at hr
    subst hr
    rw [hp] at hc
    have F := And.intro @rowsH_len (And.intro @rowsD_len (And.intro @rowsH_take @rowsD_take))
    repeat' first
      | refine wSq fun _ hK => ?_
      | refine wRg ?_
      | refine wDr ?_
      | refine VWP_block ?_
      | refine VWP_skip ?_
      | refine VWP_exit ?_
      | refine VWP_ret ?_
      | (refine hK _ ?_; clear hK)
      | (clear hK; refine hK _ ?_; clear hK)
      | (clear hK; clear hK; refine hK _ ?_; clear hK)
      | (clear hK; clear hK; clear hK; refine hK _ ?_; clear hK)
      | (simp only [wHb, reduceCtorEq] at hb <;> try (exfalso; omega))
      | refine wCd (fun hb => ?_) fun hb => ?_
      | refine wCa (c := by first | exact hc | exact ho) (k := ?_)
      | simp only [go_sem, Nat.reduceLT, Nat.reduceLeDiff, Nat.reduceEqDiff, Nat.reduceAdd, Nat.reduceMul, Nat.reduceSub, reduceCtorEq, F]
      | simp (disch := omega) only [decide_eq_true_eq, if_pos, if_neg, wrap_id, le_maxLen, and_true, true_and, if_true, ite_true]
      | refine wGd (fun hb => ?_) fun hb => ?_
    refine ret_mk (vs := _) (acc := _) (by simp only [go_sem, Nat.reduceLT, Nat.reduceLeDiff, Nat.reduceEqDiff, Nat.reduceAdd, Nat.reduceMul, Nat.reduceSub, reduceCtorEq, vres]; rfl) (by simp only [go_sem, Nat.reduceLT, Nat.reduceLeDiff, Nat.reduceEqDiff, Nat.reduceAdd, Nat.reduceMul, Nat.reduceSub, reduceCtorEq, wrap, exV, exAs, exA, exCs, exC, rowsH_len, rowsH_take, rowsD_len, rowsD_take, Nat.le_refl]; rfl) (by simp) (by simp) (by simp [rowsH_pur, rowsD_pur])
  · rw [finAllR, if_pos hp] at hr
    rw [hp] at hc
    have F := And.intro @rowsH_len (And.intro @rowsD_len (And.intro @rowsH_take @rowsD_take))
    repeat' first
      | refine wSq fun _ hK => ?_
      | refine wRg ?_
      | refine wDr ?_
      | refine VWP_block ?_
      | refine VWP_skip ?_
      | refine VWP_exit ?_
      | refine VWP_ret ?_
      | (refine hK _ ?_; clear hK)
      | (clear hK; refine hK _ ?_; clear hK)
      | (clear hK; clear hK; refine hK _ ?_; clear hK)
      | (clear hK; clear hK; clear hK; refine hK _ ?_; clear hK)
      | (simp only [wHb, reduceCtorEq] at hb <;> try (exfalso; omega))
      | refine wCd (fun hb => ?_) fun hb => ?_
      | refine wCa (c := by first | exact hc | exact ho) (k := ?_)
      | simp only [go_sem, Nat.reduceLT, Nat.reduceLeDiff, Nat.reduceEqDiff, Nat.reduceAdd, Nat.reduceMul, Nat.reduceSub, reduceCtorEq, F]
      | simp (disch := omega) only [decide_eq_true_eq, if_pos, if_neg, wrap_id, le_maxLen, and_true, true_and, if_true, ite_true]
      | refine wGd (fun hb => ?_) fun hb => ?_
    refine VWP_loopN hE (X := Nat × StoreD) (fun x => [(1, .bp 0 0), (2, .bp 1 0), (4, .bp 4 0), (5, .int .i64 x.1)]) (fun x => [(0, .box [.fr 125 (rowsH s0.heads), .fr 62 (rowsD 131 s0.descs)]), (1, .box [.nl 125, .nl 62]), (4, .box [.rf 2 s0.heads.length, .rf 3 s0.descs.length]), (2, .root 125 (rowsH x.2.heads)), (3, .root 62 (rowsD 131 x.2.descs))])
      (fun x => 60 - x.1) (fun x => AllJ s0 x.1 x.2) [0, 1, 2, 3, 4] (0, s0) ⟨by simp, hs, rfl, rfl, by simp⟩ (by decide) (by decide) (by simp [updV, renV, renA, renC]) (by simp [updH, renH_at, renE, renC, rowsH_pur, rowsD_pur]) ?_
    rintro ⟨i, s⟩ hJ
    have hle : i ≤ 60 := hJ.le
    have hle2 : (i : Int) ≤ 60 := by omega
    have hhl : s.heads.length = s0.heads.length := hJ.hl
    have hdl : s.descs.length = s0.descs.length := hJ.dl
    have htin : s.tiny := hJ.tin
    have hres : finAllF 60 s0 = finAllF (60 - i) s := hJ.res
    have hw := wrap_id (x := (i : Int) + 1) (by omega)
    have t1 := rowsH_take s.heads
    have t2 := rowsD_take 131 s.descs
    rw [hhl] at t1
    rw [hdl] at t2
    obtain ⟨hl, hhe⟩ : ∃ l, heldL s = l := ⟨_, rfl⟩
    have hheld := specHeld_ok s hl hhe htin.small
    unfold StoreD.cells at hheld
    cases hl with
    | nil =>
      rw [finAll_nil hhe] at hres
      rw [hres, if_pos rfl] at hr
      subst hr
      have hz0 : (((0 : Nat) : Int) == 0) = true := rfl
      have F := And.intro @rowsH_len (And.intro @rowsD_len (And.intro @rowsN_len (And.intro @rowsH_pur (And.intro @rowsD_pur (And.intro hhl (And.intro hdl (And.intro t1 (And.intro t2 (And.intro hle2 (And.intro hz0 @Nat.le_refl))))))))))
      repeat' first
        | refine wSq fun _ hK => ?_
        | refine wRg ?_
        | refine wDr ?_
        | refine VWP_block ?_
        | refine VWP_skip ?_
        | refine VWP_exit ?_
        | refine VWP_ret ?_
        | (refine hK _ ?_; clear hK)
        | (clear hK; refine hK _ ?_; clear hK)
        | (clear hK; clear hK; refine hK _ ?_; clear hK)
        | (clear hK; clear hK; clear hK; refine hK _ ?_; clear hK)
        | (simp only [wHb, reduceCtorEq] at hb <;> try (exfalso; omega))
        | refine wCd (fun hb => ?_) fun hb => ?_
        | refine wCa (c := by first | exact hheld) (k := ?_)
        | simp only [go_sem, Nat.reduceLT, Nat.reduceLeDiff, Nat.reduceEqDiff, Nat.reduceAdd, Nat.reduceMul, Nat.reduceSub, reduceCtorEq, F]
        | simp (disch := omega) only [decide_eq_true_eq, if_pos, if_neg, wrap_id, le_maxLen, and_true, true_and, if_true, ite_true]
        | refine wGd (fun hb => ?_) fun hb => ?_
      refine ret_mk (vs := _) (acc := _) (by simp only [go_sem, Nat.reduceLT, Nat.reduceLeDiff, Nat.reduceEqDiff, Nat.reduceAdd, Nat.reduceMul, Nat.reduceSub, reduceCtorEq, vres]; rfl) (by simp only [go_sem, Nat.reduceLT, Nat.reduceLeDiff, Nat.reduceEqDiff, Nat.reduceAdd, Nat.reduceMul, Nat.reduceSub, reduceCtorEq, wrap, exV, exAs, exA, exCs, exC, rowsH_len, rowsD_len, hhl, hdl, t1, t2, Nat.le_refl]; rfl) (by simp) (by simp) (by simp [rowsH_pur, rowsD_pur])
    | cons o rest =>
      have hne : (((rest.length + 1 : Nat) : Int) == 0) = false := by simp; omega
      have hne2 : ((o :: rest).length) = rest.length + 1 := rfl
      rcases Nat.lt_or_ge i 60 with hlt | hge
      · have hl60 : ((i : Int) == 60) = false := by simp; omega
        have hJ2 := allJ_step hJ hlt hhe
        obtain ⟨k, hd, hS, rfl, hh, hdo, hst, hsk⟩ := heldL_cons hhe
        rw [hdo] at hJ2
        obtain ⟨q, hq⟩ : ∃ q, finishR s [⟨hd.desc, 0, 0⟩] 2000 = q := ⟨_, rfl⟩
        have hf := specFinish_ok s [⟨hd.desc, 0, 0⟩] 2000 htin (by simp) q hq
        rw [finR_at hst] at hq
        have hq1 : (finF 2000 s [⟨hd.desc, 0, 0⟩]).1 = q.1 := by rw [← hq]
        rw [hq1] at hJ2
        unfold StoreD.cells at hf
        rw [hhl, hdl] at hf
        have hr0 : rowsF [(⟨hd.desc, 0, 0⟩ : FrameD)] = [[.int .i64 hd.desc, .int .i64 0, .int .i64 0]] := rfl
        have hpf := rowsF_pur [(⟨hd.desc, 0, 0⟩ : FrameD)]
        rw [hr0] at hf hpf
        have hk0 : (0 : Int) ≤ (k : Nat) := by omega
        have hkl : k < s0.heads.length := by rw [← hhl]; exact (List.getElem?_eq_some_iff.1 hh).1
        have hre := rowsH_at hh
        have hrn := rowsN_cons (k : Int) rest
        have hz : 0 < rest.length + 1 := by omega
        have F := And.intro @rowsH_len (And.intro @rowsD_len (And.intro @rowsN_len (And.intro @rowsH_pur (And.intro @rowsD_pur (And.intro hhl (And.intro hdl (And.intro t1 (And.intro t2 (And.intro hle2 (And.intro hl60 (And.intro hk0 (And.intro hkl (And.intro hre (And.intro hrn (And.intro hne (And.intro hne2 (And.intro hz (And.intro hpf @Nat.le_refl))))))))))))))))))
        repeat' first
          | refine wSq fun _ hK => ?_
          | refine wRg ?_
          | refine wDr ?_
          | refine VWP_block ?_
          | refine VWP_skip ?_
          | refine VWP_exit ?_
          | refine VWP_ret ?_
          | (refine hK _ ?_; clear hK)
          | (clear hK; refine hK _ ?_; clear hK)
          | (clear hK; clear hK; refine hK _ ?_; clear hK)
          | (clear hK; clear hK; clear hK; refine hK _ ?_; clear hK)
          | (simp only [wHb, reduceCtorEq] at hb <;> try (exfalso; omega))
          | refine wCdx (fun hb => ?_) fun hb => ?_
          | refine wCax (c := by first | exact hheld | exact hf) (k := ?_)
          | simp only [go_sem, Nat.reduceLT, Nat.reduceLeDiff, Nat.reduceEqDiff, Nat.reduceAdd, Nat.reduceMul, Nat.reduceSub, reduceCtorEq, Int.reduceBEq, Int.reduceBNe, Int.reduceLT, Int.reduceLE, Int.reduceAdd, Int.reduceToNat, F]
          | simp (disch := omega) only [decide_eq_true_eq, if_pos, if_neg, wrap_id, le_maxLen, and_true, true_and, if_true, ite_true]
          | refine wGdx (fun hb => ?_) fun hb => ?_
        exact nextN [] rfl [0, 1, 710, 711, 4] (i + 1, q.1) rfl (by decide) (by decide) hJ2 (by simp only; omega) (by simp [updV, tmL, renV, renA, renC, hw]) (by simp [updH, hpL, renH_at, renE, renC, rowsH_pur, rowsD_pur])
      · obtain rfl : i = 60 := by omega
        have hl60 : (((60 : Nat) : Int) == 60) = true := rfl
        have hres2 : finAllF 60 s0 = (s, false) := by rw [hres]; simp [finAllF, hhe]
        rw [hres2, if_neg (fun h => nomatch h)] at hr
        subst hr
        have F := And.intro @rowsH_len (And.intro @rowsD_len (And.intro @rowsN_len (And.intro @rowsH_pur (And.intro @rowsD_pur (And.intro @rowsH_take (And.intro @rowsD_take (And.intro hhl (And.intro hdl (And.intro t1 (And.intro t2 (And.intro hle2 (And.intro hl60 (And.intro hne (And.intro hne2 @Nat.le_refl))))))))))))))
        repeat' first
          | refine wSq fun _ hK => ?_
          | refine wRg ?_
          | refine wDr ?_
          | refine VWP_block ?_
          | refine VWP_skip ?_
          | refine VWP_exit ?_
          | refine VWP_ret ?_
          | (refine hK _ ?_; clear hK)
          | (clear hK; refine hK _ ?_; clear hK)
          | (clear hK; clear hK; refine hK _ ?_; clear hK)
          | (clear hK; clear hK; clear hK; refine hK _ ?_; clear hK)
          | (simp only [wHb, reduceCtorEq] at hb <;> try (exfalso; omega))
          | refine wCd (fun hb => ?_) fun hb => ?_
          | refine wCa (c := by first | exact hheld | exact ho) (k := ?_)
          | simp only [go_sem, Nat.reduceLT, Nat.reduceLeDiff, Nat.reduceEqDiff, Nat.reduceAdd, Nat.reduceMul, Nat.reduceSub, reduceCtorEq, F]
          | simp (disch := omega) only [decide_eq_true_eq, if_pos, if_neg, wrap_id, le_maxLen, and_true, true_and, if_true, ite_true]
          | refine wGd (fun hb => ?_) fun hb => ?_
        refine ret_mk (vs := _) (acc := _) (by simp only [go_sem, Nat.reduceLT, Nat.reduceLeDiff, Nat.reduceEqDiff, Nat.reduceAdd, Nat.reduceMul, Nat.reduceSub, reduceCtorEq, vres]; rfl) (by simp only [go_sem, Nat.reduceLT, Nat.reduceLeDiff, Nat.reduceEqDiff, Nat.reduceAdd, Nat.reduceMul, Nat.reduceSub, reduceCtorEq, wrap, exV, exAs, exA, exCs, exC, rowsH_len, rowsD_len, rowsH_take, rowsD_take, Nat.le_refl]; rfl) (by simp) (by simp) (by simp [rowsH_pur, rowsD_pur])
end Go.Proofs.Ytclljpdcpcolpaa
