/- Several texts in one: HF MHe HI CH. -/
import Derived.Test.YtljhhhlobkoocaaFb
import Derived.Test.YtljhhhlobkoocaaFa
import Derived.Test.YtljhhhlobkoocaaCC
/- What both FinishAll give. -/
namespace Go.Proofs.Ytljhhhlobkoocaa
open Go Go.RowKit
set_option linter.unusedVariables false
set_option linter.unusedSimpArgs false
set_option maxRecDepth 100000
set_option maxHeartbeats 4000000
attribute [local irreducible] VWP vops vdraw contV contD CallK Guard GuardV NextL Puts Runs RetOK RetQ RetO RetQO thenQ blockQ
attribute [local irreducible] NextN

def hdOf (s : StoreD) (o : Int) : Int := match s.heads[o.toNat]? with
  | some h => h.desc
  | none => 0
/-- Finish the descriptor that lies over the first object over which one lies, so many times at most. -/
noncomputable def finAllF : Nat → StoreD → StoreD × Bool
  | 0, s => (s, (heldL s).isEmpty)
  | m + 1, s => match heldL s with
    | [] => (s, true)
    | o :: _ => finAllF m (finF 2000 s [⟨hdOf s o, 0, 0⟩]).1
noncomputable def finAllR (s : StoreD) : StoreD × Bool := if bP (StoreP s) = true then (if (finAllF 60 s).2 = true then ((finAllF 60 s).1, true) else (s, false)) else (s, false)
theorem heldL_cons {s : StoreD} {o : Int} {rest : List Int} (h : heldL s = o :: rest) : ∃ (k : Nat) (hd : HeadD), StoreP s ∧ o = k ∧ s.heads[k]? = some hd ∧ hdOf s o = hd.desc ∧ stackB s [⟨hd.desc, 0, 0⟩] = true ∧ stuckB s [⟨hd.desc, 0, 0⟩] = false := by
  unfold heldL at h
  split at h
  · rename_i hp
    have hS := bP_iff.1 hp
    have hm : o ∈ heldN s.heads s.heads.length := by rw [h]; exact List.mem_cons_self ..
    unfold heldN at hm
    simp only [List.mem_map, List.mem_filter, List.mem_range] at hm
    obtain ⟨k, ⟨hk, hl⟩, rfl⟩ := hm
    obtain ⟨hd, hh⟩ : ∃ hd, s.heads[k]? = some hd := ⟨_, List.getElem?_eq_getElem hk⟩
    simp only [liesB, hh, decide_eq_true_eq] at hl
    have hb := hS.2.2.2.2 k hd hh
    unfold headB at hb
    simp only [Bool.and_eq_true] at hb
    have hd2 := hb.1.2
    refine ⟨k, hd, hS, rfl, hh, by simp [hdOf, hh], ?_, ?_⟩
    · simp [inB] at hd2
      simp [stackB, hp, stB, frmB, inB]
      omega
    · simp [stuckB]
  · cases h
theorem finAll_step {m : Nat} {s : StoreD} {o : Int} {rest : List Int} (h : heldL s = o :: rest) : finAllF (m + 1) s = finAllF m (finF 2000 s [⟨hdOf s o, 0, 0⟩]).1 := by rw [finAllF, h]
theorem finAll_nil {m : Nat} {s : StoreD} (h : heldL s = []) : finAllF m s = (s, true) := by
  cases m with
  | zero => simp [finAllF, h]
  | succ m => rw [finAllF, h]
theorem rowsN_cons (o : Int) (rest : List Int) : (rowsN (o :: rest))[0]? = some [.int .i64 o] := by simp [rowsN, encN]
structure AllJ (s0 : StoreD) (i : Nat) (s : StoreD) : Prop where
  le : i ≤ 60
  tin : s.tiny
  hl : s.heads.length = s0.heads.length
  dl : s.descs.length = s0.descs.length
  res : finAllF 60 s0 = finAllF (60 - i) s
theorem allJ_step {s0 s : StoreD} {i : Nat} (h : AllJ s0 i s) (hi : i < 60) {o : Int} {rest : List Int} (ho : heldL s = o :: rest) : AllJ s0 (i + 1) (finF 2000 s [⟨hdOf s o, 0, 0⟩]).1 := by
  obtain ⟨k, hd, hS, rfl, hh, hdo, hst, hsk⟩ := heldL_cons ho
  rw [hdo]
  have hI := stack_help hst
  have hk := finF_keeps 2000 hI
  refine ⟨hi, finF_tiny 2000 hI h.tin, by rw [← h.hl]; exact hk.hl, by rw [← h.dl]; exact hk.dl, ?_⟩
  rw [h.res, show 60 - i = (60 - (i + 1)) + 1 by omega, finAll_step ho, hdo]
theorem implFinishAll_ok (s0 : StoreD) (hs : s0.tiny) (r : StoreD × Bool) (hr : finAllR s0 = r) :
    SatP Try.prog 15 [.agg (s0.cells 40 38 76)]
      (.tup [.agg [.rf 0 s0.heads.length, .rf 1 s0.descs.length], .bool r.2]) [(40, rowsH r.1.heads), (38, rowsD 76 r.1.descs)] := by
  have hc := implStoreOk_ok s0 hs.small
  have ho := ownStore_ok s0 hs.small
  refine satP_of_body hT Try.func15 (by kernel_rfl) rfl (rs := [.cell 2 27, .tmp 3]) rfl (n := 40) rfl (by simp) rfl (by simp [rowsH_pur, rowsD_pur]) fun E hE => ?_
  unfold St.init
  unfold StoreD.cells at *
  rcases (Bool.eq_false_or_eq_true (bP (StoreP s0))).symm with hp | hp
  · rw [finAllR, if_neg (by rw [hp]; exact fun h => nomatch h)] at hr
    subst hr
    rw [hp] at hc
    have F := And.intro @rowsH_len (And.intro @rowsD_len (And.intro @rowsH_take @rowsD_take))
    repeat' first
      | refine wSq fun _ hK => ?_
      | refine wRg ?_
      | refine wDr ?_
      | refine VWP_block ?_
      | refine VWP_skip ?_
      | refine VWP_exit ?_
      | refine VWP_ret ?_
      | (refine hK _ ?_; clear hK)
      | (clear hK; refine hK _ ?_; clear hK)
      | (clear hK; clear hK; refine hK _ ?_; clear hK)
      | (clear hK; clear hK; clear hK; refine hK _ ?_; clear hK)
      | (simp only [wHb, reduceCtorEq] at hb <;> try (exfalso; omega))
      | refine wCd (fun hb => ?_) fun hb => ?_
      | refine wCa (c := by first | exact hc | exact ho) (k := ?_)
      | simp only [go_sem, Nat.reduceLT, Nat.reduceLeDiff, Nat.reduceEqDiff, Nat.reduceAdd, Nat.reduceMul, Nat.reduceSub, reduceCtorEq, F]
      | simp (disch := omega) only [decide_eq_true_eq, if_pos, if_neg, wrap_id, le_maxLen, and_true, true_and, if_true, ite_true]
      | refine wGd (fun hb => ?_) fun hb => ?_
    refine ret_mk (vs := _) (acc := _) (by simp only [go_sem, Nat.reduceLT, Nat.reduceLeDiff, Nat.reduceEqDiff, Nat.reduceAdd, Nat.reduceMul, Nat.reduceSub, reduceCtorEq, vres]; rfl) (by simp only [go_sem, Nat.reduceLT, Nat.reduceLeDiff, Nat.reduceEqDiff, Nat.reduceAdd, Nat.reduceMul, Nat.reduceSub, reduceCtorEq, wrap, exV, exAs, exA, exCs, exC, rowsH_len, rowsH_take, rowsD_len, rowsD_take, Nat.le_refl]; rfl) (by simp) (by simp) (by simp [rowsH_pur, rowsD_pur])
  · rw [finAllR, if_pos hp] at hr
    rw [hp] at hc
    have F := And.intro @rowsH_len (And.intro @rowsD_len (And.intro @rowsH_take @rowsD_take))
    repeat' first
      | refine wSq fun _ hK => ?_
      | refine wRg ?_
      | refine wDr ?_
      | refine VWP_block ?_
      | refine VWP_skip ?_
      | refine VWP_exit ?_
      | refine VWP_ret ?_
      | (refine hK _ ?_; clear hK)
      | (clear hK; refine hK _ ?_; clear hK)
      | (clear hK; clear hK; refine hK _ ?_; clear hK)
      | (clear hK; clear hK; clear hK; refine hK _ ?_; clear hK)
      | (simp only [wHb, reduceCtorEq] at hb <;> try (exfalso; omega))
      | refine wCd (fun hb => ?_) fun hb => ?_
      | refine wCa (c := by first | exact hc | exact ho) (k := ?_)
      | simp only [go_sem, Nat.reduceLT, Nat.reduceLeDiff, Nat.reduceEqDiff, Nat.reduceAdd, Nat.reduceMul, Nat.reduceSub, reduceCtorEq, F]
      | simp (disch := omega) only [decide_eq_true_eq, if_pos, if_neg, wrap_id, le_maxLen, and_true, true_and, if_true, ite_true]
      | refine wGd (fun hb => ?_) fun hb => ?_
    refine VWP_loopN hE (X := Nat × StoreD) (fun x => [(1, .bp 0 0), (2, .bp 1 0), (4, .bp 4 0), (13, .int .i64 x.1)]) (fun x => [(0, .box [.fr 40 (rowsH s0.heads), .fr 38 (rowsD 76 s0.descs)]), (1, .box [.nl 40, .nl 38]), (4, .box [.rf 2 s0.heads.length, .rf 3 s0.descs.length]), (2, .root 40 (rowsH x.2.heads)), (3, .root 38 (rowsD 76 x.2.descs))])
      (fun x => 60 - x.1) (fun x => AllJ s0 x.1 x.2) [0, 1, 2, 3, 4] (0, s0) ⟨by simp, hs, rfl, rfl, by simp⟩ (by decide) (by decide) (by simp [updV, renV, renA, renC]) (by simp [updH, renH_at, renE, renC, rowsH_pur, rowsD_pur]) ?_
    rintro ⟨i, s⟩ hJ
    have hle : i ≤ 60 := hJ.le
    have hhl : s.heads.length = s0.heads.length := hJ.hl
    have hdl : s.descs.length = s0.descs.length := hJ.dl
    have htin : s.tiny := hJ.tin
    have hres : finAllF 60 s0 = finAllF (60 - i) s := hJ.res
    have hw := wrap_id (x := (i : Int) + 1) (by omega)
    have t1 := rowsH_take s.heads
    have t2 := rowsD_take 76 s.descs
    rw [hhl] at t1
    rw [hdl] at t2
    obtain ⟨hl, hhe⟩ : ∃ l, heldL s = l := ⟨_, rfl⟩
    have hheld := implHeld_ok s hl hhe htin.small
    unfold StoreD.cells at hheld
    rcases Nat.lt_or_ge i 60 with hlt | hge
    · have hlt2 : (i : Int) < 60 := by omega
      cases hl with
      | nil =>
        rw [finAll_nil hhe] at hres
        rw [hres, if_pos rfl] at hr
        subst hr
        have hz0 : (((0 : Nat) : Int) == 0) = true := rfl
        have F := And.intro @rowsH_len (And.intro @rowsD_len (And.intro @rowsN_len (And.intro @rowsH_pur (And.intro @rowsD_pur (And.intro hhl (And.intro hdl (And.intro t1 (And.intro t2 (And.intro hlt2 (And.intro hz0 @Nat.le_refl))))))))))
        repeat' first
          | refine wSq fun _ hK => ?_
          | refine wRg ?_
          | refine wDr ?_
          | refine VWP_block ?_
          | refine VWP_skip ?_
          | refine VWP_exit ?_
          | refine VWP_ret ?_
          | (refine hK _ ?_; clear hK)
          | (clear hK; refine hK _ ?_; clear hK)
          | (clear hK; clear hK; refine hK _ ?_; clear hK)
          | (clear hK; clear hK; clear hK; refine hK _ ?_; clear hK)
          | (simp only [wHb, reduceCtorEq] at hb <;> try (exfalso; omega))
          | refine wCd (fun hb => ?_) fun hb => ?_
          | refine wCa (c := by first | exact hheld) (k := ?_)
          | simp only [go_sem, Nat.reduceLT, Nat.reduceLeDiff, Nat.reduceEqDiff, Nat.reduceAdd, Nat.reduceMul, Nat.reduceSub, reduceCtorEq, F]
          | simp (disch := omega) only [decide_eq_true_eq, if_pos, if_neg, wrap_id, le_maxLen, and_true, true_and, if_true, ite_true]
          | refine wGd (fun hb => ?_) fun hb => ?_
        refine ret_mk (vs := _) (acc := _) (by simp only [go_sem, Nat.reduceLT, Nat.reduceLeDiff, Nat.reduceEqDiff, Nat.reduceAdd, Nat.reduceMul, Nat.reduceSub, reduceCtorEq, vres]; rfl) (by simp only [go_sem, Nat.reduceLT, Nat.reduceLeDiff, Nat.reduceEqDiff, Nat.reduceAdd, Nat.reduceMul, Nat.reduceSub, reduceCtorEq, wrap, exV, exAs, exA, exCs, exC, rowsH_len, rowsD_len, hhl, hdl, t1, t2, Nat.le_refl]; rfl) (by simp) (by simp) (by simp [rowsH_pur, rowsD_pur])
      | cons o rest =>
        have hJ2 := allJ_step hJ hlt hhe
        obtain ⟨k, hd, hS, rfl, hh, hdo, hst, hsk⟩ := heldL_cons hhe
        rw [hdo] at hJ2
        have hI := stack_help hst
        obtain ⟨q, hq⟩ : ∃ q, finF 2000 s [⟨hd.desc, 0, 0⟩] = q := ⟨_, rfl⟩
        have hf := finish_ok s [⟨hd.desc, 0, 0⟩] 2000 hI htin (by omega) (by omega) (by simp) hsk q hq
        rw [hq] at hJ2
        rw [hhl, hdl] at hf
        have hr0 : rowsF [(⟨hd.desc, 0, 0⟩ : FrameD)] = [[.int .i64 hd.desc, .int .i64 0, .int .i64 0]] := rfl
        have hpf := rowsF_pur [(⟨hd.desc, 0, 0⟩ : FrameD)]
        rw [hr0] at hf hpf
        have hk0 : (0 : Int) ≤ (k : Nat) := by omega
        have hkl : k < s0.heads.length := by rw [← hhl]; exact (List.getElem?_eq_some_iff.1 hh).1
        have hre := rowsH_at hh
        have hrn := rowsN_cons (k : Int) rest
        have hne : (((rest.length + 1 : Nat) : Int) == 0) = false := by simp; omega
        have hne2 : (((k : Int) :: rest).length) = rest.length + 1 := rfl
        have hz : 0 < rest.length + 1 := by omega
        have F := And.intro @rowsH_len (And.intro @rowsD_len (And.intro @rowsN_len (And.intro @rowsH_pur (And.intro @rowsD_pur (And.intro hhl (And.intro hdl (And.intro t1 (And.intro t2 (And.intro hlt2 (And.intro hk0 (And.intro hkl (And.intro hre (And.intro hrn (And.intro hne (And.intro hne2 (And.intro hz (And.intro hpf @Nat.le_refl)))))))))))))))))
        repeat' first
          | refine wSq fun _ hK => ?_
          | refine wRg ?_
          | refine VWP_cls hT hM (id := 9) 10 [[0, 1, 2, 3, 4, 5, 6, 7, 8, 9, 10]] (by kernel_rfl) ?_
          | refine And.intro ?_ ?_
          | exact trivial
          | refine wDr ?_
          | refine VWP_block ?_
          | refine VWP_skip ?_
          | refine VWP_exit ?_
          | refine VWP_ret ?_
          | (refine hK _ ?_; clear hK)
          | (clear hK; refine hK _ ?_; clear hK)
          | (clear hK; clear hK; refine hK _ ?_; clear hK)
          | (clear hK; clear hK; clear hK; refine hK _ ?_; clear hK)
          | (simp only [wHb, reduceCtorEq] at hb <;> try (exfalso; omega))
          | refine wCdx (fun hb => ?_) fun hb => ?_
          | refine wCax (c := by first | exact hheld) (k := ?_)
          | refine wOwx [4, 2, 3] (c := by exact hf) (k := ?_)
          | simp only [go_sem, Nat.reduceLT, Nat.reduceLeDiff, Nat.reduceEqDiff, Nat.reduceAdd, Nat.reduceMul, Nat.reduceSub, reduceCtorEq, Int.reduceBEq, Int.reduceBNe, Int.reduceLT, Int.reduceLE, Int.reduceAdd, Int.reduceToNat, F]
          | simp (disch := omega) only [decide_eq_true_eq, if_pos, if_neg, wrap_id, le_maxLen, and_true, true_and, if_true, ite_true]
          | refine wGdx (fun hb => ?_) fun hb => ?_
        exact nextN [] rfl [0, 1, 710, 711, 4] (i + 1, q.1) rfl (by decide) (by decide) hJ2 (by simp only; omega) (by simp [updV, tmL, renV, renA, renC, hw]) (by simp [updH, hpL, renH_at, renE, renC, rowsH_pur, rowsD_pur])
    · obtain rfl : i = 60 := by omega
      have hge2 : ¬ (((60 : Nat) : Int) < 60) := by omega
      have hres2 : finAllF 60 s0 = (s, hl.isEmpty) := by rw [hres, ← hhe]; rfl
      rw [hres2] at hr
      cases hl with
      | nil =>
        rw [if_pos (show (s, ([] : List Int).isEmpty).2 = true from rfl)] at hr
        subst hr
        have hz0 : ¬ (0 : Int) < ((0 : Nat) : Int) := by omega
        have F := And.intro @rowsH_len (And.intro @rowsD_len (And.intro @rowsN_len (And.intro @rowsH_pur (And.intro @rowsD_pur (And.intro hhl (And.intro hdl (And.intro t1 (And.intro t2 (And.intro hge2 (And.intro hz0 @Nat.le_refl))))))))))
        repeat' first
          | refine wSq fun _ hK => ?_
          | refine wRg ?_
          | refine wDr ?_
          | refine VWP_block ?_
          | refine VWP_skip ?_
          | refine VWP_exit ?_
          | refine VWP_ret ?_
          | (refine hK _ ?_; clear hK)
          | (clear hK; refine hK _ ?_; clear hK)
          | (clear hK; clear hK; refine hK _ ?_; clear hK)
          | (clear hK; clear hK; clear hK; refine hK _ ?_; clear hK)
          | (simp only [wHb, reduceCtorEq] at hb <;> try (exfalso; omega))
          | refine wCd (fun hb => ?_) fun hb => ?_
          | refine wCa (c := by first | exact hheld) (k := ?_)
          | simp only [go_sem, Nat.reduceLT, Nat.reduceLeDiff, Nat.reduceEqDiff, Nat.reduceAdd, Nat.reduceMul, Nat.reduceSub, reduceCtorEq, F]
          | simp (disch := omega) only [decide_eq_true_eq, if_pos, if_neg, wrap_id, le_maxLen, and_true, true_and, if_true, ite_true]
          | refine wGd (fun hb => ?_) fun hb => ?_
        refine ret_mk (vs := _) (acc := _) (by simp only [go_sem, Nat.reduceLT, Nat.reduceLeDiff, Nat.reduceEqDiff, Nat.reduceAdd, Nat.reduceMul, Nat.reduceSub, reduceCtorEq, vres]; rfl) (by simp only [go_sem, Nat.reduceLT, Nat.reduceLeDiff, Nat.reduceEqDiff, Nat.reduceAdd, Nat.reduceMul, Nat.reduceSub, reduceCtorEq, wrap, exV, exAs, exA, exCs, exC, rowsH_len, rowsD_len, hhl, hdl, t1, t2, Nat.le_refl]; rfl) (by simp) (by simp) (by simp [rowsH_pur, rowsD_pur])
      | cons o rest =>
        rw [if_neg (fun h => nomatch h)] at hr
        subst hr
        have hz0 : (0 : Int) < (((o :: rest).length : Nat) : Int) := by simp only [List.length_cons]; omega
        have hz1 : (0 : Int) < ((rest.length + 1 : Nat) : Int) := by omega
        have F := And.intro @rowsH_len (And.intro @rowsD_len (And.intro @rowsN_len (And.intro @rowsH_pur (And.intro @rowsD_pur (And.intro @rowsH_take (And.intro @rowsD_take (And.intro hhl (And.intro hdl (And.intro t1 (And.intro t2 (And.intro hge2 (And.intro hz0 (And.intro hz1 @Nat.le_refl)))))))))))))
        repeat' first
          | refine wSq fun _ hK => ?_
          | refine wRg ?_
          | refine wDr ?_
          | refine VWP_block ?_
          | refine VWP_skip ?_
          | refine VWP_exit ?_
          | refine VWP_ret ?_
          | (refine hK _ ?_; clear hK)
          | (clear hK; refine hK _ ?_; clear hK)
          | (clear hK; clear hK; refine hK _ ?_; clear hK)
          | (clear hK; clear hK; clear hK; refine hK _ ?_; clear hK)
          | (simp only [wHb, reduceCtorEq] at hb <;> try (exfalso; omega))
          | refine wCd (fun hb => ?_) fun hb => ?_
          | refine wCa (c := by first | exact hheld | exact ho) (k := ?_)
          | simp only [go_sem, Nat.reduceLT, Nat.reduceLeDiff, Nat.reduceEqDiff, Nat.reduceAdd, Nat.reduceMul, Nat.reduceSub, reduceCtorEq, F]
          | simp (disch := omega) only [decide_eq_true_eq, if_pos, if_neg, wrap_id, le_maxLen, and_true, true_and, if_true, ite_true]
          | refine wGd (fun hb => ?_) fun hb => ?_
        refine ret_mk (vs := _) (acc := _) (by simp only [go_sem, Nat.reduceLT, Nat.reduceLeDiff, Nat.reduceEqDiff, Nat.reduceAdd, Nat.reduceMul, Nat.reduceSub, reduceCtorEq, vres]; rfl) (by simp only [go_sem, Nat.reduceLT, Nat.reduceLeDiff, Nat.reduceEqDiff, Nat.reduceAdd, Nat.reduceMul, Nat.reduceSub, reduceCtorEq, wrap, exV, exAs, exA, exCs, exC, rowsH_len, rowsD_len, rowsH_take, rowsD_take, Nat.le_refl]; rfl) (by simp) (by simp) (by simp [rowsH_pur, rowsD_pur])
theorem finR_at {s : StoreD} {f : FrameD} (h : stackB s [f] = true) : finishR s [f] 2000 = ((finF 2000 s [f]).1, (((finF 2000 s [f]).2.2 : Nat) : Int), decide ((finF 2000 s [f]).2.1 = [])) := by
  unfold finishR
  rw [if_pos (by simp [finOk, h, inB])]
  rfl
end Go.Proofs.Ytljhhhlobkoocaa

/- A stack that is helped alone is empty soon; all are finished (plain). -/
namespace Go.Proofs.Ytljhhhlobkoocaa
open Go Go.RowKit
set_option linter.unusedVariables false
set_option linter.unusedSimpArgs false
set_option maxRecDepth 100000
set_option maxHeartbeats 4000000
attribute [local irreducible] VWP vops vdraw contV contD CallK Guard GuardV NextL Puts Runs RetOK RetQ RetO RetQO thenQ blockQ

/-- What helping until a stack is empty does. -/
structure FinD (s : StoreD) (fs : List FrameD) (r : StoreD × List FrameD × Nat) : Prop where
  nil : r.2.1 = []
  st : StoreP r.1
  pre : PreP r.1
  hl : r.1.heads.length = s.heads.length
  dl : r.1.descs.length = s.descs.length
  ds : ∀ (k : Nat) (d : DescS), s.descs[k]? = some d → ∃ st : Int, r.1.descs[k]? = some ⟨d.owner, st, d.entries⟩ ∧ (d.status ≠ 0 → st = d.status)
  live : ∀ k : Nat, LiveP r.1 k → LiveP s k ∧ (k : Int) ∉ fs.map (·.desc)
  dec : ∀ (k : Nat) (d : DescS), (k : Int) ∈ fs.map (·.desc) → r.1.descs[k]? = some d → d.status ≠ 0
theorem finF_done : ∀ (m : Nat) {s : StoreD} {fs : List FrameD}, HInv s fs → potF s fs ≤ m → FinD s fs (finF m s fs)
  | 0, s, fs, h, hp => by
    rcases List.eq_nil_or_concat fs with rfl | ⟨low, f, rfl⟩
    · exact ⟨rfl, h.st, h.pre, rfl, rfl, fun k d hd => ⟨d.status, hd, fun _ => rfl⟩, fun k hk => ⟨hk, by simp⟩, fun k d hk => by simp at hk⟩
    · have := (helpF_step h (by simp)).pot
      omega
  | m + 1, s, fs, h, hp => by
    rw [finF]
    split
    · rename_i hn
      subst hn
      exact ⟨rfl, h.st, h.pre, rfl, rfl, fun k d hd => ⟨d.status, hd, fun _ => rfl⟩, fun k hk => ⟨hk, by simp⟩, fun k d hk => by simp at hk⟩
    · rename_i hn
      have h1 := helpF_step h hn
      have h2 := finF_done m h1.inv (by have := h1.pot; omega)
      refine ⟨h2.nil, h2.st, h2.pre, by rw [← h1.hl]; exact h2.hl, by rw [← h1.dl]; exact h2.dl, fun k d hd => ?_, fun k hk => ?_, fun k d hk hd => ?_⟩
      · obtain ⟨st, q1, q2⟩ := h1.ds k d hd
        obtain ⟨st', q3, q4⟩ := h2.ds k _ q1
        exact ⟨st', q3, fun c => by have := q2 c; rw [q4 (by simp only; omega)]; exact this⟩
      · obtain ⟨q1, q2⟩ := h2.live k hk
        exact h1.live k q2 q1
      · by_cases c : (k : Int) ∈ (helpF s fs).2.map (·.desc)
        · exact h2.dec k d c hd
        · have hkl : k < s.descs.length := by
            have := (List.getElem?_eq_some_iff.1 hd).1
            rw [h2.dl, h1.dl] at this
            exact this
          obtain ⟨d0, hd0⟩ : ∃ x, s.descs[k]? = some x := ⟨_, List.getElem?_eq_getElem hkl⟩
          obtain ⟨st, q1, q2⟩ := h1.ds k d0 hd0
          have h0 := h1.dec k _ hk c q1
          obtain ⟨st', q3, q4⟩ := h2.ds k _ q1
          rw [hd] at q3
          cases q3
          simp only at h0 ⊢
          rw [q4 h0]
          exact h0
theorem finF_one {m : Nat} {s : StoreD} {fs : List FrameD} (hm : 0 < m) (hn : fs ≠ []) : 1 ≤ (finF m s fs).2.2 := by
  cases m with
  | zero => omega
  | succ m => rw [finF, if_neg hn]; simp
theorem finF_le : ∀ (m : Nat) (s : StoreD) (fs : List FrameD), (finF m s fs).2.2 ≤ m
  | 0, s, fs => Nat.le_refl _
  | m + 1, s, fs => by
    rw [finF]
    split
    · simp
    · have := finF_le m (helpF s fs).1 (helpF s fs).2
      simp only
      omega

/-- A single new frame. -/
theorem hinv_new {s : StoreD} (hS : StoreP s) (hP : PreP s) {k : Nat} (hk : k < s.descs.length) : HInv s [⟨(k : Nat), 0, 0⟩] := by
  obtain ⟨d, hd⟩ : ∃ d, s.descs[k]? = some d := ⟨_, List.getElem?_eq_getElem hk⟩
  have hfd := hS.2.2.2.1 d (List.mem_of_getElem? hd)
  refine ⟨hS, hP, trivial, by simp, fun f hf => ?_, fun f hf => ?_⟩
  · simp only [List.mem_cons, List.not_mem_nil, or_false] at hf
    subst hf
    exact frm_zero hd (by omega) (by omega) hfd.1.2.2.2.2.1
  · simp only [List.getLast?_singleton, Option.some.injEq] at hf
    subst hf
    exact ⟨frP_zero (f := ⟨(k : Nat), 0, 0⟩) (by omega) (by omega) (by omega) (by omega), by simp⟩
theorem liveN_le {s : StoreD} {fs : List FrameD} : liveN s fs ≤ s.descs.length := by
  unfold liveN
  have := List.length_filter_le (fun k => bP (LiveP s k ∧ (k : Int) ∉ fs.map (·.desc))) (List.range s.descs.length)
  simpa using this
theorem pot_new {s : StoreD} (hS : StoreP s) {k : Nat} (hk : k < s.descs.length) : potF s [⟨(k : Nat), 0, 0⟩] ≤ 30 * s.descs.length + 14 := by
  obtain ⟨d, hd⟩ : ∃ d, s.descs[k]? = some d := ⟨_, List.getElem?_eq_getElem hk⟩
  have hfd := hS.2.2.2.1 d (List.mem_of_getElem? hd)
  unfold potF
  simp only [List.getLast?_singleton, List.length_cons, List.length_nil]
  rw [cost_at (k := k) rfl hd]
  have h1 := liveN_le (s := s) (fs := [⟨(k : Nat), 0, 0⟩])
  have h2 := hfd.1.2.2.2.2.2
  simp
  omega

theorem held_nil {s : StoreD} (hS : StoreP s) (h : heldL s = []) {o : Nat} {x : HeadD} (hx : s.heads[o]? = some x) : x.desc = -1 := by
  have hol := (List.getElem?_eq_some_iff.1 hx).1
  rw [heldL, if_pos (bP_true hS)] at h
  unfold heldN at h
  simp only [List.map_eq_nil_iff, List.filter_eq_nil_iff, List.mem_range] at h
  have := h o hol
  have hd := head_desc hS hx
  simp only [liesB, hx, decide_eq_true_eq] at this
  omega
/-- What finishing all does. -/
structure AllD (s r : StoreD) : Prop where
  st : StoreP r
  pre : PreP r
  held : heldL r = []
  hl : r.heads.length = s.heads.length
  dl : r.descs.length = s.descs.length
  ds : ∀ (k : Nat) (d : DescS), s.descs[k]? = some d → ∃ st : Int, r.descs[k]? = some ⟨d.owner, st, d.entries⟩ ∧ (d.status ≠ 0 → st = d.status)
theorem finAll_done : ∀ (m : Nat) {s : StoreD}, StoreP s → PreP s → liveN s [] ≤ m → (finAllF m s).2 = true ∧ AllD s (finAllF m s).1
  | m, s, hS, hP, hm => by
    cases hh : heldL s with
    | nil =>
      rw [finAll_nil hh]
      exact ⟨rfl, hS, hP, hh, rfl, rfl, fun k d hd => ⟨d.status, hd, fun _ => rfl⟩⟩
    | cons o rest =>
      obtain ⟨ko, hd, _, ho, hx, hdo, _, _⟩ := heldL_cons hh
      have hlt := head_desc hS hx
      have hge : 0 ≤ hd.desc := by
        have hm : o ∈ heldL s := by rw [hh]; exact List.mem_cons_self ..
        rw [heldL, if_pos (bP_true hS)] at hm
        unfold heldN at hm
        simp only [List.mem_map, List.mem_filter, List.mem_range] at hm
        obtain ⟨k, ⟨hk, hl⟩, hko⟩ := hm
        have : k = ko := by omega
        subst this
        simpa [liesB, hx] using hl
      obtain ⟨k, hk⟩ : ∃ k : Nat, hd.desc = k := ⟨hd.desc.toNat, by omega⟩
      have hkl : k < s.descs.length := by omega
      have hlive : LiveP s k := ⟨ko, hd, hx, hk⟩
      have hI := hinv_new hS hP hkl
      have hp := pot_new hS hkl
      have h60 := hS.2.2.1
      have hf := finF_done 2000 hI (by omega)
      cases m with
      | zero =>
        have : 0 < liveN s [] := by
          unfold liveN
          refine List.length_pos_of_mem (a := k) (List.mem_filter.2 ⟨by simpa using hkl, ?_⟩)
          rw [bP_iff]
          exact ⟨hlive, by simp⟩
        omega
      | succ m =>
        rw [finAll_step hh, hdo, hk]
        have hlt : liveN (finF 2000 s [⟨(k : Nat), 0, 0⟩]).1 [] < liveN s [] := by
          unfold liveN
          rw [hf.dl]
          refine filter_lt (x := k) (fun y _ hy => ?_) (by simpa using hkl) ?_ ?_
          · rw [bP_iff] at hy ⊢
            exact ⟨(hf.live y hy.1).1, by simp⟩
          · rw [bP_iff]; exact ⟨hlive, by simp⟩
          · refine bP_false fun hh => ?_
            exact (hf.live k hh.1).2 (by simp)
        obtain ⟨r1, r2⟩ := finAll_done m hf.st hf.pre (by omega)
        refine ⟨r1, r2.st, r2.pre, r2.held, by rw [← hf.hl]; exact r2.hl, by rw [← hf.dl]; exact r2.dl, fun k d hd => ?_⟩
        obtain ⟨st, q1, q2⟩ := hf.ds k d hd
        obtain ⟨st', q3, q4⟩ := r2.ds k _ q1
        exact ⟨st', q3, fun c => by have := q2 c; rw [q4 (by simp only; omega)]; exact this⟩
end Go.Proofs.Ytljhhhlobkoocaa

/- The program's Finish. -/
namespace Go.Proofs.Ytljhhhlobkoocaa
open Go Go.RowKit
set_option linter.unusedVariables false
set_option linter.unusedSimpArgs false
set_option maxRecDepth 100000
set_option maxHeartbeats 4000000
attribute [local irreducible] VWP vops vdraw contV contD CallK Guard GuardV NextL Puts Runs RetOK RetQ RetO RetQO thenQ blockQ
attribute [local irreducible] NextN

theorem finF_stay : ∀ (m : Nat) {s : StoreD} {fs : List FrameD}, stuckB s fs = true → finF m s fs = (s, fs, if fs = [] then 0 else m)
  | 0, s, fs, h => by simp [finF]
  | m + 1, s, fs, h => by
    by_cases hf : fs = []
    · subst hf; simp [finF]
    · rw [finF_step m hf, stuck_help h, finF_stay m h]
      simp [hf]
theorem finishStay_ok (s : StoreD) (fs : List FrameD) (m : Nat) (hi : HelpI s fs) (hs : s.tiny) (hm2 : m ≤ 1048576) (hst : stuckB s fs = true) (r : StoreD × List FrameD × Nat) (hr : finF m s fs = r) :
    SatO Try.prog 33 [.bp 0 0, .fr 32 (rowsF fs), .int .i64 m] [.box [.rf 1 s.heads.length, .rf 2 s.descs.length], .root 40 (rowsH s.heads), .root 38 (rowsD 76 s.descs)]
      (.tup [.int .i64 r.2.2, .bool (decide (r.2.1 = []))]) [.box [.rf 1 s.heads.length, .rf 2 s.descs.length], .root 40 (rowsH s.heads), .root 38 (rowsD 76 s.descs)] := by
  rw [finF_stay m hst] at hr
  have hlen := hi.len
  refine satO_of_body hT Try.func33 (by kernel_rfl) rfl (rs := [.tmp 6, .tmp 7]) rfl (n := 26) rfl (by simp) rfl (m := 3) rfl ⟨⟨rfl, rfl⟩, ⟨rfl, rowsH_pur _⟩, ⟨rfl, rowsD_pur _ _⟩, by simp [keptL]⟩ fun E hE => ?_
  unfold St.initO
  have F := (Eq.refl 0)
  repeat' first
    | refine wSq fun _ hK => ?_
    | refine wRg ?_
    | refine wDr ?_
    | refine VWP_block ?_
    | refine VWP_skip ?_
    | refine VWP_exit ?_
    | refine VWP_ret ?_
    | (refine hK _ ?_; clear hK)
    | (clear hK; refine hK _ ?_; clear hK)
    | (clear hK; clear hK; refine hK _ ?_; clear hK)
    | (clear hK; clear hK; clear hK; refine hK _ ?_; clear hK)
    | (simp only [wHb, reduceCtorEq] at hb <;> try (exfalso; omega))
    | refine wCd (fun hb => ?_) fun hb => ?_
    | simp only [go_sem, Nat.reduceLT, Nat.reduceLeDiff, Nat.reduceEqDiff, Nat.reduceAdd, Nat.reduceMul, Nat.reduceSub, reduceCtorEq, F]
    | simp (disch := omega) only [decide_eq_true_eq, if_pos, if_neg, wrap_id, le_maxLen, and_true, true_and, if_true, ite_true]
    | refine wGd (fun hb => ?_) fun hb => ?_
  refine VWP_loopN hE (X := Nat) (fun i => if i = 0 then [(0, .bp 0 0), (1, .fr 32 (rowsF fs)), (2, .int .i64 m), (8, .int .i64 i)] else [(0, .bp 0 0), (1, .rf 3 fs.length), (2, .int .i64 m), (8, .int .i64 i)]) (fun i => if i = 0 then [(0, .box [.rf 1 s.heads.length, .rf 2 s.descs.length]), (1, .root 40 (rowsH s.heads)), (2, .root 38 (rowsD 76 s.descs))] else [(0, .box [.rf 1 s.heads.length, .rf 2 s.descs.length]), (1, .root 40 (rowsH s.heads)), (2, .root 38 (rowsD 76 s.descs)), (3, .root 32 (rowsF fs))]) (fun i => m - i)
    (fun i => i ≤ m ∧ (fs = [] → i = 0)) [0, 1, 2, 3] 0 ⟨by simp, fun _ => rfl⟩ (by decide) (by decide) (by simp [updV, renV, renA, renC]) (by simp [updH, HpE, renH_at, renE, renC, rowsH_pur, rowsD_pur]) ?_
  rintro i ⟨hle, hz⟩
  have hw := wrap_id (x := (i : Int) + 1) (by omega)
  have hc := helpStuck_ok s fs hi hs.small hst
  have hbn : ((fs.length : Int) == 0) = decide (fs = []) := by
    cases fs with
    | nil => rfl
    | cons f fs => simp; omega
  by_cases hgo : fs ≠ [] ∧ i < m
  · obtain ⟨hne1, him⟩ := hgo
    have hpos : 0 < fs.length := List.length_pos_iff.2 hne1
    have hm0 : (i : Int) < (m : Int) := by omega
    have hp0 : (0 : Int) < (fs.length : Int) := by omega
    rcases Nat.eq_zero_or_pos i with hi0 | hi0
    · rw [if_pos hi0, if_pos hi0]
      have F := And.intro @rowsF_len (And.intro @rowsH_len (And.intro @rowsD_len (And.intro @rowsH_pur (And.intro @rowsD_pur (And.intro hp0 hm0)))))
      repeat' first
        | refine wSq fun _ hK => ?_
        | refine wRg ?_
        | refine wDr ?_
        | refine VWP_block ?_
        | refine VWP_skip ?_
        | refine VWP_exit ?_
        | refine VWP_ret ?_
        | (refine hK _ ?_; clear hK)
        | (clear hK; refine hK _ ?_; clear hK)
        | (clear hK; clear hK; refine hK _ ?_; clear hK)
        | (clear hK; clear hK; clear hK; refine hK _ ?_; clear hK)
        | (simp only [wHb, reduceCtorEq] at hb <;> try (exfalso; omega))
        | refine wCd (fun hb => ?_) fun hb => ?_
        | refine wOw [0, 1, 2] (c := by exact hc) (k := ?_)
        | simp only [go_sem, Nat.reduceLT, Nat.reduceLeDiff, Nat.reduceEqDiff, Nat.reduceAdd, Nat.reduceMul, Nat.reduceSub, reduceCtorEq, F]
        | simp (disch := omega) only [decide_eq_true_eq, if_pos, if_neg, wrap_id, le_maxLen, and_true, true_and, if_true, ite_true]
        | refine wGd (fun hb => ?_) fun hb => ?_
      all_goals refine nextN [] rfl [0, 1, 2, 4] (i + 1) rfl (by decide) (by decide) ⟨him, fun h => absurd h hne1⟩ (by omega) (by rw [if_neg (Nat.succ_ne_zero _)]; simp [updV, tmL, renV, renA, renC, hw]) (by rw [if_neg (Nat.succ_ne_zero _)]; simp [updH, hpL, renH_at, renE, renC, rowsH_pur, rowsD_pur, rowsF_pur])
    · rw [if_neg (by omega), if_neg (by omega)]
      have F := And.intro @rowsF_len (And.intro @rowsF_take (And.intro @rowsF_pur (And.intro @rowsH_len (And.intro @rowsD_len (And.intro @rowsH_pur (And.intro @rowsD_pur (And.intro hp0 hm0)))))))
      repeat' first
        | refine wSq fun _ hK => ?_
        | refine wRg ?_
        | refine wDr ?_
        | refine VWP_block ?_
        | refine VWP_skip ?_
        | refine VWP_exit ?_
        | refine VWP_ret ?_
        | (refine hK _ ?_; clear hK)
        | (clear hK; refine hK _ ?_; clear hK)
        | (clear hK; clear hK; refine hK _ ?_; clear hK)
        | (clear hK; clear hK; clear hK; refine hK _ ?_; clear hK)
        | (simp only [wHb, reduceCtorEq] at hb <;> try (exfalso; omega))
        | refine wCd (fun hb => ?_) fun hb => ?_
        | refine wOw [0, 1, 2] (c := by exact hc) (k := ?_)
        | simp only [go_sem, Nat.reduceLT, Nat.reduceLeDiff, Nat.reduceEqDiff, Nat.reduceAdd, Nat.reduceMul, Nat.reduceSub, reduceCtorEq, F]
        | simp (disch := omega) only [decide_eq_true_eq, if_pos, if_neg, wrap_id, le_maxLen, and_true, true_and, if_true, ite_true]
        | refine wGd (fun hb => ?_) fun hb => ?_
      all_goals refine nextN [] rfl [0, 1, 2, 4] (i + 1) rfl (by decide) (by decide) ⟨him, fun h => absurd h hne1⟩ (by omega) (by rw [if_neg (Nat.succ_ne_zero _)]; simp [updV, tmL, renV, renA, renC, hw]) (by rw [if_neg (Nat.succ_ne_zero _)]; simp [updH, hpL, renH_at, renE, renC, rowsH_pur, rowsD_pur, rowsF_pur])
  · have hgo2 : 0 < (fs.length : Int) → ¬ (i : Int) < (m : Int) := fun h hh => hgo ⟨fun h2 => by subst h2; simp at h, by omega⟩
    have hri : (if fs = [] then 0 else m) = i := by
      split
      · rename_i h; exact (hz h).symm
      · rename_i h
        have : ¬ i < m := fun hh => hgo ⟨h, hh⟩
        omega
    rw [hri] at hr
    subst hr
    rcases Nat.eq_zero_or_pos i with hi0 | hi0
    · rw [if_pos hi0, if_pos hi0]
      have F := And.intro @rowsF_len hbn
      repeat' first
        | refine wSq fun _ hK => ?_
        | refine wRg ?_
        | refine wDr ?_
        | refine VWP_block ?_
        | refine VWP_skip ?_
        | refine VWP_exit ?_
        | refine VWP_ret ?_
        | (refine hK _ ?_; clear hK)
        | (clear hK; refine hK _ ?_; clear hK)
        | (clear hK; clear hK; refine hK _ ?_; clear hK)
        | (clear hK; clear hK; clear hK; refine hK _ ?_; clear hK)
        | (simp only [wHb, reduceCtorEq] at hb <;> try (exfalso; omega))
        | refine wCd (fun hb => ?_) fun hb => ?_
        | simp only [go_sem, Nat.reduceLT, Nat.reduceLeDiff, Nat.reduceEqDiff, Nat.reduceAdd, Nat.reduceMul, Nat.reduceSub, reduceCtorEq, F]
        | simp (disch := omega) only [decide_eq_true_eq, if_pos, if_neg, wrap_id, le_maxLen, and_true, true_and, if_true, ite_true]
        | refine wGd (fun hb => ?_) fun hb => ?_
      all_goals first
        | (exfalso; simp_all; done)
        | (exfalso; have := hgo2 (by assumption); simp_all; done)
        | skip
      all_goals refine retO_mk [] rfl [.box [.rf 1 s.heads.length, .rf 2 s.descs.length], .root 40 (rowsH s.heads), .root 38 (rowsD 76 s.descs)] rfl (by simp [keepsL, updH, hpL]) (acc1 := _) (by simp only [go_sem, Nat.reduceLT, Nat.reduceLeDiff, Nat.reduceEqDiff, Nat.reduceAdd, Nat.reduceMul, Nat.reduceSub, reduceCtorEq, exEs, exOCs, exOC]; try rfl) (by simp only [go_sem, Nat.reduceLT, Nat.reduceLeDiff, Nat.reduceEqDiff, Nat.reduceAdd, Nat.reduceMul, Nat.reduceSub, reduceCtorEq, vres]; rfl) (acc := _) (by simp only [go_sem, Nat.reduceLT, Nat.reduceLeDiff, Nat.reduceEqDiff, Nat.reduceAdd, Nat.reduceMul, Nat.reduceSub, reduceCtorEq, wrap, exOV, exOAs, exOA, exOC, hbn]; try rfl) (by simp) (by simp [rootOf])
    · rw [if_neg (by omega), if_neg (by omega)]
      have F := And.intro @rowsF_len hbn
      repeat' first
        | refine wSq fun _ hK => ?_
        | refine wRg ?_
        | refine wDr ?_
        | refine VWP_block ?_
        | refine VWP_skip ?_
        | refine VWP_exit ?_
        | refine VWP_ret ?_
        | (refine hK _ ?_; clear hK)
        | (clear hK; refine hK _ ?_; clear hK)
        | (clear hK; clear hK; refine hK _ ?_; clear hK)
        | (clear hK; clear hK; clear hK; refine hK _ ?_; clear hK)
        | (simp only [wHb, reduceCtorEq] at hb <;> try (exfalso; omega))
        | refine wCd (fun hb => ?_) fun hb => ?_
        | simp only [go_sem, Nat.reduceLT, Nat.reduceLeDiff, Nat.reduceEqDiff, Nat.reduceAdd, Nat.reduceMul, Nat.reduceSub, reduceCtorEq, F]
        | simp (disch := omega) only [decide_eq_true_eq, if_pos, if_neg, wrap_id, le_maxLen, and_true, true_and, if_true, ite_true]
        | refine wGd (fun hb => ?_) fun hb => ?_
      all_goals first
        | (exfalso; simp_all; done)
        | (exfalso; have := hgo2 (by assumption); simp_all; done)
        | skip
      all_goals refine retO_mk [] rfl [.box [.rf 1 s.heads.length, .rf 2 s.descs.length], .root 40 (rowsH s.heads), .root 38 (rowsD 76 s.descs)] rfl (by simp [keepsL, updH, hpL]) (acc1 := _) (by simp only [go_sem, Nat.reduceLT, Nat.reduceLeDiff, Nat.reduceEqDiff, Nat.reduceAdd, Nat.reduceMul, Nat.reduceSub, reduceCtorEq, exEs, exOCs, exOC]; try rfl) (by simp only [go_sem, Nat.reduceLT, Nat.reduceLeDiff, Nat.reduceEqDiff, Nat.reduceAdd, Nat.reduceMul, Nat.reduceSub, reduceCtorEq, vres]; rfl) (acc := _) (by simp only [go_sem, Nat.reduceLT, Nat.reduceLeDiff, Nat.reduceEqDiff, Nat.reduceAdd, Nat.reduceMul, Nat.reduceSub, reduceCtorEq, wrap, exOV, exOAs, exOA, exOC, hbn]; try rfl) (by simp) (by simp [rootOf])
theorem finishZero_ok (s : StoreD) (fs : List FrameD) (hi : HelpI s fs) (hs : s.tiny) (r : StoreD × List FrameD × Nat) (hr : finF 0 s fs = r) :
    SatO Try.prog 33 [.bp 0 0, .fr 32 (rowsF fs), .int .i64 ((0 : Nat) : Int)] [.box [.rf 1 s.heads.length, .rf 2 s.descs.length], .root 40 (rowsH s.heads), .root 38 (rowsD 76 s.descs)]
      (.tup [.int .i64 r.2.2, .bool (decide (r.2.1 = []))]) [.box [.rf 1 s.heads.length, .rf 2 s.descs.length], .root 40 (rowsH s.heads), .root 38 (rowsD 76 s.descs)] := by
  have hr2 : (s, fs, 0) = r := hr
  subst hr2
  have hlen := hi.len
  have hbn : ((fs.length : Int) == 0) = decide (fs = []) := by
    cases fs with
    | nil => rfl
    | cons f fs => simp; omega
  have hz : ¬ (0 : Int) < ((0 : Nat) : Int) := by omega
  have hz2 : ((0 : Nat) : Int) = 0 := rfl
  have hz3 : ¬ (0 : Int) < 0 := by omega
  refine satO_of_body hT Try.func33 (by kernel_rfl) rfl (rs := [.tmp 6, .tmp 7]) rfl (n := 26) rfl (by simp) rfl (m := 3) rfl ⟨⟨rfl, rfl⟩, ⟨rfl, rowsH_pur _⟩, ⟨rfl, rowsD_pur _ _⟩, by simp [keptL]⟩ fun E hE => ?_
  unfold St.initO
  have F := (Eq.refl 0)
  repeat' first
    | refine wSq fun _ hK => ?_
    | refine wRg ?_
    | refine wDr ?_
    | refine VWP_block ?_
    | refine VWP_skip ?_
    | refine VWP_exit ?_
    | refine VWP_ret ?_
    | (refine hK _ ?_; clear hK)
    | (clear hK; refine hK _ ?_; clear hK)
    | (clear hK; clear hK; refine hK _ ?_; clear hK)
    | (clear hK; clear hK; clear hK; refine hK _ ?_; clear hK)
    | (simp only [wHb, reduceCtorEq] at hb <;> try (exfalso; omega))
    | refine wCd (fun hb => ?_) fun hb => ?_
    | simp only [go_sem, Nat.reduceLT, Nat.reduceLeDiff, Nat.reduceEqDiff, Nat.reduceAdd, Nat.reduceMul, Nat.reduceSub, reduceCtorEq, F]
    | simp (disch := omega) only [decide_eq_true_eq, if_pos, if_neg, wrap_id, le_maxLen, and_true, true_and, if_true, ite_true]
    | refine wGd (fun hb => ?_) fun hb => ?_
  refine VWP_loopN hE (X := Unit) (fun _ => [(0, .bp 0 0), (1, .fr 32 (rowsF fs)), (2, .int .i64 ((0 : Nat) : Int)), (8, .int .i64 0)]) (fun _ => [(0, .box [.rf 1 s.heads.length, .rf 2 s.descs.length]), (1, .root 40 (rowsH s.heads)), (2, .root 38 (rowsD 76 s.descs))]) (fun _ => 0)
    (fun _ => True) [0, 1, 2] () trivial (by decide) (by decide) (by simp [updV, renV, renA, renC]) (by simp [updH, HpE, renH_at, renE, renC, rowsH_pur, rowsD_pur]) ?_
  rintro _ _
  have F := And.intro @rowsF_len (And.intro hbn (And.intro hz hz3))
  repeat' first
    | refine wSq fun _ hK => ?_
    | refine wRg ?_
    | refine wDr ?_
    | refine VWP_block ?_
    | refine VWP_skip ?_
    | refine VWP_exit ?_
    | refine VWP_ret ?_
    | (refine hK _ ?_; clear hK)
    | (clear hK; refine hK _ ?_; clear hK)
    | (clear hK; clear hK; refine hK _ ?_; clear hK)
    | (clear hK; clear hK; clear hK; refine hK _ ?_; clear hK)
    | (simp only [wHb, reduceCtorEq] at hb <;> try (exfalso; omega))
    | refine wCd (fun hb => ?_) fun hb => ?_
    | simp only [go_sem, Nat.reduceLT, Nat.reduceLeDiff, Nat.reduceEqDiff, Nat.reduceAdd, Nat.reduceMul, Nat.reduceSub, reduceCtorEq, F]
    | simp (disch := omega) only [decide_eq_true_eq, if_pos, if_neg, wrap_id, le_maxLen, and_true, true_and, if_true, ite_true]
    | refine wGd (fun hb => ?_) fun hb => ?_
  all_goals first
    | (exfalso; simp_all; done)
    | skip
  all_goals refine retO_mk [] rfl [.box [.rf 1 s.heads.length, .rf 2 s.descs.length], .root 40 (rowsH s.heads), .root 38 (rowsD 76 s.descs)] rfl (by simp [keepsL, updH, hpL]) (acc1 := _) (by simp only [go_sem, Nat.reduceLT, Nat.reduceLeDiff, Nat.reduceEqDiff, Nat.reduceAdd, Nat.reduceMul, Nat.reduceSub, reduceCtorEq, exEs, exOCs, exOC]; try rfl) (by simp only [go_sem, Nat.reduceLT, Nat.reduceLeDiff, Nat.reduceEqDiff, Nat.reduceAdd, Nat.reduceMul, Nat.reduceSub, reduceCtorEq, vres]; rfl) (acc := _) (by simp only [go_sem, Nat.reduceLT, Nat.reduceLeDiff, Nat.reduceEqDiff, Nat.reduceAdd, Nat.reduceMul, Nat.reduceSub, reduceCtorEq, wrap, exOV, exOAs, exOA, exOC, hbn]; try rfl) (by simp) (by simp [rootOf])
theorem implFinish_ok (s0 : StoreD) (fs0 : List FrameD) (m : Int) (hs : s0.tiny) (hl : fs0.length ≤ 1048576) (r : StoreD × Int × Bool) (hr : finishR s0 fs0 m = r) :
    SatP Try.prog 14 [.agg (s0.cells 40 38 76), .fr 32 (rowsF fs0), .int .i64 m]
      (.tup [.agg [.rf 0 s0.heads.length, .rf 1 s0.descs.length], .int .i64 r.2.1, .bool r.2.2]) [(40, rowsH r.1.heads), (38, rowsD 76 r.1.descs)] := by
  have hc := implStackOk_ok s0 fs0 hs.small hl
  have ho := ownStore_ok s0 hs.small
  have hin := in_ok m 0 2000
  refine satP_of_body hT Try.func14 (by kernel_rfl) rfl (rs := [.cell 6 27, .tmp 7, .tmp 8]) rfl (n := 33) rfl (by simp) rfl (by simp [rowsH_pur, rowsD_pur]) fun E hE => ?_
  unfold St.init
  unfold StoreD.cells at *
  rcases (Bool.eq_false_or_eq_true (finOk s0 fs0 m)).symm with hp | hp
  · rw [finishR, if_neg (by rw [hp]; exact fun h => nomatch h)] at hr
    subst hr
    have hp2 : stackB s0 fs0 = true → inB m 0 2000 = false := fun h => by simpa [finOk, h] using hp
    generalize stackB s0 fs0 = A at *
    generalize inB m 0 2000 = B at *
    have F := And.intro @rowsH_len (And.intro @rowsD_len (And.intro @rowsF_len (And.intro @rowsH_take @rowsD_take)))
    repeat' first
      | refine wSq fun _ hK => ?_
      | refine wRg ?_
      | refine wDr ?_
      | refine VWP_block ?_
      | refine VWP_skip ?_
      | refine VWP_exit ?_
      | refine VWP_ret ?_
      | (refine hK _ ?_; clear hK)
      | (clear hK; refine hK _ ?_; clear hK)
      | (clear hK; clear hK; refine hK _ ?_; clear hK)
      | (clear hK; clear hK; clear hK; refine hK _ ?_; clear hK)
      | (simp only [wHb, reduceCtorEq] at hb <;> try (exfalso; omega))
      | refine wCd (fun hb => ?_) fun hb => ?_
      | refine wCa (c := by first | exact hc | exact ho | exact hin) (k := ?_)
      | simp only [go_sem, Nat.reduceLT, Nat.reduceLeDiff, Nat.reduceEqDiff, Nat.reduceAdd, Nat.reduceMul, Nat.reduceSub, reduceCtorEq, F]
      | simp (disch := omega) only [decide_eq_true_eq, if_pos, if_neg, wrap_id, le_maxLen, and_true, true_and, if_true, ite_true]
      | refine wGd (fun hb => ?_) fun hb => ?_
    all_goals first
      | (exfalso; simp_all; done)
      | skip
    all_goals refine ret_mk (vs := _) (acc := _) (by simp only [go_sem, Nat.reduceLT, Nat.reduceLeDiff, Nat.reduceEqDiff, Nat.reduceAdd, Nat.reduceMul, Nat.reduceSub, reduceCtorEq, vres]; rfl) (by simp only [go_sem, Nat.reduceLT, Nat.reduceLeDiff, Nat.reduceEqDiff, Nat.reduceAdd, Nat.reduceMul, Nat.reduceSub, reduceCtorEq, wrap, exV, exAs, exA, exCs, exC, rowsH_len, rowsH_take, rowsD_len, rowsD_take, Nat.le_refl]; rfl) (by simp) (by simp) (by simp [rowsH_pur, rowsD_pur])
  · rw [finishR, if_pos hp] at hr
    have hp2 : stackB s0 fs0 = true ∧ inB m 0 2000 = true := by simpa [finOk] using hp
    rw [hp2.1] at hc
    rw [hp2.2] at hin
    have hi := stack_help hp2.1
    have hmr := hp2.2
    simp [inB] at hmr
    obtain ⟨n, hn⟩ : ∃ n : Nat, m = n := ⟨m.toNat, by omega⟩
    subst hn
    rw [Int.toNat_natCast] at hr
    obtain ⟨q, hq⟩ : ∃ q, finF n s0 fs0 = q := ⟨_, rfl⟩
    rw [hq] at hr
    have hk := finF_keeps n hi
    rw [hq] at hk
    have e1 : q.1.heads.length = s0.heads.length := hk.hl
    have e2 : q.1.descs.length = s0.descs.length := hk.dl
    have t1 := rowsH_take q.1.heads
    have t2 := rowsD_take 76 q.1.descs
    rw [e1] at t1
    rw [e2] at t2
    subst hr
    by_cases hstay : stuckB s0 fs0 = true
    · have hf := finishStay_ok s0 fs0 n hi hs (by omega) hstay q hq
      have hq1 : q.1 = s0 := by rw [← hq, finF_stay n hstay]
      simp only [hq1]
      have F := And.intro @rowsH_len (And.intro @rowsD_len (And.intro @rowsF_len (And.intro @rowsH_take (And.intro @rowsD_take (And.intro @rowsH_pur @rowsD_pur)))))
      repeat' first
        | refine wSq fun _ hK => ?_
        | refine wRg ?_
        | refine wDr ?_
        | refine VWP_block ?_
        | refine VWP_skip ?_
        | refine VWP_exit ?_
        | refine VWP_ret ?_
        | (refine hK _ ?_; clear hK)
        | (clear hK; refine hK _ ?_; clear hK)
        | (clear hK; clear hK; refine hK _ ?_; clear hK)
        | (clear hK; clear hK; clear hK; refine hK _ ?_; clear hK)
        | (simp only [wHb, reduceCtorEq] at hb <;> try (exfalso; omega))
        | refine wCd (fun hb => ?_) fun hb => ?_
        | refine wCa (c := by first | exact hc | exact ho | exact hin) (k := ?_)
        | refine wOw [4, 2, 3] (c := by exact hf) (k := ?_)
        | simp only [go_sem, Nat.reduceLT, Nat.reduceLeDiff, Nat.reduceEqDiff, Nat.reduceAdd, Nat.reduceMul, Nat.reduceSub, reduceCtorEq, F]
        | simp (disch := omega) only [decide_eq_true_eq, if_pos, if_neg, wrap_id, le_maxLen, and_true, true_and, if_true, ite_true]
        | refine wGd (fun hb => ?_) fun hb => ?_
      refine ret_mk (vs := _) (acc := _) (by simp only [go_sem, Nat.reduceLT, Nat.reduceLeDiff, Nat.reduceEqDiff, Nat.reduceAdd, Nat.reduceMul, Nat.reduceSub, reduceCtorEq, vres]; rfl) (by simp only [go_sem, Nat.reduceLT, Nat.reduceLeDiff, Nat.reduceEqDiff, Nat.reduceAdd, Nat.reduceMul, Nat.reduceSub, reduceCtorEq, wrap, exV, exAs, exA, exCs, exC, rowsH_len, rowsH_take, rowsD_len, rowsD_take, Nat.le_refl]; rfl) (by simp) (by simp) (by simp [rowsH_pur, rowsD_pur])
    · have hstay2 : stuckB s0 fs0 = false := by simpa using hstay
      have hne : fs0 ≠ [] := fun h => by subst h; simp [stuckB] at hstay
      rcases Nat.eq_zero_or_pos n with hn0 | hn0
      · subst hn0
        have hf := finishZero_ok s0 fs0 hi hs q hq
        have hq1 : q.1 = s0 := by rw [← hq]; rfl
        simp only [hq1]
        have F := And.intro @rowsH_len (And.intro @rowsD_len (And.intro @rowsF_len (And.intro @rowsH_take (And.intro @rowsD_take (And.intro @rowsH_pur @rowsD_pur)))))
        repeat' first
          | refine wSq fun _ hK => ?_
          | refine wRg ?_
          | refine wDr ?_
          | refine VWP_block ?_
          | refine VWP_skip ?_
          | refine VWP_exit ?_
          | refine VWP_ret ?_
          | (refine hK _ ?_; clear hK)
          | (clear hK; refine hK _ ?_; clear hK)
          | (clear hK; clear hK; refine hK _ ?_; clear hK)
          | (clear hK; clear hK; clear hK; refine hK _ ?_; clear hK)
          | (simp only [wHb, reduceCtorEq] at hb <;> try (exfalso; omega))
          | refine wCd (fun hb => ?_) fun hb => ?_
          | refine wCa (c := by first | exact hc | exact ho | exact hin) (k := ?_)
          | refine wOw [4, 2, 3] (c := by exact hf) (k := ?_)
          | simp only [go_sem, Nat.reduceLT, Nat.reduceLeDiff, Nat.reduceEqDiff, Nat.reduceAdd, Nat.reduceMul, Nat.reduceSub, reduceCtorEq, F]
          | simp (disch := omega) only [decide_eq_true_eq, if_pos, if_neg, wrap_id, le_maxLen, and_true, true_and, if_true, ite_true]
          | refine wGd (fun hb => ?_) fun hb => ?_
        refine ret_mk (vs := _) (acc := _) (by simp only [go_sem, Nat.reduceLT, Nat.reduceLeDiff, Nat.reduceEqDiff, Nat.reduceAdd, Nat.reduceMul, Nat.reduceSub, reduceCtorEq, vres]; rfl) (by simp only [go_sem, Nat.reduceLT, Nat.reduceLeDiff, Nat.reduceEqDiff, Nat.reduceAdd, Nat.reduceMul, Nat.reduceSub, reduceCtorEq, wrap, exV, exAs, exA, exCs, exC, rowsH_len, rowsH_take, rowsD_len, rowsD_take, Nat.le_refl]; rfl) (by simp) (by simp) (by simp [rowsH_pur, rowsD_pur])
      · have hf := finish_ok s0 fs0 n hi hs (by omega) (by omega) hne hstay2 q hq
        have F := And.intro @rowsH_len (And.intro @rowsD_len (And.intro @rowsF_len (And.intro @rowsH_take (And.intro @rowsD_take (And.intro @rowsH_pur @rowsD_pur)))))
        repeat' first
          | refine wSq fun _ hK => ?_
          | refine wRg ?_
          | refine wDr ?_
          | refine VWP_block ?_
          | refine VWP_skip ?_
          | refine VWP_exit ?_
          | refine VWP_ret ?_
          | (refine hK _ ?_; clear hK)
          | (clear hK; refine hK _ ?_; clear hK)
          | (clear hK; clear hK; refine hK _ ?_; clear hK)
          | (clear hK; clear hK; clear hK; refine hK _ ?_; clear hK)
          | (simp only [wHb, reduceCtorEq] at hb <;> try (exfalso; omega))
          | refine wCd (fun hb => ?_) fun hb => ?_
          | refine wCa (c := by first | exact hc | exact ho | exact hin) (k := ?_)
          | refine wOw [4, 2, 3] (c := by exact hf) (k := ?_)
          | simp only [go_sem, Nat.reduceLT, Nat.reduceLeDiff, Nat.reduceEqDiff, Nat.reduceAdd, Nat.reduceMul, Nat.reduceSub, reduceCtorEq, F]
          | simp (disch := omega) only [decide_eq_true_eq, if_pos, if_neg, wrap_id, le_maxLen, and_true, true_and, if_true, ite_true]
          | refine wGd (fun hb => ?_) fun hb => ?_
        refine ret_mk (vs := _) (acc := _) (by simp only [go_sem, Nat.reduceLT, Nat.reduceLeDiff, Nat.reduceEqDiff, Nat.reduceAdd, Nat.reduceMul, Nat.reduceSub, reduceCtorEq, vres]; rfl) (by simp only [go_sem, Nat.reduceLT, Nat.reduceLeDiff, Nat.reduceEqDiff, Nat.reduceAdd, Nat.reduceMul, Nat.reduceSub, reduceCtorEq, wrap, exV, exAs, exA, exCs, exC, rowsH_len, rowsD_len, e1, e2, t1, t2, Nat.le_refl]; rfl) (by simp) (by simp) (by simp [rowsH_pur, rowsD_pur])
theorem finishR_tiny (s : StoreD) (fs : List FrameD) (m : Int) (hs : s.tiny) : (finishR s fs m).1.tiny ∧ (finishR s fs m).1.heads.length = s.heads.length ∧ (finishR s fs m).1.descs.length = s.descs.length := by
  unfold finishR
  split
  · rename_i h
    have hp2 : stackB s fs = true ∧ inB m 0 2000 = true := by simpa [finOk] using h
    have hi := stack_help hp2.1
    have hk := finF_keeps m.toNat hi
    exact ⟨finF_tiny m.toNat hi hs, hk.hl, hk.dl⟩
  · exact ⟨hs, rfl, rfl⟩
end Go.Proofs.Ytljhhhlobkoocaa

/- FnHelped: a stack on a drawn store that is helped alone. -/
namespace Go.Proofs.Ytljhhhlobkoocaa
open Go Go.RowKit
set_option linter.unusedVariables false
set_option linter.unusedSimpArgs false
set_option maxRecDepth 100000
set_option maxHeartbeats 4000000
attribute [local irreducible] VWP vops vdraw contV contD CallK Guard GuardV NextL Puts Runs RetOK RetQ RetO RetQO thenQ blockQ
attribute [local irreducible] NextN

theorem entsN_six : ∀ {ds : List DescS}, (∀ d ∈ ds, d.entries.length ≤ 6) → entsN ds ≤ 6 * ds.length
  | [], _ => by simp [entsN]
  | d :: ds, h => by
    have h1 := h d (List.mem_cons_self ..)
    have h2 := entsN_six fun x hx => h x (List.mem_cons_of_mem _ hx)
    simp only [entsN, List.length_cons]
    omega
theorem storeP_tiny {s : StoreD} (h : StoreP s) : s.tiny := by
  have h1 := h.2.1
  have h2 := h.2.2.1
  have h3 := entsN_six fun d hd => (h.2.2.2.1 d hd).1.2.2.2.2.2
  exact ⟨by omega, by omega, by omega⟩
theorem stack_new {s : StoreD} (hS : StoreP s) {k : Nat} (hk : k < s.descs.length) : stackB s [⟨(k : Nat), 0, 0⟩] = true := by
  have hp := bP_true hS
  simp [stackB, hp, stB, frmB, inB]
  omega
theorem held_none {s : StoreD} (hS : StoreP s) (hz : s.descs.length = 0) : heldL s = [] := by
  rw [heldL, if_pos (bP_true hS)]
  unfold heldN
  simp only [List.map_eq_nil_iff, List.filter_eq_nil_iff, List.mem_range]
  intro o ho
  obtain ⟨h, hh⟩ : ∃ h, s.heads[o]? = some h := ⟨_, List.getElem?_eq_getElem ho⟩
  have hd := head_desc hS hh
  simp only [liesB, hh, decide_eq_true_eq]
  omega
theorem helpedLaw_ok (bs : List Int) (hb : ByteP bs) (hl9 : bs.length ≤ 9223372036854775807) : SatP Try.prog 4 [.fr 5 (rowsY bs)] (.bool true) [] := by
  have hbig := big_ok bs
  rcases Nat.lt_or_ge 1048576 bs.length with hgt | hl
  · have h1 : decide ((1048576 : Int) < bs.length) = true := decide_eq_true (by omega)
    rw [h1] at hbig
    refine satP_of_body hT Try.func4 (by kernel_rfl) rfl (rs := [.tmp 2]) rfl (n := 113) rfl (by simp) rfl (by simp) fun E hE => ?_
    unfold St.init
    have F := (Eq.refl 0)
    repeat' first
      | refine wSq fun _ hK => ?_
      | refine wRg ?_
      | refine wDr ?_
      | refine VWP_block ?_
      | refine VWP_skip ?_
      | refine VWP_exit ?_
      | refine VWP_ret ?_
      | (refine hK _ ?_; clear hK)
      | (clear hK; refine hK _ ?_; clear hK)
      | (clear hK; clear hK; refine hK _ ?_; clear hK)
      | (clear hK; clear hK; clear hK; refine hK _ ?_; clear hK)
      | (simp only [wHb, reduceCtorEq] at hb <;> try (exfalso; omega))
      | refine wCd (fun hb => ?_) fun hb => ?_
      | refine wCa (c := by first | exact hbig) (k := ?_)
      | simp only [go_sem, Nat.reduceLT, Nat.reduceLeDiff, Nat.reduceEqDiff, Nat.reduceAdd, Nat.reduceMul, Nat.reduceSub, reduceCtorEq, F]
      | ((fail_if_success first | refine wNn ?_ | refine wNo ?_ | refine wNl ?_ | refine wNr ?_);  simp (disch := omega) only [decide_eq_true_eq, if_pos, if_neg, wrap_id, le_maxLen, and_true, true_and, if_true, ite_true])
      | refine wGd (fun hb => ?_) fun hb => ?_
    all_goals refine wLf ?_
    all_goals rfl
  have h1 : decide ((1048576 : Int) < bs.length) = false := decide_eq_false (by omega)
  rw [h1] at hbig
  clear h1
  have hdr := drawStore_ok bs hl
  obtain ⟨nv, n2, n5, hD⟩ := storeF_ok (b := belowF bs) (fun c n hn => belowF_range bs c n hn) (newCur bs)
  replace hD : DrawnP nv 4 (drawS bs) := hD
  obtain ⟨s0, hs0⟩ : ∃ s, drawS bs = s := ⟨_, rfl⟩
  rw [hs0] at hdr hD
  have hsm := drawn_small hD
  have htn := storeP_tiny hD.st
  have hok := implStoreOk_ok s0 hsm
  rw [bP_true hD.st] at hok
  have hat := at_ok bs 3 hl hb (by decide)
  obtain ⟨at0, at1⟩ := atF_ok hb 3
  have hdl := hD.dl
  have hS := hD.st
  have hP := hD.pre
  rcases Nat.eq_zero_or_pos s0.descs.length with hz | hz
  · have hz2 : ((s0.descs.length : Int) == 0) = true := by rw [beq_iff_eq]; omega
    have hh := implHeld_ok s0 [] (held_none hS hz) hsm
    unfold StoreD.cells at hok hh
    refine satP_of_body hT Try.func4 (by kernel_rfl) rfl (rs := [.tmp 2]) rfl (n := 113) rfl (by simp) rfl (by simp) fun E hE => ?_
    unfold St.init
    have F := And.intro @rowsH_len (And.intro @rowsD_len (And.intro @rowsH_pur (And.intro @rowsD_pur (And.intro @rowsH_take (And.intro @rowsD_take (And.intro hz2 (And.intro @rowsN_len @List.length_nil.{0})))))))
    repeat' first
      | refine wSq fun _ hK => ?_
      | refine wRg ?_
      | refine wDr ?_
      | refine VWP_block ?_
      | refine VWP_skip ?_
      | refine VWP_exit ?_
      | refine VWP_ret ?_
      | (refine hK _ ?_; clear hK)
      | (clear hK; refine hK _ ?_; clear hK)
      | (clear hK; clear hK; refine hK _ ?_; clear hK)
      | (clear hK; clear hK; clear hK; refine hK _ ?_; clear hK)
      | (simp only [wHb, reduceCtorEq] at hb <;> try (exfalso; omega))
      | refine wCdx (fun hb => ?_) fun hb => ?_
      | refine wCax (c := by first | exact hbig | exact hdr | exact hok | exact hh) (k := ?_)
      | simp only [go_sem, Nat.reduceLT, Nat.reduceLeDiff, Nat.reduceEqDiff, Nat.reduceAdd, Nat.reduceMul, Nat.reduceSub, reduceCtorEq, Int.reduceBEq, Int.reduceBNe, Int.reduceLT, Int.reduceLE, Int.reduceAdd, Int.reduceToNat, F]
      | ((fail_if_success first | refine wNn ?_ | refine wNo ?_ | refine wNl ?_ | refine wNr ?_);  simp (disch := omega) only [decide_eq_true_eq, if_pos, if_neg, wrap_id, le_maxLen, and_true, true_and, if_true, ite_true])
      | refine wGdx (fun hb => ?_) fun hb => ?_
    all_goals refine wLf ?_
    all_goals first | rfl | simp_all
  have hz2 : ((s0.descs.length : Int) == 0) = false := by rw [beq_eq_false_iff_ne]; omega
  have hz3 : ¬ (s0.descs.length : Int) = 0 := by omega
  have hz4 : ¬ s0.descs.length = 0 := by omega
  obtain ⟨k0, hk0⟩ : ∃ k : Nat, (atF bs 3).tmod s0.descs.length = k := ⟨((atF bs 3).tmod s0.descs.length).toNat, by
    have := Int.tmod_nonneg (a := atF bs 3) s0.descs.length at0
    omega⟩
  have hkl : k0 < s0.descs.length := by
    have := Int.tmod_lt_of_pos (atF bs 3) (b := s0.descs.length) (by omega)
    omega
  -- helped until the stack is empty
  have hI := hinv_new hS hP hkl
  have hpt := pot_new hS hkl
  have hfd := finF_done 600 hI (by omega)
  have hone := finF_one (m := 600) (s := s0) (fs := [⟨(k0 : Nat), 0, 0⟩]) (by decide) (by simp)
  have hle := finF_le 600 s0 [⟨(k0 : Nat), 0, 0⟩]
  have hfin := implFinish_ok s0 [⟨(k0 : Nat), 0, 0⟩] 600 htn (by simp) _ rfl
  have hfr : finishR s0 [⟨(k0 : Nat), 0, 0⟩] 600 = ((finF 600 s0 [⟨(k0 : Nat), 0, 0⟩]).1, (((finF 600 s0 [⟨(k0 : Nat), 0, 0⟩]).2.2 : Nat) : Int), true) := by
    unfold finishR finOk
    rw [stack_new hS hkl, if_pos (by simp [inB]), show (600 : Int).toNat = 600 from rfl, hfd.nil]
    simp
  rw [hfr] at hfin
  obtain ⟨out, hout⟩ : ∃ x, finF 600 s0 [⟨(k0 : Nat), 0, 0⟩] = x := ⟨_, rfl⟩
  rw [hout] at hfin hfd hone hle
  obtain ⟨s1, fs1, n1⟩ := out
  simp only at hfin hfd hone hle
  have hS1 := hfd.st
  simp only at hS1
  have hsm1 := storeP_small hS1
  have hok1 := implStoreOk_ok s1 hsm1
  rw [bP_true hS1] at hok1
  have e1 : s1.descs.length = s0.descs.length := hfd.dl
  have e0 : s1.heads.length = s0.heads.length := hfd.hl
  obtain ⟨d1, hd1⟩ : ∃ d, s1.descs[k0]? = some d := ⟨_, List.getElem?_eq_getElem (by omega)⟩
  have hst1 : d1.status ≠ 0 := hfd.dec k0 d1 (by simp) hd1
  have hno : ∀ (o : Nat) (h : HeadD), s1.heads[o]? = some h → (h.desc == (k0 : Int)) = false := fun o h hh => by
    rw [beq_eq_false_iff_ne]
    intro hc
    exact (hfd.live k0 ⟨o, h, hh, hc⟩).2 (by simp)
  -- all are finished
  have hlv := liveN_le (s := s0) (fs := [])
  obtain ⟨ha1, ha2⟩ := finAll_done 60 hS hP (by omega)
  have hall := implFinishAll_ok s0 htn _ rfl
  have har : finAllR s0 = ((finAllF 60 s0).1, true) := by
    unfold finAllR
    rw [if_pos (bP_true hS), if_pos ha1]
  rw [har] at hall
  obtain ⟨s2, hs2⟩ : ∃ x, (finAllF 60 s0).1 = x := ⟨_, rfl⟩
  rw [hs2] at hall ha2
  have hsm2 := storeP_small ha2.st
  have hh2 := implHeld_ok s2 [] ha2.held hsm2
  have e2 : s2.descs.length = s0.descs.length := ha2.dl
  have e3 : s2.heads.length = s0.heads.length := ha2.hl
  -- how deep
  obtain ⟨dp, hdp⟩ := depth_ex s0 k0
  have hdq := implDepth_ok s0 k0 dp hdp hsm
  obtain ⟨q1, q2⟩ := depth_le hS hkl hdp
  have hrd1 := rowsD_at (te := 76) hd1
  have hkk0 : (0 : Int) ≤ (k0 : Nat) := by omega
  have hkk1 : (k0 : Int) < (s1.descs.length : Int) := by omega
  have hkk2 : k0 < s1.descs.length := by omega
  have hst2 : (d1.status == 0) = false := by rw [beq_eq_false_iff_ne]; exact hst1
  have hn1 : ¬ (n1 : Int) < 1 := by omega
  have hq1 : (1 : Int) ≤ (dp : Nat) := by omega
  have hq2 : (dp : Int) ≤ (s0.descs.length : Nat) := by omega
  have hne : ((s1.descs.length : Int) != s0.descs.length) = false := by rw [bne_eq_false_iff_eq]; omega
  have t1 := rowsH_take s1.heads
  have t2 := rowsD_take 76 s1.descs
  have t3 := rowsH_take s2.heads
  have t4 := rowsD_take 76 s2.descs
  rw [e0] at t1
  rw [e1] at t2
  rw [e3] at t3
  rw [e2] at t4
  unfold StoreD.cells at hok hok1 hfin hall hh2 hdq
  have hpr : PurRows [[.int .i64 (k0 : Nat), .int .i64 0, .int .i64 0]] := rowsF_pur [⟨(k0 : Nat), 0, 0⟩]
  clear hI hpt hfd hone hle hfr hout ha1 ha2 har hs2 hdp hs0 hD hP hst1 hd1 hlv hS1 hsm1 hsm2
  refine satP_of_body hT Try.func4 (by kernel_rfl) rfl (rs := [.tmp 2]) rfl (n := 113) rfl (by simp) rfl (by simp) fun E hE => ?_
  unfold St.init
  have F := And.intro @rowsH_len (And.intro @rowsD_len (And.intro @rowsH_pur (And.intro @rowsD_pur (And.intro @rowsH_take (And.intro @rowsD_take (And.intro hz2 (And.intro hz3 (And.intro hz4 (And.intro hk0 (And.intro hn1 (And.intro hne (And.intro hrd1 (And.intro hkk0 (And.intro hkk1 (And.intro hkk2 (And.intro hst2 (And.intro e0 (And.intro e1 (And.intro t1 (And.intro t2 hpr))))))))))))))))))))
  repeat' first
    | refine wSq fun _ hK => ?_
    | refine wRg ?_
    | refine wDr ?_
    | refine VWP_block ?_
    | refine VWP_skip ?_
    | refine VWP_exit ?_
    | refine VWP_ret ?_
    | (refine hK _ ?_; clear hK)
    | (clear hK; refine hK _ ?_; clear hK)
    | (clear hK; clear hK; refine hK _ ?_; clear hK)
    | (clear hK; clear hK; clear hK; refine hK _ ?_; clear hK)
    | (simp only [wHb, reduceCtorEq] at hb <;> try (exfalso; omega))
    | refine wCd (fun hb => ?_) fun hb => ?_
    | refine wCa (c := by first | exact hbig | exact hdr | exact hok | exact hok1 | exact hat | exact hfin) (k := ?_)
    | simp only [go_sem, Nat.reduceLT, Nat.reduceLeDiff, Nat.reduceEqDiff, Nat.reduceAdd, Nat.reduceMul, Nat.reduceSub, reduceCtorEq, F]
    | ((fail_if_success first | refine wNn ?_ | refine wNo ?_ | refine wNl ?_ | refine wNr ?_);  simp (disch := omega) only [decide_eq_true_eq, if_pos, if_neg, wrap_id, le_maxLen, and_true, true_and, if_true, ite_true])
    | refine wGd (fun hb => ?_) fun hb => ?_
  clear hbig hdr hok hok1 hat hfin at0 at1 hz2 hz3 hz4 hn1 hne hrd1 hst2
  refine VWP_loopN hE (X := Nat) (fun j => [(0, .fr 5 (rowsY bs)), (3, .bp 0 0), (4, .int .i64 (k0 : Nat)), (5, .bp 3 0), (8, .int .i64 j)])
    (fun j => [(0, .box [.rf 1 s0.heads.length, .rf 2 s0.descs.length]), (1, .root 40 (rowsH s0.heads)), (2, .root 38 (rowsD 76 s0.descs)), (3, .box [.rf 4 s0.heads.length, .rf 5 s0.descs.length]), (4, .root 40 (rowsH s1.heads)), (5, .root 38 (rowsD 76 s1.descs))])
    (fun j => s0.heads.length - j) (fun j => j ≤ s0.heads.length) [2, 0, 1, 454, 452, 453] 0 (Nat.zero_le _) (by decide) (by decide) (by simp [updV, renV, renA, renC, hk0]) (by simp [updH, renH_at, renE, renC, rowsH_pur, rowsD_pur]) ?_
  intro j hj
  try simp only
  rcases Nat.lt_or_ge j s0.heads.length with hjl | hjg
  · obtain ⟨h, hh1⟩ : ∃ h, s1.heads[j]? = some h := ⟨_, List.getElem?_eq_getElem (by omega)⟩
    have hrh := rowsH_at hh1
    have hnn := hno j h hh1
    have hj0 : (0 : Int) ≤ (j : Nat) := by omega
    have hj1 : (j : Int) < (s0.heads.length : Int) := by omega
    have hj2 : j < s1.heads.length := by omega
    have hj3 : s0.heads.length ≤ s1.heads.length := by omega
    have hw := wrap_id (x := (j : Int) + 1) (by have := hS.2.1; omega)
    have F := And.intro @rowsH_len (And.intro @rowsD_len (And.intro @rowsH_pur (And.intro @rowsD_pur (And.intro hrh (And.intro hnn (And.intro hj0 (And.intro hj1 (And.intro hj2 (And.intro hj3 (And.intro hjl hw))))))))))
    repeat' first
      | refine wSq fun _ hK => ?_
      | refine wRg ?_
      | refine wDr ?_
      | refine VWP_block ?_
      | refine VWP_skip ?_
      | refine VWP_exit ?_
      | refine VWP_ret ?_
      | (refine hK _ ?_; clear hK)
      | (clear hK; refine hK _ ?_; clear hK)
      | (clear hK; clear hK; refine hK _ ?_; clear hK)
      | (clear hK; clear hK; clear hK; refine hK _ ?_; clear hK)
      | (simp only [wHb, reduceCtorEq] at hb <;> try (exfalso; omega))
      | refine wCd (fun hb => ?_) fun hb => ?_
      | simp only [go_sem, Nat.reduceLT, Nat.reduceLeDiff, Nat.reduceEqDiff, Nat.reduceAdd, Nat.reduceMul, Nat.reduceSub, reduceCtorEq, F]
      | ((fail_if_success first | refine wNn ?_ | refine wNo ?_ | refine wNl ?_ | refine wNr ?_);  simp (disch := omega) only [decide_eq_true_eq, if_pos, if_neg, wrap_id, le_maxLen, and_true, true_and, if_true, ite_true])
      | refine wGd (fun hb => ?_) fun hb => ?_
    all_goals refine nextN [] rfl [0, 1, 2, 3, 4, 5] (j + 1) rfl (by decide) (by decide) hjl (by omega) (by simp [updV, tmL, renV, renA, renC, hw]) (by simp [updH, hpL, renH_at, renE, renC, rowsH_pur, rowsD_pur])
  · have hn : ¬ (j : Int) < (s0.heads.length : Int) := by omega
    have F := And.intro @rowsH_len (And.intro @rowsD_len (And.intro @rowsH_pur (And.intro @rowsD_pur (And.intro @rowsH_take (And.intro @rowsD_take (And.intro @rowsN_len (And.intro @List.length_nil.{0} (And.intro hn (And.intro hq1 (And.intro hq2 (And.intro e2 (And.intro e3 (And.intro t3 t4)))))))))))))
    repeat' first
      | refine wSq fun _ hK => ?_
      | refine wRg ?_
      | refine wDr ?_
      | refine VWP_block ?_
      | refine VWP_skip ?_
      | refine VWP_exit ?_
      | refine VWP_ret ?_
      | (refine hK _ ?_; clear hK)
      | (clear hK; refine hK _ ?_; clear hK)
      | (clear hK; clear hK; refine hK _ ?_; clear hK)
      | (clear hK; clear hK; clear hK; refine hK _ ?_; clear hK)
      | (simp only [wHb, reduceCtorEq] at hb <;> try (exfalso; omega))
      | refine wCdx (fun hb => ?_) fun hb => ?_
      | refine wCax (c := by first | exact hall | exact hdq | exact hh2) (k := ?_)
      | simp only [go_sem, Nat.reduceLT, Nat.reduceLeDiff, Nat.reduceEqDiff, Nat.reduceAdd, Nat.reduceMul, Nat.reduceSub, reduceCtorEq, Int.reduceBEq, Int.reduceBNe, Int.reduceLT, Int.reduceLE, Int.reduceAdd, Int.reduceToNat, F]
      | ((fail_if_success first | refine wNn ?_ | refine wNo ?_ | refine wNl ?_ | refine wNr ?_);  simp (disch := omega) only [decide_eq_true_eq, if_pos, if_neg, wrap_id, le_maxLen, and_true, true_and, if_true, ite_true])
      | refine wGdx (fun hb => ?_) fun hb => ?_
    all_goals refine wLf ?_
    all_goals first | rfl | simp_all
end Go.Proofs.Ytljhhhlobkoocaa
