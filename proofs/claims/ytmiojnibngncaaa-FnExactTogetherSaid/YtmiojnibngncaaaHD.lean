/- A step of a stack, in one statement each; the program's finish. -/
import Derived.Test.YtmiojnibngncaaaHC
import Derived.Test.YtmiojnibngncaaaEL
namespace Go.Proofs.Ytmiojnibngncaaa
open Go Go.RowKit
set_option linter.unusedVariables false
set_option linter.unusedSimpArgs false
set_option maxRecDepth 100000
set_option maxHeartbeats 4000000
attribute [local irreducible] VWP vops vdraw contV contD CallK Guard GuardV NextL Puts Runs RetOK RetQ RetO RetQO thenQ blockQ
attribute [local irreducible] NextN

/-- A step that moves nothing: the stack is full, and its last frame meets another descriptor. -/
def stuckB (s : StoreD) (fs : List FrameD) : Bool := match fs.getLast? with
  | none => true
  | some f => decide (0 ≤ (driveF s f).2.2) && decide (fs.length = 130)
theorem stuck_help {s : StoreD} {fs : List FrameD} (h : stuckB s fs = true) : helpF s fs = (s, fs) := by
  rcases List.eq_nil_or_concat fs with rfl | ⟨init, f, rfl⟩
  · rfl
  · rw [List.concat_eq_append] at *
    simp [stuckB] at h
    rw [helpF_snoc, if_pos h.1, if_pos (by have := h.2; omega)]
theorem helpStuck_ok (s : StoreD) (fs : List FrameD) (hi : HelpI s fs) (hs : s.small) (h : stuckB s fs = true) :
    SatO Try.prog 93 [.bp 0 0, .fr 118 (rowsF fs)] [.box [.rf 1 s.heads.length, .rf 2 s.descs.length], .root 147 (rowsH s.heads), .root 37 (rowsD 96 s.descs)]
      (.rf 3 fs.length) [.box [.rf 1 s.heads.length, .rf 2 s.descs.length], .root 147 (rowsH s.heads), .root 37 (rowsD 96 s.descs), .root 118 (rowsF fs)] := by
  rcases List.eq_nil_or_concat fs with rfl | ⟨init, f, rfl⟩
  · exact helpNil_ok s hs
  · rw [List.concat_eq_append] at *
    simp [stuckB] at h
    obtain ⟨k, d, j, e, o, hd, ha, h1, h2, h3, h4⟩ := drv_at hi.st (hi.fr f (by simp))
    rw [driveF_at ha] at h
    have := helpFull_ok s init f k d j e o hd ha h1 h2 hs _ rfl h.1 (by have := h.2; omega)
    simpa using this
theorem helpMoves_ok (s : StoreD) (fs : List FrameD) (hi : HelpI s fs) (hs : s.small) (h : stuckB s fs = false) (r : StoreD × List FrameD) (hr : helpF s fs = r) :
    SatO Try.prog 93 [.bp 0 0, .fr 118 (rowsF fs)] [.box [.rf 1 s.heads.length, .rf 2 s.descs.length], .root 147 (rowsH s.heads), .root 37 (rowsD 96 s.descs)]
      (.rf 5 r.2.length) [.box [.rf 3 s.heads.length, .rf 4 s.descs.length], .root 147 (rowsH s.heads), .root 37 (rowsD 96 s.descs), .root 147 (rowsH r.1.heads), .root 37 (rowsD 96 r.1.descs), .root 118 (rowsF r.2)] := by
  rcases List.eq_nil_or_concat fs with rfl | ⟨init, f, rfl⟩
  · simp [stuckB] at h
  · rw [List.concat_eq_append] at *
    simp [stuckB] at h
    have hlen := hi.len
    simp at hlen
    obtain ⟨k, d, j, e, o, hd, ha, h1, h2, h3, h4⟩ := drv_at hi.st (hi.fr f (by simp))
    rw [helpF_snoc] at hr
    rw [driveF_at ha] at h hr
    by_cases hm : 0 ≤ (driveM s f k d e o hd).2.2
    · have hst := (driveM_step hi.st (hi.fr f (by simp)) ha h1 h2 h3 h4).same hm
      rw [if_pos hm, if_neg (by have := h hm; omega)] at hr
      subst hr
      have := helpPush_ok s init f k d j e o hd ha h1 h2 hs _ rfl hm (driveM_bnd hm) (by have := h hm; omega)
      simp only [hst] at this
      simpa using this
    · rw [if_neg hm] at hr
      by_cases h5 : (driveM s f k d e o hd).2.1.phase = 5
      · rw [if_pos h5] at hr
        subst hr
        exact helpPop_ok s init f k d j e o hd ha h1 h2 hs _ rfl hm h5 (by omega)
      · rw [if_neg h5] at hr
        subst hr
        have := helpPut_ok s init f k d j e o hd ha h1 h2 hs _ rfl hm h5 (by omega)
        simpa using this

theorem finF_step (m : Nat) {s : StoreD} {fs : List FrameD} (h : fs ≠ []) : finF (m + 1) s fs = ((finF m (helpF s fs).1 (helpF s fs).2).1, (finF m (helpF s fs).1 (helpF s fs).2).2.1, (finF m (helpF s fs).1 (helpF s fs).2).2.2 + 1) := by rw [finF, if_neg h]
theorem finF_nil (m : Nat) (s : StoreD) : finF m s [] = (s, [], 0) := by cases m <;> simp [finF]
/-- What a loop of finish knows: how many steps there were, the store, the stack. -/
structure FinX where
  i : Nat
  s : StoreD
  fs : List FrameD
def FinX.tl (tf : TypeId) (m : Nat) (x : FinX) : List (Nat × VV) := if x.i = 0 then [(0, .bp 0 0), (1, .fr tf (rowsF x.fs)), (2, .int .i64 m), (8, .int .i64 x.i)] else [(0, .bp 0 0), (1, .rf 5 x.fs.length), (2, .int .i64 m), (8, .int .i64 x.i)]
def FinX.hl (th td te tf : TypeId) (nh nd : Nat) (x : FinX) : List (Nat × Ent) := if x.i = 0 then [(0, .box [.rf 1 nh, .rf 2 nd]), (1, .root th (rowsH x.s.heads)), (2, .root td (rowsD te x.s.descs))]
  else [(0, .box [.rf 3 nh, .rf 4 nd]), (3, .root th (rowsH x.s.heads)), (4, .root td (rowsD te x.s.descs)), (5, .root tf (rowsF x.fs))]
structure FinJ (m : Nat) (s0 : StoreD) (fs0 : List FrameD) (x : FinX) : Prop where
  inv : HelpI x.s x.fs
  tin : x.s.tiny
  le : x.i ≤ m
  hl : x.s.heads.length = s0.heads.length
  dl : x.s.descs.length = s0.descs.length
  zero : x.i = 0 → x.s = s0 ∧ x.fs = fs0
  res : finF m s0 fs0 = ((finF (m - x.i) x.s x.fs).1, (finF (m - x.i) x.s x.fs).2.1, x.i + (finF (m - x.i) x.s x.fs).2.2)
theorem finJ_step {m : Nat} {s0 : StoreD} {fs0 : List FrameD} {x : FinX} (h : FinJ m s0 fs0 x) (hi : x.i < m) (hne : x.fs ≠ []) : FinJ m s0 fs0 ⟨x.i + 1, (helpF x.s x.fs).1, (helpF x.s x.fs).2⟩ := by
  have hk := helpF_keeps h.inv
  refine ⟨hk.inv, helpF_tiny h.inv h.tin, hi, by rw [← h.hl]; exact hk.hl, by rw [← h.dl]; exact hk.dl, fun hh => absurd hh (Nat.succ_ne_zero _), ?_⟩
  rw [h.res]
  simp only
  have e : m - x.i = (m - (x.i + 1)) + 1 := by omega
  rw [e, finF_step _ hne]
  simp only [Prod.mk.injEq, true_and]
  omega
theorem finish_ok (s0 : StoreD) (fs0 : List FrameD) (m : Nat) (hi : HelpI s0 fs0) (hs : s0.tiny) (hm : 1 ≤ m) (hm2 : m ≤ 1048576) (hne : fs0 ≠ []) (hst : stuckB s0 fs0 = false) (r : StoreD × List FrameD × Nat) (hr : finF m s0 fs0 = r) :
    SatO Try.prog 85 [.bp 0 0, .fr 118 (rowsF fs0), .int .i64 m] [.box [.rf 1 s0.heads.length, .rf 2 s0.descs.length], .root 147 (rowsH s0.heads), .root 37 (rowsD 96 s0.descs)]
      (.tup [.int .i64 r.2.2, .bool (decide (r.2.1 = []))]) [.box [.rf 3 s0.heads.length, .rf 4 s0.descs.length], .dead, .dead, .root 147 (rowsH r.1.heads), .root 37 (rowsD 96 r.1.descs)] := by
  refine satO_of_body hT Try.func85 (by kernel_rfl) rfl (rs := [.tmp 6, .tmp 7]) rfl (n := 26) rfl (by simp) rfl (m := 3) rfl ⟨⟨rfl, rfl⟩, trivial, trivial, by simp [keptL, newOk, rowsH_pur, rowsD_pur]⟩ fun E hE => ?_
  unfold St.initO
  have F := (Eq.refl 0)
  repeat' first
    | refine wSq fun _ hK => ?_
    | refine wRg ?_
    | refine wDr ?_
    | refine VWP_block ?_
    | refine VWP_skip ?_
    | refine VWP_exit ?_
    | refine VWP_ret ?_
    | (refine hK _ ?_; clear hK)
    | (clear hK; refine hK _ ?_; clear hK)
    | (clear hK; clear hK; refine hK _ ?_; clear hK)
    | (clear hK; clear hK; clear hK; refine hK _ ?_; clear hK)
    | (simp only [wHb, reduceCtorEq] at hb <;> try (exfalso; omega))
    | refine wCd (fun hb => ?_) fun hb => ?_
    | simp only [go_sem, Nat.reduceLT, Nat.reduceLeDiff, Nat.reduceEqDiff, Nat.reduceAdd, Nat.reduceMul, Nat.reduceSub, reduceCtorEq, F]
    | simp (disch := omega) only [decide_eq_true_eq, if_pos, if_neg, wrap_id, le_maxLen, and_true, true_and, if_true, ite_true]
    | refine wGd (fun hb => ?_) fun hb => ?_
  refine VWP_loopN hE (X := FinX) (FinX.tl 118 m) (FinX.hl 147 37 96 118 s0.heads.length s0.descs.length) (fun x => m - x.i) (FinJ m s0 fs0) [0, 1, 2, 3, 4, 5] ⟨0, s0, fs0⟩ ⟨hi, hs, by simp, rfl, rfl, fun _ => ⟨rfl, rfl⟩, by simp⟩ (by decide) (by decide) (by simp [updV, FinX.tl, renV, renA, renC]) (by simp [updH, HpE, FinX.hl, renH_at, renE, renC, rowsH_pur, rowsD_pur]) ?_
  rintro ⟨i, s, fs⟩ hJ
  have hinv := hJ.inv
  have hle : i ≤ m := hJ.le
  have hhl : s.heads.length = s0.heads.length := hJ.hl
  have hdl : s.descs.length = s0.descs.length := hJ.dl
  have hres := hJ.res
  have htin := hJ.tin
  simp only at hinv hres htin
  have hlen := hinv.len
  have hw := wrap_id (x := (i : Int) + 1) (by omega)
  obtain ⟨⟨s1, fs1⟩, h1⟩ : ∃ q, helpF s fs = q := ⟨_, rfl⟩
  rcases Nat.eq_zero_or_pos i with hi0 | hi0
  · subst hi0
    obtain ⟨rfl, rfl⟩ := hJ.zero rfl
    have hc := helpMoves_ok s fs hi hs.small hst _ h1
    have hJ2 := finJ_step hJ (by show 0 < m; omega) hne
    simp only [h1] at hJ2
    have hpos : 0 < fs.length := List.length_pos_iff.2 hne
    have hm0 : (0 : Int) < (m : Int) := by omega
    have hp0 : (0 : Int) < (fs.length : Int) := by omega
    simp only [FinX.tl, FinX.hl, if_pos]
    have F := And.intro @rowsF_len (And.intro @rowsH_len (And.intro @rowsD_len (And.intro @rowsH_pur (And.intro @rowsD_pur (And.intro hp0 hm0)))))
    repeat' first
      | refine wSq fun _ hK => ?_
      | refine wRg ?_
      | refine wDr ?_
      | refine VWP_block ?_
      | refine VWP_skip ?_
      | refine VWP_exit ?_
      | refine VWP_ret ?_
      | (refine hK _ ?_; clear hK)
      | (clear hK; refine hK _ ?_; clear hK)
      | (clear hK; clear hK; refine hK _ ?_; clear hK)
      | (clear hK; clear hK; clear hK; refine hK _ ?_; clear hK)
      | (simp only [wHb, reduceCtorEq] at hb <;> try (exfalso; omega))
      | refine wCd (fun hb => ?_) fun hb => ?_
      | refine wOw [0, 1, 2] (c := by exact hc) (k := ?_)
      | simp only [go_sem, Nat.reduceLT, Nat.reduceLeDiff, Nat.reduceEqDiff, Nat.reduceAdd, Nat.reduceMul, Nat.reduceSub, reduceCtorEq, F]
      | simp (disch := omega) only [decide_eq_true_eq, if_pos, if_neg, wrap_id, le_maxLen, and_true, true_and, if_true, ite_true]
      | refine wGd (fun hb => ?_) fun hb => ?_
    all_goals refine nextN [] rfl [0, 1, 2, 6, 7, 8] ⟨1, s1, fs1⟩ rfl (by decide) (by decide) hJ2 (by simp only; omega) (by simp [updV, tmL, FinX.tl, renV, renA, renC]) (by simp [updH, hpL, FinX.hl, renH_at, renE, renC, rowsH_pur, rowsD_pur, rowsF_pur])
  · have hi1 : ¬ i = 0 := by omega
    simp only [FinX.tl, FinX.hl, if_neg hi1]
    by_cases hgo : fs ≠ [] ∧ i < m
    · obtain ⟨hne1, him⟩ := hgo
      have hpos : 0 < fs.length := List.length_pos_iff.2 hne1
      have hm0 : (i : Int) < (m : Int) := by omega
      have hp0 : (0 : Int) < (fs.length : Int) := by omega
      have hJ2 := finJ_step hJ him hne1
      simp only [h1] at hJ2
      rcases (Bool.eq_false_or_eq_true (stuckB s fs)) with hsk | hsk
      · have hc := helpStuck_ok s fs hinv htin.small hsk
        rw [hhl, hdl] at hc
        rw [stuck_help hsk] at h1
        cases h1
        have F := And.intro @rowsF_len (And.intro @rowsF_take (And.intro @rowsF_pur (And.intro @rowsH_len (And.intro @rowsD_len (And.intro @rowsH_pur (And.intro @rowsD_pur (And.intro hp0 hm0)))))))
        repeat' first
          | refine wSq fun _ hK => ?_
          | refine wRg ?_
          | refine wDr ?_
          | refine VWP_block ?_
          | refine VWP_skip ?_
          | refine VWP_exit ?_
          | refine VWP_ret ?_
          | (refine hK _ ?_; clear hK)
          | (clear hK; refine hK _ ?_; clear hK)
          | (clear hK; clear hK; refine hK _ ?_; clear hK)
          | (clear hK; clear hK; clear hK; refine hK _ ?_; clear hK)
          | (simp only [wHb, reduceCtorEq] at hb <;> try (exfalso; omega))
          | refine wCd (fun hb => ?_) fun hb => ?_
          | refine wOw [0, 3, 4] (c := by exact hc) (k := ?_)
          | simp only [go_sem, Nat.reduceLT, Nat.reduceLeDiff, Nat.reduceEqDiff, Nat.reduceAdd, Nat.reduceMul, Nat.reduceSub, reduceCtorEq, F]
          | simp (disch := omega) only [decide_eq_true_eq, if_pos, if_neg, wrap_id, le_maxLen, and_true, true_and, if_true, ite_true]
          | refine wGd (fun hb => ?_) fun hb => ?_
        all_goals refine nextN [] rfl [0, 1, 2, 3, 4, 6] ⟨i + 1, s, fs⟩ rfl (by decide) (by decide) hJ2 (by simp only; omega) (by simp [updV, tmL, FinX.tl, renV, renA, renC, hw]) (by simp [updH, hpL, FinX.hl, renH_at, renE, renC, rowsH_pur, rowsD_pur, rowsF_pur])
      · have hc := helpMoves_ok s fs hinv htin.small hsk _ h1
        rw [hhl, hdl] at hc
        have F := And.intro @rowsF_len (And.intro @rowsF_take (And.intro @rowsF_pur (And.intro @rowsH_len (And.intro @rowsD_len (And.intro @rowsH_pur (And.intro @rowsD_pur (And.intro hp0 hm0)))))))
        repeat' first
          | refine wSq fun _ hK => ?_
          | refine wRg ?_
          | refine wDr ?_
          | refine VWP_block ?_
          | refine VWP_skip ?_
          | refine VWP_exit ?_
          | refine VWP_ret ?_
          | (refine hK _ ?_; clear hK)
          | (clear hK; refine hK _ ?_; clear hK)
          | (clear hK; clear hK; refine hK _ ?_; clear hK)
          | (clear hK; clear hK; clear hK; refine hK _ ?_; clear hK)
          | (simp only [wHb, reduceCtorEq] at hb <;> try (exfalso; omega))
          | refine wCd (fun hb => ?_) fun hb => ?_
          | refine wOw [0, 3, 4] (c := by exact hc) (k := ?_)
          | simp only [go_sem, Nat.reduceLT, Nat.reduceLeDiff, Nat.reduceEqDiff, Nat.reduceAdd, Nat.reduceMul, Nat.reduceSub, reduceCtorEq, F]
          | simp (disch := omega) only [decide_eq_true_eq, if_pos, if_neg, wrap_id, le_maxLen, and_true, true_and, if_true, ite_true]
          | refine wGd (fun hb => ?_) fun hb => ?_
        all_goals refine nextN [] rfl [0, 1, 2, 6, 7, 8] ⟨i + 1, s1, fs1⟩ rfl (by decide) (by decide) hJ2 (by simp only; omega) (by simp [updV, tmL, FinX.tl, renV, renA, renC, hw]) (by simp [updH, hpL, FinX.hl, renH_at, renE, renC, rowsH_pur, rowsD_pur, rowsF_pur])
    · have hfin : finF (m - i) s fs = (s, fs, 0) := by
        by_cases hf : fs = []
        · subst hf; exact finF_nil _ _
        · have h3 : ¬ i < m := fun h => hgo ⟨hf, h⟩
          have : m - i = 0 := by omega
          rw [this]; rfl
      rw [hfin, hr] at hres
      simp only at hres
      subst hres
      have t1 := rowsH_take s.heads
      have t2 := rowsD_take 96 s.descs
      rw [hhl] at t1
      rw [hdl] at t2
      have hdn : decide ((fs.length : Int) = 0) = decide (fs = []) := by
        cases fs with
        | nil => rfl
        | cons f fs => simp; omega
      have hbn : ((fs.length : Int) == 0) = decide (fs = []) := by
        cases fs with
        | nil => rfl
        | cons f fs => simp; omega
      have hgo2 : 0 < (fs.length : Int) → ¬ (i : Int) < (m : Int) := fun h hh => hgo ⟨fun h2 => by subst h2; simp at h, by omega⟩
      have F := And.intro @rowsF_len hbn
      repeat' first
        | refine wSq fun _ hK => ?_
        | refine wRg ?_
        | refine wDr ?_
        | refine VWP_block ?_
        | refine VWP_skip ?_
        | refine VWP_exit ?_
        | refine VWP_ret ?_
        | (refine hK _ ?_; clear hK)
        | (clear hK; refine hK _ ?_; clear hK)
        | (clear hK; clear hK; refine hK _ ?_; clear hK)
        | (clear hK; clear hK; clear hK; refine hK _ ?_; clear hK)
        | (simp only [wHb, reduceCtorEq] at hb <;> try (exfalso; omega))
        | refine wCd (fun hb => ?_) fun hb => ?_
        | simp only [go_sem, Nat.reduceLT, Nat.reduceLeDiff, Nat.reduceEqDiff, Nat.reduceAdd, Nat.reduceMul, Nat.reduceSub, reduceCtorEq, F]
        | simp (disch := omega) only [decide_eq_true_eq, if_pos, if_neg, wrap_id, le_maxLen, and_true, true_and, if_true, ite_true]
        | refine wGd (fun hb => ?_) fun hb => ?_
      all_goals first
        | (exfalso; simp_all; done)
        | (exfalso; have := hgo2 (by assumption); simp_all; done)
        | skip
      all_goals refine retO_mk [] rfl [.box [.rf 3 s0.heads.length, .rf 4 s0.descs.length], .dead, .dead] rfl (by simp [keepsL, updH, hpL]) (acc1 := _) (by simp only [go_sem, Nat.reduceLT, Nat.reduceLeDiff, Nat.reduceEqDiff, Nat.reduceAdd, Nat.reduceMul, Nat.reduceSub, reduceCtorEq, exEs, exOCs, exOC, rowsH_len, rowsD_len, hhl, hdl, t1, t2, Nat.le_refl]; try rfl) (by simp only [go_sem, Nat.reduceLT, Nat.reduceLeDiff, Nat.reduceEqDiff, Nat.reduceAdd, Nat.reduceMul, Nat.reduceSub, reduceCtorEq, vres]; rfl) (acc := _) (by simp only [go_sem, Nat.reduceLT, Nat.reduceLeDiff, Nat.reduceEqDiff, Nat.reduceAdd, Nat.reduceMul, Nat.reduceSub, reduceCtorEq, wrap, exOV, exOAs, exOA, exOC, hbn]; try rfl) (by simp) (by simp [rootOf])
end Go.Proofs.Ytmiojnibngncaaa
