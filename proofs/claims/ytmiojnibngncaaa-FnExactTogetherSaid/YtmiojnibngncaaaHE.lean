/- The reference's Finish. -/
import Derived.Test.YtmiojnibngncaaaHD
import Derived.Test.YtmiojnibngncaaaKA
import Derived.Test.YtmiojnibngncaaaLB
namespace Go.Proofs.Ytmiojnibngncaaa
open Go Go.RowKit
set_option linter.unusedVariables false
set_option linter.unusedSimpArgs false
set_option maxRecDepth 100000
set_option maxHeartbeats 4000000
attribute [local irreducible] VWP vops vdraw contV contD CallK Guard GuardV NextL Puts Runs RetOK RetQ RetO RetQO thenQ blockQ
attribute [local irreducible] NextN

theorem l8_ok (s : StoreD) (fs junk : List FrameD) (hi : HelpI s fs) (hs : s.small) (r : StoreD × List FrameD) (hr : helpF s fs = r) :
    (∃ junk', SatO Try.prog 79 [.agg [.rf 0 s.heads.length, .rf 1 s.descs.length], .rf 2 fs.length] [.root 147 (rowsH s.heads), .root 37 (rowsD 96 s.descs), .root 118 (rowsF (fs ++ junk))]
      (.rf 2 r.2.length) [.root 147 (rowsH r.1.heads), .root 37 (rowsD 96 r.1.descs), .root 118 (rowsF (r.2 ++ junk'))]) ∨
    SatO Try.prog 79 [.agg [.rf 0 s.heads.length, .rf 1 s.descs.length], .rf 2 fs.length] [.root 147 (rowsH s.heads), .root 37 (rowsD 96 s.descs), .root 118 (rowsF (fs ++ junk))]
      (.rf 3 r.2.length) [.root 147 (rowsH r.1.heads), .root 37 (rowsD 96 r.1.descs), .dead, .root 118 (rowsF r.2)] := by
  rcases List.eq_nil_or_concat fs with rfl | ⟨init, f, rfl⟩
  · rw [helpF_nil] at hr
    subst hr
    exact .inl ⟨junk, l8Nil_ok s junk hs⟩
  · rw [List.concat_eq_append] at *
    have hlen := hi.len
    simp at hlen
    obtain ⟨k, d, j, e, o, hd, ha, h1, h2, h3, h4⟩ := drv_at hi.st (hi.fr f (by simp))
    rw [helpF_snoc, driveF_at ha] at hr
    have e1 : init ++ [f] ++ junk = init ++ f :: junk := by simp
    have e2 : (init ++ [f]).length = init.length + 1 := by simp
    rw [e1, e2]
    by_cases hm : 0 ≤ (driveM s f k d e o hd).2.2
    · have hst := (driveM_step hi.st (hi.fr f (by simp)) ha h1 h2 h3 h4).same hm
      rw [if_pos hm] at hr
      by_cases hn : init.length + 1 = 130
      · rw [if_pos hn] at hr
        subst hr
        have := l8Full_ok s init junk f k d j e o hd ha h1 h2 hs _ rfl hm hn
        rw [hst] at this
        exact .inl ⟨junk, by simpa using this⟩
      · rw [if_neg hn] at hr
        subst hr
        have := l8Push_ok s init junk f k d j e o hd ha h1 h2 hs _ rfl hm (by omega)
        rw [hst] at this
        exact .inr (by simpa using this)
    · rw [if_neg hm] at hr
      by_cases h5 : (driveM s f k d e o hd).2.1.phase = 5
      · rw [if_pos h5] at hr
        subst hr
        exact .inl ⟨_, l8Pop_ok s init junk f k d j e o hd ha h1 h2 hs _ rfl hm h5 (by omega)⟩
      · rw [if_neg h5] at hr
        subst hr
        have := l8Put_ok s init junk f k d j e o hd ha h1 h2 hs _ rfl hm h5 (by omega)
        exact .inl ⟨junk, by simpa using this⟩

/-- What Finish gives. -/
noncomputable def finOk (s : StoreD) (fs : List FrameD) (m : Int) : Bool := stackB s fs && inB m 0 2000
noncomputable def finishR (s : StoreD) (fs : List FrameD) (m : Int) : StoreD × Int × Bool :=
  if finOk s fs m = true then ((finF m.toNat s fs).1, ((finF m.toNat s fs).2.2 : Nat), decide ((finF m.toNat s fs).2.1 = [])) else (s, 0, false)
theorem stack_help {s : StoreD} {fs : List FrameD} (h : stackB s fs = true) : HelpI s fs := by
  simp only [stackB, Bool.and_eq_true, decide_eq_true_eq, List.all_eq_true] at h
  exact help_of (bP_iff.1 h.1.1) h.1.2 fun f hf => by
    have := h.2 f hf
    simp only [stB, Bool.and_eq_true] at this
    exact this.1
structure SFX where
  i : Nat
  s : StoreD
  fs : List FrameD
  junk : List FrameD
theorem specFinish_ok (s0 : StoreD) (fs0 : List FrameD) (m : Int) (hs : s0.tiny) (hl : fs0.length ≤ 1048576) (r : StoreD × Int × Bool) (hr : finishR s0 fs0 m = r) :
    SatP Try.prog 35 [.agg (s0.cells 147 37 96), .fr 118 (rowsF fs0), .int .i64 m]
      (.tup [.agg [.rf 0 s0.heads.length, .rf 1 s0.descs.length], .int .i64 r.2.1, .bool r.2.2]) [(147, rowsH r.1.heads), (37, rowsD 96 r.1.descs)] := by
  have hc := specStackOk_ok s0 fs0 hs.small hl
  have ho := l7Copy_ok s0 hs.small
  have hof := l8Copy_ok fs0 hl
  have hin := l1In_ok m 0 2000
  refine satP_of_body hT Try.func35 (by kernel_rfl) rfl (rs := [.cell 6 64, .tmp 7, .tmp 8]) rfl (n := 44) rfl (by simp) rfl (by simp [rowsH_pur, rowsD_pur]) fun E hE => ?_
  unfold St.init
  unfold StoreD.cells at *
  rcases (Bool.eq_false_or_eq_true (finOk s0 fs0 m)).symm with hp | hp
  · rw [finishR, if_neg (by rw [hp]; exact fun h => nomatch h)] at hr
    subst hr
    have hp2 : stackB s0 fs0 = true → inB m 0 2000 = false := fun h => by simpa [finOk, h] using hp
    generalize stackB s0 fs0 = A at *
    generalize inB m 0 2000 = B at *
    have F := And.intro @rowsH_len (And.intro @rowsD_len (And.intro @rowsF_len (And.intro @rowsH_take @rowsD_take)))
    repeat' first
      | refine wSq fun _ hK => ?_
      | refine wRg ?_
      | refine wDr ?_
      | refine VWP_block ?_
      | refine VWP_skip ?_
      | refine VWP_exit ?_
      | refine VWP_ret ?_
      | (refine hK _ ?_; clear hK)
      | (clear hK; refine hK _ ?_; clear hK)
      | (clear hK; clear hK; refine hK _ ?_; clear hK)
      | (clear hK; clear hK; clear hK; refine hK _ ?_; clear hK)
      | (simp only [wHb, reduceCtorEq] at hb <;> try (exfalso; omega))
      | refine wCd (fun hb => ?_) fun hb => ?_
      | refine wCa (c := by first | exact hc | exact ho | exact hof | exact hin) (k := ?_)
      | simp only [go_sem, Nat.reduceLT, Nat.reduceLeDiff, Nat.reduceEqDiff, Nat.reduceAdd, Nat.reduceMul, Nat.reduceSub, reduceCtorEq, F]
      | simp (disch := omega) only [decide_eq_true_eq, if_pos, if_neg, wrap_id, le_maxLen, and_true, true_and, if_true, ite_true]
      | refine wGd (fun hb => ?_) fun hb => ?_
    all_goals first
      | (exfalso; simp_all; done)
      | skip
    all_goals refine ret_mk (vs := _) (acc := _) (by simp only [go_sem, Nat.reduceLT, Nat.reduceLeDiff, Nat.reduceEqDiff, Nat.reduceAdd, Nat.reduceMul, Nat.reduceSub, reduceCtorEq, vres]; rfl) (by simp only [go_sem, Nat.reduceLT, Nat.reduceLeDiff, Nat.reduceEqDiff, Nat.reduceAdd, Nat.reduceMul, Nat.reduceSub, reduceCtorEq, wrap, exV, exAs, exA, exCs, exC, rowsH_len, rowsH_take, rowsD_len, rowsD_take, Nat.le_refl]; rfl) (by simp) (by simp) (by simp [rowsH_pur, rowsD_pur])
  · rw [finishR, if_pos hp] at hr
    have hp2 : stackB s0 fs0 = true ∧ inB m 0 2000 = true := by simpa [finOk] using hp
    rw [hp2.1] at hc
    rw [hp2.2] at hin
    have hi := stack_help hp2.1
    have hmr := hp2.2
    simp [inB] at hmr
    obtain ⟨n, hn⟩ : ∃ n : Nat, m = n := ⟨m.toNat, by omega⟩
    subst hn
    rw [Int.toNat_natCast] at hr
    have F := And.intro @rowsH_len (And.intro @rowsD_len (And.intro @rowsF_len (And.intro @rowsH_take @rowsD_take)))
    repeat' first
      | refine wSq fun _ hK => ?_
      | refine wRg ?_
      | refine wDr ?_
      | refine VWP_block ?_
      | refine VWP_skip ?_
      | refine VWP_exit ?_
      | refine VWP_ret ?_
      | (refine hK _ ?_; clear hK)
      | (clear hK; refine hK _ ?_; clear hK)
      | (clear hK; clear hK; refine hK _ ?_; clear hK)
      | (clear hK; clear hK; clear hK; refine hK _ ?_; clear hK)
      | (simp only [wHb, reduceCtorEq] at hb <;> try (exfalso; omega))
      | refine wCd (fun hb => ?_) fun hb => ?_
      | refine wCa (c := by first | exact hc | exact ho | exact hof | exact hin) (k := ?_)
      | simp only [go_sem, Nat.reduceLT, Nat.reduceLeDiff, Nat.reduceEqDiff, Nat.reduceAdd, Nat.reduceMul, Nat.reduceSub, reduceCtorEq, F]
      | simp (disch := omega) only [decide_eq_true_eq, if_pos, if_neg, wrap_id, le_maxLen, and_true, true_and, if_true, ite_true]
      | refine wGd (fun hb => ?_) fun hb => ?_
    refine VWP_loopN hE (X := SFX) (fun x => [(6, .bp 1 0), (9, .bp 5 0), (10, .rf 4 x.fs.length), (2, .int .i64 n), (11, .int .i64 x.i)]) (fun x => [(1, .box [.nl 147, .nl 37]), (5, .box [.rf 2 s0.heads.length, .rf 3 s0.descs.length]), (2, .root 147 (rowsH x.s.heads)), (3, .root 37 (rowsD 96 x.s.descs)), (4, .root 118 (rowsF (x.fs ++ x.junk)))])
      (fun x => n - x.i) (fun x => FinJ n s0 fs0 ⟨x.i, x.s, x.fs⟩) [0, 1, 2, 3, 4, 5] ⟨0, s0, fs0, []⟩ ⟨hi, hs, by simp, rfl, rfl, fun _ => ⟨rfl, rfl⟩, by simp⟩ (by decide) (by decide) (by simp [updV, renV, renA, renC]) (by simp [updH, renH_at, renE, renC, rowsH_pur, rowsD_pur, rowsF_pur]) ?_
    rintro ⟨i, s, fs, junk⟩ hJ
    have hinv := hJ.inv
    have hle : i ≤ n := hJ.le
    have hhl : s.heads.length = s0.heads.length := hJ.hl
    have hdl : s.descs.length = s0.descs.length := hJ.dl
    have hres := hJ.res
    have htin := hJ.tin
    simp only at hinv hres htin
    have hlen := hinv.len
    have hw := wrap_id (x := (i : Int) + 1) (by omega)
    have hjl : fs.length ≤ (fs ++ junk).length := by simp
    obtain ⟨⟨s1, fs1⟩, h1⟩ : ∃ q, helpF s fs = q := ⟨_, rfl⟩
    by_cases hgo : fs ≠ [] ∧ i < n
    · obtain ⟨hne1, him⟩ := hgo
      have hpos : 0 < fs.length := List.length_pos_iff.2 hne1
      have hm0 : (i : Int) < (n : Int) := by omega
      have hp0 : (0 : Int) < (fs.length : Int) := by omega
      have hJ2 := finJ_step hJ him hne1
      simp only [h1] at hJ2
      rcases l8_ok s fs junk hinv htin.small _ h1 with ⟨junk', hc2⟩ | hc2
      · rw [hhl, hdl] at hc2
        have F := And.intro @rowsF_len (And.intro @rowsF_pur (And.intro @rowsH_len (And.intro @rowsD_len (And.intro @rowsH_pur (And.intro @rowsD_pur (And.intro hp0 (And.intro hm0 hjl)))))))
        repeat' first
          | refine wSq fun _ hK => ?_
          | refine wRg ?_
          | refine wDr ?_
          | refine VWP_block ?_
          | refine VWP_skip ?_
          | refine VWP_exit ?_
          | refine VWP_ret ?_
          | (refine hK _ ?_; clear hK)
          | (clear hK; refine hK _ ?_; clear hK)
          | (clear hK; clear hK; refine hK _ ?_; clear hK)
          | (clear hK; clear hK; clear hK; refine hK _ ?_; clear hK)
          | (simp only [wHb, reduceCtorEq] at hb <;> try (exfalso; omega))
          | refine wCd (fun hb => ?_) fun hb => ?_
          | refine wOw [2, 3, 4] (c := by exact hc2) (k := ?_)
          | simp only [go_sem, Nat.reduceLT, Nat.reduceLeDiff, Nat.reduceEqDiff, Nat.reduceAdd, Nat.reduceMul, Nat.reduceSub, reduceCtorEq, F]
          | simp (disch := omega) only [decide_eq_true_eq, if_pos, if_neg, wrap_id, le_maxLen, and_true, true_and, if_true, ite_true]
          | refine wGd (fun hb => ?_) fun hb => ?_
        all_goals refine nextN [] rfl [0, 1, 2, 3, 4, 5] ⟨i + 1, s1, fs1, junk'⟩ rfl (by decide) (by decide) hJ2 (by simp only; omega) (by simp [updV, tmL, renV, renA, renC, hw]) (by simp [updH, hpL, renH_at, renE, renC, rowsH_pur, rowsD_pur, rowsF_pur])
      · rw [hhl, hdl] at hc2
        have F := And.intro @rowsF_len (And.intro @rowsF_pur (And.intro @rowsH_len (And.intro @rowsD_len (And.intro @rowsH_pur (And.intro @rowsD_pur (And.intro hp0 (And.intro hm0 hjl)))))))
        repeat' first
          | refine wSq fun _ hK => ?_
          | refine wRg ?_
          | refine wDr ?_
          | refine VWP_block ?_
          | refine VWP_skip ?_
          | refine VWP_exit ?_
          | refine VWP_ret ?_
          | (refine hK _ ?_; clear hK)
          | (clear hK; refine hK _ ?_; clear hK)
          | (clear hK; clear hK; refine hK _ ?_; clear hK)
          | (clear hK; clear hK; clear hK; refine hK _ ?_; clear hK)
          | (simp only [wHb, reduceCtorEq] at hb <;> try (exfalso; omega))
          | refine wCd (fun hb => ?_) fun hb => ?_
          | refine wOw [2, 3, 4] (c := by exact hc2) (k := ?_)
          | simp only [go_sem, Nat.reduceLT, Nat.reduceLeDiff, Nat.reduceEqDiff, Nat.reduceAdd, Nat.reduceMul, Nat.reduceSub, reduceCtorEq, F]
          | simp (disch := omega) only [decide_eq_true_eq, if_pos, if_neg, wrap_id, le_maxLen, and_true, true_and, if_true, ite_true]
          | refine wGd (fun hb => ?_) fun hb => ?_
        all_goals refine nextN [] rfl [0, 1, 2, 3, 6, 5] ⟨i + 1, s1, fs1, []⟩ rfl (by decide) (by decide) hJ2 (by simp only; omega) (by simp [updV, tmL, renV, renA, renC, hw]) (by simp [updH, hpL, renH_at, renE, renC, rowsH_pur, rowsD_pur, rowsF_pur])
    · have hfin : finF (n - i) s fs = (s, fs, 0) := by
        by_cases hf : fs = []
        · subst hf; exact finF_nil _ _
        · have h3 : ¬ i < n := fun h => hgo ⟨hf, h⟩
          have : n - i = 0 := by omega
          rw [this]; rfl
      rw [hfin] at hres
      simp only at hres
      rw [hres] at hr
      subst hr
      have t1 := rowsH_take s.heads
      have t2 := rowsD_take 96 s.descs
      rw [hhl] at t1
      rw [hdl] at t2
      have hbn : ((fs.length : Int) == 0) = decide (fs = []) := by
        cases fs with
        | nil => rfl
        | cons f fs => simp; omega
      have hgo2 : 0 < (fs.length : Int) → ¬ (i : Int) < (n : Int) := fun h hh => hgo ⟨fun h2 => by subst h2; simp at h, by omega⟩
      have F := And.intro @rowsF_len (And.intro hbn hjl)
      repeat' first
        | refine wSq fun _ hK => ?_
        | refine wRg ?_
        | refine wDr ?_
        | refine VWP_block ?_
        | refine VWP_skip ?_
        | refine VWP_exit ?_
        | refine VWP_ret ?_
        | (refine hK _ ?_; clear hK)
        | (clear hK; refine hK _ ?_; clear hK)
        | (clear hK; clear hK; refine hK _ ?_; clear hK)
        | (clear hK; clear hK; clear hK; refine hK _ ?_; clear hK)
        | (simp only [wHb, reduceCtorEq] at hb <;> try (exfalso; omega))
        | refine wCd (fun hb => ?_) fun hb => ?_
        | simp only [go_sem, Nat.reduceLT, Nat.reduceLeDiff, Nat.reduceEqDiff, Nat.reduceAdd, Nat.reduceMul, Nat.reduceSub, reduceCtorEq, F]
        | simp (disch := omega) only [decide_eq_true_eq, if_pos, if_neg, wrap_id, le_maxLen, and_true, true_and, if_true, ite_true]
        | refine wGd (fun hb => ?_) fun hb => ?_
      all_goals first
        | (exfalso; simp_all; done)
        | (exfalso; have := hgo2 (by assumption); simp_all; done)
        | skip
      all_goals refine ret_mk (vs := _) (acc := _) (by simp only [go_sem, Nat.reduceLT, Nat.reduceLeDiff, Nat.reduceEqDiff, Nat.reduceAdd, Nat.reduceMul, Nat.reduceSub, reduceCtorEq, vres]; rfl) (by simp only [go_sem, Nat.reduceLT, Nat.reduceLeDiff, Nat.reduceEqDiff, Nat.reduceAdd, Nat.reduceMul, Nat.reduceSub, reduceCtorEq, wrap, exV, exAs, exA, exCs, exC, rowsH_len, rowsD_len, hhl, hdl, t1, t2, hbn, Nat.le_refl]; rfl) (by simp) (by simp) (by simp [rowsH_pur, rowsD_pur])
end Go.Proofs.Ytmiojnibngncaaa
