/- What both Together give. -/
import Derived.Test.YtmiojnibngncaaaHE
import Derived.Test.YtmiojnibngncaaaSB
namespace Go.Proofs.Ytmiojnibngncaaa
open Go Go.RowKit
set_option linter.unusedVariables false
set_option linter.unusedSimpArgs false
set_option maxRecDepth 100000
set_option maxHeartbeats 4000000
attribute [local irreducible] VWP vops vdraw contV contD CallK Guard GuardV NextL Puts Runs RetOK RetQ RetO RetQO thenQ blockQ
attribute [local irreducible] NextN

/-- Two stacks are helped by turns. -/
def togF : List Bool → StoreD → List FrameD → List FrameD → StoreD × List FrameD × List FrameD
  | [], s, a, b => (s, a, b)
  | t :: ts, s, a, b => if t then togF ts (helpF s b).1 a (helpF s b).2 else togF ts (helpF s a).1 (helpF s a).2 b
noncomputable def togOk (s : StoreD) (a b : List FrameD) (ts : List Bool) : Bool := stackB s a && stackB s b && decide (ts.length ≤ 400)
noncomputable def togR (s : StoreD) (a b : List FrameD) (ts : List Bool) : StoreD × List FrameD × List FrameD := if togOk s a b ts = true then togF ts s a b else (s, a, b)
structure TogJ (s0 : StoreD) (a0 b0 : List FrameD) (ts : List Bool) (i : Nat) (s : StoreD) (a b : List FrameD) : Prop where
  ia : HelpI s a
  ib : HelpI s b
  tin : s.tiny
  le : i ≤ ts.length
  hl : s.heads.length = s0.heads.length
  dl : s.descs.length = s0.descs.length
  res : togF ts s0 a0 b0 = togF (ts.drop i) s a b
theorem togJ_true {s0 s : StoreD} {a0 b0 a b : List FrameD} {ts : List Bool} {i : Nat} (h : TogJ s0 a0 b0 ts i s a b) (ht : ts[i]? = some true) : TogJ s0 a0 b0 ts (i + 1) (helpF s b).1 a (helpF s b).2 := by
  have hk := helpF_keeps h.ib
  have hlt := (List.getElem?_eq_some_iff.1 ht).1
  refine ⟨⟨hk.inv.st, fun f hf => hk.all f (h.ia.fr f hf), h.ia.len⟩, hk.inv, helpF_tiny h.ib h.tin, hlt, by rw [hk.hl, h.hl], by rw [hk.dl, h.dl], ?_⟩
  rw [h.res, List.drop_eq_getElem_cons hlt, show ts[i] = true from by have := (List.getElem?_eq_some_iff.1 ht).2; exact this]
  rfl
theorem togJ_false {s0 s : StoreD} {a0 b0 a b : List FrameD} {ts : List Bool} {i : Nat} (h : TogJ s0 a0 b0 ts i s a b) (ht : ts[i]? = some false) : TogJ s0 a0 b0 ts (i + 1) (helpF s a).1 (helpF s a).2 b := by
  have hk := helpF_keeps h.ia
  have hlt := (List.getElem?_eq_some_iff.1 ht).1
  refine ⟨hk.inv, ⟨hk.inv.st, fun f hf => hk.all f (h.ib.fr f hf), h.ib.len⟩, helpF_tiny h.ia h.tin, hlt, by rw [hk.hl, h.hl], by rw [hk.dl, h.dl], ?_⟩
  rw [h.res, List.drop_eq_getElem_cons hlt, show ts[i] = false from by have := (List.getElem?_eq_some_iff.1 ht).2; exact this]
  rfl
theorem togJ_zero {s0 : StoreD} {a0 b0 : List FrameD} {ts : List Bool} (ha : HelpI s0 a0) (hb : HelpI s0 b0) (hs : s0.tiny) : TogJ s0 a0 b0 ts 0 s0 a0 b0 := ⟨ha, hb, hs, Nat.zero_le _, rfl, rfl, rfl⟩
structure TogX where
  i : Nat
  s : StoreD
  a : List FrameD
  b : List FrameD
  ja : List FrameD
  jb : List FrameD
theorem implTogether_ok (s0 : StoreD) (a0 b0 : List FrameD) (ts : List Bool) (hs : s0.tiny) (la : a0.length ≤ 1048576) (lb : b0.length ≤ 1048576) (lt : ts.length ≤ 1048576) (r : StoreD × List FrameD × List FrameD) (hr : togR s0 a0 b0 ts = r) :
    SatP Try.prog 49 [.agg (s0.cells 147 37 96), .fr 118 (rowsF a0), .fr 118 (rowsF b0), .fr 4 (rowsB ts)]
      (.tup [.agg [.rf 0 s0.heads.length, .rf 1 s0.descs.length], .rf 2 r.2.1.length, .rf 3 r.2.2.length]) [(147, rowsH r.1.heads), (37, rowsD 96 r.1.descs), (118, rowsF r.2.1), (118, rowsF r.2.2)] := by
  have hca := implStackOk_ok s0 a0 hs.small la
  have hcb := implStackOk_ok s0 b0 hs.small lb
  have ho := ownStore_ok s0 hs.small
  have hoa := ownFrames_ok a0 la
  have hob := ownFrames_ok b0 lb
  refine satP_of_body hT Try.func49 (by kernel_rfl) rfl (rs := [.cell 8 64, .tmp 9, .tmp 10]) rfl (n := 55) rfl (by simp) rfl (by simp [rowsH_pur, rowsD_pur, rowsF_pur]) fun E hE => ?_
  unfold St.init
  unfold StoreD.cells at *
  rcases (Bool.eq_false_or_eq_true (togOk s0 a0 b0 ts)).symm with hp | hp
  · rw [togR, if_neg (by rw [hp]; exact fun h => nomatch h)] at hr
    subst hr
    have hgt : stackB s0 a0 = true → stackB s0 b0 = true → (400 : Int) < (ts.length : Int) := fun h1 h2 => by
      have := hp
      simp [togOk, h1, h2] at this
      omega
    generalize stackB s0 a0 = A at *
    generalize stackB s0 b0 = B at *
    have F := And.intro @rowsH_len (And.intro @rowsD_len (And.intro @rowsF_len (And.intro @rowsB_len (And.intro @rowsH_take @rowsD_take))))
    repeat' first
      | refine wSq fun _ hK => ?_
      | refine wRg ?_
      | refine wDr ?_
      | refine VWP_block ?_
      | refine VWP_skip ?_
      | refine VWP_exit ?_
      | refine VWP_ret ?_
      | (refine hK _ ?_; clear hK)
      | (clear hK; refine hK _ ?_; clear hK)
      | (clear hK; clear hK; refine hK _ ?_; clear hK)
      | (clear hK; clear hK; clear hK; refine hK _ ?_; clear hK)
      | (simp only [wHb, reduceCtorEq] at hb <;> try (exfalso; omega))
      | refine wCd (fun hb => ?_) fun hb => ?_
      | refine wCa (c := by first | exact hca | exact hcb | exact ho | exact hoa | exact hob) (k := ?_)
      | simp only [go_sem, Nat.reduceLT, Nat.reduceLeDiff, Nat.reduceEqDiff, Nat.reduceAdd, Nat.reduceMul, Nat.reduceSub, reduceCtorEq, F]
      | simp (disch := omega) only [decide_eq_true_eq, if_pos, if_neg, wrap_id, le_maxLen, and_true, true_and, if_true, ite_true]
      | refine wGd (fun hb => ?_) fun hb => ?_
    all_goals first
      | (exfalso; simp_all; done)
      | (exfalso; have := hgt (by simp_all) (by simp_all); simp_all; omega)
      | skip
    all_goals refine ret_mk (vs := _) (acc := _) (by simp only [go_sem, Nat.reduceLT, Nat.reduceLeDiff, Nat.reduceEqDiff, Nat.reduceAdd, Nat.reduceMul, Nat.reduceSub, reduceCtorEq, vres]; rfl) (by simp only [go_sem, Nat.reduceLT, Nat.reduceLeDiff, Nat.reduceEqDiff, Nat.reduceAdd, Nat.reduceMul, Nat.reduceSub, reduceCtorEq, wrap, exV, exAs, exA, exCs, exC, rowsH_len, rowsH_take, rowsD_len, rowsD_take, rowsF_len, rowsF_take, Nat.le_refl]; rfl) (by simp) (by simp) (by simp [rowsH_pur, rowsD_pur, rowsF_pur])
  · rw [togR, if_pos hp] at hr
    have hp2 : (stackB s0 a0 = true ∧ stackB s0 b0 = true) ∧ ts.length ≤ 400 := by simpa [togOk] using hp
    obtain ⟨⟨p1, p2⟩, p3⟩ := hp2
    rw [p1] at hca
    rw [p2] at hcb
    have hn4 : ¬ (400 : Int) < (ts.length : Int) := by omega
    have F := And.intro @rowsH_len (And.intro @rowsD_len (And.intro @rowsF_len (And.intro @rowsB_len (And.intro @rowsH_take (And.intro @rowsD_take hn4)))))
    repeat' first
      | refine wSq fun _ hK => ?_
      | refine wRg ?_
      | refine wDr ?_
      | refine VWP_block ?_
      | refine VWP_skip ?_
      | refine VWP_exit ?_
      | refine VWP_ret ?_
      | (refine hK _ ?_; clear hK)
      | (clear hK; refine hK _ ?_; clear hK)
      | (clear hK; clear hK; refine hK _ ?_; clear hK)
      | (clear hK; clear hK; clear hK; refine hK _ ?_; clear hK)
      | (simp only [wHb, reduceCtorEq] at hb <;> try (exfalso; omega))
      | refine wCd (fun hb => ?_) fun hb => ?_
      | refine wCa (c := by first | exact hca | exact hcb | exact ho | exact hoa | exact hob) (k := ?_)
      | simp only [go_sem, Nat.reduceLT, Nat.reduceLeDiff, Nat.reduceEqDiff, Nat.reduceAdd, Nat.reduceMul, Nat.reduceSub, reduceCtorEq, F]
      | simp (disch := omega) only [decide_eq_true_eq, if_pos, if_neg, wrap_id, le_maxLen, and_true, true_and, if_true, ite_true]
      | refine wGd (fun hb => ?_) fun hb => ?_
    refine VWP_loopN hE (X := TogX) (fun x => [(8, .bp 1 0), (11, .bp 6 0), (12, .rf 4 x.a.length), (13, .rf 5 x.b.length), (40, .fr 4 (rowsB ts)), (41, .int .i64 ts.length), (42, .int .i64 x.i)]) (fun x => [(1, .box [.nl 147, .nl 37]), (6, .box [.rf 2 s0.heads.length, .rf 3 s0.descs.length]), (2, .root 147 (rowsH x.s.heads)), (3, .root 37 (rowsD 96 x.s.descs)), (4, .root 118 (rowsF (x.a ++ x.ja))), (5, .root 118 (rowsF (x.b ++ x.jb)))])
      (fun x => ts.length - x.i) (fun x => TogJ s0 a0 b0 ts x.i x.s x.a x.b) [0, 1, 2, 3, 4, 5, 6] ⟨0, s0, a0, b0, [], []⟩ (togJ_zero (stack_help p1) (stack_help p2) hs) (by decide) (by decide) (by simp [updV, renV, renA, renC]) (by simp [updH, renH_at, renE, renC, rowsH_pur, rowsD_pur, rowsF_pur]) ?_
    rintro ⟨i, s, a, b, ja, jb⟩ hJ
    have hia : HelpI s a := hJ.ia
    have hib : HelpI s b := hJ.ib
    have htin : s.tiny := hJ.tin
    have hle : i ≤ ts.length := hJ.le
    have hhl : s.heads.length = s0.heads.length := hJ.hl
    have hdl : s.descs.length = s0.descs.length := hJ.dl
    have hres : togF ts s0 a0 b0 = togF (ts.drop i) s a b := hJ.res
    have hla := hia.len
    have hlb := hib.len
    have hw := wrap_id (x := (i : Int) + 1) (by omega)
    have hja : a.length ≤ (a ++ ja).length := by simp
    have hjb : b.length ≤ (b ++ jb).length := by simp
    have hta : (rowsF (a ++ ja)).take a.length = rowsF a := by rw [show rowsF (a ++ ja) = rowsF a ++ rowsF ja by simp [rowsF], List.take_left' (rowsF_len _)]
    have htb : (rowsF (b ++ jb)).take b.length = rowsF b := by rw [show rowsF (b ++ jb) = rowsF b ++ rowsF jb by simp [rowsF], List.take_left' (rowsF_len _)]
    rcases Nat.lt_or_ge i ts.length with hlt | hge
    · obtain ⟨t, ht⟩ : ∃ t, ts[i]? = some t := ⟨_, List.getElem?_eq_getElem hlt⟩
      have hre := rowsB_at ht
      have hlt2 : (i : Int) < (ts.length : Int) := by omega
      cases t with
      | true =>
        have hJ2 := togJ_true hJ ht
        simp only at hJ2
        obtain ⟨⟨s1, b1⟩, h1⟩ : ∃ q, helpF s b = q := ⟨_, rfl⟩
        rw [h1] at hJ2
        rcases (Bool.eq_false_or_eq_true (stuckB s b)) with hsk | hsk
        · have hf := helpStuck_ok s b hib htin.small hsk
          rw [stuck_help hsk] at h1
          cases h1
          rw [hhl, hdl] at hf
          have F := And.intro @rowsB_len (And.intro @rowsF_len (And.intro @rowsF_pur (And.intro @rowsH_len (And.intro @rowsD_len (And.intro @rowsH_pur (And.intro @rowsD_pur (And.intro hlt (And.intro hlt2 (And.intro hre (And.intro hja (And.intro hjb (And.intro hta (And.intro htb @Nat.le_refl)))))))))))))
          repeat' first
            | refine wSq fun _ hK => ?_
            | refine wRg ?_
            | refine wDr ?_
            | refine VWP_block ?_
            | refine VWP_skip ?_
            | refine VWP_exit ?_
            | refine VWP_ret ?_
            | (refine hK _ ?_; clear hK)
            | (clear hK; refine hK _ ?_; clear hK)
            | (clear hK; clear hK; refine hK _ ?_; clear hK)
            | (clear hK; clear hK; clear hK; refine hK _ ?_; clear hK)
            | (simp only [wHb, reduceCtorEq] at hb <;> try (exfalso; omega))
            | refine wCd (fun hb => ?_) fun hb => ?_
            | refine wOw [6, 2, 3] (c := by exact hf) (k := ?_)
            | simp only [go_sem, Nat.reduceLT, Nat.reduceLeDiff, Nat.reduceEqDiff, Nat.reduceAdd, Nat.reduceMul, Nat.reduceSub, reduceCtorEq, F]
            | simp (disch := omega) only [decide_eq_true_eq, if_pos, if_neg, wrap_id, le_maxLen, and_true, true_and, if_true, ite_true]
            | refine wGd (fun hb => ?_) fun hb => ?_
          all_goals exact nextN [] rfl [0, 1, 2, 3, 4, 7, 6] ⟨i + 1, s, a, b, ja, []⟩ rfl (by decide) (by decide) hJ2 (by simp only; omega) (by simp [updV, tmL, renV, renA, renC, hw]) (by simp [updH, hpL, renH_at, renE, renC, rowsH_pur, rowsD_pur, rowsF_pur])
        · have hf := helpMoves_ok s b hib htin.small hsk _ h1
          rw [hhl, hdl] at hf
          have F := And.intro @rowsB_len (And.intro @rowsF_len (And.intro @rowsF_pur (And.intro @rowsH_len (And.intro @rowsD_len (And.intro @rowsH_pur (And.intro @rowsD_pur (And.intro hlt (And.intro hlt2 (And.intro hre (And.intro hja (And.intro hjb (And.intro hta (And.intro htb @Nat.le_refl)))))))))))))
          repeat' first
            | refine wSq fun _ hK => ?_
            | refine wRg ?_
            | refine wDr ?_
            | refine VWP_block ?_
            | refine VWP_skip ?_
            | refine VWP_exit ?_
            | refine VWP_ret ?_
            | (refine hK _ ?_; clear hK)
            | (clear hK; refine hK _ ?_; clear hK)
            | (clear hK; clear hK; refine hK _ ?_; clear hK)
            | (clear hK; clear hK; clear hK; refine hK _ ?_; clear hK)
            | (simp only [wHb, reduceCtorEq] at hb <;> try (exfalso; omega))
            | refine wCd (fun hb => ?_) fun hb => ?_
            | refine wOw [6, 2, 3] (c := by exact hf) (k := ?_)
            | simp only [go_sem, Nat.reduceLT, Nat.reduceLeDiff, Nat.reduceEqDiff, Nat.reduceAdd, Nat.reduceMul, Nat.reduceSub, reduceCtorEq, F]
            | simp (disch := omega) only [decide_eq_true_eq, if_pos, if_neg, wrap_id, le_maxLen, and_true, true_and, if_true, ite_true]
            | refine wGd (fun hb => ?_) fun hb => ?_
          all_goals exact nextN [] rfl [0, 1, 7, 8, 4, 9, 6] ⟨i + 1, s1, a, b1, ja, []⟩ rfl (by decide) (by decide) hJ2 (by simp only; omega) (by simp [updV, tmL, renV, renA, renC, hw]) (by simp [updH, hpL, renH_at, renE, renC, rowsH_pur, rowsD_pur, rowsF_pur])
      | false =>
        have hJ2 := togJ_false hJ ht
        simp only at hJ2
        obtain ⟨⟨s1, a1⟩, h1⟩ : ∃ q, helpF s a = q := ⟨_, rfl⟩
        rw [h1] at hJ2
        rcases (Bool.eq_false_or_eq_true (stuckB s a)) with hsk | hsk
        · have hf := helpStuck_ok s a hia htin.small hsk
          rw [stuck_help hsk] at h1
          cases h1
          rw [hhl, hdl] at hf
          have F := And.intro @rowsB_len (And.intro @rowsF_len (And.intro @rowsF_pur (And.intro @rowsH_len (And.intro @rowsD_len (And.intro @rowsH_pur (And.intro @rowsD_pur (And.intro hlt (And.intro hlt2 (And.intro hre (And.intro hja (And.intro hjb (And.intro hta (And.intro htb @Nat.le_refl)))))))))))))
          repeat' first
            | refine wSq fun _ hK => ?_
            | refine wRg ?_
            | refine wDr ?_
            | refine VWP_block ?_
            | refine VWP_skip ?_
            | refine VWP_exit ?_
            | refine VWP_ret ?_
            | (refine hK _ ?_; clear hK)
            | (clear hK; refine hK _ ?_; clear hK)
            | (clear hK; clear hK; refine hK _ ?_; clear hK)
            | (clear hK; clear hK; clear hK; refine hK _ ?_; clear hK)
            | (simp only [wHb, reduceCtorEq] at hb <;> try (exfalso; omega))
            | refine wCd (fun hb => ?_) fun hb => ?_
            | refine wOw [6, 2, 3] (c := by exact hf) (k := ?_)
            | simp only [go_sem, Nat.reduceLT, Nat.reduceLeDiff, Nat.reduceEqDiff, Nat.reduceAdd, Nat.reduceMul, Nat.reduceSub, reduceCtorEq, F]
            | simp (disch := omega) only [decide_eq_true_eq, if_pos, if_neg, wrap_id, le_maxLen, and_true, true_and, if_true, ite_true]
            | refine wGd (fun hb => ?_) fun hb => ?_
          all_goals exact nextN [] rfl [0, 1, 2, 3, 7, 5, 6] ⟨i + 1, s, a, b, [], jb⟩ rfl (by decide) (by decide) hJ2 (by simp only; omega) (by simp [updV, tmL, renV, renA, renC, hw]) (by simp [updH, hpL, renH_at, renE, renC, rowsH_pur, rowsD_pur, rowsF_pur])
        · have hf := helpMoves_ok s a hia htin.small hsk _ h1
          rw [hhl, hdl] at hf
          have F := And.intro @rowsB_len (And.intro @rowsF_len (And.intro @rowsF_pur (And.intro @rowsH_len (And.intro @rowsD_len (And.intro @rowsH_pur (And.intro @rowsD_pur (And.intro hlt (And.intro hlt2 (And.intro hre (And.intro hja (And.intro hjb (And.intro hta (And.intro htb @Nat.le_refl)))))))))))))
          repeat' first
            | refine wSq fun _ hK => ?_
            | refine wRg ?_
            | refine wDr ?_
            | refine VWP_block ?_
            | refine VWP_skip ?_
            | refine VWP_exit ?_
            | refine VWP_ret ?_
            | (refine hK _ ?_; clear hK)
            | (clear hK; refine hK _ ?_; clear hK)
            | (clear hK; clear hK; refine hK _ ?_; clear hK)
            | (clear hK; clear hK; clear hK; refine hK _ ?_; clear hK)
            | (simp only [wHb, reduceCtorEq] at hb <;> try (exfalso; omega))
            | refine wCd (fun hb => ?_) fun hb => ?_
            | refine wOw [6, 2, 3] (c := by exact hf) (k := ?_)
            | simp only [go_sem, Nat.reduceLT, Nat.reduceLeDiff, Nat.reduceEqDiff, Nat.reduceAdd, Nat.reduceMul, Nat.reduceSub, reduceCtorEq, F]
            | simp (disch := omega) only [decide_eq_true_eq, if_pos, if_neg, wrap_id, le_maxLen, and_true, true_and, if_true, ite_true]
            | refine wGd (fun hb => ?_) fun hb => ?_
          all_goals exact nextN [] rfl [0, 1, 7, 8, 9, 5, 6] ⟨i + 1, s1, a1, b, [], jb⟩ rfl (by decide) (by decide) hJ2 (by simp only; omega) (by simp [updV, tmL, renV, renA, renC, hw]) (by simp [updH, hpL, renH_at, renE, renC, rowsH_pur, rowsD_pur, rowsF_pur])
    · obtain rfl : i = ts.length := by omega
      have hge2 : ¬ (ts.length : Int) < (ts.length : Int) := by omega
      rw [hres, List.drop_eq_nil_of_le (Nat.le_refl _)] at hr
      have hr2 : (s, a, b) = r := hr
      subst hr2
      have t1 := rowsH_take s.heads
      have t2 := rowsD_take 96 s.descs
      rw [hhl] at t1
      rw [hdl] at t2
      have F := And.intro @rowsB_len hge2
      repeat' first
        | refine wSq fun _ hK => ?_
        | refine wRg ?_
        | refine wDr ?_
        | refine VWP_block ?_
        | refine VWP_skip ?_
        | refine VWP_exit ?_
        | refine VWP_ret ?_
        | (refine hK _ ?_; clear hK)
        | (clear hK; refine hK _ ?_; clear hK)
        | (clear hK; clear hK; refine hK _ ?_; clear hK)
        | (clear hK; clear hK; clear hK; refine hK _ ?_; clear hK)
        | (simp only [wHb, reduceCtorEq] at hb <;> try (exfalso; omega))
        | refine wCd (fun hb => ?_) fun hb => ?_
        | simp only [go_sem, Nat.reduceLT, Nat.reduceLeDiff, Nat.reduceEqDiff, Nat.reduceAdd, Nat.reduceMul, Nat.reduceSub, reduceCtorEq, F]
        | simp (disch := omega) only [decide_eq_true_eq, if_pos, if_neg, wrap_id, le_maxLen, and_true, true_and, if_true, ite_true]
        | refine wGd (fun hb => ?_) fun hb => ?_
      refine ret_mk (vs := _) (acc := _) (by simp only [go_sem, Nat.reduceLT, Nat.reduceLeDiff, Nat.reduceEqDiff, Nat.reduceAdd, Nat.reduceMul, Nat.reduceSub, reduceCtorEq, vres]; rfl) (by simp only [go_sem, Nat.reduceLT, Nat.reduceLeDiff, Nat.reduceEqDiff, Nat.reduceAdd, Nat.reduceMul, Nat.reduceSub, reduceCtorEq, wrap, exV, exAs, exA, exCs, exC, rowsH_len, rowsD_len, hhl, hdl, t1, t2, rowsF_len, hja, hjb, hta, htb, Nat.le_refl]; rfl) (by simp) (by simp) (by simp [rowsH_pur, rowsD_pur, rowsF_pur])
theorem specTogether_ok (s0 : StoreD) (a0 b0 : List FrameD) (ts : List Bool) (hs : s0.tiny) (la : a0.length ≤ 1048576) (lb : b0.length ≤ 1048576) (lt : ts.length ≤ 1048576) (r : StoreD × List FrameD × List FrameD) (hr : togR s0 a0 b0 ts = r) :
    SatP Try.prog 47 [.agg (s0.cells 147 37 96), .fr 118 (rowsF a0), .fr 118 (rowsF b0), .fr 4 (rowsB ts)]
      (.tup [.agg [.rf 0 s0.heads.length, .rf 1 s0.descs.length], .rf 2 r.2.1.length, .rf 3 r.2.2.length]) [(147, rowsH r.1.heads), (37, rowsD 96 r.1.descs), (118, rowsF r.2.1), (118, rowsF r.2.2)] := by
  have hca := specStackOk_ok s0 a0 hs.small la
  have hcb := specStackOk_ok s0 b0 hs.small lb
  have ho := l7Copy_ok s0 hs.small
  have hoa := l8Copy_ok a0 la
  have hob := l8Copy_ok b0 lb
  refine satP_of_body hT Try.func47 (by kernel_rfl) rfl (rs := [.cell 8 64, .tmp 9, .tmp 10]) rfl (n := 58) rfl (by simp) rfl (by simp [rowsH_pur, rowsD_pur, rowsF_pur]) fun E hE => ?_
  unfold St.init
  unfold StoreD.cells at *
  rcases (Bool.eq_false_or_eq_true (togOk s0 a0 b0 ts)).symm with hp | hp
  · rw [togR, if_neg (by rw [hp]; exact fun h => nomatch h)] at hr
    subst hr
    have hgt : stackB s0 a0 = true → stackB s0 b0 = true → (400 : Int) < (ts.length : Int) := fun h1 h2 => by
      have := hp
      simp [togOk, h1, h2] at this
      omega
    generalize stackB s0 a0 = A at *
    generalize stackB s0 b0 = B at *
    have F := And.intro @rowsH_len (And.intro @rowsD_len (And.intro @rowsF_len (And.intro @rowsB_len (And.intro @rowsH_take @rowsD_take))))
    repeat' first
      | refine wSq fun _ hK => ?_
      | refine wRg ?_
      | refine wDr ?_
      | refine VWP_block ?_
      | refine VWP_skip ?_
      | refine VWP_exit ?_
      | refine VWP_ret ?_
      | (refine hK _ ?_; clear hK)
      | (clear hK; refine hK _ ?_; clear hK)
      | (clear hK; clear hK; refine hK _ ?_; clear hK)
      | (clear hK; clear hK; clear hK; refine hK _ ?_; clear hK)
      | (simp only [wHb, reduceCtorEq] at hb <;> try (exfalso; omega))
      | refine wCd (fun hb => ?_) fun hb => ?_
      | refine wCa (c := by first | exact hca | exact hcb | exact ho | exact hoa | exact hob) (k := ?_)
      | simp only [go_sem, Nat.reduceLT, Nat.reduceLeDiff, Nat.reduceEqDiff, Nat.reduceAdd, Nat.reduceMul, Nat.reduceSub, reduceCtorEq, F]
      | simp (disch := omega) only [decide_eq_true_eq, if_pos, if_neg, wrap_id, le_maxLen, and_true, true_and, if_true, ite_true]
      | refine wGd (fun hb => ?_) fun hb => ?_
    all_goals first
      | (exfalso; simp_all; done)
      | (exfalso; have := hgt (by simp_all) (by simp_all); simp_all; omega)
      | skip
    all_goals refine ret_mk (vs := _) (acc := _) (by simp only [go_sem, Nat.reduceLT, Nat.reduceLeDiff, Nat.reduceEqDiff, Nat.reduceAdd, Nat.reduceMul, Nat.reduceSub, reduceCtorEq, vres]; rfl) (by simp only [go_sem, Nat.reduceLT, Nat.reduceLeDiff, Nat.reduceEqDiff, Nat.reduceAdd, Nat.reduceMul, Nat.reduceSub, reduceCtorEq, wrap, exV, exAs, exA, exCs, exC, rowsH_len, rowsH_take, rowsD_len, rowsD_take, rowsF_len, rowsF_take, Nat.le_refl]; rfl) (by simp) (by simp) (by simp [rowsH_pur, rowsD_pur, rowsF_pur])
  · rw [togR, if_pos hp] at hr
    have hp2 : (stackB s0 a0 = true ∧ stackB s0 b0 = true) ∧ ts.length ≤ 400 := by simpa [togOk] using hp
    obtain ⟨⟨p1, p2⟩, p3⟩ := hp2
    rw [p1] at hca
    rw [p2] at hcb
    have hn4 : ¬ (400 : Int) < (ts.length : Int) := by omega
    have F := And.intro @rowsH_len (And.intro @rowsD_len (And.intro @rowsF_len (And.intro @rowsB_len (And.intro @rowsH_take (And.intro @rowsD_take hn4)))))
    repeat' first
      | refine wSq fun _ hK => ?_
      | refine wRg ?_
      | refine wDr ?_
      | refine VWP_block ?_
      | refine VWP_skip ?_
      | refine VWP_exit ?_
      | refine VWP_ret ?_
      | (refine hK _ ?_; clear hK)
      | (clear hK; refine hK _ ?_; clear hK)
      | (clear hK; clear hK; refine hK _ ?_; clear hK)
      | (clear hK; clear hK; clear hK; refine hK _ ?_; clear hK)
      | (simp only [wHb, reduceCtorEq] at hb <;> try (exfalso; omega))
      | refine wCd (fun hb => ?_) fun hb => ?_
      | refine wCa (c := by first | exact hca | exact hcb | exact ho | exact hoa | exact hob) (k := ?_)
      | simp only [go_sem, Nat.reduceLT, Nat.reduceLeDiff, Nat.reduceEqDiff, Nat.reduceAdd, Nat.reduceMul, Nat.reduceSub, reduceCtorEq, F]
      | simp (disch := omega) only [decide_eq_true_eq, if_pos, if_neg, wrap_id, le_maxLen, and_true, true_and, if_true, ite_true]
      | refine wGd (fun hb => ?_) fun hb => ?_
    refine VWP_loopN hE (X := TogX) (fun x => [(8, .bp 1 0), (11, .bp 6 0), (12, .rf 4 x.a.length), (13, .rf 5 x.b.length), (3, .fr 4 (rowsB ts)), (14, .int .i64 x.i)]) (fun x => [(1, .box [.nl 147, .nl 37]), (6, .box [.rf 2 s0.heads.length, .rf 3 s0.descs.length]), (2, .root 147 (rowsH x.s.heads)), (3, .root 37 (rowsD 96 x.s.descs)), (4, .root 118 (rowsF (x.a ++ x.ja))), (5, .root 118 (rowsF (x.b ++ x.jb)))])
      (fun x => ts.length - x.i) (fun x => TogJ s0 a0 b0 ts x.i x.s x.a x.b) [0, 1, 2, 3, 4, 5, 6] ⟨0, s0, a0, b0, [], []⟩ (togJ_zero (stack_help p1) (stack_help p2) hs) (by decide) (by decide) (by simp [updV, renV, renA, renC]) (by simp [updH, renH_at, renE, renC, rowsH_pur, rowsD_pur, rowsF_pur]) ?_
    rintro ⟨i, s, a, b, ja, jb⟩ hJ
    have hia : HelpI s a := hJ.ia
    have hib : HelpI s b := hJ.ib
    have htin : s.tiny := hJ.tin
    have hle : i ≤ ts.length := hJ.le
    have hhl : s.heads.length = s0.heads.length := hJ.hl
    have hdl : s.descs.length = s0.descs.length := hJ.dl
    have hres : togF ts s0 a0 b0 = togF (ts.drop i) s a b := hJ.res
    have hla := hia.len
    have hlb := hib.len
    have hw := wrap_id (x := (i : Int) + 1) (by omega)
    have hja : a.length ≤ (a ++ ja).length := by simp
    have hjb : b.length ≤ (b ++ jb).length := by simp
    have hta : (rowsF (a ++ ja)).take a.length = rowsF a := by rw [show rowsF (a ++ ja) = rowsF a ++ rowsF ja by simp [rowsF], List.take_left' (rowsF_len _)]
    have htb : (rowsF (b ++ jb)).take b.length = rowsF b := by rw [show rowsF (b ++ jb) = rowsF b ++ rowsF jb by simp [rowsF], List.take_left' (rowsF_len _)]
    rcases Nat.lt_or_ge i ts.length with hlt | hge
    · obtain ⟨t, ht⟩ : ∃ t, ts[i]? = some t := ⟨_, List.getElem?_eq_getElem hlt⟩
      have hre := rowsB_at ht
      have hlt2 : (i : Int) < (ts.length : Int) := by omega
      cases t with
      | true =>
        have hJ2 := togJ_true hJ ht
        simp only at hJ2
        obtain ⟨⟨s1, b1⟩, h1⟩ : ∃ q, helpF s b = q := ⟨_, rfl⟩
        rw [h1] at hJ2
        rcases l8_ok s b jb hib htin.small _ h1 with ⟨junk, hf⟩ | hf
        · rw [hhl, hdl] at hf
          have F := And.intro @rowsB_len (And.intro @rowsF_len (And.intro @rowsF_pur (And.intro @rowsH_len (And.intro @rowsD_len (And.intro @rowsH_pur (And.intro @rowsD_pur (And.intro hlt (And.intro hlt2 (And.intro hre (And.intro hja (And.intro hjb (And.intro hta (And.intro htb @Nat.le_refl)))))))))))))
          repeat' first
            | refine wSq fun _ hK => ?_
            | refine wRg ?_
            | refine wDr ?_
            | refine VWP_block ?_
            | refine VWP_skip ?_
            | refine VWP_exit ?_
            | refine VWP_ret ?_
            | (refine hK _ ?_; clear hK)
            | (clear hK; refine hK _ ?_; clear hK)
            | (clear hK; clear hK; refine hK _ ?_; clear hK)
            | (clear hK; clear hK; clear hK; refine hK _ ?_; clear hK)
            | (simp only [wHb, reduceCtorEq] at hb <;> try (exfalso; omega))
            | refine wCd (fun hb => ?_) fun hb => ?_
            | refine wOw [2, 3, 5] (c := by exact hf) (k := ?_)
            | simp only [go_sem, Nat.reduceLT, Nat.reduceLeDiff, Nat.reduceEqDiff, Nat.reduceAdd, Nat.reduceMul, Nat.reduceSub, reduceCtorEq, F]
            | simp (disch := omega) only [decide_eq_true_eq, if_pos, if_neg, wrap_id, le_maxLen, and_true, true_and, if_true, ite_true]
            | refine wGd (fun hb => ?_) fun hb => ?_
          all_goals exact nextN [] rfl [0, 1, 2, 3, 4, 5, 6] ⟨i + 1, s1, a, b1, ja, junk⟩ rfl (by decide) (by decide) hJ2 (by simp only; omega) (by simp [updV, tmL, renV, renA, renC, hw]) (by simp [updH, hpL, renH_at, renE, renC, rowsH_pur, rowsD_pur, rowsF_pur])
        · rw [hhl, hdl] at hf
          have F := And.intro @rowsB_len (And.intro @rowsF_len (And.intro @rowsF_pur (And.intro @rowsH_len (And.intro @rowsD_len (And.intro @rowsH_pur (And.intro @rowsD_pur (And.intro hlt (And.intro hlt2 (And.intro hre (And.intro hja (And.intro hjb (And.intro hta (And.intro htb @Nat.le_refl)))))))))))))
          repeat' first
            | refine wSq fun _ hK => ?_
            | refine wRg ?_
            | refine wDr ?_
            | refine VWP_block ?_
            | refine VWP_skip ?_
            | refine VWP_exit ?_
            | refine VWP_ret ?_
            | (refine hK _ ?_; clear hK)
            | (clear hK; refine hK _ ?_; clear hK)
            | (clear hK; clear hK; refine hK _ ?_; clear hK)
            | (clear hK; clear hK; clear hK; refine hK _ ?_; clear hK)
            | (simp only [wHb, reduceCtorEq] at hb <;> try (exfalso; omega))
            | refine wCd (fun hb => ?_) fun hb => ?_
            | refine wOw [2, 3, 5] (c := by exact hf) (k := ?_)
            | simp only [go_sem, Nat.reduceLT, Nat.reduceLeDiff, Nat.reduceEqDiff, Nat.reduceAdd, Nat.reduceMul, Nat.reduceSub, reduceCtorEq, F]
            | simp (disch := omega) only [decide_eq_true_eq, if_pos, if_neg, wrap_id, le_maxLen, and_true, true_and, if_true, ite_true]
            | refine wGd (fun hb => ?_) fun hb => ?_
          all_goals exact nextN [] rfl [0, 1, 2, 3, 4, 7, 6] ⟨i + 1, s1, a, b1, ja, []⟩ rfl (by decide) (by decide) hJ2 (by simp only; omega) (by simp [updV, tmL, renV, renA, renC, hw]) (by simp [updH, hpL, renH_at, renE, renC, rowsH_pur, rowsD_pur, rowsF_pur])
      | false =>
        have hJ2 := togJ_false hJ ht
        simp only at hJ2
        obtain ⟨⟨s1, a1⟩, h1⟩ : ∃ q, helpF s a = q := ⟨_, rfl⟩
        rw [h1] at hJ2
        rcases l8_ok s a ja hia htin.small _ h1 with ⟨junk, hf⟩ | hf
        · rw [hhl, hdl] at hf
          have F := And.intro @rowsB_len (And.intro @rowsF_len (And.intro @rowsF_pur (And.intro @rowsH_len (And.intro @rowsD_len (And.intro @rowsH_pur (And.intro @rowsD_pur (And.intro hlt (And.intro hlt2 (And.intro hre (And.intro hja (And.intro hjb (And.intro hta (And.intro htb @Nat.le_refl)))))))))))))
          repeat' first
            | refine wSq fun _ hK => ?_
            | refine wRg ?_
            | refine wDr ?_
            | refine VWP_block ?_
            | refine VWP_skip ?_
            | refine VWP_exit ?_
            | refine VWP_ret ?_
            | (refine hK _ ?_; clear hK)
            | (clear hK; refine hK _ ?_; clear hK)
            | (clear hK; clear hK; refine hK _ ?_; clear hK)
            | (clear hK; clear hK; clear hK; refine hK _ ?_; clear hK)
            | (simp only [wHb, reduceCtorEq] at hb <;> try (exfalso; omega))
            | refine wCd (fun hb => ?_) fun hb => ?_
            | refine wOw [2, 3, 4] (c := by exact hf) (k := ?_)
            | simp only [go_sem, Nat.reduceLT, Nat.reduceLeDiff, Nat.reduceEqDiff, Nat.reduceAdd, Nat.reduceMul, Nat.reduceSub, reduceCtorEq, F]
            | simp (disch := omega) only [decide_eq_true_eq, if_pos, if_neg, wrap_id, le_maxLen, and_true, true_and, if_true, ite_true]
            | refine wGd (fun hb => ?_) fun hb => ?_
          all_goals exact nextN [] rfl [0, 1, 2, 3, 4, 5, 6] ⟨i + 1, s1, a1, b, junk, jb⟩ rfl (by decide) (by decide) hJ2 (by simp only; omega) (by simp [updV, tmL, renV, renA, renC, hw]) (by simp [updH, hpL, renH_at, renE, renC, rowsH_pur, rowsD_pur, rowsF_pur])
        · rw [hhl, hdl] at hf
          have F := And.intro @rowsB_len (And.intro @rowsF_len (And.intro @rowsF_pur (And.intro @rowsH_len (And.intro @rowsD_len (And.intro @rowsH_pur (And.intro @rowsD_pur (And.intro hlt (And.intro hlt2 (And.intro hre (And.intro hja (And.intro hjb (And.intro hta (And.intro htb @Nat.le_refl)))))))))))))
          repeat' first
            | refine wSq fun _ hK => ?_
            | refine wRg ?_
            | refine wDr ?_
            | refine VWP_block ?_
            | refine VWP_skip ?_
            | refine VWP_exit ?_
            | refine VWP_ret ?_
            | (refine hK _ ?_; clear hK)
            | (clear hK; refine hK _ ?_; clear hK)
            | (clear hK; clear hK; refine hK _ ?_; clear hK)
            | (clear hK; clear hK; clear hK; refine hK _ ?_; clear hK)
            | (simp only [wHb, reduceCtorEq] at hb <;> try (exfalso; omega))
            | refine wCd (fun hb => ?_) fun hb => ?_
            | refine wOw [2, 3, 4] (c := by exact hf) (k := ?_)
            | simp only [go_sem, Nat.reduceLT, Nat.reduceLeDiff, Nat.reduceEqDiff, Nat.reduceAdd, Nat.reduceMul, Nat.reduceSub, reduceCtorEq, F]
            | simp (disch := omega) only [decide_eq_true_eq, if_pos, if_neg, wrap_id, le_maxLen, and_true, true_and, if_true, ite_true]
            | refine wGd (fun hb => ?_) fun hb => ?_
          all_goals exact nextN [] rfl [0, 1, 2, 3, 7, 5, 6] ⟨i + 1, s1, a1, b, [], jb⟩ rfl (by decide) (by decide) hJ2 (by simp only; omega) (by simp [updV, tmL, renV, renA, renC, hw]) (by simp [updH, hpL, renH_at, renE, renC, rowsH_pur, rowsD_pur, rowsF_pur])
    · obtain rfl : i = ts.length := by omega
      have hge2 : ¬ (ts.length : Int) < (ts.length : Int) := by omega
      rw [hres, List.drop_eq_nil_of_le (Nat.le_refl _)] at hr
      have hr2 : (s, a, b) = r := hr
      subst hr2
      have t1 := rowsH_take s.heads
      have t2 := rowsD_take 96 s.descs
      rw [hhl] at t1
      rw [hdl] at t2
      have F := And.intro @rowsB_len hge2
      repeat' first
        | refine wSq fun _ hK => ?_
        | refine wRg ?_
        | refine wDr ?_
        | refine VWP_block ?_
        | refine VWP_skip ?_
        | refine VWP_exit ?_
        | refine VWP_ret ?_
        | (refine hK _ ?_; clear hK)
        | (clear hK; refine hK _ ?_; clear hK)
        | (clear hK; clear hK; refine hK _ ?_; clear hK)
        | (clear hK; clear hK; clear hK; refine hK _ ?_; clear hK)
        | (simp only [wHb, reduceCtorEq] at hb <;> try (exfalso; omega))
        | refine wCd (fun hb => ?_) fun hb => ?_
        | simp only [go_sem, Nat.reduceLT, Nat.reduceLeDiff, Nat.reduceEqDiff, Nat.reduceAdd, Nat.reduceMul, Nat.reduceSub, reduceCtorEq, F]
        | simp (disch := omega) only [decide_eq_true_eq, if_pos, if_neg, wrap_id, le_maxLen, and_true, true_and, if_true, ite_true]
        | refine wGd (fun hb => ?_) fun hb => ?_
      refine ret_mk (vs := _) (acc := _) (by simp only [go_sem, Nat.reduceLT, Nat.reduceLeDiff, Nat.reduceEqDiff, Nat.reduceAdd, Nat.reduceMul, Nat.reduceSub, reduceCtorEq, vres]; rfl) (by simp only [go_sem, Nat.reduceLT, Nat.reduceLeDiff, Nat.reduceEqDiff, Nat.reduceAdd, Nat.reduceMul, Nat.reduceSub, reduceCtorEq, wrap, exV, exAs, exA, exCs, exC, rowsH_len, rowsD_len, hhl, hdl, t1, t2, rowsF_len, hja, hjb, hta, htb, Nat.le_refl]; rfl) (by simp) (by simp) (by simp [rowsH_pur, rowsD_pur, rowsF_pur])
end Go.Proofs.Ytmiojnibngncaaa
