/- A store that is drawn. -/
import Derived.Test.YtchkbgekmoileaaCA
import Derived.Test.YtchkbgekmoileaaMDa
import Derived.Test.YtchkbgekmoileaaLD
import Derived.Test.YtchkbgekmoileaaLG
import Derived.Test.YtchkbgekmoileaaEf
namespace Go.Proofs.Ytchkbgekmoileaa
open Go Go.RowKit
set_option linter.unusedVariables false
set_option linter.unusedSimpArgs false
set_option maxRecDepth 100000
set_option maxHeartbeats 4000000
attribute [local irreducible] VWP vops vdraw contV contD CallK Guard GuardV NextL Puts Runs RetOK RetQ RetO RetQO thenQ blockQ
attribute [local irreducible] NextN

structure ValX where
  k : Nat
  vs : List Int
  c : Cur
def ValX.tl (x : ValX) : List (Nat × VV) := [(0, .bp 0 0), (2, .bp 1 0), (3, .rf 2 x.vs.length), (4, .int .i64 x.k)]
def ValX.hl (th td ti : TypeId) (bs : List Int) (x : ValX) : List (Nat × Ent) := [(0, curE bs x.c), (1, .box [.nl th, .nl td]), (2, .root ti (rowsN x.vs))]

structure RndX where
  k : Nat
  s : StoreD
  c : Cur
structure EntX where
  k : Nat
  es : List EntS
  c : Cur
structure DrvX where
  k : Nat
  s : StoreD
  f : FrameD
theorem headAt_of {s : StoreD} {o : Int} {i : Nat} {h : HeadD} (ho : o = i) (hh : s.heads[i]? = some h) : headAt s o = h := by
  subst ho
  simp [headAt, hh]
theorem makeL_len (o : Int) (es : List EntS) : (makeL o es).1.entries.length ≤ 8 := by
  unfold makeL
  split
  · exact byObj_len es 8
  · simp
theorem drawn_small {nv D : Nat} {s : StoreD} (h : DrawnP nv D s) : s.small := by
  refine ⟨by have := h.st.2.1; omega, by have := h.st.2.2.1; omega, fun d hd => ?_⟩
  have := (h.st.2.2.2.1 d hd).1.2.2.2.2.2
  omega
theorem storeP_small {s : StoreD} (h : StoreP s) : s.small := by
  refine ⟨by have := h.2.1; omega, by have := h.2.2.1; omega, fun d hd => ?_⟩
  have := (h.2.2.2.1 d hd).1.2.2.2.2.2
  omega

theorem l7Draw_ok (bs : List Int) (c0 : Cur) (hl : bs.length ≤ 1048576) (hc : CurOk bs c0) (r : StoreD × Cur) (hr : storeF (belowF bs) c0 = r) :
    SatV Try.prog 22 [.bp 0 0] [curE bs c0] (.agg [.rf 1 r.1.heads.length, .rf 2 r.1.descs.length]) [curE bs r.2, .root 36 (rowsH r.1.heads), .root 40 (rowsD 70 r.1.descs)] := by
  have hbl : ∀ (c : Cur) (n : Int), CurOk bs c → 0 < n → n ≤ 256 → SatV Try.prog 50 [.bp 0 0, .int .i64 n] [curE bs c] (.int .i64 (belowF bs c n).1) [curE bs (belowF bs c n).2] := fun c n h1 h2 h3 => l1Below_ok bs c n hl h1 h2 h3 _ rfl
  refine wEv Try.func22 [.cell 2 27] 121 1 (by simp [keptLV, keptOkF, outF, outE, isFr, newOk, curE, rowsH_pur, rowsD_pur]) fun E hE => ?_
  have h4 := hbl c0 4 hc (by decide) (by decide)
  obtain ⟨o4, p4, q4⟩ := belowF_ok (n := 4) hc (by decide)
  unfold curE at h4 ⊢
  have F := (Eq.refl 0)
  repeat' first
    | refine wSq fun _ hK => ?_
    | refine wRg ?_
    | refine wDr ?_
    | refine VWP_block ?_
    | refine VWP_skip ?_
    | refine VWP_exit ?_
    | refine VWP_ret ?_
    | (refine hK _ ?_; clear hK)
    | (clear hK; refine hK _ ?_; clear hK)
    | (clear hK; clear hK; refine hK _ ?_; clear hK)
    | (clear hK; clear hK; clear hK; refine hK _ ?_; clear hK)
    | (simp only [wHb, reduceCtorEq] at hb <;> try (exfalso; omega))
    | refine wCd (fun hb => ?_) fun hb => ?_
    | refine wOv [0] (h4) ?_
    | simp only [go_sem, Nat.reduceLT, Nat.reduceLeDiff, Nat.reduceEqDiff, Nat.reduceAdd, Nat.reduceMul, Nat.reduceSub, reduceCtorEq, F]
    | ((fail_if_success first | refine wNn ?_ | refine wNo ?_ | refine wNl ?_ | refine wNr ?_);  simp (disch := omega) only [decide_eq_true_eq, if_pos, if_neg, wrap_id, le_maxLen, and_true, true_and, if_true, ite_true])
    | refine wGd (fun hb => ?_) fun hb => ?_
  have hk0 : (2 : Int) + (belowF bs c0 4).1 = ((2 + (belowF bs c0 4).1.toNat : Nat) : Int) := by omega
  have hpr := hr
  unfold storeF at hr
  simp only at hr
  refine VWP_loopN hE (X := ValX) ValX.tl (ValX.hl 36 40 3 bs) (fun x => x.k) (fun x => CurOk bs x.c ∧ x.vs.length + x.k ≤ 5 ∧ valsF (belowF bs) x.k x.c x.vs = valsF (belowF bs) (2 + (belowF bs c0 4).1.toNat) (belowF bs c0 4).2 []) [0, 1, 2] ⟨2 + (belowF bs c0 4).1.toNat, [], (belowF bs c0 4).2⟩ ⟨o4, by simp only [List.length_nil]; omega, rfl⟩ (by decide) (by decide) (by simp [updV, ValX.tl, renV, renA, renC, hk0]) (by simp [updH, HpE, ValX.hl, renH_at, renE, renC, curE, rowsN, PurRows]) ?_
  rintro ⟨k, vs, c⟩ ⟨hc1, hlen, hval⟩
  simp only at hc1 hlen hval
  unfold ValX.tl ValX.hl curE
  simp only
  cases k with
  | succ k =>
    have h9 := hbl c 9 hc1 (by decide) (by decide)
    obtain ⟨o9, p9, q9⟩ := belowF_ok (n := 9) hc1 (by decide)
    have hk1 : (0 : Int) < ((k + 1 : Nat) : Int) := by omega
    have hw := wrap_id (x := (belowF bs c 9).1 - 4) (by omega)
    have hw2 : IntKind.i64.wrap (((k + 1 : Nat) : Int) - 1) = (k : Nat) := by rw [wrap_id (by omega)]; omega
    unfold curE at h9
    have F := And.intro @rowsN_len (And.intro @rowsN_scal (And.intro hk1 (And.intro hw (And.intro hw2 (And.intro @rowsN_take @rowsN_app)))))
    repeat' first
      | refine wSq fun _ hK => ?_
      | refine wRg ?_
      | refine wDr ?_
      | refine VWP_block ?_
      | refine VWP_skip ?_
      | refine VWP_exit ?_
      | refine VWP_ret ?_
      | (refine hK _ ?_; clear hK)
      | (clear hK; refine hK _ ?_; clear hK)
      | (clear hK; clear hK; refine hK _ ?_; clear hK)
      | (clear hK; clear hK; clear hK; refine hK _ ?_; clear hK)
      | (simp only [wHb, reduceCtorEq] at hb <;> try (exfalso; omega))
      | refine wCd (fun hb => ?_) fun hb => ?_
      | refine wOv [0] (h9) ?_
      | simp only [go_sem, Nat.reduceLT, Nat.reduceLeDiff, Nat.reduceEqDiff, Nat.reduceAdd, Nat.reduceMul, Nat.reduceSub, reduceCtorEq, F]
      | ((fail_if_success first | refine wNn ?_ | refine wNo ?_ | refine wNl ?_ | refine wNr ?_);  simp (disch := omega) only [decide_eq_true_eq, if_pos, if_neg, wrap_id, le_maxLen, and_true, true_and, if_true, ite_true])
      | refine wGd (fun hb => ?_) fun hb => ?_
    all_goals refine nextN [] rfl [0, 1, 4] ⟨k, vs ++ [(belowF bs c 9).1 - 4], (belowF bs c 9).2⟩ rfl (by decide) (by decide) ⟨o9, by simp only [List.length_append, List.length_cons, List.length_nil]; omega, hval⟩ (by simp only; omega) (by simp [updV, tmL, renV, renA, renC, hw2]) (by simp [updH, hpL, renH_at, renE, renC, rowsN_pur])
  | zero =>
    obtain ⟨s0, hs0⟩ : ∃ s0, (newStoreL vs).1 = s0 := ⟨_, rfl⟩
    obtain ⟨hvl, hvr⟩ := valsF_ok (b := belowF bs) (fun c n hn => belowF_range bs c n hn) (2 + (belowF bs c0 4).1.toNat) (belowF bs c0 4).2 [] (by simp)
    rw [← hval] at hvl hvr hr
    simp only [valsF, List.length_nil] at hvl hvr hr
    obtain ⟨hn1, hn2⟩ := newStore_drawn (vs := vs) (by omega) (by omega) hvr
    have hN := specNewStore_ok vs (s0, true) (by rw [hn1] at hs0 ⊢; rw [← hs0]) (by omega)
    have hD : DrawnP vs.length 0 s0 := by rw [← hs0, hn1]; exact hn2
    rw [hs0] at hr
    have h5 := hbl c 5 hc1 (by decide) (by decide)
    obtain ⟨o5, p5, q5⟩ := belowF_ok (n := 5) hc1 (by decide)
    unfold curE at h5
    have F := And.intro @rowsN_len (And.intro @rowsN_take (And.intro @rowsN_pur (And.intro @rowsH_len @rowsD_len)))
    repeat' first
      | refine wSq fun _ hK => ?_
      | refine wRg ?_
      | refine wDr ?_
      | refine VWP_block ?_
      | refine VWP_skip ?_
      | refine VWP_exit ?_
      | refine VWP_ret ?_
      | (refine hK _ ?_; clear hK)
      | (clear hK; refine hK _ ?_; clear hK)
      | (clear hK; clear hK; refine hK _ ?_; clear hK)
      | (clear hK; clear hK; clear hK; refine hK _ ?_; clear hK)
      | (simp only [wHb, reduceCtorEq] at hb <;> try (exfalso; omega))
      | refine wCd (fun hb => ?_) fun hb => ?_
      | refine wCa (c := by first | exact hN) (k := ?_)
      | refine wOv [0] (h5) ?_
      | simp only [go_sem, Nat.reduceLT, Nat.reduceLeDiff, Nat.reduceEqDiff, Nat.reduceAdd, Nat.reduceMul, Nat.reduceSub, reduceCtorEq, F]
      | ((fail_if_success first | refine wNn ?_ | refine wNo ?_ | refine wNl ?_ | refine wNr ?_);  simp (disch := omega) only [decide_eq_true_eq, if_pos, if_neg, wrap_id, le_maxLen, and_true, true_and, if_true, ite_true])
      | refine wGd (fun hb => ?_) fun hb => ?_
    have hk5 : (belowF bs c 5).1 = (((belowF bs c 5).1.toNat : Nat) : Int) := by omega
    clear hN h5 h4
    refine VWP_loopN hE (X := RndX) (fun x => [(0, .bp 0 0), (2, .bp 1 0), (3, .rf 2 vs.length), (5, .bp 3 0), (7, .int .i64 x.k)])
      (fun x => [(0, curE bs x.c), (1, .box [.nl 36, .nl 40]), (2, .root 3 (rowsN vs)), (3, .box [.rf 4 x.s.heads.length, .rf 5 x.s.descs.length]), (4, .root 36 (rowsH x.s.heads)), (5, .root 40 (rowsD 70 x.s.descs))])
      (fun x => x.k) (fun x => CurOk bs x.c ∧ x.k ≤ 4 ∧ DrawnP vs.length (4 - x.k) x.s ∧ roundsF (belowF bs) x.k x.s x.c = r) [0, 1, 2, 5, 3, 4] ⟨(belowF bs c 5).1.toNat, s0, (belowF bs c 5).2⟩
      ⟨o5, by simp only; omega, ⟨hD.st, hD.pre, hD.hl, by have := hD.dl; simp only; omega⟩, hr⟩ (by decide) (by decide) (by simp [updV, renV, renA, renC, ← hk5]) (by simp [updH, hpL, renH_at, renE, renC, curE, rowsN_pur, rowsH_pur, rowsD_pur]) ?_
    clear hr
    rintro ⟨k, s, cX⟩ ⟨hc2, hk4, hDs, hres⟩
    simp only at hc2 hk4 hDs hres
    have hsm := drawn_small hDs
    unfold curE
    simp only
    cases k with
    | zero =>
      simp only [roundsF] at hres
      subst hres
      have F := And.intro @rowsH_len (And.intro @rowsD_len (And.intro @rowsH_pur (And.intro @rowsD_pur (And.intro @rowsH_take @rowsD_take))))
      repeat' first
        | refine wSq fun _ hK => ?_
        | refine wRg ?_
        | refine wDr ?_
        | refine VWP_block ?_
        | refine VWP_skip ?_
        | refine VWP_exit ?_
        | refine VWP_ret ?_
        | (refine hK _ ?_; clear hK)
        | (clear hK; refine hK _ ?_; clear hK)
        | (clear hK; clear hK; refine hK _ ?_; clear hK)
        | (clear hK; clear hK; clear hK; refine hK _ ?_; clear hK)
        | (simp only [wHb, reduceCtorEq] at hb <;> try (exfalso; omega))
        | refine wCd (fun hb => ?_) fun hb => ?_
        | simp only [go_sem, Nat.reduceLT, Nat.reduceLeDiff, Nat.reduceEqDiff, Nat.reduceAdd, Nat.reduceMul, Nat.reduceSub, reduceCtorEq, F]
        | ((fail_if_success first | refine wNn ?_ | refine wNo ?_ | refine wNl ?_ | refine wNr ?_);  simp (disch := omega) only [decide_eq_true_eq, if_pos, if_neg, wrap_id, le_maxLen, and_true, true_and, if_true, ite_true])
        | refine wGd (fun hb => ?_) fun hb => ?_
      all_goals refine wRo [] [_]
    | succ k =>
      have hk1 : (0 : Int) < ((k + 1 : Nat) : Int) := by omega
      have hw2 : IntKind.i64.wrap (((k + 1 : Nat) : Int) - 1) = (k : Nat) := by rw [wrap_id (by omega)]; omega
      have h3 := hbl cX 3 hc2 (by decide) (by decide)
      obtain ⟨o3, p3, q3⟩ := belowF_ok (n := 3) hc2 (by decide)
      unfold curE at h3
      have F := hk1
      repeat' first
        | refine wSq fun _ hK => ?_
        | refine wRg ?_
        | refine wDr ?_
        | refine VWP_block ?_
        | refine VWP_skip ?_
        | refine VWP_exit ?_
        | refine VWP_ret ?_
        | (refine hK _ ?_; clear hK)
        | (clear hK; refine hK _ ?_; clear hK)
        | (clear hK; clear hK; refine hK _ ?_; clear hK)
        | (clear hK; clear hK; clear hK; refine hK _ ?_; clear hK)
        | (simp only [wHb, reduceCtorEq] at hb <;> try (exfalso; omega))
        | refine wCd (fun hb => ?_) fun hb => ?_
        | refine wOv [0] (h3) ?_
        | simp only [go_sem, Nat.reduceLT, Nat.reduceLeDiff, Nat.reduceEqDiff, Nat.reduceAdd, Nat.reduceMul, Nat.reduceSub, reduceCtorEq, F]
        | ((fail_if_success first | refine wNn ?_ | refine wNo ?_ | refine wNl ?_ | refine wNr ?_);  simp (disch := omega) only [decide_eq_true_eq, if_pos, if_neg, wrap_id, le_maxLen, and_true, true_and, if_true, ite_true])
        | refine wGd (fun hb => ?_) fun hb => ?_
      have hk3 : (1 : Int) + (belowF bs cX 3).1 = ((1 + (belowF bs cX 3).1.toNat : Nat) : Int) := by omega
      clear h3
      obtain ⟨cnt, hcnt⟩ : ∃ n, 1 + (belowF bs cX 3).1.toNat = n := ⟨_, rfl⟩
      rw [hcnt] at hk3
      have hcl : cnt ≤ 3 := by omega
      obtain ⟨cS, hcS⟩ : ∃ x, (belowF bs cX 3).2 = x := ⟨_, rfl⟩
      have o3' : CurOk bs cS := by rw [← hcS]; exact o3
      rw [hcS]
      have hre0 : rowsE [] = [] := rfl
      have hpu0 : PurRows [] := by simp [PurRows]
      refine VWP_loopN hE (X := EntX) (fun x => [(0, .bp 0 0), (2, .bp 1 0), (3, .rf 2 vs.length), (5, .bp 3 0), (7, .int .i64 ((k + 1 : Nat) : Int)), (8, .rf 6 x.es.length), (9, .int .i64 x.k)])
        (fun x => [(0, curE bs x.c), (1, .box [.nl 36, .nl 40]), (2, .root 3 (rowsN vs)), (3, .box [.rf 4 s.heads.length, .rf 5 s.descs.length]), (4, .root 36 (rowsH s.heads)), (5, .root 40 (rowsD 70 s.descs)), (6, .root 70 (rowsE x.es))])
        (fun x => x.k) (fun x => CurOk bs x.c ∧ x.k ≤ 3 ∧ x.es.length ≤ 6 ∧ entsF (belowF bs) s x.k x.c x.es = entsF (belowF bs) s cnt cS []) [0, 1, 2, 3, 4, 5, 6] ⟨cnt, [], cS⟩
        ⟨o3', hcl, by simp, rfl⟩ (by decide) (by decide) (by simp [updV, renV, renA, renC, hk3, tmL]) (by simp [updH, hpL, renH_at, renE, renC, curE, rowsN_pur, rowsH_pur, rowsD_pur, hre0, hpu0, hcS]) ?_
      rintro ⟨q, es, c⟩ ⟨hc4, hq3, hes6, hent⟩
      simp only at hc4 hq3 hes6 hent
      unfold curE
      simp only
      cases q with
      | succ q =>
        have hnv := hDs.hl
        have hnv0 : 0 < (vs.length : Int) := by omega
        have hq1 : (0 : Int) < ((q + 1 : Nat) : Int) := by omega
        have hwq : IntKind.i64.wrap (((q + 1 : Nat) : Int) - 1) = (q : Nat) := by rw [wrap_id (by omega)]; omega
        have g1 := hbl c vs.length hc4 hnv0 (by omega)
        obtain ⟨u1, a1, b1⟩ := belowF_ok hc4 hnv0
        obtain ⟨r1, hr1⟩ : ∃ x, belowF bs c vs.length = x := ⟨_, rfl⟩
        rw [hr1] at g1 u1 a1 b1
        obtain ⟨o1, c1⟩ := r1
        simp only at g1 u1 a1 b1
        obtain ⟨oi, hoi⟩ : ∃ i : Nat, o1 = i := ⟨o1.toNat, by omega⟩
        obtain ⟨hd, hhd⟩ : ∃ h, s.heads[oi]? = some h := ⟨_, List.getElem?_eq_getElem (by omega)⟩
        have hha := headAt_of hoi hhd
        have hvd := head_desc hDs.st hhd
        have hrh := rowsH_at hhd
        have hoil : oi < s.heads.length := by omega
        have hoi0 : (0 : Int) ≤ (oi : Nat) := by omega
        have hwv := wrap_id (x := hd.version + 1) (by omega)
        have g2 := hbl c1 8 u1 (by decide) (by decide)
        have g2 := l1Once_ok bs c1 8 hl u1 (by decide) (by decide) _ rfl
        obtain ⟨u2, a2, b2⟩ := belowF_ok (n := 8) u1 (by decide)
        obtain ⟨r2, hr2⟩ : ∃ x, belowF bs c1 8 = x := ⟨_, rfl⟩
        rw [hr2] at g2 u2 a2 b2
        obtain ⟨x2, c2⟩ := r2
        simp only at g2 u2 a2 b2
        have g3 := l1Once_ok bs c2 2 hl u2 (by decide) (by decide) _ rfl
        obtain ⟨u3, a3, b3⟩ := belowF_ok (n := 2) u2 (by decide)
        obtain ⟨r3, hr3⟩ : ∃ x, belowF bs c2 2 = x := ⟨_, rfl⟩
        rw [hr3] at g3 u3 a3 b3
        obtain ⟨x3, c3⟩ := r3
        simp only at g3 u3 a3 b3
        have g4 := hbl c3 9 u3 (by decide) (by decide)
        obtain ⟨u4, a4, b4⟩ := belowF_ok (n := 9) u3 (by decide)
        obtain ⟨r4, hr4⟩ : ∃ x, belowF bs c3 9 = x := ⟨_, rfl⟩
        rw [hr4] at g4 u4 a4 b4
        obtain ⟨x4, c4⟩ := r4
        simp only at g4 u4 a4 b4
        have hw4 := wrap_id (x := x4 - 4) (by omega)
        have g5 := specAddRead_ok es o1 (hd.version + (if x2 = 0 then 1 else 0)) hd.value _ rfl (by omega)
        obtain ⟨ar, har⟩ : ∃ x, addReadL es ⟨o1, hd.version + (if x2 = 0 then 1 else 0), hd.value, hd.value, false⟩ = x := ⟨_, rfl⟩
        have hal := addReadL_len es ⟨o1, hd.version + (if x2 = 0 then 1 else 0), hd.value, hd.value, false⟩
        rw [har] at g5 hal
        have hal6 : ar.1.length ≤ 6 := by rcases hal with h | h; exact h; rw [h]; exact hes6
        have g6 := specSetNew_ok ar.1 o1 (x4 - 4) _ rfl (by omega)
        obtain ⟨sn, hsn⟩ : ∃ x, setNewL ar.1 o1 (x4 - 4) = x := ⟨_, rfl⟩
        have hsl := setNewL_len ar.1 o1 (x4 - 4)
        rw [hsn] at g6 hsl
        have hsl6 : sn.1.length ≤ 6 := by omega
        have hef : entF (belowF bs) s c es = if x3 = 0 then (sn.1, c4) else (ar.1, c3) := by
          unfold entF
          simp only [hnv, hr1, hr2, hr3, hr4, hha, har, hsn]
        have hent2 : entsF (belowF bs) s q (if x3 = 0 then (sn.1, c4) else (ar.1, c3)).2 (if x3 = 0 then (sn.1, c4) else (ar.1, c3)).1 = entsF (belowF bs) s cnt cS [] := by
          rw [← hent, entsF, hef]
        unfold curE at g1 g2 g3 g4
        rw [hoi] at g1 g5 g6
        rcases Int.decEq x2 0 with hx2 | hx2 <;> rcases Int.decEq x3 0 with hx3 | hx3
        · simp only [if_neg hx2, if_neg hx3, Int.add_zero] at g5 hent2
          have t2 : (x2 == 0) = false := by simpa using hx2
          have t3 : (x3 == 0) = false := by simpa using hx3
          rw [t2] at g2
          rw [t3] at g3
          have hJn : CurOk bs c3 ∧ q ≤ 3 ∧ ar.1.length ≤ 6 ∧ entsF (belowF bs) s q c3 ar.1 = entsF (belowF bs) s cnt cS [] := ⟨u3, by omega, hal6, hent2⟩
          clear hr1 hr2 hr3 hr4 har hsn hal hsl hef hvd hha hent hal6 hsl6
          have F := And.intro @rowsN_len (And.intro @rowsH_len (And.intro @rowsE_len (And.intro @rowsE_take (And.intro @rowsE_pur (And.intro hq1 (And.intro hwq (And.intro hrh (And.intro hoil hoi0))))))))
          repeat' first
            | refine wSq fun _ hK => ?_
            | refine wRg ?_
            | refine wDr ?_
            | refine VWP_block ?_
            | refine VWP_skip ?_
            | refine VWP_exit ?_
            | refine VWP_ret ?_
            | (refine hK _ ?_; clear hK)
            | (clear hK; refine hK _ ?_; clear hK)
            | (clear hK; clear hK; refine hK _ ?_; clear hK)
            | (clear hK; clear hK; clear hK; refine hK _ ?_; clear hK)
            | (simp only [wHb, reduceCtorEq] at hb <;> try (exfalso; omega))
            | refine wCd (fun hb => ?_) fun hb => ?_
            | refine wCa (c := by first | exact g5) (k := ?_)
            | refine wOv [0] (g1) ?_
            | refine wOv [0] (g2) ?_
            | refine wOv [0] (g3) ?_
            | simp only [go_sem, Nat.reduceLT, Nat.reduceLeDiff, Nat.reduceEqDiff, Nat.reduceAdd, Nat.reduceMul, Nat.reduceSub, reduceCtorEq, F]
            | ((fail_if_success first | refine wNn ?_ | refine wNo ?_ | refine wNl ?_ | refine wNr ?_);  simp (disch := omega) only [decide_eq_true_eq, if_pos, if_neg, wrap_id, le_maxLen, and_true, true_and, if_true, ite_true])
            | refine wGd (fun hb => ?_) fun hb => ?_
          all_goals refine nextN [] rfl [0, 1, 2, 3, 4, 5, 8] ⟨q, ar.1, c3⟩ rfl (by decide) (by decide) hJn (by simp only; omega) (by simp [updV, tmL, renV, renA, renC, hwq]) (by simp [updH, hpL, renH_at, renE, renC, rowsN_pur, rowsH_pur, rowsD_pur, rowsE_pur])
        · simp only [if_neg hx2, if_pos hx3, Int.add_zero] at g5 hent2
          have t2 : (x2 == 0) = false := by simpa using hx2
          have t3 : (x3 == 0) = true := by simpa using hx3
          rw [t2] at g2
          rw [t3] at g3
          have hJn : CurOk bs c4 ∧ q ≤ 3 ∧ sn.1.length ≤ 6 ∧ entsF (belowF bs) s q c4 sn.1 = entsF (belowF bs) s cnt cS [] := ⟨u4, by omega, hsl6, hent2⟩
          clear hr1 hr2 hr3 hr4 har hsn hal hsl hef hvd hha hent hal6 hsl6
          have F := And.intro @rowsN_len (And.intro @rowsH_len (And.intro @rowsE_len (And.intro @rowsE_take (And.intro @rowsE_pur (And.intro hq1 (And.intro hwq (And.intro hrh (And.intro hoil (And.intro hoi0 hw4)))))))))
          repeat' first
            | refine wSq fun _ hK => ?_
            | refine wRg ?_
            | refine wDr ?_
            | refine VWP_block ?_
            | refine VWP_skip ?_
            | refine VWP_exit ?_
            | refine VWP_ret ?_
            | (refine hK _ ?_; clear hK)
            | (clear hK; refine hK _ ?_; clear hK)
            | (clear hK; clear hK; refine hK _ ?_; clear hK)
            | (clear hK; clear hK; clear hK; refine hK _ ?_; clear hK)
            | (simp only [wHb, reduceCtorEq] at hb <;> try (exfalso; omega))
            | refine wCd (fun hb => ?_) fun hb => ?_
            | refine wCa (c := by first | exact g5 | exact g6) (k := ?_)
            | refine wOv [0] (g1) ?_
            | refine wOv [0] (g2) ?_
            | refine wOv [0] (g3) ?_
            | refine wOv [0] (g4) ?_
            | simp only [go_sem, Nat.reduceLT, Nat.reduceLeDiff, Nat.reduceEqDiff, Nat.reduceAdd, Nat.reduceMul, Nat.reduceSub, reduceCtorEq, F]
            | ((fail_if_success first | refine wNn ?_ | refine wNo ?_ | refine wNl ?_ | refine wNr ?_);  simp (disch := omega) only [decide_eq_true_eq, if_pos, if_neg, wrap_id, le_maxLen, and_true, true_and, if_true, ite_true])
            | refine wGd (fun hb => ?_) fun hb => ?_
          all_goals refine nextN [] rfl [0, 1, 2, 3, 4, 5, 9] ⟨q, sn.1, c4⟩ rfl (by decide) (by decide) hJn (by simp only; omega) (by simp [updV, tmL, renV, renA, renC, hwq]) (by simp [updH, hpL, renH_at, renE, renC, rowsN_pur, rowsH_pur, rowsD_pur, rowsE_pur])
        · simp only [if_pos hx2, if_neg hx3] at g5 hent2
          have t2 : (x2 == 0) = true := by simpa using hx2
          have t3 : (x3 == 0) = false := by simpa using hx3
          rw [t2] at g2
          rw [t3] at g3
          have hJn : CurOk bs c3 ∧ q ≤ 3 ∧ ar.1.length ≤ 6 ∧ entsF (belowF bs) s q c3 ar.1 = entsF (belowF bs) s cnt cS [] := ⟨u3, by omega, hal6, hent2⟩
          clear hr1 hr2 hr3 hr4 har hsn hal hsl hef hvd hha hent hal6 hsl6
          have F := And.intro @rowsN_len (And.intro @rowsH_len (And.intro @rowsE_len (And.intro @rowsE_take (And.intro @rowsE_pur (And.intro hq1 (And.intro hwq (And.intro hrh (And.intro hoil (And.intro hoi0 hwv)))))))))
          repeat' first
            | refine wSq fun _ hK => ?_
            | refine wRg ?_
            | refine wDr ?_
            | refine VWP_block ?_
            | refine VWP_skip ?_
            | refine VWP_exit ?_
            | refine VWP_ret ?_
            | (refine hK _ ?_; clear hK)
            | (clear hK; refine hK _ ?_; clear hK)
            | (clear hK; clear hK; refine hK _ ?_; clear hK)
            | (clear hK; clear hK; clear hK; refine hK _ ?_; clear hK)
            | (simp only [wHb, reduceCtorEq] at hb <;> try (exfalso; omega))
            | refine wCd (fun hb => ?_) fun hb => ?_
            | refine wCa (c := by first | exact g5) (k := ?_)
            | refine wOv [0] (g1) ?_
            | refine wOv [0] (g2) ?_
            | refine wOv [0] (g3) ?_
            | simp only [go_sem, Nat.reduceLT, Nat.reduceLeDiff, Nat.reduceEqDiff, Nat.reduceAdd, Nat.reduceMul, Nat.reduceSub, reduceCtorEq, F]
            | ((fail_if_success first | refine wNn ?_ | refine wNo ?_ | refine wNl ?_ | refine wNr ?_);  simp (disch := omega) only [decide_eq_true_eq, if_pos, if_neg, wrap_id, le_maxLen, and_true, true_and, if_true, ite_true])
            | refine wGd (fun hb => ?_) fun hb => ?_
          all_goals refine nextN [] rfl [0, 1, 2, 3, 4, 5, 8] ⟨q, ar.1, c3⟩ rfl (by decide) (by decide) hJn (by simp only; omega) (by simp [updV, tmL, renV, renA, renC, hwq]) (by simp [updH, hpL, renH_at, renE, renC, rowsN_pur, rowsH_pur, rowsD_pur, rowsE_pur])
        · simp only [if_pos hx2, if_pos hx3] at g5 hent2
          have t2 : (x2 == 0) = true := by simpa using hx2
          have t3 : (x3 == 0) = true := by simpa using hx3
          rw [t2] at g2
          rw [t3] at g3
          have hJn : CurOk bs c4 ∧ q ≤ 3 ∧ sn.1.length ≤ 6 ∧ entsF (belowF bs) s q c4 sn.1 = entsF (belowF bs) s cnt cS [] := ⟨u4, by omega, hsl6, hent2⟩
          clear hr1 hr2 hr3 hr4 har hsn hal hsl hef hvd hha hent hal6 hsl6
          have F := And.intro @rowsN_len (And.intro @rowsH_len (And.intro @rowsE_len (And.intro @rowsE_take (And.intro @rowsE_pur (And.intro hq1 (And.intro hwq (And.intro hrh (And.intro hoil (And.intro hoi0 (And.intro hwv hw4))))))))))
          repeat' first
            | refine wSq fun _ hK => ?_
            | refine wRg ?_
            | refine wDr ?_
            | refine VWP_block ?_
            | refine VWP_skip ?_
            | refine VWP_exit ?_
            | refine VWP_ret ?_
            | (refine hK _ ?_; clear hK)
            | (clear hK; refine hK _ ?_; clear hK)
            | (clear hK; clear hK; refine hK _ ?_; clear hK)
            | (clear hK; clear hK; clear hK; refine hK _ ?_; clear hK)
            | (simp only [wHb, reduceCtorEq] at hb <;> try (exfalso; omega))
            | refine wCd (fun hb => ?_) fun hb => ?_
            | refine wCa (c := by first | exact g5 | exact g6) (k := ?_)
            | refine wOv [0] (g1) ?_
            | refine wOv [0] (g2) ?_
            | refine wOv [0] (g3) ?_
            | refine wOv [0] (g4) ?_
            | simp only [go_sem, Nat.reduceLT, Nat.reduceLeDiff, Nat.reduceEqDiff, Nat.reduceAdd, Nat.reduceMul, Nat.reduceSub, reduceCtorEq, F]
            | ((fail_if_success first | refine wNn ?_ | refine wNo ?_ | refine wNl ?_ | refine wNr ?_);  simp (disch := omega) only [decide_eq_true_eq, if_pos, if_neg, wrap_id, le_maxLen, and_true, true_and, if_true, ite_true])
            | refine wGd (fun hb => ?_) fun hb => ?_
          all_goals refine nextN [] rfl [0, 1, 2, 3, 4, 5, 9] ⟨q, sn.1, c4⟩ rfl (by decide) (by decide) hJn (by simp only; omega) (by simp [updV, tmL, renV, renA, renC, hwq]) (by simp [updH, hpL, renH_at, renE, renC, rowsN_pur, rowsH_pur, rowsD_pur, rowsE_pur])
      | zero =>
        simp only [entsF] at hent
        have w3 := hbl c 3 hc4 (by decide) (by decide)
        obtain ⟨u3, a3, b3⟩ := belowF_ok (n := 3) hc4 (by decide)
        obtain ⟨r3, hr3⟩ : ∃ x, belowF bs c 3 = x := ⟨_, rfl⟩
        rw [hr3] at w3 u3 a3 b3
        obtain ⟨ow, c3⟩ := r3
        simp only at w3 u3 a3 b3
        have w12 := hbl c3 12 u3 (by decide) (by decide)
        obtain ⟨u12, a12, b12⟩ := belowF_ok (n := 12) u3 (by decide)
        obtain ⟨r12, hr12⟩ : ∃ x, belowF bs c3 12 = x := ⟨_, rfl⟩
        rw [hr12] at w12 u12 a12 b12
        obtain ⟨x12, c12⟩ := r12
        simp only at w12 u12 a12 b12
        have wm := specMakeDesc_ok ow es _ rfl (by omega)
        have hml := makeL_len ow es
        obtain ⟨d, hd⟩ : ∃ x, makeL ow es = x := ⟨_, rfl⟩
        rw [hd] at wm hml
        have wa := specAnnounce_ok s d.1 _ rfl hsm (by omega)
        obtain ⟨a, ha⟩ : ∃ x, announceL s d.1 = x := ⟨_, rfl⟩
        rw [ha] at wa
        have hrd : roundF (belowF bs) s cX = (if a.2.2 = true then (drvF x12.toNat a.1 ⟨a.2.1, 0, 0⟩).1 else a.1, c12) := by
          unfold roundF
          simp only [hcS, hcnt, ← hent, hr3, hd, ha, hr12]
        unfold curE at w3 w12
        unfold StoreD.cells DescS.cells at wa
        have F := And.intro @rowsH_len (And.intro @rowsD_len (And.intro @rowsE_len (And.intro @rowsE_take (And.intro @rowsE_pur (And.intro @rowsH_take (And.intro @rowsH_pur (And.intro @rowsD_take @rowsD_pur)))))))
        repeat' first
          | refine wSq fun _ hK => ?_
          | refine wRg ?_
          | refine wDr ?_
          | refine VWP_block ?_
          | refine VWP_skip ?_
          | refine VWP_exit ?_
          | refine VWP_ret ?_
          | (refine hK _ ?_; clear hK)
          | (clear hK; refine hK _ ?_; clear hK)
          | (clear hK; clear hK; refine hK _ ?_; clear hK)
          | (clear hK; clear hK; clear hK; refine hK _ ?_; clear hK)
          | (simp only [wHb, reduceCtorEq] at hb <;> try (exfalso; omega))
          | refine wCd (fun hb => ?_) fun hb => ?_
          | refine wCa (c := by first | exact wm | exact wa) (k := ?_)
          | refine wOv [0] (w3) ?_
          | refine wOv [0] (w12) ?_
          | simp only [go_sem, Nat.reduceLT, Nat.reduceLeDiff, Nat.reduceEqDiff, Nat.reduceAdd, Nat.reduceMul, Nat.reduceSub, reduceCtorEq, F]
          | ((fail_if_success first | refine wNn ?_ | refine wNo ?_ | refine wNl ?_ | refine wNr ?_);  simp (disch := omega) only [decide_eq_true_eq, if_pos, if_neg, wrap_id, le_maxLen, and_true, true_and, if_true, ite_true])
          | refine wGd (fun hb => ?_) fun hb => ?_
        have hJ2 : (if a.2.2 = true then (drvF x12.toNat a.1 ⟨a.2.1, 0, 0⟩).1 else a.1) = (roundF (belowF bs) s cX).1 ∧ c12 = (roundF (belowF bs) s cX).2 := by rw [hrd]; exact ⟨rfl, rfl⟩
        have hfin : DrawnP vs.length (4 - k) (roundF (belowF bs) s cX).1 := by
          have := roundF_ok (b := belowF bs) (c := cX) hDs (by omega)
          rw [show 4 - (k + 1) + 1 = 4 - k by omega] at this
          exact this
        have hres2 : roundsF (belowF bs) k (roundF (belowF bs) s cX).1 (roundF (belowF bs) s cX).2 = r := hres
        rw [← hJ2.1] at hfin hres2
        rw [← hJ2.2] at hres2
        have hk12 : x12 = ((x12.toNat : Nat) : Int) := by omega
        have hx12 : x12.toNat ≤ 12 := by omega
        clear wm wa w3 w12 hrd hJ2 hent hd
        obtain ⟨s1, n1, ok⟩ := a
        simp only at hfin hres2 ⊢
        cases ok with
        | true =>
          have hann := ann_ok (s := s) (d := d.1) (by rw [ha])
          rw [ha] at hann
          obtain ⟨he1, he2, he3, he4⟩ := hann
          cases he1
          simp only [if_true] at hfin hres2
          have hdl := hDs.dl
          have hD1 : DrawnP vs.length (4 - k) ⟨s.heads, s.descs ++ [d.1]⟩ := ⟨store_new hDs.st he2 (by omega), pre_new hDs.st hDs.pre, hDs.hl, by simp; omega⟩
          have hf1 : frmB ⟨s.heads, s.descs ++ [d.1]⟩ ⟨(s.descs.length : Nat), 0, 0⟩ = true := frm_zero (s := ⟨s.heads, s.descs ++ [d.1]⟩) (d := d.1) (by simp) (by omega) (by omega) he2.1.2.2.2.2.1
          refine VWP_loopN hE (X := DrvX) (fun x => [(0, .bp 0 0), (2, .bp 1 0), (3, .rf 2 vs.length), (5, .bp 3 0), (7, .int .i64 ((k + 1 : Nat) : Int)), (17, .bool true), (18, .bp 6 0), (19, .int .i64 x.k)])
            (fun x => [(0, curE bs c12), (1, .box [.nl 36, .nl 40]), (2, .root 3 (rowsN vs)), (3, .box [.rf 4 x.s.heads.length, .rf 5 x.s.descs.length]), (4, .root 36 (rowsH x.s.heads)), (5, .root 40 (rowsD 70 x.s.descs)), (6, .box x.f.cells)])
            (fun x => x.k) (fun x => x.k ≤ 12 ∧ StoreP x.s ∧ frmB x.s x.f = true ∧ drvF x.k x.s x.f = drvF x12.toNat ⟨s.heads, s.descs ++ [d.1]⟩ ⟨(s.descs.length : Nat), 0, 0⟩) [0, 1, 2, 3, 9, 10, 12] ⟨x12.toNat, ⟨s.heads, s.descs ++ [d.1]⟩, ⟨(s.descs.length : Nat), 0, 0⟩⟩
            ⟨hx12, hD1.st, hf1, rfl⟩ (by decide) (by decide) (by simp [updV, renV, renA, renC, ← hk12, tmL]) (by simp [updH, hpL, renH_at, renE, renC, curE, rowsN_pur, rowsH_pur, rowsD_pur, FrameD.cells]) ?_
          rintro ⟨kk, s2, f⟩ ⟨h12, hD2, hf2, hdr⟩
          simp only at h12 hD2 hf2 hdr
          unfold curE FrameD.cells
          simp only
          have hsm2 := storeP_small hD2
          cases kk with
          | zero =>
            simp only [drvF] at hdr
            rw [← hdr] at hfin hres2
            simp only at hfin hres2
            have F := And.intro @rowsH_len (And.intro @rowsD_len hw2)
            repeat' first
              | refine wSq fun _ hK => ?_
              | refine wRg ?_
              | refine wDr ?_
              | refine VWP_block ?_
              | refine VWP_skip ?_
              | refine VWP_exit ?_
              | refine VWP_ret ?_
              | (refine hK _ ?_; clear hK)
              | (clear hK; refine hK _ ?_; clear hK)
              | (clear hK; clear hK; refine hK _ ?_; clear hK)
              | (clear hK; clear hK; clear hK; refine hK _ ?_; clear hK)
              | (simp only [wHb, reduceCtorEq] at hb <;> try (exfalso; omega))
              | refine wCd (fun hb => ?_) fun hb => ?_
              | simp only [go_sem, Nat.reduceLT, Nat.reduceLeDiff, Nat.reduceEqDiff, Nat.reduceAdd, Nat.reduceMul, Nat.reduceSub, reduceCtorEq, F]
              | ((fail_if_success first | refine wNn ?_ | refine wNo ?_ | refine wNl ?_ | refine wNr ?_);  simp (disch := omega) only [decide_eq_true_eq, if_pos, if_neg, wrap_id, le_maxLen, and_true, true_and, if_true, ite_true])
              | refine wGd (fun hb => ?_) fun hb => ?_
            all_goals refine nextN [] rfl [0, 1, 2, 3, 4, 5] ⟨k, s2, c12⟩ rfl (by decide) (by decide) ⟨u12, by simp only; omega, hfin, hres2⟩ (by simp only; omega) (by simp [updV, tmL, renV, renA, renC, hw2]) (by simp [updH, hpL, renH_at, renE, renC, rowsN_pur, rowsH_pur, rowsD_pur])
          | succ kk =>
            have hkk1 : (0 : Int) < ((kk + 1 : Nat) : Int) := by omega
            have hwk : IntKind.i64.wrap (((kk + 1 : Nat) : Int) - 1) = (kk : Nat) := by rw [wrap_id (by omega)]; omega
            obtain ⟨k', d', j', e', o', h', hat⟩ := at_ex hD2 hf2
            have hv' := head_desc hD2 hat.ho
            have hdrive := l7Drive_ok s2 f k' d' j' e' o' h' hat hv'.2.1 hv'.2.2.1 hsm2 _ rfl
            rw [← driveF_at hat] at hdrive
            have hst := dstep hD2 hf2
            obtain ⟨rr, hrr⟩ : ∃ x, driveF s2 f = x := ⟨_, rfl⟩
            rw [hrr] at hdrive hst
            have hdr2 : drvF kk rr.1 rr.2.1 = drvF x12.toNat ⟨s.heads, s.descs ++ [d.1]⟩ ⟨(s.descs.length : Nat), 0, 0⟩ := by rw [← hdr, drvF, hrr]
            have hJn : kk ≤ 12 ∧ StoreP rr.1 ∧ frmB rr.1 rr.2.1 = true ∧ drvF kk rr.1 rr.2.1 = drvF x12.toNat ⟨s.heads, s.descs ++ [d.1]⟩ ⟨(s.descs.length : Nat), 0, 0⟩ := ⟨by omega, hst.st, hst.fr, hdr2⟩
            have e1 := hst.hl
            have e2 := hst.dl
            clear hrr hdr hdr2 hst hv' hat hf2 hD2 hfin hres2
            unfold FrameD.cells at hdrive
            have F := And.intro @rowsH_len (And.intro @rowsD_len (And.intro @rowsH_pur (And.intro @rowsD_pur (And.intro hkk1 hwk))))
            repeat' first
              | refine wSq fun _ hK => ?_
              | refine wRg ?_
              | refine wDr ?_
              | refine VWP_block ?_
              | refine VWP_skip ?_
              | refine VWP_exit ?_
              | refine VWP_ret ?_
              | (refine hK _ ?_; clear hK)
              | (clear hK; refine hK _ ?_; clear hK)
              | (clear hK; clear hK; refine hK _ ?_; clear hK)
              | (clear hK; clear hK; clear hK; refine hK _ ?_; clear hK)
              | (simp only [wHb, reduceCtorEq] at hb <;> try (exfalso; omega))
              | refine wCd (fun hb => ?_) fun hb => ?_
              | refine wOw [4, 5] (c := by exact hdrive) (k := ?_)
              | simp only [go_sem, Nat.reduceLT, Nat.reduceLeDiff, Nat.reduceEqDiff, Nat.reduceAdd, Nat.reduceMul, Nat.reduceSub, reduceCtorEq, F]
              | ((fail_if_success first | refine wNn ?_ | refine wNo ?_ | refine wNl ?_ | refine wNr ?_);  simp (disch := omega) only [decide_eq_true_eq, if_pos, if_neg, wrap_id, le_maxLen, and_true, true_and, if_true, ite_true])
              | refine wGd (fun hb => ?_) fun hb => ?_
            all_goals refine nextN [] rfl [0, 1, 2, 3, 4, 5, 6] ⟨kk, rr.1, rr.2.1⟩ rfl (by decide) (by decide) hJn (by simp only; omega) (by simp [updV, tmL, renV, renA, renC, hwk]) (by simp [updH, hpL, renH_at, renE, renC, rowsN_pur, rowsH_pur, rowsD_pur, e1, e2])
        | false =>
          have hann := ann_no2 (s := s) (d := d.1) (by rw [ha]; simp)
          rw [ha] at hann
          cases hann
          replace hfin : DrawnP vs.length (4 - k) s := by simpa using hfin
          replace hres2 : roundsF (belowF bs) k s c12 = r := by simpa using hres2
          refine VWP_loopN hE (X := Unit) (fun _ => [(0, .bp 0 0), (2, .bp 1 0), (3, .rf 2 vs.length), (5, .bp 3 0), (7, .int .i64 ((k + 1 : Nat) : Int)), (17, .bool false), (19, .int .i64 x12)])
            (fun _ => [(0, curE bs c12), (1, .box [.nl 36, .nl 40]), (2, .root 3 (rowsN vs)), (3, .box [.rf 4 s.heads.length, .rf 5 s.descs.length]), (4, .root 36 (rowsH s.heads)), (5, .root 40 (rowsD 70 s.descs))])
            (fun _ => 0) (fun _ => True) [0, 1, 2, 3, 9, 10] ()
            trivial (by decide) (by decide) (by simp [updV, renV, renA, renC, tmL]) (by simp [updH, hpL, renH_at, renE, renC, curE, rowsN_pur, rowsH_pur, rowsD_pur]) ?_
          rintro _ _
          unfold curE
          try simp only
          have F := And.intro @rowsH_len (And.intro @rowsD_len hw2)
          repeat' first
            | refine wSq fun _ hK => ?_
            | refine wRg ?_
            | refine wDr ?_
            | refine VWP_block ?_
            | refine VWP_skip ?_
            | refine VWP_exit ?_
            | refine VWP_ret ?_
            | (refine hK _ ?_; clear hK)
            | (clear hK; refine hK _ ?_; clear hK)
            | (clear hK; clear hK; refine hK _ ?_; clear hK)
            | (clear hK; clear hK; clear hK; refine hK _ ?_; clear hK)
            | (simp only [wHb, reduceCtorEq] at hb <;> try (exfalso; omega))
            | refine wCd (fun hb => ?_) fun hb => ?_
            | simp only [go_sem, Nat.reduceLT, Nat.reduceLeDiff, Nat.reduceEqDiff, Nat.reduceAdd, Nat.reduceMul, Nat.reduceSub, reduceCtorEq, F]
            | ((fail_if_success first | refine wNn ?_ | refine wNo ?_ | refine wNl ?_ | refine wNr ?_);  simp (disch := omega) only [decide_eq_true_eq, if_pos, if_neg, wrap_id, le_maxLen, and_true, true_and, if_true, ite_true])
            | refine wGd (fun hb => ?_) fun hb => ?_
          all_goals refine nextN [] rfl [0, 1, 2, 3, 4, 5] ⟨k, s, c12⟩ rfl (by decide) (by decide) ⟨u12, by simp only; omega, hfin, hres2⟩ (by simp only; omega) (by simp [updV, tmL, renV, renA, renC, hw2]) (by simp [updH, hpL, renH_at, renE, renC, rowsN_pur, rowsH_pur, rowsD_pur])
end Go.Proofs.Ytchkbgekmoileaa
