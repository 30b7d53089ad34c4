/- FnTogether: two who help one descriptor of a drawn store. -/
import Derived.Test.YtchkbgekmoileaaCC
import Derived.Test.YtchkbgekmoileaaFz
import Derived.Test.YtchkbgekmoileaaLC
namespace Go.Proofs.Ytchkbgekmoileaa
open Go Go.RowKit
set_option linter.unusedVariables false
set_option linter.unusedSimpArgs false
set_option maxRecDepth 100000
set_option maxHeartbeats 40000000
attribute [local irreducible] VWP vops vdraw contV contD CallK Guard GuardV NextL Puts Runs RetOK RetQ RetO RetQO thenQ blockQ
attribute [local irreducible] NextN

/-- The turns that are drawn. -/
def turnB (bs : List Int) (j : Nat) : Bool := (atF bs (j + 5)).tmod 2 == 0
def turnsF (bs : List Int) (k : Nat) : List Bool := (List.range k).map (turnB bs)
theorem turnsF_len (bs : List Int) (k : Nat) : (turnsF bs k).length = k := by simp [turnsF]
theorem turnsF_more (bs : List Int) (k : Nat) (b : Bool) (h : turnB bs k = b) : rowsB (turnsF bs k) ++ [[.bool b]] = rowsB (turnsF bs (k + 1)) := by
  subst h
  simp [turnsF, rowsB, List.range_succ, encB]
theorem turnsF_zero (bs : List Int) : rowsB (turnsF bs 0) = [] := rfl
theorem tinv_stack {n : Nat} {o0 : Int} {es : List EntS} {H0 : List HeadD} {s : StoreD} {st : Int} {x y : List FrameD} (h : TInv n o0 es H0 s st x y) : stackB s x = true ∧ x.length ≤ 1 ∧ ∀ f, x = [f] → cost s f ≤ 200 := by
  have hp := bP_true h.sp
  rcases h.fx with rfl | ⟨f, rfl, hf, h2, h5, _⟩
  · exact ⟨by simp [stackB, hp], by simp, fun f hf => by simp at hf⟩
  · refine ⟨?_, by simp, fun g hg => ?_⟩
    · have h55 : (f.phase == 5) = false := by rw [beq_eq_false_iff_ne]; exact h5
      simp [stackB, hp, stB, hf, h55]
    · simp at hg
      subst hg
      have := cost_le h.sp f hf
      omega
theorem fin_all {s : StoreD} {x : List FrameD} (h1 : stackB s x = true) (h2 : (finF 200 s x).2.1 = []) : finishR s x 200 = ((finF 200 s x).1, (((finF 200 s x).2.2 : Nat) : Int), true) := by
  unfold finishR finOk
  rw [h1, if_pos (by simp [inB]), show (200 : Int).toNat = 200 from rfl, h2]
  simp
theorem entsN_tiny {ds : List DescS} (h : ∀ d ∈ ds, d.entries.length ≤ 6) : entsN ds ≤ 6 * ds.length := by
  induction ds with
  | nil => simp [entsN]
  | cons d ds ih =>
    have h1 := h d (List.mem_cons_self ..)
    have h2 := ih fun x hx => h x (List.mem_cons_of_mem _ hx)
    simp only [entsN, List.length_cons]
    omega
theorem storeP_tin {s : StoreD} (h : StoreP s) : s.tiny := by
  have h1 := h.2.1
  have h2 := h.2.2.1
  have h3 := entsN_tiny fun d hd => (h.2.2.2.1 d hd).1.2.2.2.2.2
  exact ⟨by omega, by omega, by omega⟩
theorem togetherLaw_ok (bs : List Int) (hBy : ByteP bs) (hl9 : bs.length ≤ 9223372036854775807) : SatP Try.prog 3 [.fr 5 (rowsY bs)] (.bool true) [] := by
  have hbig := big_ok bs
  rcases Nat.lt_or_ge 1048576 bs.length with hgt | hl
  · have h1 : decide ((1048576 : Int) < bs.length) = true := decide_eq_true (by omega)
    rw [h1] at hbig
    refine satP_of_body hT Try.func3 (by kernel_rfl) rfl (rs := [.tmp 2]) rfl (n := 269) rfl (by simp) rfl (by simp) fun E hE => ?_
    unfold St.init
    have F := (Eq.refl 0)
    repeat' first
      | refine wSq fun _ hK => ?_
      | refine wRg ?_
      | refine wDr ?_
      | refine VWP_block ?_
      | refine VWP_skip ?_
      | refine VWP_exit ?_
      | refine VWP_ret ?_
      | (refine hK _ ?_; clear hK)
      | (clear hK; refine hK _ ?_; clear hK)
      | (clear hK; clear hK; refine hK _ ?_; clear hK)
      | (clear hK; clear hK; clear hK; refine hK _ ?_; clear hK)
      | (simp only [wHb, reduceCtorEq] at hb <;> try (exfalso; omega))
      | refine wCd (fun hb => ?_) fun hb => ?_
      | refine wCa (c := by first | exact hbig) (k := ?_)
      | simp only [go_sem, Nat.reduceLT, Nat.reduceLeDiff, Nat.reduceEqDiff, Nat.reduceAdd, Nat.reduceMul, Nat.reduceSub, reduceCtorEq, F]
      | ((fail_if_success first | refine wNn ?_ | refine wNo ?_ | refine wNl ?_ | refine wNr ?_);  simp (disch := omega) only [decide_eq_true_eq, if_pos, if_neg, wrap_id, le_maxLen, and_true, true_and, if_true, ite_true])
      | refine wGd (fun hb => ?_) fun hb => ?_
    all_goals refine wLf ?_
    all_goals rfl
  have h1 : decide ((1048576 : Int) < bs.length) = false := decide_eq_false (by omega)
  rw [h1] at hbig
  clear h1
  have hdr := drawStore_ok bs hl
  obtain ⟨nv, n2, n5, hD⟩ := storeF_ok (b := belowF bs) (fun c n hn => belowF_range bs c n hn) (newCur bs)
  replace hD : DrawnP nv 4 (drawS bs) := hD
  obtain ⟨s0, hs0⟩ : ∃ s, drawS bs = s := ⟨_, rfl⟩
  rw [hs0] at hdr hD
  have hsm := drawn_small hD
  have htn := storeP_tin hD.st
  have hdl := hD.dl
  have hnl := hD.hl
  have hS := hD.st
  have hP := hD.pre
  -- all are finished
  have hlv := liveN_le (s := s0) (fs := [])
  obtain ⟨ha1, ha2⟩ := finAll_done 60 hS hP (by omega)
  have hall := implFinishAll_ok s0 htn _ rfl
  have har : finAllR s0 = ((finAllF 60 s0).1, true) := by
    unfold finAllR
    rw [if_pos (bP_true hS), if_pos ha1]
  rw [har] at hall
  obtain ⟨s2, hs2⟩ : ∃ x, (finAllF 60 s0).1 = x := ⟨_, rfl⟩
  rw [hs2] at hall ha2
  have hS2 := ha2.st
  have hsm2 := storeP_small hS2
  have e2 : s2.descs.length = s0.descs.length := ha2.dl
  have e3 : s2.heads.length = s0.heads.length := ha2.hl
  -- the two objects
  obtain ⟨a10, a11⟩ := atF_ok hBy 1
  obtain ⟨a20, a21⟩ := atF_ok hBy 2
  obtain ⟨a40, a41⟩ := atF_ok hBy 4
  have hat1 := at_ok bs 1 hl hBy (by decide)
  have hat2 := at_ok bs 2 hl hBy (by decide)
  have hat4 := at_ok bs 4 hl hBy (by decide)
  obtain ⟨o, ho⟩ : ∃ k : Nat, (atF bs 1).tmod s0.heads.length = k := ⟨((atF bs 1).tmod s0.heads.length).toNat, by
    have := Int.tmod_nonneg (a := atF bs 1) s0.heads.length a10
    omega⟩
  have hol : o < s0.heads.length := by
    have := Int.tmod_lt_of_pos (atF bs 1) (b := s0.heads.length) (by omega)
    omega
  obtain ⟨p, hp⟩ : ∃ k : Nat, ((o : Int) + 1).tmod s0.heads.length = k := ⟨(((o : Int) + 1).tmod s0.heads.length).toNat, by
    have := Int.tmod_nonneg (a := (o : Int) + 1) s0.heads.length (by omega)
    omega⟩
  have hpl : p < s0.heads.length := by
    have := Int.tmod_lt_of_pos ((o : Int) + 1) (b := s0.heads.length) (by omega)
    omega
  have hne : p ≠ o := by
    rintro rfl
    rcases Nat.lt_or_ge (p + 1) s0.heads.length with hlt | hge
    · rw [Int.tmod_eq_of_lt (by omega) (by omega)] at hp
      omega
    · have : (p : Int) + 1 = s0.heads.length := by omega
      rw [this, Int.tmod_self] at hp
      omega
  obtain ⟨h, hh⟩ : ∃ h, s2.heads[o]? = some h := ⟨_, List.getElem?_eq_getElem (by omega)⟩
  obtain ⟨q, hq⟩ : ∃ h, s2.heads[p]? = some h := ⟨_, List.getElem?_eq_getElem (by omega)⟩
  obtain ⟨b, hb4⟩ : ∃ b, (atF bs 4).tmod 2 = b := ⟨_, rfl⟩
  have hb01 : b = 0 ∨ b = 1 := by
    have x1 := Int.tmod_nonneg (a := atF bs 4) 2 a40
    have x2 := Int.tmod_lt_of_pos (atF bs 4) (b := 2) (by omega)
    omega
  obtain ⟨l1, l2, L, lr, l3, hL1, hL2, hmk, hfit, hgood⟩ := told_list hS2 hh hq hne a20 a21 hb01
  have hv2 := head_desc hS2 hh
  have hw2 := head_desc hS2 hq
  have c1 := implAddRead_ok [] o h.version h.value _ l1 (by simp)
  have c2 := implSetNew_ok _ o (atF bs 2) _ l2 (by simp)
  have c3 := implAddRead_ok _ p (q.version + b) q.value _ l3 (by simp)
  have c4 := implMakeDesc_ok 0 L _ hmk (by omega)
  obtain ⟨es, hes⟩ : ∃ x, byObj L 8 = x := ⟨_, rfl⟩
  have hel := byObj_len L 8
  rw [hes] at c4 hfit hgood hel
  obtain ⟨hS3, T0, T1⟩ := t_new (d := ⟨0, 0, es⟩) hS2 (fun o x hx => held_nil hS2 ha2.held hx) hfit rfl (by omega)
  have c5 := implAnnounce_ok s2 ⟨0, 0, es⟩ (⟨s2.heads, s2.descs ++ [⟨0, 0, es⟩]⟩, s2.descs.length, true) (by
    unfold announceL annB
    rw [if_pos]
    have hz : (s2.descs.length == 60) = false := by rw [beq_eq_false_iff_ne]; omega
    rw [bP_true hS2, bP_iff.2 hfit, hz]
    rfl) hsm2 (by simp only; omega)
  obtain ⟨s3, hs3⟩ : ∃ x, (⟨s2.heads, s2.descs ++ [⟨0, 0, es⟩]⟩ : StoreD) = x := ⟨_, rfl⟩
  have e4 : s3.heads.length = s0.heads.length := by rw [← hs3]; exact e3
  obtain ⟨N1, hN1⟩ : ∃ k, s0.descs.length + 1 = k := ⟨_, rfl⟩
  have e5 : s3.descs.length = N1 := by rw [← hs3, ← hN1]; simp; exact e2
  rw [hs3] at c5 hS3 T0 T1
  simp only at c1 c2 c3 c4 c5 hall T0 T1
  rw [e4, e5, e2] at c5
  rw [e2] at T0 T1
  have hrh := rowsH_at hh
  have hrq := rowsH_at hq
  have t1 := rowsH_take s2.heads
  have t2 := rowsD_take 70 s2.descs
  have t3 := rowsH_take s3.heads
  have t4 := rowsD_take 70 s3.descs
  have t5 := rowsE_take es
  have t6 := rowsE_take L
  rw [e3] at t1
  rw [e2] at t2
  rw [e4] at t3
  rw [e5] at t4
  have hwo := wrap_id (x := (o : Int) + 1) (by omega)
  have hwb := wrap_id (x := q.version + b) (by omega)
  have hne1 : ((p : Int) != o) = true := by simp; omega
  have hol1 : (o : Int) < (s0.heads.length : Int) := by omega
  have hpl1 : (p : Int) < (s0.heads.length : Int) := by omega
  have ho0 : (0 : Int) ≤ (o : Nat) := by omega
  have hp0 : (0 : Int) ≤ (p : Nat) := by omega
  have hn0 : ¬ (s0.heads.length : Int) = 0 := by omega
  have hn1 : ¬ s0.heads.length = 0 := by omega
  have hol2 : o < s2.heads.length := by omega
  have hpl2 : p < s2.heads.length := by omega
  have hre0 : rowsE [] = [] := rfl
  unfold StoreD.cells at hall c5
  unfold DescS.cells at c5
  simp only at c5
  clear hD hs0 hsm ha1 ha2 har hs2 hmk l1 l2 l3 hP hS hS2 hsm2 htn hfit hs3 hh hq hv2 hw2 hes a10 a11 a20 a21 a40 a41
  refine satP_of_body hT Try.func3 (by kernel_rfl) rfl (rs := [.tmp 2]) rfl (n := 269) rfl (by simp) rfl (by simp) fun E hE => ?_
  unfold St.init
  have F := And.intro @rowsH_len (And.intro @rowsD_len (And.intro @rowsE_len (And.intro @rowsH_pur (And.intro @rowsD_pur (And.intro @rowsE_pur (And.intro @rowsH_take (And.intro @rowsD_take (And.intro @rowsE_take (And.intro hrh (And.intro hrq (And.intro t1 (And.intro t2 (And.intro t3 (And.intro t4 (And.intro t5 (And.intro t6 (And.intro ho (And.intro hp (And.intro hb4 (And.intro hwo (And.intro hwb (And.intro hne1 (And.intro hol1 (And.intro hpl1 (And.intro ho0 (And.intro hp0 (And.intro hn0 (And.intro hn1 (And.intro hol (And.intro hpl (And.intro hol2 (And.intro hpl2 (And.intro e3 e2)))))))))))))))))))))))))))))))))
  repeat' first
    | refine wSq fun _ hK => ?_
    | refine wRg ?_
    | refine wDr ?_
    | refine VWP_block ?_
    | refine VWP_skip ?_
    | refine VWP_exit ?_
    | refine VWP_ret ?_
    | (refine hK _ ?_; clear hK)
    | (clear hK; refine hK _ ?_; clear hK)
    | (clear hK; clear hK; refine hK _ ?_; clear hK)
    | (clear hK; clear hK; clear hK; refine hK _ ?_; clear hK)
    | (simp only [wHb, reduceCtorEq] at hb <;> try (exfalso; omega))
    | refine wCd (fun hb => ?_) fun hb => ?_
    | refine wCa (c := by first | exact hbig | exact hdr | exact hall | exact hat1 | exact hat2 | exact hat4 | exact c1 | exact c2 | exact c3 | exact c4 | exact c5) (k := ?_)
    | simp only [go_sem, Nat.reduceLT, Nat.reduceLeDiff, Nat.reduceEqDiff, Nat.reduceAdd, Nat.reduceMul, Nat.reduceSub, reduceCtorEq, F]
    | ((fail_if_success first | refine wNn ?_ | refine wNo ?_ | refine wNl ?_ | refine wNr ?_);  simp (disch := omega) only [decide_eq_true_eq, if_pos, if_neg, wrap_id, le_maxLen, and_true, true_and, if_true, ite_true])
    | refine wGd (fun hb => ?_) fun hb => ?_
  clear hbig hdr hall hat1 hat2 c1 c2 c3 c4 c5 hrh hrq t1 t2 t5 ho hp hwo hwb hne1 hol1 hpl1 ho0 hp0 hol2 hpl2
  have hpu0 : PurRows [] := by simp [PurRows]
  refine VWP_loopN hE (X := Nat) (fun j => [(0, .fr 5 (rowsY bs)), (3, .bp 0 0), (6, .rf 3 L.length), (11, .int .i64 s0.descs.length), (13, .rf 4 j), (14, .int .i64 j)])
    (fun j => [(0, .box [.rf 1 s0.heads.length, .rf 2 N1]), (1, .root 36 (rowsH s3.heads)), (2, .root 40 (rowsD 70 s3.descs)), (3, .root 70 (rowsE L)), (4, .root 4 (rowsB (turnsF bs j)))])
    (fun j => 40 - j) (fun j => j ≤ 40) [2, 3144, 3145, 2822, 3146] 0 (Nat.zero_le _) (by decide) (by decide) (by simp [updV, renV, renA, renC]) (by simp [updH, renH_at, renE, renC, rowsH_pur, rowsD_pur, rowsE_pur, turnsF_zero, hpu0]) ?_
  intro j hj
  try simp only
  rcases Nat.lt_or_ge j 40 with hjl | hjg
  · have hat := at_ok bs (j + 5) hl hBy (by omega)
    obtain ⟨B, hB⟩ : ∃ B, turnB bs j = B := ⟨_, rfl⟩
    have hB1 : ((atF bs (j + 5)).tmod 2 == 0) = B := hB
    have hw5 : IntKind.i64.wrap ((j : Int) + 5) = ((j + 5 : Nat) : Int) := by rw [wrap_id (by omega)]; omega
    have hw := wrap_id (x := (j : Int) + 1) (by omega)
    have hj1 : (j : Int) < 40 := by omega
    have hmore := turnsF_more bs j B hB
    have htl : (rowsB (turnsF bs j)).take j = rowsB (turnsF bs j) := by
      have := rowsB_take (turnsF bs j)
      rwa [turnsF_len] at this
    have hrl : (rowsB (turnsF bs j)).length = j := by rw [rowsB_len, turnsF_len]
    have F := And.intro hB1 (And.intro hw5 (And.intro hw (And.intro hj1 (And.intro hmore (And.intro htl hrl)))))
    repeat' first
      | refine wSq fun _ hK => ?_
      | refine wRg ?_
      | refine wDr ?_
      | refine VWP_block ?_
      | refine VWP_skip ?_
      | refine VWP_exit ?_
      | refine VWP_ret ?_
      | (refine hK _ ?_; clear hK)
      | (clear hK; refine hK _ ?_; clear hK)
      | (clear hK; clear hK; refine hK _ ?_; clear hK)
      | (clear hK; clear hK; clear hK; refine hK _ ?_; clear hK)
      | (simp only [wHb, reduceCtorEq] at hb <;> try (exfalso; omega))
      | refine wCd (fun hb => ?_) fun hb => ?_
      | refine wCa (c := by first | exact hat) (k := ?_)
      | simp only [go_sem, Nat.reduceLT, Nat.reduceLeDiff, Nat.reduceEqDiff, Nat.reduceAdd, Nat.reduceMul, Nat.reduceSub, reduceCtorEq, F]
      | ((fail_if_success first | refine wNn ?_ | refine wNo ?_ | refine wNl ?_ | refine wNr ?_);  simp (disch := omega) only [decide_eq_true_eq, if_pos, if_neg, wrap_id, le_maxLen, and_true, true_and, if_true, ite_true])
      | refine wGd (fun hb => ?_) fun hb => ?_
    all_goals refine nextN [] rfl [0, 1, 2, 3, 6] (j + 1) rfl (by decide) (by decide) hjl (by omega) (by simp [updV, tmL, renV, renA, renC]) (by simp [updH, hpL, renH_at, renE, renC, rowsH_pur, rowsD_pur, rowsE_pur, rowsB_pur])
  · obtain rfl : j = 40 := by omega
    have t7 : (rowsB (turnsF bs 40)).take 40 = rowsB (turnsF bs 40) := by
      have := rowsB_take (turnsF bs 40)
      rwa [turnsF_len] at this
    have h3 := storeP_tin hS3
    have hst0 := tinv_stack T0
    have hlen40 := turnsF_len bs 40
    have cT := implTogether_ok s3 [⟨(s0.descs.length : Nat), 0, 0⟩] [⟨(s0.descs.length : Nat), 0, 0⟩] (turnsF bs 40) h3 (by simp) (by simp) (by omega) _ rfl
    have hto : togR s3 [⟨(s0.descs.length : Nat), 0, 0⟩] [⟨(s0.descs.length : Nat), 0, 0⟩] (turnsF bs 40) = togF (turnsF bs 40) s3 [⟨(s0.descs.length : Nat), 0, 0⟩] [⟨(s0.descs.length : Nat), 0, 0⟩] := by
      unfold togR togOk
      rw [hst0.1, hlen40]
      rfl
    rw [hto] at cT
    obtain ⟨st4, T4, d4⟩ := tog_t (turnsF bs 40) T0
    obtain ⟨r4, hr4⟩ : ∃ x, togF (turnsF bs 40) s3 [⟨(s0.descs.length : Nat), 0, 0⟩] [⟨(s0.descs.length : Nat), 0, 0⟩] = x := ⟨_, rfl⟩
    rw [hr4] at cT T4 d4
    obtain ⟨s4, x4, y4⟩ := r4
    simp only at cT T4 d4
    have k4 := tinv_stack T4
    obtain ⟨st5, T5, z5, d5⟩ := fin_t 200 T4 k4.2.2
    have cF1 := implFinish_ok s4 x4 200 (storeP_tin T4.sp) (by have := k4.2.1; omega) _ (fin_all k4.1 z5)
    obtain ⟨r5, hr5⟩ : ∃ x, finF 200 s4 x4 = x := ⟨_, rfl⟩
    rw [hr5] at cF1 T5 d5
    obtain ⟨s5, x5, m5⟩ := r5
    simp only at cF1 T5 d5
    have T5' := T5.symm
    have k5 := tinv_stack T5'
    obtain ⟨st6, T6, z6, d6⟩ := fin_t 200 T5' k5.2.2
    have cF2 := implFinish_ok s5 y4 200 (storeP_tin T5.sp) (by have := k5.2.1; omega) _ (fin_all k5.1 z6)
    obtain ⟨r6, hr6⟩ : ∃ x, finF 200 s5 y4 = x := ⟨_, rfl⟩
    rw [hr6] at cF2 T6 d6
    obtain ⟨s6, x6, m6⟩ := r6
    simp only at cF2 T6 d6
    have k1 := tinv_stack T1
    obtain ⟨st7, T7, z7, d7⟩ := fin_t 200 T1 k1.2.2
    have cF3 := implFinish_ok s3 [⟨(s0.descs.length : Nat), 0, 0⟩] 200 h3 (by simp) _ (fin_all k1.1 z7)
    obtain ⟨r7, hr7⟩ : ∃ x, finF 200 s3 [⟨(s0.descs.length : Nat), 0, 0⟩] = x := ⟨_, rfl⟩
    rw [hr7] at cF3 T7 d7
    obtain ⟨s7, x7, m7⟩ := r7
    simp only at cF3 T7 d7
    obtain ⟨q1, q2⟩ := t_same T6 T7
    subst q1
    obtain ⟨q3, _⟩ := t_end T7
    have hrd6 := rowsD_at (te := 70) T6.dn
    have hrd7 := rowsD_at (te := 70) T7.dn
    simp only at hrd6 hrd7
    have g4 : s4.heads.length = s0.heads.length := by rw [T4.hl]; exact e3
    have g5 : s5.heads.length = s0.heads.length := by rw [T5.hl]; exact e3
    have g7 : s7.heads.length = s0.heads.length := by rw [T7.hl]; exact e3
    have u4 : s4.descs.length = N1 := by rw [d4]; exact e5
    have u5 : s5.descs.length = N1 := by rw [d5]; exact u4
    have u6 : s6.descs.length = N1 := by rw [d6]; exact u5
    have u7 : s7.descs.length = N1 := by rw [d7]; exact e5
    unfold StoreD.cells at cT cF1 cF2 cF3
    rw [q2] at cF2
    simp only [e4, e5, g4, u4, g5, u5] at cT cF1 cF2 cF3
    have v1 := rowsH_take s4.heads
    have v2 := rowsD_take 70 s4.descs
    have v3 := rowsH_take s5.heads
    have v4 := rowsD_take 70 s5.descs
    have v7 := rowsH_take s7.heads
    have v5 := rowsF_take x4
    have v6 := rowsF_take y4
    rw [g4] at v1
    rw [u4] at v2
    rw [g5] at v3
    rw [u5] at v4
    rw [g7] at v7
    have hN2 : ¬ (s0.descs.length : Int) < 0 := by omega
    have hN3 : ¬ (N1 : Int) ≤ (s0.descs.length : Int) := by omega
    have hN4 : (0 : Int) ≤ (s0.descs.length : Int) := by omega
    have hN5 : (s0.descs.length : Int) < (N1 : Int) := by omega
    have hN6 : s0.descs.length < N1 := by omega
    have hN7 : s0.descs.length < s6.descs.length := by omega
    have hN8 : s0.descs.length < s7.descs.length := by omega
    have hpr : PurRows [[.int .i64 (s0.descs.length : Nat), .int .i64 0, .int .i64 0]] := rowsF_pur [⟨(s0.descs.length : Nat), 0, 0⟩]
    have hbb : ∀ x : Int, (x == x) = true := fun x => beq_self_eq_true x
    have hbn : ∀ x : Int, (x != x) = false := fun x => bne_self_eq_false x
    have hz6 : x4.length ≤ 1 := k4.2.1
    have hz7 : y4.length ≤ 1 := k5.2.1
    have hn8 : s0.heads.length ≤ 8 := by omega
    clear T0 T1 T4 T5 T5' T6 T7 k4 k5 k1 z5 z6 z7 hr4 hr5 hr6 hr7 hto d4 d5 d6 d7 h3 hst0 hS3 hnl hdl q2 hN1
    have hcase : (b = 0 ∧ st6 = 1) ∨ (b = 1 ∧ (st6 == 1) = ((L.length : Int) == 1)) := by
      rcases q3 with ⟨w, k⟩ | ⟨w, k⟩
      · rcases hgood.1 k with hz | hz
        · exact .inl ⟨hz, w⟩
        · rcases hb01 with hx | hx
          · exact .inl ⟨hx, w⟩
          · exact .inr ⟨hx, by rw [w, hz]; rfl⟩
      · rcases hb01 with hx | hx
        · exact absurd (hgood.2 (.inl hx)) k
        · refine .inr ⟨hx, ?_⟩
          have hl1 : L.length ≠ 1 := fun hc => k (hgood.2 (.inr hc))
          have hl2 : ((L.length : Int) == 1) = false := by rw [beq_eq_false_iff_ne]; omega
          rw [hl2, w]
          rfl
    clear q3 hgood hb01 hL1 hL2 hel
    have hb4x : ((atF bs 4).tmod 2 == 0) = (b == 0) := by rw [hb4]
    have hbo : ∀ x : Bool, (x != x) = false := fun x => bne_self_eq_false x
    have hbq : ∀ x : Bool, (x == x) = true := fun x => beq_self_eq_true x
    have h10 : ((1 : Int) == 0) = false := rfl
    have hz20 : ¬ (2 : Int) = 0 := by decide
    rcases hcase with ⟨rfl, rfl⟩ | ⟨rfl, hL⟩
    ·
      have F := And.intro @Nat.le_refl (And.intro hz20 (And.intro @List.append_eq.{0} (And.intro @rowsH_len (And.intro @rowsD_len (And.intro @rowsB_len (And.intro @rowsF_len (And.intro @rowsE_len (And.intro @rowsH_pur (And.intro @rowsD_pur (And.intro @rowsF_pur (And.intro @rowsB_pur (And.intro hrd6 (And.intro hrd7 (And.intro t3 (And.intro t4 (And.intro t7 (And.intro v1 (And.intro v2 (And.intro v3 (And.intro v4 (And.intro v5 (And.intro v6 (And.intro v7 (And.intro hN2 (And.intro hN3 (And.intro hN4 (And.intro hN5 (And.intro hN6 (And.intro hN7 (And.intro hN8 (And.intro hpr (And.intro hbb (And.intro hbn (And.intro hbo (And.intro hb4 (And.intro g7 (And.intro u6 (And.intro u7 (And.intro hlen40 (And.intro e4 (And.intro e5 (And.intro g4 (And.intro u4 (And.intro g5 u5))))))))))))))))))))))))))))))))))))))))))))
      repeat' first
        | refine wSq fun _ hK => ?_
        | refine wRg ?_
        | refine wDr ?_
        | refine VWP_block ?_
        | refine VWP_skip ?_
        | refine VWP_exit ?_
        | refine VWP_ret ?_
        | (refine hK _ ?_; clear hK)
        | (clear hK; refine hK _ ?_; clear hK)
        | (clear hK; clear hK; refine hK _ ?_; clear hK)
        | (clear hK; clear hK; clear hK; refine hK _ ?_; clear hK)
        | (simp only [wHb, reduceCtorEq] at hb <;> try (exfalso; omega))
        | refine wCd (fun hb => ?_) fun hb => ?_
        | refine wCa (c := by first | exact hat4 | exact cT | exact cF1 | exact cF2 | exact cF3) (k := ?_)
        | simp only [go_sem, Nat.reduceLT, Nat.reduceLeDiff, Nat.reduceEqDiff, Nat.reduceAdd, Nat.reduceMul, Nat.reduceSub, reduceCtorEq, F]
        | refine wGd (fun hb => ?_) fun hb => ?_
      clear cT cF1 cF2 cF3 hat4 hrd6 hrd7 hN2 hN3 hN4 hN5 hN6 hN7 hN8 hpr v1 v2 v3 v4 v5 v6 t3 t4 t7
      refine VWP_loopN hE (X := Nat) (fun j => [(3, .bp 0 0), (15, .bp 3 0), (22, .bp 6 0), (25, .int .i64 j)])
        (fun j => [(0, .box [.rf 1 s0.heads.length, .rf 2 N1]), (1, .root 36 (rowsH s3.heads)), (2, .root 40 (rowsD 70 s3.descs)), (3, .box [.rf 4 s0.heads.length, .rf 5 N1]), (4, .root 36 (rowsH s7.heads)), (5, .root 40 (rowsD 70 s6.descs)), (6, .box [.rf 7 s0.heads.length, .rf 8 N1]), (7, .root 36 (rowsH s7.heads)), (8, .root 40 (rowsD 70 s7.descs))])
        (fun j => s0.heads.length - j) (fun j => j ≤ s0.heads.length) [0, 1, 2, 11, 14, 15, 19, 17, 18] 0 (Nat.zero_le _) (by decide) (by decide) (by simp [updV, renV, renA, renC]) (by simp [updH, renH_at, renE, renC, rowsH_pur, rowsD_pur]) ?_
      intro j hj
      try simp only
      rcases Nat.lt_or_ge j s0.heads.length with hjl | hjg
      · obtain ⟨h, hh⟩ : ∃ h, s7.heads[j]? = some h := ⟨_, List.getElem?_eq_getElem (by omega)⟩
        have hrh := rowsH_at hh
        have hj0 : (0 : Int) ≤ (j : Nat) := by omega
        have hj1 : (j : Int) < (s0.heads.length : Int) := by omega
        have hw := wrap_id (x := (j : Int) + 1) (by omega)
        have hj2 : j < s7.heads.length := by omega
        have F := And.intro @Nat.le_refl (And.intro @rowsH_len (And.intro @rowsD_len (And.intro hrh (And.intro hj0 (And.intro hj1 (And.intro hj2 (And.intro hjl (And.intro hw (And.intro hbb (And.intro hbn (And.intro g7 e4)))))))))))
        repeat' first
          | refine wSq fun _ hK => ?_
          | refine wRg ?_
          | refine wDr ?_
          | refine VWP_block ?_
          | refine VWP_skip ?_
          | refine VWP_exit ?_
          | refine VWP_ret ?_
          | (refine hK _ ?_; clear hK)
          | (clear hK; refine hK _ ?_; clear hK)
          | (clear hK; clear hK; refine hK _ ?_; clear hK)
          | (clear hK; clear hK; clear hK; refine hK _ ?_; clear hK)
          | (simp only [wHb, reduceCtorEq] at hb <;> try (exfalso; omega))
          | refine wCd (fun hb => ?_) fun hb => ?_
          | simp only [go_sem, Nat.reduceLT, Nat.reduceLeDiff, Nat.reduceEqDiff, Nat.reduceAdd, Nat.reduceMul, Nat.reduceSub, reduceCtorEq, F]
          | refine wGd (fun hb => ?_) fun hb => ?_
        all_goals refine nextN [] rfl [0, 1, 2, 3, 4, 5, 6, 7, 8] (j + 1) rfl (by decide) (by decide) hjl (by omega) (by simp [updV, tmL, renV, renA, renC]) (by simp [updH, hpL, renH_at, renE, renC, rowsH_pur, rowsD_pur])
      · have hn : ¬ (j : Int) < (s0.heads.length : Int) := by omega
        have F := And.intro @Nat.le_refl (And.intro @rowsH_len (And.intro @rowsD_len (And.intro hn e4)))
        repeat' first
          | refine wSq fun _ hK => ?_
          | refine wRg ?_
          | refine wDr ?_
          | refine VWP_block ?_
          | refine VWP_skip ?_
          | refine VWP_exit ?_
          | refine VWP_ret ?_
          | (refine hK _ ?_; clear hK)
          | (clear hK; refine hK _ ?_; clear hK)
          | (clear hK; clear hK; refine hK _ ?_; clear hK)
          | (clear hK; clear hK; clear hK; refine hK _ ?_; clear hK)
          | (simp only [wHb, reduceCtorEq] at hb <;> try (exfalso; omega))
          | refine wCd (fun hb => ?_) fun hb => ?_
          | simp only [go_sem, Nat.reduceLT, Nat.reduceLeDiff, Nat.reduceEqDiff, Nat.reduceAdd, Nat.reduceMul, Nat.reduceSub, reduceCtorEq, F]
          | refine wGd (fun hb => ?_) fun hb => ?_
        all_goals refine wLf ?_
        all_goals rfl
    ·
      have F := And.intro @Nat.le_refl (And.intro hz20 (And.intro @List.append_eq.{0} (And.intro @rowsH_len (And.intro @rowsD_len (And.intro @rowsB_len (And.intro @rowsF_len (And.intro @rowsE_len (And.intro @rowsH_pur (And.intro @rowsD_pur (And.intro @rowsF_pur (And.intro @rowsB_pur (And.intro hrd6 (And.intro hrd7 (And.intro t3 (And.intro t4 (And.intro t7 (And.intro v1 (And.intro v2 (And.intro v3 (And.intro v4 (And.intro v5 (And.intro v6 (And.intro v7 (And.intro hN2 (And.intro hN3 (And.intro hN4 (And.intro hN5 (And.intro hN6 (And.intro hN7 (And.intro hN8 (And.intro hpr (And.intro hbb (And.intro hbn (And.intro hbo (And.intro hbq (And.intro h10 (And.intro hb4 (And.intro g7 (And.intro u6 (And.intro u7 (And.intro hlen40 (And.intro e4 (And.intro e5 (And.intro g4 (And.intro u4 (And.intro g5 (And.intro u5 hL)))))))))))))))))))))))))))))))))))))))))))))))
      repeat' first
        | refine wSq fun _ hK => ?_
        | refine wRg ?_
        | refine wDr ?_
        | refine VWP_block ?_
        | refine VWP_skip ?_
        | refine VWP_exit ?_
        | refine VWP_ret ?_
        | (refine hK _ ?_; clear hK)
        | (clear hK; refine hK _ ?_; clear hK)
        | (clear hK; clear hK; refine hK _ ?_; clear hK)
        | (clear hK; clear hK; clear hK; refine hK _ ?_; clear hK)
        | (simp only [wHb, reduceCtorEq] at hb <;> try (exfalso; omega))
        | refine wCd (fun hb => ?_) fun hb => ?_
        | refine wCa (c := by first | exact hat4 | exact cT | exact cF1 | exact cF2 | exact cF3) (k := ?_)
        | simp only [go_sem, Nat.reduceLT, Nat.reduceLeDiff, Nat.reduceEqDiff, Nat.reduceAdd, Nat.reduceMul, Nat.reduceSub, reduceCtorEq, F]
        | refine wGd (fun hb => ?_) fun hb => ?_
      clear cT cF1 cF2 cF3 hat4 hrd6 hrd7 hN2 hN3 hN4 hN5 hN6 hN7 hN8 hpr v1 v2 v3 v4 v5 v6 t3 t4 t7
      refine VWP_loopN hE (X := Nat) (fun j => [(3, .bp 0 0), (15, .bp 3 0), (22, .bp 6 0), (25, .int .i64 j)])
        (fun j => [(0, .box [.rf 1 s0.heads.length, .rf 2 N1]), (1, .root 36 (rowsH s3.heads)), (2, .root 40 (rowsD 70 s3.descs)), (3, .box [.rf 4 s0.heads.length, .rf 5 N1]), (4, .root 36 (rowsH s7.heads)), (5, .root 40 (rowsD 70 s6.descs)), (6, .box [.rf 7 s0.heads.length, .rf 8 N1]), (7, .root 36 (rowsH s7.heads)), (8, .root 40 (rowsD 70 s7.descs))])
        (fun j => s0.heads.length - j) (fun j => j ≤ s0.heads.length) [0, 1, 2, 11, 14, 15, 19, 17, 18] 0 (Nat.zero_le _) (by decide) (by decide) (by simp [updV, renV, renA, renC]) (by simp [updH, renH_at, renE, renC, rowsH_pur, rowsD_pur]) ?_
      intro j hj
      try simp only
      rcases Nat.lt_or_ge j s0.heads.length with hjl | hjg
      · obtain ⟨h, hh⟩ : ∃ h, s7.heads[j]? = some h := ⟨_, List.getElem?_eq_getElem (by omega)⟩
        have hrh := rowsH_at hh
        have hj0 : (0 : Int) ≤ (j : Nat) := by omega
        have hj1 : (j : Int) < (s0.heads.length : Int) := by omega
        have hw := wrap_id (x := (j : Int) + 1) (by omega)
        have hj2 : j < s7.heads.length := by omega
        have F := And.intro @Nat.le_refl (And.intro @rowsH_len (And.intro @rowsD_len (And.intro hrh (And.intro hj0 (And.intro hj1 (And.intro hj2 (And.intro hjl (And.intro hw (And.intro hbb (And.intro hbn (And.intro g7 e4)))))))))))
        repeat' first
          | refine wSq fun _ hK => ?_
          | refine wRg ?_
          | refine wDr ?_
          | refine VWP_block ?_
          | refine VWP_skip ?_
          | refine VWP_exit ?_
          | refine VWP_ret ?_
          | (refine hK _ ?_; clear hK)
          | (clear hK; refine hK _ ?_; clear hK)
          | (clear hK; clear hK; refine hK _ ?_; clear hK)
          | (clear hK; clear hK; clear hK; refine hK _ ?_; clear hK)
          | (simp only [wHb, reduceCtorEq] at hb <;> try (exfalso; omega))
          | refine wCd (fun hb => ?_) fun hb => ?_
          | simp only [go_sem, Nat.reduceLT, Nat.reduceLeDiff, Nat.reduceEqDiff, Nat.reduceAdd, Nat.reduceMul, Nat.reduceSub, reduceCtorEq, F]
          | refine wGd (fun hb => ?_) fun hb => ?_
        all_goals refine nextN [] rfl [0, 1, 2, 3, 4, 5, 6, 7, 8] (j + 1) rfl (by decide) (by decide) hjl (by omega) (by simp [updV, tmL, renV, renA, renC]) (by simp [updH, hpL, renH_at, renE, renC, rowsH_pur, rowsD_pur])
      · have hn : ¬ (j : Int) < (s0.heads.length : Int) := by omega
        have F := And.intro @Nat.le_refl (And.intro @rowsH_len (And.intro @rowsD_len (And.intro hn e4)))
        repeat' first
          | refine wSq fun _ hK => ?_
          | refine wRg ?_
          | refine wDr ?_
          | refine VWP_block ?_
          | refine VWP_skip ?_
          | refine VWP_exit ?_
          | refine VWP_ret ?_
          | (refine hK _ ?_; clear hK)
          | (clear hK; refine hK _ ?_; clear hK)
          | (clear hK; clear hK; refine hK _ ?_; clear hK)
          | (clear hK; clear hK; clear hK; refine hK _ ?_; clear hK)
          | (simp only [wHb, reduceCtorEq] at hb <;> try (exfalso; omega))
          | refine wCd (fun hb => ?_) fun hb => ?_
          | simp only [go_sem, Nat.reduceLT, Nat.reduceLeDiff, Nat.reduceEqDiff, Nat.reduceAdd, Nat.reduceMul, Nat.reduceSub, reduceCtorEq, F]
          | refine wGd (fun hb => ?_) fun hb => ?_
        all_goals refine wLf ?_
        all_goals rfl
end Go.Proofs.Ytchkbgekmoileaa
