/- FnDriven: whoever drives a drawn store's descriptors. -/
import Derived.Test.YtljhhhlobkoocaaCC
import Derived.Test.YtljhhhlobkoocaaLK
namespace Go.Proofs.Ytljhhhlobkoocaa
open Go Go.RowKit
set_option linter.unusedVariables false
set_option linter.unusedSimpArgs false
set_option maxRecDepth 100000
set_option maxHeartbeats 4000000
attribute [local irreducible] VWP vops vdraw contV contD CallK Guard GuardV NextL Puts Runs RetOK RetQ RetO RetQO thenQ blockQ
attribute [local irreducible] NextN

structure DvnX where
  i : Nat
  s : StoreD
  f : FrameD
theorem lookL_zero {s : StoreD} (hS : StoreP s) {h : HeadD} (hh : s.heads[0]? = some h) : lookL s 0 = (h, true) := by
  unfold lookL
  have := hS.1
  rw [if_pos ⟨bP_true hS, by simp [inB]; omega⟩]
  simp [hh]
theorem drivenLaw_ok (bs : List Int) (hb : ByteP bs) (hl9 : bs.length ≤ 9223372036854775807) : SatP Try.prog 3 [.fr 5 (rowsY bs)] (.bool true) [] := by
  have hbig := big_ok bs
  rcases Nat.lt_or_ge 1048576 bs.length with hgt | hl
  · have h1 : decide ((1048576 : Int) < bs.length) = true := decide_eq_true (by omega)
    rw [h1] at hbig
    refine satP_of_body hT Try.func3 (by kernel_rfl) rfl (rs := [.tmp 2]) rfl (n := 172) rfl (by simp) rfl (by simp) fun E hE => ?_
    unfold St.init
    have F := (Eq.refl 0)
    repeat' first
      | refine wSq fun _ hK => ?_
      | refine wRg ?_
      | refine wDr ?_
      | refine VWP_block ?_
      | refine VWP_skip ?_
      | refine VWP_exit ?_
      | refine VWP_ret ?_
      | (refine hK _ ?_; clear hK)
      | (clear hK; refine hK _ ?_; clear hK)
      | (clear hK; clear hK; refine hK _ ?_; clear hK)
      | (clear hK; clear hK; clear hK; refine hK _ ?_; clear hK)
      | (simp only [wHb, reduceCtorEq] at hb <;> try (exfalso; omega))
      | refine wCd (fun hb => ?_) fun hb => ?_
      | refine wCa (c := by first | exact hbig) (k := ?_)
      | simp only [go_sem, Nat.reduceLT, Nat.reduceLeDiff, Nat.reduceEqDiff, Nat.reduceAdd, Nat.reduceMul, Nat.reduceSub, reduceCtorEq, F]
      | ((fail_if_success first | refine wNn ?_ | refine wNo ?_ | refine wNl ?_ | refine wNr ?_);  simp (disch := omega) only [decide_eq_true_eq, if_pos, if_neg, wrap_id, le_maxLen, and_true, true_and, if_true, ite_true])
      | refine wGd (fun hb => ?_) fun hb => ?_
    all_goals refine wLf ?_
    all_goals rfl
  have h1 : decide ((1048576 : Int) < bs.length) = false := decide_eq_false (by omega)
  rw [h1] at hbig
  clear h1
  have hdr := drawStore_ok bs hl
  obtain ⟨nv, n2, n5, hD⟩ := storeF_ok (b := belowF bs) (fun c n hn => belowF_range bs c n hn) (newCur bs)
  replace hD : DrawnP nv 4 (drawS bs) := hD
  obtain ⟨s0, hs0⟩ : ∃ s, drawS bs = s := ⟨_, rfl⟩
  rw [hs0] at hdr hD
  have hsm := drawn_small hD
  have hok := implStoreOk_ok s0 hsm
  rw [bP_true hD.st] at hok
  have hat := at_ok bs 3 hl hb (by decide)
  obtain ⟨at0, at1⟩ := atF_ok hb 3
  have hdl := hD.dl
  unfold StoreD.cells at hok
  rcases Nat.eq_zero_or_pos s0.descs.length with hz | hz
  · have hz2 : ((s0.descs.length : Int) == 0) = true := by rw [beq_iff_eq]; omega
    refine satP_of_body hT Try.func3 (by kernel_rfl) rfl (rs := [.tmp 2]) rfl (n := 172) rfl (by simp) rfl (by simp) fun E hE => ?_
    unfold St.init
    have F := And.intro @rowsH_len (And.intro @rowsD_len (And.intro @rowsH_pur (And.intro @rowsD_pur (And.intro @rowsH_take (And.intro @rowsD_take hz2)))))
    repeat' first
      | refine wSq fun _ hK => ?_
      | refine wRg ?_
      | refine wDr ?_
      | refine VWP_block ?_
      | refine VWP_skip ?_
      | refine VWP_exit ?_
      | refine VWP_ret ?_
      | (refine hK _ ?_; clear hK)
      | (clear hK; refine hK _ ?_; clear hK)
      | (clear hK; clear hK; refine hK _ ?_; clear hK)
      | (clear hK; clear hK; clear hK; refine hK _ ?_; clear hK)
      | (simp only [wHb, reduceCtorEq] at hb <;> try (exfalso; omega))
      | refine wCd (fun hb => ?_) fun hb => ?_
      | refine wCa (c := by first | exact hbig | exact hdr | exact hok) (k := ?_)
      | simp only [go_sem, Nat.reduceLT, Nat.reduceLeDiff, Nat.reduceEqDiff, Nat.reduceAdd, Nat.reduceMul, Nat.reduceSub, reduceCtorEq, F]
      | ((fail_if_success first | refine wNn ?_ | refine wNo ?_ | refine wNl ?_ | refine wNr ?_);  simp (disch := omega) only [decide_eq_true_eq, if_pos, if_neg, wrap_id, le_maxLen, and_true, true_and, if_true, ite_true])
      | refine wGd (fun hb => ?_) fun hb => ?_
    all_goals refine wLf ?_
    all_goals rfl
  have hz2 : ((s0.descs.length : Int) == 0) = false := by rw [beq_eq_false_iff_ne]; omega
  have hz3 : ¬ (s0.descs.length : Int) = 0 := by omega
  have hz4 : ¬ s0.descs.length = 0 := by omega
  refine satP_of_body hT Try.func3 (by kernel_rfl) rfl (rs := [.tmp 2]) rfl (n := 172) rfl (by simp) rfl (by simp) fun E hE => ?_
  unfold St.init
  have F := And.intro @rowsH_len (And.intro @rowsD_len (And.intro @rowsH_pur (And.intro @rowsD_pur (And.intro @rowsH_take (And.intro @rowsD_take (And.intro hz2 (And.intro hz3 hz4)))))))
  repeat' first
    | refine wSq fun _ hK => ?_
    | refine wRg ?_
    | refine wDr ?_
    | refine VWP_block ?_
    | refine VWP_skip ?_
    | refine VWP_exit ?_
    | refine VWP_ret ?_
    | (refine hK _ ?_; clear hK)
    | (clear hK; refine hK _ ?_; clear hK)
    | (clear hK; clear hK; refine hK _ ?_; clear hK)
    | (clear hK; clear hK; clear hK; refine hK _ ?_; clear hK)
    | (simp only [wHb, reduceCtorEq] at hb <;> try (exfalso; omega))
    | refine wCd (fun hb => ?_) fun hb => ?_
    | refine wCa (c := by first | exact hbig | exact hdr | exact hok | exact hat) (k := ?_)
    | simp only [go_sem, Nat.reduceLT, Nat.reduceLeDiff, Nat.reduceEqDiff, Nat.reduceAdd, Nat.reduceMul, Nat.reduceSub, reduceCtorEq, F]
    | ((fail_if_success first | refine wNn ?_ | refine wNo ?_ | refine wNl ?_ | refine wNr ?_);  simp (disch := omega) only [decide_eq_true_eq, if_pos, if_neg, wrap_id, le_maxLen, and_true, true_and, if_true, ite_true])
    | refine wGd (fun hb => ?_) fun hb => ?_
  obtain ⟨k0, hk0⟩ : ∃ k : Nat, (atF bs 3).tmod s0.descs.length = k := ⟨((atF bs 3).tmod s0.descs.length).toNat, by
    have := Int.tmod_nonneg (a := atF bs 3) s0.descs.length at0
    omega⟩
  have hkl : k0 < s0.descs.length := by
    have := Int.tmod_lt_of_pos (atF bs 3) (b := s0.descs.length) (by omega)
    omega
  obtain ⟨d0, hd0⟩ : ∃ d, s0.descs[k0]? = some d := ⟨_, List.getElem?_eq_getElem hkl⟩
  have hf0 : frmB s0 ⟨(k0 : Nat), 0, 0⟩ = true := frm_zero hd0 (by omega) (by omega) (hD.st.2.2.2.1 d0 (List.mem_of_getElem? hd0)).1.2.2.2.2.1
  have hS0 := hD.st
  clear hdr hok hat hbig hz2 hz3 hz4
  refine VWP_loopN hE (X := DvnX) (fun x => [(0, .fr 5 (rowsY bs)), (3, .bp 0 0), (4, .bp 3 0), (5, .int .i64 x.i)])
    (fun x => [(0, .box [.rf 1 x.s.heads.length, .rf 2 x.s.descs.length]), (1, .root 40 (rowsH x.s.heads)), (2, .root 38 (rowsD 76 x.s.descs)), (3, .box x.f.cells)])
    (fun x => 40 - x.i) (fun x => x.i ≤ 40 ∧ StoreP x.s ∧ frmB x.s x.f = true) [2, 0, 1, 451] ⟨0, s0, ⟨(k0 : Nat), 0, 0⟩⟩
    ⟨Nat.zero_le _, hS0, hf0⟩ (by decide) (by decide) (by simp [updV, renV, renA, renC]) (by simp [updH, renH_at, renE, renC, rowsH_pur, rowsD_pur, FrameD.cells, hk0]) ?_
  clear hs0 hD hdl at0 at1 hk0 hd0 hf0 hS0 hkl hz
  rintro ⟨i, s, f⟩ ⟨hi, hS, hf⟩
  simp only at hi hS hf
  have hsm := storeP_small hS
  unfold FrameD.cells
  simp only
  -- what is looked at last
  have hbs : ∀ x : Int, (x == x) = true := fun x => beq_self_eq_true x
  obtain ⟨hh, hhh⟩ : ∃ h, s.heads[0]? = some h := ⟨_, List.getElem?_eq_getElem hS.1⟩
  rcases Nat.lt_or_ge i 40 with hlt | hge
  · have hi1 : (i : Int) < 40 := by omega
    have hst := dstep hS hf
    have hDP : DriveP s f (driveF s f) := by
      obtain ⟨k, d, j, e, o, h, ha⟩ := at_ex hS hf
      have hv := head_desc hS ha.ho
      exact .inr ⟨by unfold frameB; rw [bP_true hS, hf]; rfl, k, d, j, e, o, h, ha, hv.2.1, hv.2.2.1, (driveF_at ha).symm⟩
    have hdrv := implDrive_ok s f _ hDP hsm
    obtain ⟨r, hr⟩ : ∃ r, driveF s f = r := ⟨_, rfl⟩
    rw [hr] at hst hDP hdrv
    have hsm2 := storeP_small hst.st
    have hok := implStoreOk_ok r.1 hsm2
    rw [bP_true hst.st] at hok
    have hfo := implFrameOk_ok r.1 r.2.1 hsm2
    have hfb : frameB r.1 r.2.1 = true := by unfold frameB; rw [bP_true hst.st, hst.fr]; rfl
    rw [hfb] at hfo
    have e1 := hst.hl
    have e2 := hst.dl
    have hq1 : ((r.1.heads.length : Int) != s.heads.length) = false := by simp; omega
    have hq2 : ((r.1.descs.length : Int) != s.descs.length) = false := by simp; omega
    clear hDP
    unfold StoreD.cells at hdrv hok hfo
    unfold FrameD.cells at hdrv hfo
    have F := And.intro @rowsH_len (And.intro @rowsD_len (And.intro @rowsH_pur (And.intro @rowsD_pur (And.intro @rowsH_take (And.intro @rowsD_take (And.intro hi1 (And.intro hq1 hq2)))))))
    repeat' first
      | refine wSq fun _ hK => ?_
      | refine wRg ?_
      | refine wDr ?_
      | refine VWP_block ?_
      | refine VWP_skip ?_
      | refine VWP_exit ?_
      | refine VWP_ret ?_
      | (refine hK _ ?_; clear hK)
      | (clear hK; refine hK _ ?_; clear hK)
      | (clear hK; clear hK; refine hK _ ?_; clear hK)
      | (clear hK; clear hK; clear hK; refine hK _ ?_; clear hK)
      | (simp only [wHb, reduceCtorEq] at hb <;> try (exfalso; omega))
      | refine wCd (fun hb => ?_) fun hb => ?_
      | refine wCa (c := by first | exact hdrv | exact hok | exact hfo) (k := ?_)
      | simp only [go_sem, Nat.reduceLT, Nat.reduceLeDiff, Nat.reduceEqDiff, Nat.reduceAdd, Nat.reduceMul, Nat.reduceSub, reduceCtorEq, F]
      | ((fail_if_success first | refine wNn ?_ | refine wNo ?_ | refine wNl ?_ | refine wNr ?_);  simp (disch := omega) only [decide_eq_true_eq, if_pos, if_neg, wrap_id, le_maxLen, and_true, true_and, if_true, ite_true])
      | refine wGd (fun hb => ?_) fun hb => ?_
    clear hdrv hok hfo hfb hq1 hq2
    refine VWP_loopN hE (X := Nat) (fun j => [(0, .fr 5 (rowsY bs)), (3, .bp 0 0), (4, .bp 3 0), (5, .int .i64 i), (6, .bp 4 0), (7, .bp 7 0), (8, .int .i64 r.2.2), (9, .int .i64 j)])
      (fun j => [(0, .box [.rf 1 s.heads.length, .rf 2 s.descs.length]), (1, .root 40 (rowsH s.heads)), (2, .root 38 (rowsD 76 s.descs)), (3, .box [.int .i64 f.desc, .int .i64 f.phase, .int .i64 f.place]), (4, .box [.rf 5 r.1.heads.length, .rf 6 r.1.descs.length]), (5, .root 40 (rowsH r.1.heads)), (6, .root 38 (rowsD 76 r.1.descs)), (7, .box [.int .i64 r.2.1.desc, .int .i64 r.2.1.phase, .int .i64 r.2.1.place])])
      (fun j => s.descs.length - j) (fun j => j ≤ s.descs.length) [0, 1, 2, 3, 6, 4, 5, 7] 0 (Nat.zero_le _) (by decide) (by decide) (by simp [updV, renV, renA, renC, tmL]) (by simp [updH, hpL, renH_at, renE, renC, rowsH_pur, rowsD_pur]) ?_
    intro j hj
    try simp only
    rcases Nat.lt_or_ge j s.descs.length with hjl | hjg
    · obtain ⟨d, hd⟩ : ∃ d, s.descs[j]? = some d := ⟨_, List.getElem?_eq_getElem hjl⟩
      obtain ⟨st, hd2, hst1, hst2⟩ := hst.ds j d hd
      have hrd := rowsD_at (te := 76) hd
      have hrd2 := rowsD_at (te := 76) hd2
      simp only at hrd2
      have hj0 : (0 : Int) ≤ (j : Nat) := by omega
      have hj1 : (j : Int) < (s.descs.length : Int) := by omega
      have hj2 : (j : Int) < (r.1.descs.length : Int) := by omega
      have hj3 : j < r.1.descs.length := by omega
      have hw := wrap_id (x := (j : Int) + 1) (by have := hS.2.2.1; omega)
      by_cases hc : st = d.status
      · have hq : (st != d.status) = false := by rw [bne_eq_false_iff_eq]; exact hc
        clear hst hst1 hst2
        have F := And.intro @rowsH_len (And.intro @rowsD_len (And.intro @rowsH_pur (And.intro @rowsD_pur (And.intro hrd (And.intro hrd2 (And.intro hj0 (And.intro hj1 (And.intro hj2 (And.intro hj3 (And.intro hjl (And.intro hq hw)))))))))))
        repeat' first
          | refine wSq fun _ hK => ?_
          | refine wRg ?_
          | refine wDr ?_
          | refine VWP_block ?_
          | refine VWP_skip ?_
          | refine VWP_exit ?_
          | refine VWP_ret ?_
          | (refine hK _ ?_; clear hK)
          | (clear hK; refine hK _ ?_; clear hK)
          | (clear hK; clear hK; refine hK _ ?_; clear hK)
          | (clear hK; clear hK; clear hK; refine hK _ ?_; clear hK)
          | (simp only [wHb, reduceCtorEq] at hb <;> try (exfalso; omega))
          | refine wCd (fun hb => ?_) fun hb => ?_
          | simp only [go_sem, Nat.reduceLT, Nat.reduceLeDiff, Nat.reduceEqDiff, Nat.reduceAdd, Nat.reduceMul, Nat.reduceSub, reduceCtorEq, F]
          | ((fail_if_success first | refine wNn ?_ | refine wNo ?_ | refine wNl ?_ | refine wNr ?_);  simp (disch := omega) only [decide_eq_true_eq, if_pos, if_neg, wrap_id, le_maxLen, and_true, true_and, if_true, ite_true])
          | refine wGd (fun hb => ?_) fun hb => ?_
        all_goals refine nextN [] rfl [0, 1, 2, 3, 4, 5, 6, 7] (j + 1) rfl (by decide) (by decide) hjl (by omega) (by simp [updV, tmL, renV, renA, renC, hw]) (by simp [updH, hpL, renH_at, renE, renC, rowsH_pur, rowsD_pur])
      · have hq : (st != d.status) = true := by rw [bne_iff_ne]; exact hc
        have hz : d.status = 0 := by
          rcases Int.decEq d.status 0 with h | h
          · exact absurd (hst2 h) hc
          · exact h
        have hz1 : (d.status != 0) = false := by rw [bne_eq_false_iff_eq]; exact hz
        have hz2 : ((j : Int) != f.desc) = false := by
          rw [bne_eq_false_iff_eq]
          rcases Int.decEq j f.desc with h | h
          · exact absurd (hst1 h) hc
          · exact h
        clear hst hst1 hst2
        have F := And.intro @rowsH_len (And.intro @rowsD_len (And.intro @rowsH_pur (And.intro @rowsD_pur (And.intro hrd (And.intro hrd2 (And.intro hj0 (And.intro hj1 (And.intro hj2 (And.intro hj3 (And.intro hjl (And.intro hq (And.intro hw (And.intro hz1 hz2)))))))))))))
        repeat' first
          | refine wSq fun _ hK => ?_
          | refine wRg ?_
          | refine wDr ?_
          | refine VWP_block ?_
          | refine VWP_skip ?_
          | refine VWP_exit ?_
          | refine VWP_ret ?_
          | (refine hK _ ?_; clear hK)
          | (clear hK; refine hK _ ?_; clear hK)
          | (clear hK; clear hK; refine hK _ ?_; clear hK)
          | (clear hK; clear hK; clear hK; refine hK _ ?_; clear hK)
          | (simp only [wHb, reduceCtorEq] at hb <;> try (exfalso; omega))
          | refine wCd (fun hb => ?_) fun hb => ?_
          | simp only [go_sem, Nat.reduceLT, Nat.reduceLeDiff, Nat.reduceEqDiff, Nat.reduceAdd, Nat.reduceMul, Nat.reduceSub, reduceCtorEq, F]
          | ((fail_if_success first | refine wNn ?_ | refine wNo ?_ | refine wNl ?_ | refine wNr ?_);  simp (disch := omega) only [decide_eq_true_eq, if_pos, if_neg, wrap_id, le_maxLen, and_true, true_and, if_true, ite_true])
          | refine wGd (fun hb => ?_) fun hb => ?_
        all_goals refine nextN [] rfl [0, 1, 2, 3, 4, 5, 6, 7] (j + 1) rfl (by decide) (by decide) hjl (by omega) (by simp [updV, tmL, renV, renA, renC, hw]) (by simp [updH, hpL, renH_at, renE, renC, rowsH_pur, rowsD_pur])
    · have hn : ¬ (j : Int) < (s.descs.length : Int) := by omega
      have F := And.intro @rowsH_len (And.intro @rowsD_len hn)
      repeat' first
        | refine wSq fun _ hK => ?_
        | refine wRg ?_
        | refine wDr ?_
        | refine VWP_block ?_
        | refine VWP_skip ?_
        | refine VWP_exit ?_
        | refine VWP_ret ?_
        | (refine hK _ ?_; clear hK)
        | (clear hK; refine hK _ ?_; clear hK)
        | (clear hK; clear hK; refine hK _ ?_; clear hK)
        | (clear hK; clear hK; clear hK; refine hK _ ?_; clear hK)
        | (simp only [wHb, reduceCtorEq] at hb <;> try (exfalso; omega))
        | refine wCd (fun hb => ?_) fun hb => ?_
        | simp only [go_sem, Nat.reduceLT, Nat.reduceLeDiff, Nat.reduceEqDiff, Nat.reduceAdd, Nat.reduceMul, Nat.reduceSub, reduceCtorEq, F]
        | ((fail_if_success first | refine wNn ?_ | refine wNo ?_ | refine wNl ?_ | refine wNr ?_);  simp (disch := omega) only [decide_eq_true_eq, if_pos, if_neg, wrap_id, le_maxLen, and_true, true_and, if_true, ite_true])
        | refine wGd (fun hb => ?_) fun hb => ?_
      refine VWP_loopN hE (X := Nat) (fun j => [(0, .fr 5 (rowsY bs)), (3, .bp 0 0), (4, .bp 3 0), (5, .int .i64 i), (6, .bp 4 0), (7, .bp 7 0), (8, .int .i64 r.2.2), (10, .int .i64 j)])
        (fun j => [(0, .box [.rf 1 s.heads.length, .rf 2 s.descs.length]), (1, .root 40 (rowsH s.heads)), (2, .root 38 (rowsD 76 s.descs)), (3, .box [.int .i64 f.desc, .int .i64 f.phase, .int .i64 f.place]), (4, .box [.rf 5 r.1.heads.length, .rf 6 r.1.descs.length]), (5, .root 40 (rowsH r.1.heads)), (6, .root 38 (rowsD 76 r.1.descs)), (7, .box [.int .i64 r.2.1.desc, .int .i64 r.2.1.phase, .int .i64 r.2.1.place])])
        (fun j => s.heads.length - j) (fun j => j ≤ s.heads.length) [0, 1, 2, 3, 4, 5, 6, 7] 0 (Nat.zero_le _) (by decide) (by decide) (by simp [updV, renV, renA, renC, tmL]) (by simp [updH, hpL, renH_at, renE, renC, rowsH_pur, rowsD_pur]) ?_
      clear hn hjg hj
      intro j hj
      try simp only
      rcases Nat.lt_or_ge j s.heads.length with hjl | hjg
      · obtain ⟨h, hh1⟩ : ∃ h, s.heads[j]? = some h := ⟨_, List.getElem?_eq_getElem hjl⟩
        obtain ⟨h', hh2, hcas⟩ := hst.hd j h hh1
        have hrh := rowsH_at hh1
        have hrh2 := rowsH_at hh2
        have hj0 : (0 : Int) ≤ (j : Nat) := by omega
        have hj1 : (j : Int) < (s.heads.length : Int) := by omega
        have hj2 : (j : Int) < (r.1.heads.length : Int) := by omega
        have hj3 : j < r.1.heads.length := by omega
        have hw := wrap_id (x := (j : Int) + 1) (by have := hS.2.1; omega)
        by_cases hc : h'.value = h.value
        · have hq : (h'.value != h.value) = false := by rw [bne_eq_false_iff_eq]; exact hc
          clear hst hcas
          have F := And.intro @rowsH_len (And.intro @rowsD_len (And.intro @rowsH_pur (And.intro @rowsD_pur (And.intro hrh (And.intro hrh2 (And.intro hj0 (And.intro hj1 (And.intro hj2 (And.intro hj3 (And.intro hjl (And.intro hq hw)))))))))))
          repeat' first
            | refine wSq fun _ hK => ?_
            | refine wRg ?_
            | refine wDr ?_
            | refine VWP_block ?_
            | refine VWP_skip ?_
            | refine VWP_exit ?_
            | refine VWP_ret ?_
            | (refine hK _ ?_; clear hK)
            | (clear hK; refine hK _ ?_; clear hK)
            | (clear hK; clear hK; refine hK _ ?_; clear hK)
            | (clear hK; clear hK; clear hK; refine hK _ ?_; clear hK)
            | (simp only [wHb, reduceCtorEq] at hb <;> try (exfalso; omega))
            | refine wCd (fun hb => ?_) fun hb => ?_
            | simp only [go_sem, Nat.reduceLT, Nat.reduceLeDiff, Nat.reduceEqDiff, Nat.reduceAdd, Nat.reduceMul, Nat.reduceSub, reduceCtorEq, F]
            | ((fail_if_success first | refine wNn ?_ | refine wNo ?_ | refine wNl ?_ | refine wNr ?_);  simp (disch := omega) only [decide_eq_true_eq, if_pos, if_neg, wrap_id, le_maxLen, and_true, true_and, if_true, ite_true])
            | refine wGd (fun hb => ?_) fun hb => ?_
          all_goals refine nextN [] rfl [0, 1, 2, 3, 4, 5, 6, 7] (j + 1) rfl (by decide) (by decide) hjl (by omega) (by simp [updV, tmL, renV, renA, renC, hw]) (by simp [updH, hpL, renH_at, renE, renC, rowsH_pur, rowsD_pur])
        · have hq : (h'.value != h.value) = true := by rw [bne_iff_ne]; exact hc
          obtain ⟨k, d, hk, hd, hs1, hhd⟩ : ∃ (k : Nat) (d : DescS), f.desc = k ∧ s.descs[k]? = some d ∧ d.status = 1 ∧ h.desc = f.desc := by
            rcases hcas with c | ⟨_, c⟩ | ⟨c1, _, _, c2 | ⟨k, d, e, c2, c3, c4, _⟩⟩
            · exact absurd (by rw [c]) hc
            · exact absurd (by rw [c]) hc
            · exact absurd c2.1 hc
            · exact ⟨k, d, c2, c3, c4, c1⟩
          have hrd := rowsD_at (te := 76) hd
          have hkl := (List.getElem?_eq_some_iff.1 hd).1
          have hk0 : (0 : Int) ≤ (k : Nat) := by omega
          have hk1 : (k : Int) < (s.descs.length : Int) := by omega
          have hz1 : (d.status != 1) = false := by rw [bne_eq_false_iff_eq]; exact hs1
          have hz2 : (h.desc != (k : Int)) = false := by rw [bne_eq_false_iff_eq]; omega
          clear hst hcas
          have F := And.intro @rowsH_len (And.intro @rowsD_len (And.intro @rowsH_pur (And.intro @rowsD_pur (And.intro hrh (And.intro hrh2 (And.intro hj0 (And.intro hj1 (And.intro hj2 (And.intro hj3 (And.intro hjl (And.intro hq (And.intro hw (And.intro hk (And.intro hrd (And.intro hkl (And.intro hk0 (And.intro hk1 (And.intro hz1 hz2))))))))))))))))))
          repeat' first
            | refine wSq fun _ hK => ?_
            | refine wRg ?_
            | refine wDr ?_
            | refine VWP_block ?_
            | refine VWP_skip ?_
            | refine VWP_exit ?_
            | refine VWP_ret ?_
            | (refine hK _ ?_; clear hK)
            | (clear hK; refine hK _ ?_; clear hK)
            | (clear hK; clear hK; refine hK _ ?_; clear hK)
            | (clear hK; clear hK; clear hK; refine hK _ ?_; clear hK)
            | (simp only [wHb, reduceCtorEq] at hb <;> try (exfalso; omega))
            | refine wCd (fun hb => ?_) fun hb => ?_
            | simp only [go_sem, Nat.reduceLT, Nat.reduceLeDiff, Nat.reduceEqDiff, Nat.reduceAdd, Nat.reduceMul, Nat.reduceSub, reduceCtorEq, F]
            | ((fail_if_success first | refine wNn ?_ | refine wNo ?_ | refine wNl ?_ | refine wNr ?_);  simp (disch := omega) only [decide_eq_true_eq, if_pos, if_neg, wrap_id, le_maxLen, and_true, true_and, if_true, ite_true])
            | refine wGd (fun hb => ?_) fun hb => ?_
          all_goals refine nextN [] rfl [0, 1, 2, 3, 4, 5, 6, 7] (j + 1) rfl (by decide) (by decide) hjl (by omega) (by simp [updV, tmL, renV, renA, renC, hw]) (by simp [updH, hpL, renH_at, renE, renC, rowsH_pur, rowsD_pur, hk])
      · have hn : ¬ (j : Int) < (s.heads.length : Int) := by omega
        have hw := wrap_id (x := (i : Int) + 1) (by omega)
        rcases hst.met with hm | ⟨hm, hs1, hf1, _, hml, _, _⟩
        · have hneg : ¬ (0 : Int) ≤ r.2.2 := by omega
          by_cases h5 : r.2.1.phase = 5
          · have h5b : (r.2.1.phase == 5) = true := by rw [beq_iff_eq]; exact h5
            obtain ⟨hh2, hhh2⟩ : ∃ h, r.1.heads[0]? = some h := ⟨_, List.getElem?_eq_getElem hst.st.1⟩
            have hlk := implLook_ok r.1 0 (hh2, true) (lookL_zero hst.st hhh2) hsm2
            have hrz := rowsH_at hhh2
            have hp0 : 0 < r.1.heads.length := hst.st.1
            have hp1 : (0 : Int) < (r.1.heads.length : Int) := by omega
            unfold StoreD.cells HeadD.cells at hlk
            clear hst
            have F := And.intro @rowsH_len (And.intro @rowsD_len (And.intro @rowsH_pur (And.intro @rowsD_pur (And.intro @rowsH_take (And.intro @rowsD_take (And.intro hn (And.intro hneg (And.intro h5b (And.intro hrz (And.intro hp0 (And.intro hp1 hbs)))))))))))
            repeat' first
              | refine wSq fun _ hK => ?_
              | refine wRg ?_
              | refine wDr ?_
              | refine VWP_block ?_
              | refine VWP_skip ?_
              | refine VWP_exit ?_
              | refine VWP_ret ?_
              | (refine hK _ ?_; clear hK)
              | (clear hK; refine hK _ ?_; clear hK)
              | (clear hK; clear hK; refine hK _ ?_; clear hK)
              | (clear hK; clear hK; clear hK; refine hK _ ?_; clear hK)
              | (simp only [wHb, reduceCtorEq] at hb <;> try (exfalso; omega))
              | refine wCdx (fun hb => ?_) fun hb => ?_
              | refine wCax (c := by first | exact hlk) (k := ?_)
              | simp only [go_sem, Nat.reduceLT, Nat.reduceLeDiff, Nat.reduceEqDiff, Nat.reduceAdd, Nat.reduceMul, Nat.reduceSub, reduceCtorEq, Int.reduceBEq, Int.reduceBNe, Int.reduceLT, Int.reduceLE, Int.reduceAdd, Int.reduceToNat, F]
              | ((fail_if_success first | refine wNn ?_ | refine wNo ?_ | refine wNl ?_ | refine wNr ?_);  simp (disch := omega) only [decide_eq_true_eq, if_pos, if_neg, wrap_id, le_maxLen, and_true, true_and, if_true, ite_true])
              | refine wGdx (fun hb => ?_) fun hb => ?_
            all_goals refine wLf ?_
            all_goals simp
          · have h5b : (r.2.1.phase == 5) = false := by rw [beq_eq_false_iff_ne]; exact h5
            have hJ : i + 1 ≤ 40 ∧ StoreP r.1 ∧ frmB r.1 r.2.1 = true := ⟨hlt, hst.st, hst.fr⟩
            clear hst
            have F := And.intro @rowsH_len (And.intro @rowsD_len (And.intro hn (And.intro hneg (And.intro h5b hw))))
            repeat' first
              | refine wSq fun _ hK => ?_
              | refine wRg ?_
              | refine wDr ?_
              | refine VWP_block ?_
              | refine VWP_skip ?_
              | refine VWP_exit ?_
              | refine VWP_ret ?_
              | (refine hK _ ?_; clear hK)
              | (clear hK; refine hK _ ?_; clear hK)
              | (clear hK; clear hK; refine hK _ ?_; clear hK)
              | (clear hK; clear hK; clear hK; refine hK _ ?_; clear hK)
              | (simp only [wHb, reduceCtorEq] at hb <;> try (exfalso; omega))
              | refine wCd (fun hb => ?_) fun hb => ?_
              | simp only [go_sem, Nat.reduceLT, Nat.reduceLeDiff, Nat.reduceEqDiff, Nat.reduceAdd, Nat.reduceMul, Nat.reduceSub, reduceCtorEq, F]
              | ((fail_if_success first | refine wNn ?_ | refine wNo ?_ | refine wNl ?_ | refine wNr ?_);  simp (disch := omega) only [decide_eq_true_eq, if_pos, if_neg, wrap_id, le_maxLen, and_true, true_and, if_true, ite_true])
              | refine wGd (fun hb => ?_) fun hb => ?_
            all_goals refine nextN [] rfl [0, 5, 6, 3] ⟨i + 1, r.1, r.2.1⟩ rfl (by decide) (by decide) hJ (by simp only; omega) (by simp [updV, tmL, renV, renA, renC, hw]) (by simp [updH, hpL, renH_at, renE, renC, rowsH_pur, rowsD_pur])
        · have hJ : i + 1 ≤ 40 ∧ StoreP r.1 ∧ frmB r.1 ⟨r.2.2, 0, 0⟩ = true := by
            refine ⟨hlt, hst.st, ?_⟩
            obtain ⟨k, hk⟩ : ∃ k : Nat, r.2.2 = k := ⟨r.2.2.toNat, by omega⟩
            obtain ⟨d, hd⟩ : ∃ d, r.1.descs[k]? = some d := ⟨_, List.getElem?_eq_getElem (by omega)⟩
            rw [hk]
            exact frm_zero hd (by omega) (by omega) (hst.st.2.2.2.1 d (List.mem_of_getElem? hd)).1.2.2.2.2.1
          clear hst
          have F := And.intro @rowsH_len (And.intro @rowsD_len (And.intro hn (And.intro hm hw)))
          repeat' first
            | refine wSq fun _ hK => ?_
            | refine wRg ?_
            | refine wDr ?_
            | refine VWP_block ?_
            | refine VWP_skip ?_
            | refine VWP_exit ?_
            | refine VWP_ret ?_
            | (refine hK _ ?_; clear hK)
            | (clear hK; refine hK _ ?_; clear hK)
            | (clear hK; clear hK; refine hK _ ?_; clear hK)
            | (clear hK; clear hK; clear hK; refine hK _ ?_; clear hK)
            | (simp only [wHb, reduceCtorEq] at hb <;> try (exfalso; omega))
            | refine wCdx (fun hb => ?_) fun hb => ?_
            | simp only [go_sem, Nat.reduceLT, Nat.reduceLeDiff, Nat.reduceEqDiff, Nat.reduceAdd, Nat.reduceMul, Nat.reduceSub, reduceCtorEq, Int.reduceBEq, Int.reduceBNe, Int.reduceLT, Int.reduceLE, Int.reduceAdd, Int.reduceToNat, F]
            | ((fail_if_success first | refine wNn ?_ | refine wNo ?_ | refine wNl ?_ | refine wNr ?_);  simp (disch := omega) only [decide_eq_true_eq, if_pos, if_neg, wrap_id, le_maxLen, and_true, true_and, if_true, ite_true])
            | refine wGdx (fun hb => ?_) fun hb => ?_
          all_goals refine nextN [] rfl [0, 5, 6, 3] ⟨i + 1, r.1, ⟨r.2.2, 0, 0⟩⟩ rfl (by decide) (by decide) hJ (by simp only; omega) (by simp [updV, tmL, renV, renA, renC, hw]) (by simp [updH, hpL, renH_at, renE, renC, rowsH_pur, rowsD_pur])
  · have hn : ¬ (i : Int) < 40 := by omega
    have hlk := implLook_ok s 0 (hh, true) (lookL_zero hS hhh) hsm
    have hrz := rowsH_at hhh
    have hp0 : 0 < s.heads.length := hS.1
    have hp1 : (0 : Int) < (s.heads.length : Int) := by omega
    unfold StoreD.cells HeadD.cells at hlk
    have F := And.intro @rowsH_len (And.intro @rowsD_len (And.intro @rowsH_pur (And.intro @rowsD_pur (And.intro @rowsH_take (And.intro @rowsD_take (And.intro hn (And.intro hrz (And.intro hp0 (And.intro hp1 hbs)))))))))
    repeat' first
      | refine wSq fun _ hK => ?_
      | refine wRg ?_
      | refine wDr ?_
      | refine VWP_block ?_
      | refine VWP_skip ?_
      | refine VWP_exit ?_
      | refine VWP_ret ?_
      | (refine hK _ ?_; clear hK)
      | (clear hK; refine hK _ ?_; clear hK)
      | (clear hK; clear hK; refine hK _ ?_; clear hK)
      | (clear hK; clear hK; clear hK; refine hK _ ?_; clear hK)
      | (simp only [wHb, reduceCtorEq] at hb <;> try (exfalso; omega))
      | refine wCdx (fun hb => ?_) fun hb => ?_
      | refine wCax (c := by first | exact hlk) (k := ?_)
      | simp only [go_sem, Nat.reduceLT, Nat.reduceLeDiff, Nat.reduceEqDiff, Nat.reduceAdd, Nat.reduceMul, Nat.reduceSub, reduceCtorEq, Int.reduceBEq, Int.reduceBNe, Int.reduceLT, Int.reduceLE, Int.reduceAdd, Int.reduceToNat, F]
      | ((fail_if_success first | refine wNn ?_ | refine wNo ?_ | refine wNl ?_ | refine wNr ?_);  simp (disch := omega) only [decide_eq_true_eq, if_pos, if_neg, wrap_id, le_maxLen, and_true, true_and, if_true, ite_true])
      | refine wGdx (fun hb => ?_) fun hb => ?_
    all_goals refine wLf ?_
    all_goals simp
end Go.Proofs.Ytljhhhlobkoocaa
