/- The law on values: both Drive give the same. -/
import Derived.Test.YtclljpdcpcolpaaLK
namespace Go.Proofs.Ytclljpdcpcolpaa
open Go Go.RowKit
set_option linter.unusedVariables false
set_option linter.unusedSimpArgs false
set_option maxRecDepth 100000
set_option maxHeartbeats 4000000
attribute [local irreducible] VWP vops vdraw contV contD CallK Guard GuardV NextL Puts Runs RetOK RetQ RetO RetQO thenQ blockQ

theorem drive_ex (s : StoreD) (f : FrameD) : ∃ r, DriveP s f r := by
  cases hp : frameB s f with
  | false => exact ⟨_, .inl ⟨hp, rfl⟩⟩
  | true =>
    have hp0 := hp
    unfold frameB at hp
    simp only [Bool.and_eq_true] at hp
    have hS := bP_iff.1 hp.1
    obtain ⟨k, d, j, e, o, h, ha⟩ := at_ex hS hp.2
    have hb := hS.2.2.2.2 o h ha.ho
    unfold headB at hb
    simp only [Bool.and_eq_true] at hb
    have hv := hb.1.1.2
    simp [inB] at hv
    exact ⟨_, .inr ⟨hp0, k, d, j, e, o, h, ha, by omega, by omega, rfl⟩⟩
theorem entsN_set {ds : List DescS} {k : Nat} {d d' : DescS} (h : ds[k]? = some d) (he : d'.entries = d.entries) : entsN (ds.set k d') = entsN ds := by
  induction ds generalizing k with
  | nil => rfl
  | cons a ds ih =>
    cases k with
    | zero =>
      simp at h
      subst h
      simp [entsN, he]
    | succ k =>
      simp only [List.set_cons_succ, entsN]
      rw [ih (by simpa using h)]
theorem driveM_tiny {s : StoreD} {f : FrameD} {r : StoreD × FrameD × Int} (h : DriveP s f r) (hs : s.tiny) : r.1.tiny := by
  rcases h with ⟨_, hr⟩ | ⟨_, k, d, j, e, o, hd, ha, _, _, hr⟩
  · subst hr
    exact hs
  · subst hr
    obtain ⟨h1, h2, h3⟩ := hs
    have hn := fun st => entsN_set (d' := ⟨d.owner, st, d.entries⟩) ha.dk rfl
    unfold driveM
    (repeat' split) <;> simp_all [StoreD.tiny]
theorem driveLaw_ok (s : StoreD) (f : FrameD) (hf : s.fits) : SatP Try.prog 7 [.agg (s.cells 170 56 174), .agg f.cells] (.bool true) [] := by
  have hz := szS_fits s 1048576 (by omega)
  refine satP_of_body hT Try.func7 (by kernel_rfl) rfl (rs := [.tmp 4]) rfl (n := 128) rfl (by simp) rfl (by simp) fun E => ?_
  unfold St.init
  rcases Int.lt_or_le (szS s 1048576) 0 with hbig | hsm
  · have hz2 := hz.2 hbig
    unfold StoreD.cells FrameD.cells
    have F := hz2
    repeat' first
      | refine wSq fun _ hK => ?_
      | refine wRg ?_
      | refine wDr ?_
      | refine VWP_block ?_
      | refine VWP_skip ?_
      | refine VWP_exit ?_
      | refine VWP_ret ?_
      | (refine hK _ ?_; clear hK)
      | (clear hK; refine hK _ ?_; clear hK)
      | (clear hK; clear hK; refine hK _ ?_; clear hK)
      | (clear hK; clear hK; clear hK; refine hK _ ?_; clear hK)
      | (simp only [wHb, reduceCtorEq] at hb <;> try (exfalso; omega))
      | refine wCd (fun hb => ?_) fun hb => ?_
      | refine wCa (c := by first | exact szStore_ok s _ (by omega) (by omega) hf) (k := ?_)
      | simp only [go_sem, Nat.reduceLT, Nat.reduceLeDiff, Nat.reduceEqDiff, Nat.reduceAdd, Nat.reduceMul, Nat.reduceSub, reduceCtorEq, F]
      | simp (disch := omega) only [decide_eq_true_eq, if_pos, if_neg, wrap_id, le_maxLen, and_true, true_and, if_true, ite_true]
      | refine wGd (fun hb => ?_) fun hb => ?_
    refine wLf ?_
    rfl
  · have hn : ¬ szS s 1048576 < 0 := by omega
    have hz1 := hz.1 hsm
    have hs := szS_small (by omega) (by omega) hsm
    have hst := szS_tiny (by omega) (by omega) hsm
    obtain ⟨r, hr⟩ := drive_ex s f
    have hrt := driveM_tiny hr hst
    have c1 := specDrive_ok s f r hr hs
    have c2 := implDrive_ok s f r hr hs
    obtain ⟨⟨hs', ds'⟩, rf, rm⟩ := r
    simp only at c1 c2 hrt
    have hq := eqStore_ok ⟨hs', ds'⟩ ⟨hs', ds'⟩ hrt.small
    have hqf := eqFrame_ok rf rf
    have htf := toFrame_ok f
    have hm := markStore_ok s 1 (by omega) (by omega) hst
    have hmr := markStore_ok ⟨hs', ds'⟩ 1 (by omega) (by omega) hrt
    have hhr := heldStore_ok ⟨hs', ds'⟩ 1 (by omega) (by omega) hrt
    have hnk : ¬ 1 + cntS s < 0 := by
      have := (cntD_le s.descs (Nat.le_refl _)).1
      unfold cntS
      omega
    have hnr : ¬ 1 + cntS ⟨hs', ds'⟩ < 0 := by
      have := (cntD_le ds' (Nat.le_refl _)).1
      unfold cntS
      simp only
      omega
    have t1 := rowsH_take (marksS 1 ⟨hs', ds'⟩).heads
    have t2 := rowsD_take 131 (marksS 1 ⟨hs', ds'⟩).descs
    have l1 : (marksS 1 ⟨hs', ds'⟩).heads.length = hs'.length := by simp [marksS, marksH_len]
    have l2 : (marksS 1 ⟨hs', ds'⟩).descs.length = ds'.length := by simp [marksS, marksD_len]
    rw [l1] at t1
    rw [l2] at t2
    simp only at hmr hhr
    unfold StoreD.cells FrameD.cells at *
    simp only at hq
    have F := And.intro hn (And.intro hnk (And.intro hnr (And.intro t1 (And.intro t2 (And.intro l1 (And.intro l2 (And.intro @rowsH_len (And.intro @rowsH_pur (And.intro @rowsH_take (And.intro @rowsD_len (And.intro @rowsD_pur (And.intro @rowsD_take @Nat.le_refl))))))))))))
    repeat' first
      | refine wSq fun _ hK => ?_
      | refine wRg ?_
      | refine wDr ?_
      | refine VWP_block ?_
      | refine VWP_skip ?_
      | refine VWP_exit ?_
      | refine VWP_ret ?_
      | (refine hK _ ?_; clear hK)
      | (clear hK; refine hK _ ?_; clear hK)
      | (clear hK; clear hK; refine hK _ ?_; clear hK)
      | (clear hK; clear hK; clear hK; refine hK _ ?_; clear hK)
      | (simp only [wHb, reduceCtorEq] at hb <;> try (exfalso; omega))
      | refine wCd (fun hb => ?_) fun hb => ?_
      | refine wCa (c := by first | exact szStore_ok s _ (by omega) (by omega) hf | exact toStore_ok s hs | exact htf | exact c1 | exact c2 | exact hq | exact hqf | exact eqStore_ok s s hs | exact hhr) (k := ?_)
      | refine wOw [898, 899] (c := by exact hm) (k := ?_)
      | refine wOw [1093, 1094] (c := by exact hmr) (k := ?_)
      | simp only [go_sem, Nat.reduceLT, Nat.reduceLeDiff, Nat.reduceEqDiff, Nat.reduceAdd, Nat.reduceMul, Nat.reduceSub, reduceCtorEq, F]
      | simp (disch := omega) only [decide_eq_true_eq, if_pos, if_neg, wrap_id, le_maxLen, and_true, true_and, if_true, ite_true]
      | refine wGd (fun hb => ?_) fun hb => ?_
    refine wLf ?_
    rfl
end Go.Proofs.Ytclljpdcpcolpaa
