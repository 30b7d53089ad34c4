/- The law on values: both Together give the same. -/
import Derived.Test.YtmiojnibngncaaaHJ
import Derived.Test.YtmiojnibngncaaaEN
namespace Go.Proofs.Ytmiojnibngncaaa
open Go Go.RowKit
set_option linter.unusedVariables false
set_option linter.unusedSimpArgs false
set_option maxRecDepth 100000
set_option maxHeartbeats 40000000
attribute [local irreducible] VWP vops vdraw contV contD CallK Guard GuardV NextL Puts Runs RetOK RetQ RetO RetQO thenQ blockQ

theorem togF_keeps : ∀ (ts : List Bool) {s : StoreD} {a b : List FrameD}, HelpI s a → HelpI s b → s.tiny → (togF ts s a b).1.tiny ∧ (togF ts s a b).1.heads.length = s.heads.length ∧ (togF ts s a b).1.descs.length = s.descs.length ∧ (togF ts s a b).2.1.length ≤ 130 ∧ (togF ts s a b).2.2.length ≤ 130
  | [], s, a, b, ha, hb, hs => ⟨hs, rfl, rfl, ha.len, hb.len⟩
  | true :: ts, s, a, b, ha, hb, hs => by
    have hk := helpF_keeps hb
    obtain ⟨k1, k2, k3, k4⟩ := togF_keeps ts ⟨hk.inv.st, fun f hf => hk.all f (ha.fr f hf), ha.len⟩ hk.inv (helpF_tiny hb hs)
    rw [hk.hl] at k2
    rw [hk.dl] at k3
    exact ⟨k1, k2, k3, k4⟩
  | false :: ts, s, a, b, ha, hb, hs => by
    have hk := helpF_keeps ha
    obtain ⟨k1, k2, k3, k4⟩ := togF_keeps ts hk.inv ⟨hk.inv.st, fun f hf => hk.all f (hb.fr f hf), hb.len⟩ (helpF_tiny ha hs)
    rw [hk.hl] at k2
    rw [hk.dl] at k3
    exact ⟨k1, k2, k3, k4⟩
theorem togR_tiny (s : StoreD) (a b : List FrameD) (ts : List Bool) (hs : s.tiny) (la : a.length ≤ 1048576) (lb : b.length ≤ 1048576) : (togR s a b ts).1.tiny ∧ (togR s a b ts).1.heads.length = s.heads.length ∧ (togR s a b ts).1.descs.length = s.descs.length ∧ (togR s a b ts).2.1.length ≤ 1048576 ∧ (togR s a b ts).2.2.length ≤ 1048576 := by
  unfold togR
  split
  · rename_i h
    have h2 : (stackB s a = true ∧ stackB s b = true) ∧ ts.length ≤ 400 := by simpa [togOk] using h
    obtain ⟨k1, k2, k3, k4, k5⟩ := togF_keeps ts (stack_help h2.1.1) (stack_help h2.1.2) hs
    exact ⟨k1, k2, k3, by omega, by omega⟩
  · exact ⟨hs, rfl, rfl, la, lb⟩
theorem togLaw_ok (s : StoreD) (a b : List FrameD) (ts : List Bool) (hf : s.fits) (hal : a.length ≤ 9223372036854775807) (hbl : b.length ≤ 9223372036854775807) (htl : ts.length ≤ 9223372036854775807) : SatP Try.prog 8 [.agg (s.cells 149 87 98), .fr 120 (rowsF a), .fr 120 (rowsF b), .fr 4 (rowsB ts)] (.bool true) [] := by
  have hz := szS_fits s 1048576 (by omega)
  refine satP_of_body hT Try.func8 (by kernel_rfl) rfl (rs := [.tmp 8]) rfl (n := 216) rfl (by simp) rfl (by simp) fun E hE => ?_
  unfold St.init
  rcases Int.lt_or_le 1048576 (ts.length : Int) with htb | hts
  · unfold StoreD.cells
    have F := And.intro @rowsB_len htb
    repeat' first
      | refine wSq fun _ hK => ?_
      | refine wRg ?_
      | refine wDr ?_
      | refine VWP_block ?_
      | refine VWP_skip ?_
      | refine VWP_exit ?_
      | refine VWP_ret ?_
      | (refine hK _ ?_; clear hK)
      | (clear hK; refine hK _ ?_; clear hK)
      | (clear hK; clear hK; refine hK _ ?_; clear hK)
      | (clear hK; clear hK; clear hK; refine hK _ ?_; clear hK)
      | (simp only [wHb, reduceCtorEq] at hb <;> try (exfalso; omega))
      | refine wCd (fun hb => ?_) fun hb => ?_
      | simp only [go_sem, Nat.reduceLT, Nat.reduceLeDiff, Nat.reduceEqDiff, Nat.reduceAdd, Nat.reduceMul, Nat.reduceSub, reduceCtorEq, F]
      | simp (disch := omega) only [decide_eq_true_eq, if_pos, if_neg, wrap_id, le_maxLen, and_true, true_and, if_true, ite_true]
      | refine wGd (fun hb => ?_) fun hb => ?_
    refine wLf ?_
    rfl
  have htn : ¬ (1048576 : Int) < (ts.length : Int) := by omega
  rcases Int.lt_or_le (szS s 1048576) 0 with hbig | hsm
  · have hz2 := hz.2 hbig
    unfold StoreD.cells
    have F := And.intro @rowsB_len (And.intro htn hz2)
    repeat' first
      | refine wSq fun _ hK => ?_
      | refine wRg ?_
      | refine wDr ?_
      | refine VWP_block ?_
      | refine VWP_skip ?_
      | refine VWP_exit ?_
      | refine VWP_ret ?_
      | (refine hK _ ?_; clear hK)
      | (clear hK; refine hK _ ?_; clear hK)
      | (clear hK; clear hK; refine hK _ ?_; clear hK)
      | (clear hK; clear hK; clear hK; refine hK _ ?_; clear hK)
      | (simp only [wHb, reduceCtorEq] at hb <;> try (exfalso; omega))
      | refine wCd (fun hb => ?_) fun hb => ?_
      | refine wCa (c := by first | exact szStore_ok s _ (by omega) (by omega) hf) (k := ?_)
      | simp only [go_sem, Nat.reduceLT, Nat.reduceLeDiff, Nat.reduceEqDiff, Nat.reduceAdd, Nat.reduceMul, Nat.reduceSub, reduceCtorEq, F]
      | simp (disch := omega) only [decide_eq_true_eq, if_pos, if_neg, wrap_id, le_maxLen, and_true, true_and, if_true, ite_true]
      | refine wGd (fun hb => ?_) fun hb => ?_
    refine wLf ?_
    rfl
  have hn : ¬ szS s 1048576 < 0 := by omega
  have hs := szS_small (by omega) (by omega) hsm
  have hst := szS_tiny (by omega) (by omega) hsm
  have hle := (hz.1 hsm).2
  have hsl : szS s 1048576 ≤ 1048576 := by omega
  have cz := szFrameS_ok a (szS s 1048576) hsm hsl hal
  rcases Int.lt_or_le (szB a.length (szS s 1048576)) 0 with hbig2 | hsm2
  · unfold StoreD.cells
    have F := And.intro @rowsB_len (And.intro htn (And.intro hn hbig2))
    repeat' first
      | refine wSq fun _ hK => ?_
      | refine wRg ?_
      | refine wDr ?_
      | refine VWP_block ?_
      | refine VWP_skip ?_
      | refine VWP_exit ?_
      | refine VWP_ret ?_
      | (refine hK _ ?_; clear hK)
      | (clear hK; refine hK _ ?_; clear hK)
      | (clear hK; clear hK; refine hK _ ?_; clear hK)
      | (clear hK; clear hK; clear hK; refine hK _ ?_; clear hK)
      | (simp only [wHb, reduceCtorEq] at hb <;> try (exfalso; omega))
      | refine wCd (fun hb => ?_) fun hb => ?_
      | refine wCa (c := by first | exact szStore_ok s _ (by omega) (by omega) hf | exact cz) (k := ?_)
      | simp only [go_sem, Nat.reduceLT, Nat.reduceLeDiff, Nat.reduceEqDiff, Nat.reduceAdd, Nat.reduceMul, Nat.reduceSub, reduceCtorEq, F]
      | simp (disch := omega) only [decide_eq_true_eq, if_pos, if_neg, wrap_id, le_maxLen, and_true, true_and, if_true, ite_true]
      | refine wGd (fun hb => ?_) fun hb => ?_
    refine wLf ?_
    rfl
  have hn2 : ¬ szB a.length (szS s 1048576) < 0 := by omega
  have hl : a.length ≤ 1048576 := by
    unfold szB at hsm2
    split at hsm2 <;> omega
  have hs2 : szB a.length (szS s 1048576) ≤ 1048576 := by
    unfold szB
    split <;> omega
  have cz2 := szFrameS_ok b (szB a.length (szS s 1048576)) hsm2 hs2 hbl
  rcases Int.lt_or_le (szB b.length (szB a.length (szS s 1048576))) 0 with hbig3 | hsm3
  · unfold StoreD.cells
    have F := And.intro @rowsB_len (And.intro htn (And.intro hn (And.intro hn2 hbig3)))
    repeat' first
      | refine wSq fun _ hK => ?_
      | refine wRg ?_
      | refine wDr ?_
      | refine VWP_block ?_
      | refine VWP_skip ?_
      | refine VWP_exit ?_
      | refine VWP_ret ?_
      | (refine hK _ ?_; clear hK)
      | (clear hK; refine hK _ ?_; clear hK)
      | (clear hK; clear hK; refine hK _ ?_; clear hK)
      | (clear hK; clear hK; clear hK; refine hK _ ?_; clear hK)
      | (simp only [wHb, reduceCtorEq] at hb <;> try (exfalso; omega))
      | refine wCd (fun hb => ?_) fun hb => ?_
      | refine wCa (c := by first | exact szStore_ok s _ (by omega) (by omega) hf | exact cz | exact cz2) (k := ?_)
      | simp only [go_sem, Nat.reduceLT, Nat.reduceLeDiff, Nat.reduceEqDiff, Nat.reduceAdd, Nat.reduceMul, Nat.reduceSub, reduceCtorEq, F]
      | simp (disch := omega) only [decide_eq_true_eq, if_pos, if_neg, wrap_id, le_maxLen, and_true, true_and, if_true, ite_true]
      | refine wGd (fun hb => ?_) fun hb => ?_
    refine wLf ?_
    rfl
  · have hn3 : ¬ szB b.length (szB a.length (szS s 1048576)) < 0 := by omega
    have hl2 : b.length ≤ 1048576 := by
      generalize szB a.length (szS s 1048576) = LL at *
      unfold szB at hsm3
      split at hsm3 <;> omega
    have hl3 : ts.length ≤ 1048576 := by omega
    obtain ⟨r, hr⟩ : ∃ r, togR s a b ts = r := ⟨_, rfl⟩
    have hrt := togR_tiny s a b ts hst hl hl2
    rw [hr] at hrt
    obtain ⟨hrt, e1, e2, e3, e4⟩ := hrt
    have c1 := specTogether_ok s a b ts hst hl hl2 hl3 r hr
    have c2 := implTogether_ok s a b ts hst hl hl2 hl3 r hr
    obtain ⟨⟨hs', ds'⟩, ra, rb⟩ := r
    simp only at c1 c2 hrt e1 e2 e3 e4
    rw [← e1, ← e2] at c1 c2
    have hq := eqStore_ok ⟨hs', ds'⟩ ⟨hs', ds'⟩ hrt.small
    have qs := eqStore_ok s s hs
    have ts' := toStore_ok s hs
    have q1 := eqFrameS_ok ra ra (by omega)
    have q2 := eqFrameS_ok rb rb (by omega)
    have q3 := eqFrameS_ok a a (by omega)
    have q4 := eqFrameS_ok b b (by omega)
    have q5 := eqBoolS_ok ts ts (by omega)
    have tf := toFrameS_ok a hl
    have tg := toFrameS_ok b hl2
    have tb := toBoolS_ok ts hl3
    have hct := (cntD_le s.descs (Nat.le_refl _))
    have hcr := (cntD_le ds' (Nat.le_refl _))
    have hcs : cntS s = 3 * (s.heads.length : Int) + cntD s.descs s.descs.length := rfl
    have hcq : cntS ⟨hs', ds'⟩ = 3 * (hs'.length : Int) + cntD ds' ds'.length := rfl
    obtain ⟨b1, b2, b3⟩ := hst
    obtain ⟨b4, b5, b6⟩ := hrt
    simp only at b4 b5 b6
    have hm := markStore_ok s 1 (by omega) (by omega) ⟨b1, b2, b3⟩
    have hma := markFrameS_ok a (1 + cntS s) (by omega) (by omega) (by omega)
    have hmb := markFrameS_ok b (1 + cntS s + 3 * a.length) (by omega) (by omega) (by omega)
    have hmc := markBoolS_ok ts (1 + cntS s + 3 * a.length + 3 * b.length) (by omega) (by omega) (by omega)
    have hmr := markStore_ok ⟨hs', ds'⟩ 1 (by omega) (by omega) ⟨b4, b5, b6⟩
    have hmd := markFrameS_ok ra (1 + cntS ⟨hs', ds'⟩) (by omega) (by omega) (by omega)
    have hme := markFrameS_ok rb (1 + cntS ⟨hs', ds'⟩ + 3 * ra.length) (by omega) (by omega) (by omega)
    have hhr := heldStore_ok ⟨hs', ds'⟩ 1 (by omega) (by omega) ⟨b4, b5, b6⟩
    have hhf := heldFrameS_ok ra.length (1 + cntS ⟨hs', ds'⟩) (by omega) (by omega) (by omega)
    have hhg := heldFrameS_ok rb.length (1 + cntS ⟨hs', ds'⟩ + 3 * ra.length) (by omega) (by omega) (by omega)
    have hnk : ¬ 1 + cntS s + 3 * (a.length : Int) + 3 * (b.length : Int) + (ts.length : Int) < 0 := by omega
    have hnr : ¬ 1 + cntS ⟨hs', ds'⟩ < 0 := by omega
    have hnq : ¬ 1 + cntS ⟨hs', ds'⟩ + 3 * (ra.length : Int) < 0 := by omega
    have hnp : ¬ 1 + cntS ⟨hs', ds'⟩ + 3 * (ra.length : Int) + 3 * (rb.length : Int) < 0 := by omega
    have t1 := rowsH_take (marksS 1 ⟨hs', ds'⟩).heads
    have t2 := rowsD_take 96 (marksS 1 ⟨hs', ds'⟩).descs
    have t3 := rowsF_take (marksF (1 + cntS ⟨hs', ds'⟩) ra.length)
    have t4 := rowsF_take (marksF (1 + cntS ⟨hs', ds'⟩ + 3 * ra.length) rb.length)
    have l1 : (marksS 1 ⟨hs', ds'⟩).heads.length = hs'.length := by simp [marksS, marksH_len]
    have l2 : (marksS 1 ⟨hs', ds'⟩).descs.length = ds'.length := by simp [marksS, marksD_len]
    have l3 := marksF_len (1 + cntS ⟨hs', ds'⟩) ra.length
    have l4 := marksF_len (1 + cntS ⟨hs', ds'⟩ + 3 * ra.length) rb.length
    rw [l1] at t1
    rw [l2] at t2
    rw [l3] at t3
    rw [l4] at t4
    simp only at hmr hhr
    unfold StoreD.cells at *
    simp only at hq
    have F := And.intro @rowsB_len (And.intro @rowsB_pur (And.intro @rowsB_take (And.intro htn (And.intro hn (And.intro hn2 (And.intro hn3 (And.intro hnk (And.intro hnr (And.intro hnq (And.intro hnp (And.intro t1 (And.intro t2 (And.intro t3 (And.intro t4 (And.intro l1 (And.intro l2 (And.intro l3 (And.intro l4 (And.intro @rowsH_len (And.intro @rowsH_pur (And.intro @rowsH_take (And.intro @rowsD_len (And.intro @rowsD_pur (And.intro @rowsD_take (And.intro @rowsF_len (And.intro @rowsF_pur (And.intro @rowsF_take (And.intro @bne_self_eq_false.{0} @Nat.le_refl))))))))))))))))))))))))))))
    repeat' first
      | refine wSq fun _ hK => ?_
      | refine wRg ?_
      | refine wDr ?_
      | refine VWP_block ?_
      | refine VWP_skip ?_
      | refine VWP_exit ?_
      | refine VWP_ret ?_
      | (refine hK _ ?_; clear hK)
      | (clear hK; refine hK _ ?_; clear hK)
      | (clear hK; clear hK; refine hK _ ?_; clear hK)
      | (clear hK; clear hK; clear hK; refine hK _ ?_; clear hK)
      | (simp only [wHb, reduceCtorEq] at hb <;> try (exfalso; omega))
      | refine wCd (fun hb => ?_) fun hb => ?_
      | refine wCa (c := by first | exact szStore_ok s _ (by omega) (by omega) hf | exact cz | exact cz2 | exact ts' | exact tf | exact tg | exact tb | exact c1 | exact c2 | exact hq | exact qs | exact q1 | exact q2 | exact q3 | exact q4 | exact q5 | exact hhr | exact hhf | exact hhg) (k := ?_)
      | refine wOq [11, 12] (hm) ?_
      | refine wOq [14] (hma) ?_
      | refine wOq [15] (hmb) ?_
      | refine wOq [16] (hmc) ?_
      | refine wOq [17, 18] (hmr) ?_
      | refine wOq [19] (hmd) ?_
      | refine wOq [20] (hme) ?_
      | simp only [go_sem, Nat.reduceLT, Nat.reduceLeDiff, Nat.reduceEqDiff, Nat.reduceAdd, Nat.reduceMul, Nat.reduceSub, reduceCtorEq, F]
      | simp (disch := omega) only [decide_eq_true_eq, if_pos, if_neg, wrap_id, le_maxLen, and_true, true_and, if_true, ite_true]
      | refine wGd (fun hb => ?_) fun hb => ?_
    all_goals try (refine wLf ?_; rfl)
end Go.Proofs.Ytmiojnibngncaaa
