/- What both WorldOk give. -/
import Derived.Test.YtclljpdcpcolpaaGreatKI
import Derived.Test.YtclljpdcpcolpaaGreatKD
namespace Go.Proofs.YtclljpdcpcolpaaGreat
open Go Go.RowKit
set_option linter.unusedVariables false
set_option linter.unusedSimpArgs false
set_option maxRecDepth 100000
set_option maxHeartbeats 4000000
attribute [local irreducible] VWP vops vdraw contV contD CallK Guard GuardV NextL Puts Runs RetOK RetQ RetO RetQO thenQ blockQ

def WorldP (w : WorldD) : Prop := allB w.first (-1000000000) 1000000000 = true ∧ StoreP w.store ∧ w.store.heads.length = w.first.length ∧ inB w.threads.length 1 4 = true ∧
  (∀ (i : Nat) (t : ThreadD), w.threads[i]? = some t → t.id = i ∧ threadB w.store t = true) ∧
  (∀ (i : Nat) (d : DescS), w.store.descs[i]? = some d → d.owner < w.threads.length) ∧ LogP w.first.length w.threads.length w.store.descs w.log
theorem world_no {w : WorldD} (h : allB w.first (-1000000000) 1000000000 = false ∨ bP (StoreP w.store) = false ∨ ¬ ((w.store.heads.length : Int) = w.first.length) ∨ inB w.threads.length 1 4 = false) : bP (WorldP w) = false := bP_false fun hh => by
  rcases h with h | h | h | h
  · rw [hh.1] at h; cases h
  · rw [bP_true hh.2.1] at h; cases h
  · exact h (by rw [hh.2.2.1])
  · rw [hh.2.2.2.1] at h; cases h
theorem world_thr {w : WorldD} {i : Nat} {t : ThreadD} (ht : w.threads[i]? = some t) (h : t.id ≠ i ∨ threadB w.store t = false) : bP (WorldP w) = false := bP_false fun hh => by
  obtain ⟨h1, h2⟩ := hh.2.2.2.2.1 i t ht
  rcases h with h | h
  · exact h h1
  · rw [h2] at h; cases h
theorem world_own {w : WorldD} {i : Nat} {d : DescS} (hd : w.store.descs[i]? = some d) (h : ¬ d.owner < w.threads.length) : bP (WorldP w) = false := bP_false fun hh => h (hh.2.2.2.2.2.1 i d hd)
theorem world_fin {w : WorldD} (h1 : allB w.first (-1000000000) 1000000000 = true) (h2 : bP (StoreP w.store) = true) (h3 : (w.store.heads.length : Int) = w.first.length) (h4 : inB w.threads.length 1 4 = true)
    (h5 : ∀ (i : Nat) (t : ThreadD), i < w.threads.length → w.threads[i]? = some t → t.id = i ∧ threadB w.store t = true) (h6 : ∀ (i : Nat) (d : DescS), i < w.store.descs.length → w.store.descs[i]? = some d → d.owner < w.threads.length) :
    bP (WorldP w) = bP (LogP w.first.length w.threads.length w.store.descs w.log) := by
  by_cases h : LogP w.first.length w.threads.length w.store.descs w.log
  · rw [bP_true h, bP_true ⟨h1, bP_iff.1 h2, by omega, h4, fun i t ht => h5 i t (List.getElem?_eq_some_iff.1 ht).1 ht, fun i d hd => h6 i d (List.getElem?_eq_some_iff.1 hd).1 hd, h⟩]
  · rw [bP_false h, bP_false fun hh => h hh.2.2.2.2.2.2]
theorem implWorldOk_ok (w : WorldD) (hs : w.tiny) : SatP Tryz.prog 28 [.agg (w.cells 3 67 70 72 91 120 137 55)] (.bool (bP (WorldP w))) [] := by
  have hthr := WorldD.tiny.thr hs
  have hlog := isLogged_ok w hs
  obtain ⟨f1, f2, f3, f4, f5⟩ := hs
  have hst := implStoreOk_ok w.store f2.small
  have hto : ∀ t, t ∈ w.threads → SatP Tryz.prog 54 [.agg [.fr 67 (rowsH w.store.heads), .fr 70 (rowsD 72 w.store.descs)], .agg [.int .i64 t.id, .fr 120 (rowsI t.prog), .int .i64 t.pc, .int .i64 t.r0, .int .i64 t.r1, .int .i64 t.r2, .int .i64 t.r3, .fr 72 (rowsE t.opens), .int .i64 t.check, .fr 137 (rowsF t.stack), .int .i64 t.mine, .int .i64 t.state, .int .i64 t.commits, .int .i64 t.fails]] (.bool (threadB w.store t)) [] := fun t ht => implThreadOk_ok w.store t f2.small (hthr t ht)
  unfold StoreD.cells at hst
  have g1 := f2.1
  have g2 := f2.2.1
  refine satP_of_body hT Tryz.func28 (by kernel_rfl) rfl (rs := [.tmp 2]) rfl (n := 71) rfl (by simp) rfl (by simp) fun E hE => ?_
  unfold St.init
  unfold WorldD.cells
  have F := And.intro @rowsN_len (And.intro @rowsH_len @rowsTh_len)
  repeat' first
    | refine wSq fun _ hK => ?_
    | refine wRg ?_
    | refine wDr ?_
    | refine VWP_block ?_
    | refine VWP_skip ?_
    | refine VWP_exit ?_
    | refine VWP_ret ?_
    | (refine hK _ ?_; clear hK)
    | (clear hK; refine hK _ ?_; clear hK)
    | (clear hK; clear hK; refine hK _ ?_; clear hK)
    | (clear hK; clear hK; clear hK; refine hK _ ?_; clear hK)
    | (simp only [wHb, reduceCtorEq] at hb <;> try (exfalso; omega))
    | refine wCd (fun hb => ?_) fun hb => ?_
    | refine wCa (c := by first | exact hst | exact areValues_ok w.first f1 | exact in_ok _ _ _) (k := ?_)
    | simp only [go_sem, Nat.reduceLT, Nat.reduceLeDiff, Nat.reduceEqDiff, Nat.reduceAdd, Nat.reduceMul, Nat.reduceSub, reduceCtorEq, F]
    | simp (disch := omega) only [decide_eq_true_eq, if_pos, if_neg, wrap_id, le_maxLen, and_true, true_and, if_true, ite_true]
    | refine wGd (fun hb => ?_) fun hb => ?_
  all_goals first
    | (refine wLf ?_
       rw [world_no (by first | (simp_all; done) | (right; right; left; intro h; simp_all))]
       done)
    | skip
  have a1 : allB w.first (-1000000000) 1000000000 = true := by simp_all
  have a2 : bP (StoreP w.store) = true := by simp_all
  have a3 : (w.store.heads.length : Int) = w.first.length := by first | omega | (simp_all; done) | (simp_all; omega)
  have a4 : inB w.threads.length 1 4 = true := by simp_all
  clear hst
  refine VWP_loopL (X := Nat) (fun i => [(1, .bp 0 0), (35, .fr 91 (rowsTh 120 72 137 w.threads)), (36, .int .i64 w.threads.length), (37, .int .i64 i)]) (fun i => [(0, .box [.fr 3 (rowsN w.first), .fr 67 (rowsH w.store.heads), .fr 70 (rowsD 72 w.store.descs), .fr 91 (rowsTh 120 72 137 w.threads), .fr 55 (rowsV w.log)])]) (fun i => w.threads.length - i)
    (fun i => i ≤ w.threads.length ∧ ∀ (j : Nat) (t : ThreadD), j < i → w.threads[j]? = some t → t.id = j ∧ threadB w.store t = true) 1 0 ⟨by simp, by simp⟩ (by simp [updV]) (by simp [updH]) (by simp) ?_
  rintro i nx ⟨hi, hdone⟩ hB
  have n0 : nx ≠ 0 := by omega
  have m0 : (0 : Nat) ≠ nx := by omega
  rcases Nat.lt_or_ge i w.threads.length with hlt | hge
  · obtain ⟨t, ht⟩ : ∃ t, w.threads[i]? = some t := ⟨_, List.getElem?_eq_getElem hlt⟩
    have hre := rowsTh_at (ti := 120) (te := 72) (tf := 137) ht
    have hw := wrap_id (x := (i : Int) + 1) (by omega)
    have hct := hto t (List.mem_of_getElem? ht)
    by_cases hid : t.id = i
    · rw [hid] at hre hct
      have F := And.intro @rowsTh_len (And.intro hre (And.intro n0 (And.intro m0 @bne_self_eq_false.{0})))
      repeat' first
        | refine wSq fun _ hK => ?_
        | refine wRg ?_
        | refine wDr ?_
        | refine VWP_block ?_
        | refine VWP_skip ?_
        | refine VWP_exit ?_
        | refine VWP_ret ?_
        | (refine hK _ ?_; clear hK)
        | (clear hK; refine hK _ ?_; clear hK)
        | (clear hK; clear hK; refine hK _ ?_; clear hK)
        | (clear hK; clear hK; clear hK; refine hK _ ?_; clear hK)
        | (simp only [wHb, reduceCtorEq] at hb <;> try (exfalso; omega))
        | refine wCd (fun hb => ?_) fun hb => ?_
        | refine wCa (c := by first | exact hct) (k := ?_)
        | simp only [go_sem, Nat.reduceLT, Nat.reduceLeDiff, Nat.reduceEqDiff, Nat.reduceAdd, Nat.reduceMul, Nat.reduceSub, reduceCtorEq, F]
        | simp (disch := omega) only [decide_eq_true_eq, if_pos, if_neg, wrap_id, le_maxLen, and_true, true_and, if_true, ite_true]
        | refine wGd (fun hb => ?_) fun hb => ?_
      · refine wLf ?_
        rw [world_thr ht (.inr (by simp_all))]
      · have hth : threadB w.store t = true := by simp_all
        refine nextL (i + 1) ⟨by omega, fun j y hj hy => ?_⟩ (by omega) (by simp [updV, tmL, hw]) (by simp [updH, hpL, n0, m0]) (by omega)
        rcases Nat.lt_or_ge j i with h | h
        · exact hdone j y h hy
        · obtain rfl : j = i := by omega
          rw [ht] at hy; cases hy
          exact ⟨hid, hth⟩
    · have hidq : (t.id != (i : Int)) = true := by simpa using hid
      have F := And.intro @rowsTh_len (And.intro hre (And.intro n0 (And.intro m0 hidq)))
      repeat' first
        | refine wSq fun _ hK => ?_
        | refine wRg ?_
        | refine wDr ?_
        | refine VWP_block ?_
        | refine VWP_skip ?_
        | refine VWP_exit ?_
        | refine VWP_ret ?_
        | (refine hK _ ?_; clear hK)
        | (clear hK; refine hK _ ?_; clear hK)
        | (clear hK; clear hK; refine hK _ ?_; clear hK)
        | (clear hK; clear hK; clear hK; refine hK _ ?_; clear hK)
        | (simp only [wHb, reduceCtorEq] at hb <;> try (exfalso; omega))
        | refine wCd (fun hb => ?_) fun hb => ?_
        | simp only [go_sem, Nat.reduceLT, Nat.reduceLeDiff, Nat.reduceEqDiff, Nat.reduceAdd, Nat.reduceMul, Nat.reduceSub, reduceCtorEq, F]
        | simp (disch := omega) only [decide_eq_true_eq, if_pos, if_neg, wrap_id, le_maxLen, and_true, true_and, if_true, ite_true]
        | refine wGd (fun hb => ?_) fun hb => ?_
      refine wLf ?_
      rw [world_thr ht (.inl hid)]
  · obtain rfl : i = w.threads.length := by omega
    have F := And.intro @rowsTh_len @rowsD_len
    repeat' first
      | refine wSq fun _ hK => ?_
      | refine wRg ?_
      | refine wDr ?_
      | refine VWP_block ?_
      | refine VWP_skip ?_
      | refine VWP_exit ?_
      | refine VWP_ret ?_
      | (refine hK _ ?_; clear hK)
      | (clear hK; refine hK _ ?_; clear hK)
      | (clear hK; clear hK; refine hK _ ?_; clear hK)
      | (clear hK; clear hK; clear hK; refine hK _ ?_; clear hK)
      | (simp only [wHb, reduceCtorEq] at hb <;> try (exfalso; omega))
      | refine wCd (fun hb => ?_) fun hb => ?_
      | simp only [go_sem, Nat.reduceLT, Nat.reduceLeDiff, Nat.reduceEqDiff, Nat.reduceAdd, Nat.reduceMul, Nat.reduceSub, reduceCtorEq, F]
      | simp (disch := omega) only [decide_eq_true_eq, if_pos, if_neg, wrap_id, le_maxLen, and_true, true_and, if_true, ite_true]
      | refine wGd (fun hb => ?_) fun hb => ?_
    refine VWP_loopL (X := Nat) (fun i => [(1, .bp 0 0), (56, .fr 70 (rowsD 72 w.store.descs)), (57, .int .i64 w.store.descs.length), (58, .int .i64 i)]) (fun i => [(0, .box [.fr 3 (rowsN w.first), .fr 67 (rowsH w.store.heads), .fr 70 (rowsD 72 w.store.descs), .fr 91 (rowsTh 120 72 137 w.threads), .fr 55 (rowsV w.log)])]) (fun i => w.store.descs.length - i)
      (fun i => i ≤ w.store.descs.length ∧ ∀ (j : Nat) (d : DescS), j < i → w.store.descs[j]? = some d → d.owner < w.threads.length) 1 0 ⟨by simp, by simp⟩ (by simp [updV, tmL]) (by simp [updH, hpL]) (by omega) ?_
    clear n0 m0 hB
    rintro i nx ⟨hi2, hdone2⟩ hB
    have n0 : nx ≠ 0 := by omega
    have m0 : (0 : Nat) ≠ nx := by omega
    rcases Nat.lt_or_ge i w.store.descs.length with hlt | hge2
    · obtain ⟨d, hd⟩ : ∃ d, w.store.descs[i]? = some d := ⟨_, List.getElem?_eq_getElem hlt⟩
      have hre := rowsD_at (te := 72) hd
      have hw := wrap_id (x := (i : Int) + 1) (by omega)
      have F := And.intro @rowsD_len (And.intro @rowsTh_len (And.intro hre (And.intro n0 m0)))
      repeat' first
        | refine wSq fun _ hK => ?_
        | refine wRg ?_
        | refine wDr ?_
        | refine VWP_block ?_
        | refine VWP_skip ?_
        | refine VWP_exit ?_
        | refine VWP_ret ?_
        | (refine hK _ ?_; clear hK)
        | (clear hK; refine hK _ ?_; clear hK)
        | (clear hK; clear hK; refine hK _ ?_; clear hK)
        | (clear hK; clear hK; clear hK; refine hK _ ?_; clear hK)
        | (simp only [wHb, reduceCtorEq] at hb <;> try (exfalso; omega))
        | refine wCd (fun hb => ?_) fun hb => ?_
        | simp only [go_sem, Nat.reduceLT, Nat.reduceLeDiff, Nat.reduceEqDiff, Nat.reduceAdd, Nat.reduceMul, Nat.reduceSub, reduceCtorEq, F]
        | simp (disch := omega) only [decide_eq_true_eq, if_pos, if_neg, wrap_id, le_maxLen, and_true, true_and, if_true, ite_true]
        | refine wGd (fun hb => ?_) fun hb => ?_
      · refine wLf ?_
        rw [world_own hd (by omega)]
      · refine nextL (i + 1) ⟨by omega, fun j y hj hy => ?_⟩ (by omega) (by simp [updV, tmL, hw]) (by simp [updH, hpL, n0, m0]) (by omega)
        rcases Nat.lt_or_ge j i with h | h
        · exact hdone2 j y h hy
        · obtain rfl : j = i := by omega
          rw [hd] at hy; cases hy
          omega
    · obtain rfl : i = w.store.descs.length := by omega
      have hfin := world_fin a1 a2 a3 a4 hdone hdone2
      have F := And.intro @rowsD_len @rowsTh_len
      repeat' first
        | refine wSq fun _ hK => ?_
        | refine wRg ?_
        | refine wDr ?_
        | refine VWP_block ?_
        | refine VWP_skip ?_
        | refine VWP_exit ?_
        | refine VWP_ret ?_
        | (refine hK _ ?_; clear hK)
        | (clear hK; refine hK _ ?_; clear hK)
        | (clear hK; clear hK; refine hK _ ?_; clear hK)
        | (clear hK; clear hK; clear hK; refine hK _ ?_; clear hK)
        | (simp only [wHb, reduceCtorEq] at hb <;> try (exfalso; omega))
        | refine wCd (fun hb => ?_) fun hb => ?_
        | refine wCa (c := by first | exact hlog) (k := ?_)
        | simp only [go_sem, Nat.reduceLT, Nat.reduceLeDiff, Nat.reduceEqDiff, Nat.reduceAdd, Nat.reduceMul, Nat.reduceSub, reduceCtorEq, F]
        | simp (disch := omega) only [decide_eq_true_eq, if_pos, if_neg, wrap_id, le_maxLen, and_true, true_and, if_true, ite_true]
        | refine wGd (fun hb => ?_) fun hb => ?_
      refine wLf ?_
      rw [hfin]
theorem specWorldOk_ok (w : WorldD) (hs : w.tiny) : SatP Tryz.prog 23 [.agg (w.cells 3 67 70 72 91 120 137 55)] (.bool (bP (WorldP w))) [] := by
  have hthr := WorldD.tiny.thr hs
  have hlog := l11Log_ok w hs
  obtain ⟨f1, f2, f3, f4, f5⟩ := hs
  have hst := specStoreOk_ok w.store f2.small
  have hto : ∀ t, t ∈ w.threads → SatP Tryz.prog 46 [.agg [.fr 67 (rowsH w.store.heads), .fr 70 (rowsD 72 w.store.descs)], .agg [.int .i64 t.id, .fr 120 (rowsI t.prog), .int .i64 t.pc, .int .i64 t.r0, .int .i64 t.r1, .int .i64 t.r2, .int .i64 t.r3, .fr 72 (rowsE t.opens), .int .i64 t.check, .fr 137 (rowsF t.stack), .int .i64 t.mine, .int .i64 t.state, .int .i64 t.commits, .int .i64 t.fails]] (.bool (threadB w.store t)) [] := fun t ht => specThreadOk_ok w.store t f2.small (hthr t ht)
  unfold StoreD.cells at hst
  have g1 := f2.1
  have g2 := f2.2.1
  refine satP_of_body hT Tryz.func23 (by kernel_rfl) rfl (rs := [.tmp 2]) rfl (n := 79) rfl (by simp) rfl (by simp) fun E hE => ?_
  unfold St.init
  unfold WorldD.cells
  have F := And.intro @rowsN_len (And.intro @rowsH_len @rowsTh_len)
  repeat' first
    | refine wSq fun _ hK => ?_
    | refine wRg ?_
    | refine wDr ?_
    | refine VWP_block ?_
    | refine VWP_skip ?_
    | refine VWP_exit ?_
    | refine VWP_ret ?_
    | (refine hK _ ?_; clear hK)
    | (clear hK; refine hK _ ?_; clear hK)
    | (clear hK; clear hK; refine hK _ ?_; clear hK)
    | (clear hK; clear hK; clear hK; refine hK _ ?_; clear hK)
    | (simp only [wHb, reduceCtorEq] at hb <;> try (exfalso; omega))
    | refine wCd (fun hb => ?_) fun hb => ?_
    | refine wCa (c := by first | exact hst | exact l1All_ok w.first _ _ f1 | exact l1In_ok _ _ _) (k := ?_)
    | simp only [go_sem, Nat.reduceLT, Nat.reduceLeDiff, Nat.reduceEqDiff, Nat.reduceAdd, Nat.reduceMul, Nat.reduceSub, reduceCtorEq, F]
    | simp (disch := omega) only [decide_eq_true_eq, if_pos, if_neg, wrap_id, le_maxLen, and_true, true_and, if_true, ite_true]
    | refine wGd (fun hb => ?_) fun hb => ?_
  all_goals first
    | (refine wLf ?_
       rw [world_no (by first | (simp_all; done) | (right; right; left; intro h; simp_all))]
       done)
    | skip
  have a1 : allB w.first (-1000000000) 1000000000 = true := by simp_all
  have a2 : bP (StoreP w.store) = true := by simp_all
  have a3 : (w.store.heads.length : Int) = w.first.length := by first | omega | (simp_all; done) | (simp_all; omega)
  have a4 : inB w.threads.length 1 4 = true := by simp_all
  clear hst
  refine VWP_loopL (X := Nat) (fun i => [(1, .bp 0 0), (3, .int .i64 i)]) (fun i => [(0, .box [.fr 3 (rowsN w.first), .fr 67 (rowsH w.store.heads), .fr 70 (rowsD 72 w.store.descs), .fr 91 (rowsTh 120 72 137 w.threads), .fr 55 (rowsV w.log)])]) (fun i => w.threads.length - i)
    (fun i => i ≤ w.threads.length ∧ ∀ (j : Nat) (t : ThreadD), j < i → w.threads[j]? = some t → t.id = j ∧ threadB w.store t = true) 1 0 ⟨by simp, by simp⟩ (by simp [updV]) (by simp [updH]) (by simp) ?_
  rintro i nx ⟨hi, hdone⟩ hB
  have n0 : nx ≠ 0 := by omega
  have m0 : (0 : Nat) ≠ nx := by omega
  rcases Nat.lt_or_ge i w.threads.length with hlt | hge
  · obtain ⟨t, ht⟩ : ∃ t, w.threads[i]? = some t := ⟨_, List.getElem?_eq_getElem hlt⟩
    have hre := rowsTh_at (ti := 120) (te := 72) (tf := 137) ht
    have hw := wrap_id (x := (i : Int) + 1) (by omega)
    have hct := hto t (List.mem_of_getElem? ht)
    by_cases hid : t.id = i
    · rw [hid] at hre hct
      have F := And.intro @rowsTh_len (And.intro hre (And.intro n0 (And.intro m0 @bne_self_eq_false.{0})))
      repeat' first
        | refine wSq fun _ hK => ?_
        | refine wRg ?_
        | refine wDr ?_
        | refine VWP_block ?_
        | refine VWP_skip ?_
        | refine VWP_exit ?_
        | refine VWP_ret ?_
        | (refine hK _ ?_; clear hK)
        | (clear hK; refine hK _ ?_; clear hK)
        | (clear hK; clear hK; refine hK _ ?_; clear hK)
        | (clear hK; clear hK; clear hK; refine hK _ ?_; clear hK)
        | (simp only [wHb, reduceCtorEq] at hb <;> try (exfalso; omega))
        | refine wCd (fun hb => ?_) fun hb => ?_
        | refine wCa (c := by first | exact hct) (k := ?_)
        | simp only [go_sem, Nat.reduceLT, Nat.reduceLeDiff, Nat.reduceEqDiff, Nat.reduceAdd, Nat.reduceMul, Nat.reduceSub, reduceCtorEq, F]
        | simp (disch := omega) only [decide_eq_true_eq, if_pos, if_neg, wrap_id, le_maxLen, and_true, true_and, if_true, ite_true]
        | refine wGd (fun hb => ?_) fun hb => ?_
      · refine wLf ?_
        rw [world_thr ht (.inr (by simp_all))]
      · have hth : threadB w.store t = true := by simp_all
        refine nextL (i + 1) ⟨by omega, fun j y hj hy => ?_⟩ (by omega) (by simp [updV, tmL, hw]) (by simp [updH, hpL, n0, m0]) (by omega)
        rcases Nat.lt_or_ge j i with h | h
        · exact hdone j y h hy
        · obtain rfl : j = i := by omega
          rw [ht] at hy; cases hy
          exact ⟨hid, hth⟩
    · have hidq : (t.id != (i : Int)) = true := by simpa using hid
      have F := And.intro @rowsTh_len (And.intro hre (And.intro n0 (And.intro m0 hidq)))
      repeat' first
        | refine wSq fun _ hK => ?_
        | refine wRg ?_
        | refine wDr ?_
        | refine VWP_block ?_
        | refine VWP_skip ?_
        | refine VWP_exit ?_
        | refine VWP_ret ?_
        | (refine hK _ ?_; clear hK)
        | (clear hK; refine hK _ ?_; clear hK)
        | (clear hK; clear hK; refine hK _ ?_; clear hK)
        | (clear hK; clear hK; clear hK; refine hK _ ?_; clear hK)
        | (simp only [wHb, reduceCtorEq] at hb <;> try (exfalso; omega))
        | refine wCd (fun hb => ?_) fun hb => ?_
        | simp only [go_sem, Nat.reduceLT, Nat.reduceLeDiff, Nat.reduceEqDiff, Nat.reduceAdd, Nat.reduceMul, Nat.reduceSub, reduceCtorEq, F]
        | simp (disch := omega) only [decide_eq_true_eq, if_pos, if_neg, wrap_id, le_maxLen, and_true, true_and, if_true, ite_true]
        | refine wGd (fun hb => ?_) fun hb => ?_
      refine wLf ?_
      rw [world_thr ht (.inl hid)]
  · obtain rfl : i = w.threads.length := by omega
    have F := And.intro @rowsTh_len @rowsD_len
    repeat' first
      | refine wSq fun _ hK => ?_
      | refine wRg ?_
      | refine wDr ?_
      | refine VWP_block ?_
      | refine VWP_skip ?_
      | refine VWP_exit ?_
      | refine VWP_ret ?_
      | (refine hK _ ?_; clear hK)
      | (clear hK; refine hK _ ?_; clear hK)
      | (clear hK; clear hK; refine hK _ ?_; clear hK)
      | (clear hK; clear hK; clear hK; refine hK _ ?_; clear hK)
      | (simp only [wHb, reduceCtorEq] at hb <;> try (exfalso; omega))
      | refine wCd (fun hb => ?_) fun hb => ?_
      | simp only [go_sem, Nat.reduceLT, Nat.reduceLeDiff, Nat.reduceEqDiff, Nat.reduceAdd, Nat.reduceMul, Nat.reduceSub, reduceCtorEq, F]
      | simp (disch := omega) only [decide_eq_true_eq, if_pos, if_neg, wrap_id, le_maxLen, and_true, true_and, if_true, ite_true]
      | refine wGd (fun hb => ?_) fun hb => ?_
    refine VWP_loopL (X := Nat) (fun i => [(1, .bp 0 0), (4, .int .i64 i)]) (fun i => [(0, .box [.fr 3 (rowsN w.first), .fr 67 (rowsH w.store.heads), .fr 70 (rowsD 72 w.store.descs), .fr 91 (rowsTh 120 72 137 w.threads), .fr 55 (rowsV w.log)])]) (fun i => w.store.descs.length - i)
      (fun i => i ≤ w.store.descs.length ∧ ∀ (j : Nat) (d : DescS), j < i → w.store.descs[j]? = some d → d.owner < w.threads.length) 1 0 ⟨by simp, by simp⟩ (by simp [updV, tmL]) (by simp [updH, hpL]) (by omega) ?_
    clear n0 m0 hB
    rintro i nx ⟨hi2, hdone2⟩ hB
    have n0 : nx ≠ 0 := by omega
    have m0 : (0 : Nat) ≠ nx := by omega
    rcases Nat.lt_or_ge i w.store.descs.length with hlt | hge2
    · obtain ⟨d, hd⟩ : ∃ d, w.store.descs[i]? = some d := ⟨_, List.getElem?_eq_getElem hlt⟩
      have hre := rowsD_at (te := 72) hd
      have hw := wrap_id (x := (i : Int) + 1) (by omega)
      have F := And.intro @rowsD_len (And.intro @rowsTh_len (And.intro hre (And.intro n0 m0)))
      repeat' first
        | refine wSq fun _ hK => ?_
        | refine wRg ?_
        | refine wDr ?_
        | refine VWP_block ?_
        | refine VWP_skip ?_
        | refine VWP_exit ?_
        | refine VWP_ret ?_
        | (refine hK _ ?_; clear hK)
        | (clear hK; refine hK _ ?_; clear hK)
        | (clear hK; clear hK; refine hK _ ?_; clear hK)
        | (clear hK; clear hK; clear hK; refine hK _ ?_; clear hK)
        | (simp only [wHb, reduceCtorEq] at hb <;> try (exfalso; omega))
        | refine wCd (fun hb => ?_) fun hb => ?_
        | simp only [go_sem, Nat.reduceLT, Nat.reduceLeDiff, Nat.reduceEqDiff, Nat.reduceAdd, Nat.reduceMul, Nat.reduceSub, reduceCtorEq, F]
        | simp (disch := omega) only [decide_eq_true_eq, if_pos, if_neg, wrap_id, le_maxLen, and_true, true_and, if_true, ite_true]
        | refine wGd (fun hb => ?_) fun hb => ?_
      · refine wLf ?_
        rw [world_own hd (by omega)]
      · refine nextL (i + 1) ⟨by omega, fun j y hj hy => ?_⟩ (by omega) (by simp [updV, tmL, hw]) (by simp [updH, hpL, n0, m0]) (by omega)
        rcases Nat.lt_or_ge j i with h | h
        · exact hdone2 j y h hy
        · obtain rfl : j = i := by omega
          rw [hd] at hy; cases hy
          omega
    · obtain rfl : i = w.store.descs.length := by omega
      have hfin := world_fin a1 a2 a3 a4 hdone hdone2
      have F := And.intro @rowsD_len @rowsTh_len
      repeat' first
        | refine wSq fun _ hK => ?_
        | refine wRg ?_
        | refine wDr ?_
        | refine VWP_block ?_
        | refine VWP_skip ?_
        | refine VWP_exit ?_
        | refine VWP_ret ?_
        | (refine hK _ ?_; clear hK)
        | (clear hK; refine hK _ ?_; clear hK)
        | (clear hK; clear hK; refine hK _ ?_; clear hK)
        | (clear hK; clear hK; clear hK; refine hK _ ?_; clear hK)
        | (simp only [wHb, reduceCtorEq] at hb <;> try (exfalso; omega))
        | refine wCd (fun hb => ?_) fun hb => ?_
        | refine wCa (c := by first | exact hlog) (k := ?_)
        | simp only [go_sem, Nat.reduceLT, Nat.reduceLeDiff, Nat.reduceEqDiff, Nat.reduceAdd, Nat.reduceMul, Nat.reduceSub, reduceCtorEq, F]
        | simp (disch := omega) only [decide_eq_true_eq, if_pos, if_neg, wrap_id, le_maxLen, and_true, true_and, if_true, ite_true]
        | refine wGd (fun hb => ?_) fun hb => ?_
      refine wLf ?_
      rw [hfin]
end Go.Proofs.YtclljpdcpcolpaaGreat
