/- What both NewWorld give. -/
import Derived.Test.YtclljpdcpcolpaaZB
import Derived.Test.YtclljpdcpcolpaaTE
import Derived.Test.YtclljpdcpcolpaaNB
import Derived.Test.YtclljpdcpcolpaaNC
import Derived.Test.YtclljpdcpcolpaaNP
import Derived.Test.YtclljpdcpcolpaaVA
import Derived.Test.YtclljpdcpcolpaaEK
namespace Go.Proofs.Ytclljpdcpcolpaa
open Go Go.RowKit
set_option linter.unusedVariables false
set_option linter.unusedSimpArgs false
set_option maxRecDepth 100000
set_option maxHeartbeats 4000000
attribute [local irreducible] VWP vops vdraw contV contD CallK Guard GuardV NextL Puts Runs RetOK RetQ RetO RetQO thenQ blockQ
attribute [local irreducible] NextN

def newTh (i : Nat) (p : List InsS) : ThreadD := ⟨i, p, 0, 0, 0, 0, 0, [], -1, [], -1, 0, 0, 0⟩
def newThs (ps : List (List InsS)) : List ThreadD := ps.mapIdx newTh
def zeroW : WorldD := ⟨[], ⟨[], []⟩, [], []⟩
def newWorldOk (xs : List Int) (ps : List (List InsS)) : Bool := (newStoreL xs).2 && inB ps.length 1 4 && ps.all progOkB
def newWorldL (xs : List Int) (ps : List (List InsS)) : WorldD × Bool := if newWorldOk xs ps = true then (⟨xs, (newStoreL xs).1, newThs ps, []⟩, true) else (zeroW, false)
theorem newThs_len (ps : List (List InsS)) : (newThs ps).length = ps.length := by simp [newThs]
theorem newThs_at {ps : List (List InsS)} {i : Nat} {p : List InsS} (h : ps[i]? = some p) : (newThs ps)[i]? = some (newTh i p) := by simp [newThs, h]
theorem newThread_at {i : Nat} {p : List InsS} (hi : i < 4) (h : progOkB p = true) : newThreadL i p = (newTh i p, true) := by
  rw [newThreadL, if_pos ⟨by simp [inB]; omega, h⟩]
  rfl
theorem newThread_no {i : Nat} {p : List InsS} (h : progOkB p = false) : newThreadL i p = (zeroT, false) := by
  rw [newThreadL, if_neg (by simp [h])]
theorem thT_len {ti te tf : TypeId} {ts : List ThreadD} {i : Nat} (h : i ≤ ts.length) : (rowsTh ti te tf (ts.take i)).length = i := by simp [rowsTh_len]; omega
theorem thT_take {ti te tf : TypeId} {ts : List ThreadD} {i : Nat} (h : i ≤ ts.length) : (rowsTh ti te tf (ts.take i)).take i = rowsTh ti te tf (ts.take i) := by rw [List.take_of_length_le (by rw [thT_len h]; exact Nat.le_refl _)]
theorem thT_get {ti te tf : TypeId} {ts : List ThreadD} {i : Nat} (h : i ≤ ts.length) (r : List PT) : (rowsTh ti te tf (ts.take i) ++ [r])[i]? = some r := by
  have := thT_len (ti := ti) (te := te) (tf := tf) h
  rw [List.getElem?_append_right (by omega), this]
  simp
theorem thT_set {ti te tf : TypeId} {ts : List ThreadD} {i : Nat} (h : i ≤ ts.length) (r r' : List PT) : (rowsTh ti te tf (ts.take i) ++ [r]).set i r' = rowsTh ti te tf (ts.take i) ++ [r'] := by
  have := thT_len (ti := ti) (te := te) (tf := tf) h
  rw [List.set_append_right _ _ (by omega), this]
  simp
theorem thT_snoc {ti te tf : TypeId} {ts : List ThreadD} {i : Nat} {t : ThreadD} (h : ts[i]? = some t) : rowsTh ti te tf (ts.take i) ++ [rowTh ti te tf t] = rowsTh ti te tf (ts.take (i + 1)) := by
  rw [List.take_add_one, h]
  simp [rowsTh]
theorem implNewWorld_ok (xs : List Int) (ps : List (List InsS)) (r : WorldD × Bool) (hr : newWorldL xs ps = r) (hx : xs.length ≤ 1048576) (hl : ps.length ≤ 1048576) (he : ∀ p ∈ ps, p.length ≤ 1048576) :
    SatP Try.prog 54 [.fr 3 (rowsN xs), .fr 81 (rowsP 146 ps)]
      (.tup [.agg [.rf 0 r.1.first.length, .rf 1 r.1.store.heads.length, .rf 2 r.1.store.descs.length, .rf 3 r.1.threads.length, .rf 4 r.1.log.length], .bool r.2])
      [(3, rowsN r.1.first), (125, rowsH r.1.store.heads), (62, rowsD 131 r.1.store.descs), (83, rowsTh 146 131 69 r.1.threads), (193, rowsV r.1.log)] := by
  obtain ⟨⟨⟨hs, ds⟩, b⟩, hq⟩ : ∃ q, newStoreL xs = q := ⟨_, rfl⟩
  have hns := implNewStore_ok xs _ hq hx
  have hown := own_ok xs (by omega)
  have hin := in_ok ps.length 1 4
  have hds : ds = [] := by
    unfold newStoreL at hq
    split at hq <;> (cases hq; rfl)
  subst hds
  refine satP_of_body hT Try.func54 (by kernel_rfl) rfl (rs := [.cell 4 94, .tmp 5]) rfl (n := 55) rfl (by simp) rfl (by simp [rowsN_pur, rowsH_pur, rowsD_pur, rowsTh_pur, rowsV_pur]) fun E hE => ?_
  unfold St.init
  simp only at hns
  by_cases hg : b = true ∧ inB ps.length 1 4 = true
  · obtain ⟨rfl, hg2⟩ := hg
    have hps : 1 ≤ ps.length ∧ ps.length ≤ 4 := by simp [inB] at hg2; omega
    rw [hg2] at hin
    have F := And.intro @rowsN_len (And.intro @rowsH_len (And.intro @rowsD_len (And.intro @rowsP_len @List.length_nil.{0})))
    repeat' first
      | refine wSq fun _ hK => ?_
      | refine wRg ?_
      | refine wDr ?_
      | refine VWP_block ?_
      | refine VWP_skip ?_
      | refine VWP_exit ?_
      | refine VWP_ret ?_
      | (refine hK _ ?_; clear hK)
      | (clear hK; refine hK _ ?_; clear hK)
      | (clear hK; clear hK; refine hK _ ?_; clear hK)
      | (clear hK; clear hK; clear hK; refine hK _ ?_; clear hK)
      | (simp only [wHb, reduceCtorEq] at hb <;> try (exfalso; omega))
      | refine wCd (fun hb => ?_) fun hb => ?_
      | refine wCa (c := by first | exact hns | exact hown | exact hin) (k := ?_)
      | simp only [go_sem, Nat.reduceLT, Nat.reduceLeDiff, Nat.reduceEqDiff, Nat.reduceAdd, Nat.reduceMul, Nat.reduceSub, reduceCtorEq, F]
      | simp (disch := omega) only [decide_eq_true_eq, if_pos, if_neg, wrap_id, le_maxLen, and_true, true_and, if_true, ite_true]
      | refine wGd (fun hb => ?_) fun hb => ?_
    refine VWP_loopN hE (X := Nat) (fun i => [(4, .bp 0 0), (8, .bp 5 0), (31, .fr 81 (rowsP 146 ps)), (32, .int .i64 ps.length), (33, .int .i64 i)]) (fun i => if i = 0 then [(0, .box [.nl 3, .nl 125, .nl 62, .nl 83, .nl 193]), (5, .box [.rf 4 xs.length, .rf 1 hs.length, .rf 2 0, .nl 83, .nl 193]), (1, .root 125 (rowsH hs)), (2, .root 62 (rowsD 131 [])), (4, .root 3 (rowsN xs))] else [(0, .box [.nl 3, .nl 125, .nl 62, .nl 83, .nl 193]), (5, .box [.rf 4 xs.length, .rf 1 hs.length, .rf 2 0, .rf 6 i, .nl 193]), (1, .root 125 (rowsH hs)), (2, .root 62 (rowsD 131 [])), (4, .root 3 (rowsN xs)), (6, .root 83 (rowsTh 146 131 69 ((newThs ps).take i)))]) (fun i => ps.length - i)
      (fun i => i ≤ ps.length ∧ ∀ (j : Nat) (p : List InsS), j < i → ps[j]? = some p → progOkB p = true) [0, 1, 2, 3, 68, 260, 300] 0 ⟨by simp, fun j p hj => by omega⟩ (by decide) (by decide) (by simp [updV, renV, renA, renC]) (by simp [updH, renH_at, renE, renC, rowsN_pur, rowsH_pur, rowsD_pur]) ?_
    rintro i ⟨hi, hdone⟩
    have hw := wrap_id (x := (i : Int) + 1) (by omega)
    rcases Nat.lt_or_ge i ps.length with hlt | hge
    · obtain ⟨p, hp⟩ : ∃ p, ps[i]? = some p := ⟨_, List.getElem?_eq_getElem hlt⟩
      have hre := rowsP_at (ti := 146) hp
      have hpl := he p (List.mem_of_getElem? hp)
      rcases (Bool.eq_false_or_eq_true (progOkB p)).symm with hpb | hpb
      · have hnt := implNewThread_ok i p _ (newThread_no hpb) hpl
        have hno : newWorldL xs ps = (zeroW, false) := by
          have : ps.all progOkB = false := List.all_eq_false.2 ⟨p, List.mem_of_getElem? hp, by simp [hpb]⟩
          simp [newWorldL, newWorldOk, this]
        rw [hno] at hr
        subst hr
        simp only [outT, zeroT, List.length_nil] at hnt
        rcases Nat.eq_zero_or_pos i with hi0 | hi0
        · rw [if_pos hi0]
          have F := And.intro @rowsP_len (And.intro hlt hre)
          repeat' first
            | refine wSq fun _ hK => ?_
            | refine wRg ?_
            | refine wDr ?_
            | refine VWP_block ?_
            | refine VWP_skip ?_
            | refine VWP_exit ?_
            | refine VWP_ret ?_
            | (refine hK _ ?_; clear hK)
            | (clear hK; refine hK _ ?_; clear hK)
            | (clear hK; clear hK; refine hK _ ?_; clear hK)
            | (clear hK; clear hK; clear hK; refine hK _ ?_; clear hK)
            | (simp only [wHb, reduceCtorEq] at hb <;> try (exfalso; omega))
            | refine wCd (fun hb => ?_) fun hb => ?_
            | refine wCa (c := by first | exact hnt) (k := ?_)
            | simp only [go_sem, Nat.reduceLT, Nat.reduceLeDiff, Nat.reduceEqDiff, Nat.reduceAdd, Nat.reduceMul, Nat.reduceSub, reduceCtorEq, F]
            | simp (disch := omega) only [decide_eq_true_eq, if_pos, if_neg, wrap_id, le_maxLen, and_true, true_and, if_true, ite_true]
            | refine wGd (fun hb => ?_) fun hb => ?_
          refine ret_mk (vs := _) (acc := _) (by simp only [go_sem, Nat.reduceLT, Nat.reduceLeDiff, Nat.reduceEqDiff, Nat.reduceAdd, Nat.reduceMul, Nat.reduceSub, reduceCtorEq, vres]; rfl) (by simp only [go_sem, Nat.reduceLT, Nat.reduceLeDiff, Nat.reduceEqDiff, Nat.reduceAdd, Nat.reduceMul, Nat.reduceSub, reduceCtorEq, wrap, exV, exAs, exA, exCs, exC]; rfl) (by simp) (by simp [rowsN, rowsH, rowsD, rowsTh, rowsV, zeroW]) (by simp [rowsN_pur, rowsH_pur, rowsD_pur, rowsTh_pur, rowsV_pur])
        · rw [if_neg (by omega)]
          have F := And.intro @rowsP_len (And.intro hlt hre)
          repeat' first
            | refine wSq fun _ hK => ?_
            | refine wRg ?_
            | refine wDr ?_
            | refine VWP_block ?_
            | refine VWP_skip ?_
            | refine VWP_exit ?_
            | refine VWP_ret ?_
            | (refine hK _ ?_; clear hK)
            | (clear hK; refine hK _ ?_; clear hK)
            | (clear hK; clear hK; refine hK _ ?_; clear hK)
            | (clear hK; clear hK; clear hK; refine hK _ ?_; clear hK)
            | (simp only [wHb, reduceCtorEq] at hb <;> try (exfalso; omega))
            | refine wCd (fun hb => ?_) fun hb => ?_
            | refine wCa (c := by first | exact hnt) (k := ?_)
            | simp only [go_sem, Nat.reduceLT, Nat.reduceLeDiff, Nat.reduceEqDiff, Nat.reduceAdd, Nat.reduceMul, Nat.reduceSub, reduceCtorEq, F]
            | simp (disch := omega) only [decide_eq_true_eq, if_pos, if_neg, wrap_id, le_maxLen, and_true, true_and, if_true, ite_true]
            | refine wGd (fun hb => ?_) fun hb => ?_
          refine ret_mk (vs := _) (acc := _) (by simp only [go_sem, Nat.reduceLT, Nat.reduceLeDiff, Nat.reduceEqDiff, Nat.reduceAdd, Nat.reduceMul, Nat.reduceSub, reduceCtorEq, vres]; rfl) (by simp only [go_sem, Nat.reduceLT, Nat.reduceLeDiff, Nat.reduceEqDiff, Nat.reduceAdd, Nat.reduceMul, Nat.reduceSub, reduceCtorEq, wrap, exV, exAs, exA, exCs, exC]; rfl) (by simp) (by simp [rowsN, rowsH, rowsD, rowsTh, rowsV, zeroW]) (by simp [rowsN_pur, rowsH_pur, rowsD_pur, rowsTh_pur, rowsV_pur])
      · have hnt := implNewThread_ok i p _ (newThread_at (by omega) hpb) hpl
        simp only [outT, newTh, List.length_nil] at hnt
        have hti := newThs_at hp
        have hsn := thT_snoc (ti := 146) (te := 131) (tf := 69) hti
        have hle2 : i ≤ (newThs ps).length := by rw [newThs_len]; exact hi
        simp only [rowTh, newTh] at hsn
        have hJ : i + 1 ≤ ps.length ∧ ∀ (j : Nat) (p : List InsS), j < i + 1 → ps[j]? = some p → progOkB p = true := ⟨hlt, fun j q hj hq => by
          rcases Nat.lt_or_ge j i with h | h
          · exact hdone j q h hq
          · obtain rfl : j = i := by omega
            rw [hp] at hq; cases hq; exact hpb⟩
        rcases Nat.eq_zero_or_pos i with hi0 | hi0
        · subst hi0
          rw [if_pos rfl]
          have F := And.intro @rowsP_len (And.intro hlt hre)
          repeat' first
            | refine wSq fun _ hK => ?_
            | refine wRg ?_
            | refine wDr ?_
            | refine VWP_block ?_
            | refine VWP_skip ?_
            | refine VWP_exit ?_
            | refine VWP_ret ?_
            | (refine hK _ ?_; clear hK)
            | (clear hK; refine hK _ ?_; clear hK)
            | (clear hK; clear hK; refine hK _ ?_; clear hK)
            | (clear hK; clear hK; clear hK; refine hK _ ?_; clear hK)
            | (simp only [wHb, reduceCtorEq] at hb <;> try (exfalso; omega))
            | refine wCd (fun hb => ?_) fun hb => ?_
            | refine wCa (c := by first | exact hnt) (k := ?_)
            | simp only [go_sem, Nat.reduceLT, Nat.reduceLeDiff, Nat.reduceEqDiff, Nat.reduceAdd, Nat.reduceMul, Nat.reduceSub, reduceCtorEq, F]
            | simp (disch := omega) only [decide_eq_true_eq, if_pos, if_neg, wrap_id, le_maxLen, and_true, true_and, if_true, ite_true]
            | refine wGd (fun hb => ?_) fun hb => ?_
          have hs0 : rowsTh 146 131 69 ((newThs ps).take 1) = [[.int .i64 ((0 : Nat) : Int), .list 146 (rowsI p), .int .i64 0, .int .i64 0, .int .i64 0, .int .i64 0, .int .i64 0, .list 131 [], .int .i64 (-1), .list 69 [], .int .i64 (-1), .int .i64 0, .int .i64 0, .int .i64 0]] := by
            rw [← hsn]
            simp [rowsTh, rowsE, rowsF]
          have hpu := rowsTh_pur 146 131 69 ((newThs ps).take 1)
          refine nextN [(13, 0, 1), (13, 0, 7), (13, 0, 9)] (by simp only [merges, mergeH, go_sem, Nat.reduceLT, Nat.reduceLeDiff, Nat.reduceEqDiff, Nat.reduceAdd, Nat.reduceMul, Nat.reduceSub, reduceCtorEq, rowsI_len, rowsI_take, rowsE_len, rowsF_len, List.length_nil, List.take_zero, List.set_cons_succ, List.set_cons_zero, List.getElem?_cons_zero, Nat.le_refl]; rfl) [0, 1, 2, 3, 4, 5, 13] (0 + 1) rfl (by decide) (by decide) hJ (by omega) (by simp [updV, tmL, renV, renA, renC]) ?_
          rw [if_neg (by omega)]
          intro q hq2
          simp only [List.mem_cons, List.not_mem_nil, or_false] at hq2
          rcases hq2 with rfl | rfl | rfl | rfl | rfl | rfl
          all_goals simp [updH, hpL, renH_at, renE, renC, rowsN_pur, rowsH_pur, rowsD_pur, hpu]
          rw [hs0]
          rfl
        · rw [if_neg (by omega)]
          have hl1 := thT_len (ti := 146) (te := 131) (tf := 69) hle2
          have hl2 := thT_take (ti := 146) (te := 131) (tf := 69) hle2
          have F := And.intro @rowsP_len (And.intro hlt (And.intro hre (And.intro hl1 (And.intro hl2 @Nat.le_refl))))
          repeat' first
            | refine wSq fun _ hK => ?_
            | refine wRg ?_
            | refine wDr ?_
            | refine VWP_block ?_
            | refine VWP_skip ?_
            | refine VWP_exit ?_
            | refine VWP_ret ?_
            | (refine hK _ ?_; clear hK)
            | (clear hK; refine hK _ ?_; clear hK)
            | (clear hK; clear hK; refine hK _ ?_; clear hK)
            | (clear hK; clear hK; clear hK; refine hK _ ?_; clear hK)
            | (simp only [wHb, reduceCtorEq] at hb <;> try (exfalso; omega))
            | refine wCd (fun hb => ?_) fun hb => ?_
            | refine wCa (c := by first | exact hnt) (k := ?_)
            | simp only [go_sem, Nat.reduceLT, Nat.reduceLeDiff, Nat.reduceEqDiff, Nat.reduceAdd, Nat.reduceMul, Nat.reduceSub, reduceCtorEq, F]
            | simp (disch := omega) only [decide_eq_true_eq, if_pos, if_neg, wrap_id, le_maxLen, and_true, true_and, if_true, ite_true]
            | refine wGd (fun hb => ?_) fun hb => ?_
          refine nextN [(12, i, 1), (12, i, 7), (12, i, 9)] (by simp only [merges, mergeH, go_sem, Nat.reduceLT, Nat.reduceLeDiff, Nat.reduceEqDiff, Nat.reduceAdd, Nat.reduceMul, Nat.reduceSub, reduceCtorEq, thT_get hle2, thT_set hle2, rowsI_len, rowsI_take, rowsE_len, rowsF_len, List.length_nil, List.take_zero, List.set_cons_succ, List.set_cons_zero, Nat.le_refl]; rfl) [0, 1, 2, 3, 4, 5, 12] (i + 1) rfl (by decide) (by decide) hJ (by omega) (by simp [updV, tmL, renV, renA, renC, hw]) ?_
          rw [if_neg (by omega)]
          have hpu := rowsTh_pur 146 131 69 ((newThs ps).take (i + 1))
          have hsn2 : rowsTh 146 131 69 ((newThs ps).take (i + 1)) = rowsTh 146 131 69 ((newThs ps).take i) ++ [[.int .i64 (i : Int), .list 146 (rowsI p), .int .i64 0, .int .i64 0, .int .i64 0, .int .i64 0, .int .i64 0, .list 131 [], .int .i64 (-1), .list 69 [], .int .i64 (-1), .int .i64 0, .int .i64 0, .int .i64 0]] := by
            rw [← hsn]
            simp [rowsE, rowsF]
          intro q hq2
          simp only [List.mem_cons, List.not_mem_nil, or_false] at hq2
          rcases hq2 with rfl | rfl | rfl | rfl | rfl | rfl
          all_goals simp [updH, hpL, renH_at, renE, renC, rowsN_pur, rowsH_pur, rowsD_pur, hpu]
          rw [hsn2]
    · obtain rfl : i = ps.length := by omega
      have hall : ps.all progOkB = true := List.all_eq_true.2 fun p hp => by
        obtain ⟨j, hj⟩ := List.getElem?_of_mem hp
        exact hdone j p (List.getElem?_eq_some_iff.1 hj).1 hj
      have hyes : newWorldL xs ps = (⟨xs, ⟨hs, []⟩, newThs ps, []⟩, true) := by
        simp [newWorldL, newWorldOk, hall, hg2, hq]
      rw [hyes] at hr
      subst hr
      rw [if_neg (by omega)]
      have ht : (newThs ps).take ps.length = newThs ps := by rw [List.take_of_length_le (by rw [newThs_len]; exact Nat.le_refl _)]
      have hl3 : (rowsTh 146 131 69 (newThs ps)).length = ps.length := by rw [rowsTh_len, newThs_len]
      have hl4 : (rowsTh 146 131 69 (newThs ps)).take ps.length = rowsTh 146 131 69 (newThs ps) := by rw [List.take_of_length_le (by rw [hl3]; exact Nat.le_refl _)]
      rw [ht]
      have F := @rowsP_len
      repeat' first
        | refine wSq fun _ hK => ?_
        | refine wRg ?_
        | refine wDr ?_
        | refine VWP_block ?_
        | refine VWP_skip ?_
        | refine VWP_exit ?_
        | refine VWP_ret ?_
        | (refine hK _ ?_; clear hK)
        | (clear hK; refine hK _ ?_; clear hK)
        | (clear hK; clear hK; refine hK _ ?_; clear hK)
        | (clear hK; clear hK; clear hK; refine hK _ ?_; clear hK)
        | (simp only [wHb, reduceCtorEq] at hb <;> try (exfalso; omega))
        | refine wCd (fun hb => ?_) fun hb => ?_
        | simp only [go_sem, Nat.reduceLT, Nat.reduceLeDiff, Nat.reduceEqDiff, Nat.reduceAdd, Nat.reduceMul, Nat.reduceSub, reduceCtorEq, F]
        | simp (disch := omega) only [decide_eq_true_eq, if_pos, if_neg, wrap_id, le_maxLen, and_true, true_and, if_true, ite_true]
        | refine wGd (fun hb => ?_) fun hb => ?_
      refine ret_mk (vs := _) (acc := _) (by simp only [go_sem, Nat.reduceLT, Nat.reduceLeDiff, Nat.reduceEqDiff, Nat.reduceAdd, Nat.reduceMul, Nat.reduceSub, reduceCtorEq, vres]; rfl) (by simp only [go_sem, Nat.reduceLT, Nat.reduceLeDiff, Nat.reduceEqDiff, Nat.reduceAdd, Nat.reduceMul, Nat.reduceSub, reduceCtorEq, wrap, exV, exAs, exA, exCs, exC, rowsN_len, rowsN_take, rowsH_len, rowsH_take, rowsD_len, rowsD_take, List.length_nil, List.take_zero, hl3, hl4, newThs_len, Nat.le_refl]; rfl) (by simp) (by simp [rowsV, rowsD]) (by simp [rowsN_pur, rowsH_pur, rowsD_pur, rowsTh_pur, rowsV_pur])
  · have hno : newWorldL xs ps = (zeroW, false) := by
      have : newWorldOk xs ps = false := by
        simp only [newWorldOk, hq]
        cases b with
        | false => rfl
        | true => simp at hg; simp [hg]
      simp [newWorldL, this]
    rw [hno] at hr
    subst hr
    generalize inB ps.length 1 4 = B at *
    have F := And.intro @rowsN_len (And.intro @rowsH_len (And.intro @rowsD_len @rowsP_len))
    repeat' first
      | refine wSq fun _ hK => ?_
      | refine wRg ?_
      | refine wDr ?_
      | refine VWP_block ?_
      | refine VWP_skip ?_
      | refine VWP_exit ?_
      | refine VWP_ret ?_
      | (refine hK _ ?_; clear hK)
      | (clear hK; refine hK _ ?_; clear hK)
      | (clear hK; clear hK; refine hK _ ?_; clear hK)
      | (clear hK; clear hK; clear hK; refine hK _ ?_; clear hK)
      | (simp only [wHb, reduceCtorEq] at hb <;> try (exfalso; omega))
      | refine wCd (fun hb => ?_) fun hb => ?_
      | refine wCa (c := by first | exact hns | exact hown | exact hin) (k := ?_)
      | simp only [go_sem, Nat.reduceLT, Nat.reduceLeDiff, Nat.reduceEqDiff, Nat.reduceAdd, Nat.reduceMul, Nat.reduceSub, reduceCtorEq, F]
      | simp (disch := omega) only [decide_eq_true_eq, if_pos, if_neg, wrap_id, le_maxLen, and_true, true_and, if_true, ite_true]
      | refine wGd (fun hb => ?_) fun hb => ?_
    all_goals first
      | (exfalso; simp_all; done)
      | skip
    all_goals refine ret_mk (vs := _) (acc := _) (by simp only [go_sem, Nat.reduceLT, Nat.reduceLeDiff, Nat.reduceEqDiff, Nat.reduceAdd, Nat.reduceMul, Nat.reduceSub, reduceCtorEq, vres]; rfl) (by simp only [go_sem, Nat.reduceLT, Nat.reduceLeDiff, Nat.reduceEqDiff, Nat.reduceAdd, Nat.reduceMul, Nat.reduceSub, reduceCtorEq, wrap, exV, exAs, exA, exCs, exC]; rfl) (by simp) (by simp [rowsN, rowsH, rowsD, rowsTh, rowsV, zeroW]) (by simp [rowsN_pur, rowsH_pur, rowsD_pur, rowsTh_pur, rowsV_pur])
theorem specNewWorld_ok (xs : List Int) (ps : List (List InsS)) (r : WorldD × Bool) (hr : newWorldL xs ps = r) (hx : xs.length ≤ 1048576) (hl : ps.length ≤ 1048576) (he : ∀ p ∈ ps, p.length ≤ 1048576) :
    SatP Try.prog 52 [.fr 3 (rowsN xs), .fr 81 (rowsP 146 ps)]
      (.tup [.agg [.rf 0 r.1.first.length, .rf 1 r.1.store.heads.length, .rf 2 r.1.store.descs.length, .rf 3 r.1.threads.length, .rf 4 r.1.log.length], .bool r.2])
      [(3, rowsN r.1.first), (125, rowsH r.1.store.heads), (62, rowsD 131 r.1.store.descs), (83, rowsTh 146 131 69 r.1.threads), (193, rowsV r.1.log)] := by
  obtain ⟨⟨⟨hs, ds⟩, b⟩, hq⟩ : ∃ q, newStoreL xs = q := ⟨_, rfl⟩
  have hns := specNewStore_ok xs _ hq hx
  have hown := l1Copy_ok xs (by omega)
  have hin := l1In_ok ps.length 1 4
  have hds : ds = [] := by
    unfold newStoreL at hq
    split at hq <;> (cases hq; rfl)
  subst hds
  refine satP_of_body hT Try.func52 (by kernel_rfl) rfl (rs := [.cell 4 94, .tmp 5]) rfl (n := 55) rfl (by simp) rfl (by simp [rowsN_pur, rowsH_pur, rowsD_pur, rowsTh_pur, rowsV_pur]) fun E hE => ?_
  unfold St.init
  simp only at hns
  by_cases hg : b = true ∧ inB ps.length 1 4 = true
  · obtain ⟨rfl, hg2⟩ := hg
    have hps : 1 ≤ ps.length ∧ ps.length ≤ 4 := by simp [inB] at hg2; omega
    rw [hg2] at hin
    have F := And.intro @rowsN_len (And.intro @rowsH_len (And.intro @rowsD_len (And.intro @rowsP_len @List.length_nil.{0})))
    repeat' first
      | refine wSq fun _ hK => ?_
      | refine wRg ?_
      | refine wDr ?_
      | refine VWP_block ?_
      | refine VWP_skip ?_
      | refine VWP_exit ?_
      | refine VWP_ret ?_
      | (refine hK _ ?_; clear hK)
      | (clear hK; refine hK _ ?_; clear hK)
      | (clear hK; clear hK; refine hK _ ?_; clear hK)
      | (clear hK; clear hK; clear hK; refine hK _ ?_; clear hK)
      | (simp only [wHb, reduceCtorEq] at hb <;> try (exfalso; omega))
      | refine wCd (fun hb => ?_) fun hb => ?_
      | refine wCa (c := by first | exact hns | exact hown | exact hin) (k := ?_)
      | simp only [go_sem, Nat.reduceLT, Nat.reduceLeDiff, Nat.reduceEqDiff, Nat.reduceAdd, Nat.reduceMul, Nat.reduceSub, reduceCtorEq, F]
      | simp (disch := omega) only [decide_eq_true_eq, if_pos, if_neg, wrap_id, le_maxLen, and_true, true_and, if_true, ite_true]
      | refine wGd (fun hb => ?_) fun hb => ?_
    refine VWP_loopN hE (X := Nat) (fun i => [(4, .bp 0 0), (8, .bp 5 0), (1, .fr 81 (rowsP 146 ps)), (9, .int .i64 i)]) (fun i => if i = 0 then [(0, .box [.nl 3, .nl 125, .nl 62, .nl 83, .nl 193]), (5, .box [.rf 4 xs.length, .rf 1 hs.length, .rf 2 0, .nl 83, .nl 193]), (1, .root 125 (rowsH hs)), (2, .root 62 (rowsD 131 [])), (4, .root 3 (rowsN xs))] else [(0, .box [.nl 3, .nl 125, .nl 62, .nl 83, .nl 193]), (5, .box [.rf 4 xs.length, .rf 1 hs.length, .rf 2 0, .rf 6 i, .nl 193]), (1, .root 125 (rowsH hs)), (2, .root 62 (rowsD 131 [])), (4, .root 3 (rowsN xs)), (6, .root 83 (rowsTh 146 131 69 ((newThs ps).take i)))]) (fun i => ps.length - i)
      (fun i => i ≤ ps.length ∧ ∀ (j : Nat) (p : List InsS), j < i → ps[j]? = some p → progOkB p = true) [0, 1, 2, 3, 68, 260, 300] 0 ⟨by simp, fun j p hj => by omega⟩ (by decide) (by decide) (by simp [updV, renV, renA, renC]) (by simp [updH, renH_at, renE, renC, rowsN_pur, rowsH_pur, rowsD_pur]) ?_
    rintro i ⟨hi, hdone⟩
    have hw := wrap_id (x := (i : Int) + 1) (by omega)
    rcases Nat.lt_or_ge i ps.length with hlt | hge
    · obtain ⟨p, hp⟩ : ∃ p, ps[i]? = some p := ⟨_, List.getElem?_eq_getElem hlt⟩
      have hre := rowsP_at (ti := 146) hp
      have hpl := he p (List.mem_of_getElem? hp)
      rcases (Bool.eq_false_or_eq_true (progOkB p)).symm with hpb | hpb
      · have hnt := specNewThread_ok i p _ (newThread_no hpb) hpl
        have hno : newWorldL xs ps = (zeroW, false) := by
          have : ps.all progOkB = false := List.all_eq_false.2 ⟨p, List.mem_of_getElem? hp, by simp [hpb]⟩
          simp [newWorldL, newWorldOk, this]
        rw [hno] at hr
        subst hr
        simp only [outT, zeroT, List.length_nil] at hnt
        rcases Nat.eq_zero_or_pos i with hi0 | hi0
        · rw [if_pos hi0]
          have F := And.intro @rowsP_len (And.intro hlt hre)
          repeat' first
            | refine wSq fun _ hK => ?_
            | refine wRg ?_
            | refine wDr ?_
            | refine VWP_block ?_
            | refine VWP_skip ?_
            | refine VWP_exit ?_
            | refine VWP_ret ?_
            | (refine hK _ ?_; clear hK)
            | (clear hK; refine hK _ ?_; clear hK)
            | (clear hK; clear hK; refine hK _ ?_; clear hK)
            | (clear hK; clear hK; clear hK; refine hK _ ?_; clear hK)
            | (simp only [wHb, reduceCtorEq] at hb <;> try (exfalso; omega))
            | refine wCd (fun hb => ?_) fun hb => ?_
            | refine wCa (c := by first | exact hnt) (k := ?_)
            | simp only [go_sem, Nat.reduceLT, Nat.reduceLeDiff, Nat.reduceEqDiff, Nat.reduceAdd, Nat.reduceMul, Nat.reduceSub, reduceCtorEq, F]
            | simp (disch := omega) only [decide_eq_true_eq, if_pos, if_neg, wrap_id, le_maxLen, and_true, true_and, if_true, ite_true]
            | refine wGd (fun hb => ?_) fun hb => ?_
          refine ret_mk (vs := _) (acc := _) (by simp only [go_sem, Nat.reduceLT, Nat.reduceLeDiff, Nat.reduceEqDiff, Nat.reduceAdd, Nat.reduceMul, Nat.reduceSub, reduceCtorEq, vres]; rfl) (by simp only [go_sem, Nat.reduceLT, Nat.reduceLeDiff, Nat.reduceEqDiff, Nat.reduceAdd, Nat.reduceMul, Nat.reduceSub, reduceCtorEq, wrap, exV, exAs, exA, exCs, exC]; rfl) (by simp) (by simp [rowsN, rowsH, rowsD, rowsTh, rowsV, zeroW]) (by simp [rowsN_pur, rowsH_pur, rowsD_pur, rowsTh_pur, rowsV_pur])
        · rw [if_neg (by omega)]
          have F := And.intro @rowsP_len (And.intro hlt hre)
          repeat' first
            | refine wSq fun _ hK => ?_
            | refine wRg ?_
            | refine wDr ?_
            | refine VWP_block ?_
            | refine VWP_skip ?_
            | refine VWP_exit ?_
            | refine VWP_ret ?_
            | (refine hK _ ?_; clear hK)
            | (clear hK; refine hK _ ?_; clear hK)
            | (clear hK; clear hK; refine hK _ ?_; clear hK)
            | (clear hK; clear hK; clear hK; refine hK _ ?_; clear hK)
            | (simp only [wHb, reduceCtorEq] at hb <;> try (exfalso; omega))
            | refine wCd (fun hb => ?_) fun hb => ?_
            | refine wCa (c := by first | exact hnt) (k := ?_)
            | simp only [go_sem, Nat.reduceLT, Nat.reduceLeDiff, Nat.reduceEqDiff, Nat.reduceAdd, Nat.reduceMul, Nat.reduceSub, reduceCtorEq, F]
            | simp (disch := omega) only [decide_eq_true_eq, if_pos, if_neg, wrap_id, le_maxLen, and_true, true_and, if_true, ite_true]
            | refine wGd (fun hb => ?_) fun hb => ?_
          refine ret_mk (vs := _) (acc := _) (by simp only [go_sem, Nat.reduceLT, Nat.reduceLeDiff, Nat.reduceEqDiff, Nat.reduceAdd, Nat.reduceMul, Nat.reduceSub, reduceCtorEq, vres]; rfl) (by simp only [go_sem, Nat.reduceLT, Nat.reduceLeDiff, Nat.reduceEqDiff, Nat.reduceAdd, Nat.reduceMul, Nat.reduceSub, reduceCtorEq, wrap, exV, exAs, exA, exCs, exC]; rfl) (by simp) (by simp [rowsN, rowsH, rowsD, rowsTh, rowsV, zeroW]) (by simp [rowsN_pur, rowsH_pur, rowsD_pur, rowsTh_pur, rowsV_pur])
      · have hnt := specNewThread_ok i p _ (newThread_at (by omega) hpb) hpl
        simp only [outT, newTh, List.length_nil] at hnt
        have hti := newThs_at hp
        have hsn := thT_snoc (ti := 146) (te := 131) (tf := 69) hti
        have hle2 : i ≤ (newThs ps).length := by rw [newThs_len]; exact hi
        simp only [rowTh, newTh] at hsn
        have hJ : i + 1 ≤ ps.length ∧ ∀ (j : Nat) (p : List InsS), j < i + 1 → ps[j]? = some p → progOkB p = true := ⟨hlt, fun j q hj hq => by
          rcases Nat.lt_or_ge j i with h | h
          · exact hdone j q h hq
          · obtain rfl : j = i := by omega
            rw [hp] at hq; cases hq; exact hpb⟩
        rcases Nat.eq_zero_or_pos i with hi0 | hi0
        · subst hi0
          rw [if_pos rfl]
          have F := And.intro @rowsP_len (And.intro hlt hre)
          repeat' first
            | refine wSq fun _ hK => ?_
            | refine wRg ?_
            | refine wDr ?_
            | refine VWP_block ?_
            | refine VWP_skip ?_
            | refine VWP_exit ?_
            | refine VWP_ret ?_
            | (refine hK _ ?_; clear hK)
            | (clear hK; refine hK _ ?_; clear hK)
            | (clear hK; clear hK; refine hK _ ?_; clear hK)
            | (clear hK; clear hK; clear hK; refine hK _ ?_; clear hK)
            | (simp only [wHb, reduceCtorEq] at hb <;> try (exfalso; omega))
            | refine wCd (fun hb => ?_) fun hb => ?_
            | refine wCa (c := by first | exact hnt) (k := ?_)
            | simp only [go_sem, Nat.reduceLT, Nat.reduceLeDiff, Nat.reduceEqDiff, Nat.reduceAdd, Nat.reduceMul, Nat.reduceSub, reduceCtorEq, F]
            | simp (disch := omega) only [decide_eq_true_eq, if_pos, if_neg, wrap_id, le_maxLen, and_true, true_and, if_true, ite_true]
            | refine wGd (fun hb => ?_) fun hb => ?_
          have hs0 : rowsTh 146 131 69 ((newThs ps).take 1) = [[.int .i64 ((0 : Nat) : Int), .list 146 (rowsI p), .int .i64 0, .int .i64 0, .int .i64 0, .int .i64 0, .int .i64 0, .list 131 [], .int .i64 (-1), .list 69 [], .int .i64 (-1), .int .i64 0, .int .i64 0, .int .i64 0]] := by
            rw [← hsn]
            simp [rowsTh, rowsE, rowsF]
          have hpu := rowsTh_pur 146 131 69 ((newThs ps).take 1)
          refine nextN [(13, 0, 1), (13, 0, 7), (13, 0, 9)] (by simp only [merges, mergeH, go_sem, Nat.reduceLT, Nat.reduceLeDiff, Nat.reduceEqDiff, Nat.reduceAdd, Nat.reduceMul, Nat.reduceSub, reduceCtorEq, rowsI_len, rowsI_take, rowsE_len, rowsF_len, List.length_nil, List.take_zero, List.set_cons_succ, List.set_cons_zero, List.getElem?_cons_zero, Nat.le_refl]; rfl) [0, 1, 2, 3, 4, 5, 13] (0 + 1) rfl (by decide) (by decide) hJ (by omega) (by simp [updV, tmL, renV, renA, renC]) ?_
          rw [if_neg (by omega)]
          intro q hq2
          simp only [List.mem_cons, List.not_mem_nil, or_false] at hq2
          rcases hq2 with rfl | rfl | rfl | rfl | rfl | rfl
          all_goals simp [updH, hpL, renH_at, renE, renC, rowsN_pur, rowsH_pur, rowsD_pur, hpu]
          rw [hs0]
          rfl
        · rw [if_neg (by omega)]
          have hl1 := thT_len (ti := 146) (te := 131) (tf := 69) hle2
          have hl2 := thT_take (ti := 146) (te := 131) (tf := 69) hle2
          have F := And.intro @rowsP_len (And.intro hlt (And.intro hre (And.intro hl1 (And.intro hl2 @Nat.le_refl))))
          repeat' first
            | refine wSq fun _ hK => ?_
            | refine wRg ?_
            | refine wDr ?_
            | refine VWP_block ?_
            | refine VWP_skip ?_
            | refine VWP_exit ?_
            | refine VWP_ret ?_
            | (refine hK _ ?_; clear hK)
            | (clear hK; refine hK _ ?_; clear hK)
            | (clear hK; clear hK; refine hK _ ?_; clear hK)
            | (clear hK; clear hK; clear hK; refine hK _ ?_; clear hK)
            | (simp only [wHb, reduceCtorEq] at hb <;> try (exfalso; omega))
            | refine wCd (fun hb => ?_) fun hb => ?_
            | refine wCa (c := by first | exact hnt) (k := ?_)
            | simp only [go_sem, Nat.reduceLT, Nat.reduceLeDiff, Nat.reduceEqDiff, Nat.reduceAdd, Nat.reduceMul, Nat.reduceSub, reduceCtorEq, F]
            | simp (disch := omega) only [decide_eq_true_eq, if_pos, if_neg, wrap_id, le_maxLen, and_true, true_and, if_true, ite_true]
            | refine wGd (fun hb => ?_) fun hb => ?_
          refine nextN [(12, i, 1), (12, i, 7), (12, i, 9)] (by simp only [merges, mergeH, go_sem, Nat.reduceLT, Nat.reduceLeDiff, Nat.reduceEqDiff, Nat.reduceAdd, Nat.reduceMul, Nat.reduceSub, reduceCtorEq, thT_get hle2, thT_set hle2, rowsI_len, rowsI_take, rowsE_len, rowsF_len, List.length_nil, List.take_zero, List.set_cons_succ, List.set_cons_zero, Nat.le_refl]; rfl) [0, 1, 2, 3, 4, 5, 12] (i + 1) rfl (by decide) (by decide) hJ (by omega) (by simp [updV, tmL, renV, renA, renC, hw]) ?_
          rw [if_neg (by omega)]
          have hpu := rowsTh_pur 146 131 69 ((newThs ps).take (i + 1))
          have hsn2 : rowsTh 146 131 69 ((newThs ps).take (i + 1)) = rowsTh 146 131 69 ((newThs ps).take i) ++ [[.int .i64 (i : Int), .list 146 (rowsI p), .int .i64 0, .int .i64 0, .int .i64 0, .int .i64 0, .int .i64 0, .list 131 [], .int .i64 (-1), .list 69 [], .int .i64 (-1), .int .i64 0, .int .i64 0, .int .i64 0]] := by
            rw [← hsn]
            simp [rowsE, rowsF]
          intro q hq2
          simp only [List.mem_cons, List.not_mem_nil, or_false] at hq2
          rcases hq2 with rfl | rfl | rfl | rfl | rfl | rfl
          all_goals simp [updH, hpL, renH_at, renE, renC, rowsN_pur, rowsH_pur, rowsD_pur, hpu]
          rw [hsn2]
    · obtain rfl : i = ps.length := by omega
      have hall : ps.all progOkB = true := List.all_eq_true.2 fun p hp => by
        obtain ⟨j, hj⟩ := List.getElem?_of_mem hp
        exact hdone j p (List.getElem?_eq_some_iff.1 hj).1 hj
      have hyes : newWorldL xs ps = (⟨xs, ⟨hs, []⟩, newThs ps, []⟩, true) := by
        simp [newWorldL, newWorldOk, hall, hg2, hq]
      rw [hyes] at hr
      subst hr
      rw [if_neg (by omega)]
      have ht : (newThs ps).take ps.length = newThs ps := by rw [List.take_of_length_le (by rw [newThs_len]; exact Nat.le_refl _)]
      have hl3 : (rowsTh 146 131 69 (newThs ps)).length = ps.length := by rw [rowsTh_len, newThs_len]
      have hl4 : (rowsTh 146 131 69 (newThs ps)).take ps.length = rowsTh 146 131 69 (newThs ps) := by rw [List.take_of_length_le (by rw [hl3]; exact Nat.le_refl _)]
      rw [ht]
      have F := @rowsP_len
      repeat' first
        | refine wSq fun _ hK => ?_
        | refine wRg ?_
        | refine wDr ?_
        | refine VWP_block ?_
        | refine VWP_skip ?_
        | refine VWP_exit ?_
        | refine VWP_ret ?_
        | (refine hK _ ?_; clear hK)
        | (clear hK; refine hK _ ?_; clear hK)
        | (clear hK; clear hK; refine hK _ ?_; clear hK)
        | (clear hK; clear hK; clear hK; refine hK _ ?_; clear hK)
        | (simp only [wHb, reduceCtorEq] at hb <;> try (exfalso; omega))
        | refine wCd (fun hb => ?_) fun hb => ?_
        | simp only [go_sem, Nat.reduceLT, Nat.reduceLeDiff, Nat.reduceEqDiff, Nat.reduceAdd, Nat.reduceMul, Nat.reduceSub, reduceCtorEq, F]
        | simp (disch := omega) only [decide_eq_true_eq, if_pos, if_neg, wrap_id, le_maxLen, and_true, true_and, if_true, ite_true]
        | refine wGd (fun hb => ?_) fun hb => ?_
      refine ret_mk (vs := _) (acc := _) (by simp only [go_sem, Nat.reduceLT, Nat.reduceLeDiff, Nat.reduceEqDiff, Nat.reduceAdd, Nat.reduceMul, Nat.reduceSub, reduceCtorEq, vres]; rfl) (by simp only [go_sem, Nat.reduceLT, Nat.reduceLeDiff, Nat.reduceEqDiff, Nat.reduceAdd, Nat.reduceMul, Nat.reduceSub, reduceCtorEq, wrap, exV, exAs, exA, exCs, exC, rowsN_len, rowsN_take, rowsH_len, rowsH_take, rowsD_len, rowsD_take, List.length_nil, List.take_zero, hl3, hl4, newThs_len, Nat.le_refl]; rfl) (by simp) (by simp [rowsV, rowsD]) (by simp [rowsN_pur, rowsH_pur, rowsD_pur, rowsTh_pur, rowsV_pur])
  · have hno : newWorldL xs ps = (zeroW, false) := by
      have : newWorldOk xs ps = false := by
        simp only [newWorldOk, hq]
        cases b with
        | false => rfl
        | true => simp at hg; simp [hg]
      simp [newWorldL, this]
    rw [hno] at hr
    subst hr
    generalize inB ps.length 1 4 = B at *
    have F := And.intro @rowsN_len (And.intro @rowsH_len (And.intro @rowsD_len @rowsP_len))
    repeat' first
      | refine wSq fun _ hK => ?_
      | refine wRg ?_
      | refine wDr ?_
      | refine VWP_block ?_
      | refine VWP_skip ?_
      | refine VWP_exit ?_
      | refine VWP_ret ?_
      | (refine hK _ ?_; clear hK)
      | (clear hK; refine hK _ ?_; clear hK)
      | (clear hK; clear hK; refine hK _ ?_; clear hK)
      | (clear hK; clear hK; clear hK; refine hK _ ?_; clear hK)
      | (simp only [wHb, reduceCtorEq] at hb <;> try (exfalso; omega))
      | refine wCd (fun hb => ?_) fun hb => ?_
      | refine wCa (c := by first | exact hns | exact hown | exact hin) (k := ?_)
      | simp only [go_sem, Nat.reduceLT, Nat.reduceLeDiff, Nat.reduceEqDiff, Nat.reduceAdd, Nat.reduceMul, Nat.reduceSub, reduceCtorEq, F]
      | simp (disch := omega) only [decide_eq_true_eq, if_pos, if_neg, wrap_id, le_maxLen, and_true, true_and, if_true, ite_true]
      | refine wGd (fun hb => ?_) fun hb => ?_
    all_goals first
      | (exfalso; simp_all; done)
      | skip
    all_goals refine ret_mk (vs := _) (acc := _) (by simp only [go_sem, Nat.reduceLT, Nat.reduceLeDiff, Nat.reduceEqDiff, Nat.reduceAdd, Nat.reduceMul, Nat.reduceSub, reduceCtorEq, vres]; rfl) (by simp only [go_sem, Nat.reduceLT, Nat.reduceLeDiff, Nat.reduceEqDiff, Nat.reduceAdd, Nat.reduceMul, Nat.reduceSub, reduceCtorEq, wrap, exV, exAs, exA, exCs, exC]; rfl) (by simp) (by simp [rowsN, rowsH, rowsD, rowsTh, rowsV, zeroW]) (by simp [rowsN_pur, rowsH_pur, rowsD_pur, rowsTh_pur, rowsV_pur])
end Go.Proofs.Ytclljpdcpcolpaa
