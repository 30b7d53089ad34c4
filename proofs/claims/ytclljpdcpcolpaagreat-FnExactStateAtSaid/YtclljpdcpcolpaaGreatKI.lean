/- What the tests of a world's events give. -/
import Derived.Test.YtclljpdcpcolpaaGreatZB
import Derived.Test.YtclljpdcpcolpaaGreatNA
namespace Go.Proofs.YtclljpdcpcolpaaGreat
open Go Go.RowKit
set_option linter.unusedVariables false
set_option linter.unusedSimpArgs false
set_option maxRecDepth 100000
set_option maxHeartbeats 4000000
attribute [local irreducible] VWP vops vdraw contV contD CallK Guard GuardV NextL Puts Runs RetOK RetQ RetO RetQO thenQ blockQ

/-- An event is as told, in a world of so many values, descriptors and threads. -/
def evB (nf nd nt : Nat) (e : EventD) : Bool := inB e.kind 1 6 && inB e.thread 0 ((nt : Int) - 1) &&
  (if e.kind = 1 then inB e.object 0 ((nf : Int) - 1) && inB e.value (-1000000000) 1000000000 else if e.kind = 3 then inB e.object 0 ((nd : Int) - 1) else true)
def isCom (k : Nat) (e : EventD) : Bool := e.kind == 3 && e.object == (k : Int)
/-- How many events are commits of a descriptor. -/
def cntL (log : List EventD) (k : Nat) : Int := (log.countP (isCom k) : Nat)
def countsL (n : Nat) (log : List EventD) : List Int := (List.range n).map (cntL log)
def LogP (nf nt : Nat) (ds : List DescS) (log : List EventD) : Prop := (∀ (i : Nat) (e : EventD), log[i]? = some e → evB nf ds.length nt e = true) ∧
  (∀ (k : Nat) (d : DescS), ds[k]? = some d → cntL log k = if d.status = 1 then 1 else 0) ∧ log.length ≤ 3000
theorem countsL_len (n : Nat) (log : List EventD) : (countsL n log).length = n := by simp [countsL]
theorem countsL_at {n : Nat} {log : List EventD} {k : Nat} (h : k < n) : (countsL n log)[k]? = some (cntL log k) := by simp [countsL, h]
theorem countsL_nil (n : Nat) : countsL n [] = List.replicate n 0 := by
  refine List.ext_getElem? fun j => ?_
  rcases Nat.lt_or_ge j n with h | h
  · rw [countsL_at h]; simp [cntL, h]
  · rw [List.getElem?_eq_none (by rw [countsL_len]; omega), List.getElem?_eq_none (by simp; omega)]
theorem rowsN_zeros (n : Nat) : rowsN (countsL n []) = List.replicate n [.int .i64 0] := by
  rw [countsL_nil]
  simp [rowsN, encN]
theorem cntL_le (log : List EventD) (k i : Nat) : 0 ≤ cntL (log.take i) k ∧ cntL (log.take i) k ≤ log.length := by
  unfold cntL
  have h1 := List.countP_le_length (p := isCom k) (l := log.take i)
  have h2 : (log.take i).length ≤ log.length := by simp; omega
  omega
theorem cntL_succ {log : List EventD} {i : Nat} {e : EventD} (he : log[i]? = some e) (k : Nat) : cntL (log.take (i + 1)) k = cntL (log.take i) k + (if isCom k e = true then 1 else 0) := by
  unfold cntL
  rw [List.take_add_one, he, List.countP_append]
  simp only [Option.toList, List.countP_cons, List.countP_nil, Nat.zero_add]
  split <;> simp
theorem counts_same {n : Nat} {log : List EventD} {i : Nat} {e : EventD} (he : log[i]? = some e) (h : e.kind ≠ 3) : countsL n (log.take (i + 1)) = countsL n (log.take i) := by
  unfold countsL
  refine List.map_congr_left fun k _ => ?_
  rw [cntL_succ he, if_neg (by simp [isCom, h])]
  omega
theorem counts_more {n : Nat} {log : List EventD} {i k : Nat} {e : EventD} (he : log[i]? = some e) (h : e.kind = 3) (hk : e.object = k) (hkn : k < n) :
    (countsL n (log.take i)).set k (cntL (log.take i) k + 1) = countsL n (log.take (i + 1)) := by
  refine List.ext_getElem? fun j => ?_
  by_cases hj : j = k
  · subst hj
    rw [List.getElem?_set_self (by rw [countsL_len]; exact hkn), countsL_at hkn, cntL_succ he, if_pos (by simp [isCom, h, hk])]
  · rw [List.getElem?_set_ne (Ne.symm hj)]
    rcases Nat.lt_or_ge j n with h1 | h1
    · rw [countsL_at h1, countsL_at h1, cntL_succ he, if_neg (by simp [isCom, hk]; omega)]
      simp
    · rw [List.getElem?_eq_none (by rw [countsL_len]; omega), List.getElem?_eq_none (by rw [countsL_len]; omega)]
theorem log_bad {nf nt : Nat} {ds : List DescS} {log : List EventD} {i : Nat} {e : EventD} (he : log[i]? = some e) (h : evB nf ds.length nt e = false) : bP (LogP nf nt ds log) = false := bP_false fun hh => by rw [hh.1 i e he] at h; cases h
theorem log_cnt {nf nt : Nat} {ds : List DescS} {log : List EventD} {k : Nat} {d : DescS} (hd : ds[k]? = some d) (h : cntL log k ≠ if d.status = 1 then 1 else 0) : bP (LogP nf nt ds log) = false := bP_false fun hh => h (hh.2.1 k d hd)
theorem isLogged_ok (w : WorldD) (hs : w.tiny) : SatP Tryz.prog 55 [.agg [.fr 3 (rowsN w.first), .fr 67 (rowsH w.store.heads), .fr 70 (rowsD 72 w.store.descs), .fr 91 (rowsTh 120 72 137 w.threads), .fr 55 (rowsV w.log)]] (.bool (bP (LogP w.first.length w.threads.length w.store.descs w.log))) [] := by
  obtain ⟨f1, ⟨s1, s2, s3⟩, f3, f4, f5⟩ := hs
  have hwf := wrap_id (x := (w.first.length : Int) - 1) (by omega)
  have hwt := wrap_id (x := (w.threads.length : Int) - 1) (by omega)
  have hwd := wrap_id (x := (w.store.descs.length : Int) - 1) (by omega)
  refine satP_of_body hT Tryz.func55 (by kernel_rfl) rfl (rs := [.tmp 2]) rfl (n := 105) rfl (by simp) rfl (by simp) fun E hE => ?_
  unfold St.init
  have F := And.intro @rowsD_len @rowsV_len
  repeat' first
    | refine wSq fun _ hK => ?_
    | refine wRg ?_
    | refine wDr ?_
    | refine VWP_block ?_
    | refine VWP_skip ?_
    | refine VWP_exit ?_
    | refine VWP_ret ?_
    | (refine hK _ ?_; clear hK)
    | (clear hK; refine hK _ ?_; clear hK)
    | (clear hK; clear hK; refine hK _ ?_; clear hK)
    | (clear hK; clear hK; clear hK; refine hK _ ?_; clear hK)
    | (simp only [wHb, reduceCtorEq] at hb <;> try (exfalso; omega))
    | refine wCd (fun hb => ?_) fun hb => ?_
    | simp only [go_sem, Nat.reduceLT, Nat.reduceLeDiff, Nat.reduceEqDiff, Nat.reduceAdd, Nat.reduceMul, Nat.reduceSub, reduceCtorEq, F]
    | simp (disch := omega) only [decide_eq_true_eq, if_pos, if_neg, wrap_id, le_maxLen, and_true, true_and, if_true, ite_true]
    | refine wGd (fun hb => ?_) fun hb => ?_
  refine VWP_loopL (X := Nat) (fun i => [(1, .bp 0 0), (3, .rf 1 w.store.descs.length), (14, .fr 55 (rowsV w.log)), (15, .int .i64 w.log.length), (16, .int .i64 i)]) (fun i => [(0, .box [.fr 3 (rowsN w.first), .fr 67 (rowsH w.store.heads), .fr 70 (rowsD 72 w.store.descs), .fr 91 (rowsTh 120 72 137 w.threads), .fr 55 (rowsV w.log)]), (1, .root 3 (rowsN (countsL w.store.descs.length (w.log.take i))))]) (fun i => w.log.length - i)
    (fun i => i ≤ w.log.length ∧ ∀ (j : Nat) (e : EventD), j < i → w.log[j]? = some e → evB w.first.length w.store.descs.length w.threads.length e = true) 2 0 ⟨by simp, by simp⟩ (by simp [updV]) (by simp [updH, rowsN_zeros]) (by simp) ?_
  rintro i nx ⟨hi, hdone⟩ hB
  have n0 : nx ≠ 0 := by omega
  have n1 : nx ≠ 1 := by omega
  have m0 : (0 : Nat) ≠ nx := by omega
  have m1 : (1 : Nat) ≠ nx := by omega
  rcases Nat.lt_or_ge i w.log.length with hlt | hge
  · obtain ⟨e, he⟩ : ∃ e, w.log[i]? = some e := ⟨_, List.getElem?_eq_getElem hlt⟩
    have hre := rowsV_at he
    have hw := wrap_id (x := (i : Int) + 1) (by omega)
    have hle : w.store.descs.length ≤ (rowsN (countsL w.store.descs.length (w.log.take i))).length := by rw [rowsN_len, countsL_len]; exact Nat.le_refl _
    have hon : evB w.first.length w.store.descs.length w.threads.length e = true → ∀ (j : Nat) (y : EventD), j < i + 1 → w.log[j]? = some y → evB w.first.length w.store.descs.length w.threads.length y = true := fun h j y hj hy => by
      rcases Nat.lt_or_ge j i with h1 | h1
      · exact hdone j y h1 hy
      · obtain rfl : j = i := by omega
        rw [he] at hy; cases hy; exact h
    by_cases k1 : e.kind = 1
    · have hsm := counts_same (n := w.store.descs.length) he (by omega)
      have hev : evB w.first.length w.store.descs.length w.threads.length e = (inB e.thread 0 ((w.threads.length : Int) - 1) && (inB e.object 0 ((w.first.length : Int) - 1) && inB e.value (-1000000000) 1000000000)) := by
        unfold evB
        rw [if_pos k1, k1]
        rfl
      have hi1 : inB 1 1 6 = true := rfl
      have F := And.intro @rowsD_len (And.intro @rowsV_len (And.intro @rowsN_len (And.intro @rowsTh_len (And.intro hre (And.intro k1 (And.intro hi1 (And.intro hwf (And.intro hwt (And.intro hwd (And.intro n0 (And.intro n1 (And.intro m0 m1))))))))))))
      repeat' first
        | refine wSq fun _ hK => ?_
        | refine wRg ?_
        | refine wDr ?_
        | refine VWP_block ?_
        | refine VWP_skip ?_
        | refine VWP_exit ?_
        | refine VWP_ret ?_
        | (refine hK _ ?_; clear hK)
        | (clear hK; refine hK _ ?_; clear hK)
        | (clear hK; clear hK; refine hK _ ?_; clear hK)
        | (clear hK; clear hK; clear hK; refine hK _ ?_; clear hK)
        | (simp only [wHb, reduceCtorEq] at hb <;> try (exfalso; omega))
        | refine wCdx (fun hb => ?_) fun hb => ?_
        | refine wCax (c := by first | exact in_ok _ _ _ | exact isValue_ok _) (k := ?_)
        | simp only [go_sem, Nat.reduceLT, Nat.reduceLeDiff, Nat.reduceEqDiff, Nat.reduceAdd, Nat.reduceMul, Nat.reduceSub, reduceCtorEq, Int.reduceBEq, Int.reduceBNe, Int.reduceLT, Int.reduceLE, Int.reduceAdd, Int.reduceToNat, F]
        | simp (disch := omega) only [decide_eq_true_eq, if_pos, if_neg, wrap_id, le_maxLen, and_true, true_and, if_true, ite_true]
        | refine wGdx (fun hb => ?_) fun hb => ?_
      all_goals first
        | (refine wLf ?_
           rw [log_bad he (by rw [hev]; simp_all)]
           done)
        | (refine nextL (i + 1) ⟨by omega, hon (by rw [hev]; simp_all)⟩ (by omega) (by simp [updV, tmL, hw]) (by simp [updH, hpL, hsm, n0, n1, m0, m1]) (by omega)
           done)
    · have k1q : (e.kind == 1) = false := by simpa using k1
      by_cases k3 : e.kind = 3
      · have hev : evB w.first.length w.store.descs.length w.threads.length e = (inB e.thread 0 ((w.threads.length : Int) - 1) && inB e.object 0 ((w.store.descs.length : Int) - 1)) := by
          unfold evB
          rw [if_neg k1, if_pos k3, k3]
          rfl
        have hi1 : inB 3 1 6 = true := rfl
        by_cases ho : 0 ≤ e.object ∧ e.object < w.store.descs.length
        · obtain ⟨k, hk⟩ : ∃ k : Nat, e.object = k := ⟨e.object.toNat, by omega⟩
          have hkn : k < w.store.descs.length := by omega
          have hk0 : (0 : Int) ≤ (k : Nat) := by omega
          have hin : inB k 0 ((w.store.descs.length : Int) - 1) = true := by simp [inB]; omega
          have hrc := rowsN_at (countsL_at (log := w.log.take i) hkn)
          have hcl := cntL_le w.log k i
          have hwc := wrap_id (x := cntL (w.log.take i) k + 1) (by omega)
          have hmo := counts_more he k3 hk hkn
          rw [hk] at hre hev
          have F := And.intro @rowsD_len (And.intro @rowsV_len (And.intro @rowsN_len (And.intro @rowsTh_len (And.intro @countsL_len (And.intro hre (And.intro k3 (And.intro hi1 (And.intro hwf (And.intro hwt (And.intro hwd (And.intro n0 (And.intro n1 (And.intro m0 (And.intro m1 (And.intro hle (And.intro hin (And.intro hk0 (And.intro hkn (And.intro hrc (And.intro hwc (And.intro @rowsN_set hmo)))))))))))))))))))))
          repeat' first
            | refine wSq fun _ hK => ?_
            | refine wRg ?_
            | refine wDr ?_
            | refine VWP_block ?_
            | refine VWP_skip ?_
            | refine VWP_exit ?_
            | refine VWP_ret ?_
            | (refine hK _ ?_; clear hK)
            | (clear hK; refine hK _ ?_; clear hK)
            | (clear hK; clear hK; refine hK _ ?_; clear hK)
            | (clear hK; clear hK; clear hK; refine hK _ ?_; clear hK)
            | (simp only [wHb, reduceCtorEq] at hb <;> try (exfalso; omega))
            | refine wCdx (fun hb => ?_) fun hb => ?_
            | refine wCax (c := by first | exact in_ok _ _ _) (k := ?_)
            | simp only [go_sem, Nat.reduceLT, Nat.reduceLeDiff, Nat.reduceEqDiff, Nat.reduceAdd, Nat.reduceMul, Nat.reduceSub, reduceCtorEq, Int.reduceBEq, Int.reduceBNe, Int.reduceLT, Int.reduceLE, Int.reduceAdd, Int.reduceToNat, F]
            | simp (disch := omega) only [decide_eq_true_eq, if_pos, if_neg, wrap_id, le_maxLen, and_true, true_and, if_true, ite_true]
            | refine wGdx (fun hb => ?_) fun hb => ?_
          all_goals first
            | (refine wLf ?_
               rw [log_bad he (by rw [hev]; simp_all)]
               done)
            | (refine nextL (i + 1) ⟨by omega, hon (by rw [hev]; simp_all)⟩ (by omega) (by simp [updV, tmL, hw]) (by simp [updH, hpL, rowsN_set, hmo, n0, n1, m0, m1]) (by omega)
               done)
        · have hin : inB e.object 0 ((w.store.descs.length : Int) - 1) = false := by
            simp [inB]
            omega
          have F := And.intro @rowsD_len (And.intro @rowsV_len (And.intro @rowsN_len (And.intro @rowsTh_len (And.intro @countsL_len (And.intro hre (And.intro k3 (And.intro hi1 (And.intro hwf (And.intro hwt (And.intro hwd (And.intro n0 (And.intro n1 (And.intro m0 (And.intro m1 (And.intro hle hin)))))))))))))))
          repeat' first
            | refine wSq fun _ hK => ?_
            | refine wRg ?_
            | refine wDr ?_
            | refine VWP_block ?_
            | refine VWP_skip ?_
            | refine VWP_exit ?_
            | refine VWP_ret ?_
            | (refine hK _ ?_; clear hK)
            | (clear hK; refine hK _ ?_; clear hK)
            | (clear hK; clear hK; refine hK _ ?_; clear hK)
            | (clear hK; clear hK; clear hK; refine hK _ ?_; clear hK)
            | (simp only [wHb, reduceCtorEq] at hb <;> try (exfalso; omega))
            | refine wCdx (fun hb => ?_) fun hb => ?_
            | refine wCax (c := by first | exact in_ok _ _ _) (k := ?_)
            | simp only [go_sem, Nat.reduceLT, Nat.reduceLeDiff, Nat.reduceEqDiff, Nat.reduceAdd, Nat.reduceMul, Nat.reduceSub, reduceCtorEq, Int.reduceBEq, Int.reduceBNe, Int.reduceLT, Int.reduceLE, Int.reduceAdd, Int.reduceToNat, F]
            | simp (disch := omega) only [decide_eq_true_eq, if_pos, if_neg, wrap_id, le_maxLen, and_true, true_and, if_true, ite_true]
            | refine wGdx (fun hb => ?_) fun hb => ?_
          all_goals refine wLf ?_
          all_goals rw [log_bad he (by rw [hev]; simp_all)]
      · have k3q : (e.kind == 3) = false := by simpa using k3
        have hsm := counts_same (n := w.store.descs.length) he k3
        have hev : evB w.first.length w.store.descs.length w.threads.length e = (inB e.kind 1 6 && inB e.thread 0 ((w.threads.length : Int) - 1)) := by
          unfold evB
          rw [if_neg k1, if_neg k3, Bool.and_true]
        have F := And.intro @rowsD_len (And.intro @rowsV_len (And.intro @rowsN_len (And.intro @rowsTh_len (And.intro hre (And.intro k1q (And.intro k3q (And.intro hwf (And.intro hwt (And.intro hwd (And.intro n0 (And.intro n1 (And.intro m0 m1))))))))))))
        repeat' first
          | refine wSq fun _ hK => ?_
          | refine wRg ?_
          | refine wDr ?_
          | refine VWP_block ?_
          | refine VWP_skip ?_
          | refine VWP_exit ?_
          | refine VWP_ret ?_
          | (refine hK _ ?_; clear hK)
          | (clear hK; refine hK _ ?_; clear hK)
          | (clear hK; clear hK; refine hK _ ?_; clear hK)
          | (clear hK; clear hK; clear hK; refine hK _ ?_; clear hK)
          | (simp only [wHb, reduceCtorEq] at hb <;> try (exfalso; omega))
          | refine wCd (fun hb => ?_) fun hb => ?_
          | refine wCa (c := by first | exact in_ok _ _ _) (k := ?_)
          | simp only [go_sem, Nat.reduceLT, Nat.reduceLeDiff, Nat.reduceEqDiff, Nat.reduceAdd, Nat.reduceMul, Nat.reduceSub, reduceCtorEq, F]
          | simp (disch := omega) only [decide_eq_true_eq, if_pos, if_neg, wrap_id, le_maxLen, and_true, true_and, if_true, ite_true]
          | refine wGd (fun hb => ?_) fun hb => ?_
        all_goals first
          | (refine wLf ?_
             rw [log_bad he (by rw [hev]; simp_all)]
             done)
          | (refine nextL (i + 1) ⟨by omega, hon (by rw [hev]; simp_all)⟩ (by omega) (by simp [updV, tmL, hw]) (by simp [updH, hpL, hsm, n0, n1, m0, m1]) (by omega)
             done)
  · obtain rfl : i = w.log.length := by omega
    rw [List.take_length]
    have F := And.intro @rowsV_len (And.intro @rowsD_len (And.intro n0 (And.intro n1 (And.intro m0 m1))))
    repeat' first
      | refine wSq fun _ hK => ?_
      | refine wRg ?_
      | refine wDr ?_
      | refine VWP_block ?_
      | refine VWP_skip ?_
      | refine VWP_exit ?_
      | refine VWP_ret ?_
      | (refine hK _ ?_; clear hK)
      | (clear hK; refine hK _ ?_; clear hK)
      | (clear hK; clear hK; refine hK _ ?_; clear hK)
      | (clear hK; clear hK; clear hK; refine hK _ ?_; clear hK)
      | (simp only [wHb, reduceCtorEq] at hb <;> try (exfalso; omega))
      | refine wCd (fun hb => ?_) fun hb => ?_
      | simp only [go_sem, Nat.reduceLT, Nat.reduceLeDiff, Nat.reduceEqDiff, Nat.reduceAdd, Nat.reduceMul, Nat.reduceSub, reduceCtorEq, F]
      | simp (disch := omega) only [decide_eq_true_eq, if_pos, if_neg, wrap_id, le_maxLen, and_true, true_and, if_true, ite_true]
      | refine wGd (fun hb => ?_) fun hb => ?_
    refine VWP_loopL (X := Nat) (fun i => [(1, .bp 0 0), (3, .rf 1 w.store.descs.length), (71, .fr 70 (rowsD 72 w.store.descs)), (72, .int .i64 w.store.descs.length), (73, .int .i64 i)]) (fun i => [(0, .box [.fr 3 (rowsN w.first), .fr 67 (rowsH w.store.heads), .fr 70 (rowsD 72 w.store.descs), .fr 91 (rowsTh 120 72 137 w.threads), .fr 55 (rowsV w.log)]), (1, .root 3 (rowsN (countsL w.store.descs.length w.log)))]) (fun i => w.store.descs.length - i)
      (fun i => i ≤ w.store.descs.length ∧ ∀ (j : Nat) (d : DescS), j < i → w.store.descs[j]? = some d → cntL w.log j = if d.status = 1 then 1 else 0) 2 0 ⟨by simp, by simp⟩ (by simp [updV, tmL]) (by simp [updH, hpL]) (by omega) ?_
    clear n0 n1 m0 m1 hB
    rintro i nx ⟨hi2, hdone2⟩ hB
    have n0 : nx ≠ 0 := by omega
    have n1 : nx ≠ 1 := by omega
    have m0 : (0 : Nat) ≠ nx := by omega
    have m1 : (1 : Nat) ≠ nx := by omega
    rcases Nat.lt_or_ge i w.store.descs.length with hlt | hge2
    · obtain ⟨d, hd⟩ : ∃ d, w.store.descs[i]? = some d := ⟨_, List.getElem?_eq_getElem hlt⟩
      have hre := rowsD_at (te := 72) hd
      have hw := wrap_id (x := (i : Int) + 1) (by omega)
      have hle : w.store.descs.length ≤ (rowsN (countsL w.store.descs.length w.log)).length := by rw [rowsN_len, countsL_len]; exact Nat.le_refl _
      have hrc := rowsN_at (countsL_at (log := w.log) hlt)
      have hon : (cntL w.log i = if d.status = 1 then 1 else 0) → ∀ (j : Nat) (y : DescS), j < i + 1 → w.store.descs[j]? = some y → cntL w.log j = if y.status = 1 then 1 else 0 := fun h j y hj hy => by
        rcases Nat.lt_or_ge j i with h1 | h1
        · exact hdone2 j y h1 hy
        · obtain rfl : j = i := by omega
          rw [hd] at hy; cases hy; exact h
      by_cases hst : d.status = 1
      · rw [hst] at hre
        by_cases hcn : cntL w.log i = 1
        · rw [hcn] at hrc
          have F := And.intro @rowsD_len (And.intro @rowsN_len (And.intro @countsL_len (And.intro hre (And.intro hrc (And.intro hle (And.intro hlt (And.intro n0 (And.intro n1 (And.intro m0 m1)))))))))
          repeat' first
            | refine wSq fun _ hK => ?_
            | refine wRg ?_
            | refine wDr ?_
            | refine VWP_block ?_
            | refine VWP_skip ?_
            | refine VWP_exit ?_
            | refine VWP_ret ?_
            | (refine hK _ ?_; clear hK)
            | (clear hK; refine hK _ ?_; clear hK)
            | (clear hK; clear hK; refine hK _ ?_; clear hK)
            | (clear hK; clear hK; clear hK; refine hK _ ?_; clear hK)
            | (simp only [wHb, reduceCtorEq] at hb <;> try (exfalso; omega))
            | refine wCdx (fun hb => ?_) fun hb => ?_
            | simp only [go_sem, Nat.reduceLT, Nat.reduceLeDiff, Nat.reduceEqDiff, Nat.reduceAdd, Nat.reduceMul, Nat.reduceSub, reduceCtorEq, Int.reduceBEq, Int.reduceBNe, Int.reduceLT, Int.reduceLE, Int.reduceAdd, Int.reduceToNat, F]
            | simp (disch := omega) only [decide_eq_true_eq, if_pos, if_neg, wrap_id, le_maxLen, and_true, true_and, if_true, ite_true]
            | refine wGdx (fun hb => ?_) fun hb => ?_
          refine nextL (i + 1) ⟨by omega, hon (by rw [if_pos hst, hcn])⟩ (by omega) (by simp [updV, tmL, hw]) (by simp [updH, hpL, n0, n1, m0, m1]) (by omega)
        · have hcq : (cntL w.log i == 1) = false := by simpa using hcn
          have hcq2 : (cntL w.log i != 1) = true := by simpa using hcn
          have F := And.intro @rowsD_len (And.intro @rowsN_len (And.intro @countsL_len (And.intro hre (And.intro hrc (And.intro hle (And.intro hlt (And.intro n0 (And.intro n1 (And.intro m0 (And.intro m1 (And.intro hcq hcq2)))))))))))
          repeat' first
            | refine wSq fun _ hK => ?_
            | refine wRg ?_
            | refine wDr ?_
            | refine VWP_block ?_
            | refine VWP_skip ?_
            | refine VWP_exit ?_
            | refine VWP_ret ?_
            | (refine hK _ ?_; clear hK)
            | (clear hK; refine hK _ ?_; clear hK)
            | (clear hK; clear hK; refine hK _ ?_; clear hK)
            | (clear hK; clear hK; clear hK; refine hK _ ?_; clear hK)
            | (simp only [wHb, reduceCtorEq] at hb <;> try (exfalso; omega))
            | refine wCdx (fun hb => ?_) fun hb => ?_
            | simp only [go_sem, Nat.reduceLT, Nat.reduceLeDiff, Nat.reduceEqDiff, Nat.reduceAdd, Nat.reduceMul, Nat.reduceSub, reduceCtorEq, Int.reduceBEq, Int.reduceBNe, Int.reduceLT, Int.reduceLE, Int.reduceAdd, Int.reduceToNat, F]
            | simp (disch := omega) only [decide_eq_true_eq, if_pos, if_neg, wrap_id, le_maxLen, and_true, true_and, if_true, ite_true]
            | refine wGdx (fun hb => ?_) fun hb => ?_
          refine wLf ?_
          rw [log_cnt hd (by rw [if_pos hst]; exact hcn)]
      · have hsq : (d.status == 1) = false := by simpa using hst
        have hsq2 : (d.status != 1) = true := by simpa using hst
        by_cases hcn : cntL w.log i = 0
        · rw [hcn] at hrc
          have F := And.intro @rowsD_len (And.intro @rowsN_len (And.intro @countsL_len (And.intro hre (And.intro hrc (And.intro hle (And.intro hlt (And.intro n0 (And.intro n1 (And.intro m0 (And.intro m1 (And.intro hsq hsq2)))))))))))
          repeat' first
            | refine wSq fun _ hK => ?_
            | refine wRg ?_
            | refine wDr ?_
            | refine VWP_block ?_
            | refine VWP_skip ?_
            | refine VWP_exit ?_
            | refine VWP_ret ?_
            | (refine hK _ ?_; clear hK)
            | (clear hK; refine hK _ ?_; clear hK)
            | (clear hK; clear hK; refine hK _ ?_; clear hK)
            | (clear hK; clear hK; clear hK; refine hK _ ?_; clear hK)
            | (simp only [wHb, reduceCtorEq] at hb <;> try (exfalso; omega))
            | refine wCdx (fun hb => ?_) fun hb => ?_
            | simp only [go_sem, Nat.reduceLT, Nat.reduceLeDiff, Nat.reduceEqDiff, Nat.reduceAdd, Nat.reduceMul, Nat.reduceSub, reduceCtorEq, Int.reduceBEq, Int.reduceBNe, Int.reduceLT, Int.reduceLE, Int.reduceAdd, Int.reduceToNat, F]
            | simp (disch := omega) only [decide_eq_true_eq, if_pos, if_neg, wrap_id, le_maxLen, and_true, true_and, if_true, ite_true]
            | refine wGdx (fun hb => ?_) fun hb => ?_
          refine nextL (i + 1) ⟨by omega, hon (by rw [if_neg hst, hcn])⟩ (by omega) (by simp [updV, tmL, hw]) (by simp [updH, hpL, n0, n1, m0, m1]) (by omega)
        · have hcq : (cntL w.log i == 0) = false := by simpa using hcn
          have hcq2 : (cntL w.log i != 0) = true := by simpa using hcn
          have F := And.intro @rowsD_len (And.intro @rowsN_len (And.intro @countsL_len (And.intro hre (And.intro hrc (And.intro hle (And.intro hlt (And.intro n0 (And.intro n1 (And.intro m0 (And.intro m1 (And.intro hsq (And.intro hsq2 (And.intro hcq hcq2)))))))))))))
          repeat' first
            | refine wSq fun _ hK => ?_
            | refine wRg ?_
            | refine wDr ?_
            | refine VWP_block ?_
            | refine VWP_skip ?_
            | refine VWP_exit ?_
            | refine VWP_ret ?_
            | (refine hK _ ?_; clear hK)
            | (clear hK; refine hK _ ?_; clear hK)
            | (clear hK; clear hK; refine hK _ ?_; clear hK)
            | (clear hK; clear hK; clear hK; refine hK _ ?_; clear hK)
            | (simp only [wHb, reduceCtorEq] at hb <;> try (exfalso; omega))
            | refine wCdx (fun hb => ?_) fun hb => ?_
            | simp only [go_sem, Nat.reduceLT, Nat.reduceLeDiff, Nat.reduceEqDiff, Nat.reduceAdd, Nat.reduceMul, Nat.reduceSub, reduceCtorEq, Int.reduceBEq, Int.reduceBNe, Int.reduceLT, Int.reduceLE, Int.reduceAdd, Int.reduceToNat, F]
            | simp (disch := omega) only [decide_eq_true_eq, if_pos, if_neg, wrap_id, le_maxLen, and_true, true_and, if_true, ite_true]
            | refine wGdx (fun hb => ?_) fun hb => ?_
          refine wLf ?_
          rw [log_cnt hd (by rw [if_neg hst]; exact hcn)]
    · obtain rfl : i = w.store.descs.length := by omega
      have hfin : bP (LogP w.first.length w.threads.length w.store.descs w.log) = decide ((w.log.length : Int) ≤ 3000) := by
        by_cases h3 : w.log.length ≤ 3000
        · rw [bP_true ⟨fun j e he => hdone j e (List.getElem?_eq_some_iff.1 he).1 he, fun k d hd => hdone2 k d (List.getElem?_eq_some_iff.1 hd).1 hd, h3⟩]
          exact (decide_eq_true (by omega)).symm
        · rw [bP_false fun hh => h3 hh.2.2]
          exact (decide_eq_false (by omega)).symm
      have F := And.intro @rowsD_len (And.intro @rowsV_len (And.intro @rowsN_len (And.intro @countsL_len (And.intro n0 (And.intro n1 (And.intro m0 m1))))))
      repeat' first
        | refine wSq fun _ hK => ?_
        | refine wRg ?_
        | refine wDr ?_
        | refine VWP_block ?_
        | refine VWP_skip ?_
        | refine VWP_exit ?_
        | refine VWP_ret ?_
        | (refine hK _ ?_; clear hK)
        | (clear hK; refine hK _ ?_; clear hK)
        | (clear hK; clear hK; refine hK _ ?_; clear hK)
        | (clear hK; clear hK; clear hK; refine hK _ ?_; clear hK)
        | (simp only [wHb, reduceCtorEq] at hb <;> try (exfalso; omega))
        | refine wCd (fun hb => ?_) fun hb => ?_
        | simp only [go_sem, Nat.reduceLT, Nat.reduceLeDiff, Nat.reduceEqDiff, Nat.reduceAdd, Nat.reduceMul, Nat.reduceSub, reduceCtorEq, F]
        | simp (disch := omega) only [decide_eq_true_eq, if_pos, if_neg, wrap_id, le_maxLen, and_true, true_and, if_true, ite_true]
        | refine wGd (fun hb => ?_) fun hb => ?_
      refine wLf ?_
      rw [hfin]
theorem l11Log_ok (w : WorldD) (hs : w.tiny) : SatP Tryz.prog 47 [.agg [.fr 3 (rowsN w.first), .fr 67 (rowsH w.store.heads), .fr 70 (rowsD 72 w.store.descs), .fr 91 (rowsTh 120 72 137 w.threads), .fr 55 (rowsV w.log)]] (.bool (bP (LogP w.first.length w.threads.length w.store.descs w.log))) [] := by
  obtain ⟨f1, ⟨s1, s2, s3⟩, f3, f4, f5⟩ := hs
  have hwf := wrap_id (x := (w.first.length : Int) - 1) (by omega)
  have hwt := wrap_id (x := (w.threads.length : Int) - 1) (by omega)
  have hwd := wrap_id (x := (w.store.descs.length : Int) - 1) (by omega)
  refine satP_of_body hT Tryz.func47 (by kernel_rfl) rfl (rs := [.tmp 2]) rfl (n := 102) rfl (by simp) rfl (by simp) fun E hE => ?_
  unfold St.init
  have F := And.intro @rowsD_len @rowsV_len
  repeat' first
    | refine wSq fun _ hK => ?_
    | refine wRg ?_
    | refine wDr ?_
    | refine VWP_block ?_
    | refine VWP_skip ?_
    | refine VWP_exit ?_
    | refine VWP_ret ?_
    | (refine hK _ ?_; clear hK)
    | (clear hK; refine hK _ ?_; clear hK)
    | (clear hK; clear hK; refine hK _ ?_; clear hK)
    | (clear hK; clear hK; clear hK; refine hK _ ?_; clear hK)
    | (simp only [wHb, reduceCtorEq] at hb <;> try (exfalso; omega))
    | refine wCd (fun hb => ?_) fun hb => ?_
    | simp only [go_sem, Nat.reduceLT, Nat.reduceLeDiff, Nat.reduceEqDiff, Nat.reduceAdd, Nat.reduceMul, Nat.reduceSub, reduceCtorEq, F]
    | simp (disch := omega) only [decide_eq_true_eq, if_pos, if_neg, wrap_id, le_maxLen, and_true, true_and, if_true, ite_true]
    | refine wGd (fun hb => ?_) fun hb => ?_
  refine VWP_loopL (X := Nat) (fun i => [(1, .bp 0 0), (3, .rf 1 w.store.descs.length), (4, .int .i64 i)]) (fun i => [(0, .box [.fr 3 (rowsN w.first), .fr 67 (rowsH w.store.heads), .fr 70 (rowsD 72 w.store.descs), .fr 91 (rowsTh 120 72 137 w.threads), .fr 55 (rowsV w.log)]), (1, .root 3 (rowsN (countsL w.store.descs.length (w.log.take i))))]) (fun i => w.log.length - i)
    (fun i => i ≤ w.log.length ∧ ∀ (j : Nat) (e : EventD), j < i → w.log[j]? = some e → evB w.first.length w.store.descs.length w.threads.length e = true) 2 0 ⟨by simp, by simp⟩ (by simp [updV]) (by simp [updH, rowsN_zeros]) (by simp) ?_
  rintro i nx ⟨hi, hdone⟩ hB
  have n0 : nx ≠ 0 := by omega
  have n1 : nx ≠ 1 := by omega
  have m0 : (0 : Nat) ≠ nx := by omega
  have m1 : (1 : Nat) ≠ nx := by omega
  rcases Nat.lt_or_ge i w.log.length with hlt | hge
  · obtain ⟨e, he⟩ : ∃ e, w.log[i]? = some e := ⟨_, List.getElem?_eq_getElem hlt⟩
    have hre := rowsV_at he
    have hw := wrap_id (x := (i : Int) + 1) (by omega)
    have hle : w.store.descs.length ≤ (rowsN (countsL w.store.descs.length (w.log.take i))).length := by rw [rowsN_len, countsL_len]; exact Nat.le_refl _
    have hon : evB w.first.length w.store.descs.length w.threads.length e = true → ∀ (j : Nat) (y : EventD), j < i + 1 → w.log[j]? = some y → evB w.first.length w.store.descs.length w.threads.length y = true := fun h j y hj hy => by
      rcases Nat.lt_or_ge j i with h1 | h1
      · exact hdone j y h1 hy
      · obtain rfl : j = i := by omega
        rw [he] at hy; cases hy; exact h
    by_cases k1 : e.kind = 1
    · have hsm := counts_same (n := w.store.descs.length) he (by omega)
      have hev : evB w.first.length w.store.descs.length w.threads.length e = (inB e.thread 0 ((w.threads.length : Int) - 1) && (inB e.object 0 ((w.first.length : Int) - 1) && inB e.value (-1000000000) 1000000000)) := by
        unfold evB
        rw [if_pos k1, k1]
        rfl
      have hi1 : inB 1 1 6 = true := rfl
      have F := And.intro @rowsD_len (And.intro @rowsV_len (And.intro @rowsN_len (And.intro @rowsTh_len (And.intro hre (And.intro k1 (And.intro hi1 (And.intro hwf (And.intro hwt (And.intro hwd (And.intro n0 (And.intro n1 (And.intro m0 m1))))))))))))
      repeat' first
        | refine wSq fun _ hK => ?_
        | refine wRg ?_
        | refine wDr ?_
        | refine VWP_block ?_
        | refine VWP_skip ?_
        | refine VWP_exit ?_
        | refine VWP_ret ?_
        | (refine hK _ ?_; clear hK)
        | (clear hK; refine hK _ ?_; clear hK)
        | (clear hK; clear hK; refine hK _ ?_; clear hK)
        | (clear hK; clear hK; clear hK; refine hK _ ?_; clear hK)
        | (simp only [wHb, reduceCtorEq] at hb <;> try (exfalso; omega))
        | refine wCdx (fun hb => ?_) fun hb => ?_
        | refine wCax (c := by first | exact l1In_ok _ _ _ | exact l1Value_ok _) (k := ?_)
        | simp only [go_sem, Nat.reduceLT, Nat.reduceLeDiff, Nat.reduceEqDiff, Nat.reduceAdd, Nat.reduceMul, Nat.reduceSub, reduceCtorEq, Int.reduceBEq, Int.reduceBNe, Int.reduceLT, Int.reduceLE, Int.reduceAdd, Int.reduceToNat, F]
        | simp (disch := omega) only [decide_eq_true_eq, if_pos, if_neg, wrap_id, le_maxLen, and_true, true_and, if_true, ite_true]
        | refine wGdx (fun hb => ?_) fun hb => ?_
      all_goals first
        | (refine wLf ?_
           rw [log_bad he (by rw [hev]; simp_all)]
           done)
        | (refine nextL (i + 1) ⟨by omega, hon (by rw [hev]; simp_all)⟩ (by omega) (by simp [updV, tmL, hw]) (by simp [updH, hpL, hsm, n0, n1, m0, m1]) (by omega)
           done)
    · have k1q : (e.kind == 1) = false := by simpa using k1
      by_cases k3 : e.kind = 3
      · have hev : evB w.first.length w.store.descs.length w.threads.length e = (inB e.thread 0 ((w.threads.length : Int) - 1) && inB e.object 0 ((w.store.descs.length : Int) - 1)) := by
          unfold evB
          rw [if_neg k1, if_pos k3, k3]
          rfl
        have hi1 : inB 3 1 6 = true := rfl
        by_cases ho : 0 ≤ e.object ∧ e.object < w.store.descs.length
        · obtain ⟨k, hk⟩ : ∃ k : Nat, e.object = k := ⟨e.object.toNat, by omega⟩
          have hkn : k < w.store.descs.length := by omega
          have hk0 : (0 : Int) ≤ (k : Nat) := by omega
          have hin : inB k 0 ((w.store.descs.length : Int) - 1) = true := by simp [inB]; omega
          have hrc := rowsN_at (countsL_at (log := w.log.take i) hkn)
          have hcl := cntL_le w.log k i
          have hwc := wrap_id (x := cntL (w.log.take i) k + 1) (by omega)
          have hmo := counts_more he k3 hk hkn
          rw [hk] at hre hev
          have F := And.intro @rowsD_len (And.intro @rowsV_len (And.intro @rowsN_len (And.intro @rowsTh_len (And.intro @countsL_len (And.intro hre (And.intro k3 (And.intro hi1 (And.intro hwf (And.intro hwt (And.intro hwd (And.intro n0 (And.intro n1 (And.intro m0 (And.intro m1 (And.intro hle (And.intro hin (And.intro hk0 (And.intro hkn (And.intro hrc (And.intro hwc (And.intro @rowsN_set hmo)))))))))))))))))))))
          repeat' first
            | refine wSq fun _ hK => ?_
            | refine wRg ?_
            | refine wDr ?_
            | refine VWP_block ?_
            | refine VWP_skip ?_
            | refine VWP_exit ?_
            | refine VWP_ret ?_
            | (refine hK _ ?_; clear hK)
            | (clear hK; refine hK _ ?_; clear hK)
            | (clear hK; clear hK; refine hK _ ?_; clear hK)
            | (clear hK; clear hK; clear hK; refine hK _ ?_; clear hK)
            | (simp only [wHb, reduceCtorEq] at hb <;> try (exfalso; omega))
            | refine wCdx (fun hb => ?_) fun hb => ?_
            | refine wCax (c := by first | exact l1In_ok _ _ _) (k := ?_)
            | simp only [go_sem, Nat.reduceLT, Nat.reduceLeDiff, Nat.reduceEqDiff, Nat.reduceAdd, Nat.reduceMul, Nat.reduceSub, reduceCtorEq, Int.reduceBEq, Int.reduceBNe, Int.reduceLT, Int.reduceLE, Int.reduceAdd, Int.reduceToNat, F]
            | simp (disch := omega) only [decide_eq_true_eq, if_pos, if_neg, wrap_id, le_maxLen, and_true, true_and, if_true, ite_true]
            | refine wGdx (fun hb => ?_) fun hb => ?_
          all_goals first
            | (refine wLf ?_
               rw [log_bad he (by rw [hev]; simp_all)]
               done)
            | (refine nextL (i + 1) ⟨by omega, hon (by rw [hev]; simp_all)⟩ (by omega) (by simp [updV, tmL, hw]) (by simp [updH, hpL, rowsN_set, hmo, n0, n1, m0, m1]) (by omega)
               done)
        · have hin : inB e.object 0 ((w.store.descs.length : Int) - 1) = false := by
            simp [inB]
            omega
          have F := And.intro @rowsD_len (And.intro @rowsV_len (And.intro @rowsN_len (And.intro @rowsTh_len (And.intro @countsL_len (And.intro hre (And.intro k3 (And.intro hi1 (And.intro hwf (And.intro hwt (And.intro hwd (And.intro n0 (And.intro n1 (And.intro m0 (And.intro m1 (And.intro hle hin)))))))))))))))
          repeat' first
            | refine wSq fun _ hK => ?_
            | refine wRg ?_
            | refine wDr ?_
            | refine VWP_block ?_
            | refine VWP_skip ?_
            | refine VWP_exit ?_
            | refine VWP_ret ?_
            | (refine hK _ ?_; clear hK)
            | (clear hK; refine hK _ ?_; clear hK)
            | (clear hK; clear hK; refine hK _ ?_; clear hK)
            | (clear hK; clear hK; clear hK; refine hK _ ?_; clear hK)
            | (simp only [wHb, reduceCtorEq] at hb <;> try (exfalso; omega))
            | refine wCdx (fun hb => ?_) fun hb => ?_
            | refine wCax (c := by first | exact l1In_ok _ _ _) (k := ?_)
            | simp only [go_sem, Nat.reduceLT, Nat.reduceLeDiff, Nat.reduceEqDiff, Nat.reduceAdd, Nat.reduceMul, Nat.reduceSub, reduceCtorEq, Int.reduceBEq, Int.reduceBNe, Int.reduceLT, Int.reduceLE, Int.reduceAdd, Int.reduceToNat, F]
            | simp (disch := omega) only [decide_eq_true_eq, if_pos, if_neg, wrap_id, le_maxLen, and_true, true_and, if_true, ite_true]
            | refine wGdx (fun hb => ?_) fun hb => ?_
          all_goals refine wLf ?_
          all_goals rw [log_bad he (by rw [hev]; simp_all)]
      · have k3q : (e.kind == 3) = false := by simpa using k3
        have hsm := counts_same (n := w.store.descs.length) he k3
        have hev : evB w.first.length w.store.descs.length w.threads.length e = (inB e.kind 1 6 && inB e.thread 0 ((w.threads.length : Int) - 1)) := by
          unfold evB
          rw [if_neg k1, if_neg k3, Bool.and_true]
        have F := And.intro @rowsD_len (And.intro @rowsV_len (And.intro @rowsN_len (And.intro @rowsTh_len (And.intro hre (And.intro k1q (And.intro k3q (And.intro hwf (And.intro hwt (And.intro hwd (And.intro n0 (And.intro n1 (And.intro m0 m1))))))))))))
        repeat' first
          | refine wSq fun _ hK => ?_
          | refine wRg ?_
          | refine wDr ?_
          | refine VWP_block ?_
          | refine VWP_skip ?_
          | refine VWP_exit ?_
          | refine VWP_ret ?_
          | (refine hK _ ?_; clear hK)
          | (clear hK; refine hK _ ?_; clear hK)
          | (clear hK; clear hK; refine hK _ ?_; clear hK)
          | (clear hK; clear hK; clear hK; refine hK _ ?_; clear hK)
          | (simp only [wHb, reduceCtorEq] at hb <;> try (exfalso; omega))
          | refine wCd (fun hb => ?_) fun hb => ?_
          | refine wCa (c := by first | exact l1In_ok _ _ _) (k := ?_)
          | simp only [go_sem, Nat.reduceLT, Nat.reduceLeDiff, Nat.reduceEqDiff, Nat.reduceAdd, Nat.reduceMul, Nat.reduceSub, reduceCtorEq, F]
          | simp (disch := omega) only [decide_eq_true_eq, if_pos, if_neg, wrap_id, le_maxLen, and_true, true_and, if_true, ite_true]
          | refine wGd (fun hb => ?_) fun hb => ?_
        all_goals first
          | (refine wLf ?_
             rw [log_bad he (by rw [hev]; simp_all)]
             done)
          | (refine nextL (i + 1) ⟨by omega, hon (by rw [hev]; simp_all)⟩ (by omega) (by simp [updV, tmL, hw]) (by simp [updH, hpL, hsm, n0, n1, m0, m1]) (by omega)
             done)
  · obtain rfl : i = w.log.length := by omega
    rw [List.take_length]
    have F := And.intro @rowsV_len (And.intro @rowsD_len (And.intro n0 (And.intro n1 (And.intro m0 m1))))
    repeat' first
      | refine wSq fun _ hK => ?_
      | refine wRg ?_
      | refine wDr ?_
      | refine VWP_block ?_
      | refine VWP_skip ?_
      | refine VWP_exit ?_
      | refine VWP_ret ?_
      | (refine hK _ ?_; clear hK)
      | (clear hK; refine hK _ ?_; clear hK)
      | (clear hK; clear hK; refine hK _ ?_; clear hK)
      | (clear hK; clear hK; clear hK; refine hK _ ?_; clear hK)
      | (simp only [wHb, reduceCtorEq] at hb <;> try (exfalso; omega))
      | refine wCd (fun hb => ?_) fun hb => ?_
      | simp only [go_sem, Nat.reduceLT, Nat.reduceLeDiff, Nat.reduceEqDiff, Nat.reduceAdd, Nat.reduceMul, Nat.reduceSub, reduceCtorEq, F]
      | simp (disch := omega) only [decide_eq_true_eq, if_pos, if_neg, wrap_id, le_maxLen, and_true, true_and, if_true, ite_true]
      | refine wGd (fun hb => ?_) fun hb => ?_
    refine VWP_loopL (X := Nat) (fun i => [(1, .bp 0 0), (3, .rf 1 w.store.descs.length), (6, .int .i64 i)]) (fun i => [(0, .box [.fr 3 (rowsN w.first), .fr 67 (rowsH w.store.heads), .fr 70 (rowsD 72 w.store.descs), .fr 91 (rowsTh 120 72 137 w.threads), .fr 55 (rowsV w.log)]), (1, .root 3 (rowsN (countsL w.store.descs.length w.log)))]) (fun i => w.store.descs.length - i)
      (fun i => i ≤ w.store.descs.length ∧ ∀ (j : Nat) (d : DescS), j < i → w.store.descs[j]? = some d → cntL w.log j = if d.status = 1 then 1 else 0) 2 0 ⟨by simp, by simp⟩ (by simp [updV, tmL]) (by simp [updH, hpL]) (by omega) ?_
    clear n0 n1 m0 m1 hB
    rintro i nx ⟨hi2, hdone2⟩ hB
    have n0 : nx ≠ 0 := by omega
    have n1 : nx ≠ 1 := by omega
    have m0 : (0 : Nat) ≠ nx := by omega
    have m1 : (1 : Nat) ≠ nx := by omega
    rcases Nat.lt_or_ge i w.store.descs.length with hlt | hge2
    · obtain ⟨d, hd⟩ : ∃ d, w.store.descs[i]? = some d := ⟨_, List.getElem?_eq_getElem hlt⟩
      have hre := rowsD_at (te := 72) hd
      have hw := wrap_id (x := (i : Int) + 1) (by omega)
      have hle : w.store.descs.length ≤ (rowsN (countsL w.store.descs.length w.log)).length := by rw [rowsN_len, countsL_len]; exact Nat.le_refl _
      have hrc := rowsN_at (countsL_at (log := w.log) hlt)
      have hon : (cntL w.log i = if d.status = 1 then 1 else 0) → ∀ (j : Nat) (y : DescS), j < i + 1 → w.store.descs[j]? = some y → cntL w.log j = if y.status = 1 then 1 else 0 := fun h j y hj hy => by
        rcases Nat.lt_or_ge j i with h1 | h1
        · exact hdone2 j y h1 hy
        · obtain rfl : j = i := by omega
          rw [hd] at hy; cases hy; exact h
      by_cases hst : d.status = 1
      · rw [hst] at hre
        by_cases hcn : cntL w.log i = 1
        · rw [hcn] at hrc
          have F := And.intro @rowsD_len (And.intro @rowsN_len (And.intro @countsL_len (And.intro hre (And.intro hrc (And.intro hle (And.intro hlt (And.intro n0 (And.intro n1 (And.intro m0 m1)))))))))
          repeat' first
            | refine wSq fun _ hK => ?_
            | refine wRg ?_
            | refine wDr ?_
            | refine VWP_block ?_
            | refine VWP_skip ?_
            | refine VWP_exit ?_
            | refine VWP_ret ?_
            | (refine hK _ ?_; clear hK)
            | (clear hK; refine hK _ ?_; clear hK)
            | (clear hK; clear hK; refine hK _ ?_; clear hK)
            | (clear hK; clear hK; clear hK; refine hK _ ?_; clear hK)
            | (simp only [wHb, reduceCtorEq] at hb <;> try (exfalso; omega))
            | refine wCdx (fun hb => ?_) fun hb => ?_
            | simp only [go_sem, Nat.reduceLT, Nat.reduceLeDiff, Nat.reduceEqDiff, Nat.reduceAdd, Nat.reduceMul, Nat.reduceSub, reduceCtorEq, Int.reduceBEq, Int.reduceBNe, Int.reduceLT, Int.reduceLE, Int.reduceAdd, Int.reduceToNat, F]
            | simp (disch := omega) only [decide_eq_true_eq, if_pos, if_neg, wrap_id, le_maxLen, and_true, true_and, if_true, ite_true]
            | refine wGdx (fun hb => ?_) fun hb => ?_
          refine nextL (i + 1) ⟨by omega, hon (by rw [if_pos hst, hcn])⟩ (by omega) (by simp [updV, tmL, hw]) (by simp [updH, hpL, n0, n1, m0, m1]) (by omega)
        · have hcq : (cntL w.log i == 1) = false := by simpa using hcn
          have hcq2 : (cntL w.log i != 1) = true := by simpa using hcn
          have F := And.intro @rowsD_len (And.intro @rowsN_len (And.intro @countsL_len (And.intro hre (And.intro hrc (And.intro hle (And.intro hlt (And.intro n0 (And.intro n1 (And.intro m0 (And.intro m1 (And.intro hcq hcq2)))))))))))
          repeat' first
            | refine wSq fun _ hK => ?_
            | refine wRg ?_
            | refine wDr ?_
            | refine VWP_block ?_
            | refine VWP_skip ?_
            | refine VWP_exit ?_
            | refine VWP_ret ?_
            | (refine hK _ ?_; clear hK)
            | (clear hK; refine hK _ ?_; clear hK)
            | (clear hK; clear hK; refine hK _ ?_; clear hK)
            | (clear hK; clear hK; clear hK; refine hK _ ?_; clear hK)
            | (simp only [wHb, reduceCtorEq] at hb <;> try (exfalso; omega))
            | refine wCdx (fun hb => ?_) fun hb => ?_
            | simp only [go_sem, Nat.reduceLT, Nat.reduceLeDiff, Nat.reduceEqDiff, Nat.reduceAdd, Nat.reduceMul, Nat.reduceSub, reduceCtorEq, Int.reduceBEq, Int.reduceBNe, Int.reduceLT, Int.reduceLE, Int.reduceAdd, Int.reduceToNat, F]
            | simp (disch := omega) only [decide_eq_true_eq, if_pos, if_neg, wrap_id, le_maxLen, and_true, true_and, if_true, ite_true]
            | refine wGdx (fun hb => ?_) fun hb => ?_
          refine wLf ?_
          rw [log_cnt hd (by rw [if_pos hst]; exact hcn)]
      · have hsq : (d.status == 1) = false := by simpa using hst
        have hsq2 : (d.status != 1) = true := by simpa using hst
        by_cases hcn : cntL w.log i = 0
        · rw [hcn] at hrc
          have F := And.intro @rowsD_len (And.intro @rowsN_len (And.intro @countsL_len (And.intro hre (And.intro hrc (And.intro hle (And.intro hlt (And.intro n0 (And.intro n1 (And.intro m0 (And.intro m1 (And.intro hsq hsq2)))))))))))
          repeat' first
            | refine wSq fun _ hK => ?_
            | refine wRg ?_
            | refine wDr ?_
            | refine VWP_block ?_
            | refine VWP_skip ?_
            | refine VWP_exit ?_
            | refine VWP_ret ?_
            | (refine hK _ ?_; clear hK)
            | (clear hK; refine hK _ ?_; clear hK)
            | (clear hK; clear hK; refine hK _ ?_; clear hK)
            | (clear hK; clear hK; clear hK; refine hK _ ?_; clear hK)
            | (simp only [wHb, reduceCtorEq] at hb <;> try (exfalso; omega))
            | refine wCdx (fun hb => ?_) fun hb => ?_
            | simp only [go_sem, Nat.reduceLT, Nat.reduceLeDiff, Nat.reduceEqDiff, Nat.reduceAdd, Nat.reduceMul, Nat.reduceSub, reduceCtorEq, Int.reduceBEq, Int.reduceBNe, Int.reduceLT, Int.reduceLE, Int.reduceAdd, Int.reduceToNat, F]
            | simp (disch := omega) only [decide_eq_true_eq, if_pos, if_neg, wrap_id, le_maxLen, and_true, true_and, if_true, ite_true]
            | refine wGdx (fun hb => ?_) fun hb => ?_
          refine nextL (i + 1) ⟨by omega, hon (by rw [if_neg hst, hcn])⟩ (by omega) (by simp [updV, tmL, hw]) (by simp [updH, hpL, n0, n1, m0, m1]) (by omega)
        · have hcq : (cntL w.log i == 0) = false := by simpa using hcn
          have hcq2 : (cntL w.log i != 0) = true := by simpa using hcn
          have F := And.intro @rowsD_len (And.intro @rowsN_len (And.intro @countsL_len (And.intro hre (And.intro hrc (And.intro hle (And.intro hlt (And.intro n0 (And.intro n1 (And.intro m0 (And.intro m1 (And.intro hsq (And.intro hsq2 (And.intro hcq hcq2)))))))))))))
          repeat' first
            | refine wSq fun _ hK => ?_
            | refine wRg ?_
            | refine wDr ?_
            | refine VWP_block ?_
            | refine VWP_skip ?_
            | refine VWP_exit ?_
            | refine VWP_ret ?_
            | (refine hK _ ?_; clear hK)
            | (clear hK; refine hK _ ?_; clear hK)
            | (clear hK; clear hK; refine hK _ ?_; clear hK)
            | (clear hK; clear hK; clear hK; refine hK _ ?_; clear hK)
            | (simp only [wHb, reduceCtorEq] at hb <;> try (exfalso; omega))
            | refine wCdx (fun hb => ?_) fun hb => ?_
            | simp only [go_sem, Nat.reduceLT, Nat.reduceLeDiff, Nat.reduceEqDiff, Nat.reduceAdd, Nat.reduceMul, Nat.reduceSub, reduceCtorEq, Int.reduceBEq, Int.reduceBNe, Int.reduceLT, Int.reduceLE, Int.reduceAdd, Int.reduceToNat, F]
            | simp (disch := omega) only [decide_eq_true_eq, if_pos, if_neg, wrap_id, le_maxLen, and_true, true_and, if_true, ite_true]
            | refine wGdx (fun hb => ?_) fun hb => ?_
          refine wLf ?_
          rw [log_cnt hd (by rw [if_neg hst]; exact hcn)]
    · obtain rfl : i = w.store.descs.length := by omega
      have hfin : bP (LogP w.first.length w.threads.length w.store.descs w.log) = decide ((w.log.length : Int) ≤ 3000) := by
        by_cases h3 : w.log.length ≤ 3000
        · rw [bP_true ⟨fun j e he => hdone j e (List.getElem?_eq_some_iff.1 he).1 he, fun k d hd => hdone2 k d (List.getElem?_eq_some_iff.1 hd).1 hd, h3⟩]
          exact (decide_eq_true (by omega)).symm
        · rw [bP_false fun hh => h3 hh.2.2]
          exact (decide_eq_false (by omega)).symm
      have F := And.intro @rowsD_len (And.intro @rowsV_len (And.intro @rowsN_len (And.intro @countsL_len (And.intro n0 (And.intro n1 (And.intro m0 m1))))))
      repeat' first
        | refine wSq fun _ hK => ?_
        | refine wRg ?_
        | refine wDr ?_
        | refine VWP_block ?_
        | refine VWP_skip ?_
        | refine VWP_exit ?_
        | refine VWP_ret ?_
        | (refine hK _ ?_; clear hK)
        | (clear hK; refine hK _ ?_; clear hK)
        | (clear hK; clear hK; refine hK _ ?_; clear hK)
        | (clear hK; clear hK; clear hK; refine hK _ ?_; clear hK)
        | (simp only [wHb, reduceCtorEq] at hb <;> try (exfalso; omega))
        | refine wCd (fun hb => ?_) fun hb => ?_
        | simp only [go_sem, Nat.reduceLT, Nat.reduceLeDiff, Nat.reduceEqDiff, Nat.reduceAdd, Nat.reduceMul, Nat.reduceSub, reduceCtorEq, F]
        | simp (disch := omega) only [decide_eq_true_eq, if_pos, if_neg, wrap_id, le_maxLen, and_true, true_and, if_true, ite_true]
        | refine wGd (fun hb => ?_) fun hb => ?_
      refine wLf ?_
      rw [hfin]
end Go.Proofs.YtclljpdcpcolpaaGreat
