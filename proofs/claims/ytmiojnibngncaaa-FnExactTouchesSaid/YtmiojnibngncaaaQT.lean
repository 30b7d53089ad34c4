/- Touches of the program and of the reference. -/
import Derived.Test.YtmiojnibngncaaaQS
import Derived.Test.YtmiojnibngncaaaTE
import Derived.Test.YtmiojnibngncaaaEL
namespace Go.Proofs.Ytmiojnibngncaaa
open Go Go.RowKit
set_option linter.unusedVariables false
set_option linter.unusedSimpArgs false
set_option maxRecDepth 100000
set_option maxHeartbeats 8000000
attribute [local irreducible] VWP vops vdraw contV contD CallK Guard GuardV NextL Puts Runs RetOK RetQ RetO RetQO thenQ blockQ
attribute [local irreducible] NextN

def tchO (x : InsS) : List Int := if x.op = 1 then [x.b] else if x.op = 2 then [x.a] else []
/-- What the first lines name, in their order. -/
def rawT (xs : List InsS) (i : Nat) : List Int := (xs.take i).flatMap tchO
theorem rawT_one {xs : List InsS} {i : Nat} {x : InsS} (h : xs[i]? = some x) : rawT xs (i + 1) = rawT xs i ++ tchO x := by
  rw [rawT, List.take_add_one, h]
  simp [rawT]
theorem rawT_len {xs : List InsS} : ∀ {i : Nat}, i ≤ xs.length → (rawT xs i).length ≤ i
  | 0, _ => by simp [rawT]
  | i + 1, h => by
    obtain ⟨x, hx⟩ : ∃ x, xs[i]? = some x := ⟨_, List.getElem?_eq_getElem (by omega)⟩
    rw [rawT_one hx, List.length_append]
    have := rawT_len (xs := xs) (i := i) (by omega)
    have : (tchO x).length ≤ 1 := by
      unfold tchO
      split
      · simp
      · split <;> simp
    omega
def namT (xs : List InsS) (o : Int) : Bool := xs.any fun x => x.op == 1 && x.b == o || x.op == 2 && x.a == o
theorem namT_one {xs : List InsS} {i : Nat} {x : InsS} {o : Int} (h : xs[i]? = some x) : namT (xs.take (i + 1)) o = (namT (xs.take i) o || (x.op == 1 && x.b == o || x.op == 2 && x.a == o)) := by
  rw [namT, List.take_add_one, h]
  simp [namT]
def touT (xs : List InsS) (k : Nat) : List Int := ((List.range k).filter fun o : Nat => namT xs (Int.ofNat o)).map fun o : Nat => (Int.ofNat o)
theorem touT_yes {xs : List InsS} {k : Nat} (h : namT xs (k : Int) = true) : touT xs (k + 1) = touT xs k ++ [(k : Int)] := by simp [touT, List.range_succ, h]
theorem touT_no {xs : List InsS} {k : Nat} (h : namT xs (k : Int) = false) : touT xs (k + 1) = touT xs k := by simp [touT, List.range_succ, h]
theorem touT_len (xs : List InsS) (k : Nat) : (touT xs k).length ≤ k := by
  rw [touT, List.length_map]
  have := List.length_filter_le (fun o : Nat => namT xs (Int.ofNat o)) (List.range k)
  rw [List.length_range] at this
  exact this
theorem addT (w : List Int) (f : Int) : rowsN w ++ [[.int .i64 f]] = rowsN (w ++ [f]) := by simp [rowsN, encN]
def cpt (zs : List Int) : List Int := Lib.compact (zs.mergeSort fun x y => decide (x ≤ y))
theorem specTouches_ok (xs : List InsS) (hl : xs.length ≤ 1048576) (r : List Int × Bool) (hr : (if progOkB xs = true then (touT xs 8, true) else ([], false)) = r) :
    SatP Try.prog 26 [.fr 106 (rowsI xs)] (.tup [.rf 0 r.1.length, .bool r.2]) [(3, rowsN r.1)] := by
  have hc := specProgOk_ok xs hl
  change SatP Try.prog _ _ (.bool (progOkB xs)) [] at hc
  refine satP_of_body hT Try.func26 (by kernel_rfl) rfl (rs := [.tmp 2, .tmp 3]) rfl (n := 64) rfl (by simp) rfl (by simpa using rowsN_pur _) fun E hE => ?_
  unfold St.init
  cases hp : progOkB xs with
  | false =>
    rw [hp] at hc
    rw [hp] at hr
    subst hr
    have F := (Eq.refl 0)
    repeat' first
      | refine wSq fun _ hK => ?_
      | refine wRg ?_
      | refine wDr ?_
      | refine VWP_block ?_
      | refine VWP_skip ?_
      | refine VWP_exit ?_
      | refine VWP_ret ?_
      | (refine hK _ ?_; clear hK)
      | (clear hK; refine hK _ ?_; clear hK)
      | (clear hK; clear hK; refine hK _ ?_; clear hK)
      | (clear hK; clear hK; clear hK; refine hK _ ?_; clear hK)
      | (simp only [wHb, reduceCtorEq] at hb <;> try (exfalso; omega))
      | refine wCd (fun hb => ?_) fun hb => ?_
      | refine wCa (c := by first | exact hc) (k := ?_)
      | simp only [go_sem, Nat.reduceLT, Nat.reduceLeDiff, Nat.reduceEqDiff, Nat.reduceAdd, Nat.reduceMul, Nat.reduceSub, reduceCtorEq, F]
      | ((fail_if_success first | refine wNn ?_ | refine wNo ?_ | refine wNl ?_ | refine wNr ?_);  simp (disch := omega) only [decide_eq_true_eq, if_pos, if_neg, wrap_id, le_maxLen, and_true, true_and, if_true, ite_true])
      | refine wGd (fun hb => ?_) fun hb => ?_
    all_goals refine ret_mk (vs := _) (acc := _) (by simp only [go_sem, Nat.reduceLT, Nat.reduceLeDiff, Nat.reduceEqDiff, Nat.reduceAdd, Nat.reduceMul, Nat.reduceSub, reduceCtorEq, vres]; rfl) (by simp only [go_sem, Nat.reduceLT, Nat.reduceLeDiff, Nat.reduceEqDiff, Nat.reduceAdd, Nat.reduceMul, Nat.reduceSub, reduceCtorEq, wrap, exV, exA, exAs, exCs, exC]; rfl) (by simp) (by simp [rowsN]) (by simp [rowsN_pur])
  | true =>
    rw [hp, if_pos rfl] at hr
    subst hr
    rw [hp] at hc
    have F := (Eq.refl 0)
    repeat' first
      | refine wSq fun _ hK => ?_
      | refine wRg ?_
      | refine wDr ?_
      | refine VWP_block ?_
      | refine VWP_skip ?_
      | refine VWP_exit ?_
      | refine VWP_ret ?_
      | (refine hK _ ?_; clear hK)
      | (clear hK; refine hK _ ?_; clear hK)
      | (clear hK; clear hK; refine hK _ ?_; clear hK)
      | (clear hK; clear hK; clear hK; refine hK _ ?_; clear hK)
      | (simp only [wHb, reduceCtorEq] at hb <;> try (exfalso; omega))
      | refine wCd (fun hb => ?_) fun hb => ?_
      | refine wCa (c := by first | exact hc) (k := ?_)
      | simp only [go_sem, Nat.reduceLT, Nat.reduceLeDiff, Nat.reduceEqDiff, Nat.reduceAdd, Nat.reduceMul, Nat.reduceSub, reduceCtorEq, F]
      | ((fail_if_success first | refine wNn ?_ | refine wNo ?_ | refine wNl ?_ | refine wNr ?_);  simp (disch := omega) only [decide_eq_true_eq, if_pos, if_neg, wrap_id, le_maxLen, and_true, true_and, if_true, ite_true])
      | refine wGd (fun hb => ?_) fun hb => ?_
    clear F
    refine VWP_loopN hE (X := Nat) (fun k => [(0, .fr 106 (rowsI xs)), (4, .rf 0 (touT xs k).length), (5, .int .i64 k)]) (fun k => [(0, .root 3 (rowsN (touT xs k)))]) (fun k => 8 - k) (fun k => k ≤ 8) [0] 0 (by omega) (by decide) (by decide) (by simp [updV, renV, renA, renC, touT]) (by simp [updH, renH_at, renE, touT, rowsN]; intro q hq; cases hq) ?_
    intro k hk
    try simp only []
    have hk0 : (0 : Int) ≤ (k : Int) := by omega
    have hw : IntKind.i64.wrap ((k : Int) + 1) = k + 1 := wrap_id (by omega)
    rcases Nat.lt_or_ge k 8 with hlt | hge
    · have hli : (k : Int) < 8 := by omega
      have F := And.intro hli @rowsI_len
      repeat' first
        | refine wSq fun _ hK => ?_
        | refine wRg ?_
        | refine wDr ?_
        | refine VWP_block ?_
        | refine VWP_skip ?_
        | refine VWP_exit ?_
        | refine VWP_ret ?_
        | (refine hK _ ?_; clear hK)
        | (clear hK; refine hK _ ?_; clear hK)
        | (clear hK; clear hK; refine hK _ ?_; clear hK)
        | (clear hK; clear hK; clear hK; refine hK _ ?_; clear hK)
        | (simp only [wHb, reduceCtorEq] at hb <;> try (exfalso; omega))
        | refine wCd (fun hb => ?_) fun hb => ?_
        | simp only [go_sem, Nat.reduceLT, Nat.reduceLeDiff, Nat.reduceEqDiff, Nat.reduceAdd, Nat.reduceMul, Nat.reduceSub, reduceCtorEq, F]
        | ((fail_if_success first | refine wNn ?_ | refine wNo ?_ | refine wNl ?_ | refine wNr ?_);  simp (disch := omega) only [decide_eq_true_eq, if_pos, if_neg, wrap_id, le_maxLen, and_true, true_and, if_true, ite_true])
        | refine wGd (fun hb => ?_) fun hb => ?_
      clear F
      refine VWP_loopN hE (X := Nat) (fun i => [(0, .fr 106 (rowsI xs)), (4, .rf 0 (touT xs k).length), (5, .int .i64 k), (6, .bool (namT (xs.take i) k)), (7, .int .i64 i)]) (fun i => [(0, .root 3 (rowsN (touT xs k)))]) (fun i => xs.length - i) (fun i => i ≤ xs.length) [0] 0 (by omega) (by decide) (by decide) (by simp [updV, tmL, renV, renA, renC, namT]) (by simp [updH, hpL, renH_at, renE, rowsN_pur]) ?_
      intro i hi
      try simp only []
      have hi0 : (0 : Int) ≤ (i : Int) := by omega
      have hwi : IntKind.i64.wrap ((i : Int) + 1) = i + 1 := wrap_id (by omega)
      rcases Nat.lt_or_ge i xs.length with hil | hig
      · obtain ⟨x, hx⟩ : ∃ x, xs[i]? = some x := ⟨_, List.getElem?_eq_getElem hil⟩
        have hrx := rowsI_at hx
        have hii : (i : Int) < (xs.length : Int) := by omega
        have hn1 := namT_one (o := k) hx
        cases h1 : namT (xs.take i) k <;> cases h2 : (x.op == 1) <;> cases h3 : (x.b == (k : Int)) <;> cases h4 : (x.op == 2) <;> cases h5 : (x.a == (k : Int))
        all_goals
          rw [h1, h2, h3, h4, h5] at hn1
          simp only [Bool.or_true, Bool.or_false, Bool.and_true, Bool.and_false, Bool.true_or, Bool.true_and, Bool.false_or, Bool.false_and] at hn1
          have F := And.intro hi0 (And.intro hii (And.intro hil (And.intro hwi (And.intro hrx (And.intro h1 (And.intro h2 (And.intro h3 (And.intro h4 (And.intro h5 @rowsI_len)))))))))
          repeat' first
            | refine wSq fun _ hK => ?_
            | refine wRg ?_
            | refine wDr ?_
            | refine VWP_block ?_
            | refine VWP_skip ?_
            | refine VWP_exit ?_
            | refine VWP_ret ?_
            | (refine hK _ ?_; clear hK)
            | (clear hK; refine hK _ ?_; clear hK)
            | (clear hK; clear hK; refine hK _ ?_; clear hK)
            | (clear hK; clear hK; clear hK; refine hK _ ?_; clear hK)
            | (simp only [wHb, reduceCtorEq] at hb <;> try (exfalso; omega))
            | refine wCd (fun hb => ?_) fun hb => ?_
            | simp only [go_sem, Nat.reduceLT, Nat.reduceLeDiff, Nat.reduceEqDiff, Nat.reduceAdd, Nat.reduceMul, Nat.reduceSub, reduceCtorEq, F]
            | ((fail_if_success first | refine wNn ?_ | refine wNo ?_ | refine wNl ?_ | refine wNr ?_);  simp (disch := omega) only [decide_eq_true_eq, if_pos, if_neg, wrap_id, le_maxLen, and_true, true_and, if_true, ite_true])
            | refine wGd (fun hb => ?_) fun hb => ?_
          clear F
          exact nextN [] rfl [0] (i + 1) rfl (by decide) (by decide) (by omega) (by omega) (by simp [updV, tmL, renV, renA, renC, hn1]) (by simp [updH, hpL, renH_at, renE, rowsN_pur])
      · obtain rfl : i = xs.length := by omega
        have hnl : ¬ ((xs.length : Int) < (xs.length : Int)) := by omega
        rw [List.take_length]
        have htl := touT_len xs k
        cases hn : namT xs k with
        | true =>
          have hy := touT_yes hn
          have ht := rowsN_take (touT xs k)
          have ha := addT (touT xs k) k
          have hly : (touT xs (k + 1)).length = (touT xs k).length + 1 := by rw [hy]; simp
          have F := And.intro hnl (And.intro @rowsI_len (And.intro hw (And.intro hn (And.intro ht (And.intro ha (And.intro @rowsN_len @Nat.le_refl))))))
          repeat' first
            | refine wSq fun _ hK => ?_
            | refine wRg ?_
            | refine wDr ?_
            | refine VWP_block ?_
            | refine VWP_skip ?_
            | refine VWP_exit ?_
            | refine VWP_ret ?_
            | (refine hK _ ?_; clear hK)
            | (clear hK; refine hK _ ?_; clear hK)
            | (clear hK; clear hK; refine hK _ ?_; clear hK)
            | (clear hK; clear hK; clear hK; refine hK _ ?_; clear hK)
            | (simp only [wHb, reduceCtorEq] at hb <;> try (exfalso; omega))
            | refine wCd (fun hb => ?_) fun hb => ?_
            | simp only [go_sem, Nat.reduceLT, Nat.reduceLeDiff, Nat.reduceEqDiff, Nat.reduceAdd, Nat.reduceMul, Nat.reduceSub, reduceCtorEq, F]
            | ((fail_if_success first | refine wNn ?_ | refine wNo ?_ | refine wNl ?_ | refine wNr ?_);  simp (disch := omega) only [decide_eq_true_eq, if_pos, if_neg, wrap_id, le_maxLen, and_true, true_and, if_true, ite_true])
            | refine wGd (fun hb => ?_) fun hb => ?_
          clear F
          exact nextN [] rfl [2] (k + 1) rfl (by decide) (by decide) (by omega) (by omega) (by simp [updV, tmL, renV, renA, renC, hly]) (by simp [updH, hpL, renH_at, renE, rowsN_pur, hy])
        | false =>
          have hy := touT_no hn
          have F := And.intro hnl (And.intro @rowsI_len (And.intro hw hn))
          repeat' first
            | refine wSq fun _ hK => ?_
            | refine wRg ?_
            | refine wDr ?_
            | refine VWP_block ?_
            | refine VWP_skip ?_
            | refine VWP_exit ?_
            | refine VWP_ret ?_
            | (refine hK _ ?_; clear hK)
            | (clear hK; refine hK _ ?_; clear hK)
            | (clear hK; clear hK; refine hK _ ?_; clear hK)
            | (clear hK; clear hK; clear hK; refine hK _ ?_; clear hK)
            | (simp only [wHb, reduceCtorEq] at hb <;> try (exfalso; omega))
            | refine wCd (fun hb => ?_) fun hb => ?_
            | simp only [go_sem, Nat.reduceLT, Nat.reduceLeDiff, Nat.reduceEqDiff, Nat.reduceAdd, Nat.reduceMul, Nat.reduceSub, reduceCtorEq, F]
            | ((fail_if_success first | refine wNn ?_ | refine wNo ?_ | refine wNl ?_ | refine wNr ?_);  simp (disch := omega) only [decide_eq_true_eq, if_pos, if_neg, wrap_id, le_maxLen, and_true, true_and, if_true, ite_true])
            | refine wGd (fun hb => ?_) fun hb => ?_
          clear F
          exact nextN [] rfl [0] (k + 1) rfl (by decide) (by decide) (by omega) (by omega) (by simp [updV, tmL, renV, renA, renC, hy]) (by simp [updH, hpL, renH_at, renE, rowsN_pur, hy])
    · obtain rfl : k = 8 := by omega
      have hnl : ¬ ((8 : Nat) : Int) < 8 := by omega
      have F := hnl
      repeat' first
        | refine wSq fun _ hK => ?_
        | refine wRg ?_
        | refine wDr ?_
        | refine VWP_block ?_
        | refine VWP_skip ?_
        | refine VWP_exit ?_
        | refine VWP_ret ?_
        | (refine hK _ ?_; clear hK)
        | (clear hK; refine hK _ ?_; clear hK)
        | (clear hK; clear hK; refine hK _ ?_; clear hK)
        | (clear hK; clear hK; clear hK; refine hK _ ?_; clear hK)
        | (simp only [wHb, reduceCtorEq] at hb <;> try (exfalso; omega))
        | refine wCd (fun hb => ?_) fun hb => ?_
        | simp only [go_sem, Nat.reduceLT, Nat.reduceLeDiff, Nat.reduceEqDiff, Nat.reduceAdd, Nat.reduceMul, Nat.reduceSub, reduceCtorEq, F]
        | ((fail_if_success first | refine wNn ?_ | refine wNo ?_ | refine wNl ?_ | refine wNr ?_);  simp (disch := omega) only [decide_eq_true_eq, if_pos, if_neg, wrap_id, le_maxLen, and_true, true_and, if_true, ite_true])
        | refine wGd (fun hb => ?_) fun hb => ?_
      all_goals refine ret_mk (vs := _) (acc := _) (by simp only [go_sem, Nat.reduceLT, Nat.reduceLeDiff, Nat.reduceEqDiff, Nat.reduceAdd, Nat.reduceMul, Nat.reduceSub, reduceCtorEq, vres]; rfl) (by simp only [go_sem, Nat.reduceLT, Nat.reduceLeDiff, Nat.reduceEqDiff, Nat.reduceAdd, Nat.reduceMul, Nat.reduceSub, reduceCtorEq, wrap, exV, exA, exAs, exCs, exC, rowsN_len, Nat.le_refl]; rfl) (by simp) (by simp [rowsN_take]) (by simp [rowsN_pur])
theorem implTouches_ok (xs : List InsS) (hl : xs.length ≤ 1048576) (r : List Int × Bool) (hr : (if progOkB xs = true then (cpt (rawT xs xs.length), true) else ([], false)) = r) :
    SatP Try.prog 28 [.fr 106 (rowsI xs)] (.tup [.rf 0 r.1.length, .bool r.2]) [(3, rowsN r.1)] := by
  have hc := implProgOk_ok xs hl
  change SatP Try.prog _ _ (.bool (progOkB xs)) [] at hc
  refine satP_of_body hT Try.func28 (by kernel_rfl) rfl (rs := [.tmp 2, .tmp 3]) rfl (n := 38) rfl (by simp) rfl (by simpa using rowsN_pur _) fun E hE => ?_
  unfold St.init
  cases hp : progOkB xs with
  | false =>
    rw [hp] at hc
    rw [hp] at hr
    subst hr
    have F := (Eq.refl 0)
    repeat' first
      | refine wSq fun _ hK => ?_
      | refine wRg ?_
      | refine wDr ?_
      | refine VWP_block ?_
      | refine VWP_skip ?_
      | refine VWP_exit ?_
      | refine VWP_ret ?_
      | (refine hK _ ?_; clear hK)
      | (clear hK; refine hK _ ?_; clear hK)
      | (clear hK; clear hK; refine hK _ ?_; clear hK)
      | (clear hK; clear hK; clear hK; refine hK _ ?_; clear hK)
      | (simp only [wHb, reduceCtorEq] at hb <;> try (exfalso; omega))
      | refine wCd (fun hb => ?_) fun hb => ?_
      | refine wCa (c := by first | exact hc) (k := ?_)
      | simp only [go_sem, Nat.reduceLT, Nat.reduceLeDiff, Nat.reduceEqDiff, Nat.reduceAdd, Nat.reduceMul, Nat.reduceSub, reduceCtorEq, F]
      | ((fail_if_success first | refine wNn ?_ | refine wNo ?_ | refine wNl ?_ | refine wNr ?_);  simp (disch := omega) only [decide_eq_true_eq, if_pos, if_neg, wrap_id, le_maxLen, and_true, true_and, if_true, ite_true])
      | refine wGd (fun hb => ?_) fun hb => ?_
    all_goals refine ret_mk (vs := _) (acc := _) (by simp only [go_sem, Nat.reduceLT, Nat.reduceLeDiff, Nat.reduceEqDiff, Nat.reduceAdd, Nat.reduceMul, Nat.reduceSub, reduceCtorEq, vres]; rfl) (by simp only [go_sem, Nat.reduceLT, Nat.reduceLeDiff, Nat.reduceEqDiff, Nat.reduceAdd, Nat.reduceMul, Nat.reduceSub, reduceCtorEq, wrap, exV, exA, exAs, exCs, exC]; rfl) (by simp) (by simp [rowsN]) (by simp [rowsN_pur])
  | true =>
    rw [hp, if_pos rfl] at hr
    subst hr
    rw [hp] at hc
    have F := @rowsI_len
    repeat' first
      | refine wSq fun _ hK => ?_
      | refine wRg ?_
      | refine wDr ?_
      | refine VWP_block ?_
      | refine VWP_skip ?_
      | refine VWP_exit ?_
      | refine VWP_ret ?_
      | (refine hK _ ?_; clear hK)
      | (clear hK; refine hK _ ?_; clear hK)
      | (clear hK; clear hK; refine hK _ ?_; clear hK)
      | (clear hK; clear hK; clear hK; refine hK _ ?_; clear hK)
      | (simp only [wHb, reduceCtorEq] at hb <;> try (exfalso; omega))
      | refine wCd (fun hb => ?_) fun hb => ?_
      | refine wCa (c := by first | exact hc) (k := ?_)
      | simp only [go_sem, Nat.reduceLT, Nat.reduceLeDiff, Nat.reduceEqDiff, Nat.reduceAdd, Nat.reduceMul, Nat.reduceSub, reduceCtorEq, F]
      | ((fail_if_success first | refine wNn ?_ | refine wNo ?_ | refine wNl ?_ | refine wNr ?_);  simp (disch := omega) only [decide_eq_true_eq, if_pos, if_neg, wrap_id, le_maxLen, and_true, true_and, if_true, ite_true])
      | refine wGd (fun hb => ?_) fun hb => ?_
    clear F
    refine VWP_loopN hE (X := Nat) (fun i => [(4, .rf 0 (rawT xs i).length), (11, .fr 106 (rowsI xs)), (12, .int .i64 xs.length), (13, .int .i64 i)]) (fun i => [(0, .root 3 (rowsN (rawT xs i)))]) (fun i => xs.length - i) (fun i => i ≤ xs.length) [0] 0 (by omega) (by decide) (by decide) (by simp [updV, renV, renA, renC, rawT]) (by simp [updH, renH_at, renE, rawT, rowsN]; intro q hq; cases hq) ?_
    intro i hi
    try simp only []
    have hi0 : (0 : Int) ≤ (i : Int) := by omega
    have hw : IntKind.i64.wrap ((i : Int) + 1) = i + 1 := wrap_id (by omega)
    have hln := rawT_len hi
    have ht := rowsN_take (rawT xs i)
    rcases Nat.lt_or_ge i xs.length with hlt | hge
    · obtain ⟨x, hx⟩ : ∃ x, xs[i]? = some x := ⟨_, List.getElem?_eq_getElem hlt⟩
      have hrx := rowsI_at hx
      have hli : (i : Int) < (xs.length : Int) := by omega
      have h1 := rawT_one hx
      by_cases ha : x.op = 1
      · have hab : (x.op == 1) = true := by simpa using ha
        have h2 : rawT xs (i + 1) = rawT xs i ++ [x.b] := by rw [h1, tchO, if_pos ha]
        have ho := addT (rawT xs i) x.b
        have hly : (rawT xs (i + 1)).length = (rawT xs i).length + 1 := by rw [h2]; simp
        have F := And.intro hi0 (And.intro hli (And.intro hlt (And.intro hw (And.intro hrx (And.intro hab (And.intro @rowsI_len (And.intro @rowsN_len (And.intro ht (And.intro ho @Nat.le_refl)))))))))
        repeat' first
          | refine wSq fun _ hK => ?_
          | refine wRg ?_
          | refine wDr ?_
          | refine VWP_block ?_
          | refine VWP_skip ?_
          | refine VWP_exit ?_
          | refine VWP_ret ?_
          | (refine hK _ ?_; clear hK)
          | (clear hK; refine hK _ ?_; clear hK)
          | (clear hK; clear hK; refine hK _ ?_; clear hK)
          | (clear hK; clear hK; clear hK; refine hK _ ?_; clear hK)
          | (simp only [wHb, reduceCtorEq] at hb <;> try (exfalso; omega))
          | refine wCd (fun hb => ?_) fun hb => ?_
          | simp only [go_sem, Nat.reduceLT, Nat.reduceLeDiff, Nat.reduceEqDiff, Nat.reduceAdd, Nat.reduceMul, Nat.reduceSub, reduceCtorEq, F]
          | ((fail_if_success first | refine wNn ?_ | refine wNo ?_ | refine wNl ?_ | refine wNr ?_);  simp (disch := omega) only [decide_eq_true_eq, if_pos, if_neg, wrap_id, le_maxLen, and_true, true_and, if_true, ite_true])
          | refine wGd (fun hb => ?_) fun hb => ?_
        clear F
        exact nextN [] rfl [3] (i + 1) rfl (by decide) (by decide) (by omega) (by omega) (by simp [updV, tmL, renV, renA, renC, hly]) (by simp [updH, hpL, renH_at, renE, rowsN_pur, h2])
      · have hab : (x.op == 1) = false := by simpa using ha
        by_cases hb' : x.op = 2
        · have hbb : (x.op == 2) = true := by simpa using hb'
          have h2 : rawT xs (i + 1) = rawT xs i ++ [x.a] := by rw [h1, tchO, if_neg ha, if_pos hb']
          have ho := addT (rawT xs i) x.a
          have hly : (rawT xs (i + 1)).length = (rawT xs i).length + 1 := by rw [h2]; simp
          have F := And.intro hi0 (And.intro hli (And.intro hlt (And.intro hw (And.intro hrx (And.intro hab (And.intro hbb (And.intro @rowsI_len (And.intro @rowsN_len (And.intro ht (And.intro ho @Nat.le_refl))))))))))
          repeat' first
            | refine wSq fun _ hK => ?_
            | refine wRg ?_
            | refine wDr ?_
            | refine VWP_block ?_
            | refine VWP_skip ?_
            | refine VWP_exit ?_
            | refine VWP_ret ?_
            | (refine hK _ ?_; clear hK)
            | (clear hK; refine hK _ ?_; clear hK)
            | (clear hK; clear hK; refine hK _ ?_; clear hK)
            | (clear hK; clear hK; clear hK; refine hK _ ?_; clear hK)
            | (simp only [wHb, reduceCtorEq] at hb <;> try (exfalso; omega))
            | refine wCd (fun hb => ?_) fun hb => ?_
            | simp only [go_sem, Nat.reduceLT, Nat.reduceLeDiff, Nat.reduceEqDiff, Nat.reduceAdd, Nat.reduceMul, Nat.reduceSub, reduceCtorEq, F]
            | ((fail_if_success first | refine wNn ?_ | refine wNo ?_ | refine wNl ?_ | refine wNr ?_);  simp (disch := omega) only [decide_eq_true_eq, if_pos, if_neg, wrap_id, le_maxLen, and_true, true_and, if_true, ite_true])
            | refine wGd (fun hb => ?_) fun hb => ?_
          clear F
          exact nextN [] rfl [3] (i + 1) rfl (by decide) (by decide) (by omega) (by omega) (by simp [updV, tmL, renV, renA, renC, hly]) (by simp [updH, hpL, renH_at, renE, rowsN_pur, h2])
        · have hbb : (x.op == 2) = false := by simpa using hb'
          have h2 : rawT xs (i + 1) = rawT xs i := by rw [h1, tchO, if_neg ha, if_neg hb', List.append_nil]
          have F := And.intro hi0 (And.intro hli (And.intro hlt (And.intro hw (And.intro hrx (And.intro hab (And.intro hbb (And.intro @rowsI_len (And.intro @rowsN_len (And.intro ht @Nat.le_refl)))))))))
          repeat' first
            | refine wSq fun _ hK => ?_
            | refine wRg ?_
            | refine wDr ?_
            | refine VWP_block ?_
            | refine VWP_skip ?_
            | refine VWP_exit ?_
            | refine VWP_ret ?_
            | (refine hK _ ?_; clear hK)
            | (clear hK; refine hK _ ?_; clear hK)
            | (clear hK; clear hK; refine hK _ ?_; clear hK)
            | (clear hK; clear hK; clear hK; refine hK _ ?_; clear hK)
            | (simp only [wHb, reduceCtorEq] at hb <;> try (exfalso; omega))
            | refine wCd (fun hb => ?_) fun hb => ?_
            | simp only [go_sem, Nat.reduceLT, Nat.reduceLeDiff, Nat.reduceEqDiff, Nat.reduceAdd, Nat.reduceMul, Nat.reduceSub, reduceCtorEq, F]
            | ((fail_if_success first | refine wNn ?_ | refine wNo ?_ | refine wNl ?_ | refine wNr ?_);  simp (disch := omega) only [decide_eq_true_eq, if_pos, if_neg, wrap_id, le_maxLen, and_true, true_and, if_true, ite_true])
            | refine wGd (fun hb => ?_) fun hb => ?_
          clear F
          exact nextN [] rfl [0] (i + 1) rfl (by decide) (by decide) (by omega) (by omega) (by simp [updV, tmL, renV, renA, renC, h2]) (by simp [updH, hpL, renH_at, renE, rowsN_pur, h2])
    · obtain rfl : i = xs.length := by omega
      have hnl : ¬ ((xs.length : Int) < (xs.length : Int)) := by omega
      have s1 := sortI_ok (rawT xs xs.length) (by omega)
      have s2 := compactI_ok ((rawT xs xs.length).mergeSort fun x y => decide (x ≤ y)) (by rw [List.length_mergeSort]; omega)
      rw [List.length_mergeSort] at s2
      have hcl := Lib.compact_length_le ((rawT xs xs.length).mergeSort fun x y => decide (x ≤ y))
      rw [List.length_mergeSort] at hcl
      change SatO _ _ _ _ (.rf 0 (cpt (rawT xs xs.length)).length) [.root _ (rowsN (cpt (rawT xs xs.length) ++ List.replicate ((rawT xs xs.length).length - (cpt (rawT xs xs.length)).length) 0))] at s2
      have hcc : (cpt (rawT xs xs.length)).length ≤ (cpt (rawT xs xs.length) ++ List.replicate ((rawT xs xs.length).length - (cpt (rawT xs xs.length)).length) (0 : Int)).length := by simp
      have htk : (rowsN (cpt (rawT xs xs.length) ++ List.replicate ((rawT xs xs.length).length - (cpt (rawT xs xs.length)).length) (0 : Int))).take (cpt (rawT xs xs.length)).length = rowsN (cpt (rawT xs xs.length)) := by simp [rowsN]
      have F := And.intro hnl (And.intro @rowsN_len @rowsN_pur)
      repeat' first
        | refine wSq fun _ hK => ?_
        | refine wRg ?_
        | refine wDr ?_
        | refine VWP_block ?_
        | refine VWP_skip ?_
        | refine VWP_exit ?_
        | refine VWP_ret ?_
        | (refine hK _ ?_; clear hK)
        | (clear hK; refine hK _ ?_; clear hK)
        | (clear hK; clear hK; refine hK _ ?_; clear hK)
        | (clear hK; clear hK; clear hK; refine hK _ ?_; clear hK)
        | (simp only [wHb, reduceCtorEq] at hb <;> try (exfalso; omega))
        | refine wCd (fun hb => ?_) fun hb => ?_
        | refine wOw [0] (c := by exact s1) (k := ?_)
        | refine wOw [0] (c := by exact s2) (k := ?_)
        | simp only [go_sem, Nat.reduceLT, Nat.reduceLeDiff, Nat.reduceEqDiff, Nat.reduceAdd, Nat.reduceMul, Nat.reduceSub, reduceCtorEq, F]
        | ((fail_if_success first | refine wNn ?_ | refine wNo ?_ | refine wNl ?_ | refine wNr ?_);  simp (disch := omega) only [decide_eq_true_eq, if_pos, if_neg, wrap_id, le_maxLen, and_true, true_and, if_true, ite_true])
        | refine wGd (fun hb => ?_) fun hb => ?_
      all_goals refine ret_mk (vs := _) (acc := _) (by simp only [go_sem, Nat.reduceLT, Nat.reduceLeDiff, Nat.reduceEqDiff, Nat.reduceAdd, Nat.reduceMul, Nat.reduceSub, reduceCtorEq, vres]; rfl) (by simp only [go_sem, Nat.reduceLT, Nat.reduceLeDiff, Nat.reduceEqDiff, Nat.reduceAdd, Nat.reduceMul, Nat.reduceSub, reduceCtorEq, wrap, exV, exA, exAs, exCs, exC, rowsN_len, Nat.le_refl, hcc]; rfl) (by simp) (by simp [htk]) (by simp [rowsN_pur])
end Go.Proofs.Ytmiojnibngncaaa
