/- Rows of bools, and what the laws' functions of its slices give. -/
import Derived.Test.YtmiojnibngncaaaDB
import Derived.Test.YtmiojnibngncaaaEM
namespace Go.Proofs.Ytmiojnibngncaaa
open Go Go.RowKit
set_option linter.unusedVariables false
set_option linter.unusedSimpArgs false
set_option maxRecDepth 100000
set_option maxHeartbeats 4000000
attribute [local irreducible] VWP vops vdraw contV contD CallK Guard GuardV NextL Puts Runs RetOK RetQ RetO RetQO thenQ blockQ
attribute [local irreducible] NextN

def encB (b : Bool) : List PT := [.bool b]
def rowsB (es : List Bool) : List (List PT) := es.map encB
theorem rowsB_len (es : List Bool) : (rowsB es).length = es.length := by simp [rowsB]
theorem rowsB_pur (es : List Bool) : PurRows (rowsB es) := by
  intro r hr c hc
  obtain ⟨e, _, rfl⟩ := List.mem_map.1 hr
  simp only [encB, List.mem_cons, List.not_mem_nil, or_false] at hc
  rcases hc with rfl <;> constructor
theorem rowsB_take (es : List Bool) : (rowsB es).take es.length = rowsB es := by rw [List.take_of_length_le (by rw [rowsB_len]; exact Nat.le_refl _)]
theorem rowsB_at {es : List Bool} {i : Nat} {e : Bool} (h : es[i]? = some e) : (rowsB es)[i]? = some [.bool e] := by simp [rowsB, h, encB]
theorem toBoolS_ok (es : List Bool) (hl : es.length ≤ 1048576) : SatP Try.prog 48 [.fr 4 (rowsB es)] (.rf 0 es.length) [(4, rowsB es)] := by
  refine satP_of_body hT Try.func48 (by kernel_rfl) rfl (rs := [.tmp 2]) rfl (n := 22) rfl (by simp) rfl (by simpa using rowsB_pur es) fun E hE => ?_
  unfold St.init
  have F := @rowsB_len
  repeat' first
    | refine wSq fun _ hK => ?_
    | refine wRg ?_
    | refine wDr ?_
    | refine VWP_block ?_
    | refine VWP_skip ?_
    | refine VWP_exit ?_
    | refine VWP_ret ?_
    | (refine hK _ ?_; clear hK)
    | (clear hK; refine hK _ ?_; clear hK)
    | (clear hK; clear hK; refine hK _ ?_; clear hK)
    | (clear hK; clear hK; clear hK; refine hK _ ?_; clear hK)
    | (simp only [wHb, reduceCtorEq] at hb <;> try (exfalso; omega))
    | refine wCd (fun hb => ?_) fun hb => ?_
    | simp only [go_sem, Nat.reduceLT, Nat.reduceLeDiff, Nat.reduceEqDiff, Nat.reduceAdd, Nat.reduceMul, Nat.reduceSub, reduceCtorEq, F]
    | simp (disch := omega) only [decide_eq_true_eq, if_pos, if_neg, wrap_id, le_maxLen, and_true, true_and, if_true, ite_true]
    | refine wGd (fun hb => ?_) fun hb => ?_
  have n1 := rowsB_len es
  have n2 : (List.replicate es.length [PT.bool false]).length = es.length := by simp
  have n3 := rowsB_pur es
  have n4 : PurRows (List.replicate es.length [PT.bool false]) := rep_pur fun c hc => by
    simp only [List.mem_cons, List.not_mem_nil, or_false] at hc
    subst hc
    exact .bool _
  generalize hZ : List.replicate es.length [PT.bool false] = Z at *
  refine VWP_loopN hE (X := Nat) (fun i => [(0, .fr 4 (rowsB es)), (3, .rf 0 es.length), (4, .int .i64 i)]) (fun i => [(0, .root 4 (mixL (rowsB es) Z i))]) (fun i => es.length - i)
    (fun i => i ≤ es.length) [0] 0 (by simp) (by decide) (by decide) (by simp [updV, renV, renA, renC]) (by simp [updH, renH_at, renE, zPT, mixL_zero, ← hZ]; rw [hZ]; exact n4) ?_
  intro i hi
  have n5 := mixL_len n1 n2 hi
  have hw := wrap_id (x := (i : Int) + 1) (by omega)
  have n6 := mixL_pur n3 n4
  rcases Nat.lt_or_ge i es.length with hlt | hge
  · obtain ⟨b, hb1⟩ : ∃ p, es[i]? = some p := ⟨_, List.getElem?_eq_getElem hlt⟩
    have hre := rowsB_at hb1
    have hz : Z[i]? = some [PT.bool false] := by rw [← hZ]; simp [hlt]
    have hr := mixL_at n1 n2 hlt hz
    have hs := mixL_set n1 n2 hre
    have F := And.intro @rowsB_len (And.intro hre (And.intro hr (And.intro hlt n5)))
    repeat' first
      | refine wSq fun _ hK => ?_
      | refine wRg ?_
      | refine wDr ?_
      | refine VWP_block ?_
      | refine VWP_skip ?_
      | refine VWP_exit ?_
      | refine VWP_ret ?_
      | (refine hK _ ?_; clear hK)
      | (clear hK; refine hK _ ?_; clear hK)
      | (clear hK; clear hK; refine hK _ ?_; clear hK)
      | (clear hK; clear hK; clear hK; refine hK _ ?_; clear hK)
      | (simp only [wHb, reduceCtorEq] at hb <;> try (exfalso; omega))
      | refine wCd (fun hb => ?_) fun hb => ?_
      | simp only [go_sem, Nat.reduceLT, Nat.reduceLeDiff, Nat.reduceEqDiff, Nat.reduceAdd, Nat.reduceMul, Nat.reduceSub, reduceCtorEq, F]
      | simp (disch := omega) only [decide_eq_true_eq, if_pos, if_neg, wrap_id, le_maxLen, and_true, true_and, if_true, ite_true]
      | refine wGd (fun hb => ?_) fun hb => ?_
    refine nextN [] rfl [0] (i + 1) rfl (by decide) (by decide) (by omega) (by omega) (by simp [updV, tmL, renV, renA, renC, hw]) ?_
    simp [updH, hpL, renH_at, renE, hs, n6]
  · obtain rfl : i = es.length := by omega
    have h0 := mixL_all n1 n2
    rw [h0]
    have F := @rowsB_len
    repeat' first
      | refine wSq fun _ hK => ?_
      | refine wRg ?_
      | refine wDr ?_
      | refine VWP_block ?_
      | refine VWP_skip ?_
      | refine VWP_exit ?_
      | refine VWP_ret ?_
      | (refine hK _ ?_; clear hK)
      | (clear hK; refine hK _ ?_; clear hK)
      | (clear hK; clear hK; refine hK _ ?_; clear hK)
      | (clear hK; clear hK; clear hK; refine hK _ ?_; clear hK)
      | (simp only [wHb, reduceCtorEq] at hb <;> try (exfalso; omega))
      | refine wCd (fun hb => ?_) fun hb => ?_
      | simp only [go_sem, Nat.reduceLT, Nat.reduceLeDiff, Nat.reduceEqDiff, Nat.reduceAdd, Nat.reduceMul, Nat.reduceSub, reduceCtorEq, F]
      | simp (disch := omega) only [decide_eq_true_eq, if_pos, if_neg, wrap_id, le_maxLen, and_true, true_and, if_true, ite_true]
      | refine wGd (fun hb => ?_) fun hb => ?_
    refine ret_rf (T := 0) (by simp only [go_sem, Nat.reduceLT, Nat.reduceLeDiff, Nat.reduceEqDiff, Nat.reduceAdd, Nat.reduceMul, Nat.reduceSub, reduceCtorEq]) (by simp only [go_sem, Nat.reduceLT, Nat.reduceLeDiff, Nat.reduceEqDiff, Nat.reduceAdd, Nat.reduceMul, Nat.reduceSub, reduceCtorEq]) (rowsB_len es).symm (rowsB_pur es)
theorem eqBoolS_ok (es fs : List Bool) (hl : es.length ≤ 1099511627776) : SatP Try.prog 50 [.fr 4 (rowsB es), .fr 4 (rowsB fs)] (.bool (decide (es = fs))) [] := by
  refine satP_of_body hT Try.func50 (by kernel_rfl) rfl (rs := [.tmp 4]) rfl (n := 26) rfl (by simp) rfl (by simp) fun E hE => ?_
  unfold St.init
  have F := @rowsB_len
  repeat' first
    | refine wSq fun _ hK => ?_
    | refine wRg ?_
    | refine wDr ?_
    | refine VWP_block ?_
    | refine VWP_skip ?_
    | refine VWP_exit ?_
    | refine VWP_ret ?_
    | (refine hK _ ?_; clear hK)
    | (clear hK; refine hK _ ?_; clear hK)
    | (clear hK; clear hK; refine hK _ ?_; clear hK)
    | (clear hK; clear hK; clear hK; refine hK _ ?_; clear hK)
    | (simp only [wHb, reduceCtorEq] at hb <;> try (exfalso; omega))
    | refine wCd (fun hb => ?_) fun hb => ?_
    | simp only [go_sem, Nat.reduceLT, Nat.reduceLeDiff, Nat.reduceEqDiff, Nat.reduceAdd, Nat.reduceMul, Nat.reduceSub, reduceCtorEq, F]
    | simp (disch := omega) only [decide_eq_true_eq, if_pos, if_neg, wrap_id, le_maxLen, and_true, true_and, if_true, ite_true]
    | refine wGd (fun hb => ?_) fun hb => ?_
  · refine wLf ?_
    have : es ≠ fs := fun h => by subst h; simp at hb
    simp [this]
  have hlen : es.length = fs.length := by simp at hb; omega
  clear hb
  refine VWP_loopL (X := Nat) (fun i => [(0, .fr 4 (rowsB es)), (1, .fr 4 (rowsB fs)), (5, .int .i64 i)]) (fun _ => []) (fun i => es.length - i) (fun i => i ≤ es.length ∧ ∀ j, j < i → es[j]? = fs[j]?) 0 0 ⟨by simp, by simp⟩ (by simp [updV]) (by simp) (by simp) ?_
  rintro i nx ⟨hi, hdone⟩ hB
  rcases Nat.lt_or_ge i es.length with hlt | hge
  · obtain ⟨e, hei⟩ : ∃ e, es[i]? = some e := ⟨_, List.getElem?_eq_getElem hlt⟩
    obtain ⟨f, hfi⟩ : ∃ f, fs[i]? = some f := ⟨_, List.getElem?_eq_getElem (by omega)⟩
    have hre := rowsB_at hei
    have hrf := rowsB_at hfi
    have F := And.intro @rowsB_len (And.intro hre hrf)
    repeat' first
      | refine wSq fun _ hK => ?_
      | refine wRg ?_
      | refine wDr ?_
      | refine VWP_block ?_
      | refine VWP_skip ?_
      | refine VWP_exit ?_
      | refine VWP_ret ?_
      | (refine hK _ ?_; clear hK)
      | (clear hK; refine hK _ ?_; clear hK)
      | (clear hK; clear hK; refine hK _ ?_; clear hK)
      | (clear hK; clear hK; clear hK; refine hK _ ?_; clear hK)
      | (simp only [wHb, reduceCtorEq] at hb <;> try (exfalso; omega))
      | refine wCd (fun hb => ?_) fun hb => ?_
      | simp only [go_sem, Nat.reduceLT, Nat.reduceLeDiff, Nat.reduceEqDiff, Nat.reduceAdd, Nat.reduceMul, Nat.reduceSub, reduceCtorEq, F]
      | simp (disch := omega) only [decide_eq_true_eq, if_pos, if_neg, wrap_id, le_maxLen, and_true, true_and, if_true, ite_true]
      | refine wGd (fun hb => ?_) fun hb => ?_
    · refine wLf ?_
      have : es ≠ fs := fun h => by subst h; rw [hei] at hfi; cases hfi; simp_all
      simp [this]
    · have hef : e = f := by simp_all
      have hw := wrap_id (x := (i : Int) + 1) (by omega)
      refine nextL (i + 1) ⟨by omega, fun j hj => ?_⟩ (by omega) (by simp [updV, tmL, hw]) (by simp) (by simp)
      rcases Nat.lt_or_ge j i with h | h
      · exact hdone j h
      · obtain rfl : j = i := by omega
        rw [hei, hfi, hef]
  · obtain rfl : i = es.length := by omega
    have : es = fs := List.ext_getElem? fun j => by
      rcases Nat.lt_or_ge j es.length with h | h
      · exact hdone j h
      · rw [List.getElem?_eq_none (by omega), List.getElem?_eq_none (by omega)]
    have F := @rowsB_len
    repeat' first
      | refine wSq fun _ hK => ?_
      | refine wRg ?_
      | refine wDr ?_
      | refine VWP_block ?_
      | refine VWP_skip ?_
      | refine VWP_exit ?_
      | refine VWP_ret ?_
      | (refine hK _ ?_; clear hK)
      | (clear hK; refine hK _ ?_; clear hK)
      | (clear hK; clear hK; refine hK _ ?_; clear hK)
      | (clear hK; clear hK; clear hK; refine hK _ ?_; clear hK)
      | (simp only [wHb, reduceCtorEq] at hb <;> try (exfalso; omega))
      | refine wCd (fun hb => ?_) fun hb => ?_
      | simp only [go_sem, Nat.reduceLT, Nat.reduceLeDiff, Nat.reduceEqDiff, Nat.reduceAdd, Nat.reduceMul, Nat.reduceSub, reduceCtorEq, F]
      | simp (disch := omega) only [decide_eq_true_eq, if_pos, if_neg, wrap_id, le_maxLen, and_true, true_and, if_true, ite_true]
      | refine wGd (fun hb => ?_) fun hb => ?_
    refine wLf ?_
    simp [this]
def marksB (k : Int) (n : Nat) : List Bool := (List.range n).map fun j => (k + (j : Nat)).tmod 3 == 0
theorem marksB_len (k : Int) (n : Nat) : (marksB k n).length = n := by simp [marksB]
theorem marksB_at {k : Int} {n i : Nat} (h : i < n) : (marksB k n)[i]? = some ((k + (i : Nat)).tmod 3 == 0) := by simp [marksB, h]
theorem markBoolS_ok (es : List Bool) (k : Int) (h0 : 0 ≤ k) (h1 : k ≤ 1099511627776) (hl : es.length ≤ 1099511627776) :
    SatO Try.prog 51 [.rf 0 es.length, .int .i64 k] [.root 4 (rowsB es)] (.int .i64 (k + es.length)) [.root 4 (rowsB (marksB k es.length))] := by
  refine satO_of_body hT Try.func51 (by kernel_rfl) rfl (rs := [.tmp 4]) rfl (n := 21) rfl (by simp) rfl (m := 1) rfl ⟨⟨rfl, rowsB_pur _⟩, by simp [keptL]⟩ fun E hE => ?_
  unfold St.initO
  have F := @rowsB_len
  repeat' first
    | refine wSq fun _ hK => ?_
    | refine wRg ?_
    | refine wDr ?_
    | refine VWP_block ?_
    | refine VWP_skip ?_
    | refine VWP_exit ?_
    | refine VWP_ret ?_
    | (refine hK _ ?_; clear hK)
    | (clear hK; refine hK _ ?_; clear hK)
    | (clear hK; clear hK; refine hK _ ?_; clear hK)
    | (clear hK; clear hK; clear hK; refine hK _ ?_; clear hK)
    | (simp only [wHb, reduceCtorEq] at hb <;> try (exfalso; omega))
    | refine wCd (fun hb => ?_) fun hb => ?_
    | simp only [go_sem, Nat.reduceLT, Nat.reduceLeDiff, Nat.reduceEqDiff, Nat.reduceAdd, Nat.reduceMul, Nat.reduceSub, reduceCtorEq, F]
    | simp (disch := omega) only [decide_eq_true_eq, if_pos, if_neg, wrap_id, le_maxLen, and_true, true_and, if_true, ite_true]
    | refine wGd (fun hb => ?_) fun hb => ?_
  have n1 : (rowsB (marksB k es.length)).length = es.length := by rw [rowsB_len, marksB_len]
  have n2 := rowsB_len es
  have n3 := rowsB_pur (marksB k es.length)
  have n4 := rowsB_pur es
  refine VWP_loopN hE (X := Nat) (fun i => [(0, .rf 0 es.length), (1, .int .i64 (k + (i : Nat))), (5, .int .i64 i)]) (fun i => [(0, .root 4 (mixL (rowsB (marksB k es.length)) (rowsB es) i))]) (fun i => es.length - i)
    (fun i => i ≤ es.length) [0] 0 (by simp) (by decide) (by decide) (by simp [updV, renV, renA, renC]) (by simp [HpE, renH_at, renE, mixL_zero, n4]) ?_
  intro i hi
  have n5 := mixL_len n1 n2 hi
  have n6 := mixL_pur n3 n4
  rcases Nat.lt_or_ge i es.length with hlt | hge
  · obtain ⟨b, hb1⟩ : ∃ p, es[i]? = some p := ⟨_, List.getElem?_eq_getElem hlt⟩
    have hr := mixL_at n1 n2 hlt (rowsB_at hb1)
    have hs := mixL_set n1 n2 (rowsB_at (marksB_at (k := k) hlt))
    have a1 : k + (i : Nat) + 1 = k + ((i + 1 : Nat) : Int) := by omega
    have w1 := wrap_id (x := k + ((i + 1 : Nat) : Int)) (by omega)
    have w0 := wrap_id (x := (i : Int) + 1) (by omega)
    have m1 := Int.tmod_lt_of_pos (k + (i : Nat)) (b := 3) (by omega)
    have m2 := Int.tmod_nonneg (a := k + (i : Nat)) 3 (by omega)
    have wm := wrap_id (x := (k + (i : Nat)).tmod 3) (by omega)
    have F := And.intro @rowsB_len (And.intro hr (And.intro hlt (And.intro n5 (And.intro a1 (And.intro w0 (And.intro w1 wm))))))
    repeat' first
      | refine wSq fun _ hK => ?_
      | refine wRg ?_
      | refine wDr ?_
      | refine VWP_block ?_
      | refine VWP_skip ?_
      | refine VWP_exit ?_
      | refine VWP_ret ?_
      | (refine hK _ ?_; clear hK)
      | (clear hK; refine hK _ ?_; clear hK)
      | (clear hK; clear hK; refine hK _ ?_; clear hK)
      | (clear hK; clear hK; clear hK; refine hK _ ?_; clear hK)
      | (simp only [wHb, reduceCtorEq] at hb <;> try (exfalso; omega))
      | refine wCd (fun hb => ?_) fun hb => ?_
      | simp only [go_sem, Nat.reduceLT, Nat.reduceLeDiff, Nat.reduceEqDiff, Nat.reduceAdd, Nat.reduceMul, Nat.reduceSub, reduceCtorEq, F]
      | simp (disch := omega) only [decide_eq_true_eq, if_pos, if_neg, wrap_id, le_maxLen, and_true, true_and, if_true, ite_true]
      | refine wGd (fun hb => ?_) fun hb => ?_
    refine nextN [] rfl [0] (i + 1) rfl (by decide) (by decide) (by omega) (by omega) (by simp [updV, tmL, renV, renA, renC, w0]) ?_
    simp [updH, hpL, renH_at, renE, hs, n6]
  · obtain rfl : i = es.length := by omega
    have h0 := mixL_all n1 n2
    rw [h0]
    have F := And.intro @rowsB_len (And.intro @marksB_len @Nat.le_refl)
    repeat' first
      | refine wSq fun _ hK => ?_
      | refine wRg ?_
      | refine wDr ?_
      | refine VWP_block ?_
      | refine VWP_skip ?_
      | refine VWP_exit ?_
      | refine VWP_ret ?_
      | (refine hK _ ?_; clear hK)
      | (clear hK; refine hK _ ?_; clear hK)
      | (clear hK; clear hK; refine hK _ ?_; clear hK)
      | (clear hK; clear hK; clear hK; refine hK _ ?_; clear hK)
      | (simp only [wHb, reduceCtorEq] at hb <;> try (exfalso; omega))
      | refine wCd (fun hb => ?_) fun hb => ?_
      | simp only [go_sem, Nat.reduceLT, Nat.reduceLeDiff, Nat.reduceEqDiff, Nat.reduceAdd, Nat.reduceMul, Nat.reduceSub, reduceCtorEq, F]
      | simp (disch := omega) only [decide_eq_true_eq, if_pos, if_neg, wrap_id, le_maxLen, and_true, true_and, if_true, ite_true]
      | refine wGd (fun hb => ?_) fun hb => ?_
    exact retO_one (by simp only [go_sem, Nat.reduceLT, Nat.reduceLeDiff, Nat.reduceEqDiff, Nat.reduceAdd, Nat.reduceMul, Nat.reduceSub, reduceCtorEq]) rfl (by simp only [go_sem, Nat.reduceLT, Nat.reduceLeDiff, Nat.reduceEqDiff, Nat.reduceAdd, Nat.reduceMul, Nat.reduceSub, reduceCtorEq]) rfl rfl
end Go.Proofs.Ytmiojnibngncaaa
