/- Rows of numbers, and what the laws' functions of its slices give. -/
import Derived.Test.YtchkbgekmoileaaDB
namespace Go.Proofs.Ytchkbgekmoileaa
open Go Go.RowKit
set_option linter.unusedVariables false
set_option linter.unusedSimpArgs false
set_option maxRecDepth 100000
set_option maxHeartbeats 4000000
attribute [local irreducible] VWP vops vdraw contV contD CallK Guard GuardV NextL Puts Runs RetOK RetQ RetO RetQO thenQ blockQ

def encN (n : Int) : List PT := [.int .i64 n]
def rowsN (es : List Int) : List (List PT) := es.map encN
theorem rowsN_len (es : List Int) : (rowsN es).length = es.length := by simp [rowsN]
theorem rowsN_pur (es : List Int) : PurRows (rowsN es) := by
  intro r hr c hc
  obtain ⟨e, _, rfl⟩ := List.mem_map.1 hr
  simp only [encN, List.mem_cons, List.not_mem_nil, or_false] at hc
  rcases hc with rfl <;> constructor
theorem rowsN_take (es : List Int) : (rowsN es).take es.length = rowsN es := by rw [List.take_of_length_le (by rw [rowsN_len]; exact Nat.le_refl _)]
theorem rowsN_at {es : List Int} {i : Nat} {e : Int} (h : es[i]? = some e) : (rowsN es)[i]? = some [.int .i64 e] := by simp [rowsN, h, encN]
theorem rowsN_scal (es : List Int) : (rowsN es).all (·.all scal) = true := by
  simp [rowsN, encN, scal, List.all_eq_true]
theorem rowsN_app (es : List Int) (e : Int) : rowsN es ++ [[.int .i64 e]] = rowsN (es ++ [e]) := by simp [rowsN, encN]
theorem rowsN_set (es : List Int) (k : Nat) (e : Int) : (rowsN es).set k [.int .i64 e] = rowsN (es.set k e) := by simp [rowsN, List.map_set, encN]

theorem toIntS_ok (es : List Int) (hl : es.length ≤ 1048576) : SatP Try.prog 17 [.fr 3 (rowsN es)] (.rf 0 es.length) [(3, rowsN es)] := by
  refine satP_of_body hT Try.func17 (by kernel_rfl) rfl (rs := [.tmp 2]) rfl (n := 22) rfl (by simp) rfl (by simpa using rowsN_pur es) fun E hE => ?_
  unfold St.init
  have F := @rowsN_len
  repeat' first
    | refine wSq fun _ hK => ?_
    | refine wRg ?_
    | refine wDr ?_
    | refine VWP_block ?_
    | refine VWP_skip ?_
    | refine VWP_exit ?_
    | refine VWP_ret ?_
    | (refine hK _ ?_; clear hK)
    | (clear hK; refine hK _ ?_; clear hK)
    | (clear hK; clear hK; refine hK _ ?_; clear hK)
    | (clear hK; clear hK; clear hK; refine hK _ ?_; clear hK)
    | (simp only [wHb, reduceCtorEq] at hb <;> try (exfalso; omega))
    | refine wCd (fun hb => ?_) fun hb => ?_
    | simp only [go_sem, Nat.reduceLT, Nat.reduceLeDiff, Nat.reduceEqDiff, Nat.reduceAdd, Nat.reduceMul, Nat.reduceSub, reduceCtorEq, F]
    | simp (disch := omega) only [decide_eq_true_eq, if_pos, if_neg, wrap_id, le_maxLen, and_true, true_and, if_true, ite_true]
    | refine wGd (fun hb => ?_) fun hb => ?_
  refine VWP_loopL (X := Nat × List (List PT)) (fun x => [(0, .fr 3 (rowsN es)), (3, .rf 0 es.length), (4, .int .i64 x.1)]) (fun x => [(0, .root 3 x.2)]) (fun x => es.length - x.1)
    (fun x => x.1 ≤ es.length ∧ x.2.length = es.length ∧ (∀ j e, j < x.1 → es[j]? = some e → x.2[j]? = some (encN e)) ∧ (∀ j, x.1 ≤ j → j < es.length → x.2[j]? = some [.int .i64 0]))
    1 (0, List.replicate es.length [.int .i64 0]) ⟨by simp, by simp, by simp, fun j _ hj => by simp [hj]⟩ (by simp [updV]) (by simp [updH]) (by simp) ?_
  rintro ⟨i, rows⟩ nx ⟨hi, hlen, hdone, hrest⟩ hB
  rcases Nat.lt_or_ge i es.length with hlt | hge
  · obtain ⟨e, he⟩ : ∃ e, es[i]? = some e := ⟨_, List.getElem?_eq_getElem hlt⟩
    have hr := hrest i (Nat.le_refl _) hlt
    simp only at hr hi hlen hdone hrest
    have hre := rowsN_at he
    have F := And.intro @rowsN_len (And.intro hre (And.intro hr hlen))
    repeat' first
      | refine wSq fun _ hK => ?_
      | refine wRg ?_
      | refine wDr ?_
      | refine VWP_block ?_
      | refine VWP_skip ?_
      | refine VWP_exit ?_
      | refine VWP_ret ?_
      | (refine hK _ ?_; clear hK)
      | (clear hK; refine hK _ ?_; clear hK)
      | (clear hK; clear hK; refine hK _ ?_; clear hK)
      | (clear hK; clear hK; clear hK; refine hK _ ?_; clear hK)
      | (simp only [wHb, reduceCtorEq] at hb <;> try (exfalso; omega))
      | refine wCd (fun hb => ?_) fun hb => ?_
      | simp only [go_sem, Nat.reduceLT, Nat.reduceLeDiff, Nat.reduceEqDiff, Nat.reduceAdd, Nat.reduceMul, Nat.reduceSub, reduceCtorEq, F]
      | simp (disch := omega) only [decide_eq_true_eq, if_pos, if_neg, wrap_id, le_maxLen, and_true, true_and, if_true, ite_true]
      | refine wGd (fun hb => ?_) fun hb => ?_
    have hw := wrap_id (x := (i : Int) + 1) (by omega)
    refine nextL (i + 1, rows.set i (encN e)) ⟨?_, ?_, ?_, ?_⟩ ?_ (by simp [updV, tmL, hw]) (by simp [updH, hpL, encN]) (by simpa using hB)
    · simp only; omega
    · simpa using hlen
    · intro j f hj hf
      rcases Nat.lt_or_ge j i with h | h
      · simp only; rw [List.getElem?_set_ne (by omega)]; exact hdone j f h hf
      · obtain rfl : j = i := by simp only at hj; omega
        rw [he] at hf
        cases hf
        simp [hlen, hlt]
    · intro j hj hj2
      simp only at hj
      simp only
      rw [List.getElem?_set_ne (by omega)]
      exact hrest j (by omega) hj2
    · simp only; omega
  · simp only at hi hlen hdone hrest
    obtain rfl : i = es.length := by omega
    have hrows : rows = rowsN es := by
      refine List.ext_getElem? fun j => ?_
      rcases Nat.lt_or_ge j es.length with h | h
      · obtain ⟨e, he⟩ : ∃ e, es[j]? = some e := ⟨_, List.getElem?_eq_getElem h⟩
        rw [hdone j e h he, rowsN_at he]
        rfl
      · rw [List.getElem?_eq_none (by omega), List.getElem?_eq_none (by rw [rowsN_len]; omega)]
    subst hrows
    have F := @rowsN_len
    repeat' first
      | refine wSq fun _ hK => ?_
      | refine wRg ?_
      | refine wDr ?_
      | refine VWP_block ?_
      | refine VWP_skip ?_
      | refine VWP_exit ?_
      | refine VWP_ret ?_
      | (refine hK _ ?_; clear hK)
      | (clear hK; refine hK _ ?_; clear hK)
      | (clear hK; clear hK; refine hK _ ?_; clear hK)
      | (clear hK; clear hK; clear hK; refine hK _ ?_; clear hK)
      | (simp only [wHb, reduceCtorEq] at hb <;> try (exfalso; omega))
      | refine wCd (fun hb => ?_) fun hb => ?_
      | simp only [go_sem, Nat.reduceLT, Nat.reduceLeDiff, Nat.reduceEqDiff, Nat.reduceAdd, Nat.reduceMul, Nat.reduceSub, reduceCtorEq, F]
      | simp (disch := omega) only [decide_eq_true_eq, if_pos, if_neg, wrap_id, le_maxLen, and_true, true_and, if_true, ite_true]
      | refine wGd (fun hb => ?_) fun hb => ?_
    refine ret_rf (T := 0) (by simp only [go_sem, Nat.reduceLT, Nat.reduceLeDiff, Nat.reduceEqDiff, Nat.reduceAdd, Nat.reduceMul, Nat.reduceSub, reduceCtorEq]) (by simp only [go_sem, Nat.reduceLT, Nat.reduceLeDiff, Nat.reduceEqDiff, Nat.reduceAdd, Nat.reduceMul, Nat.reduceSub, reduceCtorEq]) (rowsN_len es).symm (rowsN_pur es)
theorem eqIntS_ok (es fs : List Int) (hl : es.length ≤ 1099511627776) : SatP Try.prog 20 [.fr 3 (rowsN es), .fr 3 (rowsN fs)] (.bool (decide (es = fs))) [] := by
  refine satP_of_body hT Try.func20 (by kernel_rfl) rfl (rs := [.tmp 4]) rfl (n := 26) rfl (by simp) rfl (by simp) fun E hE => ?_
  unfold St.init
  have F := @rowsN_len
  repeat' first
    | refine wSq fun _ hK => ?_
    | refine wRg ?_
    | refine wDr ?_
    | refine VWP_block ?_
    | refine VWP_skip ?_
    | refine VWP_exit ?_
    | refine VWP_ret ?_
    | (refine hK _ ?_; clear hK)
    | (clear hK; refine hK _ ?_; clear hK)
    | (clear hK; clear hK; refine hK _ ?_; clear hK)
    | (clear hK; clear hK; clear hK; refine hK _ ?_; clear hK)
    | (simp only [wHb, reduceCtorEq] at hb <;> try (exfalso; omega))
    | refine wCd (fun hb => ?_) fun hb => ?_
    | simp only [go_sem, Nat.reduceLT, Nat.reduceLeDiff, Nat.reduceEqDiff, Nat.reduceAdd, Nat.reduceMul, Nat.reduceSub, reduceCtorEq, F]
    | simp (disch := omega) only [decide_eq_true_eq, if_pos, if_neg, wrap_id, le_maxLen, and_true, true_and, if_true, ite_true]
    | refine wGd (fun hb => ?_) fun hb => ?_
  · refine wLf ?_
    have : es ≠ fs := fun h => by subst h; simp at hb
    simp [this]
  have hlen : es.length = fs.length := by simp at hb; omega
  clear hb
  refine VWP_loopL (X := Nat) (fun i => [(0, .fr 3 (rowsN es)), (1, .fr 3 (rowsN fs)), (5, .int .i64 i)]) (fun _ => []) (fun i => es.length - i) (fun i => i ≤ es.length ∧ ∀ j, j < i → es[j]? = fs[j]?) 0 0 ⟨by simp, by simp⟩ (by simp [updV]) (by simp) (by simp) ?_
  rintro i nx ⟨hi, hdone⟩ hB
  rcases Nat.lt_or_ge i es.length with hlt | hge
  · obtain ⟨e, he⟩ : ∃ e, es[i]? = some e := ⟨_, List.getElem?_eq_getElem hlt⟩
    obtain ⟨f, hf⟩ : ∃ f, fs[i]? = some f := ⟨_, List.getElem?_eq_getElem (by omega)⟩
    have hre := rowsN_at he
    have hrf := rowsN_at hf
    have F := And.intro @rowsN_len (And.intro hre hrf)
    repeat' first
      | refine wSq fun _ hK => ?_
      | refine wRg ?_
      | refine wDr ?_
      | refine VWP_block ?_
      | refine VWP_skip ?_
      | refine VWP_exit ?_
      | refine VWP_ret ?_
      | (refine hK _ ?_; clear hK)
      | (clear hK; refine hK _ ?_; clear hK)
      | (clear hK; clear hK; refine hK _ ?_; clear hK)
      | (clear hK; clear hK; clear hK; refine hK _ ?_; clear hK)
      | (simp only [wHb, reduceCtorEq] at hb <;> try (exfalso; omega))
      | refine wCd (fun hb => ?_) fun hb => ?_
      | simp only [go_sem, Nat.reduceLT, Nat.reduceLeDiff, Nat.reduceEqDiff, Nat.reduceAdd, Nat.reduceMul, Nat.reduceSub, reduceCtorEq, F]
      | simp (disch := omega) only [decide_eq_true_eq, if_pos, if_neg, wrap_id, le_maxLen, and_true, true_and, if_true, ite_true]
      | refine wGd (fun hb => ?_) fun hb => ?_
    · refine wLf ?_
      have : es ≠ fs := fun h => by subst h; rw [he] at hf; cases hf; simp_all
      simp [this]
    · have hef : e = f := by simpa using hb
      have hw := wrap_id (x := (i : Int) + 1) (by omega)
      refine nextL (i + 1) ⟨by omega, fun j hj => ?_⟩ (by omega) (by simp [updV, tmL, hw]) (by simp) (by simp)
      rcases Nat.lt_or_ge j i with h | h
      · exact hdone j h
      · obtain rfl : j = i := by omega
        rw [he, hf, hef]
  · obtain rfl : i = es.length := by omega
    have : es = fs := List.ext_getElem? fun j => by
      rcases Nat.lt_or_ge j es.length with h | h
      · exact hdone j h
      · rw [List.getElem?_eq_none (by omega), List.getElem?_eq_none (by omega)]
    subst this
    have F := @rowsN_len
    repeat' first
      | refine wSq fun _ hK => ?_
      | refine wRg ?_
      | refine wDr ?_
      | refine VWP_block ?_
      | refine VWP_skip ?_
      | refine VWP_exit ?_
      | refine VWP_ret ?_
      | (refine hK _ ?_; clear hK)
      | (clear hK; refine hK _ ?_; clear hK)
      | (clear hK; clear hK; refine hK _ ?_; clear hK)
      | (clear hK; clear hK; clear hK; refine hK _ ?_; clear hK)
      | (simp only [wHb, reduceCtorEq] at hb <;> try (exfalso; omega))
      | refine wCd (fun hb => ?_) fun hb => ?_
      | simp only [go_sem, Nat.reduceLT, Nat.reduceLeDiff, Nat.reduceEqDiff, Nat.reduceAdd, Nat.reduceMul, Nat.reduceSub, reduceCtorEq, F]
      | simp (disch := omega) only [decide_eq_true_eq, if_pos, if_neg, wrap_id, le_maxLen, and_true, true_and, if_true, ite_true]
      | refine wGd (fun hb => ?_) fun hb => ?_
    refine wLf ?_
    simp


/-- Marks, from a number on. -/
def marksN (k : Int) (n : Nat) : List Int := (List.range n).map fun j => k + (j : Nat)
theorem marksN_len (k : Int) (n : Nat) : (marksN k n).length = n := by simp [marksN]
theorem marksN_at {k : Int} {n i : Nat} (h : i < n) : (marksN k n)[i]? = some (k + (i : Nat)) := by simp [marksN, h]
end Go.Proofs.Ytchkbgekmoileaa
