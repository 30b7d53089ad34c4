/- Rows of the type Head, and what the laws' functions of its slices give. -/
import Derived.Test.YtmiojnibngncaaaDB
namespace Go.Proofs.Ytmiojnibngncaaa
open Go Go.RowKit
set_option linter.unusedVariables false
set_option linter.unusedSimpArgs false
set_option maxRecDepth 100000
set_option maxHeartbeats 4000000
attribute [local irreducible] VWP vops vdraw contV contD CallK Guard GuardV NextL Puts Runs RetOK RetQ RetO RetQO thenQ blockQ

structure HeadD where
  value : Int
  version : Int
  desc : Int
  deriving DecidableEq
def HeadD.enc (e : HeadD) : List PT := [.int .i64 e.value, .int .i64 e.version, .int .i64 e.desc]
def HeadD.cells (e : HeadD) : List VV := [.int .i64 e.value, .int .i64 e.version, .int .i64 e.desc]
def rowsH (es : List HeadD) : List (List PT) := es.map HeadD.enc
theorem rowsH_len (es : List HeadD) : (rowsH es).length = es.length := by simp [rowsH]
theorem rowsH_pur (es : List HeadD) : PurRows (rowsH es) := by
  intro r hr c hc
  obtain ⟨e, _, rfl⟩ := List.mem_map.1 hr
  simp only [HeadD.enc, List.mem_cons, List.not_mem_nil, or_false] at hc
  rcases hc with rfl | rfl | rfl <;> constructor
theorem rowsH_take (es : List HeadD) : (rowsH es).take es.length = rowsH es := by rw [List.take_of_length_le (by rw [rowsH_len]; exact Nat.le_refl _)]
theorem rowsH_at {es : List HeadD} {i : Nat} {e : HeadD} (h : es[i]? = some e) : (rowsH es)[i]? = some [.int .i64 e.value, .int .i64 e.version, .int .i64 e.desc] := by simp [rowsH, h, HeadD.enc]
theorem rowsH_scal (es : List HeadD) : (rowsH es).all (·.all scal) = true := by
  simp [rowsH, HeadD.enc, scal, List.all_eq_true]
theorem rowsH_app (es : List HeadD) (e : HeadD) : rowsH es ++ [[.int .i64 e.value, .int .i64 e.version, .int .i64 e.desc]] = rowsH (es ++ [e]) := by simp [rowsH, HeadD.enc]
theorem rowsH_set (es : List HeadD) (k : Nat) (e : HeadD) : (rowsH es).set k [.int .i64 e.value, .int .i64 e.version, .int .i64 e.desc] = rowsH (es.set k e) := by simp [rowsH, List.map_set, HeadD.enc]

theorem toHead_ok (e : HeadD) : SatP Try.prog 116 [.agg e.cells] (.agg e.cells) [] := by
  refine satP_of_body hT Try.func116 (by kernel_rfl) rfl (rs := [.cell 2 147]) rfl (n := 14) rfl (by simp) rfl (by simp) fun E hE => ?_
  unfold St.init
  unfold HeadD.cells
  have F := (Eq.refl 0)
  repeat' first
    | refine wSq fun _ hK => ?_
    | refine wRg ?_
    | refine wDr ?_
    | refine VWP_block ?_
    | refine VWP_skip ?_
    | refine VWP_exit ?_
    | refine VWP_ret ?_
    | (refine hK _ ?_; clear hK)
    | (clear hK; refine hK _ ?_; clear hK)
    | (clear hK; clear hK; refine hK _ ?_; clear hK)
    | (clear hK; clear hK; clear hK; refine hK _ ?_; clear hK)
    | (simp only [wHb, reduceCtorEq] at hb <;> try (exfalso; omega))
    | refine wCd (fun hb => ?_) fun hb => ?_
    | simp only [go_sem, Nat.reduceLT, Nat.reduceLeDiff, Nat.reduceEqDiff, Nat.reduceAdd, Nat.reduceMul, Nat.reduceSub, reduceCtorEq, F]
    | simp (disch := omega) only [decide_eq_true_eq, if_pos, if_neg, wrap_id, le_maxLen, and_true, true_and, if_true, ite_true]
    | refine wGd (fun hb => ?_) fun hb => ?_
  all_goals refine ret_mk (vs := _) (acc := _) (by simp only [go_sem, Nat.reduceLT, Nat.reduceLeDiff, Nat.reduceEqDiff, Nat.reduceAdd, Nat.reduceMul, Nat.reduceSub, reduceCtorEq, vres]; rfl) (by simp only [go_sem, Nat.reduceLT, Nat.reduceLeDiff, Nat.reduceEqDiff, Nat.reduceAdd, Nat.reduceMul, Nat.reduceSub, reduceCtorEq, wrap, exV, exA, exCs, exC]; rfl) (by simp) (by simp) (by simp)
theorem eqHead_ok (e f : HeadD) : SatP Try.prog 122 [.agg e.cells, .agg f.cells] (.bool (decide (e = f))) [] := by
  refine satP_of_body hT Try.func122 (by kernel_rfl) rfl (rs := [.tmp 4]) rfl (n := 20) rfl (by simp) rfl (by simp) fun E hE => ?_
  unfold St.init
  unfold HeadD.cells
  have F := (Eq.refl 0)
  repeat' first
    | refine wSq fun _ hK => ?_
    | refine wRg ?_
    | refine wDr ?_
    | refine VWP_block ?_
    | refine VWP_skip ?_
    | refine VWP_exit ?_
    | refine VWP_ret ?_
    | (refine hK _ ?_; clear hK)
    | (clear hK; refine hK _ ?_; clear hK)
    | (clear hK; clear hK; refine hK _ ?_; clear hK)
    | (clear hK; clear hK; clear hK; refine hK _ ?_; clear hK)
    | (simp only [wHb, reduceCtorEq] at hb <;> try (exfalso; omega))
    | refine wCd (fun hb => ?_) fun hb => ?_
    | simp only [go_sem, Nat.reduceLT, Nat.reduceLeDiff, Nat.reduceEqDiff, Nat.reduceAdd, Nat.reduceMul, Nat.reduceSub, reduceCtorEq, F]
    | simp (disch := omega) only [decide_eq_true_eq, if_pos, if_neg, wrap_id, le_maxLen, and_true, true_and, if_true, ite_true]
    | refine wGd (fun hb => ?_) fun hb => ?_
  all_goals refine wLf ?_
  all_goals (cases e; cases f; simp_all)
theorem szHeadS_ok (es : List HeadD) (left : Int) (h0 : 0 ≤ left) (h1 : left ≤ 1048576) (hl : es.length ≤ 9223372036854775807) : SatP Try.prog 75 [.fr 149 (rowsH es), .int .i64 left] (.int .i64 (szB es.length left)) [] := by
  have hw : IntKind.i64.wrap (left - es.length) = left - es.length := wrap_id (by omega)
  refine satP_of_body hT Try.func75 (by kernel_rfl) rfl (rs := [.tmp 4]) rfl (n := 12) rfl (by simp) rfl (by simp) fun E hE => ?_
  unfold St.init
  have F := And.intro @rowsH_len hw
  repeat' first
    | refine wSq fun _ hK => ?_
    | refine wRg ?_
    | refine wDr ?_
    | refine VWP_block ?_
    | refine VWP_skip ?_
    | refine VWP_exit ?_
    | refine VWP_ret ?_
    | (refine hK _ ?_; clear hK)
    | (clear hK; refine hK _ ?_; clear hK)
    | (clear hK; clear hK; refine hK _ ?_; clear hK)
    | (clear hK; clear hK; clear hK; refine hK _ ?_; clear hK)
    | (simp only [wHb, reduceCtorEq] at hb <;> try (exfalso; omega))
    | refine wCd (fun hb => ?_) fun hb => ?_
    | simp only [go_sem, Nat.reduceLT, Nat.reduceLeDiff, Nat.reduceEqDiff, Nat.reduceAdd, Nat.reduceMul, Nat.reduceSub, reduceCtorEq, F]
    | simp (disch := omega) only [decide_eq_true_eq, if_pos, if_neg, wrap_id, le_maxLen, and_true, true_and, if_true, ite_true]
    | refine wGd (fun hb => ?_) fun hb => ?_
  all_goals refine wLf ?_
  all_goals simp only [szB]
  · rw [if_pos hb]
  · rw [if_neg hb]
theorem toHeadS_ok (es : List HeadD) (hl : es.length ≤ 1048576) : SatP Try.prog 80 [.fr 149 (rowsH es)] (.rf 0 es.length) [(147, rowsH es)] := by
  refine satP_of_body hT Try.func80 (by kernel_rfl) rfl (rs := [.tmp 2]) rfl (n := 23) rfl (by simp) rfl (by simpa using rowsH_pur es) fun E hE => ?_
  unfold St.init
  have F := @rowsH_len
  repeat' first
    | refine wSq fun _ hK => ?_
    | refine wRg ?_
    | refine wDr ?_
    | refine VWP_block ?_
    | refine VWP_skip ?_
    | refine VWP_exit ?_
    | refine VWP_ret ?_
    | (refine hK _ ?_; clear hK)
    | (clear hK; refine hK _ ?_; clear hK)
    | (clear hK; clear hK; refine hK _ ?_; clear hK)
    | (clear hK; clear hK; clear hK; refine hK _ ?_; clear hK)
    | (simp only [wHb, reduceCtorEq] at hb <;> try (exfalso; omega))
    | refine wCd (fun hb => ?_) fun hb => ?_
    | simp only [go_sem, Nat.reduceLT, Nat.reduceLeDiff, Nat.reduceEqDiff, Nat.reduceAdd, Nat.reduceMul, Nat.reduceSub, reduceCtorEq, F]
    | simp (disch := omega) only [decide_eq_true_eq, if_pos, if_neg, wrap_id, le_maxLen, and_true, true_and, if_true, ite_true]
    | refine wGd (fun hb => ?_) fun hb => ?_
  refine VWP_loopL (X := Nat × List (List PT)) (fun x => [(0, .fr 149 (rowsH es)), (3, .rf 0 es.length), (4, .int .i64 x.1)]) (fun x => [(0, .root 147 x.2)]) (fun x => es.length - x.1)
    (fun x => x.1 ≤ es.length ∧ x.2.length = es.length ∧ (∀ j e, j < x.1 → es[j]? = some e → x.2[j]? = some e.enc) ∧ (∀ j, x.1 ≤ j → j < es.length → x.2[j]? = some [.int .i64 0, .int .i64 0, .int .i64 0]))
    1 (0, List.replicate es.length [.int .i64 0, .int .i64 0, .int .i64 0]) ⟨by simp, by simp, by simp, fun j _ hj => by simp [hj]⟩ (by simp [updV]) (by simp [updH]) (by simp) ?_
  rintro ⟨i, rows⟩ nx ⟨hi, hlen, hdone, hrest⟩ hB
  rcases Nat.lt_or_ge i es.length with hlt | hge
  · obtain ⟨e, he⟩ : ∃ e, es[i]? = some e := ⟨_, List.getElem?_eq_getElem hlt⟩
    have hr := hrest i (Nat.le_refl _) hlt
    simp only at hr hi hlen hdone hrest
    have hre := rowsH_at he
    have F := And.intro @rowsH_len (And.intro hre (And.intro hr (And.intro hlen @HeadD.cells.eq_1)))
    repeat' first
      | refine wSq fun _ hK => ?_
      | refine wRg ?_
      | refine wDr ?_
      | refine VWP_block ?_
      | refine VWP_skip ?_
      | refine VWP_exit ?_
      | refine VWP_ret ?_
      | (refine hK _ ?_; clear hK)
      | (clear hK; refine hK _ ?_; clear hK)
      | (clear hK; clear hK; refine hK _ ?_; clear hK)
      | (clear hK; clear hK; clear hK; refine hK _ ?_; clear hK)
      | (simp only [wHb, reduceCtorEq] at hb <;> try (exfalso; omega))
      | refine wCd (fun hb => ?_) fun hb => ?_
      | refine wCa (c := by first | exact toHead_ok _) (k := ?_)
      | simp only [go_sem, Nat.reduceLT, Nat.reduceLeDiff, Nat.reduceEqDiff, Nat.reduceAdd, Nat.reduceMul, Nat.reduceSub, reduceCtorEq, F]
      | simp (disch := omega) only [decide_eq_true_eq, if_pos, if_neg, wrap_id, le_maxLen, and_true, true_and, if_true, ite_true]
      | refine wGd (fun hb => ?_) fun hb => ?_
    have hw := wrap_id (x := (i : Int) + 1) (by omega)
    refine nextL (i + 1, rows.set i e.enc) ⟨?_, ?_, ?_, ?_⟩ ?_ (by simp [updV, tmL, hw]) (by simp [updH, hpL, HeadD.enc]) (by simpa using hB)
    · simp only; omega
    · simpa using hlen
    · intro j f hj hf
      rcases Nat.lt_or_ge j i with h | h
      · simp only; rw [List.getElem?_set_ne (by omega)]; exact hdone j f h hf
      · obtain rfl : j = i := by simp only at hj; omega
        rw [he] at hf
        cases hf
        simp [hlen, hlt]
    · intro j hj hj2
      simp only at hj
      simp only
      rw [List.getElem?_set_ne (by omega)]
      exact hrest j (by omega) hj2
    · simp only; omega
  · simp only at hi hlen hdone hrest
    obtain rfl : i = es.length := by omega
    have hrows : rows = rowsH es := by
      refine List.ext_getElem? fun j => ?_
      rcases Nat.lt_or_ge j es.length with h | h
      · obtain ⟨e, he⟩ : ∃ e, es[j]? = some e := ⟨_, List.getElem?_eq_getElem h⟩
        rw [hdone j e h he, rowsH_at he]
        rfl
      · rw [List.getElem?_eq_none (by omega), List.getElem?_eq_none (by rw [rowsH_len]; omega)]
    subst hrows
    have F := @rowsH_len
    repeat' first
      | refine wSq fun _ hK => ?_
      | refine wRg ?_
      | refine wDr ?_
      | refine VWP_block ?_
      | refine VWP_skip ?_
      | refine VWP_exit ?_
      | refine VWP_ret ?_
      | (refine hK _ ?_; clear hK)
      | (clear hK; refine hK _ ?_; clear hK)
      | (clear hK; clear hK; refine hK _ ?_; clear hK)
      | (clear hK; clear hK; clear hK; refine hK _ ?_; clear hK)
      | (simp only [wHb, reduceCtorEq] at hb <;> try (exfalso; omega))
      | refine wCd (fun hb => ?_) fun hb => ?_
      | simp only [go_sem, Nat.reduceLT, Nat.reduceLeDiff, Nat.reduceEqDiff, Nat.reduceAdd, Nat.reduceMul, Nat.reduceSub, reduceCtorEq, F]
      | simp (disch := omega) only [decide_eq_true_eq, if_pos, if_neg, wrap_id, le_maxLen, and_true, true_and, if_true, ite_true]
      | refine wGd (fun hb => ?_) fun hb => ?_
    refine ret_rf (T := 0) (by simp only [go_sem, Nat.reduceLT, Nat.reduceLeDiff, Nat.reduceEqDiff, Nat.reduceAdd, Nat.reduceMul, Nat.reduceSub, reduceCtorEq]) (by simp only [go_sem, Nat.reduceLT, Nat.reduceLeDiff, Nat.reduceEqDiff, Nat.reduceAdd, Nat.reduceMul, Nat.reduceSub, reduceCtorEq]) (rowsH_len es).symm (rowsH_pur es)
theorem eqHeadS_ok (es fs : List HeadD) (hl : es.length ≤ 1099511627776) : SatP Try.prog 86 [.fr 147 (rowsH es), .fr 147 (rowsH fs)] (.bool (decide (es = fs))) [] := by
  refine satP_of_body hT Try.func86 (by kernel_rfl) rfl (rs := [.tmp 4]) rfl (n := 27) rfl (by simp) rfl (by simp) fun E hE => ?_
  unfold St.init
  have F := @rowsH_len
  repeat' first
    | refine wSq fun _ hK => ?_
    | refine wRg ?_
    | refine wDr ?_
    | refine VWP_block ?_
    | refine VWP_skip ?_
    | refine VWP_exit ?_
    | refine VWP_ret ?_
    | (refine hK _ ?_; clear hK)
    | (clear hK; refine hK _ ?_; clear hK)
    | (clear hK; clear hK; refine hK _ ?_; clear hK)
    | (clear hK; clear hK; clear hK; refine hK _ ?_; clear hK)
    | (simp only [wHb, reduceCtorEq] at hb <;> try (exfalso; omega))
    | refine wCd (fun hb => ?_) fun hb => ?_
    | refine wCa (c := by first | exact eqHead_ok _ _) (k := ?_)
    | simp only [go_sem, Nat.reduceLT, Nat.reduceLeDiff, Nat.reduceEqDiff, Nat.reduceAdd, Nat.reduceMul, Nat.reduceSub, reduceCtorEq, F]
    | simp (disch := omega) only [decide_eq_true_eq, if_pos, if_neg, wrap_id, le_maxLen, and_true, true_and, if_true, ite_true]
    | refine wGd (fun hb => ?_) fun hb => ?_
  · refine wLf ?_
    have : es ≠ fs := fun h => by subst h; simp at hb
    simp [this]
  have hlen : es.length = fs.length := by simp at hb; omega
  clear hb
  refine VWP_loopL (X := Nat) (fun i => [(0, .fr 147 (rowsH es)), (1, .fr 147 (rowsH fs)), (5, .int .i64 i)]) (fun _ => []) (fun i => es.length - i) (fun i => i ≤ es.length ∧ ∀ j, j < i → es[j]? = fs[j]?) 0 0 ⟨by simp, by simp⟩ (by simp [updV]) (by simp) (by simp) ?_
  rintro i nx ⟨hi, hdone⟩ hB
  rcases Nat.lt_or_ge i es.length with hlt | hge
  · obtain ⟨e, he⟩ : ∃ e, es[i]? = some e := ⟨_, List.getElem?_eq_getElem hlt⟩
    obtain ⟨f, hf⟩ : ∃ f, fs[i]? = some f := ⟨_, List.getElem?_eq_getElem (by omega)⟩
    have hre := rowsH_at he
    have hrf := rowsH_at hf
    have F := And.intro @rowsH_len (And.intro hre hrf)
    repeat' first
      | refine wSq fun _ hK => ?_
      | refine wRg ?_
      | refine wDr ?_
      | refine VWP_block ?_
      | refine VWP_skip ?_
      | refine VWP_exit ?_
      | refine VWP_ret ?_
      | (refine hK _ ?_; clear hK)
      | (clear hK; refine hK _ ?_; clear hK)
      | (clear hK; clear hK; refine hK _ ?_; clear hK)
      | (clear hK; clear hK; clear hK; refine hK _ ?_; clear hK)
      | (simp only [wHb, reduceCtorEq] at hb <;> try (exfalso; omega))
      | refine wCd (fun hb => ?_) fun hb => ?_
      | refine wCa (c := by first | exact eqHead_ok e f) (k := ?_)
      | simp only [go_sem, Nat.reduceLT, Nat.reduceLeDiff, Nat.reduceEqDiff, Nat.reduceAdd, Nat.reduceMul, Nat.reduceSub, reduceCtorEq, F]
      | simp (disch := omega) only [decide_eq_true_eq, if_pos, if_neg, wrap_id, le_maxLen, and_true, true_and, if_true, ite_true]
      | refine wGd (fun hb => ?_) fun hb => ?_
    · refine wLf ?_
      have : es ≠ fs := fun h => by subst h; rw [he] at hf; cases hf; simp_all
      simp [this]
    · have hef : e = f := by assumption
      have hw := wrap_id (x := (i : Int) + 1) (by omega)
      refine nextL (i + 1) ⟨by omega, fun j hj => ?_⟩ (by omega) (by simp [updV, tmL, hw]) (by simp) (by simp)
      rcases Nat.lt_or_ge j i with h | h
      · exact hdone j h
      · obtain rfl : j = i := by omega
        rw [he, hf, hef]
  · obtain rfl : i = es.length := by omega
    have : es = fs := List.ext_getElem? fun j => by
      rcases Nat.lt_or_ge j es.length with h | h
      · exact hdone j h
      · rw [List.getElem?_eq_none (by omega), List.getElem?_eq_none (by omega)]
    subst this
    have F := @rowsH_len
    repeat' first
      | refine wSq fun _ hK => ?_
      | refine wRg ?_
      | refine wDr ?_
      | refine VWP_block ?_
      | refine VWP_skip ?_
      | refine VWP_exit ?_
      | refine VWP_ret ?_
      | (refine hK _ ?_; clear hK)
      | (clear hK; refine hK _ ?_; clear hK)
      | (clear hK; clear hK; refine hK _ ?_; clear hK)
      | (clear hK; clear hK; clear hK; refine hK _ ?_; clear hK)
      | (simp only [wHb, reduceCtorEq] at hb <;> try (exfalso; omega))
      | refine wCd (fun hb => ?_) fun hb => ?_
      | simp only [go_sem, Nat.reduceLT, Nat.reduceLeDiff, Nat.reduceEqDiff, Nat.reduceAdd, Nat.reduceMul, Nat.reduceSub, reduceCtorEq, F]
      | simp (disch := omega) only [decide_eq_true_eq, if_pos, if_neg, wrap_id, le_maxLen, and_true, true_and, if_true, ite_true]
      | refine wGd (fun hb => ?_) fun hb => ?_
    refine wLf ?_
    simp


/-- The mark, from a number on. -/
def markH (k : Int) : HeadD := ⟨k, k + 1, k + 2⟩
def marksH (k : Int) (n : Nat) : List HeadD := (List.range n).map fun j => markH (k + 3 * (j : Nat))
theorem marksH_len (k : Int) (n : Nat) : (marksH k n).length = n := by simp [marksH]
theorem marksH_at {k : Int} {n i : Nat} (h : i < n) : (marksH k n)[i]? = some (markH (k + 3 * (i : Nat))) := by simp [marksH, h]
theorem markHeadS_ok (es : List HeadD) (k : Int) (h0 : 0 ≤ k) (h1 : k ≤ 1099511627776) (hl : es.length ≤ 1099511627776) :
    SatO Try.prog 88 [.rf 0 es.length, .int .i64 k] [.root 147 (rowsH es)] (.int .i64 (k + 3 * es.length)) [.root 147 (rowsH (marksH k es.length))] := by
  refine satO_of_body hT Try.func88 (by kernel_rfl) rfl (rs := [.tmp 4]) rfl (n := 34) rfl (by simp) rfl (m := 1) rfl ⟨⟨rfl, rowsH_pur _⟩, by simp [keptL]⟩ fun E hE => ?_
  unfold St.initO
  have F := @rowsH_len
  repeat' first
    | refine wSq fun _ hK => ?_
    | refine wRg ?_
    | refine wDr ?_
    | refine VWP_block ?_
    | refine VWP_skip ?_
    | refine VWP_exit ?_
    | refine VWP_ret ?_
    | (refine hK _ ?_; clear hK)
    | (clear hK; refine hK _ ?_; clear hK)
    | (clear hK; clear hK; refine hK _ ?_; clear hK)
    | (clear hK; clear hK; clear hK; refine hK _ ?_; clear hK)
    | (simp only [wHb, reduceCtorEq] at hb <;> try (exfalso; omega))
    | refine wCd (fun hb => ?_) fun hb => ?_
    | simp only [go_sem, Nat.reduceLT, Nat.reduceLeDiff, Nat.reduceEqDiff, Nat.reduceAdd, Nat.reduceMul, Nat.reduceSub, reduceCtorEq, F]
    | simp (disch := omega) only [decide_eq_true_eq, if_pos, if_neg, wrap_id, le_maxLen, and_true, true_and, if_true, ite_true]
    | refine wGd (fun hb => ?_) fun hb => ?_
  refine VWP_loopL (X := Nat × List (List PT)) (fun x => [(0, .rf 0 es.length), (1, .int .i64 (k + 3 * (x.1 : Nat))), (5, .int .i64 x.1)]) (fun x => [(0, .root 147 x.2)]) (fun x => es.length - x.1)
    (fun x => x.1 ≤ es.length ∧ x.2.length = es.length ∧ (∀ (j : Nat), j < x.1 → x.2[j]? = some (markH (k + 3 * (j : Nat))).enc) ∧ ∀ (j : Nat), x.1 ≤ j → x.2[j]? = (rowsH es)[j]?)
    1 (0, rowsH es) ⟨by simp, by simp [rowsH_len], by simp, by simp⟩ (by simp [updV]) (by simp [HpE]) (by simp) ?_
  rintro ⟨i, rows⟩ nx ⟨hi, hlen, hdone, hrest⟩ hB
  simp only at hi hlen hdone hrest
  rcases Nat.lt_or_ge i es.length with hlt | hge
  · obtain ⟨e, he⟩ : ∃ e, es[i]? = some e := ⟨_, List.getElem?_eq_getElem hlt⟩
    have hr := hrest i (Nat.le_refl _)
    rw [rowsH_at he] at hr
    have hli : i < rows.length := by omega
    have hle : es.length ≤ rows.length := by omega
    have a2 : k + 3 * (i : Nat) + 1 + 1 = k + 3 * (i : Nat) + 2 := by omega
    have a3 : k + 3 * (i : Nat) + 2 + 1 = k + 3 * ((i + 1 : Nat) : Int) := by omega
    have w1 := wrap_id (x := k + 3 * (i : Nat) + 1) (by omega)
    have w2 := wrap_id (x := k + 3 * (i : Nat) + 2) (by omega)
    have w3 := wrap_id (x := k + 3 * ((i + 1 : Nat) : Int)) (by omega)
    have w0 := wrap_id (x := (i : Int) + 1) (by omega)
    have F := And.intro @rowsH_len (And.intro hr (And.intro hle (And.intro @List.set_set.{0} (And.intro @List.length_set.{0} (And.intro (fun a => List.getElem?_set_self (a := a) hli) (And.intro a2 (And.intro a3 (And.intro w0 (And.intro w1 (And.intro w2 w3))))))))))
    repeat' first
      | refine wSq fun _ hK => ?_
      | refine wRg ?_
      | refine wDr ?_
      | refine VWP_block ?_
      | refine VWP_skip ?_
      | refine VWP_exit ?_
      | refine VWP_ret ?_
      | (refine hK _ ?_; clear hK)
      | (clear hK; refine hK _ ?_; clear hK)
      | (clear hK; clear hK; refine hK _ ?_; clear hK)
      | (clear hK; clear hK; clear hK; refine hK _ ?_; clear hK)
      | (simp only [wHb, reduceCtorEq] at hb <;> try (exfalso; omega))
      | refine wCd (fun hb => ?_) fun hb => ?_
      | simp only [go_sem, Nat.reduceLT, Nat.reduceLeDiff, Nat.reduceEqDiff, Nat.reduceAdd, Nat.reduceMul, Nat.reduceSub, reduceCtorEq, F]
      | simp (disch := omega) only [decide_eq_true_eq, if_pos, if_neg, wrap_id, le_maxLen, and_true, true_and, if_true, ite_true]
      | refine wGd (fun hb => ?_) fun hb => ?_
    refine nextL (i + 1, rows.set i (markH (k + 3 * (i : Nat))).enc) ⟨by simp only; omega, by simpa using hlen, fun j hj => ?_, fun j hj => ?_⟩ (by simp only; omega) ?_ ?_ (by simpa using hB)
    · simp only at hj ⊢
      rcases Nat.lt_or_ge j i with h | h
      · rw [List.getElem?_set_ne (by omega)]; exact hdone j h
      · obtain rfl : j = i := by omega
        simp [hli]
    · simp only at hj ⊢
      rw [List.getElem?_set_ne (by omega)]
      exact hrest j (by omega)
    · simp [updV, tmL, w0]
    · simp [updH, hpL, markH, HeadD.enc]
  · obtain rfl : i = es.length := by omega
    have hrows : rows = rowsH (marksH k es.length) := by
      refine List.ext_getElem? fun j => ?_
      rcases Nat.lt_or_ge j es.length with h | h
      · rw [hdone j h, rowsH_at (marksH_at h)]
        rfl
      · rw [List.getElem?_eq_none (by omega), List.getElem?_eq_none (by rw [rowsH_len, marksH_len]; omega)]
    have F := And.intro @rowsH_len hlen
    repeat' first
      | refine wSq fun _ hK => ?_
      | refine wRg ?_
      | refine wDr ?_
      | refine VWP_block ?_
      | refine VWP_skip ?_
      | refine VWP_exit ?_
      | refine VWP_ret ?_
      | (refine hK _ ?_; clear hK)
      | (clear hK; refine hK _ ?_; clear hK)
      | (clear hK; clear hK; refine hK _ ?_; clear hK)
      | (clear hK; clear hK; clear hK; refine hK _ ?_; clear hK)
      | (simp only [wHb, reduceCtorEq] at hb <;> try (exfalso; omega))
      | refine wCd (fun hb => ?_) fun hb => ?_
      | simp only [go_sem, Nat.reduceLT, Nat.reduceLeDiff, Nat.reduceEqDiff, Nat.reduceAdd, Nat.reduceMul, Nat.reduceSub, reduceCtorEq, F]
      | simp (disch := omega) only [decide_eq_true_eq, if_pos, if_neg, wrap_id, le_maxLen, and_true, true_and, if_true, ite_true]
      | refine wGd (fun hb => ?_) fun hb => ?_
    exact retO_one (by simp only [go_sem, Nat.reduceLT, Nat.reduceLeDiff, Nat.reduceEqDiff, Nat.reduceAdd, Nat.reduceMul, Nat.reduceSub, reduceCtorEq]) rfl (by simp only [go_sem, Nat.reduceLT, Nat.reduceLeDiff, Nat.reduceEqDiff, Nat.reduceAdd, Nat.reduceMul, Nat.reduceSub, reduceCtorEq]) rfl hrows
theorem heldHeadS_ok (n : Nat) (k : Int) (h0 : 0 ≤ k) (h1 : k ≤ 1099511627776) (hl : n ≤ 1099511627776) :
    SatP Try.prog 90 [.fr 147 (rowsH (marksH k n)), .int .i64 k] (.int .i64 (k + 3 * n)) [] := by
  refine satP_of_body hT Try.func90 (by kernel_rfl) rfl (rs := [.tmp 4]) rfl (n := 40) rfl (by simp) rfl (by simp) fun E hE => ?_
  unfold St.init
  have F := And.intro @rowsH_len @marksH_len
  repeat' first
    | refine wSq fun _ hK => ?_
    | refine wRg ?_
    | refine wDr ?_
    | refine VWP_block ?_
    | refine VWP_skip ?_
    | refine VWP_exit ?_
    | refine VWP_ret ?_
    | (refine hK _ ?_; clear hK)
    | (clear hK; refine hK _ ?_; clear hK)
    | (clear hK; clear hK; refine hK _ ?_; clear hK)
    | (clear hK; clear hK; clear hK; refine hK _ ?_; clear hK)
    | (simp only [wHb, reduceCtorEq] at hb <;> try (exfalso; omega))
    | refine wCd (fun hb => ?_) fun hb => ?_
    | simp only [go_sem, Nat.reduceLT, Nat.reduceLeDiff, Nat.reduceEqDiff, Nat.reduceAdd, Nat.reduceMul, Nat.reduceSub, reduceCtorEq, F]
    | simp (disch := omega) only [decide_eq_true_eq, if_pos, if_neg, wrap_id, le_maxLen, and_true, true_and, if_true, ite_true]
    | refine wGd (fun hb => ?_) fun hb => ?_
  refine VWP_loopL (X := Nat) (fun i => [(0, .fr 147 (rowsH (marksH k n))), (1, .int .i64 (k + 3 * (i : Nat))), (5, .int .i64 i)]) (fun _ => []) (fun i => n - i)
    (fun i => i ≤ n) 0 0 (by simp) (by simp [updV]) (by simp) (by simp) ?_
  rintro i nx hi hB
  rcases Nat.lt_or_ge i n with hlt | hge
  · have hre := rowsH_at (marksH_at (k := k) hlt)
    simp only [markH] at hre
    have a2 : k + 3 * (i : Nat) + 1 + 1 = k + 3 * (i : Nat) + 2 := by omega
    have a3 : k + 3 * (i : Nat) + 2 + 1 = k + 3 * ((i + 1 : Nat) : Int) := by omega
    have w1 := wrap_id (x := k + 3 * (i : Nat) + 1) (by omega)
    have w2 := wrap_id (x := k + 3 * (i : Nat) + 2) (by omega)
    have w3 := wrap_id (x := k + 3 * ((i + 1 : Nat) : Int)) (by omega)
    have w0 := wrap_id (x := (i : Int) + 1) (by omega)
    have F := And.intro @rowsH_len (And.intro @marksH_len (And.intro hre (And.intro a2 (And.intro a3 (And.intro w0 (And.intro w1 (And.intro w2 (And.intro w3 @bne_self_eq_false.{0}))))))))
    repeat' first
      | refine wSq fun _ hK => ?_
      | refine wRg ?_
      | refine wDr ?_
      | refine VWP_block ?_
      | refine VWP_skip ?_
      | refine VWP_exit ?_
      | refine VWP_ret ?_
      | (refine hK _ ?_; clear hK)
      | (clear hK; refine hK _ ?_; clear hK)
      | (clear hK; clear hK; refine hK _ ?_; clear hK)
      | (clear hK; clear hK; clear hK; refine hK _ ?_; clear hK)
      | (simp only [wHb, reduceCtorEq] at hb <;> try (exfalso; omega))
      | refine wCd (fun hb => ?_) fun hb => ?_
      | simp only [go_sem, Nat.reduceLT, Nat.reduceLeDiff, Nat.reduceEqDiff, Nat.reduceAdd, Nat.reduceMul, Nat.reduceSub, reduceCtorEq, F]
      | simp (disch := omega) only [decide_eq_true_eq, if_pos, if_neg, wrap_id, le_maxLen, and_true, true_and, if_true, ite_true]
      | refine wGd (fun hb => ?_) fun hb => ?_
    refine nextL (i + 1) (by omega) (by omega) ?_ (by simp) (by simp)
    simp [updV, tmL, w0]
  · obtain rfl : i = n := by omega
    have F := And.intro @rowsH_len @marksH_len
    repeat' first
      | refine wSq fun _ hK => ?_
      | refine wRg ?_
      | refine wDr ?_
      | refine VWP_block ?_
      | refine VWP_skip ?_
      | refine VWP_exit ?_
      | refine VWP_ret ?_
      | (refine hK _ ?_; clear hK)
      | (clear hK; refine hK _ ?_; clear hK)
      | (clear hK; clear hK; refine hK _ ?_; clear hK)
      | (clear hK; clear hK; clear hK; refine hK _ ?_; clear hK)
      | (simp only [wHb, reduceCtorEq] at hb <;> try (exfalso; omega))
      | refine wCd (fun hb => ?_) fun hb => ?_
      | simp only [go_sem, Nat.reduceLT, Nat.reduceLeDiff, Nat.reduceEqDiff, Nat.reduceAdd, Nat.reduceMul, Nat.reduceSub, reduceCtorEq, F]
      | simp (disch := omega) only [decide_eq_true_eq, if_pos, if_neg, wrap_id, le_maxLen, and_true, true_and, if_true, ite_true]
      | refine wGd (fun hb => ?_) fun hb => ?_
    refine wLf ?_
    rfl
end Go.Proofs.Ytmiojnibngncaaa
