/- Rows of threads, and what the laws' functions of slices of threads give. -/
import Derived.Test.YtclljpdcpcolpaaTA
namespace Go.Proofs.Ytclljpdcpcolpaa
open Go Go.RowKit
set_option linter.unusedVariables false
set_option linter.unusedSimpArgs false
set_option maxRecDepth 100000
set_option maxHeartbeats 4000000
attribute [local irreducible] VWP vops vdraw contV contD CallK Guard GuardV NextL Puts Runs RetOK RetQ RetO RetQO thenQ blockQ

def rowTh (ti te tf : TypeId) (t : ThreadD) : List PT := [.int .i64 t.id, .list ti (rowsI t.prog), .int .i64 t.pc, .int .i64 t.r0, .int .i64 t.r1, .int .i64 t.r2, .int .i64 t.r3, .list te (rowsE t.opens), .int .i64 t.check, .list tf (rowsF t.stack), .int .i64 t.mine, .int .i64 t.state, .int .i64 t.commits, .int .i64 t.fails]
def rowsTh (ti te tf : TypeId) (ts : List ThreadD) : List (List PT) := ts.map (rowTh ti te tf)
theorem rowsTh_len (ti te tf : TypeId) (ts : List ThreadD) : (rowsTh ti te tf ts).length = ts.length := by simp [rowsTh]
theorem rowsTh_pur (ti te tf : TypeId) (ts : List ThreadD) : PurRows (rowsTh ti te tf ts) := by
  intro r hr c hc
  obtain ⟨t, _, rfl⟩ := List.mem_map.1 hr
  simp only [rowTh, List.mem_cons, List.not_mem_nil, or_false] at hc
  rcases hc with rfl | rfl | rfl | rfl | rfl | rfl | rfl | rfl | rfl | rfl | rfl | rfl | rfl | rfl
  case inr.inl => exact .list _ _ (rowsI_pur t.prog)
  case inr.inr.inr.inr.inr.inr.inr.inl => exact .list _ _ (rowsE_pur t.opens)
  case inr.inr.inr.inr.inr.inr.inr.inr.inr.inl => exact .list _ _ (rowsF_pur t.stack)
  all_goals constructor
theorem rowsTh_take (ti te tf : TypeId) (ts : List ThreadD) : (rowsTh ti te tf ts).take ts.length = rowsTh ti te tf ts := by rw [List.take_of_length_le (by rw [rowsTh_len]; exact Nat.le_refl _)]
theorem rowsTh_at {ti te tf : TypeId} {ts : List ThreadD} {i : Nat} {t : ThreadD} (h : ts[i]? = some t) : (rowsTh ti te tf ts)[i]? = some [.int .i64 t.id, .list ti (rowsI t.prog), .int .i64 t.pc, .int .i64 t.r0, .int .i64 t.r1, .int .i64 t.r2, .int .i64 t.r3, .list te (rowsE t.opens), .int .i64 t.check, .list tf (rowsF t.stack), .int .i64 t.mine, .int .i64 t.state, .int .i64 t.commits, .int .i64 t.fails] := by simp [rowsTh, h, rowTh]
theorem rowsTh_set (ti te tf : TypeId) (ts : List ThreadD) (k : Nat) (t : ThreadD) : (rowsTh ti te tf ts).set k (rowTh ti te tf t) = rowsTh ti te tf (ts.set k t) := by simp [rowsTh, List.map_set]

/-- How much lies in threads. -/
def thN : List ThreadD → Nat
  | [] => 0
  | t :: ts => t.prog.length + t.opens.length + t.stack.length + thN ts
theorem thN_app : ∀ (xs bs : List ThreadD), thN (xs ++ bs) = thN xs + thN bs
  | [], bs => by simp [thN]
  | a :: xs, bs => by simp only [List.cons_append, thN, thN_app xs bs]; omega
theorem thN_succ {ts : List ThreadD} {i : Nat} {t : ThreadD} (h : ts[i]? = some t) : thN (ts.take (i + 1)) = thN (ts.take i) + (t.prog.length + t.opens.length + t.stack.length) := by
  rw [List.take_add_one, h, thN_app]
  simp [thN]
theorem thN_take (ts : List ThreadD) (i : Nat) : thN (ts.take i) ≤ thN ts := by
  have := thN_app (ts.take i) (ts.drop i)
  rw [List.take_append_drop] at this
  omega
theorem thN_mem : ∀ {ts : List ThreadD} {t : ThreadD}, t ∈ ts → t.prog.length + t.opens.length + t.stack.length ≤ thN ts
  | [], t, h => by simp at h
  | a :: ts, t, h => by
    simp only [thN]
    rcases List.mem_cons.1 h with rfl | h
    · omega
    · have := thN_mem h
      omega
def ThreadD.fits (t : ThreadD) : Prop := t.prog.length ≤ 9223372036854775807 ∧ t.opens.length ≤ 9223372036854775807 ∧ t.stack.length ≤ 9223372036854775807
def ThreadD.small (t : ThreadD) : Prop := t.prog.length ≤ 1048576 ∧ t.opens.length ≤ 1048576 ∧ t.stack.length ≤ 1048576
def szTs (ts : List ThreadD) (left : Int) : Int := if (ts.length : Int) + thN ts ≤ left then left - ts.length - thN ts else -1
theorem szThreadS_ok (ts : List ThreadD) (left : Int) (h0 : 0 ≤ left) (h1 : left ≤ 1048576) (hl : ts.length ≤ 9223372036854775807) (he : ∀ t ∈ ts, t.fits) :
    SatP Try.prog 124 [.fr 78 (rowsTh 184 174 68 ts), .int .i64 left] (.int .i64 (szTs ts left)) [] := by
  have hw : IntKind.i64.wrap (left - ts.length) = left - ts.length := wrap_id (by omega)
  refine satP_of_body hT Try.func124 (by kernel_rfl) rfl (rs := [.tmp 4]) rfl (n := 27) rfl (by simp) rfl (by simp) fun E hE => ?_
  unfold St.init
  have F := And.intro @rowsTh_len hw
  repeat' first
    | refine wSq fun _ hK => ?_
    | refine wRg ?_
    | refine wDr ?_
    | refine VWP_block ?_
    | refine VWP_skip ?_
    | refine VWP_exit ?_
    | refine VWP_ret ?_
    | (refine hK _ ?_; clear hK)
    | (clear hK; refine hK _ ?_; clear hK)
    | (clear hK; clear hK; refine hK _ ?_; clear hK)
    | (clear hK; clear hK; clear hK; refine hK _ ?_; clear hK)
    | (simp only [wHb, reduceCtorEq] at hb <;> try (exfalso; omega))
    | refine wCd (fun hb => ?_) fun hb => ?_
    | simp only [go_sem, Nat.reduceLT, Nat.reduceLeDiff, Nat.reduceEqDiff, Nat.reduceAdd, Nat.reduceMul, Nat.reduceSub, reduceCtorEq, F]
    | simp (disch := omega) only [decide_eq_true_eq, if_pos, if_neg, wrap_id, le_maxLen, and_true, true_and, if_true, ite_true]
    | refine wGd (fun hb => ?_) fun hb => ?_
  · refine wLf ?_
    rw [szTs, if_neg (by omega)]
  refine VWP_loopL (X := Nat) (fun i => [(0, .fr 78 (rowsTh 184 174 68 ts)), (1, .int .i64 (left - ts.length - thN (ts.take i))), (5, .int .i64 i)]) (fun _ => []) (fun i => ts.length - i)
    (fun i => i ≤ ts.length ∧ (0 : Int) ≤ left - ts.length - thN (ts.take i)) 0 0 ⟨by simp, by simp [thN]; omega⟩ (by simp [updV, thN]) (by simp) (by simp) ?_
  rintro i nx ⟨hi, hpos⟩ hB
  rcases Nat.lt_or_ge i ts.length with hlt | hge
  · obtain ⟨d, hd⟩ : ∃ d, ts[i]? = some d := ⟨_, List.getElem?_eq_getElem hlt⟩
    have hre := rowsTh_at (ti := 184) (te := 174) (tf := 68) hd
    obtain ⟨e1, e2, e3⟩ := he d (List.mem_of_getElem? hd)
    have hs := thN_succ hd
    have ht := thN_take ts (i + 1)
    obtain ⟨z1, z2⟩ := szT_fits d (left - ts.length - thN (ts.take i))
    have F := And.intro @rowsTh_len (And.intro hre @ThreadD.cells.eq_1)
    repeat' first
      | refine wSq fun _ hK => ?_
      | refine wRg ?_
      | refine wDr ?_
      | refine VWP_block ?_
      | refine VWP_skip ?_
      | refine VWP_exit ?_
      | refine VWP_ret ?_
      | (refine hK _ ?_; clear hK)
      | (clear hK; refine hK _ ?_; clear hK)
      | (clear hK; clear hK; refine hK _ ?_; clear hK)
      | (clear hK; clear hK; clear hK; refine hK _ ?_; clear hK)
      | (simp only [wHb, reduceCtorEq] at hb <;> try (exfalso; omega))
      | refine wCd (fun hb => ?_) fun hb => ?_
      | refine wCa (c := by first | exact szThread_ok d _ (by omega) (by omega) e1 e2 e3) (k := ?_)
      | simp only [go_sem, Nat.reduceLT, Nat.reduceLeDiff, Nat.reduceEqDiff, Nat.reduceAdd, Nat.reduceMul, Nat.reduceSub, reduceCtorEq, F]
      | simp (disch := omega) only [decide_eq_true_eq, if_pos, if_neg, wrap_id, le_maxLen, and_true, true_and, if_true, ite_true]
      | refine wGd (fun hb => ?_) fun hb => ?_
    · refine wLf ?_
      rw [szTs, if_neg]
      unfold szT szB at hb
      repeat' split at hb
      all_goals omega
    · have hw2 := wrap_id (x := (i : Int) + 1) (by omega)
      have hz : szT d (left - ts.length - thN (ts.take i)) = left - ts.length - thN (ts.take (i + 1)) := by
        have := (z1 (by omega)).2
        omega
      refine nextL (i + 1) ⟨by omega, by rw [← hz]; omega⟩ (by omega) (by simp [updV, tmL, hw2, hz]) (by simp) (by simp)
  · obtain rfl : i = ts.length := by omega
    have F := @rowsTh_len
    repeat' first
      | refine wSq fun _ hK => ?_
      | refine wRg ?_
      | refine wDr ?_
      | refine VWP_block ?_
      | refine VWP_skip ?_
      | refine VWP_exit ?_
      | refine VWP_ret ?_
      | (refine hK _ ?_; clear hK)
      | (clear hK; refine hK _ ?_; clear hK)
      | (clear hK; clear hK; refine hK _ ?_; clear hK)
      | (clear hK; clear hK; clear hK; refine hK _ ?_; clear hK)
      | (simp only [wHb, reduceCtorEq] at hb <;> try (exfalso; omega))
      | refine wCd (fun hb => ?_) fun hb => ?_
      | simp only [go_sem, Nat.reduceLT, Nat.reduceLeDiff, Nat.reduceEqDiff, Nat.reduceAdd, Nat.reduceMul, Nat.reduceSub, reduceCtorEq, F]
      | simp (disch := omega) only [decide_eq_true_eq, if_pos, if_neg, wrap_id, le_maxLen, and_true, true_and, if_true, ite_true]
      | refine wGd (fun hb => ?_) fun hb => ?_
    refine wLf ?_
    rw [List.take_length] at hpos ⊢
    rw [szTs, if_pos (by omega)]
theorem toThreadS_ok (ts : List ThreadD) (hl : ts.length ≤ 1048576) (he : ∀ t ∈ ts, t.small) : SatP Try.prog 128 [.fr 78 (rowsTh 184 174 68 ts)] (.rf 0 ts.length) [(83, rowsTh 146 131 69 ts)] := by
  refine satP_of_body hT Try.func128 (by kernel_rfl) rfl (rs := [.tmp 2]) rfl (n := 23) rfl (by simp) rfl (by simpa using rowsTh_pur _ _ _ ts) fun E hE => ?_
  unfold St.init
  have F := @rowsTh_len
  repeat' first
    | refine wSq fun _ hK => ?_
    | refine wRg ?_
    | refine wDr ?_
    | refine VWP_block ?_
    | refine VWP_skip ?_
    | refine VWP_exit ?_
    | refine VWP_ret ?_
    | (refine hK _ ?_; clear hK)
    | (clear hK; refine hK _ ?_; clear hK)
    | (clear hK; clear hK; refine hK _ ?_; clear hK)
    | (clear hK; clear hK; clear hK; refine hK _ ?_; clear hK)
    | (simp only [wHb, reduceCtorEq] at hb <;> try (exfalso; omega))
    | refine wCd (fun hb => ?_) fun hb => ?_
    | simp only [go_sem, Nat.reduceLT, Nat.reduceLeDiff, Nat.reduceEqDiff, Nat.reduceAdd, Nat.reduceMul, Nat.reduceSub, reduceCtorEq, F]
    | simp (disch := omega) only [decide_eq_true_eq, if_pos, if_neg, wrap_id, le_maxLen, and_true, true_and, if_true, ite_true]
    | refine wGd (fun hb => ?_) fun hb => ?_
  refine VWP_loopL (X := Nat × List (List PT)) (fun x => [(0, .fr 78 (rowsTh 184 174 68 ts)), (3, .rf 0 ts.length), (4, .int .i64 x.1)]) (fun x => [(0, .root 83 x.2)]) (fun x => ts.length - x.1)
    (fun x => x.1 ≤ ts.length ∧ x.2.length = ts.length ∧ (∀ j e, j < x.1 → ts[j]? = some e → x.2[j]? = some (rowTh 146 131 69 e)) ∧ (∀ j, x.1 ≤ j → j < ts.length → x.2[j]? = some [.int .i64 0, .list 146 [], .int .i64 0, .int .i64 0, .int .i64 0, .int .i64 0, .int .i64 0, .list 131 [], .int .i64 0, .list 69 [], .int .i64 0, .int .i64 0, .int .i64 0, .int .i64 0]))
    1 (0, List.replicate ts.length [.int .i64 0, .list 146 [], .int .i64 0, .int .i64 0, .int .i64 0, .int .i64 0, .int .i64 0, .list 131 [], .int .i64 0, .list 69 [], .int .i64 0, .int .i64 0, .int .i64 0, .int .i64 0]) ⟨by simp, by simp, by simp, fun j _ hj => by simp [hj]⟩ (by simp [updV]) (by simp [updH, zPT]) (by simp) ?_
  rintro ⟨i, rows⟩ nx ⟨hi, hlen, hdone, hrest⟩ hB
  rcases Nat.lt_or_ge i ts.length with hlt | hge
  · obtain ⟨e, hei⟩ : ∃ e, ts[i]? = some e := ⟨_, List.getElem?_eq_getElem hlt⟩
    have hr := hrest i (Nat.le_refl _) hlt
    simp only at hr hi hlen hdone hrest
    have hre := rowsTh_at (ti := 184) (te := 174) (tf := 68) hei
    have hli : i < rows.length := by omega
    obtain ⟨e1, e2, e3⟩ := he e (List.mem_of_getElem? hei)
    have F := And.intro @rowsTh_len (And.intro hre (And.intro hr (And.intro hlen @ThreadD.cells.eq_1)))
    repeat' first
      | refine wSq fun _ hK => ?_
      | refine wRg ?_
      | refine wDr ?_
      | refine VWP_block ?_
      | refine VWP_skip ?_
      | refine VWP_exit ?_
      | refine VWP_ret ?_
      | (refine hK _ ?_; clear hK)
      | (clear hK; refine hK _ ?_; clear hK)
      | (clear hK; clear hK; refine hK _ ?_; clear hK)
      | (clear hK; clear hK; clear hK; refine hK _ ?_; clear hK)
      | (simp only [wHb, reduceCtorEq] at hb <;> try (exfalso; omega))
      | refine wCd (fun hb => ?_) fun hb => ?_
      | refine wCa (c := by first | exact toThread_ok e e1 e2 e3) (k := ?_)
      | simp only [go_sem, Nat.reduceLT, Nat.reduceLeDiff, Nat.reduceEqDiff, Nat.reduceAdd, Nat.reduceMul, Nat.reduceSub, reduceCtorEq, F]
      | simp (disch := omega) only [decide_eq_true_eq, if_pos, if_neg, wrap_id, le_maxLen, and_true, true_and, if_true, ite_true]
      | refine wGd (fun hb => ?_) fun hb => ?_
    have hw := wrap_id (x := (i : Int) + 1) (by omega)
    have hne : nx ≠ 0 := by omega
    have hne1 : nx + 1 ≠ 0 := by omega
    have hne2 : nx + 2 ≠ 0 := by omega
    have hne3 : nx + 1 + 1 ≠ 0 := by omega
    have e1 : nx ≠ nx + 1 := by omega
    have e2 : nx ≠ nx + 1 + 1 := by omega
    have e3 : nx + 1 ≠ nx + 1 + 1 := by omega
    have e4 : nx ≠ nx + 2 := by omega
    have e5 : nx + 1 ≠ nx + 2 := by omega
    refine nextM [(0, i, 1), (0, i, 7), (0, i, 9)] (by simp only [merges, mergeH, go_sem, Nat.reduceLT, Nat.reduceLeDiff, Nat.reduceEqDiff, Nat.reduceAdd, Nat.reduceMul, Nat.reduceSub, reduceCtorEq, List.getElem?_set_self hli, List.getElem?_set_self, List.length_set, hli, hne, Ne.symm hne, hne1, Ne.symm hne1, hne2, Ne.symm hne2, hne3, Ne.symm hne3, e1, Ne.symm e1, e2, Ne.symm e2, e3, Ne.symm e3, e4, Ne.symm e4, e5, Ne.symm e5, rowsI_len, rowsE_len, rowsF_len, Nat.le_refl, List.set_set, List.set_cons_succ, List.set_cons_zero]; rfl) (i + 1, rows.set i (rowTh 146 131 69 e)) ⟨?_, ?_, ?_, ?_⟩ ?_ (by simp [updV, tmL, hw]) (by simp [updH, hpL, rowTh, rowsI_take, rowsE_take, rowsF_take]) (by omega)
    · simp only; omega
    · simpa using hlen
    · intro j f hj hf
      rcases Nat.lt_or_ge j i with h | h
      · simp only; rw [List.getElem?_set_ne (by omega)]; exact hdone j f h hf
      · obtain rfl : j = i := by simp only at hj; omega
        rw [hei] at hf
        cases hf
        simp [hlen, hlt]
    · intro j hj hj2
      simp only at hj
      simp only
      rw [List.getElem?_set_ne (by omega)]
      exact hrest j (by omega) hj2
    · simp only; omega
  · simp only at hi hlen hdone hrest
    obtain rfl : i = ts.length := by omega
    have hrows : rows = rowsTh 146 131 69 ts := by
      refine List.ext_getElem? fun j => ?_
      rcases Nat.lt_or_ge j ts.length with h | h
      · obtain ⟨e, he⟩ : ∃ e, ts[j]? = some e := ⟨_, List.getElem?_eq_getElem h⟩
        rw [hdone j e h he, rowsTh_at he]
        rfl
      · rw [List.getElem?_eq_none (by omega), List.getElem?_eq_none (by rw [rowsTh_len]; omega)]
    subst hrows
    have F := @rowsTh_len
    repeat' first
      | refine wSq fun _ hK => ?_
      | refine wRg ?_
      | refine wDr ?_
      | refine VWP_block ?_
      | refine VWP_skip ?_
      | refine VWP_exit ?_
      | refine VWP_ret ?_
      | (refine hK _ ?_; clear hK)
      | (clear hK; refine hK _ ?_; clear hK)
      | (clear hK; clear hK; refine hK _ ?_; clear hK)
      | (clear hK; clear hK; clear hK; refine hK _ ?_; clear hK)
      | (simp only [wHb, reduceCtorEq] at hb <;> try (exfalso; omega))
      | refine wCd (fun hb => ?_) fun hb => ?_
      | simp only [go_sem, Nat.reduceLT, Nat.reduceLeDiff, Nat.reduceEqDiff, Nat.reduceAdd, Nat.reduceMul, Nat.reduceSub, reduceCtorEq, F]
      | simp (disch := omega) only [decide_eq_true_eq, if_pos, if_neg, wrap_id, le_maxLen, and_true, true_and, if_true, ite_true]
      | refine wGd (fun hb => ?_) fun hb => ?_
    refine ret_rf (T := 0) (by simp only [go_sem, Nat.reduceLT, Nat.reduceLeDiff, Nat.reduceEqDiff, Nat.reduceAdd, Nat.reduceMul, Nat.reduceSub, reduceCtorEq]) (by simp only [go_sem, Nat.reduceLT, Nat.reduceLeDiff, Nat.reduceEqDiff, Nat.reduceAdd, Nat.reduceMul, Nat.reduceSub, reduceCtorEq]) (rowsTh_len _ _ _ ts).symm (rowsTh_pur _ _ _ ts)
theorem eqThreadS_ok (es fs : List ThreadD) (hl : es.length ≤ 1099511627776) (he : ∀ d ∈ es, d.small) : SatP Try.prog 116 [.fr 83 (rowsTh 146 131 69 es), .fr 83 (rowsTh 146 131 69 fs)] (.bool (decide (es = fs))) [] := by
  refine satP_of_body hT Try.func116 (by kernel_rfl) rfl (rs := [.tmp 4]) rfl (n := 27) rfl (by simp) rfl (by simp) fun E hE => ?_
  unfold St.init
  have F := @rowsTh_len
  repeat' first
    | refine wSq fun _ hK => ?_
    | refine wRg ?_
    | refine wDr ?_
    | refine VWP_block ?_
    | refine VWP_skip ?_
    | refine VWP_exit ?_
    | refine VWP_ret ?_
    | (refine hK _ ?_; clear hK)
    | (clear hK; refine hK _ ?_; clear hK)
    | (clear hK; clear hK; refine hK _ ?_; clear hK)
    | (clear hK; clear hK; clear hK; refine hK _ ?_; clear hK)
    | (simp only [wHb, reduceCtorEq] at hb <;> try (exfalso; omega))
    | refine wCd (fun hb => ?_) fun hb => ?_
    | simp only [go_sem, Nat.reduceLT, Nat.reduceLeDiff, Nat.reduceEqDiff, Nat.reduceAdd, Nat.reduceMul, Nat.reduceSub, reduceCtorEq, F]
    | simp (disch := omega) only [decide_eq_true_eq, if_pos, if_neg, wrap_id, le_maxLen, and_true, true_and, if_true, ite_true]
    | refine wGd (fun hb => ?_) fun hb => ?_
  · refine wLf ?_
    have : es ≠ fs := fun h => by subst h; simp at hb
    simp [this]
  have hlen : es.length = fs.length := by simp at hb; omega
  clear hb
  refine VWP_loopL (X := Nat) (fun i => [(0, .fr 83 (rowsTh 146 131 69 es)), (1, .fr 83 (rowsTh 146 131 69 fs)), (5, .int .i64 i)]) (fun _ => []) (fun i => es.length - i) (fun i => i ≤ es.length ∧ ∀ j, j < i → es[j]? = fs[j]?) 0 0 ⟨by simp, by simp⟩ (by simp [updV]) (by simp) (by simp) ?_
  rintro i nx ⟨hi, hdone⟩ hB
  rcases Nat.lt_or_ge i es.length with hlt | hge
  · obtain ⟨e, hei⟩ : ∃ e, es[i]? = some e := ⟨_, List.getElem?_eq_getElem hlt⟩
    obtain ⟨f, hfi⟩ : ∃ f, fs[i]? = some f := ⟨_, List.getElem?_eq_getElem (by omega)⟩
    have hre := rowsTh_at (ti := 146) (te := 131) (tf := 69) hei
    have hrf := rowsTh_at (ti := 146) (te := 131) (tf := 69) hfi
    obtain ⟨e1, e2, e3⟩ := he e (List.mem_of_getElem? hei)
    have F := And.intro @rowsTh_len (And.intro hre (And.intro hrf @ThreadD.cells.eq_1))
    repeat' first
      | refine wSq fun _ hK => ?_
      | refine wRg ?_
      | refine wDr ?_
      | refine VWP_block ?_
      | refine VWP_skip ?_
      | refine VWP_exit ?_
      | refine VWP_ret ?_
      | (refine hK _ ?_; clear hK)
      | (clear hK; refine hK _ ?_; clear hK)
      | (clear hK; clear hK; refine hK _ ?_; clear hK)
      | (clear hK; clear hK; clear hK; refine hK _ ?_; clear hK)
      | (simp only [wHb, reduceCtorEq] at hb <;> try (exfalso; omega))
      | refine wCd (fun hb => ?_) fun hb => ?_
      | refine wCa (c := by first | exact eqThread_ok e f e1 e2 e3) (k := ?_)
      | simp only [go_sem, Nat.reduceLT, Nat.reduceLeDiff, Nat.reduceEqDiff, Nat.reduceAdd, Nat.reduceMul, Nat.reduceSub, reduceCtorEq, F]
      | simp (disch := omega) only [decide_eq_true_eq, if_pos, if_neg, wrap_id, le_maxLen, and_true, true_and, if_true, ite_true]
      | refine wGd (fun hb => ?_) fun hb => ?_
    · refine wLf ?_
      have : es ≠ fs := fun h => by subst h; rw [hei] at hfi; cases hfi; simp_all
      simp [this]
    · have hef : e = f := by assumption
      have hw := wrap_id (x := (i : Int) + 1) (by omega)
      refine nextL (i + 1) ⟨by omega, fun j hj => ?_⟩ (by omega) (by simp [updV, tmL, hw]) (by simp) (by simp)
      rcases Nat.lt_or_ge j i with h | h
      · exact hdone j h
      · obtain rfl : j = i := by omega
        rw [hei, hfi, hef]
  · obtain rfl : i = es.length := by omega
    have : es = fs := List.ext_getElem? fun j => by
      rcases Nat.lt_or_ge j es.length with h | h
      · exact hdone j h
      · rw [List.getElem?_eq_none (by omega), List.getElem?_eq_none (by omega)]
    subst this
    have F := @rowsTh_len
    repeat' first
      | refine wSq fun _ hK => ?_
      | refine wRg ?_
      | refine wDr ?_
      | refine VWP_block ?_
      | refine VWP_skip ?_
      | refine VWP_exit ?_
      | refine VWP_ret ?_
      | (refine hK _ ?_; clear hK)
      | (clear hK; refine hK _ ?_; clear hK)
      | (clear hK; clear hK; refine hK _ ?_; clear hK)
      | (clear hK; clear hK; clear hK; refine hK _ ?_; clear hK)
      | (simp only [wHb, reduceCtorEq] at hb <;> try (exfalso; omega))
      | refine wCd (fun hb => ?_) fun hb => ?_
      | simp only [go_sem, Nat.reduceLT, Nat.reduceLeDiff, Nat.reduceEqDiff, Nat.reduceAdd, Nat.reduceMul, Nat.reduceSub, reduceCtorEq, F]
      | simp (disch := omega) only [decide_eq_true_eq, if_pos, if_neg, wrap_id, le_maxLen, and_true, true_and, if_true, ite_true]
      | refine wGd (fun hb => ?_) fun hb => ?_
    refine wLf ?_
    simp
end Go.Proofs.Ytclljpdcpcolpaa
