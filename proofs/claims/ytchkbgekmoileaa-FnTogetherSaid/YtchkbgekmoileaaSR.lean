/- Sorting entries by their objects: the library's SortFunc, at twelve entries and fewer. -/
import Derived.Test.YtchkbgekmoileaaBLb
import Derived.Test.YtchkbgekmoileaaDJ
import Derived.Test.YtchkbgekmoileaaEf
namespace Go.Proofs.Ytchkbgekmoileaa
open Go Go.RowKit
set_option linter.unusedVariables false
set_option linter.unusedSimpArgs false
set_option maxRecDepth 100000
set_option maxHeartbeats 4000000
attribute [local irreducible] VWP vops vdraw contV contD CallK Guard GuardV NextL Puts Runs RetOK RetQ RetO RetQO thenQ blockQ
attribute [local irreducible] NextN

/-- A contract of the library's on numbers, as the engine says it. -/
theorem satP_int {P : Program} {f : FuncId} {fn : Func} {k k' : IntKind} {n m : Int} (hf : P.funcs[f]? = some fn) (hname : (fn.name == "runtime.NumGoroutine") = false) (hb : fn.body.isNone = false)
    (h : ∀ w : World, Calls P f #[.int k n] w fun e w' => e = .returned (.int k' m) ∧ w' = w) : SatP P f [.int k n] (.int k' m) [] := by
  refine ⟨⟨fn, hf, hname, hb⟩, rfl, fun x hx => (by simp at hx), fun w vals hvl hva => ?_⟩
  obtain ⟨v, rfl⟩ : ∃ v, vals = [v] := by
    match vals, hvl with
    | [v], _ => exact ⟨v, rfl⟩
  have hv : v = .int k n := hva 0 _ v rfl rfl
  subst hv
  refine (h w).mono ?_
  rintro e w' ⟨rfl, rfl⟩
  exact ⟨_, Gh.nil, rfl, ⟨Frm.refl _, fun T e rows h => (by simp [Hp] at h), fun T cs h => (by simp [Hp] at h), fun T h => (by simp [Hp, Ent.live] at h)⟩, fun _ _ => rfl, rfl⟩
theorem bitsLen_ok (n : Nat) (h : n ≤ 1048576) : SatP Try.prog 63 [.int .u64 n] (.int .i64 (Lib.bitLen ((n : Int).toNat))) [] :=
  satP_int Try.func63 (by kernel_rfl) rfl fun w => Try.bits_Len n w (by omega) (by omega)

theorem rowsE_put (es : List EntS) (k : Nat) (e : EntS) : (rowsE es).set k [.int .i64 e.object, .int .i64 e.version, .int .i64 e.old, .int .i64 e.new, .bool e.write] = rowsE (es.set k e) := by simp [rowsE, List.map_set, EntS.enc]
/-- An entry sinks to its place. -/
def sinkE : Nat → List EntS → List EntS
  | 0, xs => xs
  | j + 1, xs => match xs[j + 1]?, xs[j]? with
    | some a, some b => if a.object < b.object then sinkE j ((xs.set (j + 1) b).set j a) else xs
    | _, _ => xs
def insE : Nat → List EntS → List EntS
  | 0, xs => xs
  | m + 1, xs => sinkE m (insE m xs)
theorem sinkE_len : ∀ (j : Nat) (xs : List EntS), (sinkE j xs).length = xs.length
  | 0, xs => rfl
  | j + 1, xs => by
    rw [sinkE]
    split
    · split
      · rw [sinkE_len]; simp
      · rfl
    · rfl
theorem insE_len : ∀ (m : Nat) (xs : List EntS), (insE m xs).length = xs.length
  | 0, xs => rfl
  | m + 1, xs => by rw [insE, sinkE_len, insE_len]
/-- A test of the sort's stands where the entries' objects are small. -/
def objOk (xs : List EntS) : Prop := ∀ e ∈ xs, 0 ≤ e.object ∧ e.object ≤ 7
theorem sinkE_mem : ∀ (j : Nat) (xs : List EntS) (e : EntS), e ∈ sinkE j xs → e ∈ xs
  | 0, xs, e, h => h
  | j + 1, xs, e, h => by
    rw [sinkE] at h
    split at h
    · rename_i a b ha hb
      split at h
      · have h2 := sinkE_mem j _ e h
        rcases List.mem_or_eq_of_mem_set h2 with h3 | rfl
        · rcases List.mem_or_eq_of_mem_set h3 with h4 | rfl
          · exact h4
          · exact List.mem_of_getElem? hb
        · exact List.mem_of_getElem? ha
      · exact h
    · exact h
theorem insE_mem : ∀ (m : Nat) (xs : List EntS) (e : EntS), e ∈ insE m xs → e ∈ xs
  | 0, xs, e, h => h
  | m + 1, xs, e, h => insE_mem m xs e (sinkE_mem m _ e h)
theorem cmp_ok (a b : EntS) (ha : 0 ≤ a.object ∧ a.object ≤ 7) (hb : 0 ≤ b.object ∧ b.object ≤ 7) : SatP Try.prog 36 [.agg a.cells, .agg b.cells] (.int .i64 (a.object - b.object)) [] := by
  have hw := wrap_id (x := a.object - b.object) (by omega)
  refine satP_of_body hT Try.func36 (by kernel_rfl) rfl (rs := [.tmp 4]) rfl (n := 10) rfl (by simp) rfl (by simp) fun E hE => ?_
  unfold St.init
  unfold EntS.cells
  have F := hw
  repeat' first
    | refine wSq fun _ hK => ?_
    | refine wRg ?_
    | refine wDr ?_
    | refine VWP_block ?_
    | refine VWP_skip ?_
    | refine VWP_exit ?_
    | refine VWP_ret ?_
    | (refine hK _ ?_; clear hK)
    | (clear hK; refine hK _ ?_; clear hK)
    | (clear hK; clear hK; refine hK _ ?_; clear hK)
    | (clear hK; clear hK; clear hK; refine hK _ ?_; clear hK)
    | (simp only [wHb, reduceCtorEq] at hb <;> try (exfalso; omega))
    | refine wCd (fun hb => ?_) fun hb => ?_
    | simp only [go_sem, Nat.reduceLT, Nat.reduceLeDiff, Nat.reduceEqDiff, Nat.reduceAdd, Nat.reduceMul, Nat.reduceSub, reduceCtorEq, F]
    | simp (disch := omega) only [decide_eq_true_eq, if_pos, if_neg, wrap_id, le_maxLen, and_true, true_and, if_true, ite_true]
    | refine wGd (fun hb => ?_) fun hb => ?_
  refine wLf ?_
  rfl
theorem insert_ok (es : List EntS) (hl : es.length ≤ 12) (ho : objOk es) :
    SatO Try.prog 89 [.rf 0 es.length, .int .i64 0, .int .i64 es.length, .clo 36 []] [.root 70 (rowsE es)] (.tup []) [.root 70 (rowsE (insE es.length es))] := by
  refine satO_of_body hT Try.func89 (by kernel_rfl) rfl (rs := []) rfl (n := 53) rfl (by simp) rfl (m := 1) rfl ⟨⟨rfl, rowsE_pur _⟩, by simp [keptL]⟩ fun E hE => ?_
  unfold St.initO
  have F := @rowsE_len
  repeat' first
    | refine wSq fun _ hK => ?_
    | refine wRg ?_
    | refine wDr ?_
    | refine VWP_block ?_
    | refine VWP_skip ?_
    | refine VWP_exit ?_
    | refine VWP_ret ?_
    | (refine hK _ ?_; clear hK)
    | (clear hK; refine hK _ ?_; clear hK)
    | (clear hK; clear hK; refine hK _ ?_; clear hK)
    | (clear hK; clear hK; clear hK; refine hK _ ?_; clear hK)
    | (simp only [wHb, reduceCtorEq] at hb <;> try (exfalso; omega))
    | refine wCdx (fun hb => ?_) fun hb => ?_
    | simp only [go_sem, Nat.reduceLT, Nat.reduceLeDiff, Nat.reduceEqDiff, Nat.reduceAdd, Nat.reduceMul, Nat.reduceSub, reduceCtorEq, Int.reduceBEq, Int.reduceBNe, Int.reduceLT, Int.reduceLE, Int.reduceAdd, Int.reduceToNat, F]
    | simp (disch := omega) only [decide_eq_true_eq, if_pos, if_neg, wrap_id, le_maxLen, and_true, true_and, if_true, ite_true]
    | refine wGdx (fun hb => ?_) fun hb => ?_
  refine VWP_loopN hE (X := Nat) (fun i => [(0, .rf 0 es.length), (1, .int .i64 0), (2, .int .i64 es.length), (3, .clo 36 []), (8, .int .i64 (i + 1 : Nat))]) (fun i => [(0, .root 70 (rowsE (insE (i + 1) es)))]) (fun i => es.length + 1 - i)
    (fun i => i + 1 ≤ es.length ∨ i = 0) [0] 0 (by simp) (by decide) (by decide) (by simp [updV, renV, renA, renC]) (by simp [HpE, renH_at, renE, insE, sinkE, rowsE_pur]) ?_
  intro i hi
  rcases Nat.lt_or_ge (i + 1) es.length with hlt | hge
  · have hlt2 : ((i + 1 : Nat) : Int) < (es.length : Int) := by omega
    have hw1 := wrap_id (x := ((i + 1 : Nat) : Int) + 1) (by omega)
    have hi2 : ((i + 1 : Nat) : Int) + 1 = ((i + 1 + 1 : Nat) : Int) := by omega
    have F := And.intro @rowsE_len (And.intro @insE_len hlt2)
    repeat' first
      | refine wSq fun _ hK => ?_
      | refine wRg ?_
      | refine wDr ?_
      | refine VWP_block ?_
      | refine VWP_skip ?_
      | refine VWP_exit ?_
      | refine VWP_ret ?_
      | (refine hK _ ?_; clear hK)
      | (clear hK; refine hK _ ?_; clear hK)
      | (clear hK; clear hK; refine hK _ ?_; clear hK)
      | (clear hK; clear hK; clear hK; refine hK _ ?_; clear hK)
      | (simp only [wHb, reduceCtorEq] at hb <;> try (exfalso; omega))
      | refine wCd (fun hb => ?_) fun hb => ?_
      | simp only [go_sem, Nat.reduceLT, Nat.reduceLeDiff, Nat.reduceEqDiff, Nat.reduceAdd, Nat.reduceMul, Nat.reduceSub, reduceCtorEq, F]
      | simp (disch := omega) only [decide_eq_true_eq, if_pos, if_neg, wrap_id, le_maxLen, and_true, true_and, if_true, ite_true]
      | refine wGd (fun hb => ?_) fun hb => ?_
    clear F
    refine VWP_loopN hE (X := Nat × List EntS) (fun x => [(0, .rf 0 es.length), (1, .int .i64 0), (2, .int .i64 es.length), (3, .clo 36 []), (8, .int .i64 (i + 1 : Nat)), (9, .int .i64 x.1)]) (fun x => [(0, .root 70 (rowsE x.2))]) (fun x => x.1)
      (fun x => x.1 ≤ i + 1 ∧ x.2.length = es.length ∧ objOk x.2 ∧ sinkE x.1 x.2 = insE (i + 1 + 1) es) [0] (i + 1, insE (i + 1) es) ⟨Nat.le_refl _, insE_len _ _, fun e he => ho e (insE_mem _ _ e he), rfl⟩ (by decide) (by decide) (by simp [updV, tmL, renV, renA, renC]) (by simp [updH, hpL, renH_at, renE, rowsE_pur]) ?_
    rintro ⟨j, xs⟩ ⟨hj, hxl, hxo, hxs⟩
    simp only at hj hxl hxo hxs
    cases j with
    | zero =>
      have hz : ¬ (0 : Int) < ((0 : Nat) : Int) := by omega
      have hx : xs = insE (i + 1 + 1) es := hxs
      have F := And.intro @rowsE_len (And.intro hxl hz)
      repeat' first
        | refine wSq fun _ hK => ?_
        | refine wRg ?_
        | refine wDr ?_
        | refine VWP_block ?_
        | refine VWP_skip ?_
        | refine VWP_exit ?_
        | refine VWP_ret ?_
        | (refine hK _ ?_; clear hK)
        | (clear hK; refine hK _ ?_; clear hK)
        | (clear hK; clear hK; refine hK _ ?_; clear hK)
        | (clear hK; clear hK; clear hK; refine hK _ ?_; clear hK)
        | (simp only [wHb, reduceCtorEq] at hb <;> try (exfalso; omega))
        | refine wCd (fun hb => ?_) fun hb => ?_
        | simp only [go_sem, Nat.reduceLT, Nat.reduceLeDiff, Nat.reduceEqDiff, Nat.reduceAdd, Nat.reduceMul, Nat.reduceSub, reduceCtorEq, F]
        | simp (disch := omega) only [decide_eq_true_eq, if_pos, if_neg, wrap_id, le_maxLen, and_true, true_and, if_true, ite_true]
        | refine wGd (fun hb => ?_) fun hb => ?_
      exact nextN [] rfl [0] (i + 1) rfl (by decide) (by decide) (.inl hlt) (by omega) (by simp [updV, tmL, renV, renA, renC, hw1, hi2]) (by simp [updH, hpL, renH_at, renE, hx, rowsE_pur])
    | succ k =>
      obtain ⟨a, ha⟩ : ∃ a, xs[k + 1]? = some a := ⟨_, List.getElem?_eq_getElem (by omega)⟩
      obtain ⟨b, hb⟩ : ∃ b, xs[k]? = some b := ⟨_, List.getElem?_eq_getElem (by omega)⟩
      have hra := rowsE_at ha
      have hrb := rowsE_at hb
      have hcm := cmp_ok a b (hxo a (List.mem_of_getElem? ha)) (hxo b (List.mem_of_getElem? hb))
      unfold EntS.cells at hcm
      have hpos : (0 : Int) < ((k + 1 : Nat) : Int) := by omega
      have hk0 : (0 : Int) ≤ ((k + 1 : Nat) : Int) := by omega
      have hk1 : (0 : Int) ≤ ((k : Nat) : Int) := by omega
      have hl1 : k + 1 < es.length := by omega
      have hl2 : k < es.length := by omega
      have hwk : IntKind.i64.wrap (((k + 1 : Nat) : Int) - 1) = k := by rw [wrap_id (by omega)]; omega
      by_cases hab : a.object < b.object
      · have hneg : a.object - b.object < 0 := by omega
        have hset : ((rowsE xs).set (k + 1) [.int .i64 b.object, .int .i64 b.version, .int .i64 b.old, .int .i64 b.new, .bool b.write]).set k [.int .i64 a.object, .int .i64 a.version, .int .i64 a.old, .int .i64 a.new, .bool a.write] = rowsE ((xs.set (k + 1) b).set k a) := by
          rw [rowsE_put, rowsE_put]
        have hrb2 : ((rowsE xs).set (k + 1) [.int .i64 b.object, .int .i64 b.version, .int .i64 b.old, .int .i64 b.new, .bool b.write])[k]? = some [.int .i64 b.object, .int .i64 b.version, .int .i64 b.old, .int .i64 b.new, .bool b.write] := by
          rw [List.getElem?_set_ne (by omega)]; exact hrb
        have hJ : k ≤ i + 1 ∧ ((xs.set (k + 1) b).set k a).length = es.length ∧ objOk ((xs.set (k + 1) b).set k a) ∧ sinkE k ((xs.set (k + 1) b).set k a) = insE (i + 1 + 1) es := by
          refine ⟨by omega, by simpa using hxl, fun e he => ?_, ?_⟩
          · rcases List.mem_or_eq_of_mem_set he with h3 | rfl
            · rcases List.mem_or_eq_of_mem_set h3 with h4 | rfl
              · exact hxo e h4
              · exact hxo _ (List.mem_of_getElem? hb)
            · exact hxo _ (List.mem_of_getElem? ha)
          · rw [← hxs, sinkE, ha, hb]
            simp only
            rw [if_pos hab]
        have F := And.intro @rowsE_len (And.intro hxl (And.intro hpos (And.intro hk0 (And.intro hk1 (And.intro hl1 (And.intro hl2 (And.intro hwk (And.intro hra (And.intro hrb (And.intro hrb2 (And.intro hneg (And.intro hset @List.length_set.{0}))))))))))))
        repeat' first
          | refine wSq fun _ hK => ?_
          | refine wRg ?_
          | refine wDr ?_
          | refine VWP_block ?_
          | refine VWP_skip ?_
          | refine VWP_exit ?_
          | refine VWP_ret ?_
          | (refine hK _ ?_; clear hK)
          | (clear hK; refine hK _ ?_; clear hK)
          | (clear hK; clear hK; refine hK _ ?_; clear hK)
          | (clear hK; clear hK; clear hK; refine hK _ ?_; clear hK)
          | (simp only [wHb, reduceCtorEq] at hb <;> try (exfalso; omega))
          | refine wCd (fun hb => ?_) fun hb => ?_
          | refine wCa (c := by first | exact hcm) (k := ?_)
          | simp only [go_sem, Nat.reduceLT, Nat.reduceLeDiff, Nat.reduceEqDiff, Nat.reduceAdd, Nat.reduceMul, Nat.reduceSub, reduceCtorEq, F]
          | simp (disch := omega) only [decide_eq_true_eq, if_pos, if_neg, wrap_id, le_maxLen, and_true, true_and, if_true, ite_true]
          | refine wGd (fun hb => ?_) fun hb => ?_
        all_goals exact nextN [] rfl [0] (k, (xs.set (k + 1) b).set k a) rfl (by decide) (by decide) hJ (by simp only; omega) (by simp [updV, tmL, renV, renA, renC, hwk]) (by simp [updH, hpL, renH_at, renE, hset, rowsE_pur])
      · have hneg : ¬ a.object - b.object < 0 := by omega
        have hx : xs = insE (i + 1 + 1) es := by
          rw [← hxs, sinkE, ha, hb]
          simp only
          rw [if_neg hab]
        have F := And.intro @rowsE_len (And.intro hxl (And.intro hpos (And.intro hk0 (And.intro hk1 (And.intro hl1 (And.intro hl2 (And.intro hwk (And.intro hra (And.intro hrb hneg)))))))))
        repeat' first
          | refine wSq fun _ hK => ?_
          | refine wRg ?_
          | refine wDr ?_
          | refine VWP_block ?_
          | refine VWP_skip ?_
          | refine VWP_exit ?_
          | refine VWP_ret ?_
          | (refine hK _ ?_; clear hK)
          | (clear hK; refine hK _ ?_; clear hK)
          | (clear hK; clear hK; refine hK _ ?_; clear hK)
          | (clear hK; clear hK; clear hK; refine hK _ ?_; clear hK)
          | (simp only [wHb, reduceCtorEq] at hb <;> try (exfalso; omega))
          | refine wCd (fun hb => ?_) fun hb => ?_
          | refine wCa (c := by first | exact hcm) (k := ?_)
          | simp only [go_sem, Nat.reduceLT, Nat.reduceLeDiff, Nat.reduceEqDiff, Nat.reduceAdd, Nat.reduceMul, Nat.reduceSub, reduceCtorEq, F]
          | simp (disch := omega) only [decide_eq_true_eq, if_pos, if_neg, wrap_id, le_maxLen, and_true, true_and, if_true, ite_true]
          | refine wGd (fun hb => ?_) fun hb => ?_
        exact nextN [] rfl [0] (i + 1) rfl (by decide) (by decide) (.inl hlt) (by omega) (by simp [updV, tmL, renV, renA, renC, hw1, hi2]) (by simp [updH, hpL, renH_at, renE, hx, rowsE_pur])
  · have hge2 : ¬ ((i + 1 : Nat) : Int) < (es.length : Int) := by omega
    have hx : insE (i + 1) es = insE es.length es := by
      rcases hi with h | h
      · rw [show i + 1 = es.length by omega]
      · subst h
        rcases Nat.eq_zero_or_pos es.length with h0 | h0
        · rw [h0]; rfl
        · rw [show es.length = 0 + 1 by omega]
    have F := And.intro @rowsE_len (And.intro @insE_len hge2)
    repeat' first
      | refine wSq fun _ hK => ?_
      | refine wRg ?_
      | refine wDr ?_
      | refine VWP_block ?_
      | refine VWP_skip ?_
      | refine VWP_exit ?_
      | refine VWP_ret ?_
      | (refine hK _ ?_; clear hK)
      | (clear hK; refine hK _ ?_; clear hK)
      | (clear hK; clear hK; refine hK _ ?_; clear hK)
      | (clear hK; clear hK; clear hK; refine hK _ ?_; clear hK)
      | (simp only [wHb, reduceCtorEq] at hb <;> try (exfalso; omega))
      | refine wCd (fun hb => ?_) fun hb => ?_
      | simp only [go_sem, Nat.reduceLT, Nat.reduceLeDiff, Nat.reduceEqDiff, Nat.reduceAdd, Nat.reduceMul, Nat.reduceSub, reduceCtorEq, F]
      | simp (disch := omega) only [decide_eq_true_eq, if_pos, if_neg, wrap_id, le_maxLen, and_true, true_and, if_true, ite_true]
      | refine wGd (fun hb => ?_) fun hb => ?_
    exact retO_mk [] rfl [.root 70 (rowsE (insE es.length es))] rfl (by simp [keepsL, updH, hpL, hx]) rfl (by simp only [go_sem, Nat.reduceLT, Nat.reduceLeDiff, Nat.reduceEqDiff, Nat.reduceAdd, Nat.reduceMul, Nat.reduceSub, reduceCtorEq, vres]; rfl) (acc := []) rfl (by simp) rfl
theorem pdq_ok (es : List EntS) (hl : es.length ≤ 12) (ho : objOk es) (m : Int) :
    SatO Try.prog 62 [.rf 0 es.length, .int .i64 0, .int .i64 es.length, .int .i64 m, .clo 36 []] [.root 70 (rowsE es)] (.tup []) [.root 70 (rowsE (insE es.length es))] := by
  have hc := insert_ok es hl ho
  have hw := wrap_id (x := (es.length : Int)) (by omega)
  have hs : (es.length : Int) - 0 = es.length := by omega
  have hle : (es.length : Int) ≤ 12 := by omega
  refine satO_of_body hT Try.func62 (by kernel_rfl) rfl (rs := []) rfl (n := 148) rfl (by simp) rfl (m := 1) rfl ⟨⟨rfl, rowsE_pur _⟩, by simp [keptL]⟩ fun E hE => ?_
  unfold St.initO
  have F := @rowsE_len
  repeat' first
    | refine wSq fun _ hK => ?_
    | refine wRg ?_
    | refine wDr ?_
    | refine VWP_block ?_
    | refine VWP_skip ?_
    | refine VWP_exit ?_
    | refine VWP_ret ?_
    | (refine hK _ ?_; clear hK)
    | (clear hK; refine hK _ ?_; clear hK)
    | (clear hK; clear hK; refine hK _ ?_; clear hK)
    | (clear hK; clear hK; clear hK; refine hK _ ?_; clear hK)
    | (simp only [wHb, reduceCtorEq] at hb <;> try (exfalso; omega))
    | refine wCd (fun hb => ?_) fun hb => ?_
    | simp only [go_sem, Nat.reduceLT, Nat.reduceLeDiff, Nat.reduceEqDiff, Nat.reduceAdd, Nat.reduceMul, Nat.reduceSub, reduceCtorEq, F]
    | simp (disch := omega) only [decide_eq_true_eq, if_pos, if_neg, wrap_id, le_maxLen, and_true, true_and, if_true, ite_true]
    | refine wGd (fun hb => ?_) fun hb => ?_
  clear F
  refine VWP_loopN hE (X := Unit) (fun _ => [(0, .rf 0 es.length), (1, .int .i64 0), (2, .int .i64 es.length), (3, .int .i64 m), (4, .clo 36 []), (10, .bool true), (11, .bool true)]) (fun _ => [(0, .root 70 (rowsE es))]) (fun _ => 0)
    (fun _ => True) [0] () trivial (by decide) (by decide) (by simp [updV, renV, renA, renC]) (by simp [HpE, renH_at, renE, rowsE_pur]) ?_
  rintro _ _
  have F := And.intro @rowsE_len (And.intro @rowsE_pur (And.intro hw (And.intro hs hle)))
  repeat' first
    | refine wSq fun _ hK => ?_
    | refine wRg ?_
    | refine wDr ?_
    | refine VWP_block ?_
    | refine VWP_skip ?_
    | refine VWP_exit ?_
    | refine VWP_ret ?_
    | (refine hK _ ?_; clear hK)
    | (clear hK; refine hK _ ?_; clear hK)
    | (clear hK; clear hK; refine hK _ ?_; clear hK)
    | (clear hK; clear hK; clear hK; refine hK _ ?_; clear hK)
    | (simp only [wHb, reduceCtorEq] at hb <;> try (exfalso; omega))
    | refine wCd (fun hb => ?_) fun hb => ?_
    | refine wOw [0] (c := by exact hc) (k := ?_)
    | simp only [go_sem, Nat.reduceLT, Nat.reduceLeDiff, Nat.reduceEqDiff, Nat.reduceAdd, Nat.reduceMul, Nat.reduceSub, reduceCtorEq, F]
    | simp (disch := omega) only [decide_eq_true_eq, if_pos, if_neg, wrap_id, le_maxLen, and_true, true_and, if_true, ite_true]
    | refine wGd (fun hb => ?_) fun hb => ?_
  all_goals exact retO_mk [] rfl [.root 70 (rowsE (insE es.length es))] rfl (by simp [keepsL, updH, hpL]) rfl (by simp only [go_sem, Nat.reduceLT, Nat.reduceLeDiff, Nat.reduceEqDiff, Nat.reduceAdd, Nat.reduceMul, Nat.reduceSub, reduceCtorEq, vres]; rfl) (acc := []) rfl (by simp) rfl
theorem sortFunc_ok (es : List EntS) (hl : es.length ≤ 12) (ho : objOk es) :
    SatO Try.prog 35 [.rf 0 es.length, .clo 36 []] [.root 70 (rowsE es)] (.tup []) [.root 70 (rowsE (insE es.length es))] := by
  have hc := pdq_ok es hl ho (Lib.bitLen ((es.length : Int).toNat))
  have hb := bitsLen_ok es.length (by omega)
  have hw : IntKind.u64.wrap (es.length : Int) = es.length := by rw [IntKind.wrap_u64]; omega
  refine satO_of_body hT Try.func35 (by kernel_rfl) rfl (rs := []) rfl (n := 14) rfl (by simp) rfl (m := 1) rfl ⟨⟨rfl, rowsE_pur _⟩, by simp [keptL]⟩ fun E hE => ?_
  unfold St.initO
  have F := And.intro @rowsE_len (And.intro @rowsE_pur hw)
  repeat' first
    | refine wSq fun _ hK => ?_
    | refine wRg ?_
    | refine wDr ?_
    | refine VWP_block ?_
    | refine VWP_skip ?_
    | refine VWP_exit ?_
    | refine VWP_ret ?_
    | (refine hK _ ?_; clear hK)
    | (clear hK; refine hK _ ?_; clear hK)
    | (clear hK; clear hK; refine hK _ ?_; clear hK)
    | (clear hK; clear hK; clear hK; refine hK _ ?_; clear hK)
    | (simp only [wHb, reduceCtorEq] at hb <;> try (exfalso; omega))
    | refine wCd (fun hb => ?_) fun hb => ?_
    | refine wCa (c := by first | exact hb) (k := ?_)
    | refine wOw [0] (c := by exact hc) (k := ?_)
    | simp only [go_sem, Nat.reduceLT, Nat.reduceLeDiff, Nat.reduceEqDiff, Nat.reduceAdd, Nat.reduceMul, Nat.reduceSub, reduceCtorEq, F]
    | simp (disch := omega) only [decide_eq_true_eq, if_pos, if_neg, wrap_id, le_maxLen, and_true, true_and, if_true, ite_true]
    | refine wGd (fun hb => ?_) fun hb => ?_
  all_goals exact retO_mk [] rfl [.root 70 (rowsE (insE es.length es))] rfl (by simp [keepsL, updH, HpE]) rfl (by simp only [go_sem, Nat.reduceLT, Nat.reduceLeDiff, Nat.reduceEqDiff, Nat.reduceAdd, Nat.reduceMul, Nat.reduceSub, reduceCtorEq, vres]; rfl) (acc := []) rfl (by simp) rfl
end Go.Proofs.Ytchkbgekmoileaa
