/- What the claim rests on, part 8: the value-level engine and contracts of functions; no condition. -/
import Derived.Test.YtmiojnibngncaaaGreatZQg
import Derived.Test.YtmiojnibngncaaaGreatZQd
import Derived.Test.YtmiojnibngncaaaGreatZQe
namespace Go.Proofs.YtmiojnibngncaaaGreat
open Go Go.RowKit
set_option linter.unusedVariables false
set_option linter.unusedSimpArgs false
set_option maxRecDepth 100000
set_option maxHeartbeats 4000000
attribute [local irreducible] VWP Qb5 Qbn Qbs Qbu Qbj Qbt Qa3 Qbq Qcq Qc6 Qbk Qdb Qc4 Qbr Qbm Qa8
theorem Qu9 (e : InsS) (xs : List InsS) : SatP Tryz.prog 169 [.agg e.cells, .fp [.list 146 (Qaw xs)]] (.bool (!e.ok xs.length)) [] := by
  refine wEp Tryz.func169 [.tmp 3] 9 fun E hE => ?_
  unfold InsS.cells
  have F := @Qao
  repeat' first | refine wSq fun _ hK => ?_ | refine ww1 ?_ | (refine wK ?_; clear hK) | (simp only [wHb, reduceCtorEq] at hb <;> try (exfalso; omega)) | refine wCd (fun hb => ?_) fun hb => ?_ | refine wCa (c := by first | exact Qwz e _) (k := ?_) | refine ww3 ?_ | refine ww4 ?_ | refine wGd (fun hb => ?_) fun hb => ?_ | exact trivial
  all_goals refine wLf ?_
  all_goals rfl
theorem Qsm (xs : List InsS) (f : FuncId) (row : List PT) (p : InsS → Bool) (hl : xs.length ≤ 1048576) (hf : ∀ x, SatP Tryz.prog f [.agg x.cells, .fp row] (.bool (p x)) []) : SatP Tryz.prog 168 [.fr 146 (Qaw xs), .clo f [.fp row]] (.bool (xs.any p)) [] := by
  refine wEp Tryz.func168 [.tmp 4] 9 fun E hE => ?_
  have F := (Eq.refl 0)
  repeat' first | refine wSq fun _ hK => ?_ | refine ww1 ?_ | (refine wK ?_; clear hK) | (simp only [wHb, reduceCtorEq] at hb <;> try (exfalso; omega)) | refine wCd (fun hb => ?_) fun hb => ?_ | refine wCa (c := by first | exact Qp2 xs f row p hl hf) (k := ?_) | refine ww3 ?_ | refine ww4 ?_ | refine wGd (fun hb => ?_) fun hb => ?_ | exact trivial
  refine wLf ?_
  rw [← Qj6]
theorem Qpt (xs : List InsS) (hl : xs.length ≤ 1048576) : SatP Tryz.prog 130 [.fr 146 (Qaw xs)] (.bool (decide (xs.length ≤ 30) && xs.all (fun e => e.ok xs.length))) [] := by
  refine wEp Tryz.func130 [.tmp 2] 12 fun E hE => ?_
  have F := @Qao
  repeat' first | refine wSq fun _ hK => ?_ | refine ww1 ?_ | (refine wK ?_; clear hK) | (simp only [wHb, reduceCtorEq] at hb <;> try (exfalso; omega)) | refine wCd (fun hb => ?_) fun hb => ?_ | refine wCa (c := by first | exact Qsm xs 169 _ _ hl (fun e => Qu9 e xs)) (k := ?_) | refine ww3 ?_ | refine ww4 ?_ | refine wGd (fun hb => ?_) fun hb => ?_ | exact trivial
  all_goals refine wLf ?_
  · have h2 : xs.length ≤ 30 := by omega
    have h3 : (!xs.any fun e => !e.ok xs.length) = xs.all fun e => e.ok xs.length := by
      cases hh : xs.all (fun e => e.ok xs.length) with
      | true =>
        have : xs.any (fun e => !e.ok xs.length) = false := List.any_eq_false.2 fun e he => by have := List.all_eq_true.1 hh e he; simp [this]
        simp [this]
      | false =>
        obtain ⟨e, he, h4⟩ := List.all_eq_false.1 hh
        have : xs.any (fun e => !e.ok xs.length) = true := List.any_eq_true.2 ⟨e, he, by simpa using h4⟩
        simp [this]
    rw [h3]
    simp [h2]
  · have h2 : ¬ xs.length ≤ 30 := by omega
    simp [h2]
theorem Qqs (xs : List InsS) (hl : xs.length ≤ 1048576) : SatP Tryz.prog 114 [.fr 146 (Qaw xs)] (.bool (decide (xs.length ≤ 30) && xs.all (fun e => e.ok xs.length))) [] := by
  refine wEp Tryz.func114 [.tmp 2] 21 fun E hE => ?_
  have F := @Qao
  repeat' first | refine wSq fun _ hK => ?_ | refine ww1 ?_ | (refine wK ?_; clear hK) | (simp only [wHb, reduceCtorEq] at hb <;> try (exfalso; omega)) | refine wCd (fun hb => ?_) fun hb => ?_ | refine ww3 ?_ | refine ww4 ?_ | refine wGd (fun hb => ?_) fun hb => ?_ | exact trivial
  refine Qa4 (X := Nat) (fun i => [(0, .fr 146 (Qaw xs)), (3, .int .i64 i)]) (fun _ => []) (fun i => xs.length - i)
    (fun i => i ≤ xs.length ∧ ∀ (j : Nat) (y : InsS), j < i → xs[j]? = some y → y.ok xs.length = true) 0 0 ⟨by simp, by simp⟩ (by simp [Qbo]) (by simp) (by simp) ?_
  rintro i nx ⟨hi, hdone⟩ hB
  rcases Nat.lt_or_ge i xs.length with hlt | hge
  · obtain ⟨e, he⟩ : ∃ e, xs[i]? = some e := ⟨_, List.getElem?_eq_getElem hlt⟩
    have hre := Qb2 he
    have F := wwA @Qao hre
    repeat' first | refine wSq fun _ hK => ?_ | refine ww1 ?_ | (refine wK ?_; clear hK) | (simp only [wHb, reduceCtorEq] at hb <;> try (exfalso; omega)) | refine wCd (fun hb => ?_) fun hb => ?_ | refine wCa (c := by first | exact Qxr e _) (k := ?_) | refine ww3 ?_ | refine ww4 ?_ | refine wGd (fun hb => ?_) fun hb => ?_ | exact trivial
    · refine wLf ?_
      have hp : e.ok xs.length = false := by assumption
      have : xs.all (fun e => e.ok xs.length) = false := List.all_eq_false.2 ⟨e, List.mem_of_getElem? he, by simp [hp]⟩
      simp [this]
    · have hp : e.ok xs.length = true := by assumption
      have hw := Qax (x := (i : Int) + 1) (by omega)
      refine Qcj (i + 1) ⟨by omega, fun j y hj hy => ?_⟩ (by omega) (by simp [Qbo, tmL, hw]) (by simp) (by simp)
      rcases Nat.lt_or_ge j i with h | h
      · exact hdone j y h hy
      · obtain rfl : j = i := by omega
        rw [he] at hy; cases hy; exact hp
  · obtain rfl : i = xs.length := by omega
    have F := @Qao
    repeat' first | refine wSq fun _ hK => ?_ | refine ww1 ?_ | (refine wK ?_; clear hK) | (simp only [wHb, reduceCtorEq] at hb <;> try (exfalso; omega)) | refine wCd (fun hb => ?_) fun hb => ?_ | refine ww3 ?_ | refine ww4 ?_ | refine wGd (fun hb => ?_) fun hb => ?_ | exact trivial
    refine wLf ?_
    have : xs.all (fun e => e.ok xs.length) = true := List.all_eq_true.2 fun e he => by
      obtain ⟨j, hj⟩ := List.getElem?_of_mem he
      exact hdone j e (List.getElem?_eq_some_iff.1 hj).1 hj
    rw [this]
    have h2 : ((xs.length : Int) ≤ 30) ↔ xs.length ≤ 30 := by omega
    simp [h2]
theorem Quc (es : List InsS) (left : Int) (h0 : 0 ≤ left) (h1 : left ≤ 1048576) (hl : es.length ≤ 9223372036854775807) : SatP Tryz.prog 53 [.fr 156 (Qaw es), .int .i64 left] (.int .i64 (szB es.length left)) [] := by
  have hw : IntKind.i64.wrap (left - es.length) = left - es.length := Qax (by omega)
  refine wEp Tryz.func53 [.tmp 4] 12 fun E hE => ?_
  have F := wwA @Qao hw
  repeat' first | refine wSq fun _ hK => ?_ | refine ww1 ?_ | (refine wK ?_; clear hK) | (simp only [wHb, reduceCtorEq] at hb <;> try (exfalso; omega)) | refine wCd (fun hb => ?_) fun hb => ?_ | refine ww3 ?_ | refine ww4 ?_ | refine wGd (fun hb => ?_) fun hb => ?_ | exact trivial
  all_goals refine wLf ?_
  all_goals simp only [szB]
  · rw [if_pos hb]
  · rw [if_neg hb]
theorem Qu2 (es : List InsS) (hl : es.length ≤ 1048576) : SatP Tryz.prog 62 [.fr 156 (Qaw es)] (.rf 0 es.length) [(146, Qaw es)] := by
  refine wEp Tryz.func62 [.tmp 2] 23 (hp := (by simpa using Qam es)) fun E hE => ?_
  have F := @Qao
  repeat' first | refine wSq fun _ hK => ?_ | refine ww1 ?_ | (refine wK ?_; clear hK) | (simp only [wHb, reduceCtorEq] at hb <;> try (exfalso; omega)) | refine wCd (fun hb => ?_) fun hb => ?_ | refine ww3 ?_ | refine ww4 ?_ | refine wGd (fun hb => ?_) fun hb => ?_ | exact trivial
  refine Qa4 (X := Nat × List (List PT)) (fun x => [(0, .fr 156 (Qaw es)), (3, .rf 0 es.length), (4, .int .i64 x.1)]) (fun x => [(0, .root 146 x.2)]) (fun x => es.length - x.1)
    (fun x => x.1 ≤ es.length ∧ x.2.length = es.length ∧ (∀ j e, j < x.1 → es[j]? = some e → x.2[j]? = some e.enc) ∧ (∀ j, x.1 ≤ j → j < es.length → x.2[j]? = some [.int .i64 0, .int .i64 0, .int .i64 0]))
    1 (0, List.replicate es.length [.int .i64 0, .int .i64 0, .int .i64 0]) ⟨by simp, by simp, by simp, fun j _ hj => by simp [hj]⟩ (by simp [Qbo]) (by simp [Qbd]) (by simp) ?_
  rintro ⟨i, rows⟩ nx ⟨hi, hlen, hdone, hrest⟩ hB
  rcases Nat.lt_or_ge i es.length with hlt | hge
  · obtain ⟨e, he⟩ : ∃ e, es[i]? = some e := ⟨_, List.getElem?_eq_getElem hlt⟩
    have hr := hrest i (Nat.le_refl _) hlt
    simp only at hr hi hlen hdone hrest
    have hre := Qb2 he
    have F := wwA @Qao (wwA hre (wwA hr (wwA hlen @InsS.cells.eq_1)))
    repeat' first | refine wSq fun _ hK => ?_ | refine ww1 ?_ | (refine wK ?_; clear hK) | (simp only [wHb, reduceCtorEq] at hb <;> try (exfalso; omega)) | refine wCd (fun hb => ?_) fun hb => ?_ | refine wCa (c := by first | exact Qze _) (k := ?_) | refine ww3 ?_ | refine ww4 ?_ | refine wGd (fun hb => ?_) fun hb => ?_ | exact trivial
    have hw := Qax (x := (i : Int) + 1) (by omega)
    refine Qcj (i + 1, rows.set i e.enc) ⟨?_, ?_, ?_, ?_⟩ ?_ (by simp [Qbo, tmL, hw]) (by simp [Qbd, hpL, InsS.enc]) (by simpa using hB)
    · simp only; omega
    · simpa using hlen
    · intro j f hj hf
      rcases Nat.lt_or_ge j i with h | h
      · simp only; rw [List.getElem?_set_ne (by omega)]; exact hdone j f h hf
      · obtain rfl : j = i := by simp only at hj; omega
        rw [he] at hf
        cases hf
        simp [hlen, hlt]
    · intro j hj hj2
      simp only at hj
      simp only
      rw [List.getElem?_set_ne (by omega)]
      exact hrest j (by omega) hj2
    · simp only; omega
  · simp only at hi hlen hdone hrest
    obtain rfl : i = es.length := by omega
    have hrows : rows = Qaw es := by
      refine List.ext_getElem? fun j => ?_
      rcases Nat.lt_or_ge j es.length with h | h
      · obtain ⟨e, he⟩ : ∃ e, es[j]? = some e := ⟨_, List.getElem?_eq_getElem h⟩
        rw [hdone j e h he, Qb2 he]
        rfl
      · rw [List.getElem?_eq_none (by omega), List.getElem?_eq_none (by rw [Qao]; omega)]
    subst hrows
    have F := @Qao
    repeat' first | refine wSq fun _ hK => ?_ | refine ww1 ?_ | (refine wK ?_; clear hK) | (simp only [wHb, reduceCtorEq] at hb <;> try (exfalso; omega)) | refine wCd (fun hb => ?_) fun hb => ?_ | refine ww3 ?_ | refine ww4 ?_ | refine wGd (fun hb => ?_) fun hb => ?_ | exact trivial
    refine Qhz (T := 0) (by simp only [go_sem]) (by simp only [go_sem]) (Qao es).symm (Qam es)
theorem Qt4 (es fs : List InsS) (hl : es.length ≤ 1048576) : SatP Tryz.prog 72 [.fr 146 (Qaw es), .fr 146 (Qaw fs)] (.bool (decide (es = fs))) [] := by
  refine wEp Tryz.func72 [.tmp 4] 27 fun E hE => ?_
  have F := @Qao
  repeat' first | refine wSq fun _ hK => ?_ | refine ww1 ?_ | (refine wK ?_; clear hK) | (simp only [wHb, reduceCtorEq] at hb <;> try (exfalso; omega)) | refine wCd (fun hb => ?_) fun hb => ?_ | refine wCa (c := by first | exact Qog _ _) (k := ?_) | refine ww3 ?_ | refine ww4 ?_ | refine wGd (fun hb => ?_) fun hb => ?_ | exact trivial
  · refine wLf ?_
    have : es ≠ fs := fun h => by subst h; simp at hb
    simp [this]
  have hlen : es.length = fs.length := by simp at hb; omega
  clear hb
  refine Qa4 (X := Nat) (fun i => [(0, .fr 146 (Qaw es)), (1, .fr 146 (Qaw fs)), (5, .int .i64 i)]) (fun _ => []) (fun i => es.length - i) (fun i => i ≤ es.length ∧ ∀ j, j < i → es[j]? = fs[j]?) 0 0 ⟨by simp, by simp⟩ (by simp [Qbo]) (by simp) (by simp) ?_
  rintro i nx ⟨hi, hdone⟩ hB
  rcases Nat.lt_or_ge i es.length with hlt | hge
  · obtain ⟨e, he⟩ : ∃ e, es[i]? = some e := ⟨_, List.getElem?_eq_getElem hlt⟩
    obtain ⟨f, hf⟩ : ∃ f, fs[i]? = some f := ⟨_, List.getElem?_eq_getElem (by omega)⟩
    have hre := Qb2 he
    have hrf := Qb2 hf
    have F := wwA @Qao (wwA hre hrf)
    repeat' first | refine wSq fun _ hK => ?_ | refine ww1 ?_ | (refine wK ?_; clear hK) | (simp only [wHb, reduceCtorEq] at hb <;> try (exfalso; omega)) | refine wCd (fun hb => ?_) fun hb => ?_ | refine wCa (c := by first | exact Qog _ _) (k := ?_) | refine ww3 ?_ | refine ww4 ?_ | refine wGd (fun hb => ?_) fun hb => ?_ | exact trivial
    · refine wLf ?_
      have : es ≠ fs := fun h => by subst h; rw [he] at hf; cases hf; simp_all
      simp [this]
    · have hef : e = f := by assumption
      have hw := Qax (x := (i : Int) + 1) (by omega)
      refine Qcj (i + 1) ⟨by omega, fun j hj => ?_⟩ (by omega) (by simp [Qbo, tmL, hw]) (by simp) (by simp)
      rcases Nat.lt_or_ge j i with h | h
      · exact hdone j h
      · obtain rfl : j = i := by omega
        rw [he, hf, hef]
  · obtain rfl : i = es.length := by omega
    have : es = fs := List.ext_getElem? fun j => by
      rcases Nat.lt_or_ge j es.length with h | h
      · exact hdone j h
      · rw [List.getElem?_eq_none (by omega), List.getElem?_eq_none (by omega)]
    subst this
    have F := @Qao
    repeat' first | refine wSq fun _ hK => ?_ | refine ww1 ?_ | (refine wK ?_; clear hK) | (simp only [wHb, reduceCtorEq] at hb <;> try (exfalso; omega)) | refine wCd (fun hb => ?_) fun hb => ?_ | refine ww3 ?_ | refine ww4 ?_ | refine wGd (fun hb => ?_) fun hb => ?_ | exact trivial
    refine wLf ?_
    simp
def c4 (i : Nat) (a b c d : Int) : List VV := [.int .i64 (if 0 < i then a else 0), .int .i64 (if 1 < i then b else 0), .int .i64 (if 2 < i then c else 0), .int .i64 (if 3 < i then d else 0)]
theorem Qxu (a b c d : Int) : SatP Tryz.prog 63 [.agg [.int .i64 a, .int .i64 b, .int .i64 c, .int .i64 d]] (.agg [.int .i64 a, .int .i64 b, .int .i64 c, .int .i64 d]) [] := by
  refine wEp Tryz.func63 [.cell 2 46] 15 fun E hE => ?_
  have F := (Eq.refl 0)
  repeat' first | refine wSq fun _ hK => ?_ | refine ww1 ?_ | (refine wK ?_; clear hK) | (simp only [wHb, reduceCtorEq] at hb <;> try (exfalso; omega)) | refine wCd (fun hb => ?_) fun hb => ?_ | refine ww3 ?_ | refine ww4 ?_ | refine wGd (fun hb => ?_) fun hb => ?_ | exact trivial
  refine Qa4 (X := Nat) (fun i => [(1, .bp 0 0), (2, .bp 1 0), (3, .bp 2 0), (4, .int .i64 i)]) (fun i => [(0, .box [.int .i64 a, .int .i64 b, .int .i64 c, .int .i64 d]), (1, .box [.int .i64 0, .int .i64 0, .int .i64 0, .int .i64 0]), (2, .box (c4 i a b c d))]) (fun i => 4 - i)
    (fun i => i ≤ 4) 3 0 (by simp) (by simp [Qbo]) (by simp [Qbd, c4]) (by simp) ?_
  rintro i nx hi hB
  have h5 : i = 0 ∨ i = 1 ∨ i = 2 ∨ i = 3 ∨ i = 4 := by omega
  have e0 : ((0 : Nat) : Int) = 0 := rfl
  have e1 : ((1 : Nat) : Int) = 1 := rfl
  have e2 : ((2 : Nat) : Int) = 2 := rfl
  have e3 : ((3 : Nat) : Int) = 3 := rfl
  have e4 : ((4 : Nat) : Int) = 4 := rfl
  rcases h5 with rfl | rfl | rfl | rfl | rfl
  · skip
    have F := wwA @c4.eq_1 (wwA e0 (wwA e1 (wwA e2 (wwA e3 (wwA e4 (wwA @Nat.lt_irrefl (wwA @Int.zero_add @Nat.zero_add)))))))
    repeat' first | refine wSq fun _ hK => ?_ | refine ww1 ?_ | (refine wK ?_; clear hK) | (simp only [wHb, reduceCtorEq] at hb <;> try (exfalso; omega)) | refine Qcf (fun hb => ?_) fun hb => ?_ | refine Qce ?_ | refine ww4 ?_ | refine Qcc (fun hb => ?_) fun hb => ?_ | exact trivial
    exact Qcj 1 (by omega) (by omega) (by simp [Qbo, tmL]; try decide) (by simp [Qbd, hpL, c4]) (by omega)
  · skip
    have F := wwA @c4.eq_1 (wwA e0 (wwA e1 (wwA e2 (wwA e3 (wwA e4 (wwA @Nat.lt_irrefl (wwA @Int.zero_add @Nat.zero_add)))))))
    repeat' first | refine wSq fun _ hK => ?_ | refine ww1 ?_ | (refine wK ?_; clear hK) | (simp only [wHb, reduceCtorEq] at hb <;> try (exfalso; omega)) | refine Qcf (fun hb => ?_) fun hb => ?_ | refine Qce ?_ | refine ww4 ?_ | refine Qcc (fun hb => ?_) fun hb => ?_ | exact trivial
    exact Qcj 2 (by omega) (by omega) (by simp [Qbo, tmL]; try decide) (by simp [Qbd, hpL, c4]) (by omega)
  · skip
    have F := wwA @c4.eq_1 (wwA e0 (wwA e1 (wwA e2 (wwA e3 (wwA e4 (wwA @Nat.lt_irrefl (wwA @Int.zero_add @Nat.zero_add)))))))
    repeat' first | refine wSq fun _ hK => ?_ | refine ww1 ?_ | (refine wK ?_; clear hK) | (simp only [wHb, reduceCtorEq] at hb <;> try (exfalso; omega)) | refine Qcf (fun hb => ?_) fun hb => ?_ | refine Qce ?_ | refine ww4 ?_ | refine Qcc (fun hb => ?_) fun hb => ?_ | exact trivial
    exact Qcj 3 (by omega) (by omega) (by simp [Qbo, tmL]; try decide) (by simp [Qbd, hpL, c4]) (by omega)
  · skip
    have F := wwA @c4.eq_1 (wwA e0 (wwA e1 (wwA e2 (wwA e3 (wwA e4 (wwA @Nat.lt_irrefl (wwA @Int.zero_add @Nat.zero_add)))))))
    repeat' first | refine wSq fun _ hK => ?_ | refine ww1 ?_ | (refine wK ?_; clear hK) | (simp only [wHb, reduceCtorEq] at hb <;> try (exfalso; omega)) | refine Qcf (fun hb => ?_) fun hb => ?_ | refine Qce ?_ | refine ww4 ?_ | refine Qcc (fun hb => ?_) fun hb => ?_ | exact trivial
    exact Qcj 4 (by omega) (by omega) (by simp [Qbo, tmL]; try decide) (by simp [Qbd, hpL, c4]) (by omega)
  · skip
    have F := wwA @c4.eq_1 (wwA e0 (wwA e1 (wwA e2 (wwA e3 (wwA e4 (wwA @Nat.lt_irrefl (wwA @Int.zero_add @Nat.zero_add)))))))
    repeat' first | refine wSq fun _ hK => ?_ | refine ww1 ?_ | (refine wK ?_; clear hK) | (simp only [wHb, reduceCtorEq] at hb <;> try (exfalso; omega)) | refine Qcf (fun hb => ?_) fun hb => ?_ | refine Qce ?_ | refine ww4 ?_ | refine Qcc (fun hb => ?_) fun hb => ?_ | exact trivial
    refine Qbw (vs := _) (acc := _) (by simp only [go_sem, Qcd]; rfl) (by simp only [go_sem, wrap, exV, exA, Qen, exC]; rfl) (by simp) (by simp) (by simp)
theorem Qym (a b c d a' b' c' d' : Int) : SatP Tryz.prog 73 [.agg [.int .i64 a, .int .i64 b, .int .i64 c, .int .i64 d], .agg [.int .i64 a', .int .i64 b', .int .i64 c', .int .i64 d']] (.bool (decide (a = a' ∧ b = b' ∧ c = c' ∧ d = d'))) [] := by
  refine wEp Tryz.func73 [.tmp 4] 17 fun E hE => ?_
  have F := (Eq.refl 0)
  repeat' first | refine wSq fun _ hK => ?_ | refine ww1 ?_ | (refine wK ?_; clear hK) | (simp only [wHb, reduceCtorEq] at hb <;> try (exfalso; omega)) | refine wCd (fun hb => ?_) fun hb => ?_ | refine ww3 ?_ | refine ww4 ?_ | refine wGd (fun hb => ?_) fun hb => ?_ | exact trivial
  refine Qa4 (X := Nat) (fun i => [(2, .bp 0 0), (3, .bp 1 0), (5, .int .i64 i)]) (fun i => [(0, .box [.int .i64 a, .int .i64 b, .int .i64 c, .int .i64 d]), (1, .box [.int .i64 a', .int .i64 b', .int .i64 c', .int .i64 d'])]) (fun i => 4 - i)
    (fun i => i ≤ 4 ∧ (0 < i → a = a') ∧ (1 < i → b = b') ∧ (2 < i → c = c') ∧ (3 < i → d = d')) 2 0 (by simp) (by simp [Qbo]) (by simp [Qbd]) (by simp) ?_
  rintro i nx ⟨hi, ha, hb1, hc, hd⟩ hB
  have h5 : i = 0 ∨ i = 1 ∨ i = 2 ∨ i = 3 ∨ i = 4 := by omega
  have e0 : ((0 : Nat) : Int) = 0 := rfl
  have e1 : ((1 : Nat) : Int) = 1 := rfl
  have e2 : ((2 : Nat) : Int) = 2 := rfl
  have e3 : ((3 : Nat) : Int) = 3 := rfl
  have e4 : ((4 : Nat) : Int) = 4 := rfl
  rcases h5 with rfl | rfl | rfl | rfl | rfl
  · skip
    have F := wwA e0 (wwA e1 (wwA e2 (wwA e3 (wwA e4 (wwA @Nat.lt_irrefl (wwA @Int.zero_add @Nat.zero_add))))))
    repeat' first | refine wSq fun _ hK => ?_ | refine ww1 ?_ | (refine wK ?_; clear hK) | (simp only [wHb, reduceCtorEq] at hb <;> try (exfalso; omega)) | refine Qcf (fun hb => ?_) fun hb => ?_ | refine Qce ?_ | refine ww4 ?_ | refine Qcc (fun hb => ?_) fun hb => ?_ | exact trivial
    · refine wLf ?_
      simp_all
    · exact Qcj 1 ⟨by omega, by simp_all, by simp_all, by simp_all, by simp_all⟩ (by omega) (by simp [Qbo, tmL]; try decide) (by simp [Qbd, hpL]; try omega) (by omega)
  · skip
    have F := wwA e0 (wwA e1 (wwA e2 (wwA e3 (wwA e4 (wwA @Nat.lt_irrefl (wwA @Int.zero_add @Nat.zero_add))))))
    repeat' first | refine wSq fun _ hK => ?_ | refine ww1 ?_ | (refine wK ?_; clear hK) | (simp only [wHb, reduceCtorEq] at hb <;> try (exfalso; omega)) | refine Qcf (fun hb => ?_) fun hb => ?_ | refine Qce ?_ | refine ww4 ?_ | refine Qcc (fun hb => ?_) fun hb => ?_ | exact trivial
    · refine wLf ?_
      simp_all
    · exact Qcj 2 ⟨by omega, by simp_all, by simp_all, by simp_all, by simp_all⟩ (by omega) (by simp [Qbo, tmL]; try decide) (by simp [Qbd, hpL]; try omega) (by omega)
  · skip
    have F := wwA e0 (wwA e1 (wwA e2 (wwA e3 (wwA e4 (wwA @Nat.lt_irrefl (wwA @Int.zero_add @Nat.zero_add))))))
    repeat' first | refine wSq fun _ hK => ?_ | refine ww1 ?_ | (refine wK ?_; clear hK) | (simp only [wHb, reduceCtorEq] at hb <;> try (exfalso; omega)) | refine Qcf (fun hb => ?_) fun hb => ?_ | refine Qce ?_ | refine ww4 ?_ | refine Qcc (fun hb => ?_) fun hb => ?_ | exact trivial
    · refine wLf ?_
      simp_all
    · exact Qcj 3 ⟨by omega, by simp_all, by simp_all, by simp_all, by simp_all⟩ (by omega) (by simp [Qbo, tmL]; try decide) (by simp [Qbd, hpL]; try omega) (by omega)
  · skip
    have F := wwA e0 (wwA e1 (wwA e2 (wwA e3 (wwA e4 (wwA @Nat.lt_irrefl (wwA @Int.zero_add @Nat.zero_add))))))
    repeat' first | refine wSq fun _ hK => ?_ | refine ww1 ?_ | (refine wK ?_; clear hK) | (simp only [wHb, reduceCtorEq] at hb <;> try (exfalso; omega)) | refine Qcf (fun hb => ?_) fun hb => ?_ | refine Qce ?_ | refine ww4 ?_ | refine Qcc (fun hb => ?_) fun hb => ?_ | exact trivial
    · refine wLf ?_
      simp_all
    · exact Qcj 4 ⟨by omega, by simp_all, by simp_all, by simp_all, by simp_all⟩ (by omega) (by simp [Qbo, tmL]; try decide) (by simp [Qbd, hpL]; try omega) (by omega)
  · skip
    have F := wwA e0 (wwA e1 (wwA e2 (wwA e3 (wwA e4 (wwA @Nat.lt_irrefl (wwA @Int.zero_add @Nat.zero_add))))))
    repeat' first | refine wSq fun _ hK => ?_ | refine ww1 ?_ | (refine wK ?_; clear hK) | (simp only [wHb, reduceCtorEq] at hb <;> try (exfalso; omega)) | refine Qcf (fun hb => ?_) fun hb => ?_ | refine Qce ?_ | refine ww4 ?_ | refine Qcc (fun hb => ?_) fun hb => ?_ | exact trivial
    refine wLf ?_
    simp_all
structure ThreadD where
  id : Int
  prog : List InsS
  pc : Int
  r0 : Int
  r1 : Int
  r2 : Int
  r3 : Int
  opens : List EntS
  check : Int
  stack : List FrameD
  mine : Int
  state : Int
  commits : Int
  fails : Int
  deriving DecidableEq
def ThreadD.cells (ti te tf : TypeId) (t : ThreadD) : List VV := [.int .i64 t.id, .fr ti (Qaw t.prog), .int .i64 t.pc, .int .i64 t.r0, .int .i64 t.r1, .int .i64 t.r2, .int .i64 t.r3, .fr te (Qav t.opens), .int .i64 t.check, .fr tf (Qaq t.stack), .int .i64 t.mine, .int .i64 t.state, .int .i64 t.commits, .int .i64 t.fails]
def szT (t : ThreadD) (left : Int) : Int := if szB t.prog.length left < 0 then -1 else if szB t.opens.length (szB t.prog.length left) < 0 then -1 else szB t.stack.length (szB t.opens.length (szB t.prog.length left))
theorem Xeb (t : ThreadD) (left : Int) : (0 ≤ szT t left → t.prog.length + t.opens.length + t.stack.length ≤ left ∧ szT t left = left - t.prog.length - t.opens.length - t.stack.length) ∧ (szT t left < 0 → szT t left = -1) := by
  unfold szT szB
  repeat' split
  all_goals omega
theorem Xgk {n left : Int} (h : szB n left < 0) : szB n left = -1 := by
  unfold szB at *
  split
  · rfl
  · rename_i h2
    rw [if_neg h2] at h
    omega
theorem Qmr (t : ThreadD) (left : Int) (h0 : 0 ≤ left) (h1 : left ≤ 1048576) (hp : t.prog.length ≤ 9223372036854775807) (ho : t.opens.length ≤ 9223372036854775807) (hs : t.stack.length ≤ 9223372036854775807) :
    SatP Tryz.prog 14 [.agg (t.cells 156 158 162), .int .i64 left] (.int .i64 (szT t left)) [] := by
  have k1 := Xbs (n := t.prog.length) (left := left) (by omega) h1
  have k2 := Xbs (n := t.opens.length) (left := szB t.prog.length left) (by omega) (by omega)
  refine wEp Tryz.func14 [.tmp 4] 24 fun E hE => ?_
  unfold ThreadD.cells
  have F := (Eq.refl 0)
  repeat' first | refine wSq fun _ hK => ?_ | refine ww1 ?_ | (refine wK ?_; clear hK) | (simp only [wHb, reduceCtorEq] at hb <;> try (exfalso; omega)) | refine wCd (fun hb => ?_) fun hb => ?_ | refine wCa (c := by first | exact Quc t.prog left h0 h1 hp | exact Qma t.opens _ (by omega) (by omega) ho | exact Qt3 t.stack _ (by omega) (by omega) hs) (k := ?_) | refine ww3 ?_ | refine ww4 ?_ | refine wGd (fun hb => ?_) fun hb => ?_ | exact trivial
  all_goals refine wLf ?_
  · rw [szT, if_pos (by assumption)]
  · rw [szT, if_neg (by assumption), if_pos (by assumption)]
  · rw [szT, if_neg (by assumption), if_neg (by assumption)]
    rw [Xgk (by omega)]
  · rw [szT, if_neg (by assumption), if_neg (by assumption)]
theorem Qul (t : ThreadD) (hp : t.prog.length ≤ 1048576) (ho : t.opens.length ≤ 1048576) (hs : t.stack.length ≤ 1048576) :
    SatP Tryz.prog 17 [.agg (t.cells 156 158 162)]
      (.agg [.int .i64 t.id, .rf 0 t.prog.length, .int .i64 t.pc, .int .i64 t.r0, .int .i64 t.r1, .int .i64 t.r2, .int .i64 t.r3, .rf 1 t.opens.length, .int .i64 t.check, .rf 2 t.stack.length, .int .i64 t.mine, .int .i64 t.state, .int .i64 t.commits, .int .i64 t.fails])
      [(146, Qaw t.prog), (91, Qav t.opens), (160, Qaq t.stack)] := by
  refine wEp Tryz.func17 [.cell 2 57] 42 (hp := (by simp [Qam, Qac, Qah])) fun E hE => ?_
  unfold ThreadD.cells
  have F := (Eq.refl 0)
  repeat' first | refine wSq fun _ hK => ?_ | refine ww1 ?_ | (refine wK ?_; clear hK) | (simp only [wHb, reduceCtorEq] at hb <;> try (exfalso; omega)) | refine wCd (fun hb => ?_) fun hb => ?_ | refine wCa (c := by first | exact Qu2 t.prog hp | exact Qm2 t.opens ho | exact Qvb t.stack hs | exact Qxu t.r0 t.r1 t.r2 t.r3) (k := ?_) | refine ww3 ?_ | refine ww4 ?_ | refine wGd (fun hb => ?_) fun hb => ?_ | exact trivial
  refine Qbw (vs := _) (acc := _) (by simp only [go_sem, Qcd]; rfl) (by simp only [go_sem, wrap, exV, exA, Qen, exC, Qao, Qaa, Qag, Nat.le_refl]; rfl) (by simp) (by simp [List.take_of_length_le, Qao, Qaa, Qag]) (by simp [Qam, Qac, Qah])
theorem Qmc (a b : ThreadD) (hp : a.prog.length ≤ 1048576) (ho : a.opens.length ≤ 1048576) (hs : a.stack.length ≤ 1048576) :
    SatP Tryz.prog 20 [.agg (a.cells 146 91 160), .agg (b.cells 146 91 160)] (.bool (decide (a = b))) [] := by
  refine wEp Tryz.func20 [.tmp 4] 64 fun E hE => ?_
  unfold ThreadD.cells
  have F := (Eq.refl 0)
  repeat' first | refine wSq fun _ hK => ?_ | refine ww1 ?_ | (refine wK ?_; clear hK) | (simp only [wHb, reduceCtorEq] at hb <;> try (exfalso; omega)) | refine wCd (fun hb => ?_) fun hb => ?_ | refine wCa (c := by first | exact Qt4 a.prog b.prog hp | exact Qm9 a.opens b.opens ho | exact Qt2 a.stack b.stack (by omega) | exact Qym _ _ _ _ _ _ _ _) (k := ?_) | refine ww3 ?_ | refine ww4 ?_ | refine wGd (fun hb => ?_) fun hb => ?_ | exact trivial
  all_goals refine wLf ?_
  all_goals (cases a; cases b; simp_all)
theorem Qh5 (es : List EntS) : (Qav es).all (·.all Qt1) = true := by
  simp [Qav, EntS.enc, Qt1, List.all_eq_true]
def Qxd (k : Int) : EntS := ⟨k, k + 1, k + 2, k + 3, (k + 4).tmod 3 == 0⟩
def Qfl (k : Int) (n : Nat) : List EntS := (List.range n).map fun j => Qxd (k + 5 * (j : Nat))
theorem Qek (k : Int) (n : Nat) : (Qfl k n).length = n := by simp [Qfl]
theorem Qsd {k : Int} {n i : Nat} (h : i < n) : (Qfl k n)[i]? = some (Qxd (k + 5 * (i : Nat))) := by simp [Qfl, h]
theorem set_set {α : Type} (l : List α) (i : Nat) (a b : α) : (l.set i a).set i b = l.set i b := by simp
theorem Qfs {α : Type} {l : List α} {i : Nat} (a : α) (h : i < l.length) : (l.set i a)[i]? = some a := by simp [h]
theorem Qjr (es : List EntS) (k : Int) (h0 : 0 ≤ k) (h1 : k ≤ 1099511627776) (hl : es.length ≤ 1099511627776) :
    SatO Tryz.prog 80 [.rf 0 es.length, .int .i64 k] [.root 91 (Qav es)] (.int .i64 (k + 5 * es.length)) [.root 91 (Qav (Qfl k es.length))] := by
  refine wEo Tryz.func80 [.tmp 4] 50 1 ⟨⟨rfl, Qac _⟩, by simp [Qbc]⟩ fun E hE => ?_
  have F := @Qaa
  repeat' first | refine wSq fun _ hK => ?_ | refine ww1 ?_ | (refine wK ?_; clear hK) | (simp only [wHb, reduceCtorEq] at hb <;> try (exfalso; omega)) | refine wCd (fun hb => ?_) fun hb => ?_ | refine ww3 ?_ | refine ww4 ?_ | refine wGd (fun hb => ?_) fun hb => ?_ | exact trivial
  refine Qa4 (X := Nat × List (List PT)) (fun x => [(0, .rf 0 es.length), (1, .int .i64 (k + 5 * (x.1 : Nat))), (5, .int .i64 x.1)]) (fun x => [(0, .root 91 x.2)]) (fun x => es.length - x.1)
    (fun x => x.1 ≤ es.length ∧ x.2.length = es.length ∧ (∀ (j : Nat), j < x.1 → x.2[j]? = some (Qxd (k + 5 * (j : Nat))).enc) ∧ ∀ (j : Nat), x.1 ≤ j → x.2[j]? = (Qav es)[j]?)
    1 (0, Qav es) ⟨by simp, by simp [Qaa], by simp, by simp⟩ (by simp [Qbo]) (by simp [HpE]) (by simp) ?_
  rintro ⟨i, rows⟩ nx ⟨hi, hlen, hdone, hrest⟩ hB
  simp only at hi hlen hdone hrest
  rcases Nat.lt_or_ge i es.length with hlt | hge
  · obtain ⟨e, he⟩ : ∃ e, es[i]? = some e := ⟨_, List.getElem?_eq_getElem hlt⟩
    have hr := hrest i (Nat.le_refl _)
    rw [Qbe he] at hr
    have hli : i < rows.length := by omega
    have hle : es.length ≤ rows.length := by omega
    have a2 : k + 5 * (i : Nat) + 1 + 1 = k + 5 * (i : Nat) + 2 := by omega
    have a3 : k + 5 * (i : Nat) + 2 + 1 = k + 5 * (i : Nat) + 3 := by omega
    have a4 : k + 5 * (i : Nat) + 3 + 1 = k + 5 * (i : Nat) + 4 := by omega
    have a5 : k + 5 * (i : Nat) + 4 + 1 = k + 5 * ((i + 1 : Nat) : Int) := by omega
    have w1 := Qax (x := k + 5 * (i : Nat) + 1) (by omega)
    have w2 := Qax (x := k + 5 * (i : Nat) + 2) (by omega)
    have w3 := Qax (x := k + 5 * (i : Nat) + 3) (by omega)
    have w4 := Qax (x := k + 5 * (i : Nat) + 4) (by omega)
    have w5 := Qax (x := k + 5 * ((i + 1 : Nat) : Int)) (by omega)
    have w6 := Qax (x := (i : Int) + 1) (by omega)
    repeat' first
      | refine Qjg fun _ hK => ?_
      | refine Qf2 hT ?_
      | refine Qh3 hT hM (by kernel_rfl) rfl ?_
      | refine Qjx ?_
      | refine Qlc ?_
      | refine Qlm ?_
      | refine Qpo ?_
      | (refine hK _ ?_; clear hK)
      | (clear hK; refine hK _ ?_; clear hK)
      | (clear hK; clear hK; refine hK _ ?_; clear hK)
      | (clear hK; clear hK; clear hK; refine hK _ ?_; clear hK)
      | (simp only [decide_eq_true_eq, decide_eq_false_iff_not, bne_iff_ne, ne_eq, Bool.not_eq_true', Bool.not_eq_false', Bool.true_eq_false, Bool.false_eq_true, reduceCtorEq, not_true_eq_false, eq_self] at hb <;> try (exfalso; omega))
      | refine Qaz _ (by simp only [go_sem, Qaa, hr, hle, set_set, List.length_set, Qfs _ hli, a2, a3, a4, a5, w1, w2, w3, w4, w5, w6]; rfl) (fun hb => ?_) (fun hb => ?_)
      | simp only [go_sem, Qaa, hr, hle, set_set, List.length_set, Qfs _ hli, a2, a3, a4, a5, w1, w2, w3, w4, w5, w6]
      | simp (disch := omega) only [decide_eq_true_eq, if_pos, if_neg, Qax, Qdn, and_true, true_and, if_true, ite_true]
      | refine Qfq (by simp only [go_sem, Qaa, hr, hle, set_set, List.length_set, Qfs _ hli, a2, a3, a4, a5, w1, w2, w3, w4, w5, w6]) rfl (fun hb => ?_) (fun hb => ?_)
    refine Qcj (i + 1, rows.set i (Qxd (k + 5 * (i : Nat))).enc) ⟨by simp only; omega, by simpa using hlen, fun j hj => ?_, fun j hj => ?_⟩ (by simp only; omega) ?_ ?_ (by simpa using hB)
    · simp only at hj ⊢
      rcases Nat.lt_or_ge j i with h | h
      · rw [List.getElem?_set_ne (by omega)]; exact hdone j h
      · obtain rfl : j = i := by omega
        simp [hli]
    · simp only at hj ⊢
      rw [List.getElem?_set_ne (by omega)]
      exact hrest j (by omega)
    · simp [Qbo, tmL, w6]
    · simp [Qbd, hpL, Qxd, EntS.enc]
  · obtain rfl : i = es.length := by omega
    have hrows : rows = Qav (Qfl k es.length) := by
      refine List.ext_getElem? fun j => ?_
      rcases Nat.lt_or_ge j es.length with h | h
      · rw [hdone j h, Qbe (Qsd h)]
        rfl
      · rw [List.getElem?_eq_none (by omega), List.getElem?_eq_none (by rw [Qaa, Qek]; omega)]
    have F := wwA @Qaa hlen
    repeat' first | refine wSq fun _ hK => ?_ | refine ww1 ?_ | (refine wK ?_; clear hK) | (simp only [wHb, reduceCtorEq] at hb <;> try (exfalso; omega)) | refine wCd (fun hb => ?_) fun hb => ?_ | refine ww3 ?_ | refine ww4 ?_ | refine wGd (fun hb => ?_) fun hb => ?_ | exact trivial
    exact Qh6 (by simp only [go_sem]) rfl (by simp only [go_sem]) rfl hrows
theorem Qjs (n : Nat) (k : Int) (h0 : 0 ≤ k) (h1 : k ≤ 1099511627776) (hl : n ≤ 1099511627776) :
    SatP Tryz.prog 85 [.fr 91 (Qav (Qfl k n)), .int .i64 k] (.int .i64 (k + 5 * n)) [] := by
  refine wEp Tryz.func85 [.tmp 4] 60 fun E hE => ?_
  have F := wwA @Qaa @Qek
  repeat' first | refine wSq fun _ hK => ?_ | refine ww1 ?_ | (refine wK ?_; clear hK) | (simp only [wHb, reduceCtorEq] at hb <;> try (exfalso; omega)) | refine wCd (fun hb => ?_) fun hb => ?_ | refine ww3 ?_ | refine ww4 ?_ | refine wGd (fun hb => ?_) fun hb => ?_ | exact trivial
  refine Qa4 (X := Nat) (fun i => [(0, .fr 91 (Qav (Qfl k n))), (1, .int .i64 (k + 5 * (i : Nat))), (5, .int .i64 i)]) (fun _ => []) (fun i => n - i)
    (fun i => i ≤ n) 0 0 (by simp) (by simp [Qbo]) (by simp) (by simp) ?_
  rintro i nx hi hB
  rcases Nat.lt_or_ge i n with hlt | hge
  · have hre := Qbe (Qsd (k := k) hlt)
    simp only [Qxd] at hre
    have a2 : k + 5 * (i : Nat) + 1 + 1 = k + 5 * (i : Nat) + 2 := by omega
    have a3 : k + 5 * (i : Nat) + 2 + 1 = k + 5 * (i : Nat) + 3 := by omega
    have a4 : k + 5 * (i : Nat) + 3 + 1 = k + 5 * (i : Nat) + 4 := by omega
    have w1 := Qax (x := k + 5 * (i : Nat) + 1) (by omega)
    have w2 := Qax (x := k + 5 * (i : Nat) + 2) (by omega)
    have w3 := Qax (x := k + 5 * (i : Nat) + 3) (by omega)
    have w4 := Qax (x := k + 5 * (i : Nat) + 4) (by omega)
    have w5 := Qax (x := k + 5 * (i : Nat) + 4 + 1) (by omega)
    have w6 := Qax (x := (i : Int) + 1) (by omega)
    have F := wwA @Qaa (wwA @Qek (wwA hre (wwA a2 (wwA a3 (wwA a4 (wwA w1 (wwA w2 (wwA w3 (wwA w4 (wwA w5 (wwA w6 @bne_self_eq_false.{0})))))))))))
    repeat' first | refine wSq fun _ hK => ?_ | refine ww1 ?_ | (refine wK ?_; clear hK) | (simp only [wHb, reduceCtorEq] at hb <;> try (exfalso; omega)) | refine wCd (fun hb => ?_) fun hb => ?_ | refine ww3 ?_ | refine ww4 ?_ | refine wGd (fun hb => ?_) fun hb => ?_ | exact trivial
    refine Qcj (i + 1) (by omega) (by omega) ?_ (by simp) (by simp)
    simp [Qbo, tmL, w1, w2, w3, w4, w5, w6]
    omega
  · obtain rfl : i = n := by omega
    have F := wwA @Qaa @Qek
    repeat' first | refine wSq fun _ hK => ?_ | refine ww1 ?_ | (refine wK ?_; clear hK) | (simp only [wHb, reduceCtorEq] at hb <;> try (exfalso; omega)) | refine wCd (fun hb => ?_) fun hb => ?_ | refine ww3 ?_ | refine ww4 ?_ | refine wGd (fun hb => ?_) fun hb => ?_ | exact trivial
    refine wLf ?_
    rfl
theorem Qfm (es : List EntS) (hl : es.length ≤ 1099511627776) : SatP Tryz.prog 111 [.fr 91 (Qav es)] (.rf 0 es.length) [(91, Qav es)] := by
  refine wEp Tryz.func111 [.tmp 2] 6 (hp := (by simpa using Qac es)) fun E hE => ?_
  have F := wwA @Qaa @Qh5
  repeat' first | refine wSq fun _ hK => ?_ | refine ww1 ?_ | (refine wK ?_; clear hK) | (simp only [wHb, reduceCtorEq] at hb <;> try (exfalso; omega)) | refine wCd (fun hb => ?_) fun hb => ?_ | refine ww3 ?_ | refine ww4 ?_ | refine wGd (fun hb => ?_) fun hb => ?_ | exact trivial
  refine Qhz (T := 1) (by simp only [go_sem]; try simp) (by simp only [go_sem]; try rfl) (Qaa es).symm (Qac es)
theorem Qde (es : List EntS) (hl : es.length ≤ 1099511627776) : SatP Tryz.prog 126 [.fr 91 (Qav es)] (.rf 0 es.length) [(91, Qav es)] := by
  refine wEp Tryz.func126 [.tmp 2] 6 (hp := (by simpa using Qac es)) fun E hE => ?_
  have F := wwA @Qaa @Qh5
  repeat' first | refine wSq fun _ hK => ?_ | refine ww1 ?_ | (refine wK ?_; clear hK) | (simp only [wHb, reduceCtorEq] at hb <;> try (exfalso; omega)) | refine wCd (fun hb => ?_) fun hb => ?_ | refine ww3 ?_ | refine ww4 ?_ | refine wGd (fun hb => ?_) fun hb => ?_ | exact trivial
  refine Qhz (T := 1) (by simp only [go_sem]; try simp) (by simp only [go_sem]; try rfl) (Qaa es).symm (Qac es)
end Go.Proofs.YtmiojnibngncaaaGreat
