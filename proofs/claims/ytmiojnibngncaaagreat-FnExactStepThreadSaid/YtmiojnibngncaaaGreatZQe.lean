/- What the claim rests on, part 5: the value-level engine and contracts of functions; no condition. -/
import Derived.Test.YtmiojnibngncaaaGreatZQd
namespace Go.Proofs.YtmiojnibngncaaaGreat
open Go Go.RowKit
set_option linter.unusedVariables false
set_option linter.unusedSimpArgs false
set_option maxRecDepth 100000
set_option maxHeartbeats 4000000
attribute [local irreducible] VWP Qb5 Qbn Qbs Qbu Qbj Qbt Qa3 Qbq Qcq Qc6 Qbk Qdb Qc4 Qbr Qbm Qa8
def Qms (es : List EntS) : Prop := ∀ (i : Nat) (e f : EntS), es[i]? = some e → es[i + 1]? = some f → e.object < f.object
def Xgz (es : List EntS) : Prop := ∀ (i : Nat) (e : EntS), es[i]? = some e → e.ok = true
def Quj (d : DescS) : Prop := Qms d.entries ∧ Xgz d.entries ∧ inB d.owner 0 3 = true ∧ inB d.status 0 2 = true ∧ 0 < d.entries.length ∧ d.entries.length ≤ 6
theorem Qrp {es : List EntS} (h : Qms es) : ∀ (n k : Nat) (f e : EntS), es[k]? = some f → es[k + n + 1]? = some e → f.object < e.object
  | 0, k, f, e, hf, he => h k f e hf he
  | n + 1, k, f, e, hf, he => by
    have hlt : k + n + 1 < es.length := by have := (List.getElem?_eq_some_iff.1 he).1; omega
    have h1 := Qrp h n k f _ hf (List.getElem?_eq_getElem hlt)
    have h2 := h (k + n + 1) _ e (List.getElem?_eq_getElem hlt) he
    omega
theorem Qio {es : List EntS} (h : Qms es) : Qeb es ↔ Xgz es ∧ es.length ≤ 6 := by
  constructor
  · intro ⟨h1, h2⟩
    exact ⟨fun i e he => (h1 i e he).1, h2⟩
  · intro ⟨h1, h2⟩
    refine ⟨fun i e he => ⟨h1 i e he, fun k f hk hf => ?_⟩, h2⟩
    obtain ⟨n, rfl⟩ : ∃ n, i = k + n + 1 := ⟨i - k - 1, by omega⟩
    have := Qrp h n k f e hf he
    omega
theorem Qgl (d : DescS) (hl : d.entries.length ≤ 1048576) : SatP Tryz.prog 146 [.agg (d.cells 91)] (.bool (bP (Quj d))) [] := by
  refine wEp Tryz.func146 [.tmp 2] 44 fun E hE => ?_
  unfold DescS.cells
  have F := @Qaa
  repeat' first | refine wSq fun _ hK => ?_ | refine ww1 ?_ | (refine wK ?_; clear hK) | (simp only [wHb, reduceCtorEq] at hb <;> try (exfalso; omega)) | refine wCd (fun hb => ?_) fun hb => ?_ | refine ww3 ?_ | refine ww4 ?_ | refine wGd (fun hb => ?_) fun hb => ?_ | exact trivial
  refine Qa4 (X := Nat) (fun i => [(1, .bp 0 0), (3, .int .i64 ((i : Int) + 1))]) (fun _ => [(0, .box [.int .i64 d.owner, .int .i64 d.status, .fr 91 (Qav d.entries)])]) (fun i => d.entries.length - i)
    (fun i => (i + 1 ≤ d.entries.length ∨ i = 0) ∧ ∀ (j : Nat) (e f : EntS), j < i → d.entries[j]? = some e → d.entries[j + 1]? = some f → e.object < f.object) 1 0 ⟨by simp, by simp⟩ (by simp [Qbo]) (by simp [Qbd]) (by simp) ?_
  rintro i nx ⟨hi, hdone⟩ hB
  have hk : ((i : Int) + 1 - 1) = i := by omega
  have hk1 : ((i : Int) + 1).toNat = i + 1 := by omega
  rcases Nat.lt_or_ge (i + 1) d.entries.length with hlt | hge
  · obtain ⟨e, he⟩ : ∃ e, d.entries[i]? = some e := ⟨_, List.getElem?_eq_getElem (by omega)⟩
    obtain ⟨f, hf⟩ : ∃ f, d.entries[i + 1]? = some f := ⟨_, List.getElem?_eq_getElem hlt⟩
    have hre := Qbe he
    have hrf := Qbe hf
    have F := wwA @Qaa (wwA hre (wwA hrf (wwA hk hk1)))
    repeat' first | refine wSq fun _ hK => ?_ | refine ww1 ?_ | (refine wK ?_; clear hK) | (simp only [wHb, reduceCtorEq] at hb <;> try (exfalso; omega)) | refine wCd (fun hb => ?_) fun hb => ?_ | refine ww3 ?_ | refine ww4 ?_ | refine wGd (fun hb => ?_) fun hb => ?_ | exact trivial
    · refine wLf ?_
      rw [Qbv]
      intro h
      have := h.1 i e f he hf
      have : f.object ≤ e.object := by assumption
      omega
    · have hef : e.object < f.object := by simp_all
      have hw := Qax (x := (i : Int) + 1 + 1) (by omega)
      refine Qcj (i + 1) ⟨by omega, fun j g g' hj hg hg' => ?_⟩ (by omega) (by simp [Qbo, tmL, hw]) (by simp [hpL]) (by omega)
      rcases Nat.lt_or_ge j i with h | h
      · exact hdone j g g' h hg hg'
      · obtain rfl : j = i := by omega
        rw [he] at hg
        rw [hf] at hg'
        cases hg
        cases hg'
        exact hef
  · have hs : Qms d.entries := fun j e f he hf => by
      have := (List.getElem?_eq_some_iff.1 hf).1
      exact hdone j e f (by omega) he hf
    have F := @Qaa
    repeat' first | refine wSq fun _ hK => ?_ | refine ww1 ?_ | (refine wK ?_; clear hK) | (simp only [wHb, reduceCtorEq] at hb <;> try (exfalso; omega)) | refine wCd (fun hb => ?_) fun hb => ?_ | refine wCa (c := by first | exact Qc9 _ _ _ | exact Qfn _ hl) (k := ?_) | refine ww3 ?_ | refine ww4 ?_ | refine wGd (fun hb => ?_) fun hb => ?_ | exact trivial
    all_goals refine wLf ?_
    · by_cases ho : Qeb d.entries
      · rw [Qcs ho, Qcs ⟨hs, ((Qio hs).1 ho).1, by assumption, by assumption, by omega, ho.2⟩]
      · rw [Qbv ho, Qbv fun h => ho ((Qio hs).2 ⟨h.2.1, h.2.2.2.2.2⟩)]
    · rw [Qbv fun h => hb (by have := h.2.2.2.2.1; omega)]
    · rw [Qbv fun h => by rw [h.2.2.2.1] at hb; cases hb]
    · rw [Qbv fun h => by rw [h.2.2.1] at hb; cases hb]
theorem Qjc (d : DescS) (hl : d.entries.length ≤ 1048576) : SatP Tryz.prog 182 [.agg (d.cells 91)] (.bool (bP (Quj d))) [] := by
  refine wEp Tryz.func182 [.tmp 2] 47 fun E hE => ?_
  unfold DescS.cells
  have F := @Qaa
  repeat' first | refine wSq fun _ hK => ?_ | refine ww1 ?_ | (refine wK ?_; clear hK) | (simp only [wHb, reduceCtorEq] at hb <;> try (exfalso; omega)) | refine wCd (fun hb => ?_) fun hb => ?_ | refine ww3 ?_ | refine ww4 ?_ | refine wGd (fun hb => ?_) fun hb => ?_ | exact trivial
  refine Qa4 (X := Nat) (fun i => [(1, .bp 0 0), (6, .fr 91 (Qav d.entries)), (7, .int .i64 d.entries.length), (8, .int .i64 i)]) (fun _ => [(0, .box [.int .i64 d.owner, .int .i64 d.status, .fr 91 (Qav d.entries)])]) (fun i => d.entries.length - i)
    (fun i => i ≤ d.entries.length ∧ (∀ (j : Nat) (e : EntS), j < i → d.entries[j]? = some e → e.ok = true) ∧ ∀ (j : Nat) (e f : EntS), j + 1 < i → d.entries[j]? = some e → d.entries[j + 1]? = some f → e.object < f.object) 1 0 ⟨by simp, by simp, by simp⟩ (by simp [Qbo]) (by simp [Qbd]) (by simp) ?_
  rintro i nx ⟨hi, hdone, hsort⟩ hB
  rcases Nat.lt_or_ge i d.entries.length with hlt | hge
  · obtain ⟨e, he⟩ : ∃ e, d.entries[i]? = some e := ⟨_, List.getElem?_eq_getElem hlt⟩
    have hre := Qbe he
    rcases Nat.eq_zero_or_pos i with hi0 | hi0
    · skip
      have F := wwA @Qaa hre
      repeat' first | refine wSq fun _ hK => ?_ | refine ww1 ?_ | (refine wK ?_; clear hK) | (simp only [wHb, reduceCtorEq] at hb <;> try (exfalso; omega)) | refine wCd (fun hb => ?_) fun hb => ?_ | refine wCa (c := by first | exact Qh7 e) (k := ?_) | refine ww3 ?_ | refine ww4 ?_ | refine wGd (fun hb => ?_) fun hb => ?_ | exact trivial
      · refine Qld (by simp only [go_sem]; rfl) rfl ?_
        have hne : e.ok = false := by assumption
        rw [Qbv fun h => by have := h.2.1 i e he; rw [hne] at this; cases this]
      · have hok : e.ok = true := by assumption
        have hw := Qax (x := (i : Int) + 1) (by omega)
        have h0 : (0 : Nat) ≠ nx := by omega
        refine Qcj (i + 1) ⟨by omega, fun j g hj hg => ?_, fun j g g' hj hg hg' => ?_⟩ (by omega) (by simp [Qbo, tmL, hw]) (by simp [Qbd, hpL, h0]) (by omega)
        · rcases Nat.lt_or_ge j i with h | h
          · exact hdone j g h hg
          · obtain rfl : j = i := by omega
            rw [he] at hg; cases hg; exact hok
        · omega
    · obtain ⟨k, hk⟩ : ∃ k, (i : Int) - 1 = (k : Nat) := ⟨i - 1, by omega⟩
      obtain ⟨p, hp⟩ : ∃ p, d.entries[k]? = some p := ⟨_, List.getElem?_eq_getElem (by omega)⟩
      have hrp := Qbe hp
      have F := wwA @Qaa (wwA hre (wwA hrp hk))
      repeat' first | refine wSq fun _ hK => ?_ | refine ww1 ?_ | (refine wK ?_; clear hK) | (simp only [wHb, reduceCtorEq] at hb <;> try (exfalso; omega)) | refine wCd (fun hb => ?_) fun hb => ?_ | refine wCa (c := by first | exact Qh7 e) (k := ?_) | refine ww3 ?_ | refine ww4 ?_ | refine wGd (fun hb => ?_) fun hb => ?_ | exact trivial
      · refine Qld (by simp only [go_sem]; rfl) rfl ?_
        have hne : e.ok = false := by assumption
        rw [Qbv fun h => by have := h.2.1 i e he; rw [hne] at this; cases this]
      · refine Qld (by simp only [go_sem]; rfl) rfl ?_
        have hle : e.object ≤ p.object := by assumption
        rw [Qbv fun h => by
          have hik : i = k + 1 := by omega
          subst hik
          have := h.1 k p e hp he
          omega]
      · have hok : e.ok = true := by assumption
        have hlt2 : ¬ e.object ≤ p.object := by assumption
        have hw := Qax (x := (i : Int) + 1) (by omega)
        have h0 : (0 : Nat) ≠ nx := by omega
        refine Qcj (i + 1) ⟨by omega, fun j g hj hg => ?_, fun j g g' hj hg hg' => ?_⟩ (by omega) (by simp [Qbo, tmL, hw]) (by simp [Qbd, hpL, h0]) (by omega)
        · rcases Nat.lt_or_ge j i with h | h
          · exact hdone j g h hg
          · obtain rfl : j = i := by omega
            rw [he] at hg; cases hg; exact hok
        · rcases Nat.lt_or_ge (j + 1) i with h | h
          · exact hsort j g g' h hg hg'
          · obtain rfl : i = j + 1 := by omega
            obtain rfl : k = j := by omega
            rw [hp] at hg; rw [he] at hg'
            cases hg; cases hg'
            omega
  · obtain rfl : i = d.entries.length := by omega
    have F := @Qaa
    repeat' first | refine wSq fun _ hK => ?_ | refine ww1 ?_ | (refine wK ?_; clear hK) | (simp only [wHb, reduceCtorEq] at hb <;> try (exfalso; omega)) | refine wCd (fun hb => ?_) fun hb => ?_ | refine wCa (c := by first | exact Qiu _ | exact Qhr _ _ _) (k := ?_) | refine ww3 ?_ | refine ww4 ?_ | refine wGd (fun hb => ?_) fun hb => ?_ | exact trivial
    all_goals refine wLf ?_
    · by_cases h1 : 0 < d.entries.length ∧ d.entries.length ≤ 6
      · have hn : inB d.entries.length 1 6 = true := by simp [inB]; omega
        rw [hn, Qcs ⟨fun j e f he hf => hsort j e f (List.getElem?_eq_some_iff.1 hf).1 he hf, fun j e he => hdone j e (List.getElem?_eq_some_iff.1 he).1 he, by assumption, by assumption, h1.1, h1.2⟩]
      · have hn : inB d.entries.length 1 6 = false := by simp [inB]; omega
        rw [hn, Qbv fun h => h1 ⟨h.2.2.2.2.1, h.2.2.2.2.2⟩]
    · rw [Qbv fun h => by rw [h.2.2.2.1] at hb; cases hb]
    · rw [Qbv fun h => by rw [h.2.2.1] at hb; cases hb]
theorem Qai (es : List EntS) : (Qav es).take es.length = Qav es := by rw [List.take_of_length_le (by rw [Qaa]; exact Nat.le_refl _)]
structure InsS where
  op : Int
  a : Int
  b : Int
  deriving DecidableEq
def InsS.enc (e : InsS) : List PT := [.int .i64 e.op, .int .i64 e.a, .int .i64 e.b]
def InsS.cells (e : InsS) : List VV := [.int .i64 e.op, .int .i64 e.a, .int .i64 e.b]
def Qaw (es : List InsS) : List (List PT) := es.map InsS.enc
theorem Qao (es : List InsS) : (Qaw es).length = es.length := by simp [Qaw]
theorem Qam (es : List InsS) : Qbb (Qaw es) := by
  intro r hr c hc
  obtain ⟨e, _, rfl⟩ := List.mem_map.1 hr
  simp only [InsS.enc, List.mem_cons, List.not_mem_nil, or_false] at hc
  rcases hc with rfl | rfl | rfl <;> constructor
theorem Qau (es : List InsS) : (Qaw es).take es.length = Qaw es := by rw [List.take_of_length_le (by rw [Qao]; exact Nat.le_refl _)]
theorem Qb2 {es : List InsS} {i : Nat} {e : InsS} (h : es[i]? = some e) : (Qaw es)[i]? = some [.int .i64 e.op, .int .i64 e.a, .int .i64 e.b] := by simp [Qaw, h, InsS.enc]
def Qge {α : Type} (p : α → Bool) (xs : List α) : Int := match xs.findIdx? p with
  | some i => i
  | none => -1
theorem Qgk {α : Type} {p : α → Bool} {xs : List α} {i : Nat} {x : α} (hx : xs[i]? = some x) (hp : p x = true) (h : ∀ (j : Nat) (y : α), j < i → xs[j]? = some y → p y = false) : Qge p xs = i := by
  have hlt : i < xs.length := (List.getElem?_eq_some_iff.1 hx).1
  have : xs.findIdx? p = some i := by
    rw [List.findIdx?_eq_some_iff_getElem]
    refine ⟨hlt, ?_, fun j hj => ?_⟩
    · rw [List.getElem?_eq_getElem hlt] at hx
      cases hx
      exact hp
    · have := h j _ hj (List.getElem?_eq_getElem (by omega))
      simp [this]
  simp [Qge, this]
theorem Qfo {α : Type} {p : α → Bool} {xs : List α} (h : ∀ (j : Nat) (y : α), xs[j]? = some y → p y = false) : Qge p xs = -1 := by
  have : xs.findIdx? p = none := by
    rw [List.findIdx?_eq_none_iff]
    intro x hx
    obtain ⟨j, hj⟩ := List.getElem?_of_mem hx
    simp [h j x hj]
  simp [Qge, this]
theorem Qj6 {α : Type} (p : α → Bool) (xs : List α) : decide (0 ≤ Qge p xs) = xs.any p := by
  unfold Qge
  cases h : xs.findIdx? p with
  | none =>
    rw [List.findIdx?_eq_none_iff] at h
    have : xs.any p = false := by
      rw [List.any_eq_false]
      intro x hx
      simp [h x hx]
    simp [this]
  | some i =>
    rw [List.findIdx?_eq_some_iff_getElem] at h
    obtain ⟨h1, h2, _⟩ := h
    have : xs.any p = true := List.any_eq_true.2 ⟨_, List.getElem_mem h1, h2⟩
    simp [this]
theorem Qp2 (xs : List InsS) (f : FuncId) (row : List PT) (p : InsS → Bool) (hl : xs.length ≤ 1048576) (hf : ∀ x, SatP Tryz.prog f [.agg x.cells, .fp row] (.bool (p x)) []) : SatP Tryz.prog 189 [.fr 146 (Qaw xs), .clo f [.fp row]] (.int .i64 (Qge p xs)) [] := by
  refine wEp Tryz.func189 [.tmp 4] 19 fun E hE => ?_
  have F := @Qao
  repeat' first | refine wSq fun _ hK => ?_ | refine ww1 ?_ | (refine wK ?_; clear hK) | (simp only [wHb, reduceCtorEq] at hb <;> try (exfalso; omega)) | refine wCd (fun hb => ?_) fun hb => ?_ | refine ww3 ?_ | refine ww4 ?_ | refine wGd (fun hb => ?_) fun hb => ?_ | exact trivial
  refine Qa4 (X := Nat) (fun i => [(0, .fr 146 (Qaw xs)), (1, .clo f [.fp row]), (7, .int .i64 xs.length), (8, .int .i64 i)]) (fun _ => []) (fun i => xs.length - i)
    (fun i => i ≤ xs.length ∧ ∀ (j : Nat) (y : InsS), j < i → xs[j]? = some y → p y = false) 0 0 ⟨by simp, by simp⟩ (by simp [Qbo]) (by simp) (by simp) ?_
  rintro i nx ⟨hi, hdone⟩ hB
  rcases Nat.lt_or_ge i xs.length with hlt | hge
  · obtain ⟨e, he⟩ : ∃ e, xs[i]? = some e := ⟨_, List.getElem?_eq_getElem hlt⟩
    have hre := Qb2 he
    have F := wwA @Qao hre
    repeat' first | refine wSq fun _ hK => ?_ | refine ww1 ?_ | (refine wK ?_; clear hK) | (simp only [wHb, reduceCtorEq] at hb <;> try (exfalso; omega)) | refine wCd (fun hb => ?_) fun hb => ?_ | refine wCa (c := by first | exact hf e) (k := ?_) | refine ww3 ?_ | refine ww4 ?_ | refine wGd (fun hb => ?_) fun hb => ?_ | exact trivial
    · refine wLf ?_
      have hp : p e = true := by assumption
      rw [Qgk he hp hdone]
    · have hp : p e = false := by assumption
      have hw := Qax (x := (i : Int) + 1) (by omega)
      refine Qcj (i + 1) ⟨by omega, fun j y hj hy => ?_⟩ (by omega) (by simp [Qbo, tmL, hw]) (by simp) (by simp)
      rcases Nat.lt_or_ge j i with h | h
      · exact hdone j y h hy
      · obtain rfl : j = i := by omega
        rw [he] at hy; cases hy; exact hp
  · obtain rfl : i = xs.length := by omega
    have F := @Qao
    repeat' first | refine wSq fun _ hK => ?_ | refine ww1 ?_ | (refine wK ?_; clear hK) | (simp only [wHb, reduceCtorEq] at hb <;> try (exfalso; omega)) | refine wCd (fun hb => ?_) fun hb => ?_ | refine ww3 ?_ | refine ww4 ?_ | refine wGd (fun hb => ?_) fun hb => ?_ | exact trivial
    refine wLf ?_
    rw [Qfo fun j y hy => hdone j y (List.getElem?_eq_some_iff.1 hy).1 hy]
theorem Qp6 (xs : List EntS) (f : FuncId) (row : List PT) (p : EntS → Bool) (hl : xs.length ≤ 1048576) (hf : ∀ x, SatP Tryz.prog f [.agg x.cells, .fp row] (.bool (p x)) []) : SatP Tryz.prog 177 [.fr 91 (Qav xs), .clo f [.fp row]] (.int .i64 (Qge p xs)) [] := by
  refine wEp Tryz.func177 [.tmp 4] 19 fun E hE => ?_
  have F := @Qaa
  repeat' first | refine wSq fun _ hK => ?_ | refine ww1 ?_ | (refine wK ?_; clear hK) | (simp only [wHb, reduceCtorEq] at hb <;> try (exfalso; omega)) | refine wCd (fun hb => ?_) fun hb => ?_ | refine ww3 ?_ | refine ww4 ?_ | refine wGd (fun hb => ?_) fun hb => ?_ | exact trivial
  refine Qa4 (X := Nat) (fun i => [(0, .fr 91 (Qav xs)), (1, .clo f [.fp row]), (7, .int .i64 xs.length), (8, .int .i64 i)]) (fun _ => []) (fun i => xs.length - i)
    (fun i => i ≤ xs.length ∧ ∀ (j : Nat) (y : EntS), j < i → xs[j]? = some y → p y = false) 0 0 ⟨by simp, by simp⟩ (by simp [Qbo]) (by simp) (by simp) ?_
  rintro i nx ⟨hi, hdone⟩ hB
  rcases Nat.lt_or_ge i xs.length with hlt | hge
  · obtain ⟨e, he⟩ : ∃ e, xs[i]? = some e := ⟨_, List.getElem?_eq_getElem hlt⟩
    have hre := Qbe he
    have F := wwA @Qaa hre
    repeat' first | refine wSq fun _ hK => ?_ | refine ww1 ?_ | (refine wK ?_; clear hK) | (simp only [wHb, reduceCtorEq] at hb <;> try (exfalso; omega)) | refine wCd (fun hb => ?_) fun hb => ?_ | refine wCa (c := by first | exact hf e) (k := ?_) | refine ww3 ?_ | refine ww4 ?_ | refine wGd (fun hb => ?_) fun hb => ?_ | exact trivial
    · refine wLf ?_
      have hp : p e = true := by assumption
      rw [Qgk he hp hdone]
    · have hp : p e = false := by assumption
      have hw := Qax (x := (i : Int) + 1) (by omega)
      refine Qcj (i + 1) ⟨by omega, fun j y hj hy => ?_⟩ (by omega) (by simp [Qbo, tmL, hw]) (by simp) (by simp)
      rcases Nat.lt_or_ge j i with h | h
      · exact hdone j y h hy
      · obtain rfl : j = i := by omega
        rw [he] at hy; cases hy; exact hp
  · obtain rfl : i = xs.length := by omega
    have F := @Qaa
    repeat' first | refine wSq fun _ hK => ?_ | refine ww1 ?_ | (refine wK ?_; clear hK) | (simp only [wHb, reduceCtorEq] at hb <;> try (exfalso; omega)) | refine wCd (fun hb => ?_) fun hb => ?_ | refine ww3 ?_ | refine ww4 ?_ | refine wGd (fun hb => ?_) fun hb => ?_ | exact trivial
    refine wLf ?_
    rw [Qfo fun j y hy => hdone j y (List.getElem?_eq_some_iff.1 hy).1 hy]
theorem Qtp (e : EntS) (o : Int) : SatP Tryz.prog 178 [.agg e.cells, .fp [.int .i64 o]] (.bool (e.object == o)) [] := by
  refine wEp Tryz.func178 [.tmp 3] 8 fun E hE => ?_
  unfold EntS.cells
  have F := (Eq.refl 0)
  repeat' first | refine wSq fun _ hK => ?_ | refine ww1 ?_ | (refine wK ?_; clear hK) | (simp only [wHb, reduceCtorEq] at hb <;> try (exfalso; omega)) | refine wCd (fun hb => ?_) fun hb => ?_ | refine ww3 ?_ | refine ww4 ?_ | refine wGd (fun hb => ?_) fun hb => ?_ | exact trivial
  refine wLf ?_
  rfl
def Xcu (o : Int) (e : EntS) : Bool := e.object == o
def Qdl (es : List EntS) (o : Int) : Int := Qge (Xcu o) es
theorem Qdt (es : List EntS) (o : Int) (hl : es.length ≤ 1048576) : SatP Tryz.prog 137 [.fr 91 (Qav es), .int .i64 o] (.int .i64 (Qdl es o)) [] := by
  refine wEp Tryz.func137 [.tmp 4] 8 fun E hE => ?_
  have F := (Eq.refl 0)
  repeat' first | refine wSq fun _ hK => ?_ | refine ww1 ?_ | (refine wK ?_; clear hK) | (simp only [wHb, reduceCtorEq] at hb <;> try (exfalso; omega)) | refine wCd (fun hb => ?_) fun hb => ?_ | refine wCa (c := by first | exact Qp6 es 178 [.int .i64 o] (Xcu o) hl (fun e => Qtp e o)) (k := ?_) | refine ww3 ?_ | refine ww4 ?_ | refine wGd (fun hb => ?_) fun hb => ?_ | exact trivial
  refine wLf ?_
  rfl
theorem Qdp (es : List EntS) (o : Int) : (Qdl es o = -1 ∧ ∀ (j : Nat) (f : EntS), es[j]? = some f → f.object ≠ o) ∨
    ∃ (k : Nat) (e : EntS), Qdl es o = k ∧ es[k]? = some e ∧ e.object = o ∧ ∀ (j : Nat) (f : EntS), j < k → es[j]? = some f → f.object ≠ o := by
  by_cases h : ∃ (k : Nat) (e : EntS), es[k]? = some e ∧ e.object = o ∧ ∀ (j : Nat) (f : EntS), j < k → es[j]? = some f → f.object ≠ o
  · obtain ⟨k, e, h1, h2, h3⟩ := h
    exact .inr ⟨k, e, Qgk h1 (by simp [Xcu, h2]) (fun j f hj hf => by simpa [Xcu] using h3 j f hj hf), h1, h2, h3⟩
  · left
    have all : ∀ (n j : Nat) (f : EntS), j < n → es[j]? = some f → f.object ≠ o := by
      intro n
      induction n with
      | zero => intro j f hj; omega
      | succ n ih =>
        intro j f hj hf hfo
        rcases Nat.lt_or_ge j n with h1 | h1
        · exact ih j f h1 hf hfo
        · obtain rfl : j = n := by omega
          exact h ⟨j, f, hf, hfo, ih⟩
    have all' : ∀ (j : Nat) (f : EntS), es[j]? = some f → f.object ≠ o := fun j f hf => all (j + 1) j f (by omega) hf
    exact ⟨Qfo (fun j f hf => by simpa [Xcu] using all' j f hf), all'⟩
theorem Qz6 (es : List EntS) (i : Nat) : ((Qav es).take i).drop 0 = Qav (es.take i) := by simp [Qav]
theorem Qfe (es : List EntS) (hl : es.length ≤ 1048576) : SatP Tryz.prog 131 [.fr 91 (Qav es)] (.bool (bP (Qeb es))) [] := by
  refine wEp Tryz.func131 [.tmp 2] 28 fun E hE => ?_
  have F := @Qaa
  repeat' first | refine wSq fun _ hK => ?_ | refine ww1 ?_ | (refine wK ?_; clear hK) | (simp only [wHb, reduceCtorEq] at hb <;> try (exfalso; omega)) | refine wCd (fun hb => ?_) fun hb => ?_ | refine ww3 ?_ | refine ww4 ?_ | refine wGd (fun hb => ?_) fun hb => ?_ | exact trivial
  refine Qa4 (X := Nat) (fun i => [(0, .fr 91 (Qav es)), (5, .fr 91 (Qav es)), (6, .int .i64 es.length), (7, .int .i64 i)]) (fun _ => []) (fun i => es.length - i)
    (fun i => i ≤ es.length ∧ ∀ (j : Nat) (e : EntS), j < i → es[j]? = some e → e.ok = true ∧ ∀ (k : Nat) (f : EntS), k < j → es[k]? = some f → f.object ≠ e.object) 0 0 ⟨by simp, by simp⟩ (by simp [Qbo]) (by simp) (by simp) ?_
  rintro i nx ⟨hi, hdone⟩ hB
  rcases Nat.lt_or_ge i es.length with hlt | hge
  · obtain ⟨e, he⟩ : ∃ e, es[i]? = some e := ⟨_, List.getElem?_eq_getElem hlt⟩
    have hre := Qbe he
    have hle : i ≤ es.length := hi
    have hcut := Qz6 es i
    have hlc : (es.take i).length ≤ 1048576 := by simp; omega
    have F := wwA @Qaa (wwA hre (wwA hle hcut))
    repeat' first | refine wSq fun _ hK => ?_ | refine ww1 ?_ | (refine wK ?_; clear hK) | (simp only [wHb, reduceCtorEq] at hb <;> try (exfalso; omega)) | refine wCd (fun hb => ?_) fun hb => ?_ | refine wCa (c := by first | exact Qh7 e | exact Qdt (es.take i) e.object hlc) (k := ?_) | refine ww3 ?_ | refine ww4 ?_ | refine wGd (fun hb => ?_) fun hb => ?_ | exact trivial
    · refine wLf ?_
      have hne : e.ok = false := by assumption
      rw [Qbv fun h => by have := (h.1 i e he).1; rw [hne] at this; cases this]
    · refine wLf ?_
      have hp : 0 ≤ Qdl (es.take i) e.object := by assumption
      rcases Qdp (es.take i) e.object with ⟨h1, _⟩ | ⟨k, f, h1, h2, h3, _⟩
      · omega
      · have hki : k < i := by
          rw [List.getElem?_take] at h2
          split at h2
          · assumption
          · cases h2
        rw [List.getElem?_take, if_pos hki] at h2
        rw [Qbv fun h => (h.1 i e he).2 k f hki h2 h3]
    · have hok : e.ok = true := by assumption
      have hp : ¬ 0 ≤ Qdl (es.take i) e.object := by assumption
      have hw := Qax (x := (i : Int) + 1) (by omega)
      refine Qcj (i + 1) ⟨by omega, fun j g hj hg => ?_⟩ (by omega) (by simp [Qbo, tmL, hw]) (by simp) (by simp)
      rcases Nat.lt_or_ge j i with h | h
      · exact hdone j g h hg
      · obtain rfl : j = i := by omega
        rw [he] at hg
        cases hg
        refine ⟨hok, fun k f hk hf => ?_⟩
        rcases Qdp (es.take j) e.object with ⟨_, h1⟩ | ⟨k, f, h1, h2, h3, _⟩
        · exact h1 k f (by rw [List.getElem?_take, if_pos hk]; exact hf)
        · omega
  · obtain rfl : i = es.length := by omega
    have F := @Qaa
    repeat' first | refine wSq fun _ hK => ?_ | refine ww1 ?_ | (refine wK ?_; clear hK) | (simp only [wHb, reduceCtorEq] at hb <;> try (exfalso; omega)) | refine wCd (fun hb => ?_) fun hb => ?_ | refine ww3 ?_ | refine ww4 ?_ | refine wGd (fun hb => ?_) fun hb => ?_ | exact trivial
    refine wLf ?_
    by_cases h6 : es.length ≤ 6
    · rw [Qcs ⟨fun i e he => hdone i e (List.getElem?_eq_some_iff.1 he).1 he, h6⟩]
      have : (es.length : Int) ≤ 6 := by omega
      simp [this]
    · rw [Qbv (fun h => h6 h.2)]
      have : ¬ (es.length : Int) ≤ 6 := by omega
      simp [this]
noncomputable def Qbp (es : List EntS) (o : Int) : Int := if bP (Qeb es) = true then Qdl es o else -1
theorem Qgo (es : List EntS) (o : Int) (hl : es.length ≤ 1048576) : SatP Tryz.prog 180 [.fr 91 (Qav es), .int .i64 o] (.int .i64 (Qbp es o)) [] := by
  refine wEp Tryz.func180 [.tmp 4] 11 fun E hE => ?_
  have F := (Eq.refl 0)
  repeat' first | refine wSq fun _ hK => ?_ | refine ww1 ?_ | (refine wK ?_; clear hK) | (simp only [wHb, reduceCtorEq] at hb <;> try (exfalso; omega)) | refine wCd (fun hb => ?_) fun hb => ?_ | refine wCa (c := by first | exact Qfe es hl | exact Qdt es o hl) (k := ?_) | refine ww3 ?_ | refine ww4 ?_ | refine wGd (fun hb => ?_) fun hb => ?_ | exact trivial
  all_goals refine wLf ?_
  all_goals simp_all [Qbp]
theorem Qb9 (es : List EntS) (o : Int) (hl : es.length ≤ 1048576) : SatP Tryz.prog 147 [.fr 91 (Qav es), .int .i64 o] (.int .i64 (Qbp es o)) [] := by
  refine wEp Tryz.func147 [.tmp 4] 24 fun E hE => ?_
  have F := @Qaa
  repeat' first | refine wSq fun _ hK => ?_ | refine ww1 ?_ | (refine wK ?_; clear hK) | (simp only [wHb, reduceCtorEq] at hb <;> try (exfalso; omega)) | refine wCd (fun hb => ?_) fun hb => ?_ | refine ww3 ?_ | refine ww4 ?_ | refine wGd (fun hb => ?_) fun hb => ?_ | exact trivial
  refine Qa4 (X := Nat) (fun i => [(0, .fr 91 (Qav es)), (1, .int .i64 o), (5, .int .i64 i)]) (fun _ => []) (fun i => es.length - i)
    (fun i => i ≤ es.length ∧ ∀ (j : Nat) (f : EntS), j < i → es[j]? = some f → f.object ≠ o) 0 0 ⟨by simp, by simp⟩ (by simp [Qbo]) (by simp) (by simp) ?_
  rintro i nx ⟨hi, hdone⟩ hB
  rcases Nat.lt_or_ge i es.length with hlt | hge
  · obtain ⟨e, he⟩ : ∃ e, es[i]? = some e := ⟨_, List.getElem?_eq_getElem hlt⟩
    have hre := Qbe he
    have F := wwA @Qaa hre
    repeat' first | refine wSq fun _ hK => ?_ | refine ww1 ?_ | (refine wK ?_; clear hK) | (simp only [wHb, reduceCtorEq] at hb <;> try (exfalso; omega)) | refine wCd (fun hb => ?_) fun hb => ?_ | refine wCa (c := by first | exact Qfn es hl) (k := ?_) | refine ww3 ?_ | refine ww4 ?_ | refine wGd (fun hb => ?_) fun hb => ?_ | exact trivial
    · refine wLf ?_
      have ho : bP (Qeb es) = true := by assumption
      have hob : e.object = o := by simp_all
      rw [Qbp, if_pos ho]
      rcases Qdp es o with ⟨_, h1⟩ | ⟨k, f, h1, h2, h3, h4⟩
      · exact absurd hob (h1 i e he)
      · have h5 : ¬ i < k := fun h => h4 i e h he hob
        have h6 : ¬ k < i := fun h => hdone k f h h2 h3
        rw [h1, show k = i by omega]
    · have hob : e.object ≠ o := by simp_all
      have hw := Qax (x := (i : Int) + 1) (by omega)
      refine Qcj (i + 1) ⟨by omega, fun j g hj hg => ?_⟩ (by omega) (by simp [Qbo, tmL, hw]) (by simp) (by simp)
      rcases Nat.lt_or_ge j i with h | h
      · exact hdone j g h hg
      · obtain rfl : j = i := by omega
        rw [he] at hg; cases hg; exact hob
    · refine wLf ?_
      have ho : bP (Qeb es) = false := by simp_all
      rw [Qbp, ho]
      rfl
  · obtain rfl : i = es.length := by omega
    have F := @Qaa
    repeat' first | refine wSq fun _ hK => ?_ | refine ww1 ?_ | (refine wK ?_; clear hK) | (simp only [wHb, reduceCtorEq] at hb <;> try (exfalso; omega)) | refine wCd (fun hb => ?_) fun hb => ?_ | refine ww3 ?_ | refine ww4 ?_ | refine wGd (fun hb => ?_) fun hb => ?_ | exact trivial
    refine wLf ?_
    rw [Qbp]
    split
    · rcases Qdp es o with ⟨h1, _⟩ | ⟨k, f, h1, h2, h3, h4⟩
      · rw [h1]
      · exact absurd h3 (hdone k f (List.getElem?_eq_some_iff.1 h2).1 h2)
    · rfl
end Go.Proofs.YtmiojnibngncaaaGreat
