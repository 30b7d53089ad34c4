/- What the claim rests on, part 17: the value-level engine and contracts of functions; no condition. -/
import Derived.Test.YtmiojnibngncaaaGreatZRa
import Derived.Test.YtmiojnibngncaaaGreatZQn
import Derived.Test.YtmiojnibngncaaaGreatZQh
import Derived.Test.YtmiojnibngncaaaGreatZQm
namespace Go.Proofs.YtmiojnibngncaaaGreat
open Go Go.RowKit
set_option linter.unusedVariables false
set_option linter.unusedSimpArgs false
def mixL (new old : List (List PT)) (i : Nat) : List (List PT) := new.take i ++ old.drop i
end Go.Proofs.YtmiojnibngncaaaGreat
namespace Go.Proofs.YtmiojnibngncaaaGreat
open Go Go.RowKit
set_option linter.unusedVariables false
set_option linter.unusedSimpArgs false
set_option maxRecDepth 100000
set_option maxHeartbeats 4000000
attribute [local irreducible] VWP Qb5 Qbn Qbs Qbu Qbj Qbt Qa3 Qbq Qcq Qc6 Qbk Qdb Qc4 Qbr Qbm Qa8
attribute [local irreducible] Qdo
theorem Xdx {P : Program} {f : FuncId} {fn : Func} {k k' : IntKind} {n m : Int} (hf : P.funcs[f]? = some fn) (hname : (fn.name == "runtime.NumGoroutine") = false) (hb : fn.body.isNone = false)
    (h : ∀ w : World, Calls P f #[.int k n] w fun e w' => e = .returned (.int k' m) ∧ w' = w) : SatP P f [.int k n] (.int k' m) [] := by
  refine ⟨⟨fn, hf, hname, hb⟩, rfl, fun x hx => (by simp at hx), fun w vals hvl hva => ?_⟩
  obtain ⟨v, rfl⟩ : ∃ v, vals = [v] := by
    match vals, hvl with
    | [v], _ => exact ⟨v, rfl⟩
  have hv : v = .int k n := hva 0 _ v rfl rfl
  subst hv
  refine (h w).mono ?_
  rintro e w' ⟨rfl, rfl⟩
  exact ⟨_, Gh.nil, rfl, ⟨Frm.refl _, fun T e rows h => (by simp [Hp] at h), fun T cs h => (by simp [Hp] at h), fun T h => (by simp [Hp, Ent.live] at h)⟩, fun _ _ => rfl, rfl⟩
theorem Qyo (n : Nat) (h : n ≤ 1048576) : SatP Tryz.prog 199 [.int .u64 n] (.int .i64 (Lib.bitLen ((n : Int).toNat))) [] :=
  Xdx Tryz.func199 (by kernel_rfl) rfl fun w => Tryz.bits_Len n w (by omega) (by omega)
theorem Qri (es : List EntS) (k : Nat) (e : EntS) : (Qav es).set k [.int .i64 e.object, .int .i64 e.version, .int .i64 e.old, .int .i64 e.new, .bool e.write] = Qav (es.set k e) := by simp [Qav, List.map_set, EntS.enc]
def Qj2 : Nat → List EntS → List EntS
  | 0, xs => xs
  | j + 1, xs => match xs[j + 1]?, xs[j]? with
    | some a, some b => if a.object < b.object then Qj2 j ((xs.set (j + 1) b).set j a) else xs
    | _, _ => xs
def Qm7 : Nat → List EntS → List EntS
  | 0, xs => xs
  | m + 1, xs => Qj2 m (Qm7 m xs)
theorem Qtl : ∀ (j : Nat) (xs : List EntS), (Qj2 j xs).length = xs.length
  | 0, xs => rfl
  | j + 1, xs => by
    rw [Qj2]
    split
    · split
      · rw [Qtl]; simp
      · rfl
    · rfl
theorem Qi4 : ∀ (m : Nat) (xs : List EntS), (Qm7 m xs).length = xs.length
  | 0, xs => rfl
  | m + 1, xs => by rw [Qm7, Qtl, Qi4]
def Qy5 (xs : List EntS) : Prop := ∀ e ∈ xs, 0 ≤ e.object ∧ e.object ≤ 7
theorem Qrd : ∀ (j : Nat) (xs : List EntS) (e : EntS), e ∈ Qj2 j xs → e ∈ xs
  | 0, xs, e, h => h
  | j + 1, xs, e, h => by
    rw [Qj2] at h
    split at h
    · rename_i a b ha hb
      split at h
      · have h2 := Qrd j _ e h
        rcases List.mem_or_eq_of_mem_set h2 with h3 | rfl
        · rcases List.mem_or_eq_of_mem_set h3 with h4 | rfl
          · exact h4
          · exact List.mem_of_getElem? hb
        · exact List.mem_of_getElem? ha
      · exact h
    · exact h
theorem Qwl : ∀ (m : Nat) (xs : List EntS) (e : EntS), e ∈ Qm7 m xs → e ∈ xs
  | 0, xs, e, h => h
  | m + 1, xs, e, h => Qwl m xs e (Qrd m _ e h)
theorem Xg3 (a b : EntS) (ha : 0 ≤ a.object ∧ a.object ≤ 7) (hb : 0 ≤ b.object ∧ b.object ≤ 7) : SatP Tryz.prog 194 [.agg a.cells, .agg b.cells] (.int .i64 (a.object - b.object)) [] := by
  have hw := Qax (x := a.object - b.object) (by omega)
  refine wEp Tryz.func194 [.tmp 4] 10 fun E hE => ?_
  unfold EntS.cells
  have F := hw
  repeat' first | refine wSq fun _ hK => ?_ | refine ww1 ?_ | (refine wK ?_; clear hK) | (simp only [wHb, reduceCtorEq] at hb <;> try (exfalso; omega)) | refine wCd (fun hb => ?_) fun hb => ?_ | refine ww3 ?_ | refine ww4 ?_ | refine wGd (fun hb => ?_) fun hb => ?_ | exact trivial
  refine wLf ?_
  rfl
theorem Xag (es : List EntS) (hl : es.length ≤ 12) (ho : Qy5 es) :
    SatO Tryz.prog 201 [.rf 0 es.length, .int .i64 0, .int .i64 es.length, .clo 194 []] [.root 91 (Qav es)] (.tup []) [.root 91 (Qav (Qm7 es.length es))] := by
  refine wEo Tryz.func201 [] 53 1 ⟨⟨rfl, Qac _⟩, by simp [Qbc]⟩ fun E hE => ?_
  have F := @Qaa
  repeat' first | refine wSq fun _ hK => ?_ | refine ww1 ?_ | (refine wK ?_; clear hK) | (simp only [wHb, reduceCtorEq] at hb <;> try (exfalso; omega)) | refine Qcf (fun hb => ?_) fun hb => ?_ | refine Qce ?_ | refine ww4 ?_ | refine Qcc (fun hb => ?_) fun hb => ?_ | exact trivial
  refine Qd5 hE (X := Nat) (fun i => [(0, .rf 0 es.length), (1, .int .i64 0), (2, .int .i64 es.length), (3, .clo 194 []), (8, .int .i64 (i + 1 : Nat))]) (fun i => [(0, .root 91 (Qav (Qm7 (i + 1) es)))]) (fun i => es.length + 1 - i)
    (fun i => i + 1 ≤ es.length ∨ i = 0) [0] 0 (by simp) (by decide) (by decide) (by simp [Qbo, Qfa, Qe2, Qc3]) (by simp [HpE, Qb6, Qg4, Qm7, Qj2, Qac]) ?_
  intro i hi
  rcases Nat.lt_or_ge (i + 1) es.length with hlt | hge
  · have hlt2 : ((i + 1 : Nat) : Int) < (es.length : Int) := by omega
    have hw1 := Qax (x := ((i + 1 : Nat) : Int) + 1) (by omega)
    have hi2 : ((i + 1 : Nat) : Int) + 1 = ((i + 1 + 1 : Nat) : Int) := by omega
    have F := wwA @Qaa (wwA @Qi4 hlt2)
    repeat' first | refine wSq fun _ hK => ?_ | refine ww1 ?_ | (refine wK ?_; clear hK) | (simp only [wHb, reduceCtorEq] at hb <;> try (exfalso; omega)) | refine wCd (fun hb => ?_) fun hb => ?_ | refine ww3 ?_ | refine ww4 ?_ | refine wGd (fun hb => ?_) fun hb => ?_ | exact trivial
    clear F
    refine Qd5 hE (X := Nat × List EntS) (fun x => [(0, .rf 0 es.length), (1, .int .i64 0), (2, .int .i64 es.length), (3, .clo 194 []), (8, .int .i64 (i + 1 : Nat)), (9, .int .i64 x.1)]) (fun x => [(0, .root 91 (Qav x.2))]) (fun x => x.1)
      (fun x => x.1 ≤ i + 1 ∧ x.2.length = es.length ∧ Qy5 x.2 ∧ Qj2 x.1 x.2 = Qm7 (i + 1 + 1) es) [0] (i + 1, Qm7 (i + 1) es) ⟨Nat.le_refl _, Qi4 _ _, fun e he => ho e (Qwl _ _ e he), rfl⟩ (by decide) (by decide) (by simp [Qbo, tmL, Qfa, Qe2, Qc3]) (by simp [Qbd, hpL, Qb6, Qg4, Qac]) ?_
    rintro ⟨j, xs⟩ ⟨hj, hxl, hxo, hxs⟩
    simp only at hj hxl hxo hxs
    cases j with
    | zero =>
      have hz : ¬ (0 : Int) < ((0 : Nat) : Int) := by omega
      have hx : xs = Qm7 (i + 1 + 1) es := hxs
      have F := wwA @Qaa (wwA hxl hz)
      repeat' first | refine wSq fun _ hK => ?_ | refine ww1 ?_ | (refine wK ?_; clear hK) | (simp only [wHb, reduceCtorEq] at hb <;> try (exfalso; omega)) | refine wCd (fun hb => ?_) fun hb => ?_ | refine ww3 ?_ | refine ww4 ?_ | refine wGd (fun hb => ?_) fun hb => ?_ | exact trivial
      exact Qfb [] rfl [0] (i + 1) rfl (by decide) (by decide) (.inl hlt) (by omega) (by simp [Qbo, tmL, Qfa, Qe2, Qc3, hw1, hi2]) (by simp [Qbd, hpL, Qb6, Qg4, hx, Qac])
    | succ k =>
      obtain ⟨a, ha⟩ : ∃ a, xs[k + 1]? = some a := ⟨_, List.getElem?_eq_getElem (by omega)⟩
      obtain ⟨b, hb⟩ : ∃ b, xs[k]? = some b := ⟨_, List.getElem?_eq_getElem (by omega)⟩
      have hra := Qbe ha
      have hrb := Qbe hb
      have hcm := Xg3 a b (hxo a (List.mem_of_getElem? ha)) (hxo b (List.mem_of_getElem? hb))
      unfold EntS.cells at hcm
      have hpos : (0 : Int) < ((k + 1 : Nat) : Int) := by omega
      have hk0 : (0 : Int) ≤ ((k + 1 : Nat) : Int) := by omega
      have hk1 : (0 : Int) ≤ ((k : Nat) : Int) := by omega
      have hl1 : k + 1 < es.length := by omega
      have hl2 : k < es.length := by omega
      have hwk : IntKind.i64.wrap (((k + 1 : Nat) : Int) - 1) = k := by rw [Qax (by omega)]; omega
      by_cases hab : a.object < b.object
      · have hneg : a.object - b.object < 0 := by omega
        have hset : ((Qav xs).set (k + 1) [.int .i64 b.object, .int .i64 b.version, .int .i64 b.old, .int .i64 b.new, .bool b.write]).set k [.int .i64 a.object, .int .i64 a.version, .int .i64 a.old, .int .i64 a.new, .bool a.write] = Qav ((xs.set (k + 1) b).set k a) := by
          rw [Qri, Qri]
        have hrb2 : ((Qav xs).set (k + 1) [.int .i64 b.object, .int .i64 b.version, .int .i64 b.old, .int .i64 b.new, .bool b.write])[k]? = some [.int .i64 b.object, .int .i64 b.version, .int .i64 b.old, .int .i64 b.new, .bool b.write] := by
          rw [List.getElem?_set_ne (by omega)]; exact hrb
        have hJ : k ≤ i + 1 ∧ ((xs.set (k + 1) b).set k a).length = es.length ∧ Qy5 ((xs.set (k + 1) b).set k a) ∧ Qj2 k ((xs.set (k + 1) b).set k a) = Qm7 (i + 1 + 1) es := by
          refine ⟨by omega, by simpa using hxl, fun e he => ?_, ?_⟩
          · rcases List.mem_or_eq_of_mem_set he with h3 | rfl
            · rcases List.mem_or_eq_of_mem_set h3 with h4 | rfl
              · exact hxo e h4
              · exact hxo _ (List.mem_of_getElem? hb)
            · exact hxo _ (List.mem_of_getElem? ha)
          · rw [← hxs, Qj2, ha, hb]
            simp only
            rw [if_pos hab]
        have F := wwA @Qaa (wwA hxl (wwA hpos (wwA hk0 (wwA hk1 (wwA hl1 (wwA hl2 (wwA hwk (wwA hra (wwA hrb (wwA hrb2 (wwA hneg (wwA hset @List.length_set.{0}))))))))))))
        repeat' first | refine wSq fun _ hK => ?_ | refine ww1 ?_ | (refine wK ?_; clear hK) | (simp only [wHb, reduceCtorEq] at hb <;> try (exfalso; omega)) | refine wCd (fun hb => ?_) fun hb => ?_ | refine wCa (c := by first | exact hcm) (k := ?_) | refine ww3 ?_ | refine ww4 ?_ | refine wGd (fun hb => ?_) fun hb => ?_ | exact trivial
        all_goals exact Qfb [] rfl [0] (k, (xs.set (k + 1) b).set k a) rfl (by decide) (by decide) hJ (by simp only; omega) (by simp [Qbo, tmL, Qfa, Qe2, Qc3, hwk]) (by simp [Qbd, hpL, Qb6, Qg4, hset, Qac])
      · have hneg : ¬ a.object - b.object < 0 := by omega
        have hx : xs = Qm7 (i + 1 + 1) es := by
          rw [← hxs, Qj2, ha, hb]
          simp only
          rw [if_neg hab]
        have F := wwA @Qaa (wwA hxl (wwA hpos (wwA hk0 (wwA hk1 (wwA hl1 (wwA hl2 (wwA hwk (wwA hra (wwA hrb hneg)))))))))
        repeat' first | refine wSq fun _ hK => ?_ | refine ww1 ?_ | (refine wK ?_; clear hK) | (simp only [wHb, reduceCtorEq] at hb <;> try (exfalso; omega)) | refine wCd (fun hb => ?_) fun hb => ?_ | refine wCa (c := by first | exact hcm) (k := ?_) | refine ww3 ?_ | refine ww4 ?_ | refine wGd (fun hb => ?_) fun hb => ?_ | exact trivial
        exact Qfb [] rfl [0] (i + 1) rfl (by decide) (by decide) (.inl hlt) (by omega) (by simp [Qbo, tmL, Qfa, Qe2, Qc3, hw1, hi2]) (by simp [Qbd, hpL, Qb6, Qg4, hx, Qac])
  · have hge2 : ¬ ((i + 1 : Nat) : Int) < (es.length : Int) := by omega
    have hx : Qm7 (i + 1) es = Qm7 es.length es := by
      rcases hi with h | h
      · rw [show i + 1 = es.length by omega]
      · subst h
        rcases Nat.eq_zero_or_pos es.length with h0 | h0
        · rw [h0]; rfl
        · rw [show es.length = 0 + 1 by omega]
    have F := wwA @Qaa (wwA @Qi4 hge2)
    repeat' first | refine wSq fun _ hK => ?_ | refine ww1 ?_ | (refine wK ?_; clear hK) | (simp only [wHb, reduceCtorEq] at hb <;> try (exfalso; omega)) | refine wCd (fun hb => ?_) fun hb => ?_ | refine ww3 ?_ | refine ww4 ?_ | refine wGd (fun hb => ?_) fun hb => ?_ | exact trivial
    exact Qbf [] rfl [.root 91 (Qav (Qm7 es.length es))] rfl (by simp [Qbx, Qbd, hpL, hx]) rfl (by simp only [go_sem, Qcd]; rfl) (acc := []) rfl (by simp) rfl
theorem Xhx (es : List EntS) (hl : es.length ≤ 12) (ho : Qy5 es) (m : Int) :
    SatO Tryz.prog 198 [.rf 0 es.length, .int .i64 0, .int .i64 es.length, .int .i64 m, .clo 194 []] [.root 91 (Qav es)] (.tup []) [.root 91 (Qav (Qm7 es.length es))] := by
  have hc := Xag es hl ho
  have hw := Qax (x := (es.length : Int)) (by omega)
  have hs : (es.length : Int) - 0 = es.length := by omega
  have hle : (es.length : Int) ≤ 12 := by omega
  refine wEo Tryz.func198 [] 148 1 ⟨⟨rfl, Qac _⟩, by simp [Qbc]⟩ fun E hE => ?_
  have F := @Qaa
  repeat' first | refine wSq fun _ hK => ?_ | refine ww1 ?_ | (refine wK ?_; clear hK) | (simp only [wHb, reduceCtorEq] at hb <;> try (exfalso; omega)) | refine wCd (fun hb => ?_) fun hb => ?_ | refine ww3 ?_ | refine ww4 ?_ | refine wGd (fun hb => ?_) fun hb => ?_ | exact trivial
  clear F
  refine Qd5 hE (X := Unit) (fun _ => [(0, .rf 0 es.length), (1, .int .i64 0), (2, .int .i64 es.length), (3, .int .i64 m), (4, .clo 194 []), (10, .bool true), (11, .bool true)]) (fun _ => [(0, .root 91 (Qav es))]) (fun _ => 0)
    (fun _ => True) [0] () trivial (by decide) (by decide) (by simp [Qbo, Qfa, Qe2, Qc3]) (by simp [HpE, Qb6, Qg4, Qac]) ?_
  rintro _ _
  have F := wwA @Qaa (wwA @Qac (wwA hw (wwA hs hle)))
  repeat' first | refine wSq fun _ hK => ?_ | refine ww1 ?_ | (refine wK ?_; clear hK) | (simp only [wHb, reduceCtorEq] at hb <;> try (exfalso; omega)) | refine wCd (fun hb => ?_) fun hb => ?_ | refine wOw [0] (c := by exact hc) (k := ?_) | refine ww3 ?_ | refine ww4 ?_ | refine wGd (fun hb => ?_) fun hb => ?_ | exact trivial
  all_goals exact Qbf [] rfl [.root 91 (Qav (Qm7 es.length es))] rfl (by simp [Qbx, Qbd, hpL]) rfl (by simp only [go_sem, Qcd]; rfl) (acc := []) rfl (by simp) rfl
theorem Quv (es : List EntS) (hl : es.length ≤ 12) (ho : Qy5 es) :
    SatO Tryz.prog 193 [.rf 0 es.length, .clo 194 []] [.root 91 (Qav es)] (.tup []) [.root 91 (Qav (Qm7 es.length es))] := by
  have hc := Xhx es hl ho (Lib.bitLen ((es.length : Int).toNat))
  have hb := Qyo es.length (by omega)
  have hw : IntKind.u64.wrap (es.length : Int) = es.length := by rw [IntKind.wrap_u64]; omega
  refine wEo Tryz.func193 [] 14 1 ⟨⟨rfl, Qac _⟩, by simp [Qbc]⟩ fun E hE => ?_
  have F := wwA @Qaa (wwA @Qac hw)
  repeat' first | refine wSq fun _ hK => ?_ | refine ww1 ?_ | (refine wK ?_; clear hK) | (simp only [wHb, reduceCtorEq] at hb <;> try (exfalso; omega)) | refine wCd (fun hb => ?_) fun hb => ?_ | refine wCa (c := by first | exact hb) (k := ?_) | refine wOw [0] (c := by exact hc) (k := ?_) | refine ww3 ?_ | refine ww4 ?_ | refine wGd (fun hb => ?_) fun hb => ?_ | exact trivial
  all_goals exact Qbf [] rfl [.root 91 (Qav (Qm7 es.length es))] rfl (by simp [Qbx, Qbd, HpE]) rfl (by simp only [go_sem, Qcd]; rfl) (acc := []) rfl (by simp) rfl
end Go.Proofs.YtmiojnibngncaaaGreat
