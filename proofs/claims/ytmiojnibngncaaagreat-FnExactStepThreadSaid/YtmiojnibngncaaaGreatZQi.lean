/- What the claim rests on, part 9: the value-level engine and contracts of functions; no condition. -/
import Derived.Test.YtmiojnibngncaaaGreatZQh
import Derived.Test.YtmiojnibngncaaaGreatZQd
import Derived.Test.YtmiojnibngncaaaGreatZQf
import Derived.Test.YtmiojnibngncaaaGreatZQe
import Derived.Test.YtmiojnibngncaaaGreatZQc
namespace Go.Proofs.YtmiojnibngncaaaGreat
open Go Go.RowKit
set_option linter.unusedVariables false
set_option linter.unusedSimpArgs false
set_option maxRecDepth 100000
set_option maxHeartbeats 4000000
attribute [local irreducible] VWP Qb5 Qbn Qbs Qbu Qbj Qbt Qa3 Qbq Qcq Qc6 Qbk Qdb Qc4 Qbr Qbm Qa8
def Qxb (k : Int) : InsS := ⟨k, k + 1, k + 2⟩
def Qg3 (k : Int) (n : Nat) : List InsS := (List.range n).map fun j => Qxb (k + 3 * (j : Nat))
theorem Qf9 (k : Int) (n : Nat) : (Qg3 k n).length = n := by simp [Qg3]
theorem Qra {k : Int} {n i : Nat} (h : i < n) : (Qg3 k n)[i]? = some (Qxb (k + 3 * (i : Nat))) := by simp [Qg3, h]
theorem Qqj (es : List InsS) (k : Int) (h0 : 0 ≤ k) (h1 : k ≤ 1099511627776) (hl : es.length ≤ 1099511627776) :
    SatO Tryz.prog 79 [.rf 0 es.length, .int .i64 k] [.root 146 (Qaw es)] (.int .i64 (k + 3 * es.length)) [.root 146 (Qaw (Qg3 k es.length))] := by
  refine wEo Tryz.func79 [.tmp 4] 34 1 ⟨⟨rfl, Qam _⟩, by simp [Qbc]⟩ fun E hE => ?_
  have F := @Qao
  repeat' first | refine wSq fun _ hK => ?_ | refine ww1 ?_ | (refine wK ?_; clear hK) | (simp only [wHb, reduceCtorEq] at hb <;> try (exfalso; omega)) | refine wCd (fun hb => ?_) fun hb => ?_ | refine ww3 ?_ | refine ww4 ?_ | refine wGd (fun hb => ?_) fun hb => ?_ | exact trivial
  refine Qa4 (X := Nat × List (List PT)) (fun x => [(0, .rf 0 es.length), (1, .int .i64 (k + 3 * (x.1 : Nat))), (5, .int .i64 x.1)]) (fun x => [(0, .root 146 x.2)]) (fun x => es.length - x.1)
    (fun x => x.1 ≤ es.length ∧ x.2.length = es.length ∧ (∀ (j : Nat), j < x.1 → x.2[j]? = some (Qxb (k + 3 * (j : Nat))).enc) ∧ ∀ (j : Nat), x.1 ≤ j → x.2[j]? = (Qaw es)[j]?)
    1 (0, Qaw es) ⟨by simp, by simp [Qao], by simp, by simp⟩ (by simp [Qbo]) (by simp [HpE]) (by simp) ?_
  rintro ⟨i, rows⟩ nx ⟨hi, hlen, hdone, hrest⟩ hB
  simp only at hi hlen hdone hrest
  rcases Nat.lt_or_ge i es.length with hlt | hge
  · obtain ⟨e, he⟩ : ∃ e, es[i]? = some e := ⟨_, List.getElem?_eq_getElem hlt⟩
    have hr := hrest i (Nat.le_refl _)
    rw [Qb2 he] at hr
    have hli : i < rows.length := by omega
    have hle : es.length ≤ rows.length := by omega
    have a2 : k + 3 * (i : Nat) + 1 + 1 = k + 3 * (i : Nat) + 2 := by omega
    have a3 : k + 3 * (i : Nat) + 2 + 1 = k + 3 * ((i + 1 : Nat) : Int) := by omega
    have w1 := Qax (x := k + 3 * (i : Nat) + 1) (by omega)
    have w2 := Qax (x := k + 3 * (i : Nat) + 2) (by omega)
    have w3 := Qax (x := k + 3 * ((i + 1 : Nat) : Int)) (by omega)
    have w0 := Qax (x := (i : Int) + 1) (by omega)
    have F := wwA @Qao (wwA hr (wwA hle (wwA @List.set_set.{0} (wwA @List.length_set.{0} (wwA (fun a => List.getElem?_set_self (a := a) hli) (wwA a2 (wwA a3 (wwA w0 (wwA w1 (wwA w2 w3))))))))))
    repeat' first | refine wSq fun _ hK => ?_ | refine ww1 ?_ | (refine wK ?_; clear hK) | (simp only [wHb, reduceCtorEq] at hb <;> try (exfalso; omega)) | refine wCd (fun hb => ?_) fun hb => ?_ | refine ww3 ?_ | refine ww4 ?_ | refine wGd (fun hb => ?_) fun hb => ?_ | exact trivial
    refine Qcj (i + 1, rows.set i (Qxb (k + 3 * (i : Nat))).enc) ⟨by simp only; omega, by simpa using hlen, fun j hj => ?_, fun j hj => ?_⟩ (by simp only; omega) ?_ ?_ (by simpa using hB)
    · simp only at hj ⊢
      rcases Nat.lt_or_ge j i with h | h
      · rw [List.getElem?_set_ne (by omega)]; exact hdone j h
      · obtain rfl : j = i := by omega
        simp [hli]
    · simp only at hj ⊢
      rw [List.getElem?_set_ne (by omega)]
      exact hrest j (by omega)
    · simp [Qbo, tmL, w0]
    · simp [Qbd, hpL, Qxb, InsS.enc]
  · obtain rfl : i = es.length := by omega
    have hrows : rows = Qaw (Qg3 k es.length) := by
      refine List.ext_getElem? fun j => ?_
      rcases Nat.lt_or_ge j es.length with h | h
      · rw [hdone j h, Qb2 (Qra h)]
        rfl
      · rw [List.getElem?_eq_none (by omega), List.getElem?_eq_none (by rw [Qao, Qf9]; omega)]
    have F := wwA @Qao hlen
    repeat' first | refine wSq fun _ hK => ?_ | refine ww1 ?_ | (refine wK ?_; clear hK) | (simp only [wHb, reduceCtorEq] at hb <;> try (exfalso; omega)) | refine wCd (fun hb => ?_) fun hb => ?_ | refine ww3 ?_ | refine ww4 ?_ | refine wGd (fun hb => ?_) fun hb => ?_ | exact trivial
    exact Qh6 (by simp only [go_sem]) rfl (by simp only [go_sem]) rfl hrows
theorem Qpz (n : Nat) (k : Int) (h0 : 0 ≤ k) (h1 : k ≤ 1099511627776) (hl : n ≤ 1099511627776) :
    SatP Tryz.prog 84 [.fr 146 (Qaw (Qg3 k n)), .int .i64 k] (.int .i64 (k + 3 * n)) [] := by
  refine wEp Tryz.func84 [.tmp 4] 40 fun E hE => ?_
  have F := wwA @Qao @Qf9
  repeat' first | refine wSq fun _ hK => ?_ | refine ww1 ?_ | (refine wK ?_; clear hK) | (simp only [wHb, reduceCtorEq] at hb <;> try (exfalso; omega)) | refine wCd (fun hb => ?_) fun hb => ?_ | refine ww3 ?_ | refine ww4 ?_ | refine wGd (fun hb => ?_) fun hb => ?_ | exact trivial
  refine Qa4 (X := Nat) (fun i => [(0, .fr 146 (Qaw (Qg3 k n))), (1, .int .i64 (k + 3 * (i : Nat))), (5, .int .i64 i)]) (fun _ => []) (fun i => n - i)
    (fun i => i ≤ n) 0 0 (by simp) (by simp [Qbo]) (by simp) (by simp) ?_
  rintro i nx hi hB
  rcases Nat.lt_or_ge i n with hlt | hge
  · have hre := Qb2 (Qra (k := k) hlt)
    simp only [Qxb] at hre
    have a2 : k + 3 * (i : Nat) + 1 + 1 = k + 3 * (i : Nat) + 2 := by omega
    have a3 : k + 3 * (i : Nat) + 2 + 1 = k + 3 * ((i + 1 : Nat) : Int) := by omega
    have w1 := Qax (x := k + 3 * (i : Nat) + 1) (by omega)
    have w2 := Qax (x := k + 3 * (i : Nat) + 2) (by omega)
    have w3 := Qax (x := k + 3 * ((i + 1 : Nat) : Int)) (by omega)
    have w0 := Qax (x := (i : Int) + 1) (by omega)
    have F := wwA @Qao (wwA @Qf9 (wwA hre (wwA a2 (wwA a3 (wwA w0 (wwA w1 (wwA w2 (wwA w3 @bne_self_eq_false.{0}))))))))
    repeat' first | refine wSq fun _ hK => ?_ | refine ww1 ?_ | (refine wK ?_; clear hK) | (simp only [wHb, reduceCtorEq] at hb <;> try (exfalso; omega)) | refine wCd (fun hb => ?_) fun hb => ?_ | refine ww3 ?_ | refine ww4 ?_ | refine wGd (fun hb => ?_) fun hb => ?_ | exact trivial
    refine Qcj (i + 1) (by omega) (by omega) ?_ (by simp) (by simp)
    simp [Qbo, tmL, w0]
  · obtain rfl : i = n := by omega
    have F := wwA @Qao @Qf9
    repeat' first | refine wSq fun _ hK => ?_ | refine ww1 ?_ | (refine wK ?_; clear hK) | (simp only [wHb, reduceCtorEq] at hb <;> try (exfalso; omega)) | refine wCd (fun hb => ?_) fun hb => ?_ | refine ww3 ?_ | refine ww4 ?_ | refine wGd (fun hb => ?_) fun hb => ?_ | exact trivial
    refine wLf ?_
    rfl
theorem Qn7 (es : List InsS) : (Qaw es).all (·.all Qt1) = true := by
  simp [Qaw, InsS.enc, Qt1, List.all_eq_true]
def Qhn (xs : List InsS) : Bool := decide (xs.length ≤ 30) && xs.all (fun e => e.ok xs.length)
def zeroT : ThreadD := ⟨0, [], 0, 0, 0, 0, 0, [], 0, [], 0, 0, 0, 0⟩
def Xgp (id : Int) (xs : List InsS) : ThreadD × Bool := if inB id 0 3 = true ∧ Qhn xs = true then (⟨id, xs, 0, 0, 0, 0, 0, [], -1, [], -1, 0, 0, 0⟩, true) else (zeroT, false)
def outT (t : ThreadD) : VV := .agg [.int .i64 t.id, .rf 0 t.prog.length, .int .i64 t.pc, .int .i64 t.r0, .int .i64 t.r1, .int .i64 t.r2, .int .i64 t.r3, .rf 1 t.opens.length, .int .i64 t.check, .rf 2 t.stack.length, .int .i64 t.mine, .int .i64 t.state, .int .i64 t.commits, .int .i64 t.fails]
def encN (n : Int) : List PT := [.int .i64 n]
def Qgp (es : List Int) : List (List PT) := es.map encN
theorem Qca (es : List Int) : (Qgp es).length = es.length := by simp [Qgp]
theorem Qc1 (es : List Int) : Qbb (Qgp es) := by
  intro r hr c hc
  obtain ⟨e, _, rfl⟩ := List.mem_map.1 hr
  simp only [encN, List.mem_cons, List.not_mem_nil, or_false] at hc
  rcases hc with rfl <;> constructor
theorem Qwy (es : List Int) : (Qgp es).take es.length = Qgp es := by rw [List.take_of_length_le (by rw [Qca]; exact Nat.le_refl _)]
theorem Qle {es : List Int} {i : Nat} {e : Int} (h : es[i]? = some e) : (Qgp es)[i]? = some [.int .i64 e] := by simp [Qgp, h, encN]
def marksN (k : Int) (n : Nat) : List Int := (List.range n).map fun j => k + (j : Nat)
def Xc0 (xs : List Int) (a b : Int) : Bool := xs.all fun x => inB x a b
theorem Qpn (xs : List Int) (f : FuncId) (p : Int → Bool) (hl : xs.length ≤ 1048576) (hf : ∀ x, SatP Tryz.prog f [.int .i64 x] (.bool (p x)) []) : SatP Tryz.prog 181 [.fr 3 (Qgp xs), .clo f []] (.int .i64 (Qge p xs)) [] := by
  refine wEp Tryz.func181 [.tmp 4] 19 fun E hE => ?_
  have F := @Qca
  repeat' first | refine wSq fun _ hK => ?_ | refine ww1 ?_ | (refine wK ?_; clear hK) | (simp only [wHb, reduceCtorEq] at hb <;> try (exfalso; omega)) | refine wCd (fun hb => ?_) fun hb => ?_ | refine ww3 ?_ | refine ww4 ?_ | refine wGd (fun hb => ?_) fun hb => ?_ | exact trivial
  refine Qa4 (X := Nat) (fun i => [(0, .fr 3 (Qgp xs)), (1, .clo f []), (7, .int .i64 xs.length), (8, .int .i64 i)]) (fun _ => []) (fun i => xs.length - i)
    (fun i => i ≤ xs.length ∧ ∀ (j : Nat) (y : Int), j < i → xs[j]? = some y → p y = false) 0 0 ⟨by simp, by simp⟩ (by simp [Qbo]) (by simp) (by simp) ?_
  rintro i nx ⟨hi, hdone⟩ hB
  rcases Nat.lt_or_ge i xs.length with hlt | hge
  · obtain ⟨e, he⟩ : ∃ e, xs[i]? = some e := ⟨_, List.getElem?_eq_getElem hlt⟩
    have hre := Qle he
    have F := wwA @Qca hre
    repeat' first | refine wSq fun _ hK => ?_ | refine ww1 ?_ | (refine wK ?_; clear hK) | (simp only [wHb, reduceCtorEq] at hb <;> try (exfalso; omega)) | refine wCd (fun hb => ?_) fun hb => ?_ | refine wCa (c := by first | exact hf e) (k := ?_) | refine ww3 ?_ | refine ww4 ?_ | refine wGd (fun hb => ?_) fun hb => ?_ | exact trivial
    · refine wLf ?_
      have hp : p e = true := by assumption
      rw [Qgk he hp hdone]
    · have hp : p e = false := by assumption
      have hw := Qax (x := (i : Int) + 1) (by omega)
      refine Qcj (i + 1) ⟨by omega, fun j y hj hy => ?_⟩ (by omega) (by simp [Qbo, tmL, hw]) (by simp) (by simp)
      rcases Nat.lt_or_ge j i with h | h
      · exact hdone j y h hy
      · obtain rfl : j = i := by omega
        rw [he] at hy; cases hy; exact hp
  · obtain rfl : i = xs.length := by omega
    have F := @Qca
    repeat' first | refine wSq fun _ hK => ?_ | refine ww1 ?_ | (refine wK ?_; clear hK) | (simp only [wHb, reduceCtorEq] at hb <;> try (exfalso; omega)) | refine wCd (fun hb => ?_) fun hb => ?_ | refine ww3 ?_ | refine ww4 ?_ | refine wGd (fun hb => ?_) fun hb => ?_ | exact trivial
    refine wLf ?_
    rw [Qfo fun j y hy => hdone j y (List.getElem?_eq_some_iff.1 hy).1 hy]
theorem Qq2 (xs : List Int) (f : FuncId) (p : Int → Bool) (hl : xs.length ≤ 1048576) (hf : ∀ x, SatP Tryz.prog f [.int .i64 x] (.bool (p x)) []) : SatP Tryz.prog 148 [.fr 3 (Qgp xs), .clo f []] (.bool (xs.any p)) [] := by
  refine wEp Tryz.func148 [.tmp 4] 9 fun E hE => ?_
  have F := (Eq.refl 0)
  repeat' first | refine wSq fun _ hK => ?_ | refine ww1 ?_ | (refine wK ?_; clear hK) | (simp only [wHb, reduceCtorEq] at hb <;> try (exfalso; omega)) | refine wCd (fun hb => ?_) fun hb => ?_ | refine wCa (c := by first | exact Qpn xs f p hl hf) (k := ?_) | refine ww3 ?_ | refine ww4 ?_ | refine wGd (fun hb => ?_) fun hb => ?_ | exact trivial
  refine wLf ?_
  rw [← Qj6]
theorem Qr7 (n : Int) : SatP Tryz.prog 149 [.int .i64 n] (.bool (!inB n (-1000000000) 1000000000)) [] := by
  refine wEp Tryz.func149 [.tmp 2] 6 fun E hE => ?_
  have F := (Eq.refl 0)
  repeat' first | refine wSq fun _ hK => ?_ | refine ww1 ?_ | (refine wK ?_; clear hK) | (simp only [wHb, reduceCtorEq] at hb <;> try (exfalso; omega)) | refine wCd (fun hb => ?_) fun hb => ?_ | refine wCa (c := by first | exact Qdu _) (k := ?_) | refine ww3 ?_ | refine ww4 ?_ | refine wGd (fun hb => ?_) fun hb => ?_ | exact trivial
  refine wLf ?_
  rfl
theorem Qrx (xs : List Int) (hl : xs.length ≤ 1048576) : SatP Tryz.prog 105 [.fr 3 (Qgp xs)] (.bool (Xc0 xs (-1000000000) 1000000000)) [] := by
  refine wEp Tryz.func105 [.tmp 2] 6 fun E hE => ?_
  have F := (Eq.refl 0)
  repeat' first | refine wSq fun _ hK => ?_ | refine ww1 ?_ | (refine wK ?_; clear hK) | (simp only [wHb, reduceCtorEq] at hb <;> try (exfalso; omega)) | refine wCd (fun hb => ?_) fun hb => ?_ | refine wCa (c := by first | exact Qq2 xs 149 _ hl Qr7) (k := ?_) | refine ww3 ?_ | refine ww4 ?_ | refine wGd (fun hb => ?_) fun hb => ?_ | exact trivial
  refine wLf ?_
  congr 1
  unfold Xc0
  rw [Bool.eq_iff_iff]
  simp
end Go.Proofs.YtmiojnibngncaaaGreat
