/- What the claim rests on, part 10: the value-level engine and contracts of functions; no condition. -/
import Derived.Test.YtmiojnibngncaaaGreatZQh
import Derived.Test.YtmiojnibngncaaaGreatZQg
import Derived.Test.YtmiojnibngncaaaGreatZQi
import Derived.Test.YtmiojnibngncaaaGreatZQf
import Derived.Test.YtmiojnibngncaaaGreatZQc
namespace Go.Proofs.YtmiojnibngncaaaGreat
open Go Go.RowKit
set_option linter.unusedVariables false
set_option linter.unusedSimpArgs false
set_option maxRecDepth 100000
set_option maxHeartbeats 4000000
attribute [local irreducible] VWP Qb5 Qbn Qbs Qbu Qbj Qbt Qa3 Qbq Qcq Qc6 Qbk Qdb Qc4 Qbr Qbm Qa8
def rowTh (ti te tf : TypeId) (t : ThreadD) : List PT := [.int .i64 t.id, .list ti (Qaw t.prog), .int .i64 t.pc, .int .i64 t.r0, .int .i64 t.r1, .int .i64 t.r2, .int .i64 t.r3, .list te (Qav t.opens), .int .i64 t.check, .list tf (Qaq t.stack), .int .i64 t.mine, .int .i64 t.state, .int .i64 t.commits, .int .i64 t.fails]
def rowsTh (ti te tf : TypeId) (ts : List ThreadD) : List (List PT) := ts.map (rowTh ti te tf)
def thN : List ThreadD → Nat
  | [] => 0
  | t :: ts => t.prog.length + t.opens.length + t.stack.length + thN ts
def ThreadD.fits (t : ThreadD) : Prop := t.prog.length ≤ 9223372036854775807 ∧ t.opens.length ≤ 9223372036854775807 ∧ t.stack.length ≤ 9223372036854775807
def ThreadD.small (t : ThreadD) : Prop := t.prog.length ≤ 1048576 ∧ t.opens.length ≤ 1048576 ∧ t.stack.length ≤ 1048576
def szTs (ts : List ThreadD) (left : Int) : Int := if (ts.length : Int) + thN ts ≤ left then left - ts.length - thN ts else -1
def Qns (x : Int) : Bool := inB x (-1000000000) 1000000000
def Xbp (t : ThreadD) : Bool := Xc0 [t.r0, t.r1, t.r2, t.r3] (-1000000000) 1000000000
def Qmm (s : StoreD) (t : ThreadD) : Bool := t.mine == -1 || (t.check == -1 && inB t.mine 0 ((s.descs.length : Int) - 1) &&
  (match s.descs[t.mine.toNat]? with | some d => d.owner == t.id | none => false) && decide (0 < t.stack.length) && decide (t.pc < t.prog.length) &&
  (match t.prog[t.pc.toNat]? with | some x => x.op == 6 | none => false))
def Xfz (t : ThreadD) : Bool := t.check == -1 || inB t.check 0 ((t.opens.length : Int) - 2)
def Qvz (s : StoreD) (t : ThreadD) : Bool := t.opens.all (fun e => decide (e.object < s.heads.length))
noncomputable def Qg0 (s : StoreD) (t : ThreadD) : Bool := Qe3 s t.stack && inB t.id 0 3 && Qhn t.prog && inB t.pc 0 t.prog.length && Xbp t && bP (Qeb t.opens) && (Xfz t && inB t.state 0 3 && inB t.commits 0 1000000 && inB t.fails 0 1000000)
noncomputable def Qby (s : StoreD) (t : ThreadD) : Bool := Qg0 s t && Qvz s t && Qmm s t
theorem Qga {s : StoreD} {t : ThreadD} (h : Qg0 s t = false) : Qby s t = false := by simp [Qby, h]
theorem Qox {s : StoreD} {t : ThreadD} {e : EntS} {i : Nat} (he : t.opens[i]? = some e) (h : ¬ e.object < s.heads.length) : Qby s t = false := by
  have : Qvz s t = false := List.all_eq_false.2 ⟨e, List.mem_of_getElem? he, by simpa using h⟩
  simp [Qby, this]
theorem Qn1 {s : StoreD} {t : ThreadD} (h1 : Qg0 s t = true) (h2 : ∀ (j : Nat) (e : EntS), j < t.opens.length → t.opens[j]? = some e → e.object < s.heads.length) : Qby s t = Qmm s t := by
  have : Qvz s t = true := List.all_eq_true.2 fun e he => by
    obtain ⟨j, hj⟩ := List.getElem?_of_mem he
    simpa using h2 j e (List.getElem?_eq_some_iff.1 hj).1 hj
  simp [Qby, h1, this]
theorem Qsh {s : StoreD} {t : ThreadD} (h : t.mine = -1) : Qmm s t = true := by simp [Qmm, h]
theorem Qrf {s : StoreD} {t : ThreadD} (h0 : t.mine ≠ -1) (h : ¬ (0 ≤ t.mine ∧ t.mine < s.descs.length)) : inB t.mine 0 ((s.descs.length : Int) - 1) = false ∧ Qmm s t = false := by
  have : inB t.mine 0 ((s.descs.length : Int) - 1) = false := by
    simp [inB]
    omega
  exact ⟨this, by simp [Qmm, h0, this]⟩
theorem Qwj {s : StoreD} {t : ThreadD} {k : Nat} {d : DescS} (hk : t.mine = k) (hd : s.descs[k]? = some d) : inB k 0 ((s.descs.length : Int) - 1) = true ∧
    Qmm s t = (t.check == -1 && (d.owner == t.id) && decide (0 < t.stack.length) && decide (t.pc < t.prog.length) && (match t.prog[t.pc.toNat]? with | some x => x.op == 6 | none => false)) := by
  have hlt := (List.getElem?_eq_some_iff.1 hd).1
  have h1 : inB k 0 ((s.descs.length : Int) - 1) = true := by simp [inB]; omega
  refine ⟨h1, ?_⟩
  unfold Qmm
  rw [hk, h1, Int.toNat_natCast, hd]
  have : ((k : Int) == -1) = false := by rw [beq_eq_false_iff_ne]; omega
  rw [this]
  simp
theorem Qch (s : StoreD) (t : ThreadD) (hs : s.small) (ht : t.small) :
    SatP Tryz.prog 68 [.agg (s.cells 151 89 91), .agg (t.cells 146 91 160)] (.bool (Qby s t)) [] := by
  have hstk := Qnl s t.stack hs ht.2.2
  have hprog := Qpt t.prog ht.1
  change SatP Tryz.prog _ _ (.bool (Qhn t.prog)) [] at hprog
  have hopen := Qfe t.opens ht.2.1
  have hreg : SatP Tryz.prog 105 [.fr 3 [[.int .i64 t.r0], [.int .i64 t.r1], [.int .i64 t.r2], [.int .i64 t.r3]]] (.bool (Xbp t)) [] := Qrx [t.r0, t.r1, t.r2, t.r3] (by simp)
  obtain ⟨f1, f2, f3⟩ := hs
  obtain ⟨g1, g2, g3⟩ := ht
  have hws := Qax (x := (s.descs.length : Int) - 1) (by omega)
  have hwo := Qax (x := (t.opens.length : Int) - 2) (by omega)
  refine wEp Tryz.func68 [.tmp 4] 143 fun E hE => ?_
  unfold StoreD.cells at hstk ⊢
  unfold ThreadD.cells
  have hno : (Qe3 s t.stack = false ∨ inB t.id 0 3 = false ∨ Qhn t.prog = false ∨ inB t.pc 0 t.prog.length = false ∨ Xbp t = false ∨ bP (Qeb t.opens) = false ∨ (t.check ≠ -1 ∧ inB t.check 0 ((t.opens.length : Int) - 2) = false) ∨ inB t.state 0 3 = false ∨ inB t.commits 0 1000000 = false ∨ inB t.fails 0 1000000 = false) → Qby s t = false := fun h => Qga (by
    unfold Qg0 Xfz
    rcases h with h | h | h | h | h | h | h | h | h | h
    all_goals simp [h])
  have F := wwA @Qao (wwA @Qaa (wwA @Qag (wwA @Qad (wwA @Qab (wwA hws hwo)))))
  repeat' first | refine wSq fun _ hK => ?_ | refine ww1 ?_ | (refine wK ?_; clear hK) | (simp only [wHb, reduceCtorEq] at hb <;> try (exfalso; omega)) | refine wCd (fun hb => ?_) fun hb => ?_ | refine wCa (c := by first | exact hstk | exact Qiu _ | exact hprog | exact Qhr _ _ _ | exact hreg | exact hopen) (k := ?_) | refine ww3 ?_ | refine ww4 ?_ | refine wGd (fun hb => ?_) fun hb => ?_ | exact trivial
  all_goals first
    | (refine wLf ?_
       rw [hno (by simp_all)]
       done)
    | skip
  all_goals
    have h1 : Qg0 s t = true := by
      unfold Qg0 Xfz
      simp_all
    have hpc : 0 ≤ t.pc := by
      have : inB t.pc 0 t.prog.length = true := by simp_all [Qg0]
      simp [inB] at this
      omega
  all_goals
    refine Qa4 (X := Nat) (fun i => [(2, .bp 0 0), (3, .bp 1 0), (79, .fr 91 (Qav t.opens)), (80, .int .i64 t.opens.length), (81, .int .i64 i)]) (fun i => [(0, .box [.fr 151 (Qat s.heads), .fr 89 (Qar 91 s.descs)]), (1, .box [.int .i64 t.id, .fr 146 (Qaw t.prog), .int .i64 t.pc, .int .i64 t.r0, .int .i64 t.r1, .int .i64 t.r2, .int .i64 t.r3, .fr 91 (Qav t.opens), .int .i64 t.check, .fr 160 (Qaq t.stack), .int .i64 t.mine, .int .i64 t.state, .int .i64 t.commits, .int .i64 t.fails])]) (fun i => t.opens.length - i)
      (fun i => i ≤ t.opens.length ∧ ∀ (j : Nat) (e : EntS), j < i → t.opens[j]? = some e → e.object < s.heads.length) 2 0 ⟨by simp, by simp⟩ (by simp [Qbo]) (by simp [Qbd]) (by simp) ?_
  all_goals
    rintro i nx ⟨hi, hdone⟩ hB
    have n0 : nx ≠ 0 := by omega
    have n1 : nx ≠ 1 := by omega
    have m0 : (0 : Nat) ≠ nx := by omega
    have m1 : (1 : Nat) ≠ nx := by omega
    rcases Nat.lt_or_ge i t.opens.length with hlt | hge
    · obtain ⟨e, he⟩ : ∃ e, t.opens[i]? = some e := ⟨_, List.getElem?_eq_getElem hlt⟩
      have hre := Qbe he
      have F := wwA @Qaa (wwA @Qad (wwA hre (wwA n0 (wwA n1 (wwA m0 m1)))))
      repeat' first | refine wSq fun _ hK => ?_ | refine ww1 ?_ | (refine wK ?_; clear hK) | (simp only [wHb, reduceCtorEq] at hb <;> try (exfalso; omega)) | refine wCd (fun hb => ?_) fun hb => ?_ | refine ww3 ?_ | refine ww4 ?_ | refine wGd (fun hb => ?_) fun hb => ?_ | exact trivial
      · refine wLf ?_
        rw [Qox he (by omega)]
      · have hw := Qax (x := (i : Int) + 1) (by omega)
        refine Qcj (i + 1) ⟨by omega, fun j y hj hy => ?_⟩ (by omega) (by simp [Qbo, tmL, hw]) (by simp [Qbd, hpL, m0, m1]) (by omega)
        rcases Nat.lt_or_ge j i with h | h
        · exact hdone j y h hy
        · obtain rfl : j = i := by omega
          rw [he] at hy; cases hy
          omega
    · obtain rfl : i = t.opens.length := by omega
      have hfin := Qn1 h1 hdone
      clear hstk hprog hopen hreg hno h1
      by_cases hm : t.mine = -1
      · rw [Qsh hm] at hfin
        have F := wwA @Qaa hm
        repeat' first | refine wSq fun _ hK => ?_ | refine ww1 ?_ | (refine wK ?_; clear hK) | (simp only [wHb, reduceCtorEq] at hb <;> try (exfalso; omega)) | refine wCd (fun hb => ?_) fun hb => ?_ | refine ww3 ?_ | refine ww4 ?_ | refine wGd (fun hb => ?_) fun hb => ?_ | exact trivial
        refine wLf ?_
        rw [hfin]
      · by_cases hin : 0 ≤ t.mine ∧ t.mine < s.descs.length
        · obtain ⟨k, hk⟩ : ∃ k : Nat, t.mine = k := ⟨t.mine.toNat, by omega⟩
          have hkl : k < s.descs.length := by omega
          have hk0 : (0 : Int) ≤ (k : Nat) := by omega
          have hk1 : ¬ ((k : Nat) : Int) = -1 := by omega
          obtain ⟨d, hd⟩ : ∃ d, s.descs[k]? = some d := ⟨_, List.getElem?_eq_getElem hkl⟩
          have hrd := Qbl (te := 91) hd
          obtain ⟨hi1, hmb⟩ := Qwj hk hd
          rw [hmb] at hfin
          obtain ⟨p, hp⟩ : ∃ p : Nat, t.pc = p := ⟨t.pc.toNat, by omega⟩
          have hp0 : (0 : Int) ≤ (p : Nat) := by omega
          rcases Nat.lt_or_ge p t.prog.length with hpl | hpg
          · obtain ⟨x, hx⟩ : ∃ x, t.prog[p]? = some x := ⟨_, List.getElem?_eq_getElem hpl⟩
            have hrx := Qb2 hx
            rw [hp, Int.toNat_natCast, hx] at hfin
            have F := wwA @Qaa (wwA @Qab (wwA @Qao (wwA @Qag (wwA hws (wwA hk (wwA hk0 (wwA hk1 (wwA hkl (wwA hi1 (wwA hrd (wwA hp (wwA hp0 (wwA hpl hrx)))))))))))))
            repeat' first | refine wSq fun _ hK => ?_ | refine ww1 ?_ | (refine wK ?_; clear hK) | (simp only [wHb, reduceCtorEq] at hb <;> try (exfalso; omega)) | refine wCd (fun hb => ?_) fun hb => ?_ | refine wCa (c := by first | exact Qhr _ _ _) (k := ?_) | refine ww3 ?_ | refine ww4 ?_ | refine wGd (fun hb => ?_) fun hb => ?_ | exact trivial
            all_goals refine wLf ?_
            all_goals rw [hfin]
            all_goals simp_all
          · have hpn : ¬ ((p : Nat) : Int) < t.prog.length := by omega
            have hz : decide (((p : Nat) : Int) < t.prog.length) = false := by simpa using hpn
            rw [hp, hz, Bool.and_false, Bool.false_and] at hfin
            have F := wwA @Qaa (wwA @Qab (wwA @Qao (wwA @Qag (wwA hws (wwA hk (wwA hk0 (wwA hk1 (wwA hkl (wwA hi1 (wwA hrd (wwA hp (wwA hp0 hpn))))))))))))
            repeat' first | refine wSq fun _ hK => ?_ | refine ww1 ?_ | (refine wK ?_; clear hK) | (simp only [wHb, reduceCtorEq] at hb <;> try (exfalso; omega)) | refine wCd (fun hb => ?_) fun hb => ?_ | refine wCa (c := by first | exact Qhr _ _ _) (k := ?_) | refine ww3 ?_ | refine ww4 ?_ | refine wGd (fun hb => ?_) fun hb => ?_ | exact trivial
            all_goals refine wLf ?_
            all_goals rw [hfin]
            all_goals simp_all
        · obtain ⟨hi1, hmb⟩ := Qrf hm hin
          rw [hmb] at hfin
          have F := wwA @Qaa (wwA @Qab (wwA hws hi1))
          repeat' first | refine wSq fun _ hK => ?_ | refine ww1 ?_ | (refine wK ?_; clear hK) | (simp only [wHb, reduceCtorEq] at hb <;> try (exfalso; omega)) | refine wCd (fun hb => ?_) fun hb => ?_ | refine wCa (c := by first | exact Qhr _ _ _) (k := ?_) | refine ww3 ?_ | refine ww4 ?_ | refine wGd (fun hb => ?_) fun hb => ?_ | exact trivial
          all_goals refine wLf ?_
          all_goals rw [hfin]
          all_goals simp_all
structure KeyP (p : Prop) : Prop where
  out : p
theorem Xgl {p q : Prop} (h : KeyP p → q) (hp : p) : q := h ⟨hp⟩
noncomputable def Qrc (s : StoreD) (t : ThreadD) : Bool := Qe3 s t.stack && inB t.id 0 3 && Qhn t.prog && inB t.pc 0 t.prog.length && bP (Qeb t.opens) && (Xfz t && inB t.state 0 3 && inB t.commits 0 1000000 && inB t.fails 0 1000000)
theorem Xcp {s : StoreD} {t : ThreadD} (h : Qrc s t = true) : Qg0 s t = Xbp t := by
  unfold Qrc at h
  unfold Qg0
  simp only [Bool.and_eq_true] at h ⊢
  obtain ⟨⟨⟨⟨⟨h1, h2⟩, h3⟩, h4⟩, h5⟩, ⟨⟨h6, h7⟩, h8⟩, h9⟩ := h
  simp [h1, h2, h3, h4, h5, h6, h7, h8, h9]
theorem Qcg (s : StoreD) (t : ThreadD) (hs : s.small) (ht : t.small) :
    SatP Tryz.prog 58 [.agg (s.cells 151 89 91), .agg (t.cells 146 91 160)] (.bool (Qby s t)) [] := by
  have hstk := Qni s t.stack hs ht.2.2
  have hprog := Qqs t.prog ht.1
  change SatP Tryz.prog _ _ (.bool (Qhn t.prog)) [] at hprog
  have hopen := Qfn t.opens ht.2.1
  obtain ⟨f1, f2, f3⟩ := hs
  obtain ⟨g1, g2, g3⟩ := ht
  have hws := Qax (x := (s.descs.length : Int) - 1) (by omega)
  have hwo := Qax (x := (t.opens.length : Int) - 2) (by omega)
  refine wEp Tryz.func58 [.tmp 4] 152 fun E hE => ?_
  unfold StoreD.cells at hstk ⊢
  unfold ThreadD.cells
  have hno : (Qe3 s t.stack = false ∨ inB t.id 0 3 = false ∨ Qhn t.prog = false ∨ inB t.pc 0 t.prog.length = false ∨ bP (Qeb t.opens) = false ∨ (t.check ≠ -1 ∧ inB t.check 0 ((t.opens.length : Int) - 2) = false) ∨ inB t.state 0 3 = false ∨ inB t.commits 0 1000000 = false ∨ inB t.fails 0 1000000 = false) → Qby s t = false := fun h => Qga (by
    unfold Qg0 Xfz
    rcases h with h | h | h | h | h | h | h | h | h
    all_goals simp [h])
  apply Xgl
  case h =>
    intro key
    have F := wwA @List.append_eq.{0} (wwA @Qao (wwA @Qaa (wwA @Qag (wwA @Qad (wwA @Qab (wwA hws hwo))))))
    repeat' first | refine wSq fun _ hK => ?_ | refine ww1 ?_ | (refine wK ?_; clear hK) | (simp only [wHb, reduceCtorEq] at hb <;> try (exfalso; omega)) | refine wCd (fun hb => ?_) fun hb => ?_ | refine wCa (c := by first | exact hstk | exact Qc9 _ _ _ | exact hprog | exact hopen) (k := ?_) | refine ww3 ?_ | refine ww4 ?_ | refine wGd (fun hb => ?_) fun hb => ?_ | exact trivial
    all_goals first
      | (refine wLf ?_
         rw [hno (by simp_all)]
         done)
      | skip
    all_goals
      have h0 : Qrc s t = true := by
        unfold Qrc Xfz
        simp_all
    all_goals
      refine Qa4 (X := Nat) (fun i => [(2, .bp 0 0), (3, .bp 1 0), (5, .int .i64 i)]) (fun i => [(0, .box [.fr 151 (Qat s.heads), .fr 89 (Qar 91 s.descs)]), (1, .box [.int .i64 t.id, .fr 146 (Qaw t.prog), .int .i64 t.pc, .int .i64 t.r0, .int .i64 t.r1, .int .i64 t.r2, .int .i64 t.r3, .fr 91 (Qav t.opens), .int .i64 t.check, .fr 160 (Qaq t.stack), .int .i64 t.mine, .int .i64 t.state, .int .i64 t.commits, .int .i64 t.fails])]) (fun i => 4 - i)
        (fun i => i ≤ 4 ∧ (0 < i → Qns t.r0 = true) ∧ (1 < i → Qns t.r1 = true) ∧ (2 < i → Qns t.r2 = true) ∧ (3 < i → Qns t.r3 = true)) 2 0 ⟨by simp, by simp, by simp, by simp, by simp⟩ (by simp [Qbo]) (by simp [Qbd]) (by simp) ?_
    all_goals
      rename_i K K2
      revert h0 hK
      clear K2
      revert K
      exact key.out
  intro K hK h0
  clear hstk hprog hopen hno
  have hpc : 0 ≤ t.pc := by
    have : inB t.pc 0 t.prog.length = true := by simp only [Qrc, Bool.and_eq_true] at h0; exact h0.1.1.2
    simp [inB] at this
    omega
  have hrg := Xcp h0
  rintro i nx ⟨hi, v0, v1, v2, v3⟩ hB
  have h5 : i = 0 ∨ i = 1 ∨ i = 2 ∨ i = 3 ∨ i = 4 := by omega
  have e0 : ((0 : Nat) : Int) = 0 := rfl
  have e1 : ((1 : Nat) : Int) = 1 := rfl
  have e2 : ((2 : Nat) : Int) = 2 := rfl
  have e3 : ((3 : Nat) : Int) = 3 := rfl
  have e4 : ((4 : Nat) : Int) = 4 := rfl
  rcases h5 with rfl | rfl | rfl | rfl | rfl
  · skip
    have F := wwA e0 (wwA e1 (wwA e2 (wwA e3 (wwA e4 (wwA @Nat.lt_irrefl (wwA @Int.zero_add @Nat.zero_add))))))
    repeat' first | refine wSq fun _ hK => ?_ | refine ww1 ?_ | (refine wK ?_; clear hK) | (simp only [wHb, reduceCtorEq] at hb <;> try (exfalso; omega)) | refine Qcf (fun hb => ?_) fun hb => ?_ | refine Qgs (c := by first | exact Qcu _) (k := ?_) | refine Qce ?_ | refine ww4 ?_ | refine Qcc (fun hb => ?_) fun hb => ?_ | exact trivial
    · refine wLf ?_
      rw [Qga (by rw [hrg]; simp_all [Xbp, Xc0])]
    · exact Qcj 1 ⟨by omega, by simp_all [Qns], by simp_all [Qns], by simp_all [Qns], by simp_all [Qns]⟩ (by omega) (by simp [Qbo, tmL]; try decide) (by simp [Qbd, hpL]; try omega) (by omega)
  · skip
    have F := wwA e0 (wwA e1 (wwA e2 (wwA e3 (wwA e4 (wwA @Nat.lt_irrefl (wwA @Int.zero_add @Nat.zero_add))))))
    repeat' first | refine wSq fun _ hK => ?_ | refine ww1 ?_ | (refine wK ?_; clear hK) | (simp only [wHb, reduceCtorEq] at hb <;> try (exfalso; omega)) | refine Qcf (fun hb => ?_) fun hb => ?_ | refine Qgs (c := by first | exact Qcu _) (k := ?_) | refine Qce ?_ | refine ww4 ?_ | refine Qcc (fun hb => ?_) fun hb => ?_ | exact trivial
    · refine wLf ?_
      rw [Qga (by rw [hrg]; simp_all [Xbp, Xc0])]
    · exact Qcj 2 ⟨by omega, by simp_all [Qns], by simp_all [Qns], by simp_all [Qns], by simp_all [Qns]⟩ (by omega) (by simp [Qbo, tmL]; try decide) (by simp [Qbd, hpL]; try omega) (by omega)
  · skip
    have F := wwA e0 (wwA e1 (wwA e2 (wwA e3 (wwA e4 (wwA @Nat.lt_irrefl (wwA @Int.zero_add @Nat.zero_add))))))
    repeat' first | refine wSq fun _ hK => ?_ | refine ww1 ?_ | (refine wK ?_; clear hK) | (simp only [wHb, reduceCtorEq] at hb <;> try (exfalso; omega)) | refine Qcf (fun hb => ?_) fun hb => ?_ | refine Qgs (c := by first | exact Qcu _) (k := ?_) | refine Qce ?_ | refine ww4 ?_ | refine Qcc (fun hb => ?_) fun hb => ?_ | exact trivial
    · refine wLf ?_
      rw [Qga (by rw [hrg]; simp_all [Xbp, Xc0])]
    · exact Qcj 3 ⟨by omega, by simp_all [Qns], by simp_all [Qns], by simp_all [Qns], by simp_all [Qns]⟩ (by omega) (by simp [Qbo, tmL]; try decide) (by simp [Qbd, hpL]; try omega) (by omega)
  · skip
    have F := wwA e0 (wwA e1 (wwA e2 (wwA e3 (wwA e4 (wwA @Nat.lt_irrefl (wwA @Int.zero_add @Nat.zero_add))))))
    repeat' first | refine wSq fun _ hK => ?_ | refine ww1 ?_ | (refine wK ?_; clear hK) | (simp only [wHb, reduceCtorEq] at hb <;> try (exfalso; omega)) | refine Qcf (fun hb => ?_) fun hb => ?_ | refine Qgs (c := by first | exact Qcu _) (k := ?_) | refine Qce ?_ | refine ww4 ?_ | refine Qcc (fun hb => ?_) fun hb => ?_ | exact trivial
    · refine wLf ?_
      rw [Qga (by rw [hrg]; simp_all [Xbp, Xc0])]
    · exact Qcj 4 ⟨by omega, by simp_all [Qns], by simp_all [Qns], by simp_all [Qns], by simp_all [Qns]⟩ (by omega) (by simp [Qbo, tmL]; try decide) (by simp [Qbd, hpL]; try omega) (by omega)
  · have hreg : Xbp t = true := by
      have q0 := v0 (by omega)
      have q1 := v1 (by omega)
      have q2 := v2 (by omega)
      have q3 := v3 (by omega)
      unfold Qns at q0 q1 q2 q3
      simp [Xbp, Xc0, q0, q1, q2, q3]
    have h1 : Qg0 s t = true := by rw [hrg, hreg]
    clear v0 v1 v2 v3 hrg hreg h0
    have F := wwA e0 (wwA e1 (wwA e2 (wwA e3 (wwA e4 (wwA @Nat.lt_irrefl (wwA @Int.zero_add @Nat.zero_add))))))
    repeat' first | refine wSq fun _ hK => ?_ | refine ww1 ?_ | (refine wK ?_; clear hK) | (simp only [wHb, reduceCtorEq] at hb <;> try (exfalso; omega)) | refine Qcf (fun hb => ?_) fun hb => ?_ | refine Qce ?_ | refine ww4 ?_ | refine Qcc (fun hb => ?_) fun hb => ?_ | exact trivial
    refine Qa4 (X := Nat) (fun i => [(2, .bp 0 0), (3, .bp 1 0), (6, .int .i64 i)]) (fun i => [(0, .box [.fr 151 (Qat s.heads), .fr 89 (Qar 91 s.descs)]), (1, .box [.int .i64 t.id, .fr 146 (Qaw t.prog), .int .i64 t.pc, .int .i64 t.r0, .int .i64 t.r1, .int .i64 t.r2, .int .i64 t.r3, .fr 91 (Qav t.opens), .int .i64 t.check, .fr 160 (Qaq t.stack), .int .i64 t.mine, .int .i64 t.state, .int .i64 t.commits, .int .i64 t.fails])]) (fun i => t.opens.length - i)
      (fun i => i ≤ t.opens.length ∧ ∀ (j : Nat) (e : EntS), j < i → t.opens[j]? = some e → e.object < s.heads.length) 2 0 ⟨by simp, by simp⟩ (by simp [Qbo, tmL]) (by simp [Qbd, hpL]) (by omega) ?_
    clear e0 e1 e2 e3 e4 hB hi
    rintro i nx ⟨hi, hdone⟩ hB
    rcases Nat.lt_or_ge i t.opens.length with hlt | hge
    · obtain ⟨e, he⟩ : ∃ e, t.opens[i]? = some e := ⟨_, List.getElem?_eq_getElem hlt⟩
      have hre := Qbe he
      have F := wwA @Qaa (wwA @Qad hre)
      repeat' first | refine wSq fun _ hK => ?_ | refine ww1 ?_ | (refine wK ?_; clear hK) | (simp only [wHb, reduceCtorEq] at hb <;> try (exfalso; omega)) | refine wCd (fun hb => ?_) fun hb => ?_ | refine ww3 ?_ | refine ww4 ?_ | refine wGd (fun hb => ?_) fun hb => ?_ | exact trivial
      · refine wLf ?_
        rw [Qox he (by omega)]
      · have hw := Qax (x := (i : Int) + 1) (by omega)
        refine Qcj (i + 1) ⟨by omega, fun j y hj hy => ?_⟩ (by omega) (by simp [Qbo, tmL, hw]) (by simp [Qbd, hpL]; try omega) (by omega)
        rcases Nat.lt_or_ge j i with h | h
        · exact hdone j y h hy
        · obtain rfl : j = i := by omega
          rw [he] at hy; cases hy
          omega
    · obtain rfl : i = t.opens.length := by omega
      have hfin := Qn1 h1 hdone
      clear h1 hdone hi hge hB
      by_cases hm : t.mine = -1
      · rw [Qsh hm] at hfin
        have F := wwA @Qaa hm
        repeat' first | refine wSq fun _ hK => ?_ | refine ww1 ?_ | (refine wK ?_; clear hK) | (simp only [wHb, reduceCtorEq] at hb <;> try (exfalso; omega)) | refine wCd (fun hb => ?_) fun hb => ?_ | refine ww3 ?_ | refine ww4 ?_ | refine wGd (fun hb => ?_) fun hb => ?_ | exact trivial
        refine wLf ?_
        rw [hfin]
      by_cases c1 : t.check = -1
      · by_cases hin : 0 ≤ t.mine ∧ t.mine < s.descs.length
        · obtain ⟨k, hk⟩ : ∃ k : Nat, t.mine = k := ⟨t.mine.toNat, by omega⟩
          have hkl : k < s.descs.length := by omega
          have hk0 : (0 : Int) ≤ (k : Nat) := by omega
          have hk1 : ¬ ((k : Nat) : Int) = -1 := by omega
          obtain ⟨d, hd⟩ : ∃ d, s.descs[k]? = some d := ⟨_, List.getElem?_eq_getElem hkl⟩
          have hrd := Qbl (te := 91) hd
          obtain ⟨hi1, hmb⟩ := Qwj hk hd
          obtain ⟨p, hp⟩ : ∃ p : Nat, t.pc = p := ⟨t.pc.toNat, by omega⟩
          have hp0 : (0 : Int) ≤ (p : Nat) := by omega
          rw [hmb, hp, Int.toNat_natCast] at hfin
          by_cases c2 : d.owner = t.id
          · by_cases c3 : (0 : Int) < t.stack.length
            · rcases Nat.lt_or_ge p t.prog.length with hpl | hpg
              · obtain ⟨x, hx⟩ : ∃ x, t.prog[p]? = some x := ⟨_, List.getElem?_eq_getElem hpl⟩
                have hrx := Qb2 hx
                have F := wwA @Qaa (wwA @Qab (wwA @Qao (wwA @Qag (wwA hws (wwA hk (wwA hk0 (wwA hk1 (wwA hkl (wwA hi1 (wwA hrd (wwA hp (wwA hp0 (wwA hpl (wwA hrx (wwA c1 (wwA c2 c3))))))))))))))))
                repeat' first | refine wSq fun _ hK => ?_ | refine ww1 ?_ | (refine wK ?_; clear hK) | (simp only [wHb, reduceCtorEq] at hb <;> try (exfalso; omega)) | refine wCd (fun hb => ?_) fun hb => ?_ | refine wCa (c := by first | exact Qc9 _ _ _) (k := ?_) | refine ww3 ?_ | refine ww4 ?_ | refine wGd (fun hb => ?_) fun hb => ?_ | exact trivial
                all_goals refine wLf ?_
                all_goals rw [hfin]
                all_goals simp_all
              · have hpn : ¬ ((p : Nat) : Int) < t.prog.length := by omega
                have F := wwA @Qaa (wwA @Qab (wwA @Qao (wwA @Qag (wwA hws (wwA hk (wwA hk0 (wwA hk1 (wwA hkl (wwA hi1 (wwA hrd (wwA hp (wwA hp0 (wwA hpn (wwA c1 (wwA c2 c3)))))))))))))))
                repeat' first | refine wSq fun _ hK => ?_ | refine ww1 ?_ | (refine wK ?_; clear hK) | (simp only [wHb, reduceCtorEq] at hb <;> try (exfalso; omega)) | refine wCd (fun hb => ?_) fun hb => ?_ | refine wCa (c := by first | exact Qc9 _ _ _) (k := ?_) | refine ww3 ?_ | refine ww4 ?_ | refine wGd (fun hb => ?_) fun hb => ?_ | exact trivial
                all_goals refine wLf ?_
                all_goals rw [hfin]
                all_goals simp_all
            · skip
              have F := wwA @Qaa (wwA @Qab (wwA @Qao (wwA @Qag (wwA hws (wwA hk (wwA hk0 (wwA hk1 (wwA hkl (wwA hi1 (wwA hrd (wwA c1 (wwA c2 c3))))))))))))
              repeat' first | refine wSq fun _ hK => ?_ | refine ww1 ?_ | (refine wK ?_; clear hK) | (simp only [wHb, reduceCtorEq] at hb <;> try (exfalso; omega)) | refine wCd (fun hb => ?_) fun hb => ?_ | refine wCa (c := by first | exact Qc9 _ _ _) (k := ?_) | refine ww3 ?_ | refine ww4 ?_ | refine wGd (fun hb => ?_) fun hb => ?_ | exact trivial
              all_goals refine wLf ?_
              all_goals rw [hfin]
              all_goals simp_all
          · have hc2q : (d.owner == t.id) = false := by simpa using c2
            have F := wwA @Qaa (wwA @Qab (wwA @Qao (wwA @Qag (wwA hws (wwA hk (wwA hk0 (wwA hk1 (wwA hkl (wwA hi1 (wwA hrd (wwA c1 hc2q)))))))))))
            repeat' first | refine wSq fun _ hK => ?_ | refine ww1 ?_ | (refine wK ?_; clear hK) | (simp only [wHb, reduceCtorEq] at hb <;> try (exfalso; omega)) | refine wCd (fun hb => ?_) fun hb => ?_ | refine wCa (c := by first | exact Qc9 _ _ _) (k := ?_) | refine ww3 ?_ | refine ww4 ?_ | refine wGd (fun hb => ?_) fun hb => ?_ | exact trivial
            all_goals refine wLf ?_
            all_goals rw [hfin]
            all_goals simp_all
        · obtain ⟨hi1, hmb⟩ := Qrf hm hin
          rw [hmb] at hfin
          have hmq : (t.mine == -1) = false := by simpa using hm
          have F := wwA @Qaa (wwA @Qab (wwA hws (wwA hi1 (wwA hmq c1))))
          repeat' first | refine wSq fun _ hK => ?_ | refine ww1 ?_ | (refine wK ?_; clear hK) | (simp only [wHb, reduceCtorEq] at hb <;> try (exfalso; omega)) | refine wCd (fun hb => ?_) fun hb => ?_ | refine wCa (c := by first | exact Qc9 _ _ _) (k := ?_) | refine ww3 ?_ | refine ww4 ?_ | refine wGd (fun hb => ?_) fun hb => ?_ | exact trivial
          all_goals refine wLf ?_
          all_goals rw [hfin]
          all_goals simp_all
      · have hmb : Qmm s t = false := by simp [Qmm, hm, c1]
        rw [hmb] at hfin
        have hmq : (t.mine == -1) = false := by simpa using hm
        have hcq : (t.check == -1) = false := by simpa using c1
        have F := wwA @Qaa (wwA @Qab (wwA hws (wwA hmq hcq)))
        repeat' first | refine wSq fun _ hK => ?_ | refine ww1 ?_ | (refine wK ?_; clear hK) | (simp only [wHb, reduceCtorEq] at hb <;> try (exfalso; omega)) | refine wCd (fun hb => ?_) fun hb => ?_ | refine wCa (c := by first | exact Qc9 _ _ _) (k := ?_) | refine ww3 ?_ | refine ww4 ?_ | refine wGd (fun hb => ?_) fun hb => ?_ | exact trivial
        all_goals refine wLf ?_
        all_goals rw [hfin]
        all_goals simp_all
end Go.Proofs.YtmiojnibngncaaaGreat
namespace Go.Proofs.YtmiojnibngncaaaGreat
open Go Go.RowKit
set_option linter.unusedVariables false
set_option linter.unusedSimpArgs false
set_option maxRecDepth 100000
set_option maxHeartbeats 4000000
attribute [local irreducible] VWP Qb5 Qbn Qbs Qbu Qbj Qbt Qa3 Qbq Qcq Qc6 Qbk Qdb Qc4 Qbr Qbm Qa8
attribute [local irreducible] Xci
theorem Qec (te : TypeId) {ds : List DescS} {i : Nat} (h : i ≤ ds.length) : (Qar te (ds.take i)).length = i := by simp [Qar]; omega
theorem Qm6 (te : TypeId) {ds : List DescS} {i : Nat} (h : i ≤ ds.length) : (Qar te (ds.take i)).take i = Qar te (ds.take i) := by rw [List.take_of_length_le (by rw [Qec te h]; exact Nat.le_refl _)]
theorem Qkj (te : TypeId) {ds : List DescS} {i : Nat} (h : i ≤ ds.length) (r : List PT) : (Qar te (ds.take i) ++ [r])[i]? = some r := by
  rw [List.getElem?_append_right (by rw [Qec te h]; exact Nat.le_refl _), Qec te h, Nat.sub_self]
  rfl
theorem Qj7 (te : TypeId) {ds : List DescS} {i : Nat} (h : i ≤ ds.length) (r r' : List PT) : (Qar te (ds.take i) ++ [r]).set i r' = Qar te (ds.take i) ++ [r'] := by
  rw [List.set_append_right _ _ (by rw [Qec te h]; exact Nat.le_refl _), Qec te h, Nat.sub_self]
  rfl
theorem Qmi (te : TypeId) {ds : List DescS} {i : Nat} {d : DescS} (h : ds[i]? = some d) : Qar te (ds.take i) ++ [[.int .i64 d.owner, .int .i64 d.status, .list te (Qav d.entries)]] = Qar te (ds.take (i + 1)) := by
  rw [List.take_add_one, h]
  simp [Qar, Quq]
theorem Qpb (d : DescS) (hl : d.entries.length ≤ 1048576) : SatP Tryz.prog 125 [.agg (d.cells 91)] (.agg [.int .i64 d.owner, .int .i64 d.status, .rf 0 d.entries.length]) [(91, Qav d.entries)] := by
  refine wEp Tryz.func125 [.cell 2 89] 8 (hp := (by simpa using Qac d.entries)) fun E hE => ?_
  unfold DescS.cells
  have F := @Qaa
  repeat' first | refine wSq fun _ hK => ?_ | refine ww1 ?_ | (refine wK ?_; clear hK) | (simp only [wHb, reduceCtorEq] at hb <;> try (exfalso; omega)) | refine wCd (fun hb => ?_) fun hb => ?_ | refine wCa (c := by first | exact Qde d.entries (by omega)) (k := ?_) | refine ww3 ?_ | refine ww4 ?_ | refine wGd (fun hb => ?_) fun hb => ?_ | exact trivial
  refine Qbw (vs := _) (acc := _) (by simp only [go_sem, Qcd]; rfl) (by simp only [go_sem, wrap, exV, exA, Qen, exC, Qaa, Qai, Nat.le_refl]; rfl) (by simp) (by simp) (by simp [Qac])
theorem Qb4 (s : StoreD) (hs : s.small) :
    SatP Tryz.prog 66 [.agg (s.cells 151 89 91)] (.agg [.rf 0 s.heads.length, .rf 1 s.descs.length]) [(151, Qat s.heads), (89, Qar 91 s.descs)] := by
  obtain ⟨f1, f2, f3⟩ := hs
  refine wEp Tryz.func66 [.cell 2 37] 28 (hp := (by simp [Qaf, Qae])) fun E hE => ?_
  unfold StoreD.cells
  have F := wwA @Qad (wwA @Qoa @Qab)
  repeat' first | refine wSq fun _ hK => ?_ | refine ww1 ?_ | (refine wK ?_; clear hK) | (simp only [wHb, reduceCtorEq] at hb <;> try (exfalso; omega)) | refine wCd (fun hb => ?_) fun hb => ?_ | refine ww3 ?_ | refine ww4 ?_ | refine wGd (fun hb => ?_) fun hb => ?_ | exact trivial
  refine Qm3 (X := Nat × Nat) (fun x => [(1, .bp 0 0), (2, .bp 1 0), (3, .bp 5 0), (13, .fr 89 (Qar 91 s.descs)), (14, .int .i64 s.descs.length), (15, .int .i64 x.1)])
    (fun x => [(0, .box [.fr 151 (Qat s.heads), .fr 89 (Qar 91 s.descs)]), (1, .box [.nl 151, .nl 89]), (3, .root 151 (Qat s.heads)), (5, .box [.rf 3 s.heads.length, .rf x.2 x.1]), (x.2, .root 89 (Qar 91 (s.descs.take x.1)))]) (fun x => s.descs.length - x.1)
    (fun x => x.1 ≤ s.descs.length ∧ 4 ≤ x.2 ∧ x.2 ≠ 5) (fun x => max (x.2 + 1) 6) (0, 4) ⟨by simp, by simp, by simp⟩ (by simp [Qbo]) (by simp [Qbd, Qar, Qaj]) (by simp) ?_
  rintro ⟨i, T⟩ nx ⟨hi, hTg, hT5⟩ hB
  simp only at hi hTg hT5 hB
  have hB6 : 6 ≤ nx := by omega
  have hBT : T < nx := by omega
  have a0 : T ≠ 0 := by omega
  have a1 : T ≠ 1 := by omega
  have a3 : T ≠ 3 := by omega
  have b0 : (0 : Nat) ≠ T := by omega
  have b1 : (1 : Nat) ≠ T := by omega
  have b3 : (3 : Nat) ≠ T := by omega
  have b5 : (5 : Nat) ≠ T := by omega
  have hw := Qax (x := (i : Int) + 1) (by omega)
  rcases Nat.lt_or_ge i s.descs.length with hlt | hge
  · obtain ⟨d, hd⟩ : ∃ d, s.descs[i]? = some d := ⟨_, List.getElem?_eq_getElem hlt⟩
    have hre := Qbl (te := 91) hd
    have c0 : nx ≠ 0 := by omega
    have c1 : nx ≠ 1 := by omega
    have c3 : nx ≠ 3 := by omega
    have c5 : nx ≠ 5 := by omega
    have cT : nx ≠ T := by omega
    have d0 : (0 : Nat) ≠ nx := by omega
    have d1 : (1 : Nat) ≠ nx := by omega
    have d3 : (3 : Nat) ≠ nx := by omega
    have d5 : (5 : Nat) ≠ nx := by omega
    have dT : T ≠ nx := by omega
    have hl1 := Qec 91 (ds := s.descs) (i := i) hi
    have hl2 := Qm6 91 (ds := s.descs) (i := i) hi
    have hod := Qpb d (f3 d (List.mem_of_getElem? hd))
    unfold DescS.cells at hod
    have F := wwA @Qab (wwA @Qaa (wwA hre (wwA hl1 (wwA hl2 (wwA @Nat.le_refl (wwA a0 (wwA a1 (wwA a3 (wwA b0 (wwA b1 (wwA b3 (wwA b5 (wwA hT5 (wwA c0 (wwA c1 (wwA c3 (wwA c5 (wwA cT (wwA d0 (wwA d1 (wwA d3 (wwA d5 dT))))))))))))))))))))))
    repeat' first | refine wSq fun _ hK => ?_ | refine ww1 ?_ | (refine wK ?_; clear hK) | (simp only [wHb, reduceCtorEq] at hb <;> try (exfalso; omega)) | refine wCd (fun hb => ?_) fun hb => ?_ | refine wCa (c := by first | exact hod) (k := ?_) | refine ww3 ?_ | refine ww4 ?_ | refine wGd (fun hb => ?_) fun hb => ?_ | exact trivial
    have q1 : nx + 1 + 320 = nx + 321 := by omega
    have q2 : nx + 1 + 256 = nx + 257 := by omega
    have q3 : nx + 1 + 192 = nx + 193 := by omega
    simp only [q1, q2, q3]
    have g0 : nx + 513 = nx + 1 + 512 := by omega
    generalize hA : nx + 193 = A
    generalize hC : nx + 321 = C
    generalize hBb : nx + 257 = B
    have e1 : C ≠ 5 := by omega
    have e2 : A ≠ 5 := by omega
    have e3 : A ≠ C := by omega
    have e4 : A ≠ T := by omega
    have e5 : A ≠ B := by omega
    have e6 : C ≠ T := by omega
    have e7 : C ≠ nx := by omega
    have e8 : A ≠ nx := by omega
    have k0 : (0 : Nat) ≠ C ∧ (0 : Nat) ≠ A ∧ (0 : Nat) ≠ B ∧ (1 : Nat) ≠ C ∧ (1 : Nat) ≠ A ∧ (1 : Nat) ≠ B ∧ (3 : Nat) ≠ C ∧ (3 : Nat) ≠ A ∧ (3 : Nat) ≠ B ∧ (5 : Nat) ≠ C ∧ (5 : Nat) ≠ A ∧ (5 : Nat) ≠ B := by omega
    obtain ⟨k1, k2, k3, k4, k5, k6, k7, k8, k9, k10, k11, k12⟩ := k0
    have hsn := Qmi 91 hd
    refine Xcg [(C, i, 2)] (by simp only [Qb1, Qco, go_sem, e1, e2, e3, Ne.symm e3, e4, e5, e6, e7, e8, Qkj 91 hi, Qj7 91 hi, List.set_cons_succ, List.set_cons_zero, Qaa, Nat.le_refl]; rfl) (i + 1, C) ⟨by simp only; omega, by simp only; omega, by simp only; omega⟩ (by simp only; omega) (by simp [Qbo, tmL, hw]) ?_ (by simp only; omega)
    simp [Qbd, hpL, Qai, hsn, k1, k2, k3, k4, k5, k6, k7, k8, k9, k10, k11, k12, b0, b1, b3, b5, d0, d1, d3, d5]
  · obtain rfl : i = s.descs.length := by omega
    have F := wwA @Qab (wwA a0 (wwA a1 (wwA a3 (wwA b0 (wwA b1 (wwA b3 (wwA b5 hT5)))))))
    repeat' first | refine wSq fun _ hK => ?_ | refine ww1 ?_ | (refine wK ?_; clear hK) | (simp only [wHb, reduceCtorEq] at hb <;> try (exfalso; omega)) | refine wCd (fun hb => ?_) fun hb => ?_ | refine ww3 ?_ | refine ww4 ?_ | refine wGd (fun hb => ?_) fun hb => ?_ | exact trivial
    have hl3 : (Qar 91 (s.descs.take s.descs.length)).length = s.descs.length := Qec _ (Nat.le_refl _)
    refine Qbw (vs := _) (acc := _) (by simp only [go_sem, Qcd, a0, a1, a3, b0, b1, b3, b5, hT5]; rfl) (by simp only [go_sem, wrap, exV, exA, Qen, exC, Qad, Qaj, List.take_length, Qab, Qak, Nat.le_refl, a0, a1, a3, b0, b1, b3, b5, hT5]; rfl) (by simp [Ne.symm a3]; try omega) (by simp) (by simp [Qaf, Qae])
end Go.Proofs.YtmiojnibngncaaaGreat
