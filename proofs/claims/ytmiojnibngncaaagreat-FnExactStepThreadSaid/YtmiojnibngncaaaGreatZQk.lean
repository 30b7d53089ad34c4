/- What the claim rests on, part 11: the value-level engine and contracts of functions; no condition. -/
import Derived.Test.YtmiojnibngncaaaGreatZQj
import Derived.Test.YtmiojnibngncaaaGreatZQg
import Derived.Test.YtmiojnibngncaaaGreatZQf
import Derived.Test.YtmiojnibngncaaaGreatZQi
import Derived.Test.YtmiojnibngncaaaGreatZQc
namespace Go.Proofs.YtmiojnibngncaaaGreat
open Go Go.RowKit
set_option linter.unusedVariables false
set_option linter.unusedSimpArgs false
set_option maxRecDepth 100000
set_option maxHeartbeats 4000000
attribute [local irreducible] VWP Qb5 Qbn Qbs Qbu Qbj Qbt Qa3 Qbq Qcq Qc6 Qbk Qdb Qc4 Qbr Qbm Qa8
attribute [local irreducible] Xci
def Qsy (td : TypeId) (x : Nat × Nat) : VV := if x.1 = 0 then .nl td else .rf x.2 x.1
def Xec (td te : TypeId) (ds : List DescS) (x : Nat × Nat) : Ent := if x.1 = 0 then .dead else .root td (Qar te (ds.take x.1))
theorem Qd6 (s : StoreD) (hs : s.small) :
    SatP Tryz.prog 56 [.agg (s.cells 151 89 91)] (.agg [.rf 0 s.heads.length, .rf 1 s.descs.length]) [(151, Qat s.heads), (89, Qar 91 s.descs)] := by
  obtain ⟨f1, f2, f3⟩ := hs
  refine wEp Tryz.func56 [.cell 2 37] 34 (hp := (by simp [Qaf, Qae])) fun E hE => ?_
  unfold StoreD.cells
  have F := wwA @Qad (wwA @Qoa @Qab)
  repeat' first | refine wSq fun _ hK => ?_ | refine ww1 ?_ | (refine wK ?_; clear hK) | (simp only [wHb, reduceCtorEq] at hb <;> try (exfalso; omega)) | refine wCd (fun hb => ?_) fun hb => ?_ | refine ww3 ?_ | refine ww4 ?_ | refine wGd (fun hb => ?_) fun hb => ?_ | exact trivial
  refine Qm3 (X := Nat × Nat) (fun x => [(1, .bp 0 0), (2, .bp 1 0), (3, .bp 4 0), (4, .int .i64 x.1)])
    (fun x => [(0, .box [.fr 151 (Qat s.heads), .fr 89 (Qar 91 s.descs)]), (1, .box [.nl 151, .nl 89]), (3, .root 151 (Qat s.heads)), (4, .box [.rf 3 s.heads.length, Qsy 89 x]), (x.2, Xec 89 91 s.descs x)]) (fun x => s.descs.length - x.1)
    (fun x => x.1 ≤ s.descs.length ∧ 5 ≤ x.2) (fun x => if x.1 = 0 then x.2 else x.2 + 1) (0, 5) ⟨by simp, by simp⟩ (by simp [Qbo]) (by simp [Qbd, Qsy, Xec, Qaj]) (by simp) ?_
  rintro ⟨i, T⟩ nx ⟨hi, hTg⟩ hB
  simp only at hi hTg hB
  have a0 : T ≠ 0 := by omega
  have a1 : T ≠ 1 := by omega
  have a3 : T ≠ 3 := by omega
  have a4 : T ≠ 4 := by omega
  have b0 : (0 : Nat) ≠ T := by omega
  have b1 : (1 : Nat) ≠ T := by omega
  have b3 : (3 : Nat) ≠ T := by omega
  have b4 : (4 : Nat) ≠ T := by omega
  have hB6 : T ≤ nx := by split at hB <;> omega
  have hw := Qax (x := (i : Int) + 1) (by omega)
  rcases Nat.lt_or_ge i s.descs.length with hlt | hge
  · obtain ⟨d, hd⟩ : ∃ d, s.descs[i]? = some d := ⟨_, List.getElem?_eq_getElem hlt⟩
    have hre := Qbl (te := 91) hd
    have c0 : nx ≠ 0 := by omega
    have c1 : nx ≠ 1 := by omega
    have c3 : nx ≠ 3 := by omega
    have c4 : nx ≠ 4 := by omega
    have d0 : (0 : Nat) ≠ nx := by omega
    have d1 : (1 : Nat) ≠ nx := by omega
    have d3 : (3 : Nat) ≠ nx := by omega
    have d4 : (4 : Nat) ≠ nx := by omega
    have hsn := Qmi 91 hd
    have hcp := Qfm d.entries (by have := f3 d (List.mem_of_getElem? hd); omega)
    rcases Nat.eq_zero_or_pos i with hz | hz
    · have hz2 : Qsy 89 (i, T) = .nl 89 := if_pos hz
      have hz3 : Xec 89 91 s.descs (i, T) = .dead := if_pos hz
      have F := wwA @Qab (wwA @Qaa (wwA hre (wwA hz2 (wwA hz3 (wwA @Nat.le_refl (wwA a0 (wwA a1 (wwA a3 (wwA a4 (wwA b0 (wwA b1 (wwA b3 (wwA b4 (wwA c0 (wwA c1 (wwA c3 (wwA c4 (wwA d0 (wwA d1 (wwA d3 d4))))))))))))))))))))
      repeat' first | refine wSq fun _ hK => ?_ | refine ww1 ?_ | (refine wK ?_; clear hK) | (simp only [wHb, reduceCtorEq] at hb <;> try (exfalso; omega)) | refine wCd (fun hb => ?_) fun hb => ?_ | refine wCa (c := by first | exact hcp) (k := ?_) | refine ww3 ?_ | refine ww4 ?_ | refine wGd (fun hb => ?_) fun hb => ?_ | exact trivial
      simp only [Nat.add_assoc, Nat.reduceAdd]
      generalize hA : nx + 1 = A
      generalize hC : nx + 4 = C
      have q1 : A ≠ nx + 2 := by omega
      have q2 : A ≠ nx + 3 := by omega
      have r1 : (0 : Nat) ≠ nx + 2 ∧ (1 : Nat) ≠ nx + 2 ∧ (3 : Nat) ≠ nx + 2 ∧ (4 : Nat) ≠ nx + 2 ∧ (0 : Nat) ≠ nx + 3 ∧ (1 : Nat) ≠ nx + 3 ∧ (3 : Nat) ≠ nx + 3 ∧ (4 : Nat) ≠ nx + 3 := by omega
      obtain ⟨r1, r2, r3, r4, r5, r6, r7, r8⟩ := r1
      have k0 : (0 : Nat) ≠ C ∧ (0 : Nat) ≠ A ∧ (1 : Nat) ≠ C ∧ (1 : Nat) ≠ A ∧ (3 : Nat) ≠ C ∧ (3 : Nat) ≠ A ∧ (4 : Nat) ≠ C ∧ (4 : Nat) ≠ A ∧ A ≠ C ∧ A ≠ nx ∧ C ≠ nx ∧ A ≠ 4 ∧ C ≠ 4 := by omega
      obtain ⟨k1, k2, k3, k4, k5, k6, k7, k8, k9, k10, k11, k12, k13⟩ := k0
      subst hz
      have hsn2 : Qar 91 (s.descs.take 1) = [[.int .i64 d.owner, .int .i64 d.status, .list 91 (Qav d.entries)]] := by rw [← hsn]; rfl
      refine Xcg [(C, 0, 2)] (by simp only [Qb1, Qco, go_sem, q1, q2, k9, k10, k11, k12, k13, List.set_cons_succ, List.set_cons_zero, Qaa, Nat.le_refl]; rfl) (1, C) ⟨by simp only; omega, by simp only; omega⟩ (by simp only; omega) (by simp [Qbo, tmL]) ?_ (by simp; omega)
      simp [Qbd, hpL, Qai, hsn2, Qsy, Xec, k1, k2, k3, k4, k5, k6, k7, k8, b0, b1, b3, b4, d0, d1, d3, d4, r1, r2, r3, r4, r5, r6, r7, r8, c0]
    · have hz2 : Qsy 89 (i, T) = .rf T i := if_neg (by omega)
      have hz3 : Xec 89 91 s.descs (i, T) = .root 89 (Qar 91 (s.descs.take i)) := if_neg (by omega)
      have hBT : T < nx := by rw [if_neg (by omega)] at hB; omega
      have cT : nx ≠ T := by omega
      have dT : T ≠ nx := by omega
      have hl1 := Qec 91 (ds := s.descs) (i := i) hi
      have hl2 := Qm6 91 (ds := s.descs) (i := i) hi
      have F := wwA @Qab (wwA @Qaa (wwA hre (wwA hz2 (wwA hz3 (wwA hl1 (wwA hl2 (wwA @Nat.le_refl (wwA a0 (wwA a1 (wwA a3 (wwA a4 (wwA b0 (wwA b1 (wwA b3 (wwA b4 (wwA c0 (wwA c1 (wwA c3 (wwA c4 (wwA cT (wwA d0 (wwA d1 (wwA d3 (wwA d4 dT))))))))))))))))))))))))
      repeat' first | refine wSq fun _ hK => ?_ | refine ww1 ?_ | (refine wK ?_; clear hK) | (simp only [wHb, reduceCtorEq] at hb <;> try (exfalso; omega)) | refine wCd (fun hb => ?_) fun hb => ?_ | refine wCa (c := by first | exact hcp) (k := ?_) | refine ww3 ?_ | refine ww4 ?_ | refine wGd (fun hb => ?_) fun hb => ?_ | exact trivial
      simp only [Nat.add_assoc, Nat.reduceAdd]
      generalize hA : nx + 1 = A
      generalize hC : nx + 3 = C
      have q1 : A ≠ nx + 2 := by omega
      have q2 : A ≠ T := by omega
      have q3 : C ≠ T := by omega
      have r1 : (0 : Nat) ≠ nx + 2 ∧ (1 : Nat) ≠ nx + 2 ∧ (3 : Nat) ≠ nx + 2 ∧ (4 : Nat) ≠ nx + 2 := by omega
      obtain ⟨r1, r2, r3, r4⟩ := r1
      have k0 : (0 : Nat) ≠ C ∧ (0 : Nat) ≠ A ∧ (1 : Nat) ≠ C ∧ (1 : Nat) ≠ A ∧ (3 : Nat) ≠ C ∧ (3 : Nat) ≠ A ∧ (4 : Nat) ≠ C ∧ (4 : Nat) ≠ A ∧ A ≠ C ∧ A ≠ nx ∧ C ≠ nx ∧ A ≠ 4 ∧ C ≠ 4 := by omega
      obtain ⟨k1, k2, k3, k4, k5, k6, k7, k8, k9, k10, k11, k12, k13⟩ := k0
      refine Xcg [(C, i, 2)] (by simp only [Qb1, Qco, go_sem, q1, q2, q3, k9, k10, k11, k12, k13, Qkj 91 hi, Qj7 91 hi, List.set_cons_succ, List.set_cons_zero, Qaa, Nat.le_refl]; rfl) (i + 1, C) ⟨by simp only; omega, by simp only; omega⟩ (by simp only; omega) (by simp [Qbo, tmL, hw]) ?_ (by simp; omega)
      simp [Qbd, hpL, Qai, hsn, Qsy, Xec, k1, k2, k3, k4, k5, k6, k7, k8, b0, b1, b3, b4, d0, d1, d3, d4, r1, r2, r3, r4, c0]
  · obtain rfl : i = s.descs.length := by omega
    rcases Nat.eq_zero_or_pos s.descs.length with hz | hz
    · have hz2 : Qsy 89 (s.descs.length, T) = .nl 89 := if_pos hz
      have hz3 : Xec 89 91 s.descs (s.descs.length, T) = .dead := if_pos hz
      have hz4 : s.descs = [] := List.eq_nil_of_length_eq_zero hz
      have F := wwA @Qab (wwA hz2 (wwA hz3 (wwA a0 (wwA a1 (wwA a3 (wwA a4 (wwA b0 (wwA b1 (wwA b3 b4)))))))))
      repeat' first | refine wSq fun _ hK => ?_ | refine ww1 ?_ | (refine wK ?_; clear hK) | (simp only [wHb, reduceCtorEq] at hb <;> try (exfalso; omega)) | refine wCd (fun hb => ?_) fun hb => ?_ | refine ww3 ?_ | refine ww4 ?_ | refine wGd (fun hb => ?_) fun hb => ?_ | exact trivial
      refine Qbw (vs := _) (acc := _) (by simp only [go_sem, Qcd, a0, a1, a3, a4, b0, b1, b3, b4]; rfl) (by simp only [go_sem, wrap, exV, exA, Qen, exC, Qad, Qaj, List.take_length, Qab, Qak, Nat.le_refl, a0, a1, a3, a4, b0, b1, b3, b4, hz]; rfl) (by simp) (by simp [hz4, Qar]) (by simp [Qaf, Qae])
    · have hz2 : Qsy 89 (s.descs.length, T) = .rf T s.descs.length := if_neg (by omega)
      have hz3 : Xec 89 91 s.descs (s.descs.length, T) = .root 89 (Qar 91 s.descs) := by rw [Xec, if_neg (by simp only; omega), List.take_length]
      have F := wwA @Qab (wwA hz2 (wwA hz3 (wwA a0 (wwA a1 (wwA a3 (wwA a4 (wwA b0 (wwA b1 (wwA b3 b4)))))))))
      repeat' first | refine wSq fun _ hK => ?_ | refine ww1 ?_ | (refine wK ?_; clear hK) | (simp only [wHb, reduceCtorEq] at hb <;> try (exfalso; omega)) | refine wCd (fun hb => ?_) fun hb => ?_ | refine ww3 ?_ | refine ww4 ?_ | refine wGd (fun hb => ?_) fun hb => ?_ | exact trivial
      refine Qbw (vs := _) (acc := _) (by simp only [go_sem, Qcd, a0, a1, a3, a4, b0, b1, b3, b4]; rfl) (by simp only [go_sem, wrap, exV, exA, Qen, exC, Qad, Qaj, List.take_length, Qab, Qak, Nat.le_refl, a0, a1, a3, a4, b0, b1, b3, b4]; rfl) (by simp [Ne.symm a3]; try omega) (by simp) (by simp [Qaf, Qae])
end Go.Proofs.YtmiojnibngncaaaGreat
namespace Go.Proofs.YtmiojnibngncaaaGreat
open Go Go.RowKit
set_option linter.unusedVariables false
set_option linter.unusedSimpArgs false
set_option maxRecDepth 100000
set_option maxHeartbeats 4000000
attribute [local irreducible] VWP Qb5 Qbn Qbs Qbu Qbj Qbt Qa3 Qbq Qcq Qc6 Qbk Qdb Qc4 Qbr Qbm Qa8
def Qc5 (n : Nat) (f : FrameD) (behind : Int) : FrameD := if f.place + 1 < (n : Int) then ⟨f.desc, f.phase, f.place + 1⟩ else ⟨f.desc, behind, 0⟩
theorem Qhm (s : StoreD) (f : FrameD) (behind : Int) (k : Nat) (d : DescS) (hk : f.desc = k) (hd : s.descs[k]? = some d) (h0 : 0 ≤ f.place) (h1 : f.place ≤ 1048576) (hs : s.small) :
    SatP Tryz.prog 200 [.agg (s.cells 151 89 91), .agg f.cells, .int .i64 behind] (.agg (Qc5 d.entries.length f behind).cells) [] := by
  obtain ⟨f1, f2, f3⟩ := hs
  have hkl := (List.getElem?_eq_some_iff.1 hd).1
  have hk0 : (0 : Int) ≤ (k : Nat) := by omega
  have hrd := Qbl (te := 91) hd
  have hde := f3 d (List.mem_of_getElem? hd)
  have hw := Qax (x := f.place + 1) (by omega)
  refine wEp Tryz.func200 [.cell 6 160] 31 fun E hE => ?_
  unfold StoreD.cells FrameD.cells
  by_cases hlt : f.place + 1 < (d.entries.length : Int)
  · have he : Qc5 d.entries.length f behind = ⟨f.desc, f.phase, f.place + 1⟩ := if_pos hlt
    rw [he]
    have F := wwA @Qab (wwA @Qaa (wwA hk (wwA hk0 (wwA hkl (wwA hrd (wwA hw hlt))))))
    repeat' first | refine wSq fun _ hK => ?_ | refine ww1 ?_ | (refine wK ?_; clear hK) | (simp only [wHb, reduceCtorEq] at hb <;> try (exfalso; omega)) | refine wCd (fun hb => ?_) fun hb => ?_ | refine ww3 ?_ | refine ww4 ?_ | refine wGd (fun hb => ?_) fun hb => ?_ | exact trivial
    refine Qbw (vs := _) (acc := _) (by simp only [go_sem, Qcd]; rfl) (by simp only [go_sem, wrap, exV, exA, Qen, exC]; rfl) (by simp) (by simp) (by simp)
  · have he : Qc5 d.entries.length f behind = ⟨f.desc, behind, 0⟩ := if_neg hlt
    rw [he]
    have F := wwA @Qab (wwA @Qaa (wwA hk (wwA hk0 (wwA hkl (wwA hrd (wwA hw hlt))))))
    repeat' first | refine wSq fun _ hK => ?_ | refine ww1 ?_ | (refine wK ?_; clear hK) | (simp only [wHb, reduceCtorEq] at hb <;> try (exfalso; omega)) | refine wCd (fun hb => ?_) fun hb => ?_ | refine ww3 ?_ | refine ww4 ?_ | refine wGd (fun hb => ?_) fun hb => ?_ | exact trivial
    refine Qbw (vs := _) (acc := _) (by simp only [go_sem, Qcd]; rfl) (by simp only [go_sem, wrap, exV, exA, Qen, exC]; rfl) (by simp) (by simp) (by simp)
theorem Qhs (s : StoreD) (f : FrameD) (behind : Int) (k : Nat) (d : DescS) (hk : f.desc = k) (hd : s.descs[k]? = some d) (h0 : 0 ≤ f.place) (h1 : f.place ≤ 1048576) (hs : s.small) :
    SatP Tryz.prog 195 [.agg (s.cells 151 89 91), .agg f.cells, .int .i64 behind] (.agg (Qc5 d.entries.length f behind).cells) [] := by
  obtain ⟨f1, f2, f3⟩ := hs
  have hkl := (List.getElem?_eq_some_iff.1 hd).1
  have hk0 : (0 : Int) ≤ (k : Nat) := by omega
  have hrd := Qbl (te := 91) hd
  have hde := f3 d (List.mem_of_getElem? hd)
  have hw := Qax (x := f.place + 1) (by omega)
  refine wEp Tryz.func195 [.cell 6 160] 28 fun E hE => ?_
  unfold StoreD.cells FrameD.cells
  by_cases hlt : f.place + 1 < (d.entries.length : Int)
  · have he : Qc5 d.entries.length f behind = ⟨f.desc, f.phase, f.place + 1⟩ := if_pos hlt
    rw [he]
    have F := wwA @Qab (wwA @Qaa (wwA hk (wwA hk0 (wwA hkl (wwA hrd (wwA hw hlt))))))
    repeat' first | refine wSq fun _ hK => ?_ | refine ww1 ?_ | (refine wK ?_; clear hK) | (simp only [wHb, reduceCtorEq] at hb <;> try (exfalso; omega)) | refine wCd (fun hb => ?_) fun hb => ?_ | refine ww3 ?_ | refine ww4 ?_ | refine wGd (fun hb => ?_) fun hb => ?_ | exact trivial
    refine Qbw (vs := _) (acc := _) (by simp only [go_sem, Qcd]; rfl) (by simp only [go_sem, wrap, exV, exA, Qen, exC]; rfl) (by simp) (by simp) (by simp)
  · have he : Qc5 d.entries.length f behind = ⟨f.desc, behind, 0⟩ := if_neg hlt
    rw [he]
    have F := wwA @Qab (wwA @Qaa (wwA hk (wwA hk0 (wwA hkl (wwA hrd (wwA hw hlt))))))
    repeat' first | refine wSq fun _ hK => ?_ | refine ww1 ?_ | (refine wK ?_; clear hK) | (simp only [wHb, reduceCtorEq] at hb <;> try (exfalso; omega)) | refine wCd (fun hb => ?_) fun hb => ?_ | refine ww3 ?_ | refine ww4 ?_ | refine wGd (fun hb => ?_) fun hb => ?_ | exact trivial
    refine Qbw (vs := _) (acc := _) (by simp only [go_sem, Qcd]; rfl) (by simp only [go_sem, wrap, exV, exA, Qen, exC]; rfl) (by simp) (by simp) (by simp)
theorem Qn0 {es : List EntS} (h : Qms es) : ∀ (n i : Nat) (e f : EntS), es[i]? = some e → es[i + n]? = some f → e.object ≤ f.object
  | 0, i, e, f, he, hf => by
    rw [Nat.add_zero, he] at hf
    cases hf
    exact Int.le_refl _
  | n + 1, i, e, f, he, hf => by
    have hlt := (List.getElem?_eq_some_iff.1 hf).1
    obtain ⟨g, hg⟩ : ∃ g, es[i + n]? = some g := ⟨_, List.getElem?_eq_getElem (by omega)⟩
    have h1 := Qn0 h n i e g he hg
    have h2 := h (i + n) g f hg (by rw [Nat.add_assoc]; exact hf)
    omega
theorem Qwh {n : Nat} {d : DescS} (h : Qkf n d) {i : Nat} {e : EntS} (he : d.entries[i]? = some e) : ∃ k : Nat, e.object = k ∧ k < n := by
  obtain ⟨hD, hl⟩ := h
  have hlt := (List.getElem?_eq_some_iff.1 he).1
  obtain ⟨f, hf⟩ : ∃ f, d.entries[d.entries.length - 1]? = some f := ⟨_, List.getElem?_eq_getElem (by omega)⟩
  have h1 := hl f hf
  have h2 := Qn0 hD.1 (d.entries.length - 1 - i) i e f he (by rw [show i + (d.entries.length - 1 - i) = d.entries.length - 1 by omega]; exact hf)
  have h3 := hD.2.1 i e he
  simp only [EntS.ok, inB, Bool.and_eq_true, decide_eq_true_eq] at h3
  exact ⟨e.object.toNat, by omega, by omega⟩
def newVE (es : List EntS) (o x : Int) : Int := match es.find? (Xcu o) with
  | some e => if e.write then e.new else x
  | none => x
def doE (es : List EntS) (out : List Int) : List Int := es.foldl (fun out e => if e.write then out.set e.object.toNat e.new else out) out
def putE (es : List EntS) (out : List Int) : List Int := out.mapIdx fun j x => newVE es j x
def canE (es : List EntS) (out : List Int) : Bool := es.all fun e => out[e.object.toNat]? == some e.old
def Xak : List Int → List DescS → List Int × Bool
  | out, [] => (out, true)
  | out, d :: ds => if canE d.entries out = true then Xak (putE d.entries out) ds else (out, false)
def SerP (most : Nat) (xs : List Int) (ds : List DescS) : Prop := inB xs.length 1 8 = true ∧ Xc0 xs (-1000000000) 1000000000 = true ∧ ds.length ≤ most ∧ ∀ d ∈ ds, Qkf xs.length d
noncomputable def serR (xs : List Int) (ds : List DescS) : List Int × Bool := if bP (SerP 60 xs ds) = true then Xak xs ds else ([], false)
end Go.Proofs.YtmiojnibngncaaaGreat
namespace Go.Proofs.YtmiojnibngncaaaGreat
open Go Go.RowKit
set_option linter.unusedVariables false
set_option linter.unusedSimpArgs false
inductive Tr where
  | done
  | step (j : Nat) (t : Tr)
  | both (a b : Tr)
def Tr.firsts : Tr → List (Nat × Tr)
  | .done => []
  | .step j t => [(j, t)]
  | .both a b => a.firsts ++ b.firsts
def Tr.ends : Tr → Bool
  | .done => true
  | .step _ _ => false
  | .both a b => a.ends || b.ends
def Xg2 (ops : Array Oper) : Nat → Array Bool → Tr → Bool
  | 0, listed, t => (Region.ready .any ops listed).isEmpty && t.ends
  | f + 1, listed, t => (!(Region.ready .any ops listed).isEmpty || t.ends) && (Region.ready .any ops listed).all fun j => t.firsts.any fun p => p.1 == j && Xg2 ops f (listed.setIfInBounds j true) p.2
def Qg7 (P : Program) (ty : Ty) (ops : Array Oper) : Tr → St → (St → Prop) → Prop
  | .done, s, K => K s
  | .step j t, s, K => match ops[j]? with
    | some o => Qb5 P ty ops [o] s fun s' => Qg7 P ty ops t s' K
    | none => False
  | .both a b, s, K => Qg7 P ty ops a s K ∧ Qg7 P ty ops b s K
def Xfk (P : Program) (ty : Ty) (ops : Array Oper) (t : Tr) (K : St → Prop) : St → Prop := fun s => Qg7 P ty ops t s K
def Xaw (P : Program) (ty : Ty) (ops : Array Oper) (o : Option Oper) (t : Tr) (s : St) (K : St → Prop) : Prop := match o with
  | some o => Qb5 P ty ops [o] s (Xfk P ty ops t K)
  | none => False
section
variable {P : Program} {E : Env} {g g' : Gh} {s : St} {a : Act} {w w' : World} {ty : Ty} {ops : Array Oper}
theorem Qef {K : St → Prop} : Qg7 P ty ops .done s K = K s := rfl
theorem Qei {l : List Oper} {j : Nat} {t : Tr} {K : St → Prop} : Qg7 P ty l.toArray (.step j t) s K = Xaw P ty l.toArray l[j]? t s K := by
  have : l.toArray[j]? = l[j]? := by simp
  simp only [Qg7, Xaw, this]
  rfl
theorem Qdr {o : Oper} {t : Tr} {K : St → Prop} : Xaw P ty ops (some o) t s K = Qb5 P ty ops [o] s (Xfk P ty ops t K) := rfl
theorem Qeg {x y : Tr} {K : St → Prop} : Qg7 P ty ops (.both x y) s K = (Qg7 P ty ops x s K ∧ Qg7 P ty ops y s K) := rfl
theorem Qfv {t : Tr} {K : St → Prop} {tm : Nat → VV} {H : Qbi} {nx N : Nat} {lim : Option Nat} : Xfk P ty ops t K ⟨tm, H, nx, N, lim⟩ = Qg7 P ty ops t ⟨tm, H, nx, N, lim⟩ K := rfl
theorem Qjb {K : St → Prop} : ∀ {t : Tr}, t.ends = true → Qg7 P ty ops t s K → K s
  | .done, _, h => h
  | .both x y, he, h => by
    simp only [Tr.ends, Bool.or_eq_true] at he
    rcases he with he | he
    · exact Qjb he h.1
    · exact Qjb he h.2
theorem Qkg {K : St → Prop} : ∀ {t : Tr} {j : Nat} {t' : Tr}, (j, t') ∈ t.firsts → Qg7 P ty ops t s K → Qg7 P ty ops (.step j t') s K
  | .step j t, _, _, hm, h => by
    simp only [Tr.firsts, List.mem_singleton, Prod.mk.injEq] at hm
    obtain ⟨rfl, rfl⟩ := hm
    exact h
  | .both x y, _, _, hm, h => by
    simp only [Tr.firsts, List.mem_append] at hm
    rcases hm with hm | hm
    · exact Qkg hm h.1
    · exact Qkg hm h.2
theorem Xdj (hT : Qeo P ty) {Q : Exit → St → Prop} : ∀ (f : Nat) (listed : Array Bool) (t : Tr) (g : Gh) (s : St) (a : Act) (w : World), Xg2 ops f listed t = true → Rel P E g s a w → Qg7 P ty ops t s (Q .normal) → wpAny P .any ops (Xgn P E Q) f listed a w := by
  intro f
  induction f with
  | zero =>
    intro listed t g s a w hc hr h
    simp only [Xg2, Bool.and_eq_true, List.isEmpty_iff] at hc
    exact ⟨hc.1, g, s, hr, Qjb hc.2 h⟩
  | succ f ih =>
    intro listed t g s a w hc hr h
    simp only [Xg2, Bool.and_eq_true, List.all_eq_true] at hc
    obtain ⟨h1, h2⟩ := hc
    refine ⟨fun h0 => ?_, fun j hj => ?_⟩
    · rw [h0] at h1
      exact ⟨g, s, hr, Qjb (by simpa using h1) h⟩
    · obtain ⟨_, o, ho, _⟩ := mem_ready.1 hj
      have h3 := h2 j hj
      simp only [List.any_eq_true, Bool.and_eq_true, beq_iff_eq] at h3
      obtain ⟨⟨k, t'⟩, hm, hk, hc'⟩ := h3
      simp only at hk hc'
      subst hk
      have h4 := Qkg hm h
      simp only [Qg7, ho] at h4
      unfold wpOp
      simp only [ho]
      refine Qgh hT hr (ops := ops) (o := o) (K := fun s' => Qg7 P ty ops t' s' (Q .normal)) h4 fun g' s2 a' w' hs hr' _ => ih _ t' g' s2 a' w' hc' hr' hs
theorem Qej (hT : Qeo P ty) (hm : P.follows .mixedOrders = true) {id : Nat} {l : List Oper} {Q : Exit → St → Prop} (t : Tr) (hok : Xg2 l.toArray l.toArray.size (Array.replicate l.toArray.size false) t = true)
    (h : Qg7 P ty l.toArray t s (Q .normal)) : VWP P E (.region id l.toArray true) Q s := by
  intro g a w hr
  refine wp_region_any hm ?_
  exact Xdj hT _ _ t g s a _ hok ⟨hr.size, hr.defers, hr.heap.drew, hr.fresh, hr.tmps, hr.pin⟩ h
end
end Go.Proofs.YtmiojnibngncaaaGreat
