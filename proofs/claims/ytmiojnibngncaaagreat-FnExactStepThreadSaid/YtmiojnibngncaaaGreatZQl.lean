/- What the claim rests on, part 12: the value-level engine and contracts of functions; no condition. -/
import Derived.Test.YtmiojnibngncaaaGreatZQk
import Derived.Test.YtmiojnibngncaaaGreatZQf
import Derived.Test.YtmiojnibngncaaaGreatZQh
import Derived.Test.YtmiojnibngncaaaGreatZQc
namespace Go.Proofs.YtmiojnibngncaaaGreat
open Go Go.RowKit
set_option linter.unusedVariables false
set_option linter.unusedSimpArgs false
set_option maxRecDepth 100000
set_option maxHeartbeats 4000000
attribute [local irreducible] VWP Qb5 Qbn Qbs Qbu Qbj Qbt Qa3 Qbq Qcq Qc6 Qbk Qdb Qc4 Qbr Qbm Qa8
def Qzr (d : DescS) (e : EntS) (h : HeadD) : HeadD := if d.status = 1 ∧ e.write = true then ⟨e.new, (h.version + 1).tmod 1000001, -1⟩ else ⟨h.value, h.version, -1⟩
def Qa5 (s : StoreD) (f : FrameD) (k : Nat) (d : DescS) (e : EntS) (o : Nat) (h : HeadD) : StoreD × FrameD × Int :=
  if f.phase = 0 then (s, ⟨f.desc, if d.status = 0 then 1 else 4, 0⟩, -1)
  else if f.phase = 1 then
    (if h.desc = f.desc then (s, Qc5 d.entries.length f 2, -1)
    else if 0 ≤ h.desc then (s, ⟨f.desc, 0, 0⟩, h.desc)
    else if h.version ≠ e.version then (s, ⟨f.desc, 3, 0⟩, -1)
    else (⟨s.heads.set o ⟨h.value, h.version, f.desc⟩, s.descs⟩, Qc5 d.entries.length f 2, -1))
  else if f.phase = 2 ∨ f.phase = 3 then (if d.status = 0 then ⟨s.heads, s.descs.set k ⟨d.owner, if f.phase = 2 then 1 else 2, d.entries⟩⟩ else s, ⟨f.desc, 4, 0⟩, -1)
  else if f.phase = 4 then (if h.desc = f.desc then ⟨s.heads.set o (Qzr d e h), s.descs⟩ else s, Qc5 d.entries.length f 5, -1)
  else (s, f, -1)
structure AtP (s : StoreD) (f : FrameD) (k : Nat) (d : DescS) (j : Nat) (e : EntS) (o : Nat) (h : HeadD) : Prop where
  fk : f.desc = k
  dk : s.descs[k]? = some d
  fj : f.place = j
  ej : d.entries[j]? = some e
  eo : e.object = o
  ho : s.heads[o]? = some h
theorem at_ex {s : StoreD} {f : FrameD} (hS : Qd2 s) (hf : Qzv s f = true) : ∃ k d j e o h, AtP s f k d j e o h := by
  unfold Qzv at hf
  simp only [Bool.and_eq_true] at hf
  obtain ⟨⟨h1, h2⟩, h3⟩ := hf
  simp [inB] at h1
  obtain ⟨k, hk⟩ : ∃ k : Nat, f.desc = k := ⟨f.desc.toNat, by omega⟩
  obtain ⟨d, hd⟩ : ∃ d, s.descs[k]? = some d := ⟨_, List.getElem?_eq_getElem (by omega)⟩
  have hfd := hS.2.2.2.1 d (List.mem_of_getElem? hd)
  have hpos := hfd.1.2.2.2.2.1
  have hj : ∃ j : Nat, f.place = j ∧ j < d.entries.length := by
    rw [hk, Int.toNat_natCast, hd] at h3
    split at h3
    · simp [inB] at h3
      exact ⟨f.place.toNat, by omega, by omega⟩
    · simp at h3
      exact ⟨0, by omega, hpos⟩
  obtain ⟨j, hj, hjl⟩ := hj
  obtain ⟨e, he⟩ : ∃ e, d.entries[j]? = some e := ⟨_, List.getElem?_eq_getElem hjl⟩
  obtain ⟨o, ho, hol⟩ := Qwh hfd he
  exact ⟨k, d, j, e, o, _, hk, hd, hj, he, ho, List.getElem?_eq_getElem hol⟩
theorem Qh9 {te : TypeId} {ds : List DescS} {k : Nat} {d : DescS} (h : ds[k]? = some d) : (Qar te ds).set k [.int .i64 d.owner, .int .i64 d.status, .list te (Qav d.entries)] = Qar te ds := by
  refine List.ext_getElem? fun j => ?_
  have hlt := (List.getElem?_eq_some_iff.1 h).1
  by_cases hj : j = k
  · subst hj
    rw [List.getElem?_set_self (by rw [Qab]; exact hlt), Qbl h]
  · rw [List.getElem?_set_ne (Ne.symm hj)]
theorem Qa2 {te : TypeId} {ds : List DescS} {k : Nat} (o s : Int) (es : List EntS) : (Qar te ds).set k [.int .i64 o, .int .i64 s, .list te (Qav es)] = Qar te (ds.set k ⟨o, s, es⟩) := by simp [Qar, List.map_set, Quq]
theorem Qh2 (s : StoreD) (f : FrameD) (k : Nat) (d : DescS) (j : Nat) (e : EntS) (o : Nat) (h : HeadD) (ha : AtP s f k d j e o h) (hv0 : 0 ≤ h.version) (hv1 : h.version ≤ 1000000) (hs : s.small) (r : StoreD × FrameD × Int) (hr : Qa5 s f k d e o h = r) :
    SatO Tryz.prog 185 [.agg [.rf 0 s.heads.length, .rf 1 s.descs.length], .agg f.cells] [.root 151 (Qat s.heads), .root 89 (Qar 91 s.descs)]
      (.tup [.agg r.2.1.cells, .int .i64 r.2.2]) [.root 151 (Qat r.1.heads), .root 89 (Qar 91 r.1.descs)] := by
  obtain ⟨hk, hd, hj, he, heo, hho⟩ := ha
  obtain ⟨f1, f2, f3⟩ := hs
  have hkl := (List.getElem?_eq_some_iff.1 hd).1
  have hjl := (List.getElem?_eq_some_iff.1 he).1
  have hol := (List.getElem?_eq_some_iff.1 hho).1
  have hde := f3 d (List.mem_of_getElem? hd)
  have hk0 : (0 : Int) ≤ (k : Nat) := by omega
  have hj0 : (0 : Int) ≤ (j : Nat) := by omega
  have ho0 : (0 : Int) ≤ (o : Nat) := by omega
  have hrd := Qbl (te := 91) hd
  have hre := Qbe he
  have hrh := Qb0 hho
  have hkr : k < (Qar 91 s.descs).length := by rw [Qab]; exact hkl
  have hor : o < (Qat s.heads).length := by rw [Qad]; exact hol
  have hbk := Qh9 (te := 91) hd
  rw [heo] at hre
  refine wEo Tryz.func185 [.cell 4 160, .tmp 5] 137 2 ⟨⟨rfl, Qaf _⟩, ⟨rfl, Qae _ _⟩, by simp [Qbc]⟩ fun E hE => ?_
  unfold FrameD.cells
  by_cases p0 : f.phase = 0
  · have hm : Qa5 s f k d e o h = (s, ⟨f.desc, if d.status = 0 then 1 else 4, 0⟩, -1) := by rw [Qa5, if_pos p0]
    rw [hm] at hr
    subst hr
    by_cases st : d.status = 0
    · have stq : (d.status == 0) = true := by simp [st]
      simp only [if_pos st]
      have F := wwA @Qab (wwA @Qaa (wwA @Qad (wwA hk (wwA hj (wwA hk0 (wwA hj0 (wwA ho0 (wwA hkl (wwA hjl (wwA hol (wwA hrd (wwA hre (wwA hrh (wwA hkr (wwA hor (wwA (fun a => List.getElem?_set_self (a := a) hkr) (wwA @List.length_set.{0} (wwA @Nat.le_refl (wwA p0 stq)))))))))))))))))))
      repeat' first | refine wSq fun _ hK => ?_ | refine Ql0 (id := 1) [(1, k, 2)] ?_ | refine ww1 ?_ | (refine wK ?_; clear hK) | (simp only [wHb, reduceCtorEq] at hb <;> try (exfalso; omega)) | (refine Qaz true ?_ ?_ (fun hh => nomatch hh); focus (simp only [go_sem, Int.reduceBEq, Int.reduceBNe, Int.reduceLT, Int.reduceLE, Int.reduceAdd, Int.reduceToNat, F]; done); intro _) | (refine Qaz false ?_ (fun hh => nomatch hh) ?_; focus (simp only [go_sem, Int.reduceBEq, Int.reduceBNe, Int.reduceLT, Int.reduceLE, Int.reduceAdd, Int.reduceToNat, F]; done); intro _) | refine Qcf (fun hb => ?_) fun hb => ?_ | refine Qce ?_ | refine ww4 ?_ | refine Qcc (fun hb => ?_) fun hb => ?_ | exact trivial
      refine Qbf [(1, k, 2)] (by simp only [Qb1, Qco, go_sem, hkr, List.getElem?_set_self hkr, List.set_set, List.length_set, List.set_cons_succ, List.set_cons_zero, Qaa, Qai, Nat.le_refl, hbk, Qa2]; rfl) [.root 151 (Qat s.heads), .root 89 (Qar 91 s.descs)] rfl (by simp [Qbx, Qbd, HpE, Qb7, Qa2, hbk]) rfl (by simp only [go_sem, Qcd]; rfl) (acc := []) rfl (by simp) rfl
    · have stq : (d.status == 0) = false := by simpa using st
      simp only [if_neg st]
      have F := wwA @Qab (wwA @Qaa (wwA @Qad (wwA hk (wwA hj (wwA hk0 (wwA hj0 (wwA ho0 (wwA hkl (wwA hjl (wwA hol (wwA hrd (wwA hre (wwA hrh (wwA hkr (wwA hor (wwA (fun a => List.getElem?_set_self (a := a) hkr) (wwA @List.length_set.{0} (wwA @Nat.le_refl (wwA p0 stq)))))))))))))))))))
      repeat' first | refine wSq fun _ hK => ?_ | refine Ql0 (id := 1) [(1, k, 2)] ?_ | refine ww1 ?_ | (refine wK ?_; clear hK) | (simp only [wHb, reduceCtorEq] at hb <;> try (exfalso; omega)) | (refine Qaz true ?_ ?_ (fun hh => nomatch hh); focus (simp only [go_sem, Int.reduceBEq, Int.reduceBNe, Int.reduceLT, Int.reduceLE, Int.reduceAdd, Int.reduceToNat, F]; done); intro _) | (refine Qaz false ?_ (fun hh => nomatch hh) ?_; focus (simp only [go_sem, Int.reduceBEq, Int.reduceBNe, Int.reduceLT, Int.reduceLE, Int.reduceAdd, Int.reduceToNat, F]; done); intro _) | refine Qcf (fun hb => ?_) fun hb => ?_ | refine Qce ?_ | refine ww4 ?_ | refine Qcc (fun hb => ?_) fun hb => ?_ | exact trivial
      refine Qbf [(1, k, 2)] (by simp only [Qb1, Qco, go_sem, hkr, List.getElem?_set_self hkr, List.set_set, List.length_set, List.set_cons_succ, List.set_cons_zero, Qaa, Qai, Nat.le_refl, hbk, Qa2]; rfl) [.root 151 (Qat s.heads), .root 89 (Qar 91 s.descs)] rfl (by simp [Qbx, Qbd, HpE, Qb7, Qa2, hbk]) rfl (by simp only [go_sem, Qcd]; rfl) (acc := []) rfl (by simp) rfl
  have p0q : (f.phase == 0) = false := by simpa using p0
  by_cases p1 : f.phase = 1
  · by_cases c1 : h.desc = f.desc
    · have hm : Qa5 s f k d e o h = (s, Qc5 d.entries.length f 2, -1) := by rw [Qa5, if_neg p0, if_pos p1, if_pos c1]
      rw [hm] at hr
      subst hr
      have c1q : (h.desc == (k : Int)) = true := by simp [c1, hk]
      have hnx := Qhs s f 2 k d hk hd (by omega) (by omega) ⟨f1, f2, f3⟩
      unfold StoreD.cells FrameD.cells at hnx
      rw [hk, hj, p1] at hnx
      have F := wwA @Qab (wwA @Qaa (wwA @Qad (wwA hk (wwA hj (wwA hk0 (wwA hj0 (wwA ho0 (wwA hkl (wwA hjl (wwA hol (wwA hrd (wwA hre (wwA hrh (wwA hkr (wwA hor (wwA (fun a => List.getElem?_set_self (a := a) hkr) (wwA @List.length_set.{0} (wwA @Nat.le_refl (wwA p1 (wwA c1q (wwA hbk (wwA @Qai (wwA @Qaf (wwA @Qaj (wwA @Qae (wwA @Qak @List.set_set.{0}))))))))))))))))))))))))))
      repeat' first | refine wSq fun _ hK => ?_ | refine Ql0 (id := 1) [(1, k, 2)] ?_ | refine Qzu (id := 11) [(1, k, 2)] ?_ | refine ww1 ?_ | (refine wK ?_; clear hK) | (simp only [wHb, reduceCtorEq] at hb <;> try (exfalso; omega)) | (refine Qaz true ?_ ?_ (fun hh => nomatch hh); focus (simp only [go_sem, Int.reduceBEq, Int.reduceBNe, Int.reduceLT, Int.reduceLE, Int.reduceAdd, Int.reduceToNat, F]; done); intro _) | (refine Qaz false ?_ (fun hh => nomatch hh) ?_; focus (simp only [go_sem, Int.reduceBEq, Int.reduceBNe, Int.reduceLT, Int.reduceLE, Int.reduceAdd, Int.reduceToNat, F]; done); intro _) | refine Qcf (fun hb => ?_) fun hb => ?_ | refine Qgs (c := by first | exact hnx) (k := ?_) | refine Qce ?_ | refine ww4 ?_ | refine Qcc (fun hb => ?_) fun hb => ?_ | exact trivial
      refine Qbf [] rfl [.root 151 (Qat s.heads), .root 89 (Qar 91 s.descs)] rfl (by simp [Qbx, Qbd, HpE, Qb7, Qa2, hbk]) rfl (by simp only [go_sem, Qcd]; rfl) (acc := []) rfl (by simp) rfl
    have c1q : (h.desc == (k : Int)) = false := by rw [beq_eq_false_iff_ne, ← hk]; exact c1
    by_cases c2 : 0 ≤ h.desc
    · have hm : Qa5 s f k d e o h = (s, ⟨f.desc, 0, 0⟩, h.desc) := by rw [Qa5, if_neg p0, if_pos p1, if_neg c1, if_pos c2]
      rw [hm] at hr
      subst hr
      have F := wwA @Qab (wwA @Qaa (wwA @Qad (wwA hk (wwA hj (wwA hk0 (wwA hj0 (wwA ho0 (wwA hkl (wwA hjl (wwA hol (wwA hrd (wwA hre (wwA hrh (wwA hkr (wwA hor (wwA (fun a => List.getElem?_set_self (a := a) hkr) (wwA @List.length_set.{0} (wwA @Nat.le_refl (wwA p1 (wwA c1q (wwA c2 (wwA @Qef (wwA @Qei (wwA @Qdr (wwA @Qeg @Qfv)))))))))))))))))))))))))
      repeat' first | refine wSq fun _ hK => ?_ | refine Ql0 (id := 1) [(1, k, 2)] ?_ | refine Qej hT hM (id := 13) (.both (.step 0 (.both (.step 1 (.both (.step 2 (.both (.step 3 (.both (.step 4 (.step 5 (.step 6 .done))) (.step 5 (.step 4 (.step 6 .done))))) (.step 5 (.step 3 (.step 4 (.step 6 .done)))))) (.step 3 (.both (.step 2 (.both (.step 4 (.step 5 (.step 6 .done))) (.step 5 (.step 4 (.step 6 .done))))) (.step 4 (.step 2 (.step 5 (.step 6 .done)))))))) (.step 3 (.both (.step 1 (.both (.step 2 (.both (.step 4 (.step 5 (.step 6 .done))) (.step 5 (.step 4 (.step 6 .done))))) (.step 4 (.step 2 (.step 5 (.step 6 .done)))))) (.step 4 (.step 1 (.step 2 (.step 5 (.step 6 .done))))))))) (.step 3 (.both (.step 0 (.both (.step 1 (.both (.step 2 (.both (.step 4 (.step 5 (.step 6 .done))) (.step 5 (.step 4 (.step 6 .done))))) (.step 4 (.step 2 (.step 5 (.step 6 .done)))))) (.step 4 (.step 1 (.step 2 (.step 5 (.step 6 .done))))))) (.step 4 (.step 0 (.step 1 (.step 2 (.step 5 (.step 6 .done))))))))) (by kernel_rfl) ?_ | refine ww1 ?_ | (refine wK ?_; clear hK) | (simp only [wHb, reduceCtorEq] at hb <;> try (exfalso; omega)) | (refine Qaz true ?_ ?_ (fun hh => nomatch hh); focus (simp only [go_sem, Int.reduceBEq, Int.reduceBNe, Int.reduceLT, Int.reduceLE, Int.reduceAdd, Int.reduceToNat, F]; done); intro _) | (refine Qaz false ?_ (fun hh => nomatch hh) ?_; focus (simp only [go_sem, Int.reduceBEq, Int.reduceBNe, Int.reduceLT, Int.reduceLE, Int.reduceAdd, Int.reduceToNat, F]; done); intro _) | refine Qcf (fun hb => ?_) fun hb => ?_ | refine Qce ?_ | refine ww4 ?_ | refine Qcc (fun hb => ?_) fun hb => ?_ | refine And.intro ?_ ?_ | exact trivial
      all_goals refine Qbf [(1, k, 2)] (by simp only [Qb1, Qco, go_sem, hkr, List.getElem?_set_self hkr, List.set_set, List.length_set, List.set_cons_succ, List.set_cons_zero, Qaa, Qai, Nat.le_refl, hbk, Qa2]; rfl) [.root 151 (Qat s.heads), .root 89 (Qar 91 s.descs)] rfl (by simp [Qbx, Qbd, HpE, Qb7, Qa2, hbk]) rfl (by simp only [go_sem, Qcd]; rfl) (acc := []) rfl (by simp) rfl
    have c2q : decide (0 ≤ h.desc) = false := decide_eq_false c2
    by_cases c3 : h.version = e.version
    · have hm : Qa5 s f k d e o h = (⟨s.heads.set o ⟨h.value, h.version, f.desc⟩, s.descs⟩, Qc5 d.entries.length f 2, -1) := by rw [Qa5, if_neg p0, if_pos p1, if_neg c1, if_neg c2, if_neg (by simp [c3])]
      rw [hm] at hr
      subst hr
      have c3q : (h.version != e.version) = false := by simp [c3]
      have hnx := Qhs ⟨s.heads.set o ⟨h.value, h.version, f.desc⟩, s.descs⟩ f 2 k d hk hd (by omega) (by omega) ⟨by simpa using f1, f2, f3⟩
      unfold StoreD.cells FrameD.cells at hnx
      simp only at hnx
      rw [hk, hj, p1] at hnx
      have hset := Qb7 s.heads o ⟨h.value, h.version, (k : Int)⟩
      simp only at hset
      have hpr := Qaf (s.heads.set o ⟨h.value, h.version, (k : Int)⟩)
      have htk : (Qat (s.heads.set o ⟨h.value, h.version, (k : Int)⟩)).take s.heads.length = Qat (s.heads.set o ⟨h.value, h.version, (k : Int)⟩) := by
        have := Qaj (s.heads.set o ⟨h.value, h.version, (k : Int)⟩)
        rwa [List.length_set] at this
      simp only [hk]
      have F := wwA @Qab (wwA @Qaa (wwA @Qad (wwA hk (wwA hj (wwA hk0 (wwA hj0 (wwA ho0 (wwA hkl (wwA hjl (wwA hol (wwA hrd (wwA hre (wwA hrh (wwA hkr (wwA hor (wwA (fun a => List.getElem?_set_self (a := a) hkr) (wwA @List.length_set.{0} (wwA @Nat.le_refl (wwA p1 (wwA c1q (wwA c2q (wwA c3q (wwA hbk (wwA @Qai (wwA hpr (wwA htk (wwA @Qae (wwA @Qak (wwA @List.set_set.{0} (wwA hset (wwA @Qef (wwA @Qei (wwA @Qdr (wwA @Qeg @Qfv))))))))))))))))))))))))))))))))))
      repeat' first | refine wSq fun _ hK => ?_ | refine Ql0 (id := 1) [(1, k, 2)] ?_ | refine Qzu (id := 17) [(1, k, 2)] ?_ | refine Qej hT hM (id := 13) (.both (.step 0 (.both (.step 1 (.both (.step 2 (.both (.step 3 (.both (.step 4 (.step 5 (.step 6 .done))) (.step 5 (.step 4 (.step 6 .done))))) (.step 5 (.step 3 (.step 4 (.step 6 .done)))))) (.step 3 (.both (.step 2 (.both (.step 4 (.step 5 (.step 6 .done))) (.step 5 (.step 4 (.step 6 .done))))) (.step 4 (.step 2 (.step 5 (.step 6 .done)))))))) (.step 3 (.both (.step 1 (.both (.step 2 (.both (.step 4 (.step 5 (.step 6 .done))) (.step 5 (.step 4 (.step 6 .done))))) (.step 4 (.step 2 (.step 5 (.step 6 .done)))))) (.step 4 (.step 1 (.step 2 (.step 5 (.step 6 .done))))))))) (.step 3 (.both (.step 0 (.both (.step 1 (.both (.step 2 (.both (.step 4 (.step 5 (.step 6 .done))) (.step 5 (.step 4 (.step 6 .done))))) (.step 4 (.step 2 (.step 5 (.step 6 .done)))))) (.step 4 (.step 1 (.step 2 (.step 5 (.step 6 .done))))))) (.step 4 (.step 0 (.step 1 (.step 2 (.step 5 (.step 6 .done))))))))) (by kernel_rfl) ?_ | refine ww1 ?_ | (refine wK ?_; clear hK) | (simp only [wHb, reduceCtorEq] at hb <;> try (exfalso; omega)) | (refine Qaz true ?_ ?_ (fun hh => nomatch hh); focus (simp only [go_sem, Int.reduceBEq, Int.reduceBNe, Int.reduceLT, Int.reduceLE, Int.reduceAdd, Int.reduceToNat, F]; done); intro _) | (refine Qaz false ?_ (fun hh => nomatch hh) ?_; focus (simp only [go_sem, Int.reduceBEq, Int.reduceBNe, Int.reduceLT, Int.reduceLE, Int.reduceAdd, Int.reduceToNat, F]; done); intro _) | refine Qcf (fun hb => ?_) fun hb => ?_ | refine Qgs (c := by first | exact hnx) (k := ?_) | refine Qce ?_ | refine ww4 ?_ | refine Qcc (fun hb => ?_) fun hb => ?_ | refine And.intro ?_ ?_ | exact trivial
      refine Qbf [] rfl [.root 151 (Qat (s.heads.set o ⟨h.value, h.version, (k : Int)⟩)), .root 89 (Qar 91 s.descs)] rfl (by simp [Qbx, Qbd, HpE, Qb7, Qa2, hbk]) rfl (by simp only [go_sem, Qcd]; rfl) (acc := []) rfl (by simp) rfl
    · have hm : Qa5 s f k d e o h = (s, ⟨f.desc, 3, 0⟩, -1) := by rw [Qa5, if_neg p0, if_pos p1, if_neg c1, if_neg c2, if_pos c3]
      rw [hm] at hr
      subst hr
      have c3q : (h.version != e.version) = true := by simpa using c3
      have F := wwA @Qab (wwA @Qaa (wwA @Qad (wwA hk (wwA hj (wwA hk0 (wwA hj0 (wwA ho0 (wwA hkl (wwA hjl (wwA hol (wwA hrd (wwA hre (wwA hrh (wwA hkr (wwA hor (wwA (fun a => List.getElem?_set_self (a := a) hkr) (wwA @List.length_set.{0} (wwA @Nat.le_refl (wwA p1 (wwA c1q (wwA c2q (wwA c3q (wwA @Qef (wwA @Qei (wwA @Qdr (wwA @Qeg @Qfv))))))))))))))))))))))))))
      repeat' first | refine wSq fun _ hK => ?_ | refine Ql0 (id := 1) [(1, k, 2)] ?_ | refine Qej hT hM (id := 13) (.both (.step 0 (.both (.step 1 (.both (.step 2 (.both (.step 3 (.both (.step 4 (.step 5 (.step 6 .done))) (.step 5 (.step 4 (.step 6 .done))))) (.step 5 (.step 3 (.step 4 (.step 6 .done)))))) (.step 3 (.both (.step 2 (.both (.step 4 (.step 5 (.step 6 .done))) (.step 5 (.step 4 (.step 6 .done))))) (.step 4 (.step 2 (.step 5 (.step 6 .done)))))))) (.step 3 (.both (.step 1 (.both (.step 2 (.both (.step 4 (.step 5 (.step 6 .done))) (.step 5 (.step 4 (.step 6 .done))))) (.step 4 (.step 2 (.step 5 (.step 6 .done)))))) (.step 4 (.step 1 (.step 2 (.step 5 (.step 6 .done))))))))) (.step 3 (.both (.step 0 (.both (.step 1 (.both (.step 2 (.both (.step 4 (.step 5 (.step 6 .done))) (.step 5 (.step 4 (.step 6 .done))))) (.step 4 (.step 2 (.step 5 (.step 6 .done)))))) (.step 4 (.step 1 (.step 2 (.step 5 (.step 6 .done))))))) (.step 4 (.step 0 (.step 1 (.step 2 (.step 5 (.step 6 .done))))))))) (by kernel_rfl) ?_ | refine ww1 ?_ | (refine wK ?_; clear hK) | (simp only [wHb, reduceCtorEq] at hb <;> try (exfalso; omega)) | (refine Qaz true ?_ ?_ (fun hh => nomatch hh); focus (simp only [go_sem, Int.reduceBEq, Int.reduceBNe, Int.reduceLT, Int.reduceLE, Int.reduceAdd, Int.reduceToNat, F]; done); intro _) | (refine Qaz false ?_ (fun hh => nomatch hh) ?_; focus (simp only [go_sem, Int.reduceBEq, Int.reduceBNe, Int.reduceLT, Int.reduceLE, Int.reduceAdd, Int.reduceToNat, F]; done); intro _) | refine Qcf (fun hb => ?_) fun hb => ?_ | refine Qce ?_ | refine ww4 ?_ | refine Qcc (fun hb => ?_) fun hb => ?_ | refine And.intro ?_ ?_ | exact trivial
      refine Qbf [(1, k, 2)] (by simp only [Qb1, Qco, go_sem, hkr, List.getElem?_set_self hkr, List.set_set, List.length_set, List.set_cons_succ, List.set_cons_zero, Qaa, Qai, Nat.le_refl, hbk, Qa2]; rfl) [.root 151 (Qat s.heads), .root 89 (Qar 91 s.descs)] rfl (by simp [Qbx, Qbd, HpE, Qb7, Qa2, hbk]) rfl (by simp only [go_sem, Qcd]; rfl) (acc := []) rfl (by simp) rfl
  have p1q : (f.phase == 1) = false := by simpa using p1
  by_cases p2 : f.phase = 2
  · by_cases st : d.status = 0
    · have hm : Qa5 s f k d e o h = (⟨s.heads, s.descs.set k ⟨d.owner, 1, d.entries⟩⟩, ⟨f.desc, 4, 0⟩, -1) := by rw [Qa5, if_neg p0, if_neg p1, if_pos (.inl p2), if_pos st, if_pos p2]
      rw [hm] at hr
      subst hr
      have stq : (d.status == 0) = true := by simp [st]
      have F := wwA @Qab (wwA @Qaa (wwA @Qad (wwA hk (wwA hj (wwA hk0 (wwA hj0 (wwA ho0 (wwA hkl (wwA hjl (wwA hol (wwA hrd (wwA hre (wwA hrh (wwA hkr (wwA hor (wwA (fun a => List.getElem?_set_self (a := a) hkr) (wwA @List.length_set.{0} (wwA @Nat.le_refl (wwA p2 (wwA stq (wwA @List.set_set.{0} (wwA @List.set_cons_succ.{0} @List.set_cons_zero.{0}))))))))))))))))))))))
      repeat' first | refine wSq fun _ hK => ?_ | refine Ql0 (id := 1) [(1, k, 2)] ?_ | refine ww1 ?_ | (refine wK ?_; clear hK) | (simp only [wHb, reduceCtorEq] at hb <;> try (exfalso; omega)) | (refine Qaz true ?_ ?_ (fun hh => nomatch hh); focus (simp only [go_sem, Int.reduceBEq, Int.reduceBNe, Int.reduceLT, Int.reduceLE, Int.reduceAdd, Int.reduceToNat, F]; done); intro _) | (refine Qaz false ?_ (fun hh => nomatch hh) ?_; focus (simp only [go_sem, Int.reduceBEq, Int.reduceBNe, Int.reduceLT, Int.reduceLE, Int.reduceAdd, Int.reduceToNat, F]; done); intro _) | refine Qcf (fun hb => ?_) fun hb => ?_ | refine Qce ?_ | refine ww4 ?_ | refine Qcc (fun hb => ?_) fun hb => ?_ | exact trivial
      refine Qbf [(1, k, 2)] (by simp only [Qb1, Qco, go_sem, hkr, List.getElem?_set_self hkr, List.set_set, List.length_set, List.set_cons_succ, List.set_cons_zero, Qaa, Qai, Nat.le_refl, hbk, Qa2]; rfl) [.root 151 (Qat s.heads), .root 89 (Qar 91 (s.descs.set k ⟨d.owner, 1, d.entries⟩))] rfl (by simp [Qbx, Qbd, HpE, Qb7, Qa2, hbk]) rfl (by simp only [go_sem, Qcd]; rfl) (acc := []) rfl (by simp) rfl
    · have hm : Qa5 s f k d e o h = (s, ⟨f.desc, 4, 0⟩, -1) := by rw [Qa5, if_neg p0, if_neg p1, if_pos (.inl p2), if_neg st]
      rw [hm] at hr
      subst hr
      have stq : (d.status == 0) = false := by simpa using st
      have F := wwA @Qab (wwA @Qaa (wwA @Qad (wwA hk (wwA hj (wwA hk0 (wwA hj0 (wwA ho0 (wwA hkl (wwA hjl (wwA hol (wwA hrd (wwA hre (wwA hrh (wwA hkr (wwA hor (wwA (fun a => List.getElem?_set_self (a := a) hkr) (wwA @List.length_set.{0} (wwA @Nat.le_refl (wwA p2 stq)))))))))))))))))))
      repeat' first | refine wSq fun _ hK => ?_ | refine Ql0 (id := 1) [(1, k, 2)] ?_ | refine ww1 ?_ | (refine wK ?_; clear hK) | (simp only [wHb, reduceCtorEq] at hb <;> try (exfalso; omega)) | (refine Qaz true ?_ ?_ (fun hh => nomatch hh); focus (simp only [go_sem, Int.reduceBEq, Int.reduceBNe, Int.reduceLT, Int.reduceLE, Int.reduceAdd, Int.reduceToNat, F]; done); intro _) | (refine Qaz false ?_ (fun hh => nomatch hh) ?_; focus (simp only [go_sem, Int.reduceBEq, Int.reduceBNe, Int.reduceLT, Int.reduceLE, Int.reduceAdd, Int.reduceToNat, F]; done); intro _) | refine Qcf (fun hb => ?_) fun hb => ?_ | refine Qce ?_ | refine ww4 ?_ | refine Qcc (fun hb => ?_) fun hb => ?_ | exact trivial
      refine Qbf [(1, k, 2)] (by simp only [Qb1, Qco, go_sem, hkr, List.getElem?_set_self hkr, List.set_set, List.length_set, List.set_cons_succ, List.set_cons_zero, Qaa, Qai, Nat.le_refl, hbk, Qa2]; rfl) [.root 151 (Qat s.heads), .root 89 (Qar 91 s.descs)] rfl (by simp [Qbx, Qbd, HpE, Qb7, Qa2, hbk]) rfl (by simp only [go_sem, Qcd]; rfl) (acc := []) rfl (by simp) rfl
  have p2q : (f.phase == 2) = false := by simpa using p2
  by_cases p3 : f.phase = 3
  · by_cases st : d.status = 0
    · have hm : Qa5 s f k d e o h = (⟨s.heads, s.descs.set k ⟨d.owner, 2, d.entries⟩⟩, ⟨f.desc, 4, 0⟩, -1) := by rw [Qa5, if_neg p0, if_neg p1, if_pos (.inr p3), if_pos st, if_neg p2]
      rw [hm] at hr
      subst hr
      have stq : (d.status == 0) = true := by simp [st]
      have F := wwA @Qab (wwA @Qaa (wwA @Qad (wwA hk (wwA hj (wwA hk0 (wwA hj0 (wwA ho0 (wwA hkl (wwA hjl (wwA hol (wwA hrd (wwA hre (wwA hrh (wwA hkr (wwA hor (wwA (fun a => List.getElem?_set_self (a := a) hkr) (wwA @List.length_set.{0} (wwA @Nat.le_refl (wwA p3 (wwA stq (wwA @List.set_set.{0} (wwA @List.set_cons_succ.{0} @List.set_cons_zero.{0}))))))))))))))))))))))
      repeat' first | refine wSq fun _ hK => ?_ | refine Ql0 (id := 1) [(1, k, 2)] ?_ | refine ww1 ?_ | (refine wK ?_; clear hK) | (simp only [wHb, reduceCtorEq] at hb <;> try (exfalso; omega)) | (refine Qaz true ?_ ?_ (fun hh => nomatch hh); focus (simp only [go_sem, Int.reduceBEq, Int.reduceBNe, Int.reduceLT, Int.reduceLE, Int.reduceAdd, Int.reduceToNat, F]; done); intro _) | (refine Qaz false ?_ (fun hh => nomatch hh) ?_; focus (simp only [go_sem, Int.reduceBEq, Int.reduceBNe, Int.reduceLT, Int.reduceLE, Int.reduceAdd, Int.reduceToNat, F]; done); intro _) | refine Qcf (fun hb => ?_) fun hb => ?_ | refine Qce ?_ | refine ww4 ?_ | refine Qcc (fun hb => ?_) fun hb => ?_ | exact trivial
      refine Qbf [(1, k, 2)] (by simp only [Qb1, Qco, go_sem, hkr, List.getElem?_set_self hkr, List.set_set, List.length_set, List.set_cons_succ, List.set_cons_zero, Qaa, Qai, Nat.le_refl, hbk, Qa2]; rfl) [.root 151 (Qat s.heads), .root 89 (Qar 91 (s.descs.set k ⟨d.owner, 2, d.entries⟩))] rfl (by simp [Qbx, Qbd, HpE, Qb7, Qa2, hbk]) rfl (by simp only [go_sem, Qcd]; rfl) (acc := []) rfl (by simp) rfl
    · have hm : Qa5 s f k d e o h = (s, ⟨f.desc, 4, 0⟩, -1) := by rw [Qa5, if_neg p0, if_neg p1, if_pos (.inr p3), if_neg st]
      rw [hm] at hr
      subst hr
      have stq : (d.status == 0) = false := by simpa using st
      have F := wwA @Qab (wwA @Qaa (wwA @Qad (wwA hk (wwA hj (wwA hk0 (wwA hj0 (wwA ho0 (wwA hkl (wwA hjl (wwA hol (wwA hrd (wwA hre (wwA hrh (wwA hkr (wwA hor (wwA (fun a => List.getElem?_set_self (a := a) hkr) (wwA @List.length_set.{0} (wwA @Nat.le_refl (wwA p3 stq)))))))))))))))))))
      repeat' first | refine wSq fun _ hK => ?_ | refine Ql0 (id := 1) [(1, k, 2)] ?_ | refine ww1 ?_ | (refine wK ?_; clear hK) | (simp only [wHb, reduceCtorEq] at hb <;> try (exfalso; omega)) | (refine Qaz true ?_ ?_ (fun hh => nomatch hh); focus (simp only [go_sem, Int.reduceBEq, Int.reduceBNe, Int.reduceLT, Int.reduceLE, Int.reduceAdd, Int.reduceToNat, F]; done); intro _) | (refine Qaz false ?_ (fun hh => nomatch hh) ?_; focus (simp only [go_sem, Int.reduceBEq, Int.reduceBNe, Int.reduceLT, Int.reduceLE, Int.reduceAdd, Int.reduceToNat, F]; done); intro _) | refine Qcf (fun hb => ?_) fun hb => ?_ | refine Qce ?_ | refine ww4 ?_ | refine Qcc (fun hb => ?_) fun hb => ?_ | exact trivial
      refine Qbf [(1, k, 2)] (by simp only [Qb1, Qco, go_sem, hkr, List.getElem?_set_self hkr, List.set_set, List.length_set, List.set_cons_succ, List.set_cons_zero, Qaa, Qai, Nat.le_refl, hbk, Qa2]; rfl) [.root 151 (Qat s.heads), .root 89 (Qar 91 s.descs)] rfl (by simp [Qbx, Qbd, HpE, Qb7, Qa2, hbk]) rfl (by simp only [go_sem, Qcd]; rfl) (acc := []) rfl (by simp) rfl
  have p3q : (f.phase == 3) = false := by simpa using p3
  by_cases p4 : f.phase = 4
  · by_cases c1 : h.desc = f.desc
    · have c1q : (h.desc == (k : Int)) = true := by simp [c1, hk]
      by_cases hcm : d.status = 1 ∧ e.write = true
      · have hm : Qa5 s f k d e o h = (⟨s.heads.set o ⟨e.new, (h.version + 1).tmod 1000001, -1⟩, s.descs⟩, Qc5 d.entries.length f 5, -1) := by rw [Qa5, if_neg p0, if_neg p1, if_neg (by omega), if_pos p4, if_pos c1, Qzr, if_pos hcm]
        rw [hm] at hr
        subst hr
        obtain ⟨hs1, hwr⟩ := hcm
        have s1q : (d.status == 1) = true := by simp [hs1]
        rw [hwr] at hre
        have hset := Qb7 s.heads o ⟨e.new, (h.version + 1).tmod 1000001, -1⟩
        simp only at hset
        have hpr := Qaf (s.heads.set o ⟨e.new, (h.version + 1).tmod 1000001, -1⟩)
        have htk : (Qat (s.heads.set o ⟨e.new, (h.version + 1).tmod 1000001, -1⟩)).take s.heads.length = Qat (s.heads.set o ⟨e.new, (h.version + 1).tmod 1000001, -1⟩) := by
          have := Qaj (s.heads.set o ⟨e.new, (h.version + 1).tmod 1000001, -1⟩)
          rwa [List.length_set] at this
        have hnx := Qhs ⟨s.heads.set o ⟨e.new, (h.version + 1).tmod 1000001, -1⟩, s.descs⟩ f 5 k d hk hd (by omega) (by omega) ⟨by simpa using f1, f2, f3⟩
        unfold StoreD.cells FrameD.cells at hnx
        simp only at hnx
        rw [hk, hj, p4] at hnx
        have hwv := Qax (x := h.version + 1) (by omega)
        have hwm : IntKind.i64.wrap ((h.version + 1).tmod 1000001) = (h.version + 1).tmod 1000001 := Qax (by have := Int.tmod_lt_of_pos (h.version + 1) (b := 1000001) (by omega); have := Int.tmod_nonneg (a := h.version + 1) 1000001 (by omega); omega)
        have F := wwA @Qab (wwA @Qaa (wwA @Qad (wwA hk (wwA hj (wwA hk0 (wwA hj0 (wwA ho0 (wwA hkl (wwA hjl (wwA hol (wwA hrd (wwA hre (wwA hrh (wwA hkr (wwA hor (wwA (fun a => List.getElem?_set_self (a := a) hkr) (wwA @List.length_set.{0} (wwA @Nat.le_refl (wwA p4 (wwA c1q (wwA s1q (wwA hwv (wwA hwm (wwA hbk (wwA @Qai (wwA hpr (wwA htk (wwA @Qae (wwA @Qak (wwA @List.set_set.{0} hset))))))))))))))))))))))))))))))
        repeat' first | refine wSq fun _ hK => ?_ | refine Ql0 (id := 1) [(1, k, 2)] ?_ | refine Qzu (id := 32) [(1, k, 2)] ?_ | refine ww1 ?_ | (refine wK ?_; clear hK) | (simp only [wHb, reduceCtorEq] at hb <;> try (exfalso; omega)) | (refine Qaz true ?_ ?_ (fun hh => nomatch hh); focus (simp only [go_sem, Int.reduceBEq, Int.reduceBNe, Int.reduceLT, Int.reduceLE, Int.reduceAdd, Int.reduceToNat, F]; done); intro _) | (refine Qaz false ?_ (fun hh => nomatch hh) ?_; focus (simp only [go_sem, Int.reduceBEq, Int.reduceBNe, Int.reduceLT, Int.reduceLE, Int.reduceAdd, Int.reduceToNat, F]; done); intro _) | refine Qcf (fun hb => ?_) fun hb => ?_ | refine Qgs (c := by first | exact hnx) (k := ?_) | refine Qce ?_ | refine ww4 ?_ | refine Qcc (fun hb => ?_) fun hb => ?_ | exact trivial
        refine Qbf [] rfl [.root 151 (Qat (s.heads.set o ⟨e.new, (h.version + 1).tmod 1000001, -1⟩)), .root 89 (Qar 91 s.descs)] rfl (by simp [Qbx, Qbd, HpE, Qb7, Qa2, hbk]) rfl (by simp only [go_sem, Qcd]; rfl) (acc := []) rfl (by simp) rfl
      · have hm : Qa5 s f k d e o h = (⟨s.heads.set o ⟨h.value, h.version, -1⟩, s.descs⟩, Qc5 d.entries.length f 5, -1) := by rw [Qa5, if_neg p0, if_neg p1, if_neg (by omega), if_pos p4, if_pos c1, Qzr, if_neg hcm]
        rw [hm] at hr
        subst hr
        have hset := Qb7 s.heads o ⟨h.value, h.version, -1⟩
        simp only at hset
        have hpr := Qaf (s.heads.set o ⟨h.value, h.version, -1⟩)
        have htk : (Qat (s.heads.set o ⟨h.value, h.version, -1⟩)).take s.heads.length = Qat (s.heads.set o ⟨h.value, h.version, -1⟩) := by
          have := Qaj (s.heads.set o ⟨h.value, h.version, -1⟩)
          rwa [List.length_set] at this
        have hnx := Qhs ⟨s.heads.set o ⟨h.value, h.version, -1⟩, s.descs⟩ f 5 k d hk hd (by omega) (by omega) ⟨by simpa using f1, f2, f3⟩
        unfold StoreD.cells FrameD.cells at hnx
        simp only at hnx
        rw [hk, hj, p4] at hnx
        by_cases hs1 : d.status = 1
        · have s1q : (d.status == 1) = true := by simp [hs1]
          have hwf : e.write = false := by
            cases hwr : e.write with
            | true => exact absurd ⟨hs1, hwr⟩ hcm
            | false => rfl
          rw [hwf] at hre
          have F := wwA @Qab (wwA @Qaa (wwA @Qad (wwA hk (wwA hj (wwA hk0 (wwA hj0 (wwA ho0 (wwA hkl (wwA hjl (wwA hol (wwA hrd (wwA hre (wwA hrh (wwA hkr (wwA hor (wwA (fun a => List.getElem?_set_self (a := a) hkr) (wwA @List.length_set.{0} (wwA @Nat.le_refl (wwA p4 (wwA c1q (wwA s1q (wwA hbk (wwA @Qai (wwA hpr (wwA htk (wwA @Qae (wwA @Qak (wwA @List.set_set.{0} hset))))))))))))))))))))))))))))
          repeat' first | refine wSq fun _ hK => ?_ | refine Ql0 (id := 1) [(1, k, 2)] ?_ | refine Qzu (id := 32) [(1, k, 2)] ?_ | refine ww1 ?_ | (refine wK ?_; clear hK) | (simp only [wHb, reduceCtorEq] at hb <;> try (exfalso; omega)) | (refine Qaz true ?_ ?_ (fun hh => nomatch hh); focus (simp only [go_sem, Int.reduceBEq, Int.reduceBNe, Int.reduceLT, Int.reduceLE, Int.reduceAdd, Int.reduceToNat, F]; done); intro _) | (refine Qaz false ?_ (fun hh => nomatch hh) ?_; focus (simp only [go_sem, Int.reduceBEq, Int.reduceBNe, Int.reduceLT, Int.reduceLE, Int.reduceAdd, Int.reduceToNat, F]; done); intro _) | refine Qcf (fun hb => ?_) fun hb => ?_ | refine Qgs (c := by first | exact hnx) (k := ?_) | refine Qce ?_ | refine ww4 ?_ | refine Qcc (fun hb => ?_) fun hb => ?_ | exact trivial
          refine Qbf [] rfl [.root 151 (Qat (s.heads.set o ⟨h.value, h.version, -1⟩)), .root 89 (Qar 91 s.descs)] rfl (by simp [Qbx, Qbd, HpE, Qb7, Qa2, hbk]) rfl (by simp only [go_sem, Qcd]; rfl) (acc := []) rfl (by simp) rfl
        · have s1q : (d.status == 1) = false := by simpa using hs1
          have F := wwA @Qab (wwA @Qaa (wwA @Qad (wwA hk (wwA hj (wwA hk0 (wwA hj0 (wwA ho0 (wwA hkl (wwA hjl (wwA hol (wwA hrd (wwA hre (wwA hrh (wwA hkr (wwA hor (wwA (fun a => List.getElem?_set_self (a := a) hkr) (wwA @List.length_set.{0} (wwA @Nat.le_refl (wwA p4 (wwA c1q (wwA s1q (wwA hbk (wwA @Qai (wwA hpr (wwA htk (wwA @Qae (wwA @Qak (wwA @List.set_set.{0} hset))))))))))))))))))))))))))))
          repeat' first | refine wSq fun _ hK => ?_ | refine Ql0 (id := 1) [(1, k, 2)] ?_ | refine Qzu (id := 32) [(1, k, 2)] ?_ | refine ww1 ?_ | (refine wK ?_; clear hK) | (simp only [wHb, reduceCtorEq] at hb <;> try (exfalso; omega)) | (refine Qaz true ?_ ?_ (fun hh => nomatch hh); focus (simp only [go_sem, Int.reduceBEq, Int.reduceBNe, Int.reduceLT, Int.reduceLE, Int.reduceAdd, Int.reduceToNat, F]; done); intro _) | (refine Qaz false ?_ (fun hh => nomatch hh) ?_; focus (simp only [go_sem, Int.reduceBEq, Int.reduceBNe, Int.reduceLT, Int.reduceLE, Int.reduceAdd, Int.reduceToNat, F]; done); intro _) | refine Qcf (fun hb => ?_) fun hb => ?_ | refine Qgs (c := by first | exact hnx) (k := ?_) | refine Qce ?_ | refine ww4 ?_ | refine Qcc (fun hb => ?_) fun hb => ?_ | exact trivial
          refine Qbf [] rfl [.root 151 (Qat (s.heads.set o ⟨h.value, h.version, -1⟩)), .root 89 (Qar 91 s.descs)] rfl (by simp [Qbx, Qbd, HpE, Qb7, Qa2, hbk]) rfl (by simp only [go_sem, Qcd]; rfl) (acc := []) rfl (by simp) rfl
    · have hm : Qa5 s f k d e o h = (s, Qc5 d.entries.length f 5, -1) := by rw [Qa5, if_neg p0, if_neg p1, if_neg (by omega), if_pos p4, if_neg c1]
      rw [hm] at hr
      subst hr
      have c1q : (h.desc == (k : Int)) = false := by rw [beq_eq_false_iff_ne, ← hk]; exact c1
      have hnx := Qhs s f 5 k d hk hd (by omega) (by omega) ⟨f1, f2, f3⟩
      unfold StoreD.cells FrameD.cells at hnx
      rw [hk, hj, p4] at hnx
      have F := wwA @Qab (wwA @Qaa (wwA @Qad (wwA hk (wwA hj (wwA hk0 (wwA hj0 (wwA ho0 (wwA hkl (wwA hjl (wwA hol (wwA hrd (wwA hre (wwA hrh (wwA hkr (wwA hor (wwA (fun a => List.getElem?_set_self (a := a) hkr) (wwA @List.length_set.{0} (wwA @Nat.le_refl (wwA p4 (wwA c1q (wwA hbk (wwA @Qai (wwA @Qaf (wwA @Qaj (wwA @Qae (wwA @Qak @List.set_set.{0}))))))))))))))))))))))))))
      repeat' first | refine wSq fun _ hK => ?_ | refine Ql0 (id := 1) [(1, k, 2)] ?_ | refine Qzu (id := 32) [(1, k, 2)] ?_ | refine ww1 ?_ | (refine wK ?_; clear hK) | (simp only [wHb, reduceCtorEq] at hb <;> try (exfalso; omega)) | (refine Qaz true ?_ ?_ (fun hh => nomatch hh); focus (simp only [go_sem, Int.reduceBEq, Int.reduceBNe, Int.reduceLT, Int.reduceLE, Int.reduceAdd, Int.reduceToNat, F]; done); intro _) | (refine Qaz false ?_ (fun hh => nomatch hh) ?_; focus (simp only [go_sem, Int.reduceBEq, Int.reduceBNe, Int.reduceLT, Int.reduceLE, Int.reduceAdd, Int.reduceToNat, F]; done); intro _) | refine Qcf (fun hb => ?_) fun hb => ?_ | refine Qgs (c := by first | exact hnx) (k := ?_) | refine Qce ?_ | refine ww4 ?_ | refine Qcc (fun hb => ?_) fun hb => ?_ | exact trivial
      refine Qbf [] rfl [.root 151 (Qat s.heads), .root 89 (Qar 91 s.descs)] rfl (by simp [Qbx, Qbd, HpE, Qb7, Qa2, hbk]) rfl (by simp only [go_sem, Qcd]; rfl) (acc := []) rfl (by simp) rfl
  · have p4q : (f.phase == 4) = false := by simpa using p4
    have hm : Qa5 s f k d e o h = (s, f, -1) := by rw [Qa5, if_neg p0, if_neg p1, if_neg (by omega), if_neg p4]
    rw [hm] at hr
    subst hr
    have F := wwA @Qab (wwA @Qaa (wwA @Qad (wwA hk (wwA hj (wwA hk0 (wwA hj0 (wwA ho0 (wwA hkl (wwA hjl (wwA hol (wwA hrd (wwA hre (wwA hrh (wwA hkr (wwA hor (wwA (fun a => List.getElem?_set_self (a := a) hkr) (wwA @List.length_set.{0} (wwA @Nat.le_refl (wwA p0q (wwA p1q (wwA p2q (wwA p3q p4q))))))))))))))))))))))
    repeat' first | refine wSq fun _ hK => ?_ | refine Ql0 (id := 1) [(1, k, 2)] ?_ | refine ww1 ?_ | (refine wK ?_; clear hK) | (simp only [wHb, reduceCtorEq] at hb <;> try (exfalso; omega)) | (refine Qaz true ?_ ?_ (fun hh => nomatch hh); focus (simp only [go_sem, Int.reduceBEq, Int.reduceBNe, Int.reduceLT, Int.reduceLE, Int.reduceAdd, Int.reduceToNat, F]; done); intro _) | (refine Qaz false ?_ (fun hh => nomatch hh) ?_; focus (simp only [go_sem, Int.reduceBEq, Int.reduceBNe, Int.reduceLT, Int.reduceLE, Int.reduceAdd, Int.reduceToNat, F]; done); intro _) | refine Qcf (fun hb => ?_) fun hb => ?_ | refine Qce ?_ | refine ww4 ?_ | refine Qcc (fun hb => ?_) fun hb => ?_ | exact trivial
    refine Qbf [(1, k, 2)] (by simp only [Qb1, Qco, go_sem, hkr, List.getElem?_set_self hkr, List.set_set, List.length_set, List.set_cons_succ, List.set_cons_zero, Qaa, Qai, Nat.le_refl, hbk, Qa2]; rfl) [.root 151 (Qat s.heads), .root 89 (Qar 91 s.descs)] rfl (by simp [Qbx, Qbd, HpE, Qb7, Qa2, hbk]) rfl (by simp only [go_sem, Qcd]; rfl) (acc := []) rfl (by simp) rfl
def Qic (ds : List DescS) (i : Nat) : Int := 2 * (i : Int) + 5 * (Qdf (ds.take i) : Int)
def mkD (k : Int) (ds : List DescS) (j : Nat) (d : DescS) : DescS := ⟨k + Qic ds j, k + Qic ds j + 1, Qfl (k + Qic ds j + 1 + 1) d.entries.length⟩
def Qjv (k : Int) (ds : List DescS) : List DescS := ds.mapIdx fun j d => mkD k ds j d
theorem Qgj (k : Int) (ds : List DescS) : (Qjv k ds).length = ds.length := by simp [Qjv]
theorem Qs7 {k : Int} {ds : List DescS} {j : Nat} {d : DescS} (h : ds[j]? = some d) : (Qjv k ds)[j]? = some (mkD k ds j d) := by simp [Qjv, h]
theorem Qs2 {ds : List DescS} {i : Nat} {d : DescS} (h : ds[i]? = some d) : Qic ds (i + 1) = Qic ds i + 2 + 5 * d.entries.length := by
  unfold Qic
  rw [Qn4 h]
  omega
theorem Qin (ds : List DescS) {i : Nat} (h : i ≤ ds.length) : 0 ≤ Qic ds i ∧ Qic ds i ≤ 2 * (ds.length : Int) + 5 * (Qdf ds : Int) := by
  unfold Qic
  have := Qou ds i
  omega
theorem Qtt (ds : List DescS) (k : Int) (h0 : 0 ≤ k) (h1 : k ≤ 1073741824) (hl : ds.length ≤ 1048576) (he : Qdf ds ≤ 1048576) :
    SatO Tryz.prog 78 [.rf 0 ds.length, .int .i64 k] [.root 89 (Qar 91 ds)] (.int .i64 (k + Qic ds ds.length)) [.root 89 (Qar 91 (Qjv k ds))] := by
  refine wEo Tryz.func78 [.tmp 4] 34 1 ⟨⟨rfl, Qae _ _⟩, by simp [Qbc]⟩ fun E hE => ?_
  have F := @Qab
  repeat' first | refine wSq fun _ hK => ?_ | refine ww1 ?_ | (refine wK ?_; clear hK) | (simp only [wHb, reduceCtorEq] at hb <;> try (exfalso; omega)) | refine wCd (fun hb => ?_) fun hb => ?_ | refine ww3 ?_ | refine ww4 ?_ | refine wGd (fun hb => ?_) fun hb => ?_ | exact trivial
  refine Qa4 (X := Nat × List (List PT)) (fun x => [(0, .rf 0 ds.length), (1, .int .i64 (k + Qic ds x.1)), (5, .int .i64 x.1)]) (fun x => [(0, .root 89 x.2)]) (fun x => ds.length - x.1)
    (fun x => x.1 ≤ ds.length ∧ x.2.length = ds.length ∧ (∀ j e, j < x.1 → ds[j]? = some e → x.2[j]? = some (Quq 91 (mkD k ds j e))) ∧ (∀ j e, x.1 ≤ j → ds[j]? = some e → x.2[j]? = some (Quq 91 e)))
    1 (0, Qar 91 ds) ⟨by simp, by simp [Qab], by simp, fun j e _ hj => by rw [Qbl hj]; rfl⟩ (by simp [Qbo, Qic, Qdf]) (by simp [HpE]) (by simp) ?_
  rintro ⟨i, rows⟩ nx ⟨hi, hlen, hdone, hrest⟩ hB
  simp only at hi hlen hdone hrest
  rcases Nat.lt_or_ge i ds.length with hlt | hge
  · obtain ⟨e, hei⟩ : ∃ e, ds[i]? = some e := ⟨_, List.getElem?_eq_getElem hlt⟩
    have hr := hrest i e (Nat.le_refl _) hei
    simp only [Quq] at hr
    have hli : i < rows.length := by omega
    have hlt' : i < ds.length := hlt
    have hne : nx ≠ 0 := by omega
    have hne' : (0 : Nat) ≠ nx := by omega
    have hcl := Qin ds (Nat.le_of_lt hlt)
    have hcs := Qin ds (i := i + 1) (by omega)
    have hsu := Qs2 hei
    have hw := Qax (x := (i : Int) + 1) (by omega)
    have hw1 := Qax (x := k + Qic ds i + 1) (by omega)
    have hw2 := Qax (x := k + Qic ds i + 1 + 1) (by omega)
    have hel : e.entries.length ≤ 1048576 := by have := Qhg (List.mem_of_getElem? hei); omega
    refine Qls [(0, i, 2)] (by simp only [Qhp, Qo3, hpL, hr, go_sem, List.find?]; rfl) ?_
    have F := wwA hlen (wwA hli (wwA hlt' (wwA hne (wwA hne' (wwA hw1 (wwA hw2 (wwA @Qab (wwA @Qac (wwA @Qaa (wwA @Qek (wwA @Nat.le_refl (wwA @List.getElem?_set_self.{0} (wwA @List.set_set.{0} (wwA @List.length_set.{0} (wwA @List.length_cons.{0} (wwA @List.set_cons_succ.{0} @List.set_cons_zero.{0}))))))))))))))))
    repeat' first | refine wSq fun _ hK => ?_ | refine ww1 ?_ | (refine wK ?_; clear hK) | (simp only [wHb, reduceCtorEq] at hb <;> try (exfalso; omega)) | refine wCd (fun hb => ?_) fun hb => ?_ | refine wOw [nx] (c := by exact Qjr e.entries (k + Qic ds i + 1 + 1) (by omega) (by omega) (by omega)) (k := ?_) | refine ww3 ?_ | refine ww4 ?_ | refine wGd (fun hb => ?_) fun hb => ?_ | exact trivial
    refine Xhv [(0, i, 2)] (by simp only [Qb1, Qco, go_sem, List.getElem?_set_self hli, hne, Ne.symm hne, Qaa, Qek, Nat.le_refl, List.set_set, List.set_cons_succ, List.set_cons_zero]; rfl) (i + 1, rows.set i (Quq 91 (mkD k ds i e))) ⟨?_, ?_, ?_, ?_⟩ ?_ ?_ ?_ (by omega)
    · simp only; omega
    · simpa using hlen
    · intro j f hj hf
      rcases Nat.lt_or_ge j i with h | h
      · simp only; rw [List.getElem?_set_ne (by omega)]; exact hdone j f h hf
      · obtain rfl : j = i := by simp only at hj; omega
        rw [hei] at hf
        cases hf
        simp [hlen, hlt']
    · intro j f hj hf
      simp only at hj
      simp only
      rw [List.getElem?_set_ne (by omega)]
      exact hrest j f (by omega) hf
    · simp only; omega
    · have : k + Qic ds i + 1 + 1 + 5 * (e.entries.length : Int) = k + Qic ds (i + 1) := by omega
      simp [Qbo, tmL, hw, this]
    · have : (Qav (Qfl (k + Qic ds i + 1 + 1) e.entries.length)).take e.entries.length = Qav (Qfl (k + Qic ds i + 1 + 1) e.entries.length) := by
        rw [List.take_of_length_le (by rw [Qaa, Qek]; exact Nat.le_refl _)]
      simp [Qbd, hpL, Quq, this, mkD]
  · obtain rfl : i = ds.length := by omega
    have hrows : rows = Qar 91 (Qjv k ds) := by
      refine List.ext_getElem? fun j => ?_
      rcases Nat.lt_or_ge j ds.length with h | h
      · obtain ⟨e, he⟩ : ∃ e, ds[j]? = some e := ⟨_, List.getElem?_eq_getElem h⟩
        rw [hdone j e h he]
        simp [Qar, Qs7 he]
      · rw [List.getElem?_eq_none (by omega), List.getElem?_eq_none (by rw [Qab, Qgj]; omega)]
    have F := wwA @Qab (wwA @Nat.le_refl hlen)
    repeat' first | refine wSq fun _ hK => ?_ | refine ww1 ?_ | (refine wK ?_; clear hK) | (simp only [wHb, reduceCtorEq] at hb <;> try (exfalso; omega)) | refine wCd (fun hb => ?_) fun hb => ?_ | refine ww3 ?_ | refine ww4 ?_ | refine wGd (fun hb => ?_) fun hb => ?_ | exact trivial
    exact Qh6 (by simp only [go_sem]) rfl (by simp only [go_sem]) rfl hrows
theorem Qsz (ds : List DescS) (k : Int) (h0 : 0 ≤ k) (h1 : k ≤ 1073741824) (hl : ds.length ≤ 1048576) (he : Qdf ds ≤ 1048576) :
    SatP Tryz.prog 83 [.fr 89 (Qar 91 (Qjv k ds)), .int .i64 k] (.int .i64 (k + Qic ds ds.length)) [] := by
  refine wEp Tryz.func83 [.tmp 4] 40 fun E hE => ?_
  have F := wwA @Qab @Qgj
  repeat' first | refine wSq fun _ hK => ?_ | refine ww1 ?_ | (refine wK ?_; clear hK) | (simp only [wHb, reduceCtorEq] at hb <;> try (exfalso; omega)) | refine wCd (fun hb => ?_) fun hb => ?_ | refine ww3 ?_ | refine ww4 ?_ | refine wGd (fun hb => ?_) fun hb => ?_ | exact trivial
  refine Qa4 (X := Nat) (fun i => [(0, .fr 89 (Qar 91 (Qjv k ds))), (1, .int .i64 (k + Qic ds i)), (5, .int .i64 i)]) (fun _ => []) (fun i => ds.length - i)
    (fun i => i ≤ ds.length) 0 0 (by simp) (by simp [Qbo, Qic, Qdf]) (by simp) (by simp) ?_
  rintro i nx hi hB
  rcases Nat.lt_or_ge i ds.length with hlt | hge
  · obtain ⟨e, hei⟩ : ∃ e, ds[i]? = some e := ⟨_, List.getElem?_eq_getElem hlt⟩
    have hr := Qbl (te := 91) (Qs7 (k := k) hei)
    simp only [mkD] at hr
    have hcl := Qin ds (Nat.le_of_lt hlt)
    have hcs := Qin ds (i := i + 1) (by omega)
    have hsu := Qs2 hei
    have hw := Qax (x := (i : Int) + 1) (by omega)
    have hw1 := Qax (x := k + Qic ds i + 1) (by omega)
    have hw2 := Qax (x := k + Qic ds i + 1 + 1) (by omega)
    have hel : e.entries.length ≤ 1048576 := by have := Qhg (List.mem_of_getElem? hei); omega
    have hn : ¬ k + Qic ds i + 1 + 1 + 5 * (e.entries.length : Int) < 0 := by omega
    have F := wwA hr (wwA hlt (wwA hw1 (wwA hw2 (wwA @Qab (wwA @Qgj (wwA @bne_self_eq_false.{0} hn))))))
    repeat' first | refine wSq fun _ hK => ?_ | refine ww1 ?_ | (refine wK ?_; clear hK) | (simp only [wHb, reduceCtorEq] at hb <;> try (exfalso; omega)) | refine wCd (fun hb => ?_) fun hb => ?_ | refine wCa (c := by first | exact Qjs e.entries.length (k + Qic ds i + 1 + 1) (by omega) (by omega) (by omega)) (k := ?_) | refine ww3 ?_ | refine ww4 ?_ | refine wGd (fun hb => ?_) fun hb => ?_ | exact trivial
    have : k + Qic ds i + 1 + 1 + 5 * (e.entries.length : Int) = k + Qic ds (i + 1) := by omega
    exact Qcj (i + 1) (by omega) (by omega) (by simp [Qbo, tmL, hw, this]) (by simp) (by simp)
  · obtain rfl : i = ds.length := by omega
    have F := wwA @Qab @Qgj
    repeat' first | refine wSq fun _ hK => ?_ | refine ww1 ?_ | (refine wK ?_; clear hK) | (simp only [wHb, reduceCtorEq] at hb <;> try (exfalso; omega)) | refine wCd (fun hb => ?_) fun hb => ?_ | refine ww3 ?_ | refine ww4 ?_ | refine wGd (fun hb => ?_) fun hb => ?_ | exact trivial
    refine wLf ?_
    rfl
def StoreD.tiny (s : StoreD) : Prop := s.heads.length ≤ 1048576 ∧ s.descs.length ≤ 1048576 ∧ Qdf s.descs ≤ 1048576
theorem StoreD.tiny.small {s : StoreD} (h : s.tiny) : s.small := ⟨h.1, h.2.1, fun d hd => Nat.le_trans (Qhg hd) h.2.2⟩
theorem Xdi {s : StoreD} {left : Int} (h0 : 0 ≤ left) (h1 : left ≤ 1048576) (h : 0 ≤ szS s left) : s.tiny := by
  obtain ⟨k1, _⟩ := (Qpk s left h0).1 h
  exact ⟨by omega, by omega, by omega⟩
def Qlg (s : StoreD) : Int := 3 * (s.heads.length : Int) + Qic s.descs s.descs.length
def Qf1 (k : Int) (s : StoreD) : StoreD := ⟨Qji k s.heads.length, Qjv (k + 3 * s.heads.length) s.descs⟩
theorem Qku (s : StoreD) (k : Int) (h0 : 0 ≤ k) (h1 : k ≤ 536870912) (hs : s.tiny) :
    SatO Tryz.prog 22 [.agg [.rf 0 s.heads.length, .rf 1 s.descs.length], .int .i64 k] [.root 151 (Qat s.heads), .root 89 (Qar 91 s.descs)] (.int .i64 (k + Qlg s))
      [.root 151 (Qat (Qf1 k s).heads), .root 89 (Qar 91 (Qf1 k s).descs)] := by
  obtain ⟨f1, f2, f3⟩ := hs
  have hk : k + Qlg s = k + 3 * (s.heads.length : Int) + Qic s.descs s.descs.length := by unfold Qlg; omega
  rw [hk]
  refine wEo Tryz.func22 [.tmp 4] 14 2 ⟨⟨rfl, Qaf _⟩, ⟨rfl, Qae _ _⟩, by simp [Qbc]⟩ fun E hE => ?_
  have F := wwA @Qaf (wwA @Qad (wwA @Qae @Qab))
  repeat' first | refine wSq fun _ hK => ?_ | refine ww1 ?_ | (refine wK ?_; clear hK) | (simp only [wHb, reduceCtorEq] at hb <;> try (exfalso; omega)) | refine wCd (fun hb => ?_) fun hb => ?_ | refine wOw [0] (c := by exact Qs4 s.heads k h0 (by omega) (by omega)) (k := ?_) | refine wOw [1] (c := by exact Qtt s.descs _ (by omega) (by omega) f2 f3) (k := ?_) | refine ww3 ?_ | refine ww4 ?_ | refine wGd (fun hb => ?_) fun hb => ?_ | exact trivial
  exact Qbf [] rfl [.root 151 (Qat (Qf1 k s).heads), .root 89 (Qar 91 (Qf1 k s).descs)] rfl (by simp [Qbx, Qbd, HpE, Qf1]) rfl (by simp only [go_sem, Qcd]; rfl) (acc := []) rfl (by simp) rfl
theorem Qsw (s : StoreD) (k : Int) (h0 : 0 ≤ k) (h1 : k ≤ 536870912) (hs : s.tiny) :
    SatP Tryz.prog 25 [.agg [.fr 151 (Qat (Qf1 k s).heads), .fr 89 (Qar 91 (Qf1 k s).descs)], .int .i64 k] (.int .i64 (k + Qlg s)) [] := by
  obtain ⟨f1, f2, f3⟩ := hs
  have hn : ¬ k + 3 * (s.heads.length : Int) < 0 := by omega
  have hc := Qin s.descs (Nat.le_refl _)
  have hn2 : ¬ k + 3 * (s.heads.length : Int) + Qic s.descs s.descs.length < 0 := by omega
  refine wEp Tryz.func25 [.tmp 4] 18 fun E hE => ?_
  unfold Qf1
  have F := wwA hn hn2
  repeat' first | refine wSq fun _ hK => ?_ | refine ww1 ?_ | (refine wK ?_; clear hK) | (simp only [wHb, reduceCtorEq] at hb <;> try (exfalso; omega)) | refine wCd (fun hb => ?_) fun hb => ?_ | refine wCa (c := by first | exact Qsu s.heads.length k h0 (by omega) (by omega) | exact Qsz s.descs _ (by omega) (by omega) f2 f3) (k := ?_) | refine ww3 ?_ | refine ww4 ?_ | refine wGd (fun hb => ?_) fun hb => ?_ | exact trivial
  refine wLf ?_
  rw [Qlg, Int.add_assoc]
def Qx2 (s : StoreD) : Prop := (∀ d ∈ s.descs, 1 ≤ d.entries.length ∧ ∀ e ∈ d.entries, 0 ≤ e.object ∧ e.object < s.heads.length) ∧
  ∀ h ∈ s.heads, 0 ≤ h.version ∧ h.version ≤ 1000000 ∧ -1 ≤ h.desc ∧ h.desc < s.descs.length
def Qqy (s : StoreD) (f : FrameD) : Prop := ∃ (k : Nat) (d : DescS), f.desc = k ∧ s.descs[k]? = some d ∧ 0 ≤ f.place ∧ f.place < d.entries.length
theorem Qmu {s : StoreD} {f : FrameD} (hs : Qx2 s) (hf : Qqy s f) : ∃ k d j e o h, AtP s f k d j e o h ∧ 0 ≤ h.version ∧ h.version ≤ 1000000 ∧ -1 ≤ h.desc ∧ h.desc < s.descs.length := by
  obtain ⟨k, d, hk, hd, h0, h1⟩ := hf
  obtain ⟨j, hj⟩ : ∃ j : Nat, f.place = j := ⟨f.place.toNat, by omega⟩
  obtain ⟨e, he⟩ : ∃ e, d.entries[j]? = some e := ⟨_, List.getElem?_eq_getElem (by omega)⟩
  have hob := (hs.1 d (List.mem_of_getElem? hd)).2 e (List.mem_of_getElem? he)
  obtain ⟨o, ho⟩ : ∃ o : Nat, e.object = o := ⟨e.object.toNat, by omega⟩
  obtain ⟨h, hh⟩ : ∃ h, s.heads[o]? = some h := ⟨_, List.getElem?_eq_getElem (by omega)⟩
  have hv := hs.2 h (List.mem_of_getElem? hh)
  exact ⟨k, d, j, e, o, h, ⟨hk, hd, hj, he, ho, hh⟩, hv⟩
theorem Xdt {s : StoreD} {o : Nat} {h : HeadD} (hs : Qx2 s) (hv : 0 ≤ h.version ∧ h.version ≤ 1000000 ∧ -1 ≤ h.desc ∧ h.desc < s.descs.length) : Qx2 ⟨s.heads.set o h, s.descs⟩ := by
  refine ⟨fun d hd => ?_, fun x hx => ?_⟩
  · simp only [List.length_set]
    exact hs.1 d hd
  · rcases List.mem_or_eq_of_mem_set hx with hx | rfl
    · exact hs.2 x hx
    · exact hv
theorem Xd8 {s : StoreD} {k : Nat} {d : DescS} {st : Int} (hs : Qx2 s) (hd : s.descs[k]? = some d) : Qx2 ⟨s.heads, s.descs.set k ⟨d.owner, st, d.entries⟩⟩ := by
  refine ⟨fun x hx => ?_, fun x hx => ?_⟩
  · rcases List.mem_or_eq_of_mem_set hx with hx | rfl
    · exact hs.1 x hx
    · exact hs.1 d (List.mem_of_getElem? hd)
  · simp only [List.length_set]
    exact hs.2 x hx
theorem Qh4 {s : StoreD} {hs' : List HeadD} {f : FrameD} (hf : Qqy s f) : Qqy ⟨hs', s.descs⟩ f := hf
theorem Qtr {s : StoreD} {k : Nat} {d : DescS} {st : Int} {f : FrameD} (hd : s.descs[k]? = some d) (hf : Qqy s f) : Qqy ⟨s.heads, s.descs.set k ⟨d.owner, st, d.entries⟩⟩ f := by
  obtain ⟨k', d', h1, h2, h3, h4⟩ := hf
  by_cases hkk : k = k'
  · subst hkk
    rw [hd] at h2
    cases h2
    exact ⟨k, _, h1, List.getElem?_set_self (List.getElem?_eq_some_iff.1 hd).1, h3, h4⟩
  · exact ⟨k', d', h1, by rw [← h2]; exact List.getElem?_set_ne hkk, h3, h4⟩
theorem Qtn {s : StoreD} {f : FrameD} {k : Nat} {d : DescS} {p : Int} (hs : Qx2 s) (hk : f.desc = k) (hd : s.descs[k]? = some d) : Qqy s ⟨f.desc, p, 0⟩ :=
  ⟨k, d, hk, hd, Int.le_refl _, by have := (hs.1 d (List.mem_of_getElem? hd)).1; show (0 : Int) < _; omega⟩
theorem Xgd {s : StoreD} {f : FrameD} {k : Nat} {d : DescS} {p : Int} (hs : Qx2 s) (hk : f.desc = k) (hd : s.descs[k]? = some d) (h0 : 0 ≤ f.place) (h1 : f.place < d.entries.length) : Qqy s (Qc5 d.entries.length f p) := by
  unfold Qc5
  split
  · refine ⟨k, d, hk, hd, ?_, ?_⟩
    · simp only
      omega
    · simp only
      omega
  · exact Qtn hs hk hd
structure StepP (s : StoreD) (f : FrameD) (r : StoreD × FrameD × Int) : Prop where
  st : Qx2 r.1
  fr : Qqy r.1 r.2.1
  all : ∀ g, Qqy s g → Qqy r.1 g
  hl : r.1.heads.length = s.heads.length
  dl : r.1.descs.length = s.descs.length
  met : r.2.2 < s.descs.length
  same : 0 ≤ r.2.2 → r.1 = s
theorem Qix {s : StoreD} {f : FrameD} {k : Nat} {d : DescS} {j : Nat} {e : EntS} {o : Nat} {h : HeadD} (hs : Qx2 s) (hf : Qqy s f) (ha : AtP s f k d j e o h) (hv0 : 0 ≤ h.version) (hv1 : h.version ≤ 1000000) (hd0 : -1 ≤ h.desc) (hd1 : h.desc < s.descs.length) : StepP s f (Qa5 s f k d e o h) := by
  have hkl := (List.getElem?_eq_some_iff.1 ha.dk).1
  have hjl := (List.getElem?_eq_some_iff.1 ha.ej).1
  have hfj := ha.fj
  have hfk := ha.fk
  have hz := fun p => Qtn (p := p) hs ha.fk ha.dk
  have hon := fun p => Xgd (p := p) hs ha.fk ha.dk (by omega) (by omega)
  have htm := Int.tmod_lt_of_pos (h.version + 1) (b := 1000001) (by omega)
  have htn := Int.tmod_nonneg (a := h.version + 1) 1000001 (by omega)
  have hh := fun (x : HeadD) (hx : 0 ≤ x.version ∧ x.version ≤ 1000000 ∧ -1 ≤ x.desc ∧ x.desc < s.descs.length) => Xdt (o := o) hs hx
  unfold Qa5
  split
  · exact ⟨hs, hz _, fun g hg => hg, rfl, rfl, by show (-1 : Int) < _; omega, fun _ => rfl⟩
  split
  · split
    · exact ⟨hs, hon _, fun g hg => hg, rfl, rfl, by show (-1 : Int) < _; omega, fun _ => rfl⟩
    split
    · exact ⟨hs, hz _, fun g hg => hg, rfl, rfl, hd1, fun _ => rfl⟩
    split
    · exact ⟨hs, hz _, fun g hg => hg, rfl, rfl, by show (-1 : Int) < _; omega, fun _ => rfl⟩
    · exact ⟨hh _ ⟨hv0, hv1, by show -1 ≤ f.desc; omega, by show f.desc < _; omega⟩, Qh4 (hon _), fun g hg => Qh4 hg, by simp, rfl, by show (-1 : Int) < _; omega, fun hc => absurd (show (0 : Int) ≤ -1 from hc) (by decide)⟩
  split
  · split
    · exact ⟨Xd8 hs ha.dk, Qtr ha.dk (hz _), fun g hg => Qtr ha.dk hg, rfl, by simp, by show (-1 : Int) < _; omega, fun hc => absurd (show (0 : Int) ≤ -1 from hc) (by decide)⟩
    · exact ⟨hs, hz _, fun g hg => hg, rfl, rfl, by show (-1 : Int) < _; omega, fun _ => rfl⟩
  split
  · split
    · refine ⟨hh _ ?_, Qh4 (hon _), fun g hg => Qh4 hg, by simp, rfl, by show (-1 : Int) < _; omega, fun hc => absurd (show (0 : Int) ≤ -1 from hc) (by decide)⟩
      unfold Qzr
      split
      · exact ⟨htn, by simp only; omega, by simp only; omega, by simp only; omega⟩
      · exact ⟨hv0, hv1, by simp only; omega, by simp only; omega⟩
    · exact ⟨hs, hon _, fun g hg => hg, rfl, rfl, by show (-1 : Int) < _; omega, fun _ => rfl⟩
  · exact ⟨hs, hf, fun g hg => hg, rfl, rfl, by show (-1 : Int) < _; omega, fun _ => rfl⟩
def Qe6 (s : StoreD) (f : FrameD) : StoreD × FrameD × Int := match s.descs[f.desc.toNat]? with
  | none => (s, f, -1)
  | some d => match d.entries[f.place.toNat]? with
    | none => (s, f, -1)
    | some e => match s.heads[e.object.toNat]? with
      | none => (s, f, -1)
      | some h => Qa5 s f f.desc.toNat d e e.object.toNat h
theorem Qfp {s : StoreD} {f : FrameD} {k : Nat} {d : DescS} {j : Nat} {e : EntS} {o : Nat} {h : HeadD} (ha : AtP s f k d j e o h) : Qe6 s f = Qa5 s f k d e o h := by
  obtain ⟨h1, h2, h3, h4, h5, h6⟩ := ha
  unfold Qe6
  rw [h1, Int.toNat_natCast, h2]
  simp only
  rw [h3, Int.toNat_natCast, h4]
  simp only
  rw [h5, Int.toNat_natCast, h6]
theorem Qun {s : StoreD} {f : FrameD} (hs : Qx2 s) (hf : Qqy s f) : StepP s f (Qe6 s f) := by
  obtain ⟨k, d, j, e, o, h, ha, h1, h2, h3, h4⟩ := Qmu hs hf
  rw [Qfp ha]
  exact Qix hs hf ha h1 h2 h3 h4
theorem Qy3 {s : StoreD} {f : FrameD} {k : Nat} {d : DescS} {e : EntS} {o : Nat} {h : HeadD} (hph : 0 ≤ (Qa5 s f k d e o h).2.2) : (Qa5 s f k d e o h).2.1.phase ≠ 5 := by
  unfold Qa5 at *
  (repeat' split at hph) <;> simp_all
def Qes (s : StoreD) (fs : List FrameD) : StoreD × List FrameD := match fs.getLast? with
  | none => (s, [])
  | some f => if 0 ≤ (Qe6 s f).2.2 then (if fs.length = 130 then (s, fs) else (s, fs.dropLast ++ [(Qe6 s f).2.1, ⟨(Qe6 s f).2.2, 0, 0⟩]))
    else ((Qe6 s f).1, if (Qe6 s f).2.1.phase = 5 then fs.dropLast else fs.dropLast ++ [(Qe6 s f).2.1])
theorem Qjy (s : StoreD) : Qes s [] = (s, []) := rfl
theorem Qey (s : StoreD) (fs : List FrameD) (f : FrameD) : Qes s (fs ++ [f]) = if 0 ≤ (Qe6 s f).2.2 then (if fs.length + 1 = 130 then (s, fs ++ [f]) else (s, fs ++ [(Qe6 s f).2.1, ⟨(Qe6 s f).2.2, 0, 0⟩]))
    else ((Qe6 s f).1, if (Qe6 s f).2.1.phase = 5 then fs else fs ++ [(Qe6 s f).2.1]) := by
  simp [Qes]
structure HelpI (s : StoreD) (fs : List FrameD) : Prop where
  st : Qx2 s
  fr : ∀ f ∈ fs, Qqy s f
  len : fs.length ≤ 130
theorem Xef {s : StoreD} (hs : Qx2 s) {m : Int} (h0 : 0 ≤ m) (h1 : m < s.descs.length) (p : Int) : Qqy s ⟨m, p, 0⟩ := by
  obtain ⟨k, hk⟩ : ∃ k : Nat, m = k := ⟨m.toNat, by omega⟩
  obtain ⟨d, hd⟩ : ∃ d, s.descs[k]? = some d := ⟨_, List.getElem?_eq_getElem (by omega)⟩
  exact ⟨k, d, hk, hd, Int.le_refl _, by have := (hs.1 d (List.mem_of_getElem? hd)).1; show (0 : Int) < _; omega⟩
structure HelpK (s : StoreD) (fs : List FrameD) (r : StoreD × List FrameD) : Prop where
  inv : HelpI r.1 r.2
  hl : r.1.heads.length = s.heads.length
  dl : r.1.descs.length = s.descs.length
  all : ∀ g, Qqy s g → Qqy r.1 g
theorem Qi3 {s : StoreD} {fs : List FrameD} (hi : HelpI s fs) : HelpK s fs (Qes s fs) := by
  rcases List.eq_nil_or_concat fs with rfl | ⟨init, f, rfl⟩
  · exact ⟨⟨hi.st, fun f hf => by simp [Qjy] at hf, by simp [Qjy]⟩, rfl, rfl, fun g hg => hg⟩
  · rw [List.concat_eq_append] at *
    rw [Qey]
    have hp := Qun hi.st (hi.fr f (by simp))
    have hlen := hi.len
    simp only [List.length_append, List.length_cons, List.length_nil] at hlen
    have hin : ∀ g ∈ init, Qqy s g := fun g hg => hi.fr g (by simp [hg])
    split
    · rename_i hm
      have hsame := hp.same hm
      split
      · exact ⟨hi, rfl, rfl, fun g hg => hg⟩
      · have hfr := hp.fr
        rw [hsame] at hfr
        refine ⟨⟨hi.st, fun g hg => ?_, by simp; omega⟩, rfl, rfl, fun g hg => hg⟩
        simp only [List.mem_append, List.mem_cons, List.not_mem_nil, or_false] at hg
        rcases hg with hg | rfl | rfl
        · exact hin g hg
        · exact hfr
        · exact Xef hi.st hm hp.met 0
    · refine ⟨⟨hp.st, fun g hg => ?_, ?_⟩, hp.hl, hp.dl, hp.all⟩
      · simp only at hg
        split at hg
        · exact hp.all g (hin g hg)
        · simp only [List.mem_append, List.mem_cons, List.not_mem_nil, or_false] at hg
          rcases hg with hg | rfl
          · exact hp.all g (hin g hg)
          · exact hp.fr
      · simp only
        split
        · omega
        · simp; omega
def Xc1 : Nat → StoreD → List FrameD → StoreD × List FrameD × Nat
  | 0, s, fs => (s, fs, 0)
  | m + 1, s, fs => if fs = [] then (s, [], 0) else ((Xc1 m (Qes s fs).1 (Qes s fs).2).1, (Xc1 m (Qes s fs).1 (Qes s fs).2).2.1, (Xc1 m (Qes s fs).1 (Qes s fs).2).2.2 + 1)
theorem Qz5 {ds : List DescS} {k : Nat} {d d' : DescS} (h : ds[k]? = some d) (he : d'.entries = d.entries) : Qdf (ds.set k d') = Qdf ds := by
  induction ds generalizing k with
  | nil => rfl
  | cons a ds ih =>
    cases k with
    | zero =>
      simp at h
      subst h
      simp [Qdf, he]
    | succ k =>
      simp only [List.set_cons_succ, Qdf]
      rw [ih (by simpa using h)]
theorem Qsi {s : StoreD} {f : FrameD} {k : Nat} {d : DescS} {j : Nat} {e : EntS} {o : Nat} {h : HeadD} (ha : AtP s f k d j e o h) (hs : s.tiny) : (Qa5 s f k d e o h).1.tiny := by
  obtain ⟨h1, h2, h3⟩ := hs
  have hn := fun st => Qz5 (d' := ⟨d.owner, st, d.entries⟩) ha.dk rfl
  unfold Qa5
  (repeat' split) <;> simp_all [StoreD.tiny]
theorem Qxl {s : StoreD} {fs : List FrameD} (hi : HelpI s fs) (hs : s.tiny) : (Qes s fs).1.tiny := by
  rcases List.eq_nil_or_concat fs with rfl | ⟨init, f, rfl⟩
  · exact hs
  · rw [List.concat_eq_append] at *
    rw [Qey]
    obtain ⟨k, d, j, e, o, h, ha, h1, h2, h3, h4⟩ := Qmu hi.st (hi.fr f (by simp))
    have ht := Qsi ha hs
    rw [← Qfp ha] at ht
    split
    · split <;> exact hs
    · exact ht
theorem Xfe {s : StoreD} {fs : List FrameD} (hS : Qd2 s) (hl : fs.length ≤ 130) (hf : ∀ f ∈ fs, Qzv s f = true) : HelpI s fs := by
  refine ⟨⟨fun d hd => ?_, fun h hh => ?_⟩, fun f hf' => ?_, hl⟩
  · have hfd := hS.2.2.2.1 d hd
    refine ⟨hfd.1.2.2.2.2.1, fun e he => ?_⟩
    obtain ⟨j, hj⟩ := List.getElem?_of_mem he
    obtain ⟨o, ho, hol⟩ := Qwh hfd hj
    omega
  · obtain ⟨o, ho⟩ := List.getElem?_of_mem hh
    have hb := hS.2.2.2.2 o h ho
    unfold Qg6 at hb
    simp only [Bool.and_eq_true] at hb
    have hv := hb.1.1.2
    have hd := hb.1.2
    simp [inB] at hv hd
    omega
  · obtain ⟨k, d, j, e, o, h, ha⟩ := at_ex hS (hf f hf')
    have hjl := (List.getElem?_eq_some_iff.1 ha.ej).1
    exact ⟨k, d, ha.fk, ha.dk, by have := ha.fj; omega, by have := ha.fj; omega⟩
end Go.Proofs.YtmiojnibngncaaaGreat
