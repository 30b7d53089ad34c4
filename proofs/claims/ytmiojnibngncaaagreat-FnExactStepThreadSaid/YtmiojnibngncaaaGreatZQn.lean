/- What the claim rests on, part 14: the value-level engine and contracts of functions; no condition. -/
import Derived.Test.YtmiojnibngncaaaGreatZQm
import Derived.Test.YtmiojnibngncaaaGreatZQg
import Derived.Test.YtmiojnibngncaaaGreatZQc
namespace Go.Proofs.YtmiojnibngncaaaGreat
open Go Go.RowKit
set_option linter.unusedVariables false
set_option linter.unusedSimpArgs false
set_option maxRecDepth 100000
set_option maxHeartbeats 4000000
attribute [local irreducible] VWP Qb5 Qbn Qbs Qbu Qbj Qbt Qa3 Qbq Qcq Qc6 Qbk Qdb Qc4 Qbr Qbm Qa8
theorem Qlf (s : StoreD) (f : FrameD) (k : Nat) (d : DescS) (j : Nat) (e : EntS) (o : Nat) (h : HeadD) (ha : AtP s f k d j e o h) (hv0 : 0 ≤ h.version) (hv1 : h.version ≤ 1000000) (hs : s.small) (r : StoreD × FrameD × Int) (hr : Qa5 s f k d e o h = r) :
    SatO Tryz.prog 192 [.bp 0 0, .agg f.cells] [.box [.rf 1 s.heads.length, .rf 2 s.descs.length], .root 151 (Qat s.heads), .root 89 (Qar 91 s.descs)]
      (.tup [.agg r.2.1.cells, .int .i64 r.2.2]) [.box [.rf 1 s.heads.length, .rf 2 s.descs.length], .root 151 (Qat r.1.heads), .root 89 (Qar 91 r.1.descs)] := by
  obtain ⟨hk, hd, hj, he, heo, hho⟩ := ha
  obtain ⟨f1, f2, f3⟩ := hs
  have hkl := (List.getElem?_eq_some_iff.1 hd).1
  have hjl := (List.getElem?_eq_some_iff.1 he).1
  have hol := (List.getElem?_eq_some_iff.1 hho).1
  have hde := f3 d (List.mem_of_getElem? hd)
  have hk0 : (0 : Int) ≤ (k : Nat) := by omega
  have hj0 : (0 : Int) ≤ (j : Nat) := by omega
  have ho0 : (0 : Int) ≤ (o : Nat) := by omega
  have hrd := Qbl (te := 91) hd
  have hre := Qbe he
  have hrh := Qb0 hho
  have hkr : k < (Qar 91 s.descs).length := by rw [Qab]; exact hkl
  have hor : o < (Qat s.heads).length := by rw [Qad]; exact hol
  have hbk := Qh9 (te := 91) hd
  have ha0 : AtP s f k d j e o h := ⟨hk, hd, hj, he, heo, hho⟩
  have hs0 : s.small := ⟨f1, f2, f3⟩
  refine wEo Tryz.func192 [.cell 4 160, .tmp 5] 60 3 ⟨⟨rfl, rfl⟩, ⟨rfl, Qaf _⟩, ⟨rfl, Qae _ _⟩, by simp [Qbc]⟩ fun E hE => ?_
  unfold FrameD.cells
  by_cases p0 : f.phase = 0
  · have hm : Qa5 s f k d e o h = (s, ⟨f.desc, if d.status = 0 then 1 else 4, 0⟩, -1) := by rw [Qa5, if_pos p0]
    rw [hm] at hr
    subst hr
    by_cases st : d.status = 0
    · have stq : (d.status == 0) = true := by simp [st]
      simp only [if_pos st]
      have F := wwA @Qba (wwA @Qct (wwA @Qab (wwA @Qaa (wwA @Qad (wwA hk (wwA hj (wwA hk0 (wwA hj0 (wwA ho0 (wwA hkl (wwA hjl (wwA hol (wwA hrd (wwA hre (wwA hrh (wwA hkr (wwA hor (wwA (fun a => List.getElem?_set_self (a := a) hkr) (wwA @List.length_set.{0} (wwA @Nat.le_refl (wwA @Nat.le_add_right (wwA p0 stq))))))))))))))))))))))
      repeat' first | refine wSq fun _ hK => ?_ | refine ww1 ?_ | (refine wK ?_; clear hK) | (simp only [wHb, reduceCtorEq] at hb <;> try (exfalso; omega)) | (refine Qaz true ?_ ?_ (fun hh => nomatch hh); focus (simp only [go_sem, Int.reduceBEq, Int.reduceBNe, Int.reduceLT, Int.reduceLE, Int.reduceAdd, Int.reduceToNat, F]; done); intro _) | (refine Qaz false ?_ (fun hh => nomatch hh) ?_; focus (simp only [go_sem, Int.reduceBEq, Int.reduceBNe, Int.reduceLT, Int.reduceLE, Int.reduceAdd, Int.reduceToNat, F]; done); intro _) | refine Qcf (fun hb => ?_) fun hb => ?_ | refine Qce ?_ | refine ww4 ?_ | refine Qcc (fun hb => ?_) fun hb => ?_ | exact trivial
      refine Qbf [] rfl [.box [.rf 1 s.heads.length, .rf 2 s.descs.length], .root 151 (Qat s.heads), .root 89 (Qar 91 s.descs)] rfl (by simp [Qbx, Qbd, HpE, Qa2, hbk]) rfl (by simp only [go_sem, Qcd]; rfl) (acc := []) rfl (by simp) rfl
    · have stq : (d.status == 0) = false := by simpa using st
      simp only [if_neg st]
      have F := wwA @Qba (wwA @Qct (wwA @Qab (wwA @Qaa (wwA @Qad (wwA hk (wwA hj (wwA hk0 (wwA hj0 (wwA ho0 (wwA hkl (wwA hjl (wwA hol (wwA hrd (wwA hre (wwA hrh (wwA hkr (wwA hor (wwA (fun a => List.getElem?_set_self (a := a) hkr) (wwA @List.length_set.{0} (wwA @Nat.le_refl (wwA @Nat.le_add_right (wwA p0 stq))))))))))))))))))))))
      repeat' first | refine wSq fun _ hK => ?_ | refine ww1 ?_ | (refine wK ?_; clear hK) | (simp only [wHb, reduceCtorEq] at hb <;> try (exfalso; omega)) | (refine Qaz true ?_ ?_ (fun hh => nomatch hh); focus (simp only [go_sem, Int.reduceBEq, Int.reduceBNe, Int.reduceLT, Int.reduceLE, Int.reduceAdd, Int.reduceToNat, F]; done); intro _) | (refine Qaz false ?_ (fun hh => nomatch hh) ?_; focus (simp only [go_sem, Int.reduceBEq, Int.reduceBNe, Int.reduceLT, Int.reduceLE, Int.reduceAdd, Int.reduceToNat, F]; done); intro _) | refine Qcf (fun hb => ?_) fun hb => ?_ | refine Qce ?_ | refine ww4 ?_ | refine Qcc (fun hb => ?_) fun hb => ?_ | exact trivial
      refine Qbf [] rfl [.box [.rf 1 s.heads.length, .rf 2 s.descs.length], .root 151 (Qat s.heads), .root 89 (Qar 91 s.descs)] rfl (by simp [Qbx, Qbd, HpE, Qa2, hbk]) rfl (by simp only [go_sem, Qcd]; rfl) (acc := []) rfl (by simp) rfl
  by_cases p1 : f.phase = 1
  · have hl := Xh1 s f k d j e o h ha0 hv0 hv1 hs0 p1 r hr
    unfold FrameD.cells at hl
    rw [hk, hj, p1] at hl
    have F := wwA @Qba (wwA @Qct (wwA @Qab (wwA @Qaa (wwA @Qad (wwA hk (wwA hj (wwA hk0 (wwA hj0 (wwA ho0 (wwA hkl (wwA hjl (wwA hol (wwA hrd (wwA hre (wwA hrh (wwA hkr (wwA hor (wwA (fun a => List.getElem?_set_self (a := a) hkr) (wwA @List.length_set.{0} (wwA @Nat.le_refl (wwA @Nat.le_add_right (wwA @Qaf (wwA @Qae p1)))))))))))))))))))))))
    repeat' first | refine wSq fun _ hK => ?_ | refine ww1 ?_ | (refine wK ?_; clear hK) | (simp only [wHb, reduceCtorEq] at hb <;> try (exfalso; omega)) | (refine Qaz true ?_ ?_ (fun hh => nomatch hh); focus (simp only [go_sem, Int.reduceBEq, Int.reduceBNe, Int.reduceLT, Int.reduceLE, Int.reduceAdd, Int.reduceToNat, F]; done); intro _) | (refine Qaz false ?_ (fun hh => nomatch hh) ?_; focus (simp only [go_sem, Int.reduceBEq, Int.reduceBNe, Int.reduceLT, Int.reduceLE, Int.reduceAdd, Int.reduceToNat, F]; done); intro _) | refine Qcf (fun hb => ?_) fun hb => ?_ | refine Xgr [0, 1, 2] (c := by exact hl) (k := ?_) | refine Qce ?_ | refine ww4 ?_ | refine Qcc (fun hb => ?_) fun hb => ?_ | exact trivial
    refine Qbf [] rfl [.box [.rf 1 s.heads.length, .rf 2 s.descs.length], .root 151 (Qat r.1.heads), .root 89 (Qar 91 r.1.descs)] rfl (by simp [Qbx, Qbd, HpE]) rfl (by simp only [go_sem, Qcd]; rfl) (acc := []) rfl (by simp) rfl
  by_cases p2 : f.phase = 2
  · by_cases st : d.status = 0
    · have hm : Qa5 s f k d e o h = (⟨s.heads, s.descs.set k ⟨d.owner, 1, d.entries⟩⟩, ⟨f.desc, 4, 0⟩, -1) := by rw [Qa5, if_neg p0, if_neg p1, if_pos (.inl p2), if_pos st, if_pos p2]
      rw [hm] at hr
      subst hr
      have stq : (d.status == 0) = true := by simp [st]
      have F := wwA @Qba (wwA @Qct (wwA @Qab (wwA @Qaa (wwA @Qad (wwA hk (wwA hj (wwA hk0 (wwA hj0 (wwA ho0 (wwA hkl (wwA hjl (wwA hol (wwA hrd (wwA hre (wwA hrh (wwA hkr (wwA hor (wwA (fun a => List.getElem?_set_self (a := a) hkr) (wwA @List.length_set.{0} (wwA @Nat.le_refl (wwA @Nat.le_add_right (wwA p2 (wwA stq (wwA @List.set_set.{0} (wwA @List.set_cons_succ.{0} @List.set_cons_zero.{0})))))))))))))))))))))))))
      repeat' first | refine wSq fun _ hK => ?_ | refine ww1 ?_ | (refine wK ?_; clear hK) | (simp only [wHb, reduceCtorEq] at hb <;> try (exfalso; omega)) | (refine Qaz true ?_ ?_ (fun hh => nomatch hh); focus (simp only [go_sem, Int.reduceBEq, Int.reduceBNe, Int.reduceLT, Int.reduceLE, Int.reduceAdd, Int.reduceToNat, F]; done); intro _) | (refine Qaz false ?_ (fun hh => nomatch hh) ?_; focus (simp only [go_sem, Int.reduceBEq, Int.reduceBNe, Int.reduceLT, Int.reduceLE, Int.reduceAdd, Int.reduceToNat, F]; done); intro _) | refine Qcf (fun hb => ?_) fun hb => ?_ | refine Qce ?_ | refine ww4 ?_ | refine Qcc (fun hb => ?_) fun hb => ?_ | exact trivial
      refine Qbf [] rfl [.box [.rf 1 s.heads.length, .rf 2 s.descs.length], .root 151 (Qat s.heads), .root 89 (Qar 91 (s.descs.set k ⟨d.owner, 1, d.entries⟩))] rfl (by simp [Qbx, Qbd, HpE, Qa2, hbk]) rfl (by simp only [go_sem, Qcd]; rfl) (acc := []) rfl (by simp) rfl
    · have hm : Qa5 s f k d e o h = (s, ⟨f.desc, 4, 0⟩, -1) := by rw [Qa5, if_neg p0, if_neg p1, if_pos (.inl p2), if_neg st]
      rw [hm] at hr
      subst hr
      have stq : (d.status == 0) = false := by simpa using st
      have F := wwA @Qba (wwA @Qct (wwA @Qab (wwA @Qaa (wwA @Qad (wwA hk (wwA hj (wwA hk0 (wwA hj0 (wwA ho0 (wwA hkl (wwA hjl (wwA hol (wwA hrd (wwA hre (wwA hrh (wwA hkr (wwA hor (wwA (fun a => List.getElem?_set_self (a := a) hkr) (wwA @List.length_set.{0} (wwA @Nat.le_refl (wwA @Nat.le_add_right (wwA p2 stq))))))))))))))))))))))
      repeat' first | refine wSq fun _ hK => ?_ | refine ww1 ?_ | (refine wK ?_; clear hK) | (simp only [wHb, reduceCtorEq] at hb <;> try (exfalso; omega)) | (refine Qaz true ?_ ?_ (fun hh => nomatch hh); focus (simp only [go_sem, Int.reduceBEq, Int.reduceBNe, Int.reduceLT, Int.reduceLE, Int.reduceAdd, Int.reduceToNat, F]; done); intro _) | (refine Qaz false ?_ (fun hh => nomatch hh) ?_; focus (simp only [go_sem, Int.reduceBEq, Int.reduceBNe, Int.reduceLT, Int.reduceLE, Int.reduceAdd, Int.reduceToNat, F]; done); intro _) | refine Qcf (fun hb => ?_) fun hb => ?_ | refine Qce ?_ | refine ww4 ?_ | refine Qcc (fun hb => ?_) fun hb => ?_ | exact trivial
      refine Qbf [] rfl [.box [.rf 1 s.heads.length, .rf 2 s.descs.length], .root 151 (Qat s.heads), .root 89 (Qar 91 s.descs)] rfl (by simp [Qbx, Qbd, HpE, Qa2, hbk]) rfl (by simp only [go_sem, Qcd]; rfl) (acc := []) rfl (by simp) rfl
  by_cases p3 : f.phase = 3
  · by_cases st : d.status = 0
    · have hm : Qa5 s f k d e o h = (⟨s.heads, s.descs.set k ⟨d.owner, 2, d.entries⟩⟩, ⟨f.desc, 4, 0⟩, -1) := by rw [Qa5, if_neg p0, if_neg p1, if_pos (.inr p3), if_pos st, if_neg p2]
      rw [hm] at hr
      subst hr
      have stq : (d.status == 0) = true := by simp [st]
      have F := wwA @Qba (wwA @Qct (wwA @Qab (wwA @Qaa (wwA @Qad (wwA hk (wwA hj (wwA hk0 (wwA hj0 (wwA ho0 (wwA hkl (wwA hjl (wwA hol (wwA hrd (wwA hre (wwA hrh (wwA hkr (wwA hor (wwA (fun a => List.getElem?_set_self (a := a) hkr) (wwA @List.length_set.{0} (wwA @Nat.le_refl (wwA @Nat.le_add_right (wwA p3 (wwA stq (wwA @List.set_set.{0} (wwA @List.set_cons_succ.{0} @List.set_cons_zero.{0})))))))))))))))))))))))))
      repeat' first | refine wSq fun _ hK => ?_ | refine ww1 ?_ | (refine wK ?_; clear hK) | (simp only [wHb, reduceCtorEq] at hb <;> try (exfalso; omega)) | (refine Qaz true ?_ ?_ (fun hh => nomatch hh); focus (simp only [go_sem, Int.reduceBEq, Int.reduceBNe, Int.reduceLT, Int.reduceLE, Int.reduceAdd, Int.reduceToNat, F]; done); intro _) | (refine Qaz false ?_ (fun hh => nomatch hh) ?_; focus (simp only [go_sem, Int.reduceBEq, Int.reduceBNe, Int.reduceLT, Int.reduceLE, Int.reduceAdd, Int.reduceToNat, F]; done); intro _) | refine Qcf (fun hb => ?_) fun hb => ?_ | refine Qce ?_ | refine ww4 ?_ | refine Qcc (fun hb => ?_) fun hb => ?_ | exact trivial
      refine Qbf [] rfl [.box [.rf 1 s.heads.length, .rf 2 s.descs.length], .root 151 (Qat s.heads), .root 89 (Qar 91 (s.descs.set k ⟨d.owner, 2, d.entries⟩))] rfl (by simp [Qbx, Qbd, HpE, Qa2, hbk]) rfl (by simp only [go_sem, Qcd]; rfl) (acc := []) rfl (by simp) rfl
    · have hm : Qa5 s f k d e o h = (s, ⟨f.desc, 4, 0⟩, -1) := by rw [Qa5, if_neg p0, if_neg p1, if_pos (.inr p3), if_neg st]
      rw [hm] at hr
      subst hr
      have stq : (d.status == 0) = false := by simpa using st
      have F := wwA @Qba (wwA @Qct (wwA @Qab (wwA @Qaa (wwA @Qad (wwA hk (wwA hj (wwA hk0 (wwA hj0 (wwA ho0 (wwA hkl (wwA hjl (wwA hol (wwA hrd (wwA hre (wwA hrh (wwA hkr (wwA hor (wwA (fun a => List.getElem?_set_self (a := a) hkr) (wwA @List.length_set.{0} (wwA @Nat.le_refl (wwA @Nat.le_add_right (wwA p3 stq))))))))))))))))))))))
      repeat' first | refine wSq fun _ hK => ?_ | refine ww1 ?_ | (refine wK ?_; clear hK) | (simp only [wHb, reduceCtorEq] at hb <;> try (exfalso; omega)) | (refine Qaz true ?_ ?_ (fun hh => nomatch hh); focus (simp only [go_sem, Int.reduceBEq, Int.reduceBNe, Int.reduceLT, Int.reduceLE, Int.reduceAdd, Int.reduceToNat, F]; done); intro _) | (refine Qaz false ?_ (fun hh => nomatch hh) ?_; focus (simp only [go_sem, Int.reduceBEq, Int.reduceBNe, Int.reduceLT, Int.reduceLE, Int.reduceAdd, Int.reduceToNat, F]; done); intro _) | refine Qcf (fun hb => ?_) fun hb => ?_ | refine Qce ?_ | refine ww4 ?_ | refine Qcc (fun hb => ?_) fun hb => ?_ | exact trivial
      refine Qbf [] rfl [.box [.rf 1 s.heads.length, .rf 2 s.descs.length], .root 151 (Qat s.heads), .root 89 (Qar 91 s.descs)] rfl (by simp [Qbx, Qbd, HpE, Qa2, hbk]) rfl (by simp only [go_sem, Qcd]; rfl) (acc := []) rfl (by simp) rfl
  by_cases p4 : f.phase = 4
  · have hl := Xf3 s f k d j e o h ha0 hv0 hv1 hs0 p4 r hr
    have hr2 : r.2.2 = -1 := by rw [← hr, Qa5, if_neg p0, if_neg p1, if_neg (by omega), if_pos p4]
    unfold FrameD.cells at hl
    rw [hk, hj, p4] at hl
    have F := wwA @Qba (wwA @Qct (wwA @Qab (wwA @Qaa (wwA @Qad (wwA hk (wwA hj (wwA hk0 (wwA hj0 (wwA ho0 (wwA hkl (wwA hjl (wwA hol (wwA hrd (wwA hre (wwA hrh (wwA hkr (wwA hor (wwA (fun a => List.getElem?_set_self (a := a) hkr) (wwA @List.length_set.{0} (wwA @Nat.le_refl (wwA @Nat.le_add_right (wwA @Qaf (wwA @Qae p4)))))))))))))))))))))))
    repeat' first | refine wSq fun _ hK => ?_ | refine ww1 ?_ | (refine wK ?_; clear hK) | (simp only [wHb, reduceCtorEq] at hb <;> try (exfalso; omega)) | (refine Qaz true ?_ ?_ (fun hh => nomatch hh); focus (simp only [go_sem, Int.reduceBEq, Int.reduceBNe, Int.reduceLT, Int.reduceLE, Int.reduceAdd, Int.reduceToNat, F]; done); intro _) | (refine Qaz false ?_ (fun hh => nomatch hh) ?_; focus (simp only [go_sem, Int.reduceBEq, Int.reduceBNe, Int.reduceLT, Int.reduceLE, Int.reduceAdd, Int.reduceToNat, F]; done); intro _) | refine Qcf (fun hb => ?_) fun hb => ?_ | refine Xgr [0, 1, 2] (c := by exact hl) (k := ?_) | refine Qce ?_ | refine ww4 ?_ | refine Qcc (fun hb => ?_) fun hb => ?_ | exact trivial
    rw [hr2]
    refine Qbf [] rfl [.box [.rf 1 s.heads.length, .rf 2 s.descs.length], .root 151 (Qat r.1.heads), .root 89 (Qar 91 r.1.descs)] rfl (by simp [Qbx, Qbd, HpE]) rfl (by simp only [go_sem, Qcd]; rfl) (acc := []) rfl (by simp) rfl
  have p0q : (f.phase == 0) = false := by simpa using p0
  have p1q : (f.phase == 1) = false := by simpa using p1
  have p2q : (f.phase == 2) = false := by simpa using p2
  have p3q : (f.phase == 3) = false := by simpa using p3
  have p4q : (f.phase == 4) = false := by simpa using p4
  have hm : Qa5 s f k d e o h = (s, f, -1) := by rw [Qa5, if_neg p0, if_neg p1, if_neg (by omega), if_neg p4]
  rw [hm] at hr
  subst hr
  have F := wwA @Qba (wwA @Qct (wwA @Qab (wwA @Qaa (wwA @Qad (wwA hk (wwA hj (wwA hk0 (wwA hj0 (wwA ho0 (wwA hkl (wwA hjl (wwA hol (wwA hrd (wwA hre (wwA hrh (wwA hkr (wwA hor (wwA (fun a => List.getElem?_set_self (a := a) hkr) (wwA @List.length_set.{0} (wwA @Nat.le_refl (wwA @Nat.le_add_right (wwA p0q (wwA p1q (wwA p2q (wwA p3q p4q)))))))))))))))))))))))))
  repeat' first | refine wSq fun _ hK => ?_ | refine ww1 ?_ | (refine wK ?_; clear hK) | (simp only [wHb, reduceCtorEq] at hb <;> try (exfalso; omega)) | (refine Qaz true ?_ ?_ (fun hh => nomatch hh); focus (simp only [go_sem, Int.reduceBEq, Int.reduceBNe, Int.reduceLT, Int.reduceLE, Int.reduceAdd, Int.reduceToNat, F]; done); intro _) | (refine Qaz false ?_ (fun hh => nomatch hh) ?_; focus (simp only [go_sem, Int.reduceBEq, Int.reduceBNe, Int.reduceLT, Int.reduceLE, Int.reduceAdd, Int.reduceToNat, F]; done); intro _) | refine Qcf (fun hb => ?_) fun hb => ?_ | refine Qce ?_ | refine ww4 ?_ | refine Qcc (fun hb => ?_) fun hb => ?_ | exact trivial
  refine Qbf [] rfl [.box [.rf 1 s.heads.length, .rf 2 s.descs.length], .root 151 (Qat s.heads), .root 89 (Qar 91 s.descs)] rfl (by simp [Qbx, Qbd, HpE, Qa2, hbk]) rfl (by simp only [go_sem, Qcd]; rfl) (acc := []) rfl (by simp) rfl
theorem Xa5 (es : List FrameD) (hl : es.length ≤ 1048576) : SatP Tryz.prog 112 [.fr 160 (Qaq es)] (.rf 0 es.length) [(160, Qaq es)] := by
  refine wEp Tryz.func112 [.tmp 2] 6 (hp := (by simpa using Qah es)) fun E hE => ?_
  have F := wwA @Qag @Qoc
  repeat' first | refine wSq fun _ hK => ?_ | refine ww1 ?_ | (refine wK ?_; clear hK) | (simp only [wHb, reduceCtorEq] at hb <;> try (exfalso; omega)) | refine wCd (fun hb => ?_) fun hb => ?_ | refine ww3 ?_ | refine ww4 ?_ | refine wGd (fun hb => ?_) fun hb => ?_ | exact trivial
  refine Qhz (T := 1) (by simp only [go_sem]; try simp) (by simp only [go_sem]; try rfl) (Qag es).symm (Qah es)
theorem Qem (es : List FrameD) (hl : es.length ≤ 1048576) : SatP Tryz.prog 127 [.fr 160 (Qaq es)] (.rf 0 es.length) [(160, Qaq es)] := by
  refine wEp Tryz.func127 [.tmp 2] 6 (hp := (by simpa using Qah es)) fun E hE => ?_
  have F := wwA @Qag @Qoc
  repeat' first | refine wSq fun _ hK => ?_ | refine ww1 ?_ | (refine wK ?_; clear hK) | (simp only [wHb, reduceCtorEq] at hb <;> try (exfalso; omega)) | refine wCd (fun hb => ?_) fun hb => ?_ | refine ww3 ?_ | refine ww4 ?_ | refine wGd (fun hb => ?_) fun hb => ?_ | exact trivial
  refine Qhz (T := 1) (by simp only [go_sem]; try simp) (by simp only [go_sem]; try rfl) (Qag es).symm (Qah es)
theorem Qxq (s : StoreD) (hs : s.small) :
    SatO Tryz.prog 172 [.bp 0 0, .fr 160 (Qaq [])] [.box [.rf 1 s.heads.length, .rf 2 s.descs.length], .root 151 (Qat s.heads), .root 89 (Qar 91 s.descs)]
      (.rf 3 0) [.box [.rf 1 s.heads.length, .rf 2 s.descs.length], .root 151 (Qat s.heads), .root 89 (Qar 91 s.descs), .root 160 (Qaq [])] := by
  have hof := Qem [] (by simp)
  refine wEo Tryz.func172 [.tmp 4] 59 3 ⟨⟨rfl, rfl⟩, ⟨rfl, Qaf _⟩, ⟨rfl, Qae _ _⟩, by simp [Qbc, Qbg, Qah]⟩ fun E hE => ?_
  have hneg : IntKind.i64.wrap (((0 : Nat) : Int) - 1) = -1 := by decide
  have hneg2 : IntKind.i64.wrap ((0 : Int) - 1) = -1 := by decide
  have F := wwA @Qad (wwA @Qab (wwA @Qag (wwA @List.length_nil.{0} (wwA hneg hneg2))))
  repeat' first | refine wSq fun _ hK => ?_ | refine ww1 ?_ | (refine wK ?_; clear hK) | (simp only [wHb, reduceCtorEq] at hb <;> try (exfalso; omega)) | refine Qcf (fun hb => ?_) fun hb => ?_ | refine Qgs (c := by first | exact hof) (k := ?_) | refine Qce ?_ | refine ww4 ?_ | refine Qcc (fun hb => ?_) fun hb => ?_ | exact trivial
  refine Qbf [] rfl [.box [.rf 1 s.heads.length, .rf 2 s.descs.length], .root 151 (Qat s.heads), .root 89 (Qar 91 s.descs)] rfl (by simp [Qbx, Qbd, HpE]) rfl (by simp only [go_sem, Qcd]; rfl) (acc := _) rfl (by simp) rfl
theorem Qt0 (s : StoreD) (init : List FrameD) (f : FrameD) (k : Nat) (d : DescS) (j : Nat) (e : EntS) (o : Nat) (h : HeadD) (ha : AtP s f k d j e o h) (hv0 : 0 ≤ h.version) (hv1 : h.version ≤ 1000000) (hs : s.small) (r : StoreD × FrameD × Int) (hr : Qa5 s f k d e o h = r) (hm : 0 ≤ r.2.2) (hn : init.length + 1 = 130) :
    SatO Tryz.prog 172 [.bp 0 0, .fr 160 (Qaq (init ++ [f]))] [.box [.rf 1 s.heads.length, .rf 2 s.descs.length], .root 151 (Qat s.heads), .root 89 (Qar 91 s.descs)]
      (.rf 3 (init.length + 1)) [.box [.rf 1 s.heads.length, .rf 2 s.descs.length], .root 151 (Qat s.heads), .root 89 (Qar 91 s.descs), .root 160 (Qaq (init ++ [f]))] := by
  have hl := Qlf s f k d j e o h ha hv0 hv1 hs r hr
  have ho := Qb4 s hs
  have hof := Qem (init ++ [f]) (by simp; omega)
  have hlen : (init ++ [f]).length = init.length + 1 := by simp
  have hsub : IntKind.i64.wrap (((init.length + 1 : Nat) : Int) - 1) = init.length := by rw [Qax (by omega)]; omega
  have hk0 : (0 : Int) ≤ (init.length : Nat) := by omega
  have hmid := Qe7 init [] f
  have hput := Qe4 init [] f r.2.1
  have hmore := Qed init [] r.2.1 r.2.2
  have hlen2 : (init ++ [r.2.1]).length = init.length + 1 := by simp
  have hle3 : init.length + 1 + 1 ≤ (init ++ [r.2.1, ⟨r.2.2, 0, 0⟩]).length := by simp
  have hlt : init.length < init.length + 1 := by omega
  have hle : init.length ≤ init.length + 1 := by omega
  have e1 : r.1.heads.length = s.heads.length := by subst hr; unfold Qa5; (repeat' split) <;> simp
  have e2 : r.1.descs.length = s.descs.length := by subst hr; unfold Qa5; (repeat' split) <;> simp
  have t1 := Qaj r.1.heads
  have t2 := Qak 91 r.1.descs
  rw [e1] at t1
  rw [e2] at t2
  have t3 : (Qaq (init ++ [r.2.1])).take init.length = Qaq init := by simp [Qaq]
  have t4 : (Qaq (init ++ [r.2.1])).take (init.length + 1) = Qaq (init ++ [r.2.1]) := by rw [List.take_of_length_le (by rw [Qag, hlen2]; exact Nat.le_refl _)]
  have t5 : (Qaq (init ++ [f])).take (init.length + 1) = Qaq (init ++ [f]) := by rw [List.take_of_length_le (by rw [Qag, hlen]; exact Nat.le_refl _)]
  have t6 : (Qaq (init ++ [r.2.1, ⟨r.2.2, 0, 0⟩])).take (init.length + 1 + 1) = Qaq (init ++ [r.2.1, ⟨r.2.2, 0, 0⟩]) := by rw [List.take_of_length_le (by rw [Qag]; simp)]
  have hnq : (((init.length + 1 : Nat) : Int) == 130) = true := by simp; omega
  refine wEo Tryz.func172 [.tmp 4] 59 3 ⟨⟨rfl, rfl⟩, ⟨rfl, Qaf _⟩, ⟨rfl, Qae _ _⟩, by simp [Qbc, Qbg, Qah, Qaf, Qae]⟩ fun E hE => ?_
  unfold FrameD.cells at hl
  unfold StoreD.cells at ho
  have F := wwA @Qba (wwA @Qct (wwA @Qad (wwA @Qab (wwA @Qag (wwA @Qaf (wwA @Qae (wwA hlen (wwA hlen2 (wwA hsub (wwA hk0 (wwA hlt (wwA hle (wwA hmid (wwA hput (wwA hmore (wwA @Qaj (wwA @Qak (wwA @Qap (wwA t1 (wwA t2 (wwA @Nat.le_refl (wwA hm hnq))))))))))))))))))))))
  repeat' first | refine wSq fun _ hK => ?_ | refine Qa1 hT hM (id := 8) 9 [[0,1,2,3,4,5,6,7,8],[0,1,2,3,5,6,4,7,8]] (by kernel_rfl) ?_ | refine ww1 ?_ | (refine wK ?_; clear hK) | (simp only [wHb, reduceCtorEq] at hb <;> try (exfalso; omega)) | (refine Qaz true ?_ ?_ (fun hh => nomatch hh); focus (simp only [go_sem, F]; done); intro _) | (refine Qaz false ?_ (fun hh => nomatch hh) ?_; focus (simp only [go_sem, F]; done); intro _) | refine wCd (fun hb => ?_) fun hb => ?_ | refine wCa (c := by first | exact hof | exact ho) (k := ?_) | refine wOw [6, 4, 5] (c := by exact hl) (k := ?_) | refine ww3 ?_ | refine ww4 ?_ | refine wGd (fun hb => ?_) fun hb => ?_ | refine And.intro ?_ ?_ | exact trivial
  all_goals skip
  all_goals refine Qbf [] rfl [.box [.rf 1 s.heads.length, .rf 2 s.descs.length], .root 151 (Qat s.heads), .root 89 (Qar 91 s.descs)] rfl (by simp [Qbx, Qbd, HpE, hput]) (acc1 := _) (by simp only [go_sem, Qu3, Qky, Qov, Qad, Qab, e1, e2, t1, t2, Nat.le_refl]; try rfl) (by simp only [go_sem, Qcd]; rfl) (acc := _) (by simp only [go_sem, wrap, Qtw, Qtx, Qov, Qag, hlen, hlen2, hle, hle3, t3, t4, t5, t6, Nat.le_refl]; try rfl) (by simp) (by simp [Qcz, e1, e2])
theorem Qu6 (s : StoreD) (init : List FrameD) (f : FrameD) (k : Nat) (d : DescS) (j : Nat) (e : EntS) (o : Nat) (h : HeadD) (ha : AtP s f k d j e o h) (hv0 : 0 ≤ h.version) (hv1 : h.version ≤ 1000000) (hs : s.small) (r : StoreD × FrameD × Int) (hr : Qa5 s f k d e o h = r) (hm : 0 ≤ r.2.2) (h5 : ¬ r.2.1.phase = 5) (hn : init.length + 1 < 130) :
    SatO Tryz.prog 172 [.bp 0 0, .fr 160 (Qaq (init ++ [f]))] [.box [.rf 1 s.heads.length, .rf 2 s.descs.length], .root 151 (Qat s.heads), .root 89 (Qar 91 s.descs)]
      (.rf 5 (init.length + 1 + 1)) [.box [.rf 3 s.heads.length, .rf 4 s.descs.length], .root 151 (Qat s.heads), .root 89 (Qar 91 s.descs), .root 151 (Qat r.1.heads), .root 89 (Qar 91 r.1.descs), .root 160 (Qaq (init ++ [r.2.1, ⟨r.2.2, 0, 0⟩]))] := by
  have hl := Qlf s f k d j e o h ha hv0 hv1 hs r hr
  have ho := Qb4 s hs
  have hof := Qem (init ++ [f]) (by simp; omega)
  have hlen : (init ++ [f]).length = init.length + 1 := by simp
  have hsub : IntKind.i64.wrap (((init.length + 1 : Nat) : Int) - 1) = init.length := by rw [Qax (by omega)]; omega
  have hk0 : (0 : Int) ≤ (init.length : Nat) := by omega
  have hmid := Qe7 init [] f
  have hput := Qe4 init [] f r.2.1
  have hmore := Qed init [] r.2.1 r.2.2
  have hlen2 : (init ++ [r.2.1]).length = init.length + 1 := by simp
  have hle3 : init.length + 1 + 1 ≤ (init ++ [r.2.1, ⟨r.2.2, 0, 0⟩]).length := by simp
  have hlt : init.length < init.length + 1 := by omega
  have hle : init.length ≤ init.length + 1 := by omega
  have e1 : r.1.heads.length = s.heads.length := by subst hr; unfold Qa5; (repeat' split) <;> simp
  have e2 : r.1.descs.length = s.descs.length := by subst hr; unfold Qa5; (repeat' split) <;> simp
  have t1 := Qaj r.1.heads
  have t2 := Qak 91 r.1.descs
  rw [e1] at t1
  rw [e2] at t2
  have t3 : (Qaq (init ++ [r.2.1])).take init.length = Qaq init := by simp [Qaq]
  have t4 : (Qaq (init ++ [r.2.1])).take (init.length + 1) = Qaq (init ++ [r.2.1]) := by rw [List.take_of_length_le (by rw [Qag, hlen2]; exact Nat.le_refl _)]
  have t5 : (Qaq (init ++ [f])).take (init.length + 1) = Qaq (init ++ [f]) := by rw [List.take_of_length_le (by rw [Qag, hlen]; exact Nat.le_refl _)]
  have t6 : (Qaq (init ++ [r.2.1, ⟨r.2.2, 0, 0⟩])).take (init.length + 1 + 1) = Qaq (init ++ [r.2.1, ⟨r.2.2, 0, 0⟩]) := by rw [List.take_of_length_le (by rw [Qag]; simp)]
  have hnq : (((init.length + 1 : Nat) : Int) == 130) = false := by simp; omega
  have h5q : (r.2.1.phase == 5) = false := by simpa using h5
  have hnn : ¬ init.length + 1 = 130 := by omega
  refine wEo Tryz.func172 [.tmp 4] 59 3 ⟨⟨rfl, rfl⟩, ⟨rfl, Qaf _⟩, ⟨rfl, Qae _ _⟩, by simp [Qbc, Qbg, Qah, Qaf, Qae]⟩ fun E hE => ?_
  unfold FrameD.cells at hl
  unfold StoreD.cells at ho
  have F := wwA @Qba (wwA @Qct (wwA @Qad (wwA @Qab (wwA @Qag (wwA @Qaf (wwA @Qae (wwA hlen (wwA hlen2 (wwA hsub (wwA hk0 (wwA hlt (wwA hle (wwA hmid (wwA hput (wwA hmore (wwA @Qaj (wwA @Qak (wwA @Qap (wwA t1 (wwA t2 (wwA @Nat.le_refl (wwA hm (wwA h5q hnq)))))))))))))))))))))))
  repeat' first | refine wSq fun _ hK => ?_ | refine Qa1 hT hM (id := 8) 9 [[0,1,2,3,4,5,6,7,8],[0,1,2,3,5,6,4,7,8]] (by kernel_rfl) ?_ | refine ww1 ?_ | (refine wK ?_; clear hK) | (simp only [wHb, reduceCtorEq] at hb <;> try (exfalso; omega)) | (refine Qaz true ?_ ?_ (fun hh => nomatch hh); focus (simp only [go_sem, F]; done); intro _) | (refine Qaz false ?_ (fun hh => nomatch hh) ?_; focus (simp only [go_sem, F]; done); intro _) | refine wCd (fun hb => ?_) fun hb => ?_ | refine wCa (c := by first | exact hof | exact ho) (k := ?_) | refine wOw [6, 4, 5] (c := by exact hl) (k := ?_) | refine ww3 ?_ | refine ww4 ?_ | refine wGd (fun hb => ?_) fun hb => ?_ | refine And.intro ?_ ?_ | exact trivial
  all_goals skip
  all_goals refine Qbf [] rfl [.box [.rf 4 s.heads.length, .rf 5 s.descs.length], .root 151 (Qat s.heads), .root 89 (Qar 91 s.descs)] rfl (by simp [Qbx, Qbd, HpE, hput]) (acc1 := _) (by simp only [go_sem, Qu3, Qky, Qov, Qad, Qab, e1, e2, t1, t2, Nat.le_refl]; try rfl) (by simp only [go_sem, Qcd]; rfl) (acc := _) (by simp only [go_sem, wrap, Qtw, Qtx, Qov, Qag, hlen, hlen2, hle, hle3, t3, t4, t5, t6, Nat.le_refl]; try rfl) (by simp) (by simp [Qcz, e1, e2])
theorem Qw3 (s : StoreD) (init : List FrameD) (f : FrameD) (k : Nat) (d : DescS) (j : Nat) (e : EntS) (o : Nat) (h : HeadD) (ha : AtP s f k d j e o h) (hv0 : 0 ≤ h.version) (hv1 : h.version ≤ 1000000) (hs : s.small) (r : StoreD × FrameD × Int) (hr : Qa5 s f k d e o h = r) (hm : ¬ 0 ≤ r.2.2) (h5 : r.2.1.phase = 5) (hn : init.length + 1 ≤ 130) :
    SatO Tryz.prog 172 [.bp 0 0, .fr 160 (Qaq (init ++ [f]))] [.box [.rf 1 s.heads.length, .rf 2 s.descs.length], .root 151 (Qat s.heads), .root 89 (Qar 91 s.descs)]
      (.rf 5 init.length) [.box [.rf 3 s.heads.length, .rf 4 s.descs.length], .root 151 (Qat s.heads), .root 89 (Qar 91 s.descs), .root 151 (Qat r.1.heads), .root 89 (Qar 91 r.1.descs), .root 160 (Qaq init)] := by
  have hl := Qlf s f k d j e o h ha hv0 hv1 hs r hr
  have ho := Qb4 s hs
  have hof := Qem (init ++ [f]) (by simp; omega)
  have hlen : (init ++ [f]).length = init.length + 1 := by simp
  have hsub : IntKind.i64.wrap (((init.length + 1 : Nat) : Int) - 1) = init.length := by rw [Qax (by omega)]; omega
  have hk0 : (0 : Int) ≤ (init.length : Nat) := by omega
  have hmid := Qe7 init [] f
  have hput := Qe4 init [] f r.2.1
  have hmore := Qed init [] r.2.1 r.2.2
  have hlen2 : (init ++ [r.2.1]).length = init.length + 1 := by simp
  have hle3 : init.length + 1 + 1 ≤ (init ++ [r.2.1, ⟨r.2.2, 0, 0⟩]).length := by simp
  have hlt : init.length < init.length + 1 := by omega
  have hle : init.length ≤ init.length + 1 := by omega
  have e1 : r.1.heads.length = s.heads.length := by subst hr; unfold Qa5; (repeat' split) <;> simp
  have e2 : r.1.descs.length = s.descs.length := by subst hr; unfold Qa5; (repeat' split) <;> simp
  have t1 := Qaj r.1.heads
  have t2 := Qak 91 r.1.descs
  rw [e1] at t1
  rw [e2] at t2
  have t3 : (Qaq (init ++ [r.2.1])).take init.length = Qaq init := by simp [Qaq]
  have t4 : (Qaq (init ++ [r.2.1])).take (init.length + 1) = Qaq (init ++ [r.2.1]) := by rw [List.take_of_length_le (by rw [Qag, hlen2]; exact Nat.le_refl _)]
  have t5 : (Qaq (init ++ [f])).take (init.length + 1) = Qaq (init ++ [f]) := by rw [List.take_of_length_le (by rw [Qag, hlen]; exact Nat.le_refl _)]
  have t6 : (Qaq (init ++ [r.2.1, ⟨r.2.2, 0, 0⟩])).take (init.length + 1 + 1) = Qaq (init ++ [r.2.1, ⟨r.2.2, 0, 0⟩]) := by rw [List.take_of_length_le (by rw [Qag]; simp)]
  have h5q : (r.2.1.phase == 5) = true := by simp [h5]
  refine wEo Tryz.func172 [.tmp 4] 59 3 ⟨⟨rfl, rfl⟩, ⟨rfl, Qaf _⟩, ⟨rfl, Qae _ _⟩, by simp [Qbc, Qbg, Qah, Qaf, Qae]⟩ fun E hE => ?_
  unfold FrameD.cells at hl
  unfold StoreD.cells at ho
  have F := wwA @Qba (wwA @Qct (wwA @Qad (wwA @Qab (wwA @Qag (wwA @Qaf (wwA @Qae (wwA hlen (wwA hlen2 (wwA hsub (wwA hk0 (wwA hlt (wwA hle (wwA hmid (wwA hput (wwA hmore (wwA @Qaj (wwA @Qak (wwA @Qap (wwA t1 (wwA t2 (wwA @Nat.le_refl (wwA hm h5q))))))))))))))))))))))
  repeat' first | refine wSq fun _ hK => ?_ | refine Qa1 hT hM (id := 8) 9 [[0,1,2,3,4,5,6,7,8],[0,1,2,3,5,6,4,7,8]] (by kernel_rfl) ?_ | refine ww1 ?_ | (refine wK ?_; clear hK) | (simp only [wHb, reduceCtorEq] at hb <;> try (exfalso; omega)) | (refine Qaz true ?_ ?_ (fun hh => nomatch hh); focus (simp only [go_sem, F]; done); intro _) | (refine Qaz false ?_ (fun hh => nomatch hh) ?_; focus (simp only [go_sem, F]; done); intro _) | refine wCd (fun hb => ?_) fun hb => ?_ | refine wCa (c := by first | exact hof | exact ho) (k := ?_) | refine wOw [6, 4, 5] (c := by exact hl) (k := ?_) | refine ww3 ?_ | refine ww4 ?_ | refine wGd (fun hb => ?_) fun hb => ?_ | refine And.intro ?_ ?_ | exact trivial
  all_goals skip
  all_goals refine Qbf [] rfl [.box [.rf 4 s.heads.length, .rf 5 s.descs.length], .root 151 (Qat s.heads), .root 89 (Qar 91 s.descs)] rfl (by simp [Qbx, Qbd, HpE, hput]) (acc1 := _) (by simp only [go_sem, Qu3, Qky, Qov, Qad, Qab, e1, e2, t1, t2, Nat.le_refl]; try rfl) (by simp only [go_sem, Qcd]; rfl) (acc := _) (by simp only [go_sem, wrap, Qtw, Qtx, Qov, Qag, hlen, hlen2, hle, hle3, t3, t4, t5, t6, Nat.le_refl]; try rfl) (by simp) (by simp [Qcz, e1, e2])
theorem Qzb (s : StoreD) (init : List FrameD) (f : FrameD) (k : Nat) (d : DescS) (j : Nat) (e : EntS) (o : Nat) (h : HeadD) (ha : AtP s f k d j e o h) (hv0 : 0 ≤ h.version) (hv1 : h.version ≤ 1000000) (hs : s.small) (r : StoreD × FrameD × Int) (hr : Qa5 s f k d e o h = r) (hm : ¬ 0 ≤ r.2.2) (h5 : ¬ r.2.1.phase = 5) (hn : init.length + 1 ≤ 130) :
    SatO Tryz.prog 172 [.bp 0 0, .fr 160 (Qaq (init ++ [f]))] [.box [.rf 1 s.heads.length, .rf 2 s.descs.length], .root 151 (Qat s.heads), .root 89 (Qar 91 s.descs)]
      (.rf 5 (init.length + 1)) [.box [.rf 3 s.heads.length, .rf 4 s.descs.length], .root 151 (Qat s.heads), .root 89 (Qar 91 s.descs), .root 151 (Qat r.1.heads), .root 89 (Qar 91 r.1.descs), .root 160 (Qaq (init ++ [r.2.1]))] := by
  have hl := Qlf s f k d j e o h ha hv0 hv1 hs r hr
  have ho := Qb4 s hs
  have hof := Qem (init ++ [f]) (by simp; omega)
  have hlen : (init ++ [f]).length = init.length + 1 := by simp
  have hsub : IntKind.i64.wrap (((init.length + 1 : Nat) : Int) - 1) = init.length := by rw [Qax (by omega)]; omega
  have hk0 : (0 : Int) ≤ (init.length : Nat) := by omega
  have hmid := Qe7 init [] f
  have hput := Qe4 init [] f r.2.1
  have hmore := Qed init [] r.2.1 r.2.2
  have hlen2 : (init ++ [r.2.1]).length = init.length + 1 := by simp
  have hle3 : init.length + 1 + 1 ≤ (init ++ [r.2.1, ⟨r.2.2, 0, 0⟩]).length := by simp
  have hlt : init.length < init.length + 1 := by omega
  have hle : init.length ≤ init.length + 1 := by omega
  have e1 : r.1.heads.length = s.heads.length := by subst hr; unfold Qa5; (repeat' split) <;> simp
  have e2 : r.1.descs.length = s.descs.length := by subst hr; unfold Qa5; (repeat' split) <;> simp
  have t1 := Qaj r.1.heads
  have t2 := Qak 91 r.1.descs
  rw [e1] at t1
  rw [e2] at t2
  have t3 : (Qaq (init ++ [r.2.1])).take init.length = Qaq init := by simp [Qaq]
  have t4 : (Qaq (init ++ [r.2.1])).take (init.length + 1) = Qaq (init ++ [r.2.1]) := by rw [List.take_of_length_le (by rw [Qag, hlen2]; exact Nat.le_refl _)]
  have t5 : (Qaq (init ++ [f])).take (init.length + 1) = Qaq (init ++ [f]) := by rw [List.take_of_length_le (by rw [Qag, hlen]; exact Nat.le_refl _)]
  have t6 : (Qaq (init ++ [r.2.1, ⟨r.2.2, 0, 0⟩])).take (init.length + 1 + 1) = Qaq (init ++ [r.2.1, ⟨r.2.2, 0, 0⟩]) := by rw [List.take_of_length_le (by rw [Qag]; simp)]
  have h5q : (r.2.1.phase == 5) = false := by simpa using h5
  refine wEo Tryz.func172 [.tmp 4] 59 3 ⟨⟨rfl, rfl⟩, ⟨rfl, Qaf _⟩, ⟨rfl, Qae _ _⟩, by simp [Qbc, Qbg, Qah, Qaf, Qae]⟩ fun E hE => ?_
  unfold FrameD.cells at hl
  unfold StoreD.cells at ho
  have F := wwA @Qba (wwA @Qct (wwA @Qad (wwA @Qab (wwA @Qag (wwA @Qaf (wwA @Qae (wwA hlen (wwA hlen2 (wwA hsub (wwA hk0 (wwA hlt (wwA hle (wwA hmid (wwA hput (wwA hmore (wwA @Qaj (wwA @Qak (wwA @Qap (wwA t1 (wwA t2 (wwA @Nat.le_refl (wwA hm h5q))))))))))))))))))))))
  repeat' first | refine wSq fun _ hK => ?_ | refine Qa1 hT hM (id := 8) 9 [[0,1,2,3,4,5,6,7,8],[0,1,2,3,5,6,4,7,8]] (by kernel_rfl) ?_ | refine ww1 ?_ | (refine wK ?_; clear hK) | (simp only [wHb, reduceCtorEq] at hb <;> try (exfalso; omega)) | (refine Qaz true ?_ ?_ (fun hh => nomatch hh); focus (simp only [go_sem, F]; done); intro _) | (refine Qaz false ?_ (fun hh => nomatch hh) ?_; focus (simp only [go_sem, F]; done); intro _) | refine wCd (fun hb => ?_) fun hb => ?_ | refine wCa (c := by first | exact hof | exact ho) (k := ?_) | refine wOw [6, 4, 5] (c := by exact hl) (k := ?_) | refine ww3 ?_ | refine ww4 ?_ | refine wGd (fun hb => ?_) fun hb => ?_ | refine And.intro ?_ ?_ | exact trivial
  all_goals skip
  all_goals refine Qbf [] rfl [.box [.rf 4 s.heads.length, .rf 5 s.descs.length], .root 151 (Qat s.heads), .root 89 (Qar 91 s.descs)] rfl (by simp [Qbx, Qbd, HpE, hput]) (acc1 := _) (by simp only [go_sem, Qu3, Qky, Qov, Qad, Qab, e1, e2, t1, t2, Nat.le_refl]; try rfl) (by simp only [go_sem, Qcd]; rfl) (acc := _) (by simp only [go_sem, wrap, Qtw, Qtx, Qov, Qag, hlen, hlen2, hle, hle3, t3, t4, t5, t6, Nat.le_refl]; try rfl) (by simp) (by simp [Qcz, e1, e2])
end Go.Proofs.YtmiojnibngncaaaGreat
namespace Go.Proofs.YtmiojnibngncaaaGreat
open Go Go.RowKit
set_option linter.unusedVariables false
set_option linter.unusedSimpArgs false
def Xen : VV := .tup [.tup []]
def Qc3 (L : List Nat) (x : VV) : VV :=
  match x with
  | .rf T n => (match L[T]? with | some a => .rf a n | none => Xen)
  | .bp T j => (match L[T]? with | some a => .bp a j | none => Xen)
  | .np T i j => (match L[T]? with | some a => .np a i j | none => Xen)
  | .bs T j n e => (match L[T]? with | some a => .bs a j n e | none => Xen)
  | .int k n => .int k n
  | .bool b => .bool b
  | .str s => .str s
  | .nl e => .nl e
  | .fr e rows => .fr e rows
  | .fp row => .fp row
  | .err b => .err b
  | .any => .any
  | .clo f caps => .clo f (caps.map fun c => match c with
    | .bp T j => (match L[T]? with | some a => .bp a j | none => Xen)
    | .fp row => .fp row
    | _ => Xen)
  | _ => Xen
def Qe2 (L : List Nat) (x : VV) : VV :=
  match x with
  | .agg vs => .agg (vs.map (Qc3 L))
  | x => Qc3 L x
def Qfa (L : List Nat) (x : VV) : VV :=
  match x with
  | .tup vs => .tup (vs.map (Qe2 L))
  | x => Qe2 L x
def Qg4 (L : List Nat) (x : Ent) : Ent :=
  match x with
  | .box cs => .box (cs.map (Qc3 L))
  | x => x
def Xey (L : List Nat) (H : Qbi) (p : Nat × Ent) : Prop := match L[p.1]? with
  | some a => H a = Qg4 L p.2 ∧ (match p.2 with | .root _ rows => Qbb rows | _ => True)
  | none => False
def Xgs (m : Nat) (L : List Nat) : Bool := (List.range m).all fun k => match L[k]? with | some a => a == k | none => false
section
variable {P : Program} {E : Env} {g g' : Gh} {s : St} {a : Act} {w w' : World} {ty : Ty} {H : Qbi}
def Qmh (L : List Nat) (g : Gh) : Gh :=
  { hd := fun T p => match L[T]? with | some a => g.hd a p | none => undef
    bx := fun T => match L[T]? with | some a => g.bx a | none => (0, 0)
    own := fun b => match g.own b with
      | some (a, p) => (L.findIdx? (· == a)).map fun T => (T, p)
      | none => none
    ob := fun b o => match g.ob b o with
      | some (a, j) => (L.findIdx? (· == a)).map fun T => (T, j)
      | none => none
    sn := fun T => match L[T]? with | some a => g.sn a | none => false }
theorem Xab {L : List Nat} (hL : L.Nodup) {T a : Nat} (h : L[T]? = some a) : L.findIdx? (· == a) = some T := by
  obtain ⟨hlt, he⟩ := List.getElem?_eq_some_iff.1 h
  rw [List.findIdx?_eq_some_iff_getElem]
  refine ⟨hlt, by simp [he], fun j hj => ?_⟩
  simp only [beq_iff_eq, Bool.not_eq_true, beq_eq_false_iff_ne]
  intro hh
  have := (List.getElem_inj (h₀ := by omega) (h₁ := hlt) hL).1 (hh.trans he.symm)
  omega
def Xgf (L : List Nat) (H H' : Qbi) : Prop := ∀ T, (H' T = .dead) ∨ ∃ a, L[T]? = some a ∧ H a = Qg4 L (H' T) ∧ (match H' T with | .root _ rows => Qbb rows | _ => True)
theorem Qv2 {L : List Nat} {x : Ent} : (Qg4 L x).live = x.live := by cases x <;> rfl
theorem Qlt {L : List Nat} {H H' : Qbi} (h : Xgf L H H') {T a : Nat} (ha : L[T]? = some a) (hr : (H' T).isRoot = true) : H a = H' T := by
  rcases h T with h | ⟨b, hb, h1, _⟩
  · rw [h] at hr; cases hr
  · rw [ha] at hb
    cases hb
    rw [h1]
    cases hx : H' T with
    | box cs => rw [hx] at hr; cases hr
    | _ => rfl
theorem Qjk {L : List Nat} {H H' : Qbi} (h : Xgf L H H') {T a : Nat} (ha : L[T]? = some a) (hr : (H' T).live = true) : (H a).live = true := by
  rcases h T with h | ⟨b, hb, h1, _⟩
  · rw [h] at hr; cases hr
  · rw [ha] at hb
    cases hb
    rw [h1, Qv2]; exact hr
theorem Qdj {L : List Nat} {H H' : Qbi} (hh : Xgf L H H') {x : VV} {v : Value} (h : Qea P E H g (Qc3 L x) v) : Qea P E H' (Qmh L g) x v := by
  have sn : ∀ {T a : Nat}, L[T]? = some a → g.sn a = true → (Qmh L g).sn T = true := fun ha hs => by simp only [Qmh, ha]; exact hs
  have bx : ∀ {T a : Nat}, L[T]? = some a → (Qmh L g).bx T = g.bx a := fun ha => by simp only [Qmh, ha]
  have hd : ∀ {T a : Nat}, L[T]? = some a → ∀ p, (Qmh L g).hd T p = g.hd a p := fun ha p => by simp only [Qmh, ha]
  cases x with
  | rf T n =>
    simp only [Qc3] at h
    split at h
    · rename_i a ha
      obtain ⟨h1, h2, h3⟩ := h
      refine ⟨sn ha h1, h2, fun hr => ?_⟩
      rw [hd ha]
      exact h3 (by rw [Qlt hh ha hr]; exact hr)
    · exact False.elim h
  | bp T j =>
    simp only [Qc3] at h
    split at h
    · rename_i a ha
      obtain ⟨h1, h2, h3⟩ := h
      refine ⟨sn ha h1, h2, fun hr => ?_⟩
      rw [bx ha]
      exact h3 (Qjk hh ha hr)
    · exact False.elim h
  | np T i j =>
    simp only [Qc3] at h
    split at h
    · rename_i a ha
      obtain ⟨h1, h2, h3⟩ := h
      refine ⟨sn ha h1, h2, fun e rows hr => ?_⟩
      rw [hd ha]
      exact h3 e rows (by rw [Qlt hh ha (by rw [hr]; rfl)]; exact hr)
    · exact False.elim h
  | bs T j n e =>
    simp only [Qc3] at h
    split at h
    · rename_i a ha
      obtain ⟨h1, h2, h3, h4⟩ := h
      refine ⟨sn ha h1, h2, h3, fun hr => ?_⟩
      rw [bx ha]
      exact h4 (Qjk hh ha hr)
    · exact False.elim h
  | clo f caps =>
    obtain ⟨cs, h1, h2, h3⟩ := h
    simp only [List.length_map] at h2
    refine ⟨cs, h1, h2, fun j c u hc hu => ?_⟩
    have h4 := h3 j _ u (by rw [List.getElem?_map, hc]; rfl) hu
    cases c with
    | bp T j =>
      simp only at h4
      split at h4
      · rename_i a ha
        obtain ⟨k1, k2, k3⟩ := h4
        refine ⟨sn ha k1, k2, fun hr => ?_⟩
        rw [bx ha]
        exact k3 (Qjk hh ha hr)
      · exact h4.elim
    | fp row => exact h4
    | _ => exact h4.elim
  | agg vs => exact False.elim h
  | tup vs => exact False.elim h
  | _ => exact h
theorem Qdk {L : List Nat} {H H' : Qbi} (hh : Xgf L H H') {x : VV} {v : Value} (h : Qju P E H g (Qe2 L x) v) : Qju P E H' (Qmh L g) x v := by
  cases x with
  | agg vs =>
    obtain ⟨cs, h1, h2, h3⟩ := h
    simp only [List.length_map] at h2
    refine ⟨cs, h1, h2, fun j c u hc hu => ?_⟩
    exact Qdj hh (h3 j _ u (by rw [List.getElem?_map, hc]; rfl) hu)
  | rf T n =>
    cases hL : L[T]? with
    | none => simp only [Qe2, Qc3, hL] at h; exact False.elim h
    | some a => exact Qdj (P := P) (E := E) (g := g) (H := H) (x := .rf T n) hh (by simp only [Qe2, Qc3, hL] at h ⊢; exact h)
  | bp T j =>
    cases hL : L[T]? with
    | none => simp only [Qe2, Qc3, hL] at h; exact False.elim h
    | some a => exact Qdj (P := P) (E := E) (g := g) (H := H) (x := .bp T j) hh (by simp only [Qe2, Qc3, hL] at h ⊢; exact h)
  | np T i j =>
    cases hL : L[T]? with
    | none => simp only [Qe2, Qc3, hL] at h; exact False.elim h
    | some a => exact Qdj (P := P) (E := E) (g := g) (H := H) (x := .np T i j) hh (by simp only [Qe2, Qc3, hL] at h ⊢; exact h)
  | bs T j n e =>
    cases hL : L[T]? with
    | none => simp only [Qe2, Qc3, hL] at h; exact False.elim h
    | some a => exact Qdj (P := P) (E := E) (g := g) (H := H) (x := .bs T j n e) hh (by simp only [Qe2, Qc3, hL] at h ⊢; exact h)
  | int k n => exact Qdj (P := P) (E := E) (g := g) (H := H) (x := .int k n) hh h
  | bool b => exact Qdj (P := P) (E := E) (g := g) (H := H) (x := .bool b) hh h
  | str s => exact Qdj (P := P) (E := E) (g := g) (H := H) (x := .str s) hh h
  | nl e => exact Qdj (P := P) (E := E) (g := g) (H := H) (x := .nl e) hh h
  | fr e rows => exact Qdj (P := P) (E := E) (g := g) (H := H) (x := .fr e rows) hh h
  | fp row => exact Qdj (P := P) (E := E) (g := g) (H := H) (x := .fp row) hh h
  | err b => exact Qdj (P := P) (E := E) (g := g) (H := H) (x := .err b) hh h
  | any => trivial
  | clo f caps => exact Qdj (P := P) (E := E) (g := g) (H := H) (x := .clo f caps) hh h
  | tup vs => exact False.elim h
theorem Xdh {L : List Nat} {H H' : Qbi} (hh : Xgf L H H') {x : VV} {v : Value} (h : Qds P E H g (Qfa L x) v) : Qds P E H' (Qmh L g) x v := by
  have bad : ∀ {v : Value}, Qds P E H g Xen v → False := fun {v} h => by
    obtain ⟨cs, h1, h2, h3⟩ := h
    cases cs with
    | nil => simp at h2
    | cons c cs => exact False.elim (h3 0 (.tup []) c rfl rfl)
  cases x with
  | tup vs =>
    obtain ⟨cs, h1, h2, h3⟩ := h
    simp only [List.length_map] at h2
    refine ⟨cs, h1, h2, fun j c u hc hu => ?_⟩
    exact Qdk hh (h3 j _ u (by rw [List.getElem?_map, hc]; rfl) hu)
  | rf T n =>
    cases hL : L[T]? with
    | none => simp only [Qfa, Qe2, Qc3, hL] at h; exact (bad h).elim
    | some a => exact Qdk (P := P) (E := E) (g := g) (H := H) (x := .rf T n) hh (by simp only [Qfa, Qe2, Qc3, hL] at h ⊢; exact h)
  | bp T j =>
    cases hL : L[T]? with
    | none => simp only [Qfa, Qe2, Qc3, hL] at h; exact (bad h).elim
    | some a => exact Qdk (P := P) (E := E) (g := g) (H := H) (x := .bp T j) hh (by simp only [Qfa, Qe2, Qc3, hL] at h ⊢; exact h)
  | np T i j =>
    cases hL : L[T]? with
    | none => simp only [Qfa, Qe2, Qc3, hL] at h; exact (bad h).elim
    | some a => exact Qdk (P := P) (E := E) (g := g) (H := H) (x := .np T i j) hh (by simp only [Qfa, Qe2, Qc3, hL] at h ⊢; exact h)
  | bs T j n e =>
    cases hL : L[T]? with
    | none => simp only [Qfa, Qe2, Qc3, hL] at h; exact (bad h).elim
    | some a => exact Qdk (P := P) (E := E) (g := g) (H := H) (x := .bs T j n e) hh (by simp only [Qfa, Qe2, Qc3, hL] at h ⊢; exact h)
  | int k n => exact Qdk (P := P) (E := E) (g := g) (H := H) (x := .int k n) hh h
  | bool b => exact Qdk (P := P) (E := E) (g := g) (H := H) (x := .bool b) hh h
  | str s => exact Qdk (P := P) (E := E) (g := g) (H := H) (x := .str s) hh h
  | nl e => exact Qdk (P := P) (E := E) (g := g) (H := H) (x := .nl e) hh h
  | fr e rows => exact Qdk (P := P) (E := E) (g := g) (H := H) (x := .fr e rows) hh h
  | fp row => exact Qdk (P := P) (E := E) (g := g) (H := H) (x := .fp row) hh h
  | err b => exact Qdk (P := P) (E := E) (g := g) (H := H) (x := .err b) hh h
  | any => trivial
  | clo f caps => exact Qdk (P := P) (E := E) (g := g) (H := H) (x := .clo f caps) hh h
  | agg vs => exact Qdk (P := P) (E := E) (g := g) (H := H) (x := .agg vs) hh h
theorem Xdy {L : List Nat} (hL : L.Nodup) {H H' : Qbi} (hh : Xgf L H H') (h : HRel P E g H w) : HRel P E (Qmh L g) H' w := by
  refine ⟨h.frm, fun T e rows hT p e' rows' hp => ?_, fun T cs hT => ?_, fun T hT => ?_⟩
  · rcases hh T with h0 | ⟨a, ha, h1, h2⟩
    · rw [h0] at hT; cases hT
    · rw [hT] at h1 h2
      have hpur : Qbb rows' := Qik p (.list e rows) (.list e rows h2) e' rows' hp
      have hd : ∀ p, (Qmh L g).hd T p = g.hd a p := fun p => by simp only [Qmh, ha]
      rcases h.node a e rows h1 p e' rows' hp with ⟨k1, k2⟩ | ⟨b, cap, cur, k1, k2, k3, k4, k5, k6, k7, k8⟩
      · exact .inl ⟨by rw [hd]; exact k1, k2⟩
      · refine .inr ⟨b, cap, cur, by rw [hd]; exact k1, ?_, k3, k4, k5, k6, k7, fun i r hr => ⟨(k8 i r hr).1, fun j c hc => ?_⟩⟩
        · simp only [Qmh, k2, Xab hL ha, Option.map_some]
        · obtain ⟨u, u1, u2⟩ := (k8 i r hr).2 j c hc
          refine ⟨u, u1, ?_⟩
          rw [hd]
          have hpc := hpur r (List.mem_of_getElem? hr) c (List.mem_of_getElem? hc)
          cases hpc <;> exact u2
  · rcases hh T with h0 | ⟨a, ha, h1, h2⟩
    · rw [h0] at hT; cases hT
    · rw [hT] at h1
      obtain ⟨cur, e, k1, k2, k3⟩ := h.box a (cs.map (Qc3 L)) h1
      have hb : (Qmh L g).bx T = g.bx a := by simp only [Qmh, ha]
      refine ⟨cur, e, by rw [hb]; exact k1, ?_, fun j c hc => ?_⟩
      · rw [hb]
        simp only [Qmh, k2]
      · obtain ⟨m1, m2, u, m3, m4⟩ := k3 j (Qc3 L c) (by rw [List.getElem?_map, hc]; rfl)
        rw [hb]
        refine ⟨?_, m2, u, m3, Qdj hh m4⟩
        simp only [Qmh, m1, Xab hL ha, Option.map_some]
  · rcases hh T with h0 | ⟨a, ha, h1, h2⟩
    · rw [h0] at hT; cases hT
    · have : (H a).live = true := by rw [h1, Qv2]; exact hT
      simp only [Qmh, ha]
      exact h.seen a this
theorem Xa9 {L : List Nat} {H : Qbi} : ∀ {hl : List (Nat × Ent)}, (∀ p ∈ hl, Xey L H p) → Xgf L H (hpL hl)
  | [], _, T => .inl rfl
  | (u, e) :: hl, h, T => by
    simp only [hpL]
    split
    · rename_i hu
      subst hu
      have h0 := h (T, e) (List.mem_cons_self ..)
      unfold Xey at h0
      split at h0
      · rename_i a ha
        exact .inr ⟨a, ha, h0⟩
      · exact h0.elim
    · exact Xa9 (fun p hp => h p (List.mem_cons_of_mem _ hp)) T
theorem Xbh {m : Nat} (hE : Qrb E m) (L : List Nat) (tl : List (Nat × VV)) (hl : List (Nat × Ent)) (hL : L.Nodup) (hm : Xgs m L = true) (h1 : ∀ p ∈ tl, s.tm p.1 = Qfa L p.2) (h2 : ∀ p ∈ hl, Xey L s.H p) (hr : Rel P E g s a w) :
    Rel P E (Qmh L g) ⟨tmL tl, hpL hl, L.length, s.N, none⟩ a w := by
  have hh := Xa9 h2
  refine ⟨hr.size, hr.defers, Xdy hL hh hr.heap, fun T hT => ?_, fun t => ?_, ?_⟩
  · have : L[T]? = none := List.getElem?_eq_none hT.1
    simp only [Qmh, this]
  · have key : ∀ tl : List (Nat × VV), (∀ p ∈ tl, s.tm p.1 = Qfa L p.2) → tmL tl t = .any ∨ s.tm t = Qfa L (tmL tl t) := by
      intro tl
      induction tl with
      | nil => intro _; exact .inl rfl
      | cons q tl ih =>
        intro h
        obtain ⟨u, v⟩ := q
        simp only [tmL]
        split
        · rename_i hu
          right
          rw [hu]
          exact h (u, v) (List.mem_cons_self ..)
        · exact ih fun p hp => h p (List.mem_cons_of_mem _ hp)
    rcases key tl h1 with h | h
    · show Qds P E _ _ (tmL tl t) _
      rw [h]; trivial
    · refine Xdh hh ?_
      rw [← h]
      exact hr.tmps t
  · refine hE g s.H _ _ (fun T hT => ?_) hr.pin
    have ha : L[T]? = some T := by
      simp only [Xgs, List.all_eq_true, List.mem_range] at hm
      have := hm T hT
      split at this
      · rename_i a ha
        rw [ha, beq_iff_eq.1 this]
      · cases this
    refine ⟨fun h => by simp only [Qmh, ha]; exact h, fun e rows' h => ?_, fun h => Qjk hh ha h, by simp only [Qmh, ha], by simp only [Qmh, ha]⟩
    exact ⟨rows', by rw [Qlt hh ha (by have h' : hpL hl T = .root e rows' := h; rw [h']; rfl)]; exact h⟩
theorem Xgj {c : Code} {Q : Exit → St → Prop} {m : Nat} (hE : Qrb E m) (L : List Nat) (tl : List (Nat × VV)) (hl : List (Nat × Ent)) (hL : L.Nodup) (hm : Xgs m L = true) (h1 : ∀ p ∈ tl, s.tm p.1 = Qfa L p.2) (h2 : ∀ p ∈ hl, Xey L s.H p)
    (h : VWP P E c Q ⟨tmL tl, hpL hl, L.length, s.N, none⟩) : VWP P E c Q s := fun g a w hr => h _ a w (Xbh hE L tl hl hL hm h1 h2 hr)
variable {tm : Nat → VV} {nx N : Nat}
def Qdo {X : Type} (tl : X → List (Nat × VV)) (hl : X → List (Nat × Ent)) (μ : X → Nat) (J : X → Prop) (m K N : Nat) (x : X) (s' : St) : Prop :=
  ∃ ms H', Qb1 ms s'.H = some H' ∧ ∃ L x', L.length = K ∧ L.Nodup ∧ Xgs m L = true ∧ J x' ∧ μ x' < μ x ∧ (∀ p ∈ tl x', s'.tm p.1 = Qfa L p.2) ∧ (∀ p ∈ hl x', Xey L H' p) ∧ s'.N = N
theorem Qfb {X : Type} {tl : X → List (Nat × VV)} {hl : X → List (Nat × Ent)} {μ : X → Nat} {J : X → Prop} {m K : Nat} {x : X} {lim : Option Nat} (ms : List (Nat × Nat × Nat)) {H' : Qbi} (h0 : Qb1 ms H = some H') (L : List Nat) (x' : X) (hK : L.length = K) (hL : L.Nodup) (hm : Xgs m L = true) (h1 : J x') (h2 : μ x' < μ x) (h3 : ∀ p ∈ tl x', tm p.1 = Qfa L p.2) (h4 : ∀ p ∈ hl x', Xey L H' p) :
    Qdo tl hl μ J m K N x ⟨tm, H, nx, N, lim⟩ := ⟨ms, H', h0, L, x', hK, hL, hm, h1, h2, h3, h4, rfl⟩
theorem wNn {X : Type} {tl : X → List (Nat × VV)} {hl : X → List (Nat × Ent)} {μ : X → Nat} {J : X → Prop} {m K N : Nat} {x : X} {s : St} (h : Qdo tl hl μ J m K N x s) : Qdo tl hl μ J m K N x s := h
theorem Qd5 {X : Type} {m : Nat} (hE : Qrb E m) (tl : X → List (Nat × VV)) (hl : X → List (Nat × Ent)) (μ : X → Nat) (J : X → Prop) (L0 : List Nat) (x0 : X) {c : Code} {Q : Exit → St → Prop} (hJ : J x0) (hL : L0.Nodup) (hm : Xgs m L0 = true) (h1 : ∀ p ∈ tl x0, tm p.1 = Qfa L0 p.2) (h2 : ∀ p ∈ hl x0, Xey L0 H p)
    (round : ∀ x, J x → VWP P E c (Qbm (Qdo tl hl μ J m L0.length N x) Q) ⟨tmL (tl x), hpL (hl x), L0.length, N, none⟩) :
    VWP P E (.loop c) Q ⟨tm, H, nx, N, none⟩ := by
  refine Xgj hE L0 (tl x0) (hl x0) hL hm h1 h2 ?_
  refine Qql (fun n s => ∃ x, J x ∧ n = μ x ∧ s = ⟨tmL (tl x), hpL (hl x), L0.length, N, none⟩) (μ x0) ⟨x0, hJ, rfl, rfl⟩ ?_
  rintro n s ⟨x, k1, rfl, rfl⟩
  refine Qpu (fun e s he => ?_) (round x k1)
  cases e with
  | normal =>
    obtain ⟨ms, H', j0, L, x', j1, j2, j3, j4, j5, j6, j7, j8⟩ := he
    refine ⟨⟨tmL (tl x'), hpL (hl x'), L0.length, N, none⟩, fun g a w hr => ?_, μ x', j5, x', j4, rfl, rfl⟩
    obtain ⟨g1, hg1, _⟩ := Qff hr j0
    have := Xbh (s := { s with H := H' }) hE L (tl x') (hl x') j2 j3 j6 j7 hg1
    simp only [j1, j8] at this
    exact ⟨_, this⟩
  | _ => exact ⟨s, fun g a w hr => ⟨g, hr⟩, he⟩
end
theorem Qb6 {L : List Nat} {H : Qbi} {T : Nat} {e : Ent} : Xey L H (T, e) = (match L[T]? with
  | some a => H a = Qg4 L e ∧ (match e with | .root _ rows => Qbb rows | _ => True)
  | none => False) := rfl
end Go.Proofs.YtmiojnibngncaaaGreat
