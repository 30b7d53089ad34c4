/- What the claim rests on, part 21: the value-level engine and contracts of functions; no condition. -/
import Derived.Test.YtmiojnibngncaaaGreatZQs
import Derived.Test.YtmiojnibngncaaaGreatZQt
namespace Go.Proofs.YtmiojnibngncaaaGreat
open Go Go.RowKit
set_option linter.unusedVariables false
set_option linter.unusedSimpArgs false
set_option maxRecDepth 100000
set_option maxHeartbeats 4000000
attribute [local irreducible] Qdo VWP Qb5 Qbn Qbs Qbu Qbj Qbt Qa3 Qbq Qcq Qc6 Qbk Qdb Qc4 Qbr Qbm Qa8
theorem Qw9 (t : ThreadD) (h0 : 0 ≤ t.fails) (h1 : t.fails ≤ 1000000) : SatO Tryz.prog 160 [.agg (thB t (.rf 0 t.prog.length) (.rf 1 t.opens.length) (.rf 2 t.stack.length))] [.root 146 (Qaw t.prog), .root 91 (Qav t.opens), .root 160 (Qaq t.stack)]
    (.tup [.agg (thB (⟨t.id, t.prog, 0, 0, 0, 0, 0, [], -1, t.stack, t.mine, t.state, t.commits, Qlr t.fails⟩ : ThreadD) (.rf 0 t.prog.length) (.rf 3 0) (.rf 2 t.stack.length)), .rf 4 1]) [.root 146 (Qaw t.prog), .root 91 (Qav t.opens), .root 160 (Qaq t.stack), .root 91 [], .root 86 (Qa0 [⟨4, t.id, 0, 0⟩])] := by
  have hw : IntKind.i64.wrap (t.fails + 1) = t.fails + 1 := Qax (by omega)
  have hmn := Qmp 1000000 (t.fails + 1)
  rw [show (if (1000000 : Int) < t.fails + 1 then 1000000 else t.fails + 1) = Qlr t.fails from rfl] at hmn
  simp only [thB] at *
  refine wEo Tryz.func160 [.cell 2 57, .tmp 3] 19 3 (by simp [Qbc, Qa6, Qbg, Qcr, Qda]) fun E hE => ?_
  have F := wwA hw (wwA @Qao (wwA @Qam (wwA @Qaa (wwA @Qac (wwA @Qag (wwA @Qah (wwA @Qau (wwA @Qai (wwA @Qap (wwA @Qas (wwA @Qan (wwA @Qal (wwA @Qad (wwA @Qaf (wwA @Qab (wwA @Qae (wwA @Qaj (wwA @Qak (wwA @Qay @Nat.le_refl)))))))))))))))))))
  repeat' first | refine wSq fun _ hK => ?_ | refine Qa1 hT hM (id := 6) 7 [[0,1,2,3,4,5,6],[0,1,2,3,5,4,6],[0,1,5,2,3,4,6],[0,5,1,2,3,4,6]] (by kernel_rfl) ?_ | refine ww1 ?_ | (refine wK ?_; clear hK) | (simp only [wHb, reduceCtorEq] at hb <;> try (exfalso; omega)) | refine wCd (fun hb => ?_) fun hb => ?_ | refine wCa (c := by first | exact hmn) (k := ?_) | refine ww3 ?_ | ((fail_if_success refine wwN ?_); refine ww4 ?_) | refine wGd (fun hb => ?_) fun hb => ?_ | refine And.intro ?_ ?_ | exact trivial
  all_goals refine wRo [] [_, _, _]
theorem Qk9 (s : StoreD) (t t2 : ThreadD) (fs : List FrameD) (j : Nat) (e : EntS) (oo : Nat) (h : HeadD) (hj : t.check = j) (he : t.opens[j]? = some e) (ho : e.object = oo) (hh : s.heads[oo]? = some h) (hjl : j ≤ 1048576) (hd : 0 ≤ h.desc) (hl : t.stack.length ≤ 1048576) (h2 : t2 = Qbz t h.desc) (hf : fs = t.stack ++ [⟨h.desc, 0, 0⟩]) : SatO Tryz.prog 118 [.agg [.rf 0 s.heads.length, .rf 1 s.descs.length], .agg (thB t (.rf 2 t.prog.length) (.rf 3 t.opens.length) (.rf 4 t.stack.length))] [.root 151 (Qat s.heads), .root 89 (Qar 91 s.descs), .root 146 (Qaw t.prog), .root 91 (Qav t.opens), .root 160 (Qaq t.stack)] (.tup [.agg (thB t2 (.rf 2 t.prog.length) (.rf 3 t.opens.length) (.rf 5 fs.length)), .rf 6 0]) [.root 151 (Qat s.heads), .root 89 (Qar 91 s.descs), .root 146 (Qaw t.prog), .root 91 (Qav t.opens), .dead, .root 160 (Qaq fs), .root 86 (Qa0 [])] := by
  have hre := Qbe he
  have hrh := Qb0 hh
  have hlj := (List.getElem?_eq_some_iff.1 he).1
  have hlo := (List.getElem?_eq_some_iff.1 hh).1
  have hj0 : (0 : Int) ≤ (j : Int) := by omega
  have hji : (j : Int) < (t.opens.length : Int) := by omega
  have hoi : (oo : Int) < (s.heads.length : Int) := by omega
  have ho0 : (0 : Int) ≤ (oo : Int) := by omega
  have hw : IntKind.i64.wrap ((j : Int) + 1) = j + 1 := Qax (by omega)
  obtain ⟨ti, tp, tpc, r0, r1, r2, r3, top, tck, tst, tmn, tsa, tco, tfa⟩ := t
  simp only at *
  subst hj
  have happ : Qaq tst ++ [[.int .i64 h.desc, .int .i64 0, .int .i64 0]] = Qaq fs := by rw [hf]; simp [Qaq, FrameD.enc]
  have happ2 : (Qaq tst).take tst.length ++ [[.int .i64 h.desc, .int .i64 0, .int .i64 0]] = Qaq fs := by rw [Qap]; exact happ
  have hlen : tst.length + 1 = fs.length := by rw [hf]; simp
  subst h2
  unfold Qbz at *
  simp only [thB] at *
  refine wEo Tryz.func118 [.cell 4 57, .tmp 5] 61 5 (by simp [Qbc, Qa6, Qbg, Qcr, Qda]) fun E hE => ?_
  have F := wwA @Qao (wwA @Qam (wwA @Qaa (wwA @Qac (wwA @Qag (wwA @Qah (wwA @Qau (wwA @Qai (wwA @Qap (wwA @Qas (wwA @Qan (wwA @Qal (wwA @Qad (wwA @Qaf (wwA @Qab (wwA @Qae (wwA @Qaj (wwA @Qak (wwA @Qay (wwA @Nat.le_refl (wwA hre (wwA hrh (wwA hlj (wwA hlo (wwA hj0 (wwA hji (wwA hoi (wwA ho0 (wwA ho (wwA hd (wwA happ (wwA happ2 hlen)))))))))))))))))))))))))))))))
  repeat' first | refine wSq fun _ hK => ?_ | refine ww1 ?_ | (refine wK ?_; clear hK) | (simp only [wHb, reduceCtorEq] at hb <;> try (exfalso; omega)) | refine Qcf (fun hb => ?_) fun hb => ?_ | refine Qce ?_ | ((fail_if_success refine wwN ?_); refine ww4 ?_) | refine Qcc (fun hb => ?_) fun hb => ?_ | exact trivial
  all_goals refine wRo [] [_, _, _, _, _]
theorem Qmn (s : StoreD) (t t2 : ThreadD) (j : Nat) (e : EntS) (oo : Nat) (h : HeadD) (hj : t.check = j) (he : t.opens[j]? = some e) (ho : e.object = oo) (hh : s.heads[oo]? = some h) (hjl : j ≤ 1048576) (hd : h.desc < 0) (hv : ¬ h.version = e.version) (h0 : 0 ≤ t.fails) (h1 : t.fails ≤ 1000000) (h2 : t2 = Qdx t) : SatO Tryz.prog 118 [.agg [.rf 0 s.heads.length, .rf 1 s.descs.length], .agg (thB t (.rf 2 t.prog.length) (.rf 3 t.opens.length) (.rf 4 t.stack.length))] [.root 151 (Qat s.heads), .root 89 (Qar 91 s.descs), .root 146 (Qaw t.prog), .root 91 (Qav t.opens), .root 160 (Qaq t.stack)] (.tup [.agg (thB t2 (.rf 2 t.prog.length) (.rf 5 0) (.rf 4 t.stack.length)), .rf 6 1]) [.root 151 (Qat s.heads), .root 89 (Qar 91 s.descs), .root 146 (Qaw t.prog), .root 91 (Qav t.opens), .root 160 (Qaq t.stack), .root 91 [], .root 86 (Qa0 [⟨4, t.id, 0, 0⟩])] := by
  have hre := Qbe he
  have hrh := Qb0 hh
  have hlj := (List.getElem?_eq_some_iff.1 he).1
  have hlo := (List.getElem?_eq_some_iff.1 hh).1
  have hj0 : (0 : Int) ≤ (j : Int) := by omega
  have hji : (j : Int) < (t.opens.length : Int) := by omega
  have hoi : (oo : Int) < (s.heads.length : Int) := by omega
  have ho0 : (0 : Int) ≤ (oo : Int) := by omega
  have hw : IntKind.i64.wrap ((j : Int) + 1) = j + 1 := Qax (by omega)
  obtain ⟨ti, tp, tpc, r0, r1, r2, r3, top, tck, tst, tmn, tsa, tco, tfa⟩ := t
  simp only at *
  subst hj
  have hdn : ¬ 0 ≤ h.desc := by omega
  have hvb : (h.version != e.version) = true := by simpa using hv
  have hfl := Qw9 (⟨ti, tp, tpc, r0, r1, r2, r3, top, (j : Int), tst, tmn, tsa, tco, tfa⟩ : ThreadD) h0 h1
  simp only [thB] at hfl
  subst h2
  unfold Qdx at *
  simp only [thB] at *
  refine wEo Tryz.func118 [.cell 4 57, .tmp 5] 61 5 (by simp [Qbc, Qa6, Qbg, Qcr, Qda]) fun E hE => ?_
  have F := wwA @Qao (wwA @Qam (wwA @Qaa (wwA @Qac (wwA @Qag (wwA @Qah (wwA @Qau (wwA @Qai (wwA @Qap (wwA @Qas (wwA @Qan (wwA @Qal (wwA @Qad (wwA @Qaf (wwA @Qab (wwA @Qae (wwA @Qaj (wwA @Qak (wwA @Qay (wwA @Nat.le_refl (wwA hre (wwA hrh (wwA hlj (wwA hlo (wwA hj0 (wwA hji (wwA hoi (wwA ho0 (wwA ho (wwA hdn hvb)))))))))))))))))))))))))))))
  repeat' first | refine wSq fun _ hK => ?_ | refine ww1 ?_ | (refine wK ?_; clear hK) | (simp only [wHb, reduceCtorEq] at hb <;> try (exfalso; omega)) | refine Qcf (fun hb => ?_) fun hb => ?_ | refine Xgr [2, 3, 4] (c := by exact hfl) (k := ?_) | refine Qce ?_ | ((fail_if_success refine wwN ?_); refine ww4 ?_) | refine Qcc (fun hb => ?_) fun hb => ?_ | exact trivial
  all_goals refine wRo [] [_, _, _, _, _]
theorem Qln (s : StoreD) (t t2 : ThreadD) (j : Nat) (e : EntS) (oo : Nat) (h : HeadD) (hj : t.check = j) (he : t.opens[j]? = some e) (ho : e.object = oo) (hh : s.heads[oo]? = some h) (hjl : j ≤ 1048576) (hd : h.desc < 0) (hv : h.version = e.version) (hn : ¬ (j : Int) + 1 = (t.opens.length : Int) - 1) (hlo2 : t.opens.length ≤ 1048576) (h2 : t2 = {t with check := (j : Int) + 1}) : SatO Tryz.prog 118 [.agg [.rf 0 s.heads.length, .rf 1 s.descs.length], .agg (thB t (.rf 2 t.prog.length) (.rf 3 t.opens.length) (.rf 4 t.stack.length))] [.root 151 (Qat s.heads), .root 89 (Qar 91 s.descs), .root 146 (Qaw t.prog), .root 91 (Qav t.opens), .root 160 (Qaq t.stack)] (.tup [.agg (thB t2 (.rf 2 t.prog.length) (.rf 3 t.opens.length) (.rf 4 t.stack.length)), .rf 5 0]) [.root 151 (Qat s.heads), .root 89 (Qar 91 s.descs), .root 146 (Qaw t.prog), .root 91 (Qav t.opens), .root 160 (Qaq t.stack), .root 86 (Qa0 [])] := by
  have hre := Qbe he
  have hrh := Qb0 hh
  have hlj := (List.getElem?_eq_some_iff.1 he).1
  have hlo := (List.getElem?_eq_some_iff.1 hh).1
  have hj0 : (0 : Int) ≤ (j : Int) := by omega
  have hji : (j : Int) < (t.opens.length : Int) := by omega
  have hoi : (oo : Int) < (s.heads.length : Int) := by omega
  have ho0 : (0 : Int) ≤ (oo : Int) := by omega
  have hw : IntKind.i64.wrap ((j : Int) + 1) = j + 1 := Qax (by omega)
  obtain ⟨ti, tp, tpc, r0, r1, r2, r3, top, tck, tst, tmn, tsa, tco, tfa⟩ := t
  simp only at *
  subst hj
  have hdn : ¬ 0 ≤ h.desc := by omega
  have hvb : (h.version != e.version) = false := by simpa using hv
  have hnb : ((j : Int) + 1 == (top.length : Int) - 1) = false := by simpa using hn
  have hw2 : IntKind.i64.wrap ((top.length : Int) - 1) = top.length - 1 := Qax (by omega)
  subst h2
  simp only [thB] at *
  refine wEo Tryz.func118 [.cell 4 57, .tmp 5] 61 5 (by simp [Qbc, Qa6, Qbg, Qcr, Qda]) fun E hE => ?_
  have F := wwA @Qao (wwA @Qam (wwA @Qaa (wwA @Qac (wwA @Qag (wwA @Qah (wwA @Qau (wwA @Qai (wwA @Qap (wwA @Qas (wwA @Qan (wwA @Qal (wwA @Qad (wwA @Qaf (wwA @Qab (wwA @Qae (wwA @Qaj (wwA @Qak (wwA @Qay (wwA @Nat.le_refl (wwA hre (wwA hrh (wwA hlj (wwA hlo (wwA hj0 (wwA hji (wwA hoi (wwA ho0 (wwA ho (wwA hdn (wwA hvb (wwA hw (wwA hw2 hnb))))))))))))))))))))))))))))))))
  repeat' first | refine wSq fun _ hK => ?_ | refine ww1 ?_ | (refine wK ?_; clear hK) | (simp only [wHb, reduceCtorEq] at hb <;> try (exfalso; omega)) | refine Qcf (fun hb => ?_) fun hb => ?_ | refine Qce ?_ | ((fail_if_success refine wwN ?_); refine ww4 ?_) | refine Qcc (fun hb => ?_) fun hb => ?_ | exact trivial
  all_goals refine wRo [] [_, _, _, _, _]
theorem Ql9 (s : StoreD) (t t2 : ThreadD) (j : Nat) (e : EntS) (oo : Nat) (h : HeadD) (hj : t.check = j) (he : t.opens[j]? = some e) (ho : e.object = oo) (hh : s.heads[oo]? = some h) (hjl : j ≤ 1048576) (hd : h.desc < 0) (hv : h.version = e.version) (hn : (j : Int) + 1 = (t.opens.length : Int) - 1) (hlo2 : t.opens.length ≤ 1048576) (h2 : t2 = {t with check := -1}) : SatO Tryz.prog 118 [.agg [.rf 0 s.heads.length, .rf 1 s.descs.length], .agg (thB t (.rf 2 t.prog.length) (.rf 3 t.opens.length) (.rf 4 t.stack.length))] [.root 151 (Qat s.heads), .root 89 (Qar 91 s.descs), .root 146 (Qaw t.prog), .root 91 (Qav t.opens), .root 160 (Qaq t.stack)] (.tup [.agg (thB t2 (.rf 2 t.prog.length) (.rf 3 t.opens.length) (.rf 4 t.stack.length)), .rf 5 1]) [.root 151 (Qat s.heads), .root 89 (Qar 91 s.descs), .root 146 (Qaw t.prog), .root 91 (Qav t.opens), .root 160 (Qaq t.stack), .root 86 (Qa0 [⟨2, t.id, 0, 0⟩])] := by
  have hre := Qbe he
  have hrh := Qb0 hh
  have hlj := (List.getElem?_eq_some_iff.1 he).1
  have hlo := (List.getElem?_eq_some_iff.1 hh).1
  have hj0 : (0 : Int) ≤ (j : Int) := by omega
  have hji : (j : Int) < (t.opens.length : Int) := by omega
  have hoi : (oo : Int) < (s.heads.length : Int) := by omega
  have ho0 : (0 : Int) ≤ (oo : Int) := by omega
  have hw : IntKind.i64.wrap ((j : Int) + 1) = j + 1 := Qax (by omega)
  obtain ⟨ti, tp, tpc, r0, r1, r2, r3, top, tck, tst, tmn, tsa, tco, tfa⟩ := t
  simp only at *
  subst hj
  have hdn : ¬ 0 ≤ h.desc := by omega
  have hvb : (h.version != e.version) = false := by simpa using hv
  have hnb : ((j : Int) + 1 == (top.length : Int) - 1) = true := by simpa using hn
  have hw2 : IntKind.i64.wrap ((top.length : Int) - 1) = top.length - 1 := Qax (by omega)
  subst h2
  simp only [thB] at *
  refine wEo Tryz.func118 [.cell 4 57, .tmp 5] 61 5 (by simp [Qbc, Qa6, Qbg, Qcr, Qda]) fun E hE => ?_
  have F := wwA @Qao (wwA @Qam (wwA @Qaa (wwA @Qac (wwA @Qag (wwA @Qah (wwA @Qau (wwA @Qai (wwA @Qap (wwA @Qas (wwA @Qan (wwA @Qal (wwA @Qad (wwA @Qaf (wwA @Qab (wwA @Qae (wwA @Qaj (wwA @Qak (wwA @Qay (wwA @Nat.le_refl (wwA hre (wwA hrh (wwA hlj (wwA hlo (wwA hj0 (wwA hji (wwA hoi (wwA ho0 (wwA ho (wwA hdn (wwA hvb (wwA hw (wwA hw2 hnb))))))))))))))))))))))))))))))))
  repeat' first | refine wSq fun _ hK => ?_ | refine Qa1 hT hM (id := 11) 7 [[0,1,2,3,4,5,6],[0,1,2,3,5,4,6],[0,1,5,2,3,4,6],[0,5,1,2,3,4,6]] (by kernel_rfl) ?_ | refine ww1 ?_ | (refine wK ?_; clear hK) | (simp only [wHb, reduceCtorEq] at hb <;> try (exfalso; omega)) | refine Qcf (fun hb => ?_) fun hb => ?_ | refine Qce ?_ | ((fail_if_success refine wwN ?_); refine ww4 ?_) | refine Qcc (fun hb => ?_) fun hb => ?_ | refine And.intro ?_ ?_ | exact trivial
  all_goals refine wRo [] [_, _, _, _, _]
theorem Qhx (s : StoreD) (t t2 : ThreadD) (r : StoreD) (fs junk : List FrameD) (ev : List EventD) (nv : Nat) (hnv : nv = ev.length) (e1 : r.heads.length = s.heads.length) (e2 : r.descs.length = s.descs.length) (hst : (0 : Int) < t.stack.length) (hc : SatO Tryz.prog 117 [.agg [.rf 0 s.heads.length, .rf 1 s.descs.length], .agg (thB t (.rf 2 t.prog.length) (.rf 3 t.opens.length) (.rf 4 t.stack.length))] [.root 151 (Qat s.heads), .root 89 (Qar 91 s.descs), .root 146 (Qaw t.prog), .root 91 (Qav t.opens), .root 160 (Qaq t.stack)] (.tup [.agg (thB t2 (.rf 2 t.prog.length) (.rf 3 t.opens.length) (.rf 4 fs.length)), .rf 5 nv]) [.root 151 (Qat r.heads), .root 89 (Qar 91 r.descs), .root 146 (Qaw t.prog), .root 91 (Qav t.opens), .root 160 (Qaq (fs ++ junk)), .root 86 (Qa0 ev)]) : SatO Tryz.prog 59 [.agg [.rf 0 s.heads.length, .rf 1 s.descs.length], .agg (thB t (.rf 2 t.prog.length) (.rf 3 t.opens.length) (.rf 4 t.stack.length))] [.root 151 (Qat s.heads), .root 89 (Qar 91 s.descs), .root 146 (Qaw t.prog), .root 91 (Qav t.opens), .root 160 (Qaq t.stack)] (.tup [.agg [.rf 0 r.heads.length, .rf 1 r.descs.length], .agg (thB t2 (.rf 2 t.prog.length) (.rf 3 t.opens.length) (.rf 4 fs.length)), .rf 5 nv]) [.root 151 (Qat r.heads), .root 89 (Qar 91 r.descs), .root 146 (Qaw t.prog), .root 91 (Qav t.opens), .root 160 (Qaq (fs ++ junk)), .root 86 (Qa0 ev)] := by
  have hfj : fs.length ≤ (fs ++ junk).length := by simp
  have hnv2 : nv ≤ ev.length := by omega
  have tkv : (Qa0 ev).take nv = Qa0 ev := by rw [hnv]; exact Qal ev
  have t1 := Qaj r.heads
  have t2' := Qak 91 r.descs
  rw [e1] at t1
  rw [e2] at t2'
  rw [e1, e2]
  simp only [thB] at *
  refine wEo Tryz.func59 [.cell 4 37, .cell 5 57, .tmp 6] 64 5 (by simp [Qbc, Qa6, Qbg, Qcr, Qda]) fun E hE => ?_
  have F := wwA @Qao (wwA @Qam (wwA @Qaa (wwA @Qac (wwA @Qag (wwA @Qah (wwA @Qau (wwA @Qai (wwA @Qap (wwA @Qas (wwA @Qan (wwA @Qal (wwA @Qad (wwA @Qaf (wwA @Qab (wwA @Qae (wwA @Qaj (wwA @Qak (wwA @Qay (wwA @Nat.le_refl (wwA hfj (wwA hst (wwA e1 (wwA e2 (wwA hnv2 (wwA tkv (wwA t1 t2'))))))))))))))))))))))))))
  repeat' first | refine wSq fun _ hK => ?_ | refine Qa1 hT hM (id := 3) 6 [[0,1,2,3,4,5],[0,2,3,1,4,5]] (by kernel_rfl) ?_ | refine ww1 ?_ | (refine wK ?_; clear hK) | (simp only [wHb, reduceCtorEq] at hb <;> try (exfalso; omega)) | refine Qcf (fun hb => ?_) fun hb => ?_ | refine Qiz [0, 1, 2, 3, 4] (hc) ?_ | refine Qce ?_ | ((fail_if_success refine wwN ?_); refine ww4 ?_) | refine Qcc (fun hb => ?_) fun hb => ?_ | refine And.intro ?_ ?_ | exact trivial
  all_goals refine wRo [] [_, _, _, _, _]
theorem Ql5 (s : StoreD) (t t2 : ThreadD) (r : StoreD) (fs : List FrameD) (ev : List EventD) (nv : Nat) (hnv : nv = ev.length) (e1 : r.heads.length = s.heads.length) (e2 : r.descs.length = s.descs.length) (hst : (0 : Int) < t.stack.length) (hc : SatO Tryz.prog 117 [.agg [.rf 0 s.heads.length, .rf 1 s.descs.length], .agg (thB t (.rf 2 t.prog.length) (.rf 3 t.opens.length) (.rf 4 t.stack.length))] [.root 151 (Qat s.heads), .root 89 (Qar 91 s.descs), .root 146 (Qaw t.prog), .root 91 (Qav t.opens), .root 160 (Qaq t.stack)] (.tup [.agg (thB t2 (.rf 2 t.prog.length) (.rf 3 t.opens.length) (.rf 5 fs.length)), .rf 6 nv]) [.root 151 (Qat r.heads), .root 89 (Qar 91 r.descs), .root 146 (Qaw t.prog), .root 91 (Qav t.opens), .dead, .root 160 (Qaq fs), .root 86 (Qa0 ev)]) : SatO Tryz.prog 59 [.agg [.rf 0 s.heads.length, .rf 1 s.descs.length], .agg (thB t (.rf 2 t.prog.length) (.rf 3 t.opens.length) (.rf 4 t.stack.length))] [.root 151 (Qat s.heads), .root 89 (Qar 91 s.descs), .root 146 (Qaw t.prog), .root 91 (Qav t.opens), .root 160 (Qaq t.stack)] (.tup [.agg [.rf 0 r.heads.length, .rf 1 r.descs.length], .agg (thB t2 (.rf 2 t.prog.length) (.rf 3 t.opens.length) (.rf 5 fs.length)), .rf 6 nv]) [.root 151 (Qat r.heads), .root 89 (Qar 91 r.descs), .root 146 (Qaw t.prog), .root 91 (Qav t.opens), .dead, .root 160 (Qaq fs), .root 86 (Qa0 ev)] := by
  have hnv2 : nv ≤ ev.length := by omega
  have tkv : (Qa0 ev).take nv = Qa0 ev := by rw [hnv]; exact Qal ev
  have t1 := Qaj r.heads
  have t2' := Qak 91 r.descs
  rw [e1] at t1
  rw [e2] at t2'
  rw [e1, e2]
  simp only [thB] at *
  refine wEo Tryz.func59 [.cell 4 37, .cell 5 57, .tmp 6] 64 5 (by simp [Qbc, Qa6, Qbg, Qcr, Qda]) fun E hE => ?_
  have F := wwA @Qao (wwA @Qam (wwA @Qaa (wwA @Qac (wwA @Qag (wwA @Qah (wwA @Qau (wwA @Qai (wwA @Qap (wwA @Qas (wwA @Qan (wwA @Qal (wwA @Qad (wwA @Qaf (wwA @Qab (wwA @Qae (wwA @Qaj (wwA @Qak (wwA @Qay (wwA @Nat.le_refl (wwA hst (wwA e1 (wwA e2 (wwA hnv2 (wwA tkv (wwA t1 t2')))))))))))))))))))))))))
  repeat' first | refine wSq fun _ hK => ?_ | refine Qa1 hT hM (id := 3) 6 [[0,1,2,3,4,5],[0,2,3,1,4,5]] (by kernel_rfl) ?_ | refine ww1 ?_ | (refine wK ?_; clear hK) | (simp only [wHb, reduceCtorEq] at hb <;> try (exfalso; omega)) | refine Qcf (fun hb => ?_) fun hb => ?_ | refine Qiz [0, 1, 2, 3, 4] (hc) ?_ | refine Qce ?_ | ((fail_if_success refine wwN ?_); refine ww4 ?_) | refine Qcc (fun hb => ?_) fun hb => ?_ | refine And.intro ?_ ?_ | exact trivial
  all_goals refine wRo [] [_, _, _, _, _]
theorem Qmf (s : StoreD) (t t2 : ThreadD) (r : StoreD) (fs junk : List FrameD) (ev : List EventD) (nv : Nat) (hnv : nv = ev.length) (e1 : r.heads.length = s.heads.length) (e2 : r.descs.length = s.descs.length) (hst : (0 : Int) < t.stack.length) (hc : SatO Tryz.prog 117 [.agg [.rf 0 s.heads.length, .rf 1 s.descs.length], .agg (thB t (.rf 2 t.prog.length) (.rf 3 t.opens.length) (.rf 4 t.stack.length))] [.root 151 (Qat s.heads), .root 89 (Qar 91 s.descs), .root 146 (Qaw t.prog), .root 91 (Qav t.opens), .root 160 (Qaq t.stack)] (.tup [.agg (thB t2 (.rf 2 t.prog.length) (.rf 5 0) (.rf 4 fs.length)), .rf 6 nv]) [.root 151 (Qat r.heads), .root 89 (Qar 91 r.descs), .root 146 (Qaw t.prog), .root 91 (Qav t.opens), .root 160 (Qaq (fs ++ junk)), .root 91 [], .root 86 (Qa0 ev)]) : SatO Tryz.prog 59 [.agg [.rf 0 s.heads.length, .rf 1 s.descs.length], .agg (thB t (.rf 2 t.prog.length) (.rf 3 t.opens.length) (.rf 4 t.stack.length))] [.root 151 (Qat s.heads), .root 89 (Qar 91 s.descs), .root 146 (Qaw t.prog), .root 91 (Qav t.opens), .root 160 (Qaq t.stack)] (.tup [.agg [.rf 0 r.heads.length, .rf 1 r.descs.length], .agg (thB t2 (.rf 2 t.prog.length) (.rf 5 0) (.rf 4 fs.length)), .rf 6 nv]) [.root 151 (Qat r.heads), .root 89 (Qar 91 r.descs), .root 146 (Qaw t.prog), .root 91 (Qav t.opens), .root 160 (Qaq (fs ++ junk)), .root 91 [], .root 86 (Qa0 ev)] := by
  have hfj : fs.length ≤ (fs ++ junk).length := by simp
  have hnv2 : nv ≤ ev.length := by omega
  have tkv : (Qa0 ev).take nv = Qa0 ev := by rw [hnv]; exact Qal ev
  have t1 := Qaj r.heads
  have t2' := Qak 91 r.descs
  rw [e1] at t1
  rw [e2] at t2'
  rw [e1, e2]
  simp only [thB] at *
  refine wEo Tryz.func59 [.cell 4 37, .cell 5 57, .tmp 6] 64 5 (by simp [Qbc, Qa6, Qbg, Qcr, Qda]) fun E hE => ?_
  have F := wwA @Qao (wwA @Qam (wwA @Qaa (wwA @Qac (wwA @Qag (wwA @Qah (wwA @Qau (wwA @Qai (wwA @Qap (wwA @Qas (wwA @Qan (wwA @Qal (wwA @Qad (wwA @Qaf (wwA @Qab (wwA @Qae (wwA @Qaj (wwA @Qak (wwA @Qay (wwA @Nat.le_refl (wwA hfj (wwA hst (wwA e1 (wwA e2 (wwA hnv2 (wwA tkv (wwA t1 t2'))))))))))))))))))))))))))
  repeat' first | refine wSq fun _ hK => ?_ | refine Qa1 hT hM (id := 3) 6 [[0,1,2,3,4,5],[0,2,3,1,4,5]] (by kernel_rfl) ?_ | refine ww1 ?_ | (refine wK ?_; clear hK) | (simp only [wHb, reduceCtorEq] at hb <;> try (exfalso; omega)) | refine Qcf (fun hb => ?_) fun hb => ?_ | refine Qiz [0, 1, 2, 3, 4] (hc) ?_ | refine Qce ?_ | ((fail_if_success refine wwN ?_); refine ww4 ?_) | refine Qcc (fun hb => ?_) fun hb => ?_ | refine And.intro ?_ ?_ | exact trivial
  all_goals refine wRo [] [_, _, _, _, _]
theorem Qla (s : StoreD) (t t2 : ThreadD) (fs : List FrameD) (ev : List EventD) (nv : Nat) (hnv : nv = ev.length) (hst : ¬ (0 : Int) < t.stack.length) (hck : 0 ≤ t.check) (hc : SatO Tryz.prog 118 [.agg [.rf 0 s.heads.length, .rf 1 s.descs.length], .agg (thB t (.rf 2 t.prog.length) (.rf 3 t.opens.length) (.rf 4 t.stack.length))] [.root 151 (Qat s.heads), .root 89 (Qar 91 s.descs), .root 146 (Qaw t.prog), .root 91 (Qav t.opens), .root 160 (Qaq t.stack)] (.tup [.agg (thB t2 (.rf 2 t.prog.length) (.rf 3 t.opens.length) (.rf 5 fs.length)), .rf 6 nv]) [.root 151 (Qat s.heads), .root 89 (Qar 91 s.descs), .root 146 (Qaw t.prog), .root 91 (Qav t.opens), .dead, .root 160 (Qaq fs), .root 86 (Qa0 ev)]) : SatO Tryz.prog 59 [.agg [.rf 0 s.heads.length, .rf 1 s.descs.length], .agg (thB t (.rf 2 t.prog.length) (.rf 3 t.opens.length) (.rf 4 t.stack.length))] [.root 151 (Qat s.heads), .root 89 (Qar 91 s.descs), .root 146 (Qaw t.prog), .root 91 (Qav t.opens), .root 160 (Qaq t.stack)] (.tup [.agg [.rf 0 s.heads.length, .rf 1 s.descs.length], .agg (thB t2 (.rf 2 t.prog.length) (.rf 3 t.opens.length) (.rf 5 fs.length)), .rf 6 nv]) [.root 151 (Qat s.heads), .root 89 (Qar 91 s.descs), .root 146 (Qaw t.prog), .root 91 (Qav t.opens), .dead, .root 160 (Qaq fs), .root 86 (Qa0 ev)] := by
  have hnv2 : nv ≤ ev.length := by omega
  have tkv : (Qa0 ev).take nv = Qa0 ev := by rw [hnv]; exact Qal ev
  simp only [thB] at *
  refine wEo Tryz.func59 [.cell 4 37, .cell 5 57, .tmp 6] 64 5 (by simp [Qbc, Qa6, Qbg, Qcr, Qda]) fun E hE => ?_
  have F := wwA @Qao (wwA @Qam (wwA @Qaa (wwA @Qac (wwA @Qag (wwA @Qah (wwA @Qau (wwA @Qai (wwA @Qap (wwA @Qas (wwA @Qan (wwA @Qal (wwA @Qad (wwA @Qaf (wwA @Qab (wwA @Qae (wwA @Qaj (wwA @Qak (wwA @Qay (wwA @Nat.le_refl (wwA hst (wwA hck (wwA hnv2 tkv))))))))))))))))))))))
  repeat' first | refine wSq fun _ hK => ?_ | refine Qa1 hT hM (id := 6) 6 [[0,1,2,3,4,5],[0,2,3,1,4,5]] (by kernel_rfl) ?_ | refine ww1 ?_ | (refine wK ?_; clear hK) | (simp only [wHb, reduceCtorEq] at hb <;> try (exfalso; omega)) | refine Qcf (fun hb => ?_) fun hb => ?_ | refine Qiz [0, 1, 2, 3, 4] (hc) ?_ | refine Qce ?_ | ((fail_if_success refine wwN ?_); refine ww4 ?_) | refine Qcc (fun hb => ?_) fun hb => ?_ | refine And.intro ?_ ?_ | exact trivial
  all_goals refine wRo [] [_, _, _, _, _]
theorem Qk3 (s : StoreD) (t t2 : ThreadD) (ev : List EventD) (nv : Nat) (hnv : nv = ev.length) (hst : ¬ (0 : Int) < t.stack.length) (hck : 0 ≤ t.check) (hc : SatO Tryz.prog 118 [.agg [.rf 0 s.heads.length, .rf 1 s.descs.length], .agg (thB t (.rf 2 t.prog.length) (.rf 3 t.opens.length) (.rf 4 t.stack.length))] [.root 151 (Qat s.heads), .root 89 (Qar 91 s.descs), .root 146 (Qaw t.prog), .root 91 (Qav t.opens), .root 160 (Qaq t.stack)] (.tup [.agg (thB t2 (.rf 2 t.prog.length) (.rf 5 0) (.rf 4 t.stack.length)), .rf 6 nv]) [.root 151 (Qat s.heads), .root 89 (Qar 91 s.descs), .root 146 (Qaw t.prog), .root 91 (Qav t.opens), .root 160 (Qaq t.stack), .root 91 [], .root 86 (Qa0 ev)]) : SatO Tryz.prog 59 [.agg [.rf 0 s.heads.length, .rf 1 s.descs.length], .agg (thB t (.rf 2 t.prog.length) (.rf 3 t.opens.length) (.rf 4 t.stack.length))] [.root 151 (Qat s.heads), .root 89 (Qar 91 s.descs), .root 146 (Qaw t.prog), .root 91 (Qav t.opens), .root 160 (Qaq t.stack)] (.tup [.agg [.rf 0 s.heads.length, .rf 1 s.descs.length], .agg (thB t2 (.rf 2 t.prog.length) (.rf 5 0) (.rf 4 t.stack.length)), .rf 6 nv]) [.root 151 (Qat s.heads), .root 89 (Qar 91 s.descs), .root 146 (Qaw t.prog), .root 91 (Qav t.opens), .root 160 (Qaq t.stack), .root 91 [], .root 86 (Qa0 ev)] := by
  have hnv2 : nv ≤ ev.length := by omega
  have tkv : (Qa0 ev).take nv = Qa0 ev := by rw [hnv]; exact Qal ev
  simp only [thB] at *
  refine wEo Tryz.func59 [.cell 4 37, .cell 5 57, .tmp 6] 64 5 (by simp [Qbc, Qa6, Qbg, Qcr, Qda]) fun E hE => ?_
  have F := wwA @Qao (wwA @Qam (wwA @Qaa (wwA @Qac (wwA @Qag (wwA @Qah (wwA @Qau (wwA @Qai (wwA @Qap (wwA @Qas (wwA @Qan (wwA @Qal (wwA @Qad (wwA @Qaf (wwA @Qab (wwA @Qae (wwA @Qaj (wwA @Qak (wwA @Qay (wwA @Nat.le_refl (wwA hst (wwA hck (wwA hnv2 tkv))))))))))))))))))))))
  repeat' first | refine wSq fun _ hK => ?_ | refine Qa1 hT hM (id := 6) 6 [[0,1,2,3,4,5],[0,2,3,1,4,5]] (by kernel_rfl) ?_ | refine ww1 ?_ | (refine wK ?_; clear hK) | (simp only [wHb, reduceCtorEq] at hb <;> try (exfalso; omega)) | refine Qcf (fun hb => ?_) fun hb => ?_ | refine Qiz [0, 1, 2, 3, 4] (hc) ?_ | refine Qce ?_ | ((fail_if_success refine wwN ?_); refine ww4 ?_) | refine Qcc (fun hb => ?_) fun hb => ?_ | refine And.intro ?_ ?_ | exact trivial
  all_goals refine wRo [] [_, _, _, _, _]
theorem Qg2 (s : StoreD) (t t2 : ThreadD) (ev : List EventD) (nv : Nat) (hnv : nv = ev.length) (hst : ¬ (0 : Int) < t.stack.length) (hck : 0 ≤ t.check) (hc : SatO Tryz.prog 118 [.agg [.rf 0 s.heads.length, .rf 1 s.descs.length], .agg (thB t (.rf 2 t.prog.length) (.rf 3 t.opens.length) (.rf 4 t.stack.length))] [.root 151 (Qat s.heads), .root 89 (Qar 91 s.descs), .root 146 (Qaw t.prog), .root 91 (Qav t.opens), .root 160 (Qaq t.stack)] (.tup [.agg (thB t2 (.rf 2 t.prog.length) (.rf 3 t.opens.length) (.rf 4 t.stack.length)), .rf 5 nv]) [.root 151 (Qat s.heads), .root 89 (Qar 91 s.descs), .root 146 (Qaw t.prog), .root 91 (Qav t.opens), .root 160 (Qaq t.stack), .root 86 (Qa0 ev)]) : SatO Tryz.prog 59 [.agg [.rf 0 s.heads.length, .rf 1 s.descs.length], .agg (thB t (.rf 2 t.prog.length) (.rf 3 t.opens.length) (.rf 4 t.stack.length))] [.root 151 (Qat s.heads), .root 89 (Qar 91 s.descs), .root 146 (Qaw t.prog), .root 91 (Qav t.opens), .root 160 (Qaq t.stack)] (.tup [.agg [.rf 0 s.heads.length, .rf 1 s.descs.length], .agg (thB t2 (.rf 2 t.prog.length) (.rf 3 t.opens.length) (.rf 4 t.stack.length)), .rf 5 nv]) [.root 151 (Qat s.heads), .root 89 (Qar 91 s.descs), .root 146 (Qaw t.prog), .root 91 (Qav t.opens), .root 160 (Qaq t.stack), .root 86 (Qa0 ev)] := by
  have hnv2 : nv ≤ ev.length := by omega
  have tkv : (Qa0 ev).take nv = Qa0 ev := by rw [hnv]; exact Qal ev
  simp only [thB] at *
  refine wEo Tryz.func59 [.cell 4 37, .cell 5 57, .tmp 6] 64 5 (by simp [Qbc, Qa6, Qbg, Qcr, Qda]) fun E hE => ?_
  have F := wwA @Qao (wwA @Qam (wwA @Qaa (wwA @Qac (wwA @Qag (wwA @Qah (wwA @Qau (wwA @Qai (wwA @Qap (wwA @Qas (wwA @Qan (wwA @Qal (wwA @Qad (wwA @Qaf (wwA @Qab (wwA @Qae (wwA @Qaj (wwA @Qak (wwA @Qay (wwA @Nat.le_refl (wwA hst (wwA hck (wwA hnv2 tkv))))))))))))))))))))))
  repeat' first | refine wSq fun _ hK => ?_ | refine Qa1 hT hM (id := 6) 6 [[0,1,2,3,4,5],[0,2,3,1,4,5]] (by kernel_rfl) ?_ | refine ww1 ?_ | (refine wK ?_; clear hK) | (simp only [wHb, reduceCtorEq] at hb <;> try (exfalso; omega)) | refine Qcf (fun hb => ?_) fun hb => ?_ | refine Qiz [0, 1, 2, 3, 4] (hc) ?_ | refine Qce ?_ | ((fail_if_success refine wwN ?_); refine ww4 ?_) | refine Qcc (fun hb => ?_) fun hb => ?_ | refine And.intro ?_ ?_ | exact trivial
  all_goals refine wRo [] [_, _, _, _, _]
theorem Qnp (s : StoreD) (t t2 : ThreadD) (hst : ¬ (0 : Int) < t.stack.length) (hck : ¬ 0 ≤ t.check) (hpc : (t.pc == (t.prog.length : Int)) = true) (h2 : t2 = {t with state := 1}) : SatO Tryz.prog 59 [.agg [.rf 0 s.heads.length, .rf 1 s.descs.length], .agg (thB t (.rf 2 t.prog.length) (.rf 3 t.opens.length) (.rf 4 t.stack.length))] [.root 151 (Qat s.heads), .root 89 (Qar 91 s.descs), .root 146 (Qaw t.prog), .root 91 (Qav t.opens), .root 160 (Qaq t.stack)] (.tup [.agg [.rf 0 s.heads.length, .rf 1 s.descs.length], .agg (thB t2 (.rf 2 t.prog.length) (.rf 3 t.opens.length) (.rf 4 t.stack.length)), .rf 5 1]) [.root 151 (Qat s.heads), .root 89 (Qar 91 s.descs), .root 146 (Qaw t.prog), .root 91 (Qav t.opens), .root 160 (Qaq t.stack), .root 86 (Qa0 [⟨6, t.id, 0, 0⟩])] := by
  subst h2
  simp only [thB] at *
  refine wEo Tryz.func59 [.cell 4 37, .cell 5 57, .tmp 6] 64 5 (by simp [Qbc, Qa6, Qbg, Qcr, Qda]) fun E hE => ?_
  have F := wwA @Qao (wwA @Qam (wwA @Qaa (wwA @Qac (wwA @Qag (wwA @Qah (wwA @Qau (wwA @Qai (wwA @Qap (wwA @Qas (wwA @Qan (wwA @Qal (wwA @Qad (wwA @Qaf (wwA @Qab (wwA @Qae (wwA @Qaj (wwA @Qak (wwA @Qay (wwA @Nat.le_refl (wwA hst (wwA hck hpc)))))))))))))))))))))
  repeat' first | refine wSq fun _ hK => ?_ | refine Qa1 hT hM (id := 9) 9 [[0,1,2,3,4,5,6,7,8],[0,1,2,3,4,6,5,7,8],[0,1,2,3,4,6,7,5,8],[0,1,2,6,3,4,5,7,8],[0,1,2,6,3,4,7,5,8],[0,1,2,6,7,3,4,5,8],[0,1,6,2,3,4,5,7,8],[0,1,6,2,3,4,7,5,8],[0,1,6,2,7,3,4,5,8],[0,1,6,7,2,3,4,5,8],[0,2,3,4,5,6,1,7,8],[0,2,3,4,6,1,5,7,8],[0,2,3,4,6,1,7,5,8],[0,2,6,1,3,4,5,7,8],[0,2,6,1,3,4,7,5,8],[0,2,6,1,7,3,4,5,8],[0,6,1,2,3,4,5,7,8],[0,6,1,2,3,4,7,5,8],[0,6,1,2,7,3,4,5,8],[0,6,1,7,2,3,4,5,8]] (by kernel_rfl) ?_ | refine ww1 ?_ | (refine wK ?_; clear hK) | (simp only [wHb, reduceCtorEq] at hb <;> try (exfalso; omega)) | refine Qcf (fun hb => ?_) fun hb => ?_ | refine Qce ?_ | ((fail_if_success refine wwN ?_); refine ww4 ?_) | refine Qcc (fun hb => ?_) fun hb => ?_ | refine And.intro ?_ ?_ | exact trivial
  all_goals refine wRo [] [_, _, _, _, _]
theorem Qb8 (s : StoreD) (t t2 : ThreadD) (ev : List EventD) (nv : Nat) (hnv : nv = ev.length) (hst : ¬ (0 : Int) < t.stack.length) (hck : ¬ 0 ≤ t.check) (hpc : (t.pc == (t.prog.length : Int)) = false) (p : Nat) (op a b : Int) (hp : t.pc = p) (hx : t.prog[p]? = some ⟨op, a, b⟩) (hc : SatO Tryz.prog 119 [.agg [.rf 0 s.heads.length, .rf 1 s.descs.length], .agg (thB t (.rf 2 t.prog.length) (.rf 3 t.opens.length) (.rf 4 t.stack.length)), .agg [.int .i64 op, .int .i64 a, .int .i64 b]] [.root 151 (Qat s.heads), .root 89 (Qar 91 s.descs), .root 146 (Qaw t.prog), .root 91 (Qav t.opens), .root 160 (Qaq t.stack)] (.tup [.agg [.rf 0 s.heads.length, .rf 1 s.descs.length], .agg (thB t2 (.rf 2 t.prog.length) (.rf 3 t.opens.length) (.rf 4 t.stack.length)), .rf 5 nv]) [.root 151 (Qat s.heads), .root 89 (Qar 91 s.descs), .root 146 (Qaw t.prog), .root 91 (Qav t.opens), .root 160 (Qaq t.stack), .root 86 (Qa0 ev)]) : SatO Tryz.prog 59 [.agg [.rf 0 s.heads.length, .rf 1 s.descs.length], .agg (thB t (.rf 2 t.prog.length) (.rf 3 t.opens.length) (.rf 4 t.stack.length))] [.root 151 (Qat s.heads), .root 89 (Qar 91 s.descs), .root 146 (Qaw t.prog), .root 91 (Qav t.opens), .root 160 (Qaq t.stack)] (.tup [.agg [.rf 0 s.heads.length, .rf 1 s.descs.length], .agg (thB t2 (.rf 2 t.prog.length) (.rf 3 t.opens.length) (.rf 4 t.stack.length)), .rf 5 nv]) [.root 151 (Qat s.heads), .root 89 (Qar 91 s.descs), .root 146 (Qaw t.prog), .root 91 (Qav t.opens), .root 160 (Qaq t.stack), .root 86 (Qa0 ev)] := by
  have hnv2 : nv ≤ ev.length := by omega
  have tkv : (Qa0 ev).take nv = Qa0 ev := by rw [hnv]; exact Qal ev
  have hrx : (Qaw t.prog)[p]? = some [.int .i64 op, .int .i64 a, .int .i64 b] := Qb2 hx
  have hpl : p < t.prog.length := (List.getElem?_eq_some_iff.1 hx).1
  have hpi : (p : Int) < (t.prog.length : Int) := by omega
  have hp0 : (0 : Int) ≤ (p : Int) := by omega
  obtain ⟨ti, tp, tpc, r0, r1, r2, r3, top, tck, tst, tmn, tsa, tco, tfa⟩ := t
  simp only at hp hx hrx hpl hpi hpc hst hck hc
  subst hp
  simp only [thB] at *
  refine wEo Tryz.func59 [.cell 4 37, .cell 5 57, .tmp 6] 64 5 (by simp [Qbc, Qa6, Qbg, Qcr, Qda]) fun E hE => ?_
  have F := wwA @Qao (wwA @Qam (wwA @Qaa (wwA @Qac (wwA @Qag (wwA @Qah (wwA @Qau (wwA @Qai (wwA @Qap (wwA @Qas (wwA @Qan (wwA @Qal (wwA @Qad (wwA @Qaf (wwA @Qab (wwA @Qae (wwA @Qaj (wwA @Qak (wwA @Qay (wwA @Nat.le_refl (wwA hst (wwA hck (wwA hpc (wwA hrx (wwA hpl (wwA hpi (wwA hp0 (wwA hnv2 tkv)))))))))))))))))))))))))))
  repeat' first | refine wSq fun _ hK => ?_ | refine Qa1 hT hM (id := 10) 8 [[0,1,2,3,4,5,6,7,8,9,10,11,12,13,14]] (by kernel_rfl) ?_ | refine ww1 ?_ | (refine wK ?_; clear hK) | (simp only [wHb, reduceCtorEq] at hb <;> try (exfalso; omega)) | refine Qcf (fun hb => ?_) fun hb => ?_ | refine Qiz [0, 1, 2, 3, 4] (hc) ?_ | refine Qce ?_ | ((fail_if_success refine wwN ?_); refine ww4 ?_) | refine Qcc (fun hb => ?_) fun hb => ?_ | refine And.intro ?_ ?_ | exact trivial
  all_goals refine wRo [] [_, _, _, _, _]
theorem Qk2 (s : StoreD) (t t2 : ThreadD) (fs : List FrameD) (ev : List EventD) (nv : Nat) (hnv : nv = ev.length) (hst : ¬ (0 : Int) < t.stack.length) (hck : ¬ 0 ≤ t.check) (hpc : (t.pc == (t.prog.length : Int)) = false) (p : Nat) (op a b : Int) (hp : t.pc = p) (hx : t.prog[p]? = some ⟨op, a, b⟩) (hc : SatO Tryz.prog 119 [.agg [.rf 0 s.heads.length, .rf 1 s.descs.length], .agg (thB t (.rf 2 t.prog.length) (.rf 3 t.opens.length) (.rf 4 t.stack.length)), .agg [.int .i64 op, .int .i64 a, .int .i64 b]] [.root 151 (Qat s.heads), .root 89 (Qar 91 s.descs), .root 146 (Qaw t.prog), .root 91 (Qav t.opens), .root 160 (Qaq t.stack)] (.tup [.agg [.rf 0 s.heads.length, .rf 1 s.descs.length], .agg (thB t2 (.rf 2 t.prog.length) (.rf 3 t.opens.length) (.rf 5 fs.length)), .rf 6 nv]) [.root 151 (Qat s.heads), .root 89 (Qar 91 s.descs), .root 146 (Qaw t.prog), .root 91 (Qav t.opens), .dead, .root 160 (Qaq fs), .root 86 (Qa0 ev)]) : SatO Tryz.prog 59 [.agg [.rf 0 s.heads.length, .rf 1 s.descs.length], .agg (thB t (.rf 2 t.prog.length) (.rf 3 t.opens.length) (.rf 4 t.stack.length))] [.root 151 (Qat s.heads), .root 89 (Qar 91 s.descs), .root 146 (Qaw t.prog), .root 91 (Qav t.opens), .root 160 (Qaq t.stack)] (.tup [.agg [.rf 0 s.heads.length, .rf 1 s.descs.length], .agg (thB t2 (.rf 2 t.prog.length) (.rf 3 t.opens.length) (.rf 5 fs.length)), .rf 6 nv]) [.root 151 (Qat s.heads), .root 89 (Qar 91 s.descs), .root 146 (Qaw t.prog), .root 91 (Qav t.opens), .dead, .root 160 (Qaq fs), .root 86 (Qa0 ev)] := by
  have hnv2 : nv ≤ ev.length := by omega
  have tkv : (Qa0 ev).take nv = Qa0 ev := by rw [hnv]; exact Qal ev
  have hrx : (Qaw t.prog)[p]? = some [.int .i64 op, .int .i64 a, .int .i64 b] := Qb2 hx
  have hpl : p < t.prog.length := (List.getElem?_eq_some_iff.1 hx).1
  have hpi : (p : Int) < (t.prog.length : Int) := by omega
  have hp0 : (0 : Int) ≤ (p : Int) := by omega
  obtain ⟨ti, tp, tpc, r0, r1, r2, r3, top, tck, tst, tmn, tsa, tco, tfa⟩ := t
  simp only at hp hx hrx hpl hpi hpc hst hck hc
  subst hp
  simp only [thB] at *
  refine wEo Tryz.func59 [.cell 4 37, .cell 5 57, .tmp 6] 64 5 (by simp [Qbc, Qa6, Qbg, Qcr, Qda]) fun E hE => ?_
  have F := wwA @Qao (wwA @Qam (wwA @Qaa (wwA @Qac (wwA @Qag (wwA @Qah (wwA @Qau (wwA @Qai (wwA @Qap (wwA @Qas (wwA @Qan (wwA @Qal (wwA @Qad (wwA @Qaf (wwA @Qab (wwA @Qae (wwA @Qaj (wwA @Qak (wwA @Qay (wwA @Nat.le_refl (wwA hst (wwA hck (wwA hpc (wwA hrx (wwA hpl (wwA hpi (wwA hp0 (wwA hnv2 tkv)))))))))))))))))))))))))))
  repeat' first | refine wSq fun _ hK => ?_ | refine Qa1 hT hM (id := 10) 8 [[0,1,2,3,4,5,6,7,8,9,10,11,12,13,14]] (by kernel_rfl) ?_ | refine ww1 ?_ | (refine wK ?_; clear hK) | (simp only [wHb, reduceCtorEq] at hb <;> try (exfalso; omega)) | refine Qcf (fun hb => ?_) fun hb => ?_ | refine Qiz [0, 1, 2, 3, 4] (hc) ?_ | refine Qce ?_ | ((fail_if_success refine wwN ?_); refine ww4 ?_) | refine Qcc (fun hb => ?_) fun hb => ?_ | refine And.intro ?_ ?_ | exact trivial
  all_goals refine wRo [] [_, _, _, _, _]
theorem Qe8 (s : StoreD) (t t2 : ThreadD) (es : List EntS) (ev : List EventD) (nv : Nat) (hnv : nv = ev.length) (hst : ¬ (0 : Int) < t.stack.length) (hck : ¬ 0 ≤ t.check) (hpc : (t.pc == (t.prog.length : Int)) = false) (p : Nat) (op a b : Int) (hp : t.pc = p) (hx : t.prog[p]? = some ⟨op, a, b⟩) (hc : SatO Tryz.prog 119 [.agg [.rf 0 s.heads.length, .rf 1 s.descs.length], .agg (thB t (.rf 2 t.prog.length) (.rf 3 t.opens.length) (.rf 4 t.stack.length)), .agg [.int .i64 op, .int .i64 a, .int .i64 b]] [.root 151 (Qat s.heads), .root 89 (Qar 91 s.descs), .root 146 (Qaw t.prog), .root 91 (Qav t.opens), .root 160 (Qaq t.stack)] (.tup [.agg [.rf 0 s.heads.length, .rf 1 s.descs.length], .agg (thB t2 (.rf 2 t.prog.length) (.rf 5 es.length) (.rf 4 t.stack.length)), .rf 6 nv]) [.root 151 (Qat s.heads), .root 89 (Qar 91 s.descs), .root 146 (Qaw t.prog), .root 91 (Qav t.opens), .root 160 (Qaq t.stack), .root 91 (Qav es), .root 86 (Qa0 ev)]) : SatO Tryz.prog 59 [.agg [.rf 0 s.heads.length, .rf 1 s.descs.length], .agg (thB t (.rf 2 t.prog.length) (.rf 3 t.opens.length) (.rf 4 t.stack.length))] [.root 151 (Qat s.heads), .root 89 (Qar 91 s.descs), .root 146 (Qaw t.prog), .root 91 (Qav t.opens), .root 160 (Qaq t.stack)] (.tup [.agg [.rf 0 s.heads.length, .rf 1 s.descs.length], .agg (thB t2 (.rf 2 t.prog.length) (.rf 5 es.length) (.rf 4 t.stack.length)), .rf 6 nv]) [.root 151 (Qat s.heads), .root 89 (Qar 91 s.descs), .root 146 (Qaw t.prog), .root 91 (Qav t.opens), .root 160 (Qaq t.stack), .root 91 (Qav es), .root 86 (Qa0 ev)] := by
  have hnv2 : nv ≤ ev.length := by omega
  have tkv : (Qa0 ev).take nv = Qa0 ev := by rw [hnv]; exact Qal ev
  have hrx : (Qaw t.prog)[p]? = some [.int .i64 op, .int .i64 a, .int .i64 b] := Qb2 hx
  have hpl : p < t.prog.length := (List.getElem?_eq_some_iff.1 hx).1
  have hpi : (p : Int) < (t.prog.length : Int) := by omega
  have hp0 : (0 : Int) ≤ (p : Int) := by omega
  obtain ⟨ti, tp, tpc, r0, r1, r2, r3, top, tck, tst, tmn, tsa, tco, tfa⟩ := t
  simp only at hp hx hrx hpl hpi hpc hst hck hc
  subst hp
  simp only [thB] at *
  refine wEo Tryz.func59 [.cell 4 37, .cell 5 57, .tmp 6] 64 5 (by simp [Qbc, Qa6, Qbg, Qcr, Qda]) fun E hE => ?_
  have F := wwA @Qao (wwA @Qam (wwA @Qaa (wwA @Qac (wwA @Qag (wwA @Qah (wwA @Qau (wwA @Qai (wwA @Qap (wwA @Qas (wwA @Qan (wwA @Qal (wwA @Qad (wwA @Qaf (wwA @Qab (wwA @Qae (wwA @Qaj (wwA @Qak (wwA @Qay (wwA @Nat.le_refl (wwA hst (wwA hck (wwA hpc (wwA hrx (wwA hpl (wwA hpi (wwA hp0 (wwA hnv2 tkv)))))))))))))))))))))))))))
  repeat' first | refine wSq fun _ hK => ?_ | refine Qa1 hT hM (id := 10) 8 [[0,1,2,3,4,5,6,7,8,9,10,11,12,13,14]] (by kernel_rfl) ?_ | refine ww1 ?_ | (refine wK ?_; clear hK) | (simp only [wHb, reduceCtorEq] at hb <;> try (exfalso; omega)) | refine Qcf (fun hb => ?_) fun hb => ?_ | refine Qiz [0, 1, 2, 3, 4] (hc) ?_ | refine Qce ?_ | ((fail_if_success refine wwN ?_); refine ww4 ?_) | refine Qcc (fun hb => ?_) fun hb => ?_ | refine And.intro ?_ ?_ | exact trivial
  all_goals refine wRo [] [_, _, _, _, _]
theorem Qk4 (s : StoreD) (t t2 : ThreadD) (ev : List EventD) (nv : Nat) (hnv : nv = ev.length) (hst : ¬ (0 : Int) < t.stack.length) (hck : ¬ 0 ≤ t.check) (hpc : (t.pc == (t.prog.length : Int)) = false) (p : Nat) (op a b : Int) (hp : t.pc = p) (hx : t.prog[p]? = some ⟨op, a, b⟩) (hc : SatO Tryz.prog 119 [.agg [.rf 0 s.heads.length, .rf 1 s.descs.length], .agg (thB t (.rf 2 t.prog.length) (.rf 3 t.opens.length) (.rf 4 t.stack.length)), .agg [.int .i64 op, .int .i64 a, .int .i64 b]] [.root 151 (Qat s.heads), .root 89 (Qar 91 s.descs), .root 146 (Qaw t.prog), .root 91 (Qav t.opens), .root 160 (Qaq t.stack)] (.tup [.agg [.rf 0 s.heads.length, .rf 1 s.descs.length], .agg (thB t2 (.rf 2 t.prog.length) (.rf 5 0) (.rf 4 t.stack.length)), .rf 6 nv]) [.root 151 (Qat s.heads), .root 89 (Qar 91 s.descs), .root 146 (Qaw t.prog), .root 91 (Qav t.opens), .root 160 (Qaq t.stack), .root 91 [], .root 86 (Qa0 ev)]) : SatO Tryz.prog 59 [.agg [.rf 0 s.heads.length, .rf 1 s.descs.length], .agg (thB t (.rf 2 t.prog.length) (.rf 3 t.opens.length) (.rf 4 t.stack.length))] [.root 151 (Qat s.heads), .root 89 (Qar 91 s.descs), .root 146 (Qaw t.prog), .root 91 (Qav t.opens), .root 160 (Qaq t.stack)] (.tup [.agg [.rf 0 s.heads.length, .rf 1 s.descs.length], .agg (thB t2 (.rf 2 t.prog.length) (.rf 5 0) (.rf 4 t.stack.length)), .rf 6 nv]) [.root 151 (Qat s.heads), .root 89 (Qar 91 s.descs), .root 146 (Qaw t.prog), .root 91 (Qav t.opens), .root 160 (Qaq t.stack), .root 91 [], .root 86 (Qa0 ev)] := by
  have hnv2 : nv ≤ ev.length := by omega
  have tkv : (Qa0 ev).take nv = Qa0 ev := by rw [hnv]; exact Qal ev
  have hrx : (Qaw t.prog)[p]? = some [.int .i64 op, .int .i64 a, .int .i64 b] := Qb2 hx
  have hpl : p < t.prog.length := (List.getElem?_eq_some_iff.1 hx).1
  have hpi : (p : Int) < (t.prog.length : Int) := by omega
  have hp0 : (0 : Int) ≤ (p : Int) := by omega
  obtain ⟨ti, tp, tpc, r0, r1, r2, r3, top, tck, tst, tmn, tsa, tco, tfa⟩ := t
  simp only at hp hx hrx hpl hpi hpc hst hck hc
  subst hp
  simp only [thB] at *
  refine wEo Tryz.func59 [.cell 4 37, .cell 5 57, .tmp 6] 64 5 (by simp [Qbc, Qa6, Qbg, Qcr, Qda]) fun E hE => ?_
  have F := wwA @Qao (wwA @Qam (wwA @Qaa (wwA @Qac (wwA @Qag (wwA @Qah (wwA @Qau (wwA @Qai (wwA @Qap (wwA @Qas (wwA @Qan (wwA @Qal (wwA @Qad (wwA @Qaf (wwA @Qab (wwA @Qae (wwA @Qaj (wwA @Qak (wwA @Qay (wwA @Nat.le_refl (wwA hst (wwA hck (wwA hpc (wwA hrx (wwA hpl (wwA hpi (wwA hp0 (wwA hnv2 tkv)))))))))))))))))))))))))))
  repeat' first | refine wSq fun _ hK => ?_ | refine Qa1 hT hM (id := 10) 8 [[0,1,2,3,4,5,6,7,8,9,10,11,12,13,14]] (by kernel_rfl) ?_ | refine ww1 ?_ | (refine wK ?_; clear hK) | (simp only [wHb, reduceCtorEq] at hb <;> try (exfalso; omega)) | refine Qcf (fun hb => ?_) fun hb => ?_ | refine Qiz [0, 1, 2, 3, 4] (hc) ?_ | refine Qce ?_ | ((fail_if_success refine wwN ?_); refine ww4 ?_) | refine Qcc (fun hb => ?_) fun hb => ?_ | refine And.intro ?_ ?_ | exact trivial
  all_goals refine wRo [] [_, _, _, _, _]
theorem Qk7 (s : StoreD) (t t2 : ThreadD) (r : StoreD) (fs : List FrameD) (ev : List EventD) (nv : Nat) (hnv : nv = ev.length) (hst : ¬ (0 : Int) < t.stack.length) (hck : ¬ 0 ≤ t.check) (hpc : (t.pc == (t.prog.length : Int)) = false) (p : Nat) (op a b : Int) (hp : t.pc = p) (hx : t.prog[p]? = some ⟨op, a, b⟩) (hc : SatO Tryz.prog 119 [.agg [.rf 0 s.heads.length, .rf 1 s.descs.length], .agg (thB t (.rf 2 t.prog.length) (.rf 3 t.opens.length) (.rf 4 t.stack.length)), .agg [.int .i64 op, .int .i64 a, .int .i64 b]] [.root 151 (Qat s.heads), .root 89 (Qar 91 s.descs), .root 146 (Qaw t.prog), .root 91 (Qav t.opens), .root 160 (Qaq t.stack)] (.tup [.agg [.rf 5 r.heads.length, .rf 6 r.descs.length], .agg (thB t2 (.rf 2 t.prog.length) (.rf 3 t.opens.length) (.rf 7 fs.length)), .rf 8 nv]) [.root 151 (Qat s.heads), .root 89 (Qar 91 s.descs), .root 146 (Qaw t.prog), .root 91 (Qav t.opens), .root 160 (Qaq t.stack), .root 151 (Qat r.heads), .root 89 (Qar 91 r.descs), .root 160 (Qaq fs), .root 86 (Qa0 ev)]) : SatO Tryz.prog 59 [.agg [.rf 0 s.heads.length, .rf 1 s.descs.length], .agg (thB t (.rf 2 t.prog.length) (.rf 3 t.opens.length) (.rf 4 t.stack.length))] [.root 151 (Qat s.heads), .root 89 (Qar 91 s.descs), .root 146 (Qaw t.prog), .root 91 (Qav t.opens), .root 160 (Qaq t.stack)] (.tup [.agg [.rf 5 r.heads.length, .rf 6 r.descs.length], .agg (thB t2 (.rf 2 t.prog.length) (.rf 3 t.opens.length) (.rf 7 fs.length)), .rf 8 nv]) [.root 151 (Qat s.heads), .root 89 (Qar 91 s.descs), .root 146 (Qaw t.prog), .root 91 (Qav t.opens), .root 160 (Qaq t.stack), .root 151 (Qat r.heads), .root 89 (Qar 91 r.descs), .root 160 (Qaq fs), .root 86 (Qa0 ev)] := by
  have hnv2 : nv ≤ ev.length := by omega
  have tkv : (Qa0 ev).take nv = Qa0 ev := by rw [hnv]; exact Qal ev
  have hrx : (Qaw t.prog)[p]? = some [.int .i64 op, .int .i64 a, .int .i64 b] := Qb2 hx
  have hpl : p < t.prog.length := (List.getElem?_eq_some_iff.1 hx).1
  have hpi : (p : Int) < (t.prog.length : Int) := by omega
  have hp0 : (0 : Int) ≤ (p : Int) := by omega
  obtain ⟨ti, tp, tpc, r0, r1, r2, r3, top, tck, tst, tmn, tsa, tco, tfa⟩ := t
  simp only at hp hx hrx hpl hpi hpc hst hck hc
  subst hp
  simp only [thB] at *
  refine wEo Tryz.func59 [.cell 4 37, .cell 5 57, .tmp 6] 64 5 (by simp [Qbc, Qa6, Qbg, Qcr, Qda]) fun E hE => ?_
  have F := wwA @Qao (wwA @Qam (wwA @Qaa (wwA @Qac (wwA @Qag (wwA @Qah (wwA @Qau (wwA @Qai (wwA @Qap (wwA @Qas (wwA @Qan (wwA @Qal (wwA @Qad (wwA @Qaf (wwA @Qab (wwA @Qae (wwA @Qaj (wwA @Qak (wwA @Qay (wwA @Nat.le_refl (wwA hst (wwA hck (wwA hpc (wwA hrx (wwA hpl (wwA hpi (wwA hp0 (wwA hnv2 tkv)))))))))))))))))))))))))))
  repeat' first | refine wSq fun _ hK => ?_ | refine Qa1 hT hM (id := 10) 8 [[0,1,2,3,4,5,6,7,8,9,10,11,12,13,14]] (by kernel_rfl) ?_ | refine ww1 ?_ | (refine wK ?_; clear hK) | (simp only [wHb, reduceCtorEq] at hb <;> try (exfalso; omega)) | refine Qcf (fun hb => ?_) fun hb => ?_ | refine Qiz [0, 1, 2, 3, 4] (hc) ?_ | refine Qce ?_ | ((fail_if_success refine wwN ?_); refine ww4 ?_) | refine Qcc (fun hb => ?_) fun hb => ?_ | refine And.intro ?_ ?_ | exact trivial
  all_goals refine wRo [] [_, _, _, _, _]
theorem Qpm (s : StoreD) (t t2 : ThreadD) (op a b : Int) (o : Nat) (hw : (op = 1 ∧ b = (o : Int)) ∨ (op = 2 ∧ a = (o : Int))) (hh : s.heads.length ≤ o) (h2 : t2 = {t with state := 3}) : SatO Tryz.prog 161 [.agg [.rf 0 s.heads.length, .rf 1 s.descs.length], .agg (thB t (.rf 2 t.prog.length) (.rf 3 t.opens.length) (.rf 4 t.stack.length)), .agg [.int .i64 op, .int .i64 a, .int .i64 b]] [.root 151 (Qat s.heads), .root 89 (Qar 91 s.descs), .root 146 (Qaw t.prog), .root 91 (Qav t.opens), .root 160 (Qaq t.stack)] (.tup [.agg (thB t2 (.rf 2 t.prog.length) (.rf 3 t.opens.length) (.rf 4 t.stack.length)), .rf 5 0]) [.root 151 (Qat s.heads), .root 89 (Qar 91 s.descs), .root 146 (Qaw t.prog), .root 91 (Qav t.opens), .root 160 (Qaq t.stack), .root 86 (Qa0 [])] := by
  have ho0 : (0 : Int) ≤ (o : Int) := by omega
  have hge : (s.heads.length : Int) ≤ (o : Int) := by omega
  subst h2
  rcases hw with ⟨rfl, rfl⟩ | ⟨rfl, rfl⟩
  all_goals
    simp only [thB] at *
    refine wEo Tryz.func161 [.cell 6 57, .tmp 7] 123 5 (by simp [Qbc, Qa6, Qbg, Qcr, Qda]) fun E hE => ?_
    have F := wwA @Qao (wwA @Qam (wwA @Qaa (wwA @Qac (wwA @Qag (wwA @Qah (wwA @Qau (wwA @Qai (wwA @Qap (wwA @Qas (wwA @Qan (wwA @Qal (wwA @Qad (wwA @Qaf (wwA @Qab (wwA @Qae (wwA @Qaj (wwA @Qak (wwA @Qay (wwA @Nat.le_refl (wwA ho0 hge))))))))))))))))))))
    repeat' first | refine wSq fun _ hK => ?_ | refine ww1 ?_ | (refine wK ?_; clear hK) | (simp only [wHb, reduceCtorEq] at hb <;> try (exfalso; omega)) | refine Qcf (fun hb => ?_) fun hb => ?_ | refine Qce ?_ | ((fail_if_success refine wwN ?_); refine ww4 ?_) | refine Qcc (fun hb => ?_) fun hb => ?_ | exact trivial
    all_goals refine wRo [] [_, _, _, _, _]
theorem Qnu (s : StoreD) (t t2 : ThreadD) (op a b : Int) (o : Nat) (fs : List FrameD) (hw : (op = 1 ∧ b = (o : Int)) ∨ (op = 2 ∧ a = (o : Int))) (h : HeadD) (hh : s.heads[o]? = some h) (hlo : t.opens.length ≤ 1048576) (hop : Qbp t.opens o = -1) (hd : 0 ≤ h.desc) (hl : t.stack.length ≤ 1048576) (h2 : t2 = Qbz t h.desc) (hf : fs = t.stack ++ [⟨h.desc, 0, 0⟩]) : SatO Tryz.prog 161 [.agg [.rf 0 s.heads.length, .rf 1 s.descs.length], .agg (thB t (.rf 2 t.prog.length) (.rf 3 t.opens.length) (.rf 4 t.stack.length)), .agg [.int .i64 op, .int .i64 a, .int .i64 b]] [.root 151 (Qat s.heads), .root 89 (Qar 91 s.descs), .root 146 (Qaw t.prog), .root 91 (Qav t.opens), .root 160 (Qaq t.stack)] (.tup [.agg (thB t2 (.rf 2 t.prog.length) (.rf 3 t.opens.length) (.rf 5 fs.length)), .rf 6 0]) [.root 151 (Qat s.heads), .root 89 (Qar 91 s.descs), .root 146 (Qaw t.prog), .root 91 (Qav t.opens), .dead, .root 160 (Qaq fs), .root 86 (Qa0 [])] := by
  have ho0 : (0 : Int) ≤ (o : Int) := by omega
  have hrh := Qb0 hh
  have hlh := (List.getElem?_eq_some_iff.1 hh).1
  have hoi : (o : Int) < (s.heads.length : Int) := by omega
  have hge : ¬ (s.heads.length : Int) ≤ (o : Int) := by omega
  have hopn : ¬ (0 : Int) ≤ -1 := by omega
  have happ : Qaq t.stack ++ [[.int .i64 h.desc, .int .i64 0, .int .i64 0]] = Qaq fs := by rw [hf]; simp [Qaq, FrameD.enc]
  have happ2 : (Qaq t.stack).take t.stack.length ++ [[.int .i64 h.desc, .int .i64 0, .int .i64 0]] = Qaq fs := by rw [Qap]; exact happ
  have hlen : t.stack.length + 1 = fs.length := by rw [hf]; simp
  subst h2
  unfold Qbz at *
  rcases hw with ⟨rfl, rfl⟩ | ⟨rfl, rfl⟩
  all_goals
    simp only [thB] at *
    refine wEo Tryz.func161 [.cell 6 57, .tmp 7] 123 5 (by simp [Qbc, Qa6, Qbg, Qcr, Qda]) fun E hE => ?_
    have F := wwA @Qao (wwA @Qam (wwA @Qaa (wwA @Qac (wwA @Qag (wwA @Qah (wwA @Qau (wwA @Qai (wwA @Qap (wwA @Qas (wwA @Qan (wwA @Qal (wwA @Qad (wwA @Qaf (wwA @Qab (wwA @Qae (wwA @Qaj (wwA @Qak (wwA @Qay (wwA @Nat.le_refl (wwA ho0 (wwA hrh (wwA hlh (wwA hoi (wwA hge (wwA hop (wwA hopn (wwA hd (wwA happ (wwA happ2 hlen)))))))))))))))))))))))))))))
    repeat' first | refine wSq fun _ hK => ?_ | refine ww1 ?_ | (refine wK ?_; clear hK) | (simp only [wHb, reduceCtorEq] at hb <;> try (exfalso; omega)) | refine Qcf (fun hb => ?_) fun hb => ?_ | refine Qgs (c := by first | exact Qb9 _ _ (by assumption)) (k := ?_) | refine Qce ?_ | ((fail_if_success refine wwN ?_); refine ww4 ?_) | refine Qcc (fun hb => ?_) fun hb => ?_ | exact trivial
    all_goals refine wRo [] [_, _, _, _, _]
theorem Qpv (s : StoreD) (t t2 : ThreadD) (op a b : Int) (o : Nat) (hw : (op = 1 ∧ b = (o : Int)) ∨ (op = 2 ∧ a = (o : Int))) (h : HeadD) (hh : s.heads[o]? = some h) (hlo : t.opens.length ≤ 1048576) (hop : Qbp t.opens o = -1) (hd : h.desc < 0) (ha : Qc2 t.opens ⟨o, h.version, h.value, h.value, false⟩ = (t.opens, 2)) (h2 : t2 = {t with state := 2}) : SatO Tryz.prog 161 [.agg [.rf 0 s.heads.length, .rf 1 s.descs.length], .agg (thB t (.rf 2 t.prog.length) (.rf 3 t.opens.length) (.rf 4 t.stack.length)), .agg [.int .i64 op, .int .i64 a, .int .i64 b]] [.root 151 (Qat s.heads), .root 89 (Qar 91 s.descs), .root 146 (Qaw t.prog), .root 91 (Qav t.opens), .root 160 (Qaq t.stack)] (.tup [.agg (thB t2 (.rf 2 t.prog.length) (.rf 3 t.opens.length) (.rf 4 t.stack.length)), .rf 5 0]) [.root 151 (Qat s.heads), .root 89 (Qar 91 s.descs), .root 146 (Qaw t.prog), .root 91 (Qav t.opens), .root 160 (Qaq t.stack), .root 86 (Qa0 [])] := by
  have ho0 : (0 : Int) ≤ (o : Int) := by omega
  have hrh := Qb0 hh
  have hlh := (List.getElem?_eq_some_iff.1 hh).1
  have hoi : (o : Int) < (s.heads.length : Int) := by omega
  have hge : ¬ (s.heads.length : Int) ≤ (o : Int) := by omega
  have hopn : ¬ (0 : Int) ≤ -1 := by omega
  have hdn : ¬ 0 ≤ h.desc := by omega
  have had := Qf3 t.opens o h.version h.value _ ha hlo
  simp only at had
  subst h2
  rcases hw with ⟨rfl, rfl⟩ | ⟨rfl, rfl⟩
  all_goals
    simp only [thB] at *
    refine wEo Tryz.func161 [.cell 6 57, .tmp 7] 123 5 (by simp [Qbc, Qa6, Qbg, Qcr, Qda]) fun E hE => ?_
    have F := wwA @Qao (wwA @Qam (wwA @Qaa (wwA @Qac (wwA @Qag (wwA @Qah (wwA @Qau (wwA @Qai (wwA @Qap (wwA @Qas (wwA @Qan (wwA @Qal (wwA @Qad (wwA @Qaf (wwA @Qab (wwA @Qae (wwA @Qaj (wwA @Qak (wwA @Qay (wwA @Nat.le_refl (wwA ho0 (wwA hrh (wwA hlh (wwA hoi (wwA hge (wwA hop (wwA hopn hdn))))))))))))))))))))))))))
    repeat' first | refine wSq fun _ hK => ?_ | refine ww1 ?_ | (refine wK ?_; clear hK) | (simp only [wHb, reduceCtorEq] at hb <;> try (exfalso; omega)) | refine Qcf (fun hb => ?_) fun hb => ?_ | refine Qgs (c := by first | exact Qb9 _ _ (by assumption) | exact had) (k := ?_) | refine Qce ?_ | ((fail_if_success refine wwN ?_); refine ww4 ?_) | refine Qcc (fun hb => ?_) fun hb => ?_ | exact trivial
    all_goals refine wRo [] [_, _, _, _, _]
theorem Qqu (s : StoreD) (t t2 : ThreadD) (op a b : Int) (o : Nat) (es : List EntS) (hw : (op = 1 ∧ b = (o : Int)) ∨ (op = 2 ∧ a = (o : Int))) (h : HeadD) (hh : s.heads[o]? = some h) (hlo : t.opens.length ≤ 1048576) (hop : Qbp t.opens o = -1) (hd : h.desc < 0) (he : es = t.opens ++ [⟨o, h.version, h.value, h.value, false⟩]) (ha : Qc2 t.opens ⟨o, h.version, h.value, h.value, false⟩ = (es, 0)) (hg : 1 ≤ t.opens.length) (h2 : t2 = {t with opens := es, check := 0}) : SatO Tryz.prog 161 [.agg [.rf 0 s.heads.length, .rf 1 s.descs.length], .agg (thB t (.rf 2 t.prog.length) (.rf 3 t.opens.length) (.rf 4 t.stack.length)), .agg [.int .i64 op, .int .i64 a, .int .i64 b]] [.root 151 (Qat s.heads), .root 89 (Qar 91 s.descs), .root 146 (Qaw t.prog), .root 91 (Qav t.opens), .root 160 (Qaq t.stack)] (.tup [.agg (thB t2 (.rf 2 t.prog.length) (.rf 5 es.length) (.rf 4 t.stack.length)), .rf 6 1]) [.root 151 (Qat s.heads), .root 89 (Qar 91 s.descs), .root 146 (Qaw t.prog), .root 91 (Qav t.opens), .root 160 (Qaq t.stack), .root 91 (Qav es), .root 86 (Qa0 [⟨1, t.id, o, h.value⟩])] := by
  have ho0 : (0 : Int) ≤ (o : Int) := by omega
  have hrh := Qb0 hh
  have hlh := (List.getElem?_eq_some_iff.1 hh).1
  have hoi : (o : Int) < (s.heads.length : Int) := by omega
  have hge : ¬ (s.heads.length : Int) ≤ (o : Int) := by omega
  have hopn : ¬ (0 : Int) ≤ -1 := by omega
  have hdn : ¬ 0 ≤ h.desc := by omega
  have had := Qf3 t.opens o h.version h.value _ ha hlo
  have hel : es.length = t.opens.length + 1 := by rw [he]; simp
  have hetk : (Qav es).take es.length = Qav es := Qai es
  simp only at had
  have hgt : (1 : Int) < (es.length : Int) := by omega
  subst h2
  rcases hw with ⟨rfl, rfl⟩ | ⟨rfl, rfl⟩
  all_goals
    simp only [thB] at *
    refine wEo Tryz.func161 [.cell 6 57, .tmp 7] 123 5 (by simp [Qbc, Qa6, Qbg, Qcr, Qda]) fun E hE => ?_
    have F := wwA @Qao (wwA @Qam (wwA @Qaa (wwA @Qac (wwA @Qag (wwA @Qah (wwA @Qau (wwA @Qai (wwA @Qap (wwA @Qas (wwA @Qan (wwA @Qal (wwA @Qad (wwA @Qaf (wwA @Qab (wwA @Qae (wwA @Qaj (wwA @Qak (wwA @Qay (wwA @Nat.le_refl (wwA ho0 (wwA hrh (wwA hlh (wwA hoi (wwA hge (wwA hop (wwA hopn (wwA hdn (wwA hetk (wwA hgt @Xa4)))))))))))))))))))))))))))))
    repeat' first | refine wSq fun _ hK => ?_ | refine ww1 ?_ | (refine wK ?_; clear hK) | (simp only [wHb, reduceCtorEq] at hb <;> try (exfalso; omega)) | refine Qcf (fun hb => ?_) fun hb => ?_ | refine Qgs (c := by first | exact Qb9 _ _ (by assumption) | exact had) (k := ?_) | refine Qce ?_ | ((fail_if_success refine wwN ?_); refine ww4 ?_) | refine Qcc (fun hb => ?_) fun hb => ?_ | exact trivial
    all_goals refine wRo [] [_, _, _, _, _]
theorem Qnf (s : StoreD) (t t2 : ThreadD) (op a b : Int) (o : Nat) (es : List EntS) (hw : (op = 1 ∧ b = (o : Int)) ∨ (op = 2 ∧ a = (o : Int))) (h : HeadD) (hh : s.heads[o]? = some h) (hlo : t.opens.length ≤ 1048576) (hop : Qbp t.opens o = -1) (hd : h.desc < 0) (he : es = t.opens ++ [⟨o, h.version, h.value, h.value, false⟩]) (ha : Qc2 t.opens ⟨o, h.version, h.value, h.value, false⟩ = (es, 0)) (hg : t.opens.length = 0) (h2 : t2 = {t with opens := es}) : SatO Tryz.prog 161 [.agg [.rf 0 s.heads.length, .rf 1 s.descs.length], .agg (thB t (.rf 2 t.prog.length) (.rf 3 t.opens.length) (.rf 4 t.stack.length)), .agg [.int .i64 op, .int .i64 a, .int .i64 b]] [.root 151 (Qat s.heads), .root 89 (Qar 91 s.descs), .root 146 (Qaw t.prog), .root 91 (Qav t.opens), .root 160 (Qaq t.stack)] (.tup [.agg (thB t2 (.rf 2 t.prog.length) (.rf 5 es.length) (.rf 4 t.stack.length)), .rf 6 2]) [.root 151 (Qat s.heads), .root 89 (Qar 91 s.descs), .root 146 (Qaw t.prog), .root 91 (Qav t.opens), .root 160 (Qaq t.stack), .root 91 (Qav es), .root 86 (Qa0 [⟨1, t.id, o, h.value⟩, ⟨2, t.id, 0, 0⟩])] := by
  have ho0 : (0 : Int) ≤ (o : Int) := by omega
  have hrh := Qb0 hh
  have hlh := (List.getElem?_eq_some_iff.1 hh).1
  have hoi : (o : Int) < (s.heads.length : Int) := by omega
  have hge : ¬ (s.heads.length : Int) ≤ (o : Int) := by omega
  have hopn : ¬ (0 : Int) ≤ -1 := by omega
  have hdn : ¬ 0 ≤ h.desc := by omega
  have had := Qf3 t.opens o h.version h.value _ ha hlo
  have hel : es.length = t.opens.length + 1 := by rw [he]; simp
  have hetk : (Qav es).take es.length = Qav es := Qai es
  simp only at had
  have hgt : ¬ (1 : Int) < (es.length : Int) := by omega
  subst h2
  rcases hw with ⟨rfl, rfl⟩ | ⟨rfl, rfl⟩
  all_goals
    simp only [thB] at *
    refine wEo Tryz.func161 [.cell 6 57, .tmp 7] 123 5 (by simp [Qbc, Qa6, Qbg, Qcr, Qda]) fun E hE => ?_
    have F := wwA @Qao (wwA @Qam (wwA @Qaa (wwA @Qac (wwA @Qag (wwA @Qah (wwA @Qau (wwA @Qai (wwA @Qap (wwA @Qas (wwA @Qan (wwA @Qal (wwA @Qad (wwA @Qaf (wwA @Qab (wwA @Qae (wwA @Qaj (wwA @Qak (wwA @Qay (wwA @Nat.le_refl (wwA ho0 (wwA hrh (wwA hlh (wwA hoi (wwA hge (wwA hop (wwA hopn (wwA hdn (wwA hetk (wwA hgt @Xa4)))))))))))))))))))))))))))))
    repeat' first | refine wSq fun _ hK => ?_ | refine Qa1 hT hM (id := 28) 9 [[0,1,2,3,4,5,6,7,8],[1,2,3,4,5,6,0,7,8]] (by kernel_rfl) ?_ | refine ww1 ?_ | (refine wK ?_; clear hK) | (simp only [wHb, reduceCtorEq] at hb <;> try (exfalso; omega)) | refine Qcf (fun hb => ?_) fun hb => ?_ | refine Qgs (c := by first | exact Qb9 _ _ (by assumption) | exact had) (k := ?_) | refine Qce ?_ | ((fail_if_success refine wwN ?_); refine ww4 ?_) | refine Qcc (fun hb => ?_) fun hb => ?_ | refine And.intro ?_ ?_ | exact trivial
    all_goals refine wRo [] [_, _, _, _, _]
theorem Qk5 (s : StoreD) (t t2 : ThreadD) (o : Nat) (a : Int) (j : Nat) (e : EntS) (hlo : t.opens.length ≤ 1048576) (hop : Qbp t.opens o = j) (he : t.opens[j]? = some e) (hol : (o : Int) < s.heads.length) (hp0 : 0 ≤ t.pc) (hpb : t.pc ≤ 1048576) (hs : Xfv t t2 a e.new) : SatO Tryz.prog 161 [.agg [.rf 0 s.heads.length, .rf 1 s.descs.length], .agg (thB t (.rf 2 t.prog.length) (.rf 3 t.opens.length) (.rf 4 t.stack.length)), .agg [.int .i64 1, .int .i64 a, .int .i64 (o : Int)]] [.root 151 (Qat s.heads), .root 89 (Qar 91 s.descs), .root 146 (Qaw t.prog), .root 91 (Qav t.opens), .root 160 (Qaq t.stack)] (.tup [.agg (thB t2 (.rf 2 t.prog.length) (.rf 3 t.opens.length) (.rf 4 t.stack.length)), .rf 5 0]) [.root 151 (Qat s.heads), .root 89 (Qar 91 s.descs), .root 146 (Qaw t.prog), .root 91 (Qav t.opens), .root 160 (Qaq t.stack), .root 86 (Qa0 [])] := by
  have ho0 : (0 : Int) ≤ (o : Int) := by omega
  have hre := Qbe he
  have hjl := (List.getElem?_eq_some_iff.1 he).1
  have hj0 : (0 : Int) ≤ (j : Int) := by omega
  have hji : (j : Int) < (t.opens.length : Int) := by omega
  have hge : ¬ (s.heads.length : Int) ≤ (o : Int) := by omega
  have hw : IntKind.i64.wrap (t.pc + 1) = t.pc + 1 := Qax (by omega)
  rcases hs with ⟨rfl, rfl⟩ | ⟨rfl, rfl⟩ | ⟨rfl, rfl⟩ | ⟨rfl, rfl⟩
  all_goals
    simp only [thB] at *
    refine wEo Tryz.func161 [.cell 6 57, .tmp 7] 123 5 (by simp [Qbc, Qa6, Qbg, Qcr, Qda]) fun E hE => ?_
    have F := wwA @Qao (wwA @Qam (wwA @Qaa (wwA @Qac (wwA @Qag (wwA @Qah (wwA @Qau (wwA @Qai (wwA @Qap (wwA @Qas (wwA @Qan (wwA @Qal (wwA @Qad (wwA @Qaf (wwA @Qab (wwA @Qae (wwA @Qaj (wwA @Qak (wwA @Qay (wwA @Nat.le_refl (wwA ho0 (wwA hjl (wwA hj0 (wwA hji (wwA hop (wwA hge (wwA hw hre))))))))))))))))))))))))))
    repeat' first | refine wSq fun _ hK => ?_ | refine ww1 ?_ | (refine wK ?_; clear hK) | (simp only [wHb, reduceCtorEq] at hb <;> try (exfalso; omega)) | refine Qcf (fun hb => ?_) fun hb => ?_ | refine Qgs (c := by first | exact Qb9 _ _ (by assumption)) (k := ?_) | refine Qce ?_ | ((fail_if_success refine wwN ?_); refine ww4 ?_) | refine Qcc (fun hb => ?_) fun hb => ?_ | exact trivial
    all_goals refine wRo [] [_, _, _, _, _]
theorem Qj4 (s : StoreD) (t t2 : ThreadD) (o : Nat) (a : Int) (es : List EntS) (j : Nat) (e : EntS) (hlo : t.opens.length ≤ 1048576) (hop : Qbp t.opens o = j) (he : t.opens[j]? = some e) (hol : (o : Int) < s.heads.length) (hp0 : 0 ≤ t.pc) (hpb : t.pc ≤ 1048576) (v : Int) (hg : GetC t a v) (hs : Qcl t.opens o v = (es, true) ∧ t2 = {t with opens := es, pc := t.pc + 1}) : SatO Tryz.prog 161 [.agg [.rf 0 s.heads.length, .rf 1 s.descs.length], .agg (thB t (.rf 2 t.prog.length) (.rf 3 t.opens.length) (.rf 4 t.stack.length)), .agg [.int .i64 2, .int .i64 (o : Int), .int .i64 a]] [.root 151 (Qat s.heads), .root 89 (Qar 91 s.descs), .root 146 (Qaw t.prog), .root 91 (Qav t.opens), .root 160 (Qaq t.stack)] (.tup [.agg (thB t2 (.rf 2 t.prog.length) (.rf 5 es.length) (.rf 4 t.stack.length)), .rf 6 0]) [.root 151 (Qat s.heads), .root 89 (Qar 91 s.descs), .root 146 (Qaw t.prog), .root 91 (Qav t.opens), .root 160 (Qaq t.stack), .root 91 (Qav es), .root 86 (Qa0 [])] := by
  have ho0 : (0 : Int) ≤ (o : Int) := by omega
  have hre := Qbe he
  have hjl := (List.getElem?_eq_some_iff.1 he).1
  have hj0 : (0 : Int) ≤ (j : Int) := by omega
  have hji : (j : Int) < (t.opens.length : Int) := by omega
  have hge : ¬ (s.heads.length : Int) ≤ (o : Int) := by omega
  have hw : IntKind.i64.wrap (t.pc + 1) = t.pc + 1 := Qax (by omega)
  rcases hs with ⟨hsn, rfl⟩
  rcases hg with ⟨rfl, rfl⟩ | ⟨rfl, rfl⟩ | ⟨rfl, rfl⟩ | ⟨rfl, rfl⟩
  all_goals
    have hsc := Qqv t.opens o _ _ hsn hlo
    simp only at hsc
    simp only [thB] at *
    refine wEo Tryz.func161 [.cell 6 57, .tmp 7] 123 5 (by simp [Qbc, Qa6, Qbg, Qcr, Qda]) fun E hE => ?_
    have F := wwA @Qao (wwA @Qam (wwA @Qaa (wwA @Qac (wwA @Qag (wwA @Qah (wwA @Qau (wwA @Qai (wwA @Qap (wwA @Qas (wwA @Qan (wwA @Qal (wwA @Qad (wwA @Qaf (wwA @Qab (wwA @Qae (wwA @Qaj (wwA @Qak (wwA @Qay (wwA @Nat.le_refl (wwA ho0 (wwA hjl (wwA hj0 (wwA hji (wwA hop (wwA hge hw)))))))))))))))))))))))))
    repeat' first | refine wSq fun _ hK => ?_ | refine ww1 ?_ | (refine wK ?_; clear hK) | (simp only [wHb, reduceCtorEq] at hb <;> try (exfalso; omega)) | refine Qcf (fun hb => ?_) fun hb => ?_ | refine Qgs (c := by first | exact Qb9 _ _ (by assumption) | exact hsc) (k := ?_) | refine Qce ?_ | ((fail_if_success refine wwN ?_); refine ww4 ?_) | refine Qcc (fun hb => ?_) fun hb => ?_ | exact trivial
    all_goals refine wRo [] [_, _, _, _, _]
end Go.Proofs.YtmiojnibngncaaaGreat
