/- What the claim rests on, part 22: the value-level engine and contracts of functions; no condition. -/
import Derived.Test.YtmiojnibngncaaaGreatZQu
namespace Go.Proofs.YtmiojnibngncaaaGreat
open Go Go.RowKit
set_option linter.unusedVariables false
set_option linter.unusedSimpArgs false
set_option maxRecDepth 100000
set_option maxHeartbeats 4000000
attribute [local irreducible] Qdo VWP Qb5 Qbn Qbs Qbu Qbj Qbt Qa3 Qbq Qcq Qc6 Qbk Qdb Qc4 Qbr Qbm Qa8
theorem Xdg (n : Int) : SatP Tryz.prog 162 [.int .i64 (-1000000000), .int .i64 (if (1000000000 : Int) < n then 1000000000 else n)] (.int .i64 (Qp9 n)) [] := Xga _ _
theorem Qy1 (s : StoreD) (t t2 : ThreadD) (a b : Int) (p0 : 0 ≤ t.pc) (p1 : t.pc ≤ 1048576) (hs : Xh2 t t2 a b) : SatO Tryz.prog 119 [.agg [.rf 0 s.heads.length, .rf 1 s.descs.length], .agg (thB t (.rf 2 t.prog.length) (.rf 3 t.opens.length) (.rf 4 t.stack.length)), .agg [.int .i64 4, .int .i64 a, .int .i64 b]] [.root 151 (Qat s.heads), .root 89 (Qar 91 s.descs), .root 146 (Qaw t.prog), .root 91 (Qav t.opens), .root 160 (Qaq t.stack)] (.tup [.agg [.rf 0 s.heads.length, .rf 1 s.descs.length], .agg (thB t2 (.rf 2 t.prog.length) (.rf 3 t.opens.length) (.rf 4 t.stack.length)), .rf 5 0]) [.root 151 (Qat s.heads), .root 89 (Qar 91 s.descs), .root 146 (Qaw t.prog), .root 91 (Qav t.opens), .root 160 (Qaq t.stack), .root 86 (Qa0 [])] := by
  have hw0 : True := trivial
  rcases hs with ⟨rfl, rfl, ⟨i1, i2⟩, ⟨j1, j2⟩, rfl⟩ | ⟨rfl, rfl, ⟨i1, i2⟩, ⟨j1, j2⟩, rfl⟩ | ⟨rfl, rfl, ⟨i1, i2⟩, ⟨j1, j2⟩, rfl⟩ | ⟨rfl, rfl, ⟨i1, i2⟩, ⟨j1, j2⟩, rfl⟩ | ⟨rfl, rfl, ⟨i1, i2⟩, ⟨j1, j2⟩, rfl⟩ | ⟨rfl, rfl, ⟨i1, i2⟩, ⟨j1, j2⟩, rfl⟩ | ⟨rfl, rfl, ⟨i1, i2⟩, ⟨j1, j2⟩, rfl⟩ | ⟨rfl, rfl, ⟨i1, i2⟩, ⟨j1, j2⟩, rfl⟩ | ⟨rfl, rfl, ⟨i1, i2⟩, ⟨j1, j2⟩, rfl⟩ | ⟨rfl, rfl, ⟨i1, i2⟩, ⟨j1, j2⟩, rfl⟩ | ⟨rfl, rfl, ⟨i1, i2⟩, ⟨j1, j2⟩, rfl⟩ | ⟨rfl, rfl, ⟨i1, i2⟩, ⟨j1, j2⟩, rfl⟩ | ⟨rfl, rfl, ⟨i1, i2⟩, ⟨j1, j2⟩, rfl⟩ | ⟨rfl, rfl, ⟨i1, i2⟩, ⟨j1, j2⟩, rfl⟩ | ⟨rfl, rfl, ⟨i1, i2⟩, ⟨j1, j2⟩, rfl⟩ | ⟨rfl, rfl, ⟨i1, i2⟩, ⟨j1, j2⟩, rfl⟩
  all_goals
    have hw : IntKind.i64.wrap (t.pc + 1) = t.pc + 1 := Qax (by omega)
    have hsw := Qv6 i1 i2 j1 j2
    simp only [thB] at *
    refine wEo Tryz.func119 [.cell 6 37, .cell 7 57, .tmp 8] 136 5 (by simp [Qbc, Qa6, Qbg, Qcr, Qda]) fun E hE => ?_
    have F := wwA @Qao (wwA @Qam (wwA @Qaa (wwA @Qac (wwA @Qag (wwA @Qah (wwA @Qau (wwA @Qai (wwA @Qap (wwA @Qas (wwA @Qan (wwA @Qal (wwA @Qad (wwA @Qaf (wwA @Qab (wwA @Qae (wwA @Qaj (wwA @Qak (wwA @Qay (wwA @Nat.le_refl (wwA hw hsw))))))))))))))))))))
    repeat' first | refine wSq fun _ hK => ?_ | refine Qa1 hT hM (id := 33) 5 [[0,1,2,3,4],[0,2,1,3,4]] (by kernel_rfl) ?_ | refine ww1 ?_ | (refine wK ?_; clear hK) | (simp only [wHb, reduceCtorEq] at hb <;> try (exfalso; omega)) | refine Qcf (fun hb => ?_) fun hb => ?_ | refine Qgs (c := by first | exact Qmp 1000000000 _ | exact Xdg _) (k := ?_) | refine Qce ?_ | ((fail_if_success refine wwN ?_); refine ww4 ?_) | refine Qcc (fun hb => ?_) fun hb => ?_ | refine And.intro ?_ ?_ | exact trivial
    all_goals refine wRo [] [_, _, _, _, _]
theorem Qiw (s : StoreD) (t t2 : ThreadD) (op a b : Int) (ev : List EventD) (nv : Nat) (h12 : op = 1 ∨ op = 2) (hc : SatO Tryz.prog 161 [.agg [.rf 0 s.heads.length, .rf 1 s.descs.length], .agg (thB t (.rf 2 t.prog.length) (.rf 3 t.opens.length) (.rf 4 t.stack.length)), .agg [.int .i64 op, .int .i64 a, .int .i64 b]] [.root 151 (Qat s.heads), .root 89 (Qar 91 s.descs), .root 146 (Qaw t.prog), .root 91 (Qav t.opens), .root 160 (Qaq t.stack)] (.tup [.agg (thB t2 (.rf 2 t.prog.length) (.rf 3 t.opens.length) (.rf 4 t.stack.length)), .rf 5 nv]) [.root 151 (Qat s.heads), .root 89 (Qar 91 s.descs), .root 146 (Qaw t.prog), .root 91 (Qav t.opens), .root 160 (Qaq t.stack), .root 86 (Qa0 ev)]) (hnv : nv = ev.length) : SatO Tryz.prog 119 [.agg [.rf 0 s.heads.length, .rf 1 s.descs.length], .agg (thB t (.rf 2 t.prog.length) (.rf 3 t.opens.length) (.rf 4 t.stack.length)), .agg [.int .i64 op, .int .i64 a, .int .i64 b]] [.root 151 (Qat s.heads), .root 89 (Qar 91 s.descs), .root 146 (Qaw t.prog), .root 91 (Qav t.opens), .root 160 (Qaq t.stack)] (.tup [.agg [.rf 0 s.heads.length, .rf 1 s.descs.length], .agg (thB t2 (.rf 2 t.prog.length) (.rf 3 t.opens.length) (.rf 4 t.stack.length)), .rf 5 nv]) [.root 151 (Qat s.heads), .root 89 (Qar 91 s.descs), .root 146 (Qaw t.prog), .root 91 (Qav t.opens), .root 160 (Qaq t.stack), .root 86 (Qa0 ev)] := by
  have hnv2 : nv ≤ ev.length := by omega
  have tkv : (Qa0 ev).take nv = Qa0 ev := by rw [hnv]; exact Qal ev
  rcases h12 with rfl | rfl
  all_goals
    simp only [thB] at *
    refine wEo Tryz.func119 [.cell 6 37, .cell 7 57, .tmp 8] 136 5 (by simp [Qbc, Qa6, Qbg, Qcr, Qda]) fun E hE => ?_
    have F := wwA @Qao (wwA @Qam (wwA @Qaa (wwA @Qac (wwA @Qag (wwA @Qah (wwA @Qau (wwA @Qai (wwA @Qap (wwA @Qas (wwA @Qan (wwA @Qal (wwA @Qad (wwA @Qaf (wwA @Qab (wwA @Qae (wwA @Qaj (wwA @Qak (wwA @Qay (wwA @Nat.le_refl (wwA hnv2 tkv))))))))))))))))))))
    repeat' first | refine wSq fun _ hK => ?_ | refine Qa1 hT hM (id := 5) 6 [[0,1,2,3,4,5],[0,2,3,1,4,5]] (by kernel_rfl) ?_ | refine ww1 ?_ | (refine wK ?_; clear hK) | (simp only [wHb, reduceCtorEq] at hb <;> try (exfalso; omega)) | refine Qcf (fun hb => ?_) fun hb => ?_ | refine Xgr [0, 1, 2, 3, 4] (c := by exact hc) (k := ?_) | refine Qce ?_ | ((fail_if_success refine wwN ?_); refine ww4 ?_) | refine Qcc (fun hb => ?_) fun hb => ?_ | refine And.intro ?_ ?_ | exact trivial
    all_goals refine wRo [] [_, _, _, _, _]
theorem Qut (s : StoreD) (t t2 : ThreadD) (op a b : Int) (fs : List FrameD) (ev : List EventD) (nv : Nat) (h12 : op = 1 ∨ op = 2) (hc : SatO Tryz.prog 161 [.agg [.rf 0 s.heads.length, .rf 1 s.descs.length], .agg (thB t (.rf 2 t.prog.length) (.rf 3 t.opens.length) (.rf 4 t.stack.length)), .agg [.int .i64 op, .int .i64 a, .int .i64 b]] [.root 151 (Qat s.heads), .root 89 (Qar 91 s.descs), .root 146 (Qaw t.prog), .root 91 (Qav t.opens), .root 160 (Qaq t.stack)] (.tup [.agg (thB t2 (.rf 2 t.prog.length) (.rf 3 t.opens.length) (.rf 5 fs.length)), .rf 6 nv]) [.root 151 (Qat s.heads), .root 89 (Qar 91 s.descs), .root 146 (Qaw t.prog), .root 91 (Qav t.opens), .dead, .root 160 (Qaq fs), .root 86 (Qa0 ev)]) (hnv : nv = ev.length) : SatO Tryz.prog 119 [.agg [.rf 0 s.heads.length, .rf 1 s.descs.length], .agg (thB t (.rf 2 t.prog.length) (.rf 3 t.opens.length) (.rf 4 t.stack.length)), .agg [.int .i64 op, .int .i64 a, .int .i64 b]] [.root 151 (Qat s.heads), .root 89 (Qar 91 s.descs), .root 146 (Qaw t.prog), .root 91 (Qav t.opens), .root 160 (Qaq t.stack)] (.tup [.agg [.rf 0 s.heads.length, .rf 1 s.descs.length], .agg (thB t2 (.rf 2 t.prog.length) (.rf 3 t.opens.length) (.rf 5 fs.length)), .rf 6 nv]) [.root 151 (Qat s.heads), .root 89 (Qar 91 s.descs), .root 146 (Qaw t.prog), .root 91 (Qav t.opens), .dead, .root 160 (Qaq fs), .root 86 (Qa0 ev)] := by
  have hnv2 : nv ≤ ev.length := by omega
  have tkv : (Qa0 ev).take nv = Qa0 ev := by rw [hnv]; exact Qal ev
  rcases h12 with rfl | rfl
  all_goals
    simp only [thB] at *
    refine wEo Tryz.func119 [.cell 6 37, .cell 7 57, .tmp 8] 136 5 (by simp [Qbc, Qa6, Qbg, Qcr, Qda]) fun E hE => ?_
    have F := wwA @Qao (wwA @Qam (wwA @Qaa (wwA @Qac (wwA @Qag (wwA @Qah (wwA @Qau (wwA @Qai (wwA @Qap (wwA @Qas (wwA @Qan (wwA @Qal (wwA @Qad (wwA @Qaf (wwA @Qab (wwA @Qae (wwA @Qaj (wwA @Qak (wwA @Qay (wwA @Nat.le_refl (wwA hnv2 tkv))))))))))))))))))))
    repeat' first | refine wSq fun _ hK => ?_ | refine Qa1 hT hM (id := 5) 6 [[0,1,2,3,4,5],[0,2,3,1,4,5]] (by kernel_rfl) ?_ | refine ww1 ?_ | (refine wK ?_; clear hK) | (simp only [wHb, reduceCtorEq] at hb <;> try (exfalso; omega)) | refine Qcf (fun hb => ?_) fun hb => ?_ | refine Xgr [0, 1, 2, 3, 4] (c := by exact hc) (k := ?_) | refine Qce ?_ | ((fail_if_success refine wwN ?_); refine ww4 ?_) | refine Qcc (fun hb => ?_) fun hb => ?_ | refine And.intro ?_ ?_ | exact trivial
    all_goals refine wRo [] [_, _, _, _, _]
theorem Qit (s : StoreD) (t t2 : ThreadD) (op a b : Int) (es : List EntS) (ev : List EventD) (nv : Nat) (h12 : op = 1 ∨ op = 2) (hc : SatO Tryz.prog 161 [.agg [.rf 0 s.heads.length, .rf 1 s.descs.length], .agg (thB t (.rf 2 t.prog.length) (.rf 3 t.opens.length) (.rf 4 t.stack.length)), .agg [.int .i64 op, .int .i64 a, .int .i64 b]] [.root 151 (Qat s.heads), .root 89 (Qar 91 s.descs), .root 146 (Qaw t.prog), .root 91 (Qav t.opens), .root 160 (Qaq t.stack)] (.tup [.agg (thB t2 (.rf 2 t.prog.length) (.rf 5 es.length) (.rf 4 t.stack.length)), .rf 6 nv]) [.root 151 (Qat s.heads), .root 89 (Qar 91 s.descs), .root 146 (Qaw t.prog), .root 91 (Qav t.opens), .root 160 (Qaq t.stack), .root 91 (Qav es), .root 86 (Qa0 ev)]) (hnv : nv = ev.length) : SatO Tryz.prog 119 [.agg [.rf 0 s.heads.length, .rf 1 s.descs.length], .agg (thB t (.rf 2 t.prog.length) (.rf 3 t.opens.length) (.rf 4 t.stack.length)), .agg [.int .i64 op, .int .i64 a, .int .i64 b]] [.root 151 (Qat s.heads), .root 89 (Qar 91 s.descs), .root 146 (Qaw t.prog), .root 91 (Qav t.opens), .root 160 (Qaq t.stack)] (.tup [.agg [.rf 0 s.heads.length, .rf 1 s.descs.length], .agg (thB t2 (.rf 2 t.prog.length) (.rf 5 es.length) (.rf 4 t.stack.length)), .rf 6 nv]) [.root 151 (Qat s.heads), .root 89 (Qar 91 s.descs), .root 146 (Qaw t.prog), .root 91 (Qav t.opens), .root 160 (Qaq t.stack), .root 91 (Qav es), .root 86 (Qa0 ev)] := by
  have hnv2 : nv ≤ ev.length := by omega
  have tkv : (Qa0 ev).take nv = Qa0 ev := by rw [hnv]; exact Qal ev
  rcases h12 with rfl | rfl
  all_goals
    simp only [thB] at *
    refine wEo Tryz.func119 [.cell 6 37, .cell 7 57, .tmp 8] 136 5 (by simp [Qbc, Qa6, Qbg, Qcr, Qda]) fun E hE => ?_
    have F := wwA @Qao (wwA @Qam (wwA @Qaa (wwA @Qac (wwA @Qag (wwA @Qah (wwA @Qau (wwA @Qai (wwA @Qap (wwA @Qas (wwA @Qan (wwA @Qal (wwA @Qad (wwA @Qaf (wwA @Qab (wwA @Qae (wwA @Qaj (wwA @Qak (wwA @Qay (wwA @Nat.le_refl (wwA hnv2 tkv))))))))))))))))))))
    repeat' first | refine wSq fun _ hK => ?_ | refine Qa1 hT hM (id := 5) 6 [[0,1,2,3,4,5],[0,2,3,1,4,5]] (by kernel_rfl) ?_ | refine ww1 ?_ | (refine wK ?_; clear hK) | (simp only [wHb, reduceCtorEq] at hb <;> try (exfalso; omega)) | refine Qcf (fun hb => ?_) fun hb => ?_ | refine Xgr [0, 1, 2, 3, 4] (c := by exact hc) (k := ?_) | refine Qce ?_ | ((fail_if_success refine wwN ?_); refine ww4 ?_) | refine Qcc (fun hb => ?_) fun hb => ?_ | refine And.intro ?_ ?_ | exact trivial
    all_goals refine wRo [] [_, _, _, _, _]
theorem Qzm (s : StoreD) (t t2 : ThreadD) (a b : Int) (p0 : 0 ≤ t.pc) (p1 : t.pc ≤ 1048576) (hs : Xfv t t2 a b) : SatO Tryz.prog 119 [.agg [.rf 0 s.heads.length, .rf 1 s.descs.length], .agg (thB t (.rf 2 t.prog.length) (.rf 3 t.opens.length) (.rf 4 t.stack.length)), .agg [.int .i64 3, .int .i64 a, .int .i64 b]] [.root 151 (Qat s.heads), .root 89 (Qar 91 s.descs), .root 146 (Qaw t.prog), .root 91 (Qav t.opens), .root 160 (Qaq t.stack)] (.tup [.agg [.rf 0 s.heads.length, .rf 1 s.descs.length], .agg (thB t2 (.rf 2 t.prog.length) (.rf 3 t.opens.length) (.rf 4 t.stack.length)), .rf 5 0]) [.root 151 (Qat s.heads), .root 89 (Qar 91 s.descs), .root 146 (Qaw t.prog), .root 91 (Qav t.opens), .root 160 (Qaq t.stack), .root 86 (Qa0 [])] := by
  have hw0 : True := trivial
  rcases hs with ⟨rfl, rfl⟩ | ⟨rfl, rfl⟩ | ⟨rfl, rfl⟩ | ⟨rfl, rfl⟩
  all_goals
    have hw : IntKind.i64.wrap (t.pc + 1) = t.pc + 1 := Qax (by omega)
    simp only [thB] at *
    refine wEo Tryz.func119 [.cell 6 37, .cell 7 57, .tmp 8] 136 5 (by simp [Qbc, Qa6, Qbg, Qcr, Qda]) fun E hE => ?_
    have F := wwA @Qao (wwA @Qam (wwA @Qaa (wwA @Qac (wwA @Qag (wwA @Qah (wwA @Qau (wwA @Qai (wwA @Qap (wwA @Qas (wwA @Qan (wwA @Qal (wwA @Qad (wwA @Qaf (wwA @Qab (wwA @Qae (wwA @Qaj (wwA @Qak (wwA @Qay (wwA @Nat.le_refl hw)))))))))))))))))))
    repeat' first | refine wSq fun _ hK => ?_ | refine Qa1 hT hM (id := 33) 5 [[0,1,2,3,4],[0,2,1,3,4]] (by kernel_rfl) ?_ | refine ww1 ?_ | (refine wK ?_; clear hK) | (simp only [wHb, reduceCtorEq] at hb <;> try (exfalso; omega)) | refine Qcf (fun hb => ?_) fun hb => ?_ | refine Qce ?_ | ((fail_if_success refine wwN ?_); refine ww4 ?_) | refine Qcc (fun hb => ?_) fun hb => ?_ | refine And.intro ?_ ?_ | exact trivial
    all_goals refine wRo [] [_, _, _, _, _]
theorem Xcr (s : StoreD) (t t2 : ThreadD) (a b : Int) (p0 : 0 ≤ t.pc) (p1 : t.pc ≤ 1048576) (hs : IfC t t2 a b) : SatO Tryz.prog 119 [.agg [.rf 0 s.heads.length, .rf 1 s.descs.length], .agg (thB t (.rf 2 t.prog.length) (.rf 3 t.opens.length) (.rf 4 t.stack.length)), .agg [.int .i64 5, .int .i64 a, .int .i64 b]] [.root 151 (Qat s.heads), .root 89 (Qar 91 s.descs), .root 146 (Qaw t.prog), .root 91 (Qav t.opens), .root 160 (Qaq t.stack)] (.tup [.agg [.rf 0 s.heads.length, .rf 1 s.descs.length], .agg (thB t2 (.rf 2 t.prog.length) (.rf 3 t.opens.length) (.rf 4 t.stack.length)), .rf 5 0]) [.root 151 (Qat s.heads), .root 89 (Qar 91 s.descs), .root 146 (Qaw t.prog), .root 91 (Qav t.opens), .root 160 (Qaq t.stack), .root 86 (Qa0 [])] := by
  have hw0 : True := trivial
  rcases hs with ⟨rfl, hz, rfl⟩ | ⟨rfl, hz, rfl⟩ | ⟨rfl, hz, rfl⟩ | ⟨rfl, hz, rfl⟩ | ⟨rfl, hz, rfl⟩ | ⟨rfl, hz, rfl⟩ | ⟨rfl, hz, rfl⟩ | ⟨rfl, hz, rfl⟩
  all_goals
    have hw : IntKind.i64.wrap (t.pc + 1) = t.pc + 1 := Qax (by omega)
    first
    | have hz2 := Xba hz
    | have hz2 := Xeo hz
    simp only [thB] at *
    refine wEo Tryz.func119 [.cell 6 37, .cell 7 57, .tmp 8] 136 5 (by simp [Qbc, Qa6, Qbg, Qcr, Qda]) fun E hE => ?_
    have F := wwA @Qao (wwA @Qam (wwA @Qaa (wwA @Qac (wwA @Qag (wwA @Qah (wwA @Qau (wwA @Qai (wwA @Qap (wwA @Qas (wwA @Qan (wwA @Qal (wwA @Qad (wwA @Qaf (wwA @Qab (wwA @Qae (wwA @Qaj (wwA @Qak (wwA @Qay (wwA @Nat.le_refl (wwA hw hz2))))))))))))))))))))
    repeat' first | refine wSq fun _ hK => ?_ | refine Qa1 hT hM (id := 13) 5 [[0,1,2,3,4],[0,2,1,3,4]] (by kernel_rfl) ?_ | refine Qa1 hT hM (id := 33) 5 [[0,1,2,3,4],[0,2,1,3,4]] (by kernel_rfl) ?_ | refine ww1 ?_ | (refine wK ?_; clear hK) | (simp only [wHb, reduceCtorEq] at hb <;> try (exfalso; omega)) | refine Qcf (fun hb => ?_) fun hb => ?_ | refine Qce ?_ | ((fail_if_success refine wwN ?_); refine ww4 ?_) | refine Qcc (fun hb => ?_) fun hb => ?_ | refine And.intro ?_ ?_ | exact trivial
    all_goals refine wRo [] [_, _, _, _, _]
theorem Xbn (s : StoreD) (t t2 : ThreadD) (a b : Int) (h2 : t2 = {t with pc := a}) : SatO Tryz.prog 119 [.agg [.rf 0 s.heads.length, .rf 1 s.descs.length], .agg (thB t (.rf 2 t.prog.length) (.rf 3 t.opens.length) (.rf 4 t.stack.length)), .agg [.int .i64 8, .int .i64 a, .int .i64 b]] [.root 151 (Qat s.heads), .root 89 (Qar 91 s.descs), .root 146 (Qaw t.prog), .root 91 (Qav t.opens), .root 160 (Qaq t.stack)] (.tup [.agg [.rf 0 s.heads.length, .rf 1 s.descs.length], .agg (thB t2 (.rf 2 t.prog.length) (.rf 3 t.opens.length) (.rf 4 t.stack.length)), .rf 5 0]) [.root 151 (Qat s.heads), .root 89 (Qar 91 s.descs), .root 146 (Qaw t.prog), .root 91 (Qav t.opens), .root 160 (Qaq t.stack), .root 86 (Qa0 [])] := by
  subst h2
  simp only [thB] at *
  refine wEo Tryz.func119 [.cell 6 37, .cell 7 57, .tmp 8] 136 5 (by simp [Qbc, Qa6, Qbg, Qcr, Qda]) fun E hE => ?_
  have F := wwA @Qao (wwA @Qam (wwA @Qaa (wwA @Qac (wwA @Qag (wwA @Qah (wwA @Qau (wwA @Qai (wwA @Qap (wwA @Qas (wwA @Qan (wwA @Qal (wwA @Qad (wwA @Qaf (wwA @Qab (wwA @Qae (wwA @Qaj (wwA @Qak (wwA @Qay @Nat.le_refl))))))))))))))))))
  repeat' first | refine wSq fun _ hK => ?_ | refine Qa1 hT hM (id := 16) 5 [[0,1,2,3,4],[0,2,1,3,4]] (by kernel_rfl) ?_ | refine ww1 ?_ | (refine wK ?_; clear hK) | (simp only [wHb, reduceCtorEq] at hb <;> try (exfalso; omega)) | refine Qcf (fun hb => ?_) fun hb => ?_ | refine Qce ?_ | ((fail_if_success refine wwN ?_); refine ww4 ?_) | refine Qcc (fun hb => ?_) fun hb => ?_ | refine And.intro ?_ ?_ | exact trivial
  all_goals refine wRo [] [_, _, _, _, _]
theorem Qts (s : StoreD) (t t2 : ThreadD) (a b : Int) (p0 : 0 ≤ t.pc) (p1 : t.pc ≤ 1048576) (h2 : t2 = {t with opens := [], pc := t.pc + 1}) : SatO Tryz.prog 119 [.agg [.rf 0 s.heads.length, .rf 1 s.descs.length], .agg (thB t (.rf 2 t.prog.length) (.rf 3 t.opens.length) (.rf 4 t.stack.length)), .agg [.int .i64 7, .int .i64 a, .int .i64 b]] [.root 151 (Qat s.heads), .root 89 (Qar 91 s.descs), .root 146 (Qaw t.prog), .root 91 (Qav t.opens), .root 160 (Qaq t.stack)] (.tup [.agg [.rf 0 s.heads.length, .rf 1 s.descs.length], .agg (thB t2 (.rf 2 t.prog.length) (.rf 5 0) (.rf 4 t.stack.length)), .rf 6 1]) [.root 151 (Qat s.heads), .root 89 (Qar 91 s.descs), .root 146 (Qaw t.prog), .root 91 (Qav t.opens), .root 160 (Qaq t.stack), .root 91 [], .root 86 (Qa0 [⟨5, t.id, 0, 0⟩])] := by
  have hw : IntKind.i64.wrap (t.pc + 1) = t.pc + 1 := Qax (by omega)
  subst h2
  simp only [thB] at *
  refine wEo Tryz.func119 [.cell 6 37, .cell 7 57, .tmp 8] 136 5 (by simp [Qbc, Qa6, Qbg, Qcr, Qda]) fun E hE => ?_
  have F := wwA @Qao (wwA @Qam (wwA @Qaa (wwA @Qac (wwA @Qag (wwA @Qah (wwA @Qau (wwA @Qai (wwA @Qap (wwA @Qas (wwA @Qan (wwA @Qal (wwA @Qad (wwA @Qaf (wwA @Qab (wwA @Qae (wwA @Qaj (wwA @Qak (wwA @Qay (wwA @Nat.le_refl hw)))))))))))))))))))
  repeat' first | refine wSq fun _ hK => ?_ | refine Qa1 hT hM (id := 20) 9 [[0,1,2,3,4,5,6,7,8],[0,1,2,3,4,6,5,7,8],[0,1,2,3,4,6,7,5,8],[0,1,2,6,3,4,5,7,8],[0,1,2,6,3,4,7,5,8],[0,1,2,6,7,3,4,5,8],[0,1,6,2,3,4,5,7,8],[0,1,6,2,3,4,7,5,8],[0,1,6,2,7,3,4,5,8],[0,1,6,7,2,3,4,5,8],[0,2,3,4,5,6,1,7,8],[0,2,3,4,6,1,5,7,8],[0,2,3,4,6,1,7,5,8],[0,2,6,1,3,4,5,7,8],[0,2,6,1,3,4,7,5,8],[0,2,6,1,7,3,4,5,8],[0,6,1,2,3,4,5,7,8],[0,6,1,2,3,4,7,5,8],[0,6,1,2,7,3,4,5,8],[0,6,1,7,2,3,4,5,8]] (by kernel_rfl) ?_ | refine ww1 ?_ | (refine wK ?_; clear hK) | (simp only [wHb, reduceCtorEq] at hb <;> try (exfalso; omega)) | refine Qcf (fun hb => ?_) fun hb => ?_ | refine Qce ?_ | ((fail_if_success refine wwN ?_); refine ww4 ?_) | refine Qcc (fun hb => ?_) fun hb => ?_ | refine And.intro ?_ ?_ | exact trivial
  all_goals refine wRo [] [_, _, _, _, _]
theorem Qkl (s : StoreD) (t t2 : ThreadD) (a b : Int) (p0 : 0 ≤ t.pc) (p1 : t.pc ≤ 1048576) (g0 : 0 ≤ t.commits) (g1 : t.commits ≤ 1000000) (hz : t.opens.length = 0) (h2 : t2 = {t with pc := t.pc + 1, commits := Qlr t.commits}) : SatO Tryz.prog 119 [.agg [.rf 0 s.heads.length, .rf 1 s.descs.length], .agg (thB t (.rf 2 t.prog.length) (.rf 3 t.opens.length) (.rf 4 t.stack.length)), .agg [.int .i64 6, .int .i64 a, .int .i64 b]] [.root 151 (Qat s.heads), .root 89 (Qar 91 s.descs), .root 146 (Qaw t.prog), .root 91 (Qav t.opens), .root 160 (Qaq t.stack)] (.tup [.agg [.rf 0 s.heads.length, .rf 1 s.descs.length], .agg (thB t2 (.rf 2 t.prog.length) (.rf 3 t.opens.length) (.rf 4 t.stack.length)), .rf 5 0]) [.root 151 (Qat s.heads), .root 89 (Qar 91 s.descs), .root 146 (Qaw t.prog), .root 91 (Qav t.opens), .root 160 (Qaq t.stack), .root 86 (Qa0 [])] := by
  have hw : IntKind.i64.wrap (t.pc + 1) = t.pc + 1 := Qax (by omega)
  have hzb : ((t.opens.length : Int) == 0) = true := by simp; exact List.eq_nil_of_length_eq_zero hz
  have hw2 : IntKind.i64.wrap (t.commits + 1) = t.commits + 1 := Qax (by omega)
  have hmn := Qmp 1000000 (t.commits + 1)
  rw [show (if (1000000 : Int) < t.commits + 1 then 1000000 else t.commits + 1) = Qlr t.commits from rfl] at hmn
  subst h2
  simp only [thB] at *
  refine wEo Tryz.func119 [.cell 6 37, .cell 7 57, .tmp 8] 136 5 (by simp [Qbc, Qa6, Qbg, Qcr, Qda]) fun E hE => ?_
  have F := wwA @Qao (wwA @Qam (wwA @Qaa (wwA @Qac (wwA @Qag (wwA @Qah (wwA @Qau (wwA @Qai (wwA @Qap (wwA @Qas (wwA @Qan (wwA @Qal (wwA @Qad (wwA @Qaf (wwA @Qab (wwA @Qae (wwA @Qaj (wwA @Qak (wwA @Qay (wwA @Nat.le_refl (wwA hw (wwA hw2 hzb)))))))))))))))))))))
  repeat' first | refine wSq fun _ hK => ?_ | refine Qa1 hT hM (id := 33) 5 [[0,1,2,3,4],[0,2,1,3,4]] (by kernel_rfl) ?_ | refine ww1 ?_ | (refine wK ?_; clear hK) | (simp only [wHb, reduceCtorEq] at hb <;> try (exfalso; omega)) | refine Qcf (fun hb => ?_) fun hb => ?_ | refine Qgs (c := by first | exact hmn) (k := ?_) | refine Qce ?_ | ((fail_if_success refine wwN ?_); refine ww4 ?_) | refine Qcc (fun hb => ?_) fun hb => ?_ | refine And.intro ?_ ?_ | exact trivial
  all_goals refine wRo [] [_, _, _, _, _]
theorem Qke (s : StoreD) (t t2 : ThreadD) (a b : Int) (d : DescS) (hz : ¬ t.opens.length = 0) (hl : t.opens.length ≤ 1048576) (hs : s.small) (hm : Qia t.id t.opens = (d, true)) (hdl : d.entries.length ≤ 1048576) (ha : Qcb s d = (s, -1, false)) (h2 : t2 = {t with state := 3}) : SatO Tryz.prog 119 [.agg [.rf 0 s.heads.length, .rf 1 s.descs.length], .agg (thB t (.rf 2 t.prog.length) (.rf 3 t.opens.length) (.rf 4 t.stack.length)), .agg [.int .i64 6, .int .i64 a, .int .i64 b]] [.root 151 (Qat s.heads), .root 89 (Qar 91 s.descs), .root 146 (Qaw t.prog), .root 91 (Qav t.opens), .root 160 (Qaq t.stack)] (.tup [.agg [.rf 0 s.heads.length, .rf 1 s.descs.length], .agg (thB t2 (.rf 2 t.prog.length) (.rf 3 t.opens.length) (.rf 4 t.stack.length)), .rf 5 0]) [.root 151 (Qat s.heads), .root 89 (Qar 91 s.descs), .root 146 (Qaw t.prog), .root 91 (Qav t.opens), .root 160 (Qaq t.stack), .root 86 (Qa0 [])] := by
  have hzb : ((t.opens.length : Int) == 0) = false := by simp; intro hc; exact hz (by rw [hc]; rfl)
  have hmk := Qhe t.id t.opens _ hm hl
  have han := Qhh s d _ ha hs hdl
  have htk := Qai d.entries
  unfold StoreD.cells DescS.cells at han
  simp only at hmk han
  subst h2
  simp only [thB] at *
  refine wEo Tryz.func119 [.cell 6 37, .cell 7 57, .tmp 8] 136 5 (by simp [Qbc, Qa6, Qbg, Qcr, Qda]) fun E hE => ?_
  have F := wwA @Qao (wwA @Qam (wwA @Qaa (wwA @Qac (wwA @Qag (wwA @Qah (wwA @Qau (wwA @Qai (wwA @Qap (wwA @Qas (wwA @Qan (wwA @Qal (wwA @Qad (wwA @Qaf (wwA @Qab (wwA @Qae (wwA @Qaj (wwA @Qak (wwA @Qay (wwA @Nat.le_refl (wwA hzb htk))))))))))))))))))))
  repeat' first | refine wSq fun _ hK => ?_ | refine Qa1 hT hM (id := 28) 5 [[0,1,2,3,4],[0,2,1,3,4]] (by kernel_rfl) ?_ | refine ww1 ?_ | (refine wK ?_; clear hK) | (simp only [wHb, reduceCtorEq] at hb <;> try (exfalso; omega)) | refine Qcf (fun hb => ?_) fun hb => ?_ | refine Qgs (c := by first | exact hmk | exact han) (k := ?_) | refine Qce ?_ | ((fail_if_success refine wwN ?_); refine ww4 ?_) | refine Qcc (fun hb => ?_) fun hb => ?_ | refine And.intro ?_ ?_ | exact trivial
  all_goals refine wRo [] [_, _, _, _, _]
theorem Qj9 (s : StoreD) (t t2 : ThreadD) (a b : Int) (d : DescS) (r : StoreD) (fs : List FrameD) (hz : ¬ t.opens.length = 0) (hl : t.opens.length ≤ 1048576) (hs : s.small) (hm : Qia t.id t.opens = (d, true)) (hdl : d.entries.length ≤ 1048576) (n : Int) (ha : Qcb s d = (r, n, true)) (hst : t.stack = []) (hf : fs = [⟨n, 0, 0⟩]) (h2 : t2 = {t with mine := n, stack := fs}) : SatO Tryz.prog 119 [.agg [.rf 0 s.heads.length, .rf 1 s.descs.length], .agg (thB t (.rf 2 t.prog.length) (.rf 3 t.opens.length) (.rf 4 t.stack.length)), .agg [.int .i64 6, .int .i64 a, .int .i64 b]] [.root 151 (Qat s.heads), .root 89 (Qar 91 s.descs), .root 146 (Qaw t.prog), .root 91 (Qav t.opens), .root 160 (Qaq t.stack)] (.tup [.agg [.rf 5 r.heads.length, .rf 6 r.descs.length], .agg (thB t2 (.rf 2 t.prog.length) (.rf 3 t.opens.length) (.rf 7 fs.length)), .rf 8 0]) [.root 151 (Qat s.heads), .root 89 (Qar 91 s.descs), .root 146 (Qaw t.prog), .root 91 (Qav t.opens), .root 160 (Qaq t.stack), .root 151 (Qat r.heads), .root 89 (Qar 91 r.descs), .root 160 (Qaq fs), .root 86 (Qa0 [])] := by
  have hzb : ((t.opens.length : Int) == 0) = false := by simp; intro hc; exact hz (by rw [hc]; rfl)
  have hmk := Qhe t.id t.opens _ hm hl
  have han := Qhh s d _ ha hs hdl
  have htk := Qai d.entries
  unfold StoreD.cells DescS.cells at han
  simp only at hmk han
  have hfl : fs.length = 1 := by rw [hf]; rfl
  have hrf : Qaq fs = [[.int .i64 n, .int .i64 0, .int .i64 0]] := by rw [hf]; rfl
  subst h2
  simp only [thB] at *
  refine wEo Tryz.func119 [.cell 6 37, .cell 7 57, .tmp 8] 136 5 (by simp [Qbc, Qa6, Qbg, Qcr, Qda]) fun E hE => ?_
  have F := wwA @Qao (wwA @Qam (wwA @Qaa (wwA @Qac (wwA @Qag (wwA @Qah (wwA @Qau (wwA @Qai (wwA @Qap (wwA @Qas (wwA @Qan (wwA @Qal (wwA @Qad (wwA @Qaf (wwA @Qab (wwA @Qae (wwA @Qaj (wwA @Qak (wwA @Qay (wwA @Nat.le_refl (wwA hzb (wwA htk (wwA hfl hrf))))))))))))))))))))))
  repeat' first | refine wSq fun _ hK => ?_ | refine Qa1 hT hM (id := 31) 5 [[0,1,2,3,4],[0,2,1,3,4]] (by kernel_rfl) ?_ | refine ww1 ?_ | (refine wK ?_; clear hK) | (simp only [wHb, reduceCtorEq] at hb <;> try (exfalso; omega)) | refine Qcf (fun hb => ?_) fun hb => ?_ | refine Qgs (c := by first | exact hmk | exact han) (k := ?_) | refine Qce ?_ | ((fail_if_success refine wwN ?_); refine ww4 ?_) | refine Qcc (fun hb => ?_) fun hb => ?_ | refine And.intro ?_ ?_ | exact trivial
  all_goals refine wRo [] [_, _, _, _, _]
def stL (ds : List DescS) (i : Nat) : List Int := (ds.take i).map DescS.status
theorem Qdy {ds : List DescS} {i : Nat} (h : i ≤ ds.length) : (stL ds i).length = i := by simp [stL]; omega
theorem Xf6 {ds : List DescS} {i : Nat} {d : DescS} (h : ds[i]? = some d) : stL ds (i + 1) = stL ds i ++ [d.status] := by
  obtain ⟨h1, h2⟩ := List.getElem?_eq_some_iff.1 h
  rw [stL, List.take_add_one, h]
  simp [stL]
theorem Xay {ds : List DescS} {i : Nat} {d : DescS} (h : ds[i]? = some d) : (stL ds ds.length)[i]? = some d.status := by simp [stL, h]
theorem Xdd (w : List Int) (f : Int) : Qgp w ++ [[.int .i64 f]] = Qgp (w ++ [f]) := by simp [Qgp, encN]
theorem Qf6 (s : StoreD) (hs : s.small) : SatP Tryz.prog 157 [.agg (s.cells 151 89 91)] (.rf 0 s.descs.length) [(3, Qgp (stL s.descs s.descs.length))] := by
  obtain ⟨f1, f2, f3⟩ := hs
  refine wEp Tryz.func157 [.tmp 2] 23 (hp := (by simpa using Qc1 _)) fun E hE => ?_
  unfold StoreD.cells at *
  have F := @Qab
  repeat' first | refine wSq fun _ hK => ?_ | refine ww1 ?_ | (refine wK ?_; clear hK) | (simp only [wHb, reduceCtorEq] at hb <;> try (exfalso; omega)) | refine wCd (fun hb => ?_) fun hb => ?_ | refine ww3 ?_ | ((fail_if_success refine wwN ?_); refine ww4 ?_) | refine wGd (fun hb => ?_) fun hb => ?_ | exact trivial
  refine Qm3 (X := Nat × Nat) (fun x => [(1, .bp 0 0), (3, .rf x.2 (stL s.descs x.1).length), (4, .int .i64 x.1)]) (fun x => [(0, .box [.fr 151 (Qat s.heads), .fr 89 (Qar 91 s.descs)]), (x.2, .root 3 (Qgp (stL s.descs x.1)))]) (fun x => s.descs.length - x.1)
    (fun x => x.1 ≤ s.descs.length ∧ 1 ≤ x.2) (fun x => x.2 + 1) (0, 1) ⟨by simp, by simp⟩ (by simp [Qbo, stL]) (by simp [Qbd, stL, Qgp]) (by simp) ?_
  rintro ⟨i, T⟩ nx ⟨hi, hTg⟩ hB
  simp only at hi hTg hB
  have hne0 : (0 : Nat) ≠ T := by omega
  have hne1 : T ≠ 0 := by omega
  have hw := Qax (x := (i : Int) + 1) (by omega)
  have hln := Qdy hi
  rcases Nat.lt_or_ge i s.descs.length with hlt | hge
  · obtain ⟨h, hh⟩ : ∃ h, s.descs[i]? = some h := ⟨_, List.getElem?_eq_getElem hlt⟩
    have hre := Qbl (te := 91) hh
    have n0 : nx ≠ 0 := by omega
    have m0 : (0 : Nat) ≠ nx := by omega
    have n1 : nx ≠ T := by omega
    have m1 : T ≠ nx := by omega
    have n2 : nx + 1 ≠ T := by omega
    have m2 : T ≠ nx + 1 := by omega
    have hsu := Xf6 hh
    have ht := Qwy (stL s.descs i)
    have ho := Xdd (stL s.descs i) h.status
    rw [hln] at ht
    have hln2 : (stL s.descs (i + 1)).length = i + 1 := Qdy (by omega)
    simp only [hln]
    have F := wwA @Qab (wwA hre (wwA hne0 (wwA hne1 (wwA n0 (wwA m0 (wwA n1 (wwA m1 (wwA n2 (wwA m2 (wwA @Qca (wwA ht (wwA ho (wwA @Nat.le_refl hln)))))))))))))
    repeat' first | refine wSq fun _ hK => ?_ | refine ww1 ?_ | (refine wK ?_; clear hK) | (simp only [wHb, reduceCtorEq] at hb <;> try (exfalso; omega)) | refine wCd (fun hb => ?_) fun hb => ?_ | refine ww3 ?_ | ((fail_if_success refine wwN ?_); refine ww4 ?_) | refine wGd (fun hb => ?_) fun hb => ?_ | exact trivial
    refine nextB (i + 1, nx + 1) ⟨by omega, by omega⟩ (by simp only; omega) (by simp [Qbo, tmL, hw, hln2]) (by simp [Qbd, hpL, hne0, hne1, n0, m0, n1, m1, n2, m2, hsu]) (by omega)
  · obtain rfl : i = s.descs.length := by omega
    have hnl : ¬ ((s.descs.length : Int) < (s.descs.length : Int)) := by omega
    simp only [hln]
    have F := wwA @Qab (wwA hne0 (wwA hne1 hnl))
    repeat' first | refine wSq fun _ hK => ?_ | refine ww1 ?_ | (refine wK ?_; clear hK) | (simp only [wHb, reduceCtorEq] at hb <;> try (exfalso; omega)) | refine wCd (fun hb => ?_) fun hb => ?_ | refine ww3 ?_ | ((fail_if_success refine wwN ?_); refine ww4 ?_) | refine wGd (fun hb => ?_) fun hb => ?_ | exact trivial
    exact Qhz (T := T) (by simp only [go_sem, hne0, hne1]; try rfl) (by simp only [go_sem, hne0, hne1]; try rfl) (by rw [Qca, hln]) (Qc1 _)
def Qq7 (ds ds' : List DescS) : Prop := ∀ (i : Nat) (x y : DescS), ds[i]? = some x → ds'[i]? = some y → y.status = x.status ∨ x.status = 0
theorem Qkc (ds : List DescS) : Qq7 ds ds := fun i x y hx hy => by rw [hx] at hy; cases hy; exact .inl rfl
theorem Xav {ds : List DescS} {k : Nat} {d d' : DescS} (hd : ds[k]? = some d) (h0 : d.status = 0) : Qq7 ds (ds.set k d') := fun i x y hx hy => by
  by_cases h : k = i
  · subst h
    rw [hd] at hx
    cases hx
    exact .inr h0
  · rw [List.getElem?_set_ne h, hx] at hy
    cases hy
    exact .inl rfl
theorem Quy {s : StoreD} {f : FrameD} (hs : Qx2 s) (hf : Qqy s f) : Qq7 s.descs (Qe6 s f).1.descs := by
  obtain ⟨k, d, j, e, o, h, ha, h1, h2, h3, h4⟩ := Qmu hs hf
  rw [Qfp ha]
  unfold Qa5
  (repeat' split) <;> first | exact Qkc _ | exact Xav ha.dk (by assumption)
theorem Qy4 {s : StoreD} {fs : List FrameD} (hi : HelpI s fs) : Qq7 s.descs (Qes s fs).1.descs := by
  rcases List.eq_nil_or_concat fs with rfl | ⟨init, f, rfl⟩
  · exact Qkc _
  · rw [List.concat_eq_append] at *
    rw [Qey]
    have := Quy hi.st (hi.fr f (by simp))
    split
    · split <;> exact Qkc _
    · exact this
theorem Qqt (t : ThreadD) (xs : List FrameD) (n : Nat) (hn : n ≤ xs.length) (h0 : 0 ≤ t.fails) (h1 : t.fails ≤ 1000000) : SatO Tryz.prog 160 [.agg (thB t (.rf 0 t.prog.length) (.nl 91) (.rf 1 n))] [.root 146 (Qaw t.prog), .root 160 (Qaq xs)]
    (.tup [.agg (thB (⟨t.id, t.prog, 0, 0, 0, 0, 0, [], -1, t.stack, t.mine, t.state, t.commits, Qlr t.fails⟩ : ThreadD) (.rf 0 t.prog.length) (.rf 2 0) (.rf 1 n)), .rf 3 1]) [.root 146 (Qaw t.prog), .root 160 (Qaq xs), .root 91 [], .root 86 (Qa0 [⟨4, t.id, 0, 0⟩])] := by
  have hw : IntKind.i64.wrap (t.fails + 1) = t.fails + 1 := Qax (by omega)
  have hmn := Qmp 1000000 (t.fails + 1)
  rw [show (if (1000000 : Int) < t.fails + 1 then 1000000 else t.fails + 1) = Qlr t.fails from rfl] at hmn
  simp only [thB] at *
  refine wEo Tryz.func160 [.cell 2 57, .tmp 3] 19 2 (by simp [Qbc, Qa6, Qbg, Qcr, Qda]) fun E hE => ?_
  have F := wwA hw (wwA @Qao (wwA @Qam (wwA @Qaa (wwA @Qac (wwA @Qag (wwA @Qah (wwA @Qau (wwA @Qai (wwA @Qap (wwA @Qas (wwA @Qan (wwA @Qal (wwA @Qad (wwA @Qaf (wwA @Qab (wwA @Qae (wwA @Qaj (wwA @Qak (wwA @Qay (wwA @Nat.le_refl hn))))))))))))))))))))
  repeat' first | refine wSq fun _ hK => ?_ | refine Qa1 hT hM (id := 6) 7 [[0,1,2,3,4,5,6],[0,1,2,3,5,4,6],[0,1,5,2,3,4,6],[0,5,1,2,3,4,6]] (by kernel_rfl) ?_ | refine ww1 ?_ | (refine wK ?_; clear hK) | (simp only [wHb, reduceCtorEq] at hb <;> try (exfalso; omega)) | refine wCd (fun hb => ?_) fun hb => ?_ | refine wCa (c := by first | exact hmn) (k := ?_) | refine ww3 ?_ | ((fail_if_success refine wwN ?_); refine ww4 ?_) | refine wGd (fun hb => ?_) fun hb => ?_ | refine And.intro ?_ ?_ | exact trivial
  all_goals refine wRo [] [_, _]
end Go.Proofs.YtmiojnibngncaaaGreat
