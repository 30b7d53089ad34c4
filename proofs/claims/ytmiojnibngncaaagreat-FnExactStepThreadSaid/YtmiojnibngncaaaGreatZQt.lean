/- What the claim rests on, part 20: the value-level engine and contracts of functions; no condition. -/
import Derived.Test.YtmiojnibngncaaaGreatZQs
import Derived.Test.YtmiojnibngncaaaGreatZQp
import Derived.Test.YtmiojnibngncaaaGreatZQr
namespace Go.Proofs.YtmiojnibngncaaaGreat
open Go Go.RowKit
set_option linter.unusedVariables false
set_option linter.unusedSimpArgs false
set_option maxRecDepth 100000
set_option maxHeartbeats 4000000
attribute [local irreducible] Qdo VWP Qb5 Qbn Qbs Qbu Qbj Qbt Qa3 Qbq Qcq Qc6 Qbk Qdb Qc4 Qbr Qbm Qa8
theorem Qo8 (s : StoreD) (t t2 : ThreadD) (r : StoreD) (fs : List FrameD) (ns : Nat) (hns : ns = fs.length) (ev : List EventD) (nv : Nat) (hnv : nv = ev.length) (hst : (0 : Int) < t.stack.length) (hc : SatO Tryz.prog 132 [.bp 0 0, .bp 4 0] [.box (thB t (.rf 1 t.prog.length) (.rf 2 t.opens.length) (.rf 3 t.stack.length)), .root 146 (Qaw t.prog), .root 91 (Qav t.opens), .root 160 (Qaq t.stack), .box [.rf 5 s.heads.length, .rf 6 s.descs.length], .root 151 (Qat s.heads), .root 89 (Qar 91 s.descs)] (.rf 10 nv) [.box (thB t2 (.rf 1 t.prog.length) (.rf 2 t.opens.length) (.rf 7 ns)), .root 146 (Qaw t.prog), .root 91 (Qav t.opens), .root 160 (Qaq t.stack), .box [.rf 8 r.heads.length, .rf 9 r.descs.length], .root 151 (Qat s.heads), .root 89 (Qar 91 s.descs), .root 160 (Qaq fs), .root 151 (Qat r.heads), .root 89 (Qar 91 r.descs), .root 86 (Qa0 ev)]) : SatO Tryz.prog 69 [.bp 0 0, .bp 4 0] [.box (thB t (.rf 1 t.prog.length) (.rf 2 t.opens.length) (.rf 3 t.stack.length)), .root 146 (Qaw t.prog), .root 91 (Qav t.opens), .root 160 (Qaq t.stack), .box [.rf 5 s.heads.length, .rf 6 s.descs.length], .root 151 (Qat s.heads), .root 89 (Qar 91 s.descs)] (.rf 10 nv) [.box (thB t2 (.rf 1 t.prog.length) (.rf 2 t.opens.length) (.rf 7 ns)), .root 146 (Qaw t.prog), .root 91 (Qav t.opens), .root 160 (Qaq t.stack), .box [.rf 8 r.heads.length, .rf 9 r.descs.length], .root 151 (Qat s.heads), .root 89 (Qar 91 s.descs), .root 160 (Qaq fs), .root 151 (Qat r.heads), .root 89 (Qar 91 r.descs), .root 86 (Qa0 ev)] := by
  have hlv : nv ≤ ev.length := by omega
  have tkv : (Qa0 ev).take nv = Qa0 ev := by rw [hnv]; exact Qal ev
  have hle2 : True := trivial
  have hle : ns ≤ fs.length := by omega
  have tkf : (Qaq fs).take ns = Qaq fs := by rw [hns]; exact Qap fs
  have tke : True := trivial
  simp only [thB] at *
  refine wEo Tryz.func69 [.tmp 4] 135 7 (by simp [Qbc, Qa6, Qbg, Qcr, Qda]) fun E hE => ?_
  have F := wwA @Qao (wwA @Qam (wwA @Qaa (wwA @Qac (wwA @Qag (wwA @Qah (wwA @Qau (wwA @Qai (wwA @Qap (wwA @Qas (wwA @Qan (wwA @Qal (wwA @Qay (wwA @Nat.le_refl (wwA @Qad (wwA @Qaf (wwA @Qab (wwA @Qae (wwA @Qaj (wwA @Qak (wwA hle (wwA hlv (wwA tkv (wwA tke (wwA tkf (wwA hst hle2)))))))))))))))))))))))))
  repeat' first | refine wSq fun _ hK => ?_ | refine ww1 ?_ | (refine wK ?_; clear hK) | (simp only [wHb, reduceCtorEq] at hb <;> try (exfalso; omega)) | refine Qcf (fun hb => ?_) fun hb => ?_ | refine Qiz [0, 1, 2, 3, 4, 5, 6] (hc) ?_ | refine Qce ?_ | ((fail_if_success refine wwN ?_); refine ww4 ?_) | refine Qcc (fun hb => ?_) fun hb => ?_ | exact trivial
  all_goals refine wRo [] [_, _, _, _, _, _, _]
theorem Qyj (s : StoreD) (t t2 : ThreadD) (r : StoreD) (fs : List FrameD) (ns : Nat) (hns : ns = fs.length) (ev : List EventD) (nv : Nat) (hnv : nv = ev.length) (hst : (0 : Int) < t.stack.length) (hc : SatO Tryz.prog 132 [.bp 0 0, .bp 4 0] [.box (thB t (.rf 1 t.prog.length) (.rf 2 t.opens.length) (.rf 3 t.stack.length)), .root 146 (Qaw t.prog), .root 91 (Qav t.opens), .root 160 (Qaq t.stack), .box [.rf 5 s.heads.length, .rf 6 s.descs.length], .root 151 (Qat s.heads), .root 89 (Qar 91 s.descs)] (.rf 10 nv) [.box (thB t2 (.rf 1 t.prog.length) (.nl 91) (.rf 7 ns)), .root 146 (Qaw t.prog), .root 91 (Qav t.opens), .root 160 (Qaq t.stack), .box [.rf 8 r.heads.length, .rf 9 r.descs.length], .root 151 (Qat s.heads), .root 89 (Qar 91 s.descs), .root 160 (Qaq fs), .root 151 (Qat r.heads), .root 89 (Qar 91 r.descs), .root 86 (Qa0 ev)]) : SatO Tryz.prog 69 [.bp 0 0, .bp 4 0] [.box (thB t (.rf 1 t.prog.length) (.rf 2 t.opens.length) (.rf 3 t.stack.length)), .root 146 (Qaw t.prog), .root 91 (Qav t.opens), .root 160 (Qaq t.stack), .box [.rf 5 s.heads.length, .rf 6 s.descs.length], .root 151 (Qat s.heads), .root 89 (Qar 91 s.descs)] (.rf 10 nv) [.box (thB t2 (.rf 1 t.prog.length) (.nl 91) (.rf 7 ns)), .root 146 (Qaw t.prog), .root 91 (Qav t.opens), .root 160 (Qaq t.stack), .box [.rf 8 r.heads.length, .rf 9 r.descs.length], .root 151 (Qat s.heads), .root 89 (Qar 91 s.descs), .root 160 (Qaq fs), .root 151 (Qat r.heads), .root 89 (Qar 91 r.descs), .root 86 (Qa0 ev)] := by
  have hlv : nv ≤ ev.length := by omega
  have tkv : (Qa0 ev).take nv = Qa0 ev := by rw [hnv]; exact Qal ev
  have hle2 : True := trivial
  have hle : ns ≤ fs.length := by omega
  have tkf : (Qaq fs).take ns = Qaq fs := by rw [hns]; exact Qap fs
  have tke : True := trivial
  simp only [thB] at *
  refine wEo Tryz.func69 [.tmp 4] 135 7 (by simp [Qbc, Qa6, Qbg, Qcr, Qda]) fun E hE => ?_
  have F := wwA @Qao (wwA @Qam (wwA @Qaa (wwA @Qac (wwA @Qag (wwA @Qah (wwA @Qau (wwA @Qai (wwA @Qap (wwA @Qas (wwA @Qan (wwA @Qal (wwA @Qay (wwA @Nat.le_refl (wwA @Qad (wwA @Qaf (wwA @Qab (wwA @Qae (wwA @Qaj (wwA @Qak (wwA hle (wwA hlv (wwA tkv (wwA tke (wwA tkf (wwA hst hle2)))))))))))))))))))))))))
  repeat' first | refine wSq fun _ hK => ?_ | refine ww1 ?_ | (refine wK ?_; clear hK) | (simp only [wHb, reduceCtorEq] at hb <;> try (exfalso; omega)) | refine Qcf (fun hb => ?_) fun hb => ?_ | refine Qiz [0, 1, 2, 3, 4, 5, 6] (hc) ?_ | refine Qce ?_ | ((fail_if_success refine wwN ?_); refine ww4 ?_) | refine Qcc (fun hb => ?_) fun hb => ?_ | exact trivial
  all_goals refine wRo [] [_, _, _, _, _, _, _]
theorem Qx3 (s : StoreD) (t t2 : ThreadD) (fs : List FrameD) (ns : Nat) (hns : ns = fs.length) (ev : List EventD) (nv : Nat) (hnv : nv = ev.length) (hst : (0 : Int) < t.stack.length) (hc : SatO Tryz.prog 132 [.bp 0 0, .bp 4 0] [.box (thB t (.rf 1 t.prog.length) (.rf 2 t.opens.length) (.rf 3 t.stack.length)), .root 146 (Qaw t.prog), .root 91 (Qav t.opens), .root 160 (Qaq t.stack), .box [.rf 5 s.heads.length, .rf 6 s.descs.length], .root 151 (Qat s.heads), .root 89 (Qar 91 s.descs)] (.rf 8 nv) [.box (thB t2 (.rf 1 t.prog.length) (.rf 2 t.opens.length) (.rf 7 ns)), .root 146 (Qaw t.prog), .root 91 (Qav t.opens), .root 160 (Qaq t.stack), .box [.rf 5 s.heads.length, .rf 6 s.descs.length], .root 151 (Qat s.heads), .root 89 (Qar 91 s.descs), .root 160 (Qaq fs), .root 86 (Qa0 ev)]) : SatO Tryz.prog 69 [.bp 0 0, .bp 4 0] [.box (thB t (.rf 1 t.prog.length) (.rf 2 t.opens.length) (.rf 3 t.stack.length)), .root 146 (Qaw t.prog), .root 91 (Qav t.opens), .root 160 (Qaq t.stack), .box [.rf 5 s.heads.length, .rf 6 s.descs.length], .root 151 (Qat s.heads), .root 89 (Qar 91 s.descs)] (.rf 8 nv) [.box (thB t2 (.rf 1 t.prog.length) (.rf 2 t.opens.length) (.rf 7 ns)), .root 146 (Qaw t.prog), .root 91 (Qav t.opens), .root 160 (Qaq t.stack), .box [.rf 5 s.heads.length, .rf 6 s.descs.length], .root 151 (Qat s.heads), .root 89 (Qar 91 s.descs), .root 160 (Qaq fs), .root 86 (Qa0 ev)] := by
  have hlv : nv ≤ ev.length := by omega
  have tkv : (Qa0 ev).take nv = Qa0 ev := by rw [hnv]; exact Qal ev
  have hle2 : True := trivial
  have hle : ns ≤ fs.length := by omega
  have tkf : (Qaq fs).take ns = Qaq fs := by rw [hns]; exact Qap fs
  have tke : True := trivial
  simp only [thB] at *
  refine wEo Tryz.func69 [.tmp 4] 135 7 (by simp [Qbc, Qa6, Qbg, Qcr, Qda]) fun E hE => ?_
  have F := wwA @Qao (wwA @Qam (wwA @Qaa (wwA @Qac (wwA @Qag (wwA @Qah (wwA @Qau (wwA @Qai (wwA @Qap (wwA @Qas (wwA @Qan (wwA @Qal (wwA @Qay (wwA @Nat.le_refl (wwA @Qad (wwA @Qaf (wwA @Qab (wwA @Qae (wwA @Qaj (wwA @Qak (wwA hle (wwA hlv (wwA tkv (wwA tke (wwA tkf (wwA hst hle2)))))))))))))))))))))))))
  repeat' first | refine wSq fun _ hK => ?_ | refine ww1 ?_ | (refine wK ?_; clear hK) | (simp only [wHb, reduceCtorEq] at hb <;> try (exfalso; omega)) | refine Qcf (fun hb => ?_) fun hb => ?_ | refine Qiz [0, 1, 2, 3, 4, 5, 6] (hc) ?_ | refine Qce ?_ | ((fail_if_success refine wwN ?_); refine ww4 ?_) | refine Qcc (fun hb => ?_) fun hb => ?_ | exact trivial
  all_goals refine wRo [] [_, _, _, _, _, _, _]
theorem Qmg (s : StoreD) (t t2 : ThreadD) (ev : List EventD) (nv : Nat) (hnv : nv = ev.length) (hst : ¬ (0 : Int) < t.stack.length) (hck : (t.check != -1) = true) (hc : SatO Tryz.prog 133 [.bp 0 0, .bp 4 0] [.box (thB t (.rf 1 t.prog.length) (.rf 2 t.opens.length) (.rf 3 t.stack.length)), .root 146 (Qaw t.prog), .root 91 (Qav t.opens), .root 160 (Qaq t.stack), .box [.rf 5 s.heads.length, .rf 6 s.descs.length], .root 151 (Qat s.heads), .root 89 (Qar 91 s.descs)] (.rf 7 nv) [.box (thB t2 (.rf 1 t.prog.length) (.rf 2 t.opens.length) (.rf 3 t.stack.length)), .root 146 (Qaw t.prog), .root 91 (Qav t.opens), .root 160 (Qaq t.stack), .box [.rf 5 s.heads.length, .rf 6 s.descs.length], .root 151 (Qat s.heads), .root 89 (Qar 91 s.descs), .root 86 (Qa0 ev)]) : SatO Tryz.prog 69 [.bp 0 0, .bp 4 0] [.box (thB t (.rf 1 t.prog.length) (.rf 2 t.opens.length) (.rf 3 t.stack.length)), .root 146 (Qaw t.prog), .root 91 (Qav t.opens), .root 160 (Qaq t.stack), .box [.rf 5 s.heads.length, .rf 6 s.descs.length], .root 151 (Qat s.heads), .root 89 (Qar 91 s.descs)] (.rf 7 nv) [.box (thB t2 (.rf 1 t.prog.length) (.rf 2 t.opens.length) (.rf 3 t.stack.length)), .root 146 (Qaw t.prog), .root 91 (Qav t.opens), .root 160 (Qaq t.stack), .box [.rf 5 s.heads.length, .rf 6 s.descs.length], .root 151 (Qat s.heads), .root 89 (Qar 91 s.descs), .root 86 (Qa0 ev)] := by
  have hlv : nv ≤ ev.length := by omega
  have tkv : (Qa0 ev).take nv = Qa0 ev := by rw [hnv]; exact Qal ev
  have hle2 : True := trivial
  have hle : True := trivial
  have tke : True := trivial
  have tkf : True := trivial
  simp only [thB] at *
  refine wEo Tryz.func69 [.tmp 4] 135 7 (by simp [Qbc, Qa6, Qbg, Qcr, Qda]) fun E hE => ?_
  have F := wwA @Qao (wwA @Qam (wwA @Qaa (wwA @Qac (wwA @Qag (wwA @Qah (wwA @Qau (wwA @Qai (wwA @Qap (wwA @Qas (wwA @Qan (wwA @Qal (wwA @Qay (wwA @Nat.le_refl (wwA @Qad (wwA @Qaf (wwA @Qab (wwA @Qae (wwA @Qaj (wwA @Qak (wwA hle (wwA hlv (wwA tkv (wwA tke (wwA tkf (wwA hst (wwA hck hle2))))))))))))))))))))))))))
  repeat' first | refine wSq fun _ hK => ?_ | refine ww1 ?_ | (refine wK ?_; clear hK) | (simp only [wHb, reduceCtorEq] at hb <;> try (exfalso; omega)) | refine Qcf (fun hb => ?_) fun hb => ?_ | refine Qiz [0, 1, 2, 3, 4, 5, 6] (hc) ?_ | refine Qce ?_ | ((fail_if_success refine wwN ?_); refine ww4 ?_) | refine Qcc (fun hb => ?_) fun hb => ?_ | exact trivial
  all_goals refine wRo [] [_, _, _, _, _, _, _]
theorem Qu8 (s : StoreD) (t t2 : ThreadD) (ev : List EventD) (nv : Nat) (hnv : nv = ev.length) (hst : ¬ (0 : Int) < t.stack.length) (hck : (t.check != -1) = true) (hc : SatO Tryz.prog 133 [.bp 0 0, .bp 4 0] [.box (thB t (.rf 1 t.prog.length) (.rf 2 t.opens.length) (.rf 3 t.stack.length)), .root 146 (Qaw t.prog), .root 91 (Qav t.opens), .root 160 (Qaq t.stack), .box [.rf 5 s.heads.length, .rf 6 s.descs.length], .root 151 (Qat s.heads), .root 89 (Qar 91 s.descs)] (.rf 7 nv) [.box (thB t2 (.rf 1 t.prog.length) (.nl 91) (.rf 3 t.stack.length)), .root 146 (Qaw t.prog), .root 91 (Qav t.opens), .root 160 (Qaq t.stack), .box [.rf 5 s.heads.length, .rf 6 s.descs.length], .root 151 (Qat s.heads), .root 89 (Qar 91 s.descs), .root 86 (Qa0 ev)]) : SatO Tryz.prog 69 [.bp 0 0, .bp 4 0] [.box (thB t (.rf 1 t.prog.length) (.rf 2 t.opens.length) (.rf 3 t.stack.length)), .root 146 (Qaw t.prog), .root 91 (Qav t.opens), .root 160 (Qaq t.stack), .box [.rf 5 s.heads.length, .rf 6 s.descs.length], .root 151 (Qat s.heads), .root 89 (Qar 91 s.descs)] (.rf 7 nv) [.box (thB t2 (.rf 1 t.prog.length) (.nl 91) (.rf 3 t.stack.length)), .root 146 (Qaw t.prog), .root 91 (Qav t.opens), .root 160 (Qaq t.stack), .box [.rf 5 s.heads.length, .rf 6 s.descs.length], .root 151 (Qat s.heads), .root 89 (Qar 91 s.descs), .root 86 (Qa0 ev)] := by
  have hlv : nv ≤ ev.length := by omega
  have tkv : (Qa0 ev).take nv = Qa0 ev := by rw [hnv]; exact Qal ev
  have hle2 : True := trivial
  have hle : True := trivial
  have tke : True := trivial
  have tkf : True := trivial
  simp only [thB] at *
  refine wEo Tryz.func69 [.tmp 4] 135 7 (by simp [Qbc, Qa6, Qbg, Qcr, Qda]) fun E hE => ?_
  have F := wwA @Qao (wwA @Qam (wwA @Qaa (wwA @Qac (wwA @Qag (wwA @Qah (wwA @Qau (wwA @Qai (wwA @Qap (wwA @Qas (wwA @Qan (wwA @Qal (wwA @Qay (wwA @Nat.le_refl (wwA @Qad (wwA @Qaf (wwA @Qab (wwA @Qae (wwA @Qaj (wwA @Qak (wwA hle (wwA hlv (wwA tkv (wwA tke (wwA tkf (wwA hst (wwA hck hle2))))))))))))))))))))))))))
  repeat' first | refine wSq fun _ hK => ?_ | refine ww1 ?_ | (refine wK ?_; clear hK) | (simp only [wHb, reduceCtorEq] at hb <;> try (exfalso; omega)) | refine Qcf (fun hb => ?_) fun hb => ?_ | refine Qiz [0, 1, 2, 3, 4, 5, 6] (hc) ?_ | refine Qce ?_ | ((fail_if_success refine wwN ?_); refine ww4 ?_) | refine Qcc (fun hb => ?_) fun hb => ?_ | exact trivial
  all_goals refine wRo [] [_, _, _, _, _, _, _]
theorem Qud (s : StoreD) (t t2 : ThreadD) (fs : List FrameD) (ns : Nat) (hns : ns = fs.length) (ev : List EventD) (nv : Nat) (hnv : nv = ev.length) (hst : ¬ (0 : Int) < t.stack.length) (hck : (t.check != -1) = true) (hc : SatO Tryz.prog 133 [.bp 0 0, .bp 4 0] [.box (thB t (.rf 1 t.prog.length) (.rf 2 t.opens.length) (.rf 3 t.stack.length)), .root 146 (Qaw t.prog), .root 91 (Qav t.opens), .root 160 (Qaq t.stack), .box [.rf 5 s.heads.length, .rf 6 s.descs.length], .root 151 (Qat s.heads), .root 89 (Qar 91 s.descs)] (.rf 8 nv) [.box (thB t2 (.rf 1 t.prog.length) (.rf 2 t.opens.length) (.rf 7 ns)), .root 146 (Qaw t.prog), .root 91 (Qav t.opens), .dead, .box [.rf 5 s.heads.length, .rf 6 s.descs.length], .root 151 (Qat s.heads), .root 89 (Qar 91 s.descs), .root 160 (Qaq fs), .root 86 (Qa0 ev)]) : SatO Tryz.prog 69 [.bp 0 0, .bp 4 0] [.box (thB t (.rf 1 t.prog.length) (.rf 2 t.opens.length) (.rf 3 t.stack.length)), .root 146 (Qaw t.prog), .root 91 (Qav t.opens), .root 160 (Qaq t.stack), .box [.rf 5 s.heads.length, .rf 6 s.descs.length], .root 151 (Qat s.heads), .root 89 (Qar 91 s.descs)] (.rf 8 nv) [.box (thB t2 (.rf 1 t.prog.length) (.rf 2 t.opens.length) (.rf 7 ns)), .root 146 (Qaw t.prog), .root 91 (Qav t.opens), .dead, .box [.rf 5 s.heads.length, .rf 6 s.descs.length], .root 151 (Qat s.heads), .root 89 (Qar 91 s.descs), .root 160 (Qaq fs), .root 86 (Qa0 ev)] := by
  have hlv : nv ≤ ev.length := by omega
  have tkv : (Qa0 ev).take nv = Qa0 ev := by rw [hnv]; exact Qal ev
  have hle2 : True := trivial
  have hle : ns ≤ fs.length := by omega
  have tkf : (Qaq fs).take ns = Qaq fs := by rw [hns]; exact Qap fs
  have tke : True := trivial
  simp only [thB] at *
  refine wEo Tryz.func69 [.tmp 4] 135 7 (by simp [Qbc, Qa6, Qbg, Qcr, Qda]) fun E hE => ?_
  have F := wwA @Qao (wwA @Qam (wwA @Qaa (wwA @Qac (wwA @Qag (wwA @Qah (wwA @Qau (wwA @Qai (wwA @Qap (wwA @Qas (wwA @Qan (wwA @Qal (wwA @Qay (wwA @Nat.le_refl (wwA @Qad (wwA @Qaf (wwA @Qab (wwA @Qae (wwA @Qaj (wwA @Qak (wwA hle (wwA hlv (wwA tkv (wwA tke (wwA tkf (wwA hst (wwA hck hle2))))))))))))))))))))))))))
  repeat' first | refine wSq fun _ hK => ?_ | refine ww1 ?_ | (refine wK ?_; clear hK) | (simp only [wHb, reduceCtorEq] at hb <;> try (exfalso; omega)) | refine Qcf (fun hb => ?_) fun hb => ?_ | refine Qiz [0, 1, 2, 3, 4, 5, 6] (hc) ?_ | refine Qce ?_ | ((fail_if_success refine wwN ?_); refine ww4 ?_) | refine Qcc (fun hb => ?_) fun hb => ?_ | exact trivial
  all_goals refine wRo [] [_, _, _, _, _, _, _]
theorem Xds (s : StoreD) (t t2 : ThreadD) (hst : ¬ (0 : Int) < t.stack.length) (hck : (t.check != -1) = false) (hpc : (t.pc == (t.prog.length : Int)) = true) (h2 : t2 = {t with state := 1}) : SatO Tryz.prog 69 [.bp 0 0, .bp 4 0] [.box (thB t (.rf 1 t.prog.length) (.rf 2 t.opens.length) (.rf 3 t.stack.length)), .root 146 (Qaw t.prog), .root 91 (Qav t.opens), .root 160 (Qaq t.stack), .box [.rf 5 s.heads.length, .rf 6 s.descs.length], .root 151 (Qat s.heads), .root 89 (Qar 91 s.descs)] (.rf 7 1) [.box (thB t2 (.rf 1 t.prog.length) (.rf 2 t.opens.length) (.rf 3 t.stack.length)), .root 146 (Qaw t.prog), .root 91 (Qav t.opens), .root 160 (Qaq t.stack), .box [.rf 5 s.heads.length, .rf 6 s.descs.length], .root 151 (Qat s.heads), .root 89 (Qar 91 s.descs), .root 86 (Qa0 [⟨6, t.id, 0, 0⟩])] := by
  have hlv : (1 : Nat) ≤ 1 := by omega
  have tkv : (Qa0 [⟨6, t.id, 0, 0⟩]).take 1 = Qa0 [⟨6, t.id, 0, 0⟩] := rfl
  have hle2 : True := trivial
  have hle : True := trivial
  have tke : True := trivial
  have tkf : True := trivial
  subst h2
  simp only [thB] at *
  refine wEo Tryz.func69 [.tmp 4] 135 7 (by simp [Qbc, Qa6, Qbg, Qcr, Qda]) fun E hE => ?_
  have F := wwA @Qao (wwA @Qam (wwA @Qaa (wwA @Qac (wwA @Qag (wwA @Qah (wwA @Qau (wwA @Qai (wwA @Qap (wwA @Qas (wwA @Qan (wwA @Qal (wwA @Qay (wwA @Nat.le_refl (wwA @Qad (wwA @Qaf (wwA @Qab (wwA @Qae (wwA @Qaj (wwA @Qak (wwA hle (wwA hlv (wwA tkv (wwA tke (wwA tkf (wwA hst (wwA hck (wwA hpc hle2)))))))))))))))))))))))))))
  repeat' first | refine wSq fun _ hK => ?_ | refine ww1 ?_ | (refine wK ?_; clear hK) | (simp only [wHb, reduceCtorEq] at hb <;> try (exfalso; omega)) | refine Qcf (fun hb => ?_) fun hb => ?_ | refine Qgs (c := by first | exact Qli _) (k := ?_) | refine Qce ?_ | ((fail_if_success refine wwN ?_); refine ww4 ?_) | refine Qcc (fun hb => ?_) fun hb => ?_ | exact trivial
  all_goals refine wRo [] [_, _, _, _, _, _, _]
theorem Qo9 (s : StoreD) (t t2 : ThreadD) (op a b : Int) (o : Nat) (ev : List EventD) (nv : Nat) (hnv : nv = ev.length) (hw : (op = 1 ∧ b = (o : Int)) ∨ (op = 2 ∧ a = (o : Int))) (hst : ¬ (0 : Int) < t.stack.length) (hck : (t.check != -1) = false) (hpc : (t.pc == (t.prog.length : Int)) = false) (p : Nat) (hp : t.pc = p) (hx : t.prog[p]? = some ⟨op, a, b⟩) (hlo : t.opens.length ≤ 1048576) (hpe : Qdl t.opens o < 0) (hc : SatO Tryz.prog 138 [.bp 0 0, .bp 4 0, .int .i64 o] [.box (thB t (.rf 1 t.prog.length) (.rf 2 t.opens.length) (.rf 3 t.stack.length)), .root 146 (Qaw t.prog), .root 91 (Qav t.opens), .root 160 (Qaq t.stack), .box [.rf 5 s.heads.length, .rf 6 s.descs.length], .root 151 (Qat s.heads), .root 89 (Qar 91 s.descs)] (.rf 7 nv) [.box (thB t2 (.rf 1 t.prog.length) (.rf 2 t.opens.length) (.rf 3 t.stack.length)), .root 146 (Qaw t.prog), .root 91 (Qav t.opens), .root 160 (Qaq t.stack), .box [.rf 5 s.heads.length, .rf 6 s.descs.length], .root 151 (Qat s.heads), .root 89 (Qar 91 s.descs), .root 86 (Qa0 ev)]) : SatO Tryz.prog 69 [.bp 0 0, .bp 4 0] [.box (thB t (.rf 1 t.prog.length) (.rf 2 t.opens.length) (.rf 3 t.stack.length)), .root 146 (Qaw t.prog), .root 91 (Qav t.opens), .root 160 (Qaq t.stack), .box [.rf 5 s.heads.length, .rf 6 s.descs.length], .root 151 (Qat s.heads), .root 89 (Qar 91 s.descs)] (.rf 7 nv) [.box (thB t2 (.rf 1 t.prog.length) (.rf 2 t.opens.length) (.rf 3 t.stack.length)), .root 146 (Qaw t.prog), .root 91 (Qav t.opens), .root 160 (Qaq t.stack), .box [.rf 5 s.heads.length, .rf 6 s.descs.length], .root 151 (Qat s.heads), .root 89 (Qar 91 s.descs), .root 86 (Qa0 ev)] := by
  have hlv : nv ≤ ev.length := by omega
  have tkv : (Qa0 ev).take nv = Qa0 ev := by rw [hnv]; exact Qal ev
  have hle2 : True := trivial
  have hle : True := trivial
  have tke : True := trivial
  have tkf : True := trivial
  have hrx : (Qaw t.prog)[p]? = some [.int .i64 op, .int .i64 a, .int .i64 b] := Qb2 hx
  have hpl : p < t.prog.length := (List.getElem?_eq_some_iff.1 hx).1
  have hpi : (p : Int) < (t.prog.length : Int) := by omega
  have hp0 : (0 : Int) ≤ (p : Int) := by omega
  rw [hp] at hpc
  obtain ⟨ti, tp, tpc, r0, r1, r2, r3, top, tck, tst, tmn, tsa, tco, tfa⟩ := t
  simp only at hp hx hrx hpl hpi hpc hst hck
  subst hp
  simp only at hpe hlo hc
  rcases hw with ⟨rfl, rfl⟩ | ⟨rfl, rfl⟩
  all_goals
    simp only [thB] at *
    refine wEo Tryz.func69 [.tmp 4] 135 7 (by simp [Qbc, Qa6, Qbg, Qcr, Qda]) fun E hE => ?_
    have F := wwA @Qao (wwA @Qam (wwA @Qaa (wwA @Qac (wwA @Qag (wwA @Qah (wwA @Qau (wwA @Qai (wwA @Qap (wwA @Qas (wwA @Qan (wwA @Qal (wwA @Qay (wwA @Nat.le_refl (wwA @Qad (wwA @Qaf (wwA @Qab (wwA @Qae (wwA @Qaj (wwA @Qak (wwA hle (wwA hlv (wwA tkv (wwA tke (wwA tkf (wwA hst (wwA hck (wwA hpc (wwA hrx (wwA hpl (wwA hpi (wwA hp0 hpe)))))))))))))))))))))))))))))))
    repeat' first | refine wSq fun _ hK => ?_ | refine ww1 ?_ | (refine wK ?_; clear hK) | (simp only [wHb, reduceCtorEq] at hb <;> try (exfalso; omega)) | refine Qcf (fun hb => ?_) fun hb => ?_ | refine Qgs (c := by first | exact Qdt _ _ (by assumption)) (k := ?_) | refine Qiz [0, 1, 2, 3, 4, 5, 6] (hc) ?_ | refine Qce ?_ | ((fail_if_success refine wwN ?_); refine ww4 ?_) | refine Qcc (fun hb => ?_) fun hb => ?_ | exact trivial
    all_goals refine wRo [] [_, _, _, _, _, _, _]
theorem Qzh (s : StoreD) (t t2 : ThreadD) (op a b : Int) (o : Nat) (fs : List FrameD) (ns : Nat) (hns : ns = fs.length) (ev : List EventD) (nv : Nat) (hnv : nv = ev.length) (hw : (op = 1 ∧ b = (o : Int)) ∨ (op = 2 ∧ a = (o : Int))) (hst : ¬ (0 : Int) < t.stack.length) (hck : (t.check != -1) = false) (hpc : (t.pc == (t.prog.length : Int)) = false) (p : Nat) (hp : t.pc = p) (hx : t.prog[p]? = some ⟨op, a, b⟩) (hlo : t.opens.length ≤ 1048576) (hpe : Qdl t.opens o < 0) (hc : SatO Tryz.prog 138 [.bp 0 0, .bp 4 0, .int .i64 o] [.box (thB t (.rf 1 t.prog.length) (.rf 2 t.opens.length) (.rf 3 t.stack.length)), .root 146 (Qaw t.prog), .root 91 (Qav t.opens), .root 160 (Qaq t.stack), .box [.rf 5 s.heads.length, .rf 6 s.descs.length], .root 151 (Qat s.heads), .root 89 (Qar 91 s.descs)] (.rf 8 nv) [.box (thB t2 (.rf 1 t.prog.length) (.rf 2 t.opens.length) (.rf 7 ns)), .root 146 (Qaw t.prog), .root 91 (Qav t.opens), .dead, .box [.rf 5 s.heads.length, .rf 6 s.descs.length], .root 151 (Qat s.heads), .root 89 (Qar 91 s.descs), .root 160 (Qaq fs), .root 86 (Qa0 ev)]) : SatO Tryz.prog 69 [.bp 0 0, .bp 4 0] [.box (thB t (.rf 1 t.prog.length) (.rf 2 t.opens.length) (.rf 3 t.stack.length)), .root 146 (Qaw t.prog), .root 91 (Qav t.opens), .root 160 (Qaq t.stack), .box [.rf 5 s.heads.length, .rf 6 s.descs.length], .root 151 (Qat s.heads), .root 89 (Qar 91 s.descs)] (.rf 8 nv) [.box (thB t2 (.rf 1 t.prog.length) (.rf 2 t.opens.length) (.rf 7 ns)), .root 146 (Qaw t.prog), .root 91 (Qav t.opens), .dead, .box [.rf 5 s.heads.length, .rf 6 s.descs.length], .root 151 (Qat s.heads), .root 89 (Qar 91 s.descs), .root 160 (Qaq fs), .root 86 (Qa0 ev)] := by
  have hlv : nv ≤ ev.length := by omega
  have tkv : (Qa0 ev).take nv = Qa0 ev := by rw [hnv]; exact Qal ev
  have hle2 : True := trivial
  have hle : ns ≤ fs.length := by omega
  have tkf : (Qaq fs).take ns = Qaq fs := by rw [hns]; exact Qap fs
  have tke : True := trivial
  have hrx : (Qaw t.prog)[p]? = some [.int .i64 op, .int .i64 a, .int .i64 b] := Qb2 hx
  have hpl : p < t.prog.length := (List.getElem?_eq_some_iff.1 hx).1
  have hpi : (p : Int) < (t.prog.length : Int) := by omega
  have hp0 : (0 : Int) ≤ (p : Int) := by omega
  rw [hp] at hpc
  obtain ⟨ti, tp, tpc, r0, r1, r2, r3, top, tck, tst, tmn, tsa, tco, tfa⟩ := t
  simp only at hp hx hrx hpl hpi hpc hst hck
  subst hp
  simp only at hpe hlo hc
  rcases hw with ⟨rfl, rfl⟩ | ⟨rfl, rfl⟩
  all_goals
    simp only [thB] at *
    refine wEo Tryz.func69 [.tmp 4] 135 7 (by simp [Qbc, Qa6, Qbg, Qcr, Qda]) fun E hE => ?_
    have F := wwA @Qao (wwA @Qam (wwA @Qaa (wwA @Qac (wwA @Qag (wwA @Qah (wwA @Qau (wwA @Qai (wwA @Qap (wwA @Qas (wwA @Qan (wwA @Qal (wwA @Qay (wwA @Nat.le_refl (wwA @Qad (wwA @Qaf (wwA @Qab (wwA @Qae (wwA @Qaj (wwA @Qak (wwA hle (wwA hlv (wwA tkv (wwA tke (wwA tkf (wwA hst (wwA hck (wwA hpc (wwA hrx (wwA hpl (wwA hpi (wwA hp0 hpe)))))))))))))))))))))))))))))))
    repeat' first | refine wSq fun _ hK => ?_ | refine ww1 ?_ | (refine wK ?_; clear hK) | (simp only [wHb, reduceCtorEq] at hb <;> try (exfalso; omega)) | refine Qcf (fun hb => ?_) fun hb => ?_ | refine Qgs (c := by first | exact Qdt _ _ (by assumption)) (k := ?_) | refine Qiz [0, 1, 2, 3, 4, 5, 6] (hc) ?_ | refine Qce ?_ | ((fail_if_success refine wwN ?_); refine ww4 ?_) | refine Qcc (fun hb => ?_) fun hb => ?_ | exact trivial
    all_goals refine wRo [] [_, _, _, _, _, _, _]
theorem Qo4 (s : StoreD) (t t2 : ThreadD) (op a b : Int) (o : Nat) (es : List EntS) (no : Nat) (hno : no = es.length) (ev : List EventD) (nv : Nat) (hnv : nv = ev.length) (hw : (op = 1 ∧ b = (o : Int)) ∨ (op = 2 ∧ a = (o : Int))) (hst : ¬ (0 : Int) < t.stack.length) (hck : (t.check != -1) = false) (hpc : (t.pc == (t.prog.length : Int)) = false) (p : Nat) (hp : t.pc = p) (hx : t.prog[p]? = some ⟨op, a, b⟩) (hlo : t.opens.length ≤ 1048576) (hpe : Qdl t.opens o < 0) (hc : SatO Tryz.prog 138 [.bp 0 0, .bp 4 0, .int .i64 o] [.box (thB t (.rf 1 t.prog.length) (.rf 2 t.opens.length) (.rf 3 t.stack.length)), .root 146 (Qaw t.prog), .root 91 (Qav t.opens), .root 160 (Qaq t.stack), .box [.rf 5 s.heads.length, .rf 6 s.descs.length], .root 151 (Qat s.heads), .root 89 (Qar 91 s.descs)] (.rf 8 nv) [.box (thB t2 (.rf 1 t.prog.length) (.rf 7 no) (.rf 3 t.stack.length)), .root 146 (Qaw t.prog), .root 91 (Qav t.opens), .root 160 (Qaq t.stack), .box [.rf 5 s.heads.length, .rf 6 s.descs.length], .root 151 (Qat s.heads), .root 89 (Qar 91 s.descs), .root 91 (Qav es), .root 86 (Qa0 ev)]) : SatO Tryz.prog 69 [.bp 0 0, .bp 4 0] [.box (thB t (.rf 1 t.prog.length) (.rf 2 t.opens.length) (.rf 3 t.stack.length)), .root 146 (Qaw t.prog), .root 91 (Qav t.opens), .root 160 (Qaq t.stack), .box [.rf 5 s.heads.length, .rf 6 s.descs.length], .root 151 (Qat s.heads), .root 89 (Qar 91 s.descs)] (.rf 8 nv) [.box (thB t2 (.rf 1 t.prog.length) (.rf 7 no) (.rf 3 t.stack.length)), .root 146 (Qaw t.prog), .root 91 (Qav t.opens), .root 160 (Qaq t.stack), .box [.rf 5 s.heads.length, .rf 6 s.descs.length], .root 151 (Qat s.heads), .root 89 (Qar 91 s.descs), .root 91 (Qav es), .root 86 (Qa0 ev)] := by
  have hlv : nv ≤ ev.length := by omega
  have tkv : (Qa0 ev).take nv = Qa0 ev := by rw [hnv]; exact Qal ev
  have hle2 : True := trivial
  have hle : no ≤ es.length := by omega
  have tke : (Qav es).take no = Qav es := by rw [hno]; exact Qai es
  have tkf : True := trivial
  have hrx : (Qaw t.prog)[p]? = some [.int .i64 op, .int .i64 a, .int .i64 b] := Qb2 hx
  have hpl : p < t.prog.length := (List.getElem?_eq_some_iff.1 hx).1
  have hpi : (p : Int) < (t.prog.length : Int) := by omega
  have hp0 : (0 : Int) ≤ (p : Int) := by omega
  rw [hp] at hpc
  obtain ⟨ti, tp, tpc, r0, r1, r2, r3, top, tck, tst, tmn, tsa, tco, tfa⟩ := t
  simp only at hp hx hrx hpl hpi hpc hst hck
  subst hp
  simp only at hpe hlo hc
  rcases hw with ⟨rfl, rfl⟩ | ⟨rfl, rfl⟩
  all_goals
    simp only [thB] at *
    refine wEo Tryz.func69 [.tmp 4] 135 7 (by simp [Qbc, Qa6, Qbg, Qcr, Qda]) fun E hE => ?_
    have F := wwA @Qao (wwA @Qam (wwA @Qaa (wwA @Qac (wwA @Qag (wwA @Qah (wwA @Qau (wwA @Qai (wwA @Qap (wwA @Qas (wwA @Qan (wwA @Qal (wwA @Qay (wwA @Nat.le_refl (wwA @Qad (wwA @Qaf (wwA @Qab (wwA @Qae (wwA @Qaj (wwA @Qak (wwA hle (wwA hlv (wwA tkv (wwA tke (wwA tkf (wwA hst (wwA hck (wwA hpc (wwA hrx (wwA hpl (wwA hpi (wwA hp0 hpe)))))))))))))))))))))))))))))))
    repeat' first | refine wSq fun _ hK => ?_ | refine ww1 ?_ | (refine wK ?_; clear hK) | (simp only [wHb, reduceCtorEq] at hb <;> try (exfalso; omega)) | refine Qcf (fun hb => ?_) fun hb => ?_ | refine Qgs (c := by first | exact Qdt _ _ (by assumption)) (k := ?_) | refine Qiz [0, 1, 2, 3, 4, 5, 6] (hc) ?_ | refine Qce ?_ | ((fail_if_success refine wwN ?_); refine ww4 ?_) | refine Qcc (fun hb => ?_) fun hb => ?_ | exact trivial
    all_goals refine wRo [] [_, _, _, _, _, _, _]
theorem Qkw (s : StoreD) (t t2 : ThreadD) (a b : Int) (hst : ¬ (0 : Int) < t.stack.length) (hck : (t.check != -1) = false) (hpc : (t.pc == (t.prog.length : Int)) = false) (p : Nat) (hp : t.pc = p) (hx : t.prog[p]? = some ⟨6, a, b⟩) (hc : SatO Tryz.prog 135 [.bp 0 0, .bp 4 0] [.box (thB t (.rf 1 t.prog.length) (.rf 2 t.opens.length) (.rf 3 t.stack.length)), .root 146 (Qaw t.prog), .root 91 (Qav t.opens), .root 160 (Qaq t.stack), .box [.rf 5 s.heads.length, .rf 6 s.descs.length], .root 151 (Qat s.heads), .root 89 (Qar 91 s.descs)] (.tup []) [.box (thB t2 (.rf 1 t.prog.length) (.rf 2 t.opens.length) (.rf 3 t.stack.length)), .root 146 (Qaw t.prog), .root 91 (Qav t.opens), .root 160 (Qaq t.stack), .box [.rf 5 s.heads.length, .rf 6 s.descs.length], .root 151 (Qat s.heads), .root 89 (Qar 91 s.descs)]) : SatO Tryz.prog 69 [.bp 0 0, .bp 4 0] [.box (thB t (.rf 1 t.prog.length) (.rf 2 t.opens.length) (.rf 3 t.stack.length)), .root 146 (Qaw t.prog), .root 91 (Qav t.opens), .root 160 (Qaq t.stack), .box [.rf 5 s.heads.length, .rf 6 s.descs.length], .root 151 (Qat s.heads), .root 89 (Qar 91 s.descs)] (.rf 7 0) [.box (thB t2 (.rf 1 t.prog.length) (.rf 2 t.opens.length) (.rf 3 t.stack.length)), .root 146 (Qaw t.prog), .root 91 (Qav t.opens), .root 160 (Qaq t.stack), .box [.rf 5 s.heads.length, .rf 6 s.descs.length], .root 151 (Qat s.heads), .root 89 (Qar 91 s.descs), .root 86 (Qa0 [])] := by
  have hlv : 0 ≤ ([] : List EventD).length := by simp
  have tkv : True := trivial
  have hle2 : True := trivial
  have hle : True := trivial
  have tke : True := trivial
  have tkf : True := trivial
  have hrx : (Qaw t.prog)[p]? = some [.int .i64 6, .int .i64 a, .int .i64 b] := Qb2 hx
  have hpl : p < t.prog.length := (List.getElem?_eq_some_iff.1 hx).1
  have hpi : (p : Int) < (t.prog.length : Int) := by omega
  have hp0 : (0 : Int) ≤ (p : Int) := by omega
  rw [hp] at hpc
  obtain ⟨ti, tp, tpc, r0, r1, r2, r3, top, tck, tst, tmn, tsa, tco, tfa⟩ := t
  simp only at hp hx hrx hpl hpi hpc hst hck
  subst hp
  simp only at hc
  simp only [thB] at *
  refine wEo Tryz.func69 [.tmp 4] 135 7 (by simp [Qbc, Qa6, Qbg, Qcr, Qda]) fun E hE => ?_
  have F := wwA @Qao (wwA @Qam (wwA @Qaa (wwA @Qac (wwA @Qag (wwA @Qah (wwA @Qau (wwA @Qai (wwA @Qap (wwA @Qas (wwA @Qan (wwA @Qal (wwA @Qay (wwA @Nat.le_refl (wwA @Qad (wwA @Qaf (wwA @Qab (wwA @Qae (wwA @Qaj (wwA @Qak (wwA hle (wwA hlv (wwA tkv (wwA tke (wwA tkf (wwA hst (wwA hck (wwA hpc (wwA hrx (wwA hpl (wwA hpi (wwA hp0 hle2)))))))))))))))))))))))))))))))
  repeat' first | refine wSq fun _ hK => ?_ | refine ww1 ?_ | (refine wK ?_; clear hK) | (simp only [wHb, reduceCtorEq] at hb <;> try (exfalso; omega)) | refine Qcf (fun hb => ?_) fun hb => ?_ | refine Qiz [0, 1, 2, 3, 4, 5, 6] (hc) ?_ | refine Qce ?_ | ((fail_if_success refine wwN ?_); refine ww4 ?_) | refine Qcc (fun hb => ?_) fun hb => ?_ | exact trivial
  all_goals refine wRo [] [_, _, _, _, _, _, _]
theorem Qtb (s : StoreD) (t t2 : ThreadD) (a b : Int) (r : StoreD) (fs : List FrameD) (ns : Nat) (hns : ns = fs.length) (hst : ¬ (0 : Int) < t.stack.length) (hck : (t.check != -1) = false) (hpc : (t.pc == (t.prog.length : Int)) = false) (p : Nat) (hp : t.pc = p) (hx : t.prog[p]? = some ⟨6, a, b⟩) (hc : SatO Tryz.prog 135 [.bp 0 0, .bp 4 0] [.box (thB t (.rf 1 t.prog.length) (.rf 2 t.opens.length) (.rf 3 t.stack.length)), .root 146 (Qaw t.prog), .root 91 (Qav t.opens), .root 160 (Qaq t.stack), .box [.rf 5 s.heads.length, .rf 6 s.descs.length], .root 151 (Qat s.heads), .root 89 (Qar 91 s.descs)] (.tup []) [.box (thB t2 (.rf 1 t.prog.length) (.rf 2 t.opens.length) (.rf 7 ns)), .root 146 (Qaw t.prog), .root 91 (Qav t.opens), .dead, .box [.rf 8 r.heads.length, .rf 9 r.descs.length], .root 151 (Qat s.heads), .root 89 (Qar 91 s.descs), .root 160 (Qaq fs), .root 151 (Qat r.heads), .root 89 (Qar 91 r.descs)]) : SatO Tryz.prog 69 [.bp 0 0, .bp 4 0] [.box (thB t (.rf 1 t.prog.length) (.rf 2 t.opens.length) (.rf 3 t.stack.length)), .root 146 (Qaw t.prog), .root 91 (Qav t.opens), .root 160 (Qaq t.stack), .box [.rf 5 s.heads.length, .rf 6 s.descs.length], .root 151 (Qat s.heads), .root 89 (Qar 91 s.descs)] (.rf 10 0) [.box (thB t2 (.rf 1 t.prog.length) (.rf 2 t.opens.length) (.rf 7 ns)), .root 146 (Qaw t.prog), .root 91 (Qav t.opens), .dead, .box [.rf 8 r.heads.length, .rf 9 r.descs.length], .root 151 (Qat s.heads), .root 89 (Qar 91 s.descs), .root 160 (Qaq fs), .root 151 (Qat r.heads), .root 89 (Qar 91 r.descs), .root 86 (Qa0 [])] := by
  have hlv : 0 ≤ ([] : List EventD).length := by simp
  have tkv : True := trivial
  have hle2 : True := trivial
  have hle : ns ≤ fs.length := by omega
  have tkf : (Qaq fs).take ns = Qaq fs := by rw [hns]; exact Qap fs
  have tke : True := trivial
  have hrx : (Qaw t.prog)[p]? = some [.int .i64 6, .int .i64 a, .int .i64 b] := Qb2 hx
  have hpl : p < t.prog.length := (List.getElem?_eq_some_iff.1 hx).1
  have hpi : (p : Int) < (t.prog.length : Int) := by omega
  have hp0 : (0 : Int) ≤ (p : Int) := by omega
  rw [hp] at hpc
  obtain ⟨ti, tp, tpc, r0, r1, r2, r3, top, tck, tst, tmn, tsa, tco, tfa⟩ := t
  simp only at hp hx hrx hpl hpi hpc hst hck
  subst hp
  simp only at hc
  simp only [thB] at *
  refine wEo Tryz.func69 [.tmp 4] 135 7 (by simp [Qbc, Qa6, Qbg, Qcr, Qda]) fun E hE => ?_
  have F := wwA @Qao (wwA @Qam (wwA @Qaa (wwA @Qac (wwA @Qag (wwA @Qah (wwA @Qau (wwA @Qai (wwA @Qap (wwA @Qas (wwA @Qan (wwA @Qal (wwA @Qay (wwA @Nat.le_refl (wwA @Qad (wwA @Qaf (wwA @Qab (wwA @Qae (wwA @Qaj (wwA @Qak (wwA hle (wwA hlv (wwA tkv (wwA tke (wwA tkf (wwA hst (wwA hck (wwA hpc (wwA hrx (wwA hpl (wwA hpi (wwA hp0 hle2)))))))))))))))))))))))))))))))
  repeat' first | refine wSq fun _ hK => ?_ | refine ww1 ?_ | (refine wK ?_; clear hK) | (simp only [wHb, reduceCtorEq] at hb <;> try (exfalso; omega)) | refine Qcf (fun hb => ?_) fun hb => ?_ | refine Qiz [0, 1, 2, 3, 4, 5, 6] (hc) ?_ | refine Qce ?_ | ((fail_if_success refine wwN ?_); refine ww4 ?_) | refine Qcc (fun hb => ?_) fun hb => ?_ | exact trivial
  all_goals refine wRo [] [_, _, _, _, _, _, _]
theorem Qye (s : StoreD) (t t2 : ThreadD) (a b : Int) (ev : List EventD) (nv : Nat) (hnv : nv = ev.length) (hst : ¬ (0 : Int) < t.stack.length) (hck : (t.check != -1) = false) (hpc : (t.pc == (t.prog.length : Int)) = false) (p : Nat) (hp : t.pc = p) (hx : t.prog[p]? = some ⟨3, a, b⟩) (hc : SatO Tryz.prog 136 [.bp 0 0, .agg [.int .i64 3, .int .i64 a, .int .i64 b]] [.box (thB t (.rf 1 t.prog.length) (.rf 2 t.opens.length) (.rf 3 t.stack.length)), .root 146 (Qaw t.prog), .root 91 (Qav t.opens), .root 160 (Qaq t.stack)] (.rf 4 nv) [.box (thB t2 (.rf 1 t.prog.length) (.rf 2 t.opens.length) (.rf 3 t.stack.length)), .root 146 (Qaw t.prog), .root 91 (Qav t.opens), .root 160 (Qaq t.stack), .root 86 (Qa0 ev)]) : SatO Tryz.prog 69 [.bp 0 0, .bp 4 0] [.box (thB t (.rf 1 t.prog.length) (.rf 2 t.opens.length) (.rf 3 t.stack.length)), .root 146 (Qaw t.prog), .root 91 (Qav t.opens), .root 160 (Qaq t.stack), .box [.rf 5 s.heads.length, .rf 6 s.descs.length], .root 151 (Qat s.heads), .root 89 (Qar 91 s.descs)] (.rf 7 nv) [.box (thB t2 (.rf 1 t.prog.length) (.rf 2 t.opens.length) (.rf 3 t.stack.length)), .root 146 (Qaw t.prog), .root 91 (Qav t.opens), .root 160 (Qaq t.stack), .box [.rf 5 s.heads.length, .rf 6 s.descs.length], .root 151 (Qat s.heads), .root 89 (Qar 91 s.descs), .root 86 (Qa0 ev)] := by
  have hlv : nv ≤ ev.length := by omega
  have tkv : (Qa0 ev).take nv = Qa0 ev := by rw [hnv]; exact Qal ev
  have hle2 : True := trivial
  have hle : True := trivial
  have tke : True := trivial
  have tkf : True := trivial
  have hrx : (Qaw t.prog)[p]? = some [.int .i64 3, .int .i64 a, .int .i64 b] := Qb2 hx
  have hpl : p < t.prog.length := (List.getElem?_eq_some_iff.1 hx).1
  have hpi : (p : Int) < (t.prog.length : Int) := by omega
  have hp0 : (0 : Int) ≤ (p : Int) := by omega
  rw [hp] at hpc
  obtain ⟨ti, tp, tpc, r0, r1, r2, r3, top, tck, tst, tmn, tsa, tco, tfa⟩ := t
  simp only at hp hx hrx hpl hpi hpc hst hck
  subst hp
  simp only at hc
  simp only [thB] at *
  refine wEo Tryz.func69 [.tmp 4] 135 7 (by simp [Qbc, Qa6, Qbg, Qcr, Qda]) fun E hE => ?_
  have F := wwA @Qao (wwA @Qam (wwA @Qaa (wwA @Qac (wwA @Qag (wwA @Qah (wwA @Qau (wwA @Qai (wwA @Qap (wwA @Qas (wwA @Qan (wwA @Qal (wwA @Qay (wwA @Nat.le_refl (wwA @Qad (wwA @Qaf (wwA @Qab (wwA @Qae (wwA @Qaj (wwA @Qak (wwA hle (wwA hlv (wwA tkv (wwA tke (wwA tkf (wwA hst (wwA hck (wwA hpc (wwA hrx (wwA hpl (wwA hpi (wwA hp0 hle2)))))))))))))))))))))))))))))))
  repeat' first | refine wSq fun _ hK => ?_ | refine ww1 ?_ | (refine wK ?_; clear hK) | (simp only [wHb, reduceCtorEq] at hb <;> try (exfalso; omega)) | refine Qcf (fun hb => ?_) fun hb => ?_ | refine Qiz [0, 1, 2, 3] (hc) ?_ | refine Qce ?_ | ((fail_if_success refine wwN ?_); refine ww4 ?_) | refine Qcc (fun hb => ?_) fun hb => ?_ | exact trivial
  all_goals refine wRo [] [_, _, _, _, _, _, _]
theorem Qw5 (s : StoreD) (t t2 : ThreadD) (a b : Int) (ev : List EventD) (nv : Nat) (hnv : nv = ev.length) (hst : ¬ (0 : Int) < t.stack.length) (hck : (t.check != -1) = false) (hpc : (t.pc == (t.prog.length : Int)) = false) (p : Nat) (hp : t.pc = p) (hx : t.prog[p]? = some ⟨4, a, b⟩) (hc : SatO Tryz.prog 136 [.bp 0 0, .agg [.int .i64 4, .int .i64 a, .int .i64 b]] [.box (thB t (.rf 1 t.prog.length) (.rf 2 t.opens.length) (.rf 3 t.stack.length)), .root 146 (Qaw t.prog), .root 91 (Qav t.opens), .root 160 (Qaq t.stack)] (.rf 4 nv) [.box (thB t2 (.rf 1 t.prog.length) (.rf 2 t.opens.length) (.rf 3 t.stack.length)), .root 146 (Qaw t.prog), .root 91 (Qav t.opens), .root 160 (Qaq t.stack), .root 86 (Qa0 ev)]) : SatO Tryz.prog 69 [.bp 0 0, .bp 4 0] [.box (thB t (.rf 1 t.prog.length) (.rf 2 t.opens.length) (.rf 3 t.stack.length)), .root 146 (Qaw t.prog), .root 91 (Qav t.opens), .root 160 (Qaq t.stack), .box [.rf 5 s.heads.length, .rf 6 s.descs.length], .root 151 (Qat s.heads), .root 89 (Qar 91 s.descs)] (.rf 7 nv) [.box (thB t2 (.rf 1 t.prog.length) (.rf 2 t.opens.length) (.rf 3 t.stack.length)), .root 146 (Qaw t.prog), .root 91 (Qav t.opens), .root 160 (Qaq t.stack), .box [.rf 5 s.heads.length, .rf 6 s.descs.length], .root 151 (Qat s.heads), .root 89 (Qar 91 s.descs), .root 86 (Qa0 ev)] := by
  have hlv : nv ≤ ev.length := by omega
  have tkv : (Qa0 ev).take nv = Qa0 ev := by rw [hnv]; exact Qal ev
  have hle2 : True := trivial
  have hle : True := trivial
  have tke : True := trivial
  have tkf : True := trivial
  have hrx : (Qaw t.prog)[p]? = some [.int .i64 4, .int .i64 a, .int .i64 b] := Qb2 hx
  have hpl : p < t.prog.length := (List.getElem?_eq_some_iff.1 hx).1
  have hpi : (p : Int) < (t.prog.length : Int) := by omega
  have hp0 : (0 : Int) ≤ (p : Int) := by omega
  rw [hp] at hpc
  obtain ⟨ti, tp, tpc, r0, r1, r2, r3, top, tck, tst, tmn, tsa, tco, tfa⟩ := t
  simp only at hp hx hrx hpl hpi hpc hst hck
  subst hp
  simp only at hc
  simp only [thB] at *
  refine wEo Tryz.func69 [.tmp 4] 135 7 (by simp [Qbc, Qa6, Qbg, Qcr, Qda]) fun E hE => ?_
  have F := wwA @Qao (wwA @Qam (wwA @Qaa (wwA @Qac (wwA @Qag (wwA @Qah (wwA @Qau (wwA @Qai (wwA @Qap (wwA @Qas (wwA @Qan (wwA @Qal (wwA @Qay (wwA @Nat.le_refl (wwA @Qad (wwA @Qaf (wwA @Qab (wwA @Qae (wwA @Qaj (wwA @Qak (wwA hle (wwA hlv (wwA tkv (wwA tke (wwA tkf (wwA hst (wwA hck (wwA hpc (wwA hrx (wwA hpl (wwA hpi (wwA hp0 hle2)))))))))))))))))))))))))))))))
  repeat' first | refine wSq fun _ hK => ?_ | refine ww1 ?_ | (refine wK ?_; clear hK) | (simp only [wHb, reduceCtorEq] at hb <;> try (exfalso; omega)) | refine Qcf (fun hb => ?_) fun hb => ?_ | refine Qiz [0, 1, 2, 3] (hc) ?_ | refine Qce ?_ | ((fail_if_success refine wwN ?_); refine ww4 ?_) | refine Qcc (fun hb => ?_) fun hb => ?_ | exact trivial
  all_goals refine wRo [] [_, _, _, _, _, _, _]
theorem Qzk (s : StoreD) (t t2 : ThreadD) (a b : Int) (ev : List EventD) (nv : Nat) (hnv : nv = ev.length) (hst : ¬ (0 : Int) < t.stack.length) (hck : (t.check != -1) = false) (hpc : (t.pc == (t.prog.length : Int)) = false) (p : Nat) (hp : t.pc = p) (hx : t.prog[p]? = some ⟨5, a, b⟩) (hc : SatO Tryz.prog 136 [.bp 0 0, .agg [.int .i64 5, .int .i64 a, .int .i64 b]] [.box (thB t (.rf 1 t.prog.length) (.rf 2 t.opens.length) (.rf 3 t.stack.length)), .root 146 (Qaw t.prog), .root 91 (Qav t.opens), .root 160 (Qaq t.stack)] (.rf 4 nv) [.box (thB t2 (.rf 1 t.prog.length) (.rf 2 t.opens.length) (.rf 3 t.stack.length)), .root 146 (Qaw t.prog), .root 91 (Qav t.opens), .root 160 (Qaq t.stack), .root 86 (Qa0 ev)]) : SatO Tryz.prog 69 [.bp 0 0, .bp 4 0] [.box (thB t (.rf 1 t.prog.length) (.rf 2 t.opens.length) (.rf 3 t.stack.length)), .root 146 (Qaw t.prog), .root 91 (Qav t.opens), .root 160 (Qaq t.stack), .box [.rf 5 s.heads.length, .rf 6 s.descs.length], .root 151 (Qat s.heads), .root 89 (Qar 91 s.descs)] (.rf 7 nv) [.box (thB t2 (.rf 1 t.prog.length) (.rf 2 t.opens.length) (.rf 3 t.stack.length)), .root 146 (Qaw t.prog), .root 91 (Qav t.opens), .root 160 (Qaq t.stack), .box [.rf 5 s.heads.length, .rf 6 s.descs.length], .root 151 (Qat s.heads), .root 89 (Qar 91 s.descs), .root 86 (Qa0 ev)] := by
  have hlv : nv ≤ ev.length := by omega
  have tkv : (Qa0 ev).take nv = Qa0 ev := by rw [hnv]; exact Qal ev
  have hle2 : True := trivial
  have hle : True := trivial
  have tke : True := trivial
  have tkf : True := trivial
  have hrx : (Qaw t.prog)[p]? = some [.int .i64 5, .int .i64 a, .int .i64 b] := Qb2 hx
  have hpl : p < t.prog.length := (List.getElem?_eq_some_iff.1 hx).1
  have hpi : (p : Int) < (t.prog.length : Int) := by omega
  have hp0 : (0 : Int) ≤ (p : Int) := by omega
  rw [hp] at hpc
  obtain ⟨ti, tp, tpc, r0, r1, r2, r3, top, tck, tst, tmn, tsa, tco, tfa⟩ := t
  simp only at hp hx hrx hpl hpi hpc hst hck
  subst hp
  simp only at hc
  simp only [thB] at *
  refine wEo Tryz.func69 [.tmp 4] 135 7 (by simp [Qbc, Qa6, Qbg, Qcr, Qda]) fun E hE => ?_
  have F := wwA @Qao (wwA @Qam (wwA @Qaa (wwA @Qac (wwA @Qag (wwA @Qah (wwA @Qau (wwA @Qai (wwA @Qap (wwA @Qas (wwA @Qan (wwA @Qal (wwA @Qay (wwA @Nat.le_refl (wwA @Qad (wwA @Qaf (wwA @Qab (wwA @Qae (wwA @Qaj (wwA @Qak (wwA hle (wwA hlv (wwA tkv (wwA tke (wwA tkf (wwA hst (wwA hck (wwA hpc (wwA hrx (wwA hpl (wwA hpi (wwA hp0 hle2)))))))))))))))))))))))))))))))
  repeat' first | refine wSq fun _ hK => ?_ | refine ww1 ?_ | (refine wK ?_; clear hK) | (simp only [wHb, reduceCtorEq] at hb <;> try (exfalso; omega)) | refine Qcf (fun hb => ?_) fun hb => ?_ | refine Qiz [0, 1, 2, 3] (hc) ?_ | refine Qce ?_ | ((fail_if_success refine wwN ?_); refine ww4 ?_) | refine Qcc (fun hb => ?_) fun hb => ?_ | exact trivial
  all_goals refine wRo [] [_, _, _, _, _, _, _]
theorem Qyf (s : StoreD) (t t2 : ThreadD) (a b : Int) (ev : List EventD) (nv : Nat) (hnv : nv = ev.length) (hst : ¬ (0 : Int) < t.stack.length) (hck : (t.check != -1) = false) (hpc : (t.pc == (t.prog.length : Int)) = false) (p : Nat) (hp : t.pc = p) (hx : t.prog[p]? = some ⟨7, a, b⟩) (hc : SatO Tryz.prog 136 [.bp 0 0, .agg [.int .i64 7, .int .i64 a, .int .i64 b]] [.box (thB t (.rf 1 t.prog.length) (.rf 2 t.opens.length) (.rf 3 t.stack.length)), .root 146 (Qaw t.prog), .root 91 (Qav t.opens), .root 160 (Qaq t.stack)] (.rf 4 nv) [.box (thB t2 (.rf 1 t.prog.length) (.nl 91) (.rf 3 t.stack.length)), .root 146 (Qaw t.prog), .root 91 (Qav t.opens), .root 160 (Qaq t.stack), .root 86 (Qa0 ev)]) : SatO Tryz.prog 69 [.bp 0 0, .bp 4 0] [.box (thB t (.rf 1 t.prog.length) (.rf 2 t.opens.length) (.rf 3 t.stack.length)), .root 146 (Qaw t.prog), .root 91 (Qav t.opens), .root 160 (Qaq t.stack), .box [.rf 5 s.heads.length, .rf 6 s.descs.length], .root 151 (Qat s.heads), .root 89 (Qar 91 s.descs)] (.rf 7 nv) [.box (thB t2 (.rf 1 t.prog.length) (.nl 91) (.rf 3 t.stack.length)), .root 146 (Qaw t.prog), .root 91 (Qav t.opens), .root 160 (Qaq t.stack), .box [.rf 5 s.heads.length, .rf 6 s.descs.length], .root 151 (Qat s.heads), .root 89 (Qar 91 s.descs), .root 86 (Qa0 ev)] := by
  have hlv : nv ≤ ev.length := by omega
  have tkv : (Qa0 ev).take nv = Qa0 ev := by rw [hnv]; exact Qal ev
  have hle2 : True := trivial
  have hle : True := trivial
  have tke : True := trivial
  have tkf : True := trivial
  have hrx : (Qaw t.prog)[p]? = some [.int .i64 7, .int .i64 a, .int .i64 b] := Qb2 hx
  have hpl : p < t.prog.length := (List.getElem?_eq_some_iff.1 hx).1
  have hpi : (p : Int) < (t.prog.length : Int) := by omega
  have hp0 : (0 : Int) ≤ (p : Int) := by omega
  rw [hp] at hpc
  obtain ⟨ti, tp, tpc, r0, r1, r2, r3, top, tck, tst, tmn, tsa, tco, tfa⟩ := t
  simp only at hp hx hrx hpl hpi hpc hst hck
  subst hp
  simp only at hc
  simp only [thB] at *
  refine wEo Tryz.func69 [.tmp 4] 135 7 (by simp [Qbc, Qa6, Qbg, Qcr, Qda]) fun E hE => ?_
  have F := wwA @Qao (wwA @Qam (wwA @Qaa (wwA @Qac (wwA @Qag (wwA @Qah (wwA @Qau (wwA @Qai (wwA @Qap (wwA @Qas (wwA @Qan (wwA @Qal (wwA @Qay (wwA @Nat.le_refl (wwA @Qad (wwA @Qaf (wwA @Qab (wwA @Qae (wwA @Qaj (wwA @Qak (wwA hle (wwA hlv (wwA tkv (wwA tke (wwA tkf (wwA hst (wwA hck (wwA hpc (wwA hrx (wwA hpl (wwA hpi (wwA hp0 hle2)))))))))))))))))))))))))))))))
  repeat' first | refine wSq fun _ hK => ?_ | refine ww1 ?_ | (refine wK ?_; clear hK) | (simp only [wHb, reduceCtorEq] at hb <;> try (exfalso; omega)) | refine Qcf (fun hb => ?_) fun hb => ?_ | refine Qiz [0, 1, 2, 3] (hc) ?_ | refine Qce ?_ | ((fail_if_success refine wwN ?_); refine ww4 ?_) | refine Qcc (fun hb => ?_) fun hb => ?_ | exact trivial
  all_goals refine wRo [] [_, _, _, _, _, _, _]
theorem Qw0 (s : StoreD) (t t2 : ThreadD) (a b : Int) (ev : List EventD) (nv : Nat) (hnv : nv = ev.length) (hst : ¬ (0 : Int) < t.stack.length) (hck : (t.check != -1) = false) (hpc : (t.pc == (t.prog.length : Int)) = false) (p : Nat) (hp : t.pc = p) (hx : t.prog[p]? = some ⟨8, a, b⟩) (hc : SatO Tryz.prog 136 [.bp 0 0, .agg [.int .i64 8, .int .i64 a, .int .i64 b]] [.box (thB t (.rf 1 t.prog.length) (.rf 2 t.opens.length) (.rf 3 t.stack.length)), .root 146 (Qaw t.prog), .root 91 (Qav t.opens), .root 160 (Qaq t.stack)] (.rf 4 nv) [.box (thB t2 (.rf 1 t.prog.length) (.rf 2 t.opens.length) (.rf 3 t.stack.length)), .root 146 (Qaw t.prog), .root 91 (Qav t.opens), .root 160 (Qaq t.stack), .root 86 (Qa0 ev)]) : SatO Tryz.prog 69 [.bp 0 0, .bp 4 0] [.box (thB t (.rf 1 t.prog.length) (.rf 2 t.opens.length) (.rf 3 t.stack.length)), .root 146 (Qaw t.prog), .root 91 (Qav t.opens), .root 160 (Qaq t.stack), .box [.rf 5 s.heads.length, .rf 6 s.descs.length], .root 151 (Qat s.heads), .root 89 (Qar 91 s.descs)] (.rf 7 nv) [.box (thB t2 (.rf 1 t.prog.length) (.rf 2 t.opens.length) (.rf 3 t.stack.length)), .root 146 (Qaw t.prog), .root 91 (Qav t.opens), .root 160 (Qaq t.stack), .box [.rf 5 s.heads.length, .rf 6 s.descs.length], .root 151 (Qat s.heads), .root 89 (Qar 91 s.descs), .root 86 (Qa0 ev)] := by
  have hlv : nv ≤ ev.length := by omega
  have tkv : (Qa0 ev).take nv = Qa0 ev := by rw [hnv]; exact Qal ev
  have hle2 : True := trivial
  have hle : True := trivial
  have tke : True := trivial
  have tkf : True := trivial
  have hrx : (Qaw t.prog)[p]? = some [.int .i64 8, .int .i64 a, .int .i64 b] := Qb2 hx
  have hpl : p < t.prog.length := (List.getElem?_eq_some_iff.1 hx).1
  have hpi : (p : Int) < (t.prog.length : Int) := by omega
  have hp0 : (0 : Int) ≤ (p : Int) := by omega
  rw [hp] at hpc
  obtain ⟨ti, tp, tpc, r0, r1, r2, r3, top, tck, tst, tmn, tsa, tco, tfa⟩ := t
  simp only at hp hx hrx hpl hpi hpc hst hck
  subst hp
  simp only at hc
  simp only [thB] at *
  refine wEo Tryz.func69 [.tmp 4] 135 7 (by simp [Qbc, Qa6, Qbg, Qcr, Qda]) fun E hE => ?_
  have F := wwA @Qao (wwA @Qam (wwA @Qaa (wwA @Qac (wwA @Qag (wwA @Qah (wwA @Qau (wwA @Qai (wwA @Qap (wwA @Qas (wwA @Qan (wwA @Qal (wwA @Qay (wwA @Nat.le_refl (wwA @Qad (wwA @Qaf (wwA @Qab (wwA @Qae (wwA @Qaj (wwA @Qak (wwA hle (wwA hlv (wwA tkv (wwA tke (wwA tkf (wwA hst (wwA hck (wwA hpc (wwA hrx (wwA hpl (wwA hpi (wwA hp0 hle2)))))))))))))))))))))))))))))))
  repeat' first | refine wSq fun _ hK => ?_ | refine ww1 ?_ | (refine wK ?_; clear hK) | (simp only [wHb, reduceCtorEq] at hb <;> try (exfalso; omega)) | refine Qcf (fun hb => ?_) fun hb => ?_ | refine Qiz [0, 1, 2, 3] (hc) ?_ | refine Qce ?_ | ((fail_if_success refine wwN ?_); refine ww4 ?_) | refine Qcc (fun hb => ?_) fun hb => ?_ | exact trivial
  all_goals refine wRo [] [_, _, _, _, _, _, _]
theorem Qt9 (s : StoreD) (t t2 : ThreadD) (a : Int) (o : Nat) (hst : ¬ (0 : Int) < t.stack.length) (hck : (t.check != -1) = false) (hpc : (t.pc == (t.prog.length : Int)) = false) (p : Nat) (hp : t.pc = p) (hx : t.prog[p]? = some ⟨1, a, (o : Int)⟩) (j : Nat) (e : EntS) (hlo : t.opens.length ≤ 1048576) (hpe : Qdl t.opens o = j) (he : t.opens[j]? = some e) (hol : (o : Int) < s.heads.length) (hpb : t.pc ≤ 1048576) (hs : Xfv t t2 a e.new) : SatO Tryz.prog 69 [.bp 0 0, .bp 4 0] [.box (thB t (.rf 1 t.prog.length) (.rf 2 t.opens.length) (.rf 3 t.stack.length)), .root 146 (Qaw t.prog), .root 91 (Qav t.opens), .root 160 (Qaq t.stack), .box [.rf 5 s.heads.length, .rf 6 s.descs.length], .root 151 (Qat s.heads), .root 89 (Qar 91 s.descs)] (.rf 7 0) [.box (thB t2 (.rf 1 t.prog.length) (.rf 2 t.opens.length) (.rf 3 t.stack.length)), .root 146 (Qaw t.prog), .root 91 (Qav t.opens), .root 160 (Qaq t.stack), .box [.rf 5 s.heads.length, .rf 6 s.descs.length], .root 151 (Qat s.heads), .root 89 (Qar 91 s.descs), .root 86 (Qa0 [])] := by
  have hlv : 0 ≤ ([] : List EventD).length := by simp
  have tkv : True := trivial
  have hle2 : True := trivial
  have hle : True := trivial
  have tke : True := trivial
  have tkf : True := trivial
  have hrx : (Qaw t.prog)[p]? = some [.int .i64 1, .int .i64 a, .int .i64 (o : Int)] := Qb2 hx
  have hpl : p < t.prog.length := (List.getElem?_eq_some_iff.1 hx).1
  have hpi : (p : Int) < (t.prog.length : Int) := by omega
  have hp0 : (0 : Int) ≤ (p : Int) := by omega
  rw [hp] at hpc
  obtain ⟨ti, tp, tpc, r0, r1, r2, r3, top, tck, tst, tmn, tsa, tco, tfa⟩ := t
  simp only at hp hx hrx hpl hpi hpc hst hck
  subst hp
  simp only at hpe hlo he hs hpb
  have hre := Qbe he
  have hjl := (List.getElem?_eq_some_iff.1 he).1
  have hj0 : (0 : Int) ≤ (j : Int) := by omega
  have hji : (j : Int) < (top.length : Int) := by omega
  have hjn : ¬ (j : Int) < 0 := by omega
  have hge : ¬ (s.heads.length : Int) ≤ (o : Int) := by omega
  have hw : IntKind.i64.wrap ((p : Int) + 1) = p + 1 := Qax (by omega)
  rcases hs with ⟨rfl, rfl⟩ | ⟨rfl, rfl⟩ | ⟨rfl, rfl⟩ | ⟨rfl, rfl⟩
  all_goals
    simp only [thB] at *
    refine wEo Tryz.func69 [.tmp 4] 135 7 (by simp [Qbc, Qa6, Qbg, Qcr, Qda]) fun E hE => ?_
    have F := wwA @Qao (wwA @Qam (wwA @Qaa (wwA @Qac (wwA @Qag (wwA @Qah (wwA @Qau (wwA @Qai (wwA @Qap (wwA @Qas (wwA @Qan (wwA @Qal (wwA @Qay (wwA @Nat.le_refl (wwA @Qad (wwA @Qaf (wwA @Qab (wwA @Qae (wwA @Qaj (wwA @Qak (wwA hle (wwA hlv (wwA tkv (wwA tke (wwA tkf (wwA hst (wwA hck (wwA hpc (wwA hrx (wwA hpl (wwA hpi (wwA hp0 (wwA hpe (wwA hjl (wwA hj0 (wwA hji (wwA hjn (wwA hge (wwA hw hre))))))))))))))))))))))))))))))))))))))
    repeat' first | refine wSq fun _ hK => ?_ | refine ww1 ?_ | (refine wK ?_; clear hK) | (simp only [wHb, reduceCtorEq] at hb <;> try (exfalso; omega)) | refine Qcf (fun hb => ?_) fun hb => ?_ | refine Qgs (c := by first | exact Qdt _ _ (by assumption)) (k := ?_) | refine Qce ?_ | ((fail_if_success refine wwN ?_); refine ww4 ?_) | refine Qcc (fun hb => ?_) fun hb => ?_ | exact trivial
    all_goals refine wRo [] [_, _, _, _, _, _, _]
theorem Qq3 (s : StoreD) (t t2 : ThreadD) (a : Int) (o : Nat) (es : List EntS) (no : Nat) (hno : no = es.length) (hst : ¬ (0 : Int) < t.stack.length) (hck : (t.check != -1) = false) (hpc : (t.pc == (t.prog.length : Int)) = false) (p : Nat) (hp : t.pc = p) (hx : t.prog[p]? = some ⟨2, (o : Int), a⟩) (j : Nat) (e : EntS) (hlo : t.opens.length ≤ 1048576) (hpe : Qdl t.opens o = j) (he : t.opens[j]? = some e) (hol : (o : Int) < s.heads.length) (hpb : t.pc ≤ 1048576) (v : Int) (hg : GetC t a v) (hs : Qcl t.opens o v = (es, true) ∧ t2 = {t with opens := es, pc := t.pc + 1}) : SatO Tryz.prog 69 [.bp 0 0, .bp 4 0] [.box (thB t (.rf 1 t.prog.length) (.rf 2 t.opens.length) (.rf 3 t.stack.length)), .root 146 (Qaw t.prog), .root 91 (Qav t.opens), .root 160 (Qaq t.stack), .box [.rf 5 s.heads.length, .rf 6 s.descs.length], .root 151 (Qat s.heads), .root 89 (Qar 91 s.descs)] (.rf 8 0) [.box (thB t2 (.rf 1 t.prog.length) (.rf 7 no) (.rf 3 t.stack.length)), .root 146 (Qaw t.prog), .root 91 (Qav t.opens), .root 160 (Qaq t.stack), .box [.rf 5 s.heads.length, .rf 6 s.descs.length], .root 151 (Qat s.heads), .root 89 (Qar 91 s.descs), .root 91 (Qav es), .root 86 (Qa0 [])] := by
  have hlv : 0 ≤ ([] : List EventD).length := by simp
  have tkv : True := trivial
  have hle2 : True := trivial
  have hle : no ≤ es.length := by omega
  have tke : (Qav es).take no = Qav es := by rw [hno]; exact Qai es
  have tkf : True := trivial
  have hrx : (Qaw t.prog)[p]? = some [.int .i64 2, .int .i64 (o : Int), .int .i64 a] := Qb2 hx
  have hpl : p < t.prog.length := (List.getElem?_eq_some_iff.1 hx).1
  have hpi : (p : Int) < (t.prog.length : Int) := by omega
  have hp0 : (0 : Int) ≤ (p : Int) := by omega
  rw [hp] at hpc
  obtain ⟨ti, tp, tpc, r0, r1, r2, r3, top, tck, tst, tmn, tsa, tco, tfa⟩ := t
  simp only at hp hx hrx hpl hpi hpc hst hck
  subst hp
  simp only at hpe hlo he hs hpb
  have hre := Qbe he
  have hjl := (List.getElem?_eq_some_iff.1 he).1
  have hj0 : (0 : Int) ≤ (j : Int) := by omega
  have hji : (j : Int) < (top.length : Int) := by omega
  have hjn : ¬ (j : Int) < 0 := by omega
  have hge : ¬ (s.heads.length : Int) ≤ (o : Int) := by omega
  have hw : IntKind.i64.wrap ((p : Int) + 1) = p + 1 := Qax (by omega)
  rcases hs with ⟨hsn, rfl⟩
  rcases hg with ⟨rfl, rfl⟩ | ⟨rfl, rfl⟩ | ⟨rfl, rfl⟩ | ⟨rfl, rfl⟩
  all_goals
    have hsc := Qqe top o _ _ hsn hlo
    simp only at hsc
    rw [← hno] at hsc
    simp only [thB] at *
    refine wEo Tryz.func69 [.tmp 4] 135 7 (by simp [Qbc, Qa6, Qbg, Qcr, Qda]) fun E hE => ?_
    have F := wwA @Qao (wwA @Qam (wwA @Qaa (wwA @Qac (wwA @Qag (wwA @Qah (wwA @Qau (wwA @Qai (wwA @Qap (wwA @Qas (wwA @Qan (wwA @Qal (wwA @Qay (wwA @Nat.le_refl (wwA @Qad (wwA @Qaf (wwA @Qab (wwA @Qae (wwA @Qaj (wwA @Qak (wwA hle (wwA hlv (wwA tkv (wwA tke (wwA tkf (wwA hst (wwA hck (wwA hpc (wwA hrx (wwA hpl (wwA hpi (wwA hp0 (wwA hpe (wwA hjl (wwA hj0 (wwA hji (wwA hjn (wwA hge hw)))))))))))))))))))))))))))))))))))))
    repeat' first | refine wSq fun _ hK => ?_ | refine ww1 ?_ | (refine wK ?_; clear hK) | (simp only [wHb, reduceCtorEq] at hb <;> try (exfalso; omega)) | refine Qcf (fun hb => ?_) fun hb => ?_ | refine Qgs (c := by first | exact Qdt _ _ (by assumption) | exact hsc) (k := ?_) | refine Qce ?_ | ((fail_if_success refine wwN ?_); refine ww4 ?_) | refine Qcc (fun hb => ?_) fun hb => ?_ | exact trivial
    all_goals refine wRo [] [_, _, _, _, _, _, _]
end Go.Proofs.YtmiojnibngncaaaGreat
