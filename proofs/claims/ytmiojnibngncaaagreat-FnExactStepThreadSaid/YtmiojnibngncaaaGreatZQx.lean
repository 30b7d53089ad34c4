/- What the claim rests on, part 24: the value-level engine and contracts of functions; no condition. -/
import Derived.Test.YtmiojnibngncaaaGreatZQw
import Derived.Test.YtmiojnibngncaaaGreatZQj
import Derived.Test.YtmiojnibngncaaaGreatZQi
import Derived.Test.YtmiojnibngncaaaGreatZQl
namespace Go.Proofs.YtmiojnibngncaaaGreat
open Go Go.RowKit
set_option linter.unusedVariables false
set_option linter.unusedSimpArgs false
set_option maxRecDepth 100000
set_option maxHeartbeats 8000000
attribute [local irreducible] Qdo VWP Qb5 Qbn Qbs Qbu Qbj Qbt Qa3 Qbq Qcq Qc6 Qbk Qdb Qc4 Qbr Qbm Qa8
theorem Qvf (s : StoreD) (t t2 : ThreadD) (h2 : t2 = t) (hs : s.tiny) (ht : t.small) (hTB : Qby s t = false ∨ t.state ≠ 0) :
    SatP Tryz.prog 15 [.agg (s.cells 151 89 91), .agg (t.cells 146 91 160)] (.tup [.agg [.rf 0 s.heads.length, .rf 1 s.descs.length], .agg (thB t2 (.rf 2 t.prog.length) (.rf 3 t.opens.length) (.rf 4 t.stack.length)), .rf 5 0]) [(151, Qat s.heads), (89, Qar 91 s.descs), (146, Qaw t.prog), (91, Qav t.opens), (160, Qaq t.stack), (86, [])] := by
  subst h2
  have hown := Qd6 s hs.small
  have hthr := Qcp t2 ht
  have hok := Qcg s t2 hs.small ht
  unfold StoreD.cells ThreadD.cells at *
  simp only [thB] at *
  by_cases hB : Qby s t2 = true
  · have hsb : (t2.state != 0) = true := by
      rcases hTB with h | h
      · rw [h] at hB; cases hB
      · simpa using h
    rw [hB] at hok
    refine wEp Tryz.func15 [.cell 4 37, .cell 5 57, .tmp 6] 31 (hp := (by simp [Qam, Qac, Qah, Qaf, Qae, Qan, Qbh])) fun E hE => ?_
    have F := wwA @Qao (wwA @Qaa (wwA @Qag (wwA @Qad (wwA @Qab (wwA @Qas (wwA hsb @Nat.le_refl))))))
    repeat' first | refine wSq fun _ hK => ?_ | refine Qa1 hT hM (id := 1) 8 [[0,1,2,3,4,5,6,7]] (by kernel_rfl) ?_ | refine Qa1 hT hM (id := 3) 6 [[0,1,2,3,4,5],[0,1,3,2,4,5],[0,1,3,4,2,5],[0,2,3,1,4,5],[0,3,1,2,4,5],[0,3,1,4,2,5]] (by kernel_rfl) ?_ | refine ww1 ?_ | (refine wK ?_; clear hK) | (simp only [wHb, reduceCtorEq] at hb <;> try (exfalso; omega)) | refine wCd (fun hb => ?_) fun hb => ?_ | refine wCa (c := by first | exact hown | exact hthr | exact hok) (k := ?_) | refine ww3 ?_ | ((fail_if_success refine wwN ?_); refine ww4 ?_) | refine wGd (fun hb => ?_) fun hb => ?_ | refine And.intro ?_ ?_ | exact trivial
    all_goals refine Qbw (vs := _) (acc := _) (by simp only [go_sem, Qcd]; rfl) (by simp only [go_sem, wrap, exV, exA, Qf0, Qen, exC, thB, Qao, Qaa, Qag, Qad, Qab, Qas, Nat.le_refl, Nat.zero_add, if_true]; rfl) (by simp) (by simp [Qau, Qai, Qap, Qaj, Qak, Qal]) (by simp [Qam, Qac, Qah, Qaf, Qae, Qan, Qbh])
  · have hB : Qby s t2 = false := by simpa using hB
    rw [hB] at hok
    refine wEp Tryz.func15 [.cell 4 37, .cell 5 57, .tmp 6] 31 (hp := (by simp [Qam, Qac, Qah, Qaf, Qae, Qan, Qbh])) fun E hE => ?_
    have F := wwA @Qao (wwA @Qaa (wwA @Qag (wwA @Qad (wwA @Qab (wwA @Qas @Nat.le_refl)))))
    repeat' first | refine wSq fun _ hK => ?_ | refine Qa1 hT hM (id := 1) 8 [[0,1,2,3,4,5,6,7]] (by kernel_rfl) ?_ | refine Qa1 hT hM (id := 3) 6 [[0,1,2,3,4,5],[0,1,3,2,4,5],[0,1,3,4,2,5],[0,2,3,1,4,5],[0,3,1,2,4,5],[0,3,1,4,2,5]] (by kernel_rfl) ?_ | refine ww1 ?_ | (refine wK ?_; clear hK) | (simp only [wHb, reduceCtorEq] at hb <;> try (exfalso; omega)) | refine wCd (fun hb => ?_) fun hb => ?_ | refine wCa (c := by first | exact hown | exact hthr | exact hok) (k := ?_) | refine ww3 ?_ | ((fail_if_success refine wwN ?_); refine ww4 ?_) | refine wGd (fun hb => ?_) fun hb => ?_ | refine And.intro ?_ ?_ | exact trivial
    all_goals refine Qbw (vs := _) (acc := _) (by simp only [go_sem, Qcd]; rfl) (by simp only [go_sem, wrap, exV, exA, Qf0, Qen, exC, thB, Qao, Qaa, Qag, Qad, Qab, Qas, Nat.le_refl, Nat.zero_add, if_true]; rfl) (by simp) (by simp [Qau, Qai, Qap, Qaj, Qak, Qal]) (by simp [Qam, Qac, Qah, Qaf, Qae, Qan, Qbh])
theorem Qzc (s : StoreD) (t t2 : ThreadD) (ev : List EventD) (hs : s.tiny) (ht : t.small) (hTB : Qby s t = true) (h0 : t.state = 0) (hc : SatO Tryz.prog 59 [.agg [.rf 0 s.heads.length, .rf 1 s.descs.length], .agg (thB t (.rf 2 t.prog.length) (.rf 3 t.opens.length) (.rf 4 t.stack.length))] [.root 151 (Qat s.heads), .root 89 (Qar 91 s.descs), .root 146 (Qaw t.prog), .root 91 (Qav t.opens), .root 160 (Qaq t.stack)] (.tup [.agg [.rf 0 s.heads.length, .rf 1 s.descs.length], .agg (thB t2 (.rf 2 t.prog.length) (.rf 3 t.opens.length) (.rf 4 t.stack.length)), .rf 5 ev.length]) [.root 151 (Qat s.heads), .root 89 (Qar 91 s.descs), .root 146 (Qaw t.prog), .root 91 (Qav t.opens), .root 160 (Qaq t.stack), .root 86 (Qa0 ev)]) :
    SatP Tryz.prog 15 [.agg (s.cells 151 89 91), .agg (t.cells 146 91 160)] (.tup [.agg [.rf 0 s.heads.length, .rf 1 s.descs.length], .agg (thB t2 (.rf 2 t.prog.length) (.rf 3 t.opens.length) (.rf 4 t.stack.length)), .rf 5 ev.length]) [(151, Qat s.heads), (89, Qar 91 s.descs), (146, Qaw t.prog), (91, Qav t.opens), (160, Qaq t.stack), (86, Qa0 ev)] := by
  have hown := Qd6 s hs.small
  have hthr := Qcp t ht
  have hok := Qcg s t hs.small ht
  have hsb : (t.state != 0) = false := by rw [h0]; rfl
  rw [hTB] at hok
  unfold StoreD.cells ThreadD.cells at *
  simp only [thB] at *
  refine wEp Tryz.func15 [.cell 4 37, .cell 5 57, .tmp 6] 31 (hp := (by simp [Qam, Qac, Qah, Qaf, Qae, Qan, Qbh])) fun E hE => ?_
  have F := wwA @Qao (wwA @Qaa (wwA @Qag (wwA @Qad (wwA @Qab (wwA @Qas (wwA @Qam (wwA @Qac (wwA @Qah (wwA @Qaf (wwA @Qae (wwA @Qan (wwA @Qbh (wwA hsb (wwA @Qau (wwA @Qai (wwA @Qap (wwA @Qaj (wwA @Qak (wwA @Qal @Nat.le_refl)))))))))))))))))))
  repeat' first | refine wSq fun _ hK => ?_ | refine Qa1 hT hM (id := 1) 8 [[0,1,2,3,4,5,6,7]] (by kernel_rfl) ?_ | refine Qa1 hT hM (id := 3) 6 [[0,1,2,3,4,5],[0,1,3,2,4,5],[0,1,3,4,2,5],[0,2,3,1,4,5],[0,3,1,2,4,5],[0,3,1,4,2,5]] (by kernel_rfl) ?_ | refine ww1 ?_ | (refine wK ?_; clear hK) | (simp only [wHb, reduceCtorEq] at hb <;> try (exfalso; omega)) | refine wCd (fun hb => ?_) fun hb => ?_ | refine wCa (c := by first | exact hown | exact hthr | exact hok) (k := ?_) | refine wOq [68, 69, 196, 197, 198] (hc) ?_ | refine ww3 ?_ | ((fail_if_success refine wwN ?_); refine ww4 ?_) | refine wGd (fun hb => ?_) fun hb => ?_ | refine And.intro ?_ ?_ | exact trivial
  all_goals refine Qbw (vs := _) (acc := _) (by simp only [go_sem, Qcd]; rfl) (by simp only [go_sem, wrap, exV, exA, Qf0, Qen, exC, thB, Qao, Qaa, Qag, Qad, Qab, Qas, Nat.le_refl, Nat.zero_add, if_true]; rfl) (by simp) (by simp [Qau, Qai, Qap, Qaj, Qak, Qal]) (by simp [Qam, Qac, Qah, Qaf, Qae, Qan, Qbh])
theorem Qx0 (s : StoreD) (t t2 : ThreadD) (ev : List EventD) (hs : s.tiny) (ht : t.small) (hTB : Qby s t = true) (h0 : t.state = 0) (hc : SatO Tryz.prog 59 [.agg [.rf 0 s.heads.length, .rf 1 s.descs.length], .agg (thB t (.rf 2 t.prog.length) (.rf 3 t.opens.length) (.rf 4 t.stack.length))] [.root 151 (Qat s.heads), .root 89 (Qar 91 s.descs), .root 146 (Qaw t.prog), .root 91 (Qav t.opens), .root 160 (Qaq t.stack)] (.tup [.agg [.rf 0 s.heads.length, .rf 1 s.descs.length], .agg (thB t2 (.rf 2 t.prog.length) (.rf 5 0) (.rf 4 t.stack.length)), .rf 6 ev.length]) [.root 151 (Qat s.heads), .root 89 (Qar 91 s.descs), .root 146 (Qaw t.prog), .root 91 (Qav t.opens), .root 160 (Qaq t.stack), .root 91 [], .root 86 (Qa0 ev)]) :
    SatP Tryz.prog 15 [.agg (s.cells 151 89 91), .agg (t.cells 146 91 160)] (.tup [.agg [.rf 0 s.heads.length, .rf 1 s.descs.length], .agg (thB t2 (.rf 2 t.prog.length) (.rf 3 0) (.rf 4 t.stack.length)), .rf 5 ev.length]) [(151, Qat s.heads), (89, Qar 91 s.descs), (146, Qaw t.prog), (91, []), (160, Qaq t.stack), (86, Qa0 ev)] := by
  have hown := Qd6 s hs.small
  have hthr := Qcp t ht
  have hok := Qcg s t hs.small ht
  have hsb : (t.state != 0) = false := by rw [h0]; rfl
  rw [hTB] at hok
  unfold StoreD.cells ThreadD.cells at *
  simp only [thB] at *
  refine wEp Tryz.func15 [.cell 4 37, .cell 5 57, .tmp 6] 31 (hp := (by simp [Qam, Qac, Qah, Qaf, Qae, Qan, Qbh])) fun E hE => ?_
  have F := wwA @Qao (wwA @Qaa (wwA @Qag (wwA @Qad (wwA @Qab (wwA @Qas (wwA @Qam (wwA @Qac (wwA @Qah (wwA @Qaf (wwA @Qae (wwA @Qan (wwA @Qbh (wwA hsb (wwA @Qau (wwA @Qai (wwA @Qap (wwA @Qaj (wwA @Qak (wwA @Qal @Nat.le_refl)))))))))))))))))))
  repeat' first | refine wSq fun _ hK => ?_ | refine Qa1 hT hM (id := 1) 8 [[0,1,2,3,4,5,6,7]] (by kernel_rfl) ?_ | refine Qa1 hT hM (id := 3) 6 [[0,1,2,3,4,5],[0,1,3,2,4,5],[0,1,3,4,2,5],[0,2,3,1,4,5],[0,3,1,2,4,5],[0,3,1,4,2,5]] (by kernel_rfl) ?_ | refine ww1 ?_ | (refine wK ?_; clear hK) | (simp only [wHb, reduceCtorEq] at hb <;> try (exfalso; omega)) | refine wCd (fun hb => ?_) fun hb => ?_ | refine wCa (c := by first | exact hown | exact hthr | exact hok) (k := ?_) | refine wOq [68, 69, 196, 197, 198] (hc) ?_ | refine ww3 ?_ | ((fail_if_success refine wwN ?_); refine ww4 ?_) | refine wGd (fun hb => ?_) fun hb => ?_ | refine And.intro ?_ ?_ | exact trivial
  all_goals refine Qbw (vs := _) (acc := _) (by simp only [go_sem, Qcd]; rfl) (by simp only [go_sem, wrap, exV, exA, Qf0, Qen, exC, thB, Qao, Qaa, Qag, Qad, Qab, Qas, Nat.le_refl, Nat.zero_add, if_true]; rfl) (by simp) (by simp [Qau, Qai, Qap, Qaj, Qak, Qal]) (by simp [Qam, Qac, Qah, Qaf, Qae, Qan, Qbh])
theorem Qzi (s : StoreD) (t t2 : ThreadD) (fs : List FrameD) (ev : List EventD) (hs : s.tiny) (ht : t.small) (hTB : Qby s t = true) (h0 : t.state = 0) (hc : SatO Tryz.prog 59 [.agg [.rf 0 s.heads.length, .rf 1 s.descs.length], .agg (thB t (.rf 2 t.prog.length) (.rf 3 t.opens.length) (.rf 4 t.stack.length))] [.root 151 (Qat s.heads), .root 89 (Qar 91 s.descs), .root 146 (Qaw t.prog), .root 91 (Qav t.opens), .root 160 (Qaq t.stack)] (.tup [.agg [.rf 0 s.heads.length, .rf 1 s.descs.length], .agg (thB t2 (.rf 2 t.prog.length) (.rf 3 t.opens.length) (.rf 5 fs.length)), .rf 6 ev.length]) [.root 151 (Qat s.heads), .root 89 (Qar 91 s.descs), .root 146 (Qaw t.prog), .root 91 (Qav t.opens), .dead, .root 160 (Qaq fs), .root 86 (Qa0 ev)]) :
    SatP Tryz.prog 15 [.agg (s.cells 151 89 91), .agg (t.cells 146 91 160)] (.tup [.agg [.rf 0 s.heads.length, .rf 1 s.descs.length], .agg (thB t2 (.rf 2 t.prog.length) (.rf 3 t.opens.length) (.rf 4 fs.length)), .rf 5 ev.length]) [(151, Qat s.heads), (89, Qar 91 s.descs), (146, Qaw t.prog), (91, Qav t.opens), (160, Qaq fs), (86, Qa0 ev)] := by
  have hown := Qd6 s hs.small
  have hthr := Qcp t ht
  have hok := Qcg s t hs.small ht
  have hsb : (t.state != 0) = false := by rw [h0]; rfl
  rw [hTB] at hok
  unfold StoreD.cells ThreadD.cells at *
  simp only [thB] at *
  refine wEp Tryz.func15 [.cell 4 37, .cell 5 57, .tmp 6] 31 (hp := (by simp [Qam, Qac, Qah, Qaf, Qae, Qan, Qbh])) fun E hE => ?_
  have F := wwA @Qao (wwA @Qaa (wwA @Qag (wwA @Qad (wwA @Qab (wwA @Qas (wwA @Qam (wwA @Qac (wwA @Qah (wwA @Qaf (wwA @Qae (wwA @Qan (wwA @Qbh (wwA hsb (wwA @Qau (wwA @Qai (wwA @Qap (wwA @Qaj (wwA @Qak (wwA @Qal @Nat.le_refl)))))))))))))))))))
  repeat' first | refine wSq fun _ hK => ?_ | refine Qa1 hT hM (id := 1) 8 [[0,1,2,3,4,5,6,7]] (by kernel_rfl) ?_ | refine Qa1 hT hM (id := 3) 6 [[0,1,2,3,4,5],[0,1,3,2,4,5],[0,1,3,4,2,5],[0,2,3,1,4,5],[0,3,1,2,4,5],[0,3,1,4,2,5]] (by kernel_rfl) ?_ | refine ww1 ?_ | (refine wK ?_; clear hK) | (simp only [wHb, reduceCtorEq] at hb <;> try (exfalso; omega)) | refine wCd (fun hb => ?_) fun hb => ?_ | refine wCa (c := by first | exact hown | exact hthr | exact hok) (k := ?_) | refine wOq [68, 69, 196, 197, 198] (hc) ?_ | refine ww3 ?_ | ((fail_if_success refine wwN ?_); refine ww4 ?_) | refine wGd (fun hb => ?_) fun hb => ?_ | refine And.intro ?_ ?_ | exact trivial
  all_goals refine Qbw (vs := _) (acc := _) (by simp only [go_sem, Qcd]; rfl) (by simp only [go_sem, wrap, exV, exA, Qf0, Qen, exC, thB, Qao, Qaa, Qag, Qad, Qab, Qas, Nat.le_refl, Nat.zero_add, if_true]; rfl) (by simp) (by simp [Qau, Qai, Qap, Qaj, Qak, Qal]) (by simp [Qam, Qac, Qah, Qaf, Qae, Qan, Qbh])
theorem Qyq (s : StoreD) (t t2 : ThreadD) (es : List EntS) (ev : List EventD) (hs : s.tiny) (ht : t.small) (hTB : Qby s t = true) (h0 : t.state = 0) (hc : SatO Tryz.prog 59 [.agg [.rf 0 s.heads.length, .rf 1 s.descs.length], .agg (thB t (.rf 2 t.prog.length) (.rf 3 t.opens.length) (.rf 4 t.stack.length))] [.root 151 (Qat s.heads), .root 89 (Qar 91 s.descs), .root 146 (Qaw t.prog), .root 91 (Qav t.opens), .root 160 (Qaq t.stack)] (.tup [.agg [.rf 0 s.heads.length, .rf 1 s.descs.length], .agg (thB t2 (.rf 2 t.prog.length) (.rf 5 es.length) (.rf 4 t.stack.length)), .rf 6 ev.length]) [.root 151 (Qat s.heads), .root 89 (Qar 91 s.descs), .root 146 (Qaw t.prog), .root 91 (Qav t.opens), .root 160 (Qaq t.stack), .root 91 (Qav es), .root 86 (Qa0 ev)]) :
    SatP Tryz.prog 15 [.agg (s.cells 151 89 91), .agg (t.cells 146 91 160)] (.tup [.agg [.rf 0 s.heads.length, .rf 1 s.descs.length], .agg (thB t2 (.rf 2 t.prog.length) (.rf 3 es.length) (.rf 4 t.stack.length)), .rf 5 ev.length]) [(151, Qat s.heads), (89, Qar 91 s.descs), (146, Qaw t.prog), (91, Qav es), (160, Qaq t.stack), (86, Qa0 ev)] := by
  have hown := Qd6 s hs.small
  have hthr := Qcp t ht
  have hok := Qcg s t hs.small ht
  have hsb : (t.state != 0) = false := by rw [h0]; rfl
  rw [hTB] at hok
  unfold StoreD.cells ThreadD.cells at *
  simp only [thB] at *
  refine wEp Tryz.func15 [.cell 4 37, .cell 5 57, .tmp 6] 31 (hp := (by simp [Qam, Qac, Qah, Qaf, Qae, Qan, Qbh])) fun E hE => ?_
  have F := wwA @Qao (wwA @Qaa (wwA @Qag (wwA @Qad (wwA @Qab (wwA @Qas (wwA @Qam (wwA @Qac (wwA @Qah (wwA @Qaf (wwA @Qae (wwA @Qan (wwA @Qbh (wwA hsb (wwA @Qau (wwA @Qai (wwA @Qap (wwA @Qaj (wwA @Qak (wwA @Qal @Nat.le_refl)))))))))))))))))))
  repeat' first | refine wSq fun _ hK => ?_ | refine Qa1 hT hM (id := 1) 8 [[0,1,2,3,4,5,6,7]] (by kernel_rfl) ?_ | refine Qa1 hT hM (id := 3) 6 [[0,1,2,3,4,5],[0,1,3,2,4,5],[0,1,3,4,2,5],[0,2,3,1,4,5],[0,3,1,2,4,5],[0,3,1,4,2,5]] (by kernel_rfl) ?_ | refine ww1 ?_ | (refine wK ?_; clear hK) | (simp only [wHb, reduceCtorEq] at hb <;> try (exfalso; omega)) | refine wCd (fun hb => ?_) fun hb => ?_ | refine wCa (c := by first | exact hown | exact hthr | exact hok) (k := ?_) | refine wOq [68, 69, 196, 197, 198] (hc) ?_ | refine ww3 ?_ | ((fail_if_success refine wwN ?_); refine ww4 ?_) | refine wGd (fun hb => ?_) fun hb => ?_ | refine And.intro ?_ ?_ | exact trivial
  all_goals refine Qbw (vs := _) (acc := _) (by simp only [go_sem, Qcd]; rfl) (by simp only [go_sem, wrap, exV, exA, Qf0, Qen, exC, thB, Qao, Qaa, Qag, Qad, Qab, Qas, Nat.le_refl, Nat.zero_add, if_true]; rfl) (by simp) (by simp [Qau, Qai, Qap, Qaj, Qak, Qal]) (by simp [Qam, Qac, Qah, Qaf, Qae, Qan, Qbh])
theorem Qxj (s : StoreD) (t t2 : ThreadD) (r : StoreD) (fs junk : List FrameD) (ev : List EventD) (hs : s.tiny) (ht : t.small) (hTB : Qby s t = true) (h0 : t.state = 0) (e1 : r.heads.length = s.heads.length) (e2 : r.descs.length = s.descs.length) (hc : SatO Tryz.prog 59 [.agg [.rf 0 s.heads.length, .rf 1 s.descs.length], .agg (thB t (.rf 2 t.prog.length) (.rf 3 t.opens.length) (.rf 4 t.stack.length))] [.root 151 (Qat s.heads), .root 89 (Qar 91 s.descs), .root 146 (Qaw t.prog), .root 91 (Qav t.opens), .root 160 (Qaq t.stack)] (.tup [.agg [.rf 0 r.heads.length, .rf 1 r.descs.length], .agg (thB t2 (.rf 2 t.prog.length) (.rf 3 t.opens.length) (.rf 4 fs.length)), .rf 5 ev.length]) [.root 151 (Qat r.heads), .root 89 (Qar 91 r.descs), .root 146 (Qaw t.prog), .root 91 (Qav t.opens), .root 160 (Qaq (fs ++ junk)), .root 86 (Qa0 ev)]) :
    SatP Tryz.prog 15 [.agg (s.cells 151 89 91), .agg (t.cells 146 91 160)] (.tup [.agg [.rf 0 r.heads.length, .rf 1 r.descs.length], .agg (thB t2 (.rf 2 t.prog.length) (.rf 3 t.opens.length) (.rf 4 fs.length)), .rf 5 ev.length]) [(151, Qat r.heads), (89, Qar 91 r.descs), (146, Qaw t.prog), (91, Qav t.opens), (160, Qaq fs), (86, Qa0 ev)] := by
  have hown := Qd6 s hs.small
  have hthr := Qcp t ht
  have hok := Qcg s t hs.small ht
  have hsb : (t.state != 0) = false := by rw [h0]; rfl
  have hfj : fs.length ≤ (fs ++ junk).length := by simp
  have tkj : (Qaq (fs ++ junk)).take fs.length = Qaq fs := by simp [Qaq]
  rw [hTB] at hok
  unfold StoreD.cells ThreadD.cells at *
  simp only [thB] at *
  refine wEp Tryz.func15 [.cell 4 37, .cell 5 57, .tmp 6] 31 (hp := (by simp [Qam, Qac, Qah, Qaf, Qae, Qan, Qbh])) fun E hE => ?_
  have F := wwA @Qao (wwA @Qaa (wwA @Qag (wwA @Qad (wwA @Qab (wwA @Qas (wwA @Qam (wwA @Qac (wwA @Qah (wwA @Qaf (wwA @Qae (wwA @Qan (wwA @Qbh (wwA hsb (wwA @Qau (wwA @Qai (wwA @Qap (wwA @Qaj (wwA @Qak (wwA @Qal (wwA @Nat.le_refl (wwA hfj tkj)))))))))))))))))))))
  repeat' first | refine wSq fun _ hK => ?_ | refine Qa1 hT hM (id := 1) 8 [[0,1,2,3,4,5,6,7]] (by kernel_rfl) ?_ | refine Qa1 hT hM (id := 3) 6 [[0,1,2,3,4,5],[0,1,3,2,4,5],[0,1,3,4,2,5],[0,2,3,1,4,5],[0,3,1,2,4,5],[0,3,1,4,2,5]] (by kernel_rfl) ?_ | refine ww1 ?_ | (refine wK ?_; clear hK) | (simp only [wHb, reduceCtorEq] at hb <;> try (exfalso; omega)) | refine wCd (fun hb => ?_) fun hb => ?_ | refine wCa (c := by first | exact hown | exact hthr | exact hok) (k := ?_) | refine wOq [68, 69, 196, 197, 198] (hc) ?_ | refine ww3 ?_ | ((fail_if_success refine wwN ?_); refine ww4 ?_) | refine wGd (fun hb => ?_) fun hb => ?_ | refine And.intro ?_ ?_ | exact trivial
  all_goals refine Qbw (vs := _) (acc := _) (by simp only [go_sem, Qcd]; rfl) (by simp only [go_sem, wrap, exV, exA, Qf0, Qen, exC, thB, Qao, Qaa, Qag, Qad, Qab, Qas, Nat.le_refl, Nat.zero_add, if_true, hfj, tkj]; rfl) (by simp) (by simp [Qau, Qai, Qap, Qaj, Qak, Qal, hfj, tkj]) (by simp [Qam, Qac, Qah, Qaf, Qae, Qan, Qbh])
theorem Qzd (s : StoreD) (t t2 : ThreadD) (r : StoreD) (fs : List FrameD) (ev : List EventD) (hs : s.tiny) (ht : t.small) (hTB : Qby s t = true) (h0 : t.state = 0) (e1 : r.heads.length = s.heads.length) (e2 : r.descs.length = s.descs.length) (hc : SatO Tryz.prog 59 [.agg [.rf 0 s.heads.length, .rf 1 s.descs.length], .agg (thB t (.rf 2 t.prog.length) (.rf 3 t.opens.length) (.rf 4 t.stack.length))] [.root 151 (Qat s.heads), .root 89 (Qar 91 s.descs), .root 146 (Qaw t.prog), .root 91 (Qav t.opens), .root 160 (Qaq t.stack)] (.tup [.agg [.rf 0 r.heads.length, .rf 1 r.descs.length], .agg (thB t2 (.rf 2 t.prog.length) (.rf 3 t.opens.length) (.rf 5 fs.length)), .rf 6 ev.length]) [.root 151 (Qat r.heads), .root 89 (Qar 91 r.descs), .root 146 (Qaw t.prog), .root 91 (Qav t.opens), .dead, .root 160 (Qaq fs), .root 86 (Qa0 ev)]) :
    SatP Tryz.prog 15 [.agg (s.cells 151 89 91), .agg (t.cells 146 91 160)] (.tup [.agg [.rf 0 r.heads.length, .rf 1 r.descs.length], .agg (thB t2 (.rf 2 t.prog.length) (.rf 3 t.opens.length) (.rf 4 fs.length)), .rf 5 ev.length]) [(151, Qat r.heads), (89, Qar 91 r.descs), (146, Qaw t.prog), (91, Qav t.opens), (160, Qaq fs), (86, Qa0 ev)] := by
  have hown := Qd6 s hs.small
  have hthr := Qcp t ht
  have hok := Qcg s t hs.small ht
  have hsb : (t.state != 0) = false := by rw [h0]; rfl
  rw [hTB] at hok
  unfold StoreD.cells ThreadD.cells at *
  simp only [thB] at *
  refine wEp Tryz.func15 [.cell 4 37, .cell 5 57, .tmp 6] 31 (hp := (by simp [Qam, Qac, Qah, Qaf, Qae, Qan, Qbh])) fun E hE => ?_
  have F := wwA @Qao (wwA @Qaa (wwA @Qag (wwA @Qad (wwA @Qab (wwA @Qas (wwA @Qam (wwA @Qac (wwA @Qah (wwA @Qaf (wwA @Qae (wwA @Qan (wwA @Qbh (wwA hsb (wwA @Qau (wwA @Qai (wwA @Qap (wwA @Qaj (wwA @Qak (wwA @Qal @Nat.le_refl)))))))))))))))))))
  repeat' first | refine wSq fun _ hK => ?_ | refine Qa1 hT hM (id := 1) 8 [[0,1,2,3,4,5,6,7]] (by kernel_rfl) ?_ | refine Qa1 hT hM (id := 3) 6 [[0,1,2,3,4,5],[0,1,3,2,4,5],[0,1,3,4,2,5],[0,2,3,1,4,5],[0,3,1,2,4,5],[0,3,1,4,2,5]] (by kernel_rfl) ?_ | refine ww1 ?_ | (refine wK ?_; clear hK) | (simp only [wHb, reduceCtorEq] at hb <;> try (exfalso; omega)) | refine wCd (fun hb => ?_) fun hb => ?_ | refine wCa (c := by first | exact hown | exact hthr | exact hok) (k := ?_) | refine wOq [68, 69, 196, 197, 198] (hc) ?_ | refine ww3 ?_ | ((fail_if_success refine wwN ?_); refine ww4 ?_) | refine wGd (fun hb => ?_) fun hb => ?_ | refine And.intro ?_ ?_ | exact trivial
  all_goals refine Qbw (vs := _) (acc := _) (by simp only [go_sem, Qcd]; rfl) (by simp only [go_sem, wrap, exV, exA, Qf0, Qen, exC, thB, Qao, Qaa, Qag, Qad, Qab, Qas, Nat.le_refl, Nat.zero_add, if_true]; rfl) (by simp) (by simp [Qau, Qai, Qap, Qaj, Qak, Qal]) (by simp [Qam, Qac, Qah, Qaf, Qae, Qan, Qbh])
theorem Qw6 (s : StoreD) (t t2 : ThreadD) (r : StoreD) (fs junk : List FrameD) (ev : List EventD) (hs : s.tiny) (ht : t.small) (hTB : Qby s t = true) (h0 : t.state = 0) (e1 : r.heads.length = s.heads.length) (e2 : r.descs.length = s.descs.length) (hc : SatO Tryz.prog 59 [.agg [.rf 0 s.heads.length, .rf 1 s.descs.length], .agg (thB t (.rf 2 t.prog.length) (.rf 3 t.opens.length) (.rf 4 t.stack.length))] [.root 151 (Qat s.heads), .root 89 (Qar 91 s.descs), .root 146 (Qaw t.prog), .root 91 (Qav t.opens), .root 160 (Qaq t.stack)] (.tup [.agg [.rf 0 r.heads.length, .rf 1 r.descs.length], .agg (thB t2 (.rf 2 t.prog.length) (.rf 5 0) (.rf 4 fs.length)), .rf 6 ev.length]) [.root 151 (Qat r.heads), .root 89 (Qar 91 r.descs), .root 146 (Qaw t.prog), .root 91 (Qav t.opens), .root 160 (Qaq (fs ++ junk)), .root 91 [], .root 86 (Qa0 ev)]) :
    SatP Tryz.prog 15 [.agg (s.cells 151 89 91), .agg (t.cells 146 91 160)] (.tup [.agg [.rf 0 r.heads.length, .rf 1 r.descs.length], .agg (thB t2 (.rf 2 t.prog.length) (.rf 3 0) (.rf 4 fs.length)), .rf 5 ev.length]) [(151, Qat r.heads), (89, Qar 91 r.descs), (146, Qaw t.prog), (91, []), (160, Qaq fs), (86, Qa0 ev)] := by
  have hown := Qd6 s hs.small
  have hthr := Qcp t ht
  have hok := Qcg s t hs.small ht
  have hsb : (t.state != 0) = false := by rw [h0]; rfl
  have hfj : fs.length ≤ (fs ++ junk).length := by simp
  have tkj : (Qaq (fs ++ junk)).take fs.length = Qaq fs := by simp [Qaq]
  rw [hTB] at hok
  unfold StoreD.cells ThreadD.cells at *
  simp only [thB] at *
  refine wEp Tryz.func15 [.cell 4 37, .cell 5 57, .tmp 6] 31 (hp := (by simp [Qam, Qac, Qah, Qaf, Qae, Qan, Qbh])) fun E hE => ?_
  have F := wwA @Qao (wwA @Qaa (wwA @Qag (wwA @Qad (wwA @Qab (wwA @Qas (wwA @Qam (wwA @Qac (wwA @Qah (wwA @Qaf (wwA @Qae (wwA @Qan (wwA @Qbh (wwA hsb (wwA @Qau (wwA @Qai (wwA @Qap (wwA @Qaj (wwA @Qak (wwA @Qal (wwA @Nat.le_refl (wwA hfj tkj)))))))))))))))))))))
  repeat' first | refine wSq fun _ hK => ?_ | refine Qa1 hT hM (id := 1) 8 [[0,1,2,3,4,5,6,7]] (by kernel_rfl) ?_ | refine Qa1 hT hM (id := 3) 6 [[0,1,2,3,4,5],[0,1,3,2,4,5],[0,1,3,4,2,5],[0,2,3,1,4,5],[0,3,1,2,4,5],[0,3,1,4,2,5]] (by kernel_rfl) ?_ | refine ww1 ?_ | (refine wK ?_; clear hK) | (simp only [wHb, reduceCtorEq] at hb <;> try (exfalso; omega)) | refine wCd (fun hb => ?_) fun hb => ?_ | refine wCa (c := by first | exact hown | exact hthr | exact hok) (k := ?_) | refine wOq [68, 69, 196, 197, 198] (hc) ?_ | refine ww3 ?_ | ((fail_if_success refine wwN ?_); refine ww4 ?_) | refine wGd (fun hb => ?_) fun hb => ?_ | refine And.intro ?_ ?_ | exact trivial
  all_goals refine Qbw (vs := _) (acc := _) (by simp only [go_sem, Qcd]; rfl) (by simp only [go_sem, wrap, exV, exA, Qf0, Qen, exC, thB, Qao, Qaa, Qag, Qad, Qab, Qas, Nat.le_refl, Nat.zero_add, if_true, hfj, tkj]; rfl) (by simp) (by simp [Qau, Qai, Qap, Qaj, Qak, Qal, hfj, tkj]) (by simp [Qam, Qac, Qah, Qaf, Qae, Qan, Qbh])
theorem Qx6 (s : StoreD) (t t2 : ThreadD) (r : StoreD) (fs : List FrameD) (ev : List EventD) (hs : s.tiny) (ht : t.small) (hTB : Qby s t = true) (h0 : t.state = 0) (hc : SatO Tryz.prog 59 [.agg [.rf 0 s.heads.length, .rf 1 s.descs.length], .agg (thB t (.rf 2 t.prog.length) (.rf 3 t.opens.length) (.rf 4 t.stack.length))] [.root 151 (Qat s.heads), .root 89 (Qar 91 s.descs), .root 146 (Qaw t.prog), .root 91 (Qav t.opens), .root 160 (Qaq t.stack)] (.tup [.agg [.rf 5 r.heads.length, .rf 6 r.descs.length], .agg (thB t2 (.rf 2 t.prog.length) (.rf 3 t.opens.length) (.rf 7 fs.length)), .rf 8 ev.length]) [.root 151 (Qat s.heads), .root 89 (Qar 91 s.descs), .root 146 (Qaw t.prog), .root 91 (Qav t.opens), .root 160 (Qaq t.stack), .root 151 (Qat r.heads), .root 89 (Qar 91 r.descs), .root 160 (Qaq fs), .root 86 (Qa0 ev)]) :
    SatP Tryz.prog 15 [.agg (s.cells 151 89 91), .agg (t.cells 146 91 160)] (.tup [.agg [.rf 0 r.heads.length, .rf 1 r.descs.length], .agg (thB t2 (.rf 2 t.prog.length) (.rf 3 t.opens.length) (.rf 4 fs.length)), .rf 5 ev.length]) [(151, Qat r.heads), (89, Qar 91 r.descs), (146, Qaw t.prog), (91, Qav t.opens), (160, Qaq fs), (86, Qa0 ev)] := by
  have hown := Qd6 s hs.small
  have hthr := Qcp t ht
  have hok := Qcg s t hs.small ht
  have hsb : (t.state != 0) = false := by rw [h0]; rfl
  rw [hTB] at hok
  unfold StoreD.cells ThreadD.cells at *
  simp only [thB] at *
  refine wEp Tryz.func15 [.cell 4 37, .cell 5 57, .tmp 6] 31 (hp := (by simp [Qam, Qac, Qah, Qaf, Qae, Qan, Qbh])) fun E hE => ?_
  have F := wwA @Qao (wwA @Qaa (wwA @Qag (wwA @Qad (wwA @Qab (wwA @Qas (wwA @Qam (wwA @Qac (wwA @Qah (wwA @Qaf (wwA @Qae (wwA @Qan (wwA @Qbh (wwA hsb (wwA @Qau (wwA @Qai (wwA @Qap (wwA @Qaj (wwA @Qak (wwA @Qal @Nat.le_refl)))))))))))))))))))
  repeat' first | refine wSq fun _ hK => ?_ | refine Qa1 hT hM (id := 1) 8 [[0,1,2,3,4,5,6,7]] (by kernel_rfl) ?_ | refine Qa1 hT hM (id := 3) 6 [[0,1,2,3,4,5],[0,1,3,2,4,5],[0,1,3,4,2,5],[0,2,3,1,4,5],[0,3,1,2,4,5],[0,3,1,4,2,5]] (by kernel_rfl) ?_ | refine ww1 ?_ | (refine wK ?_; clear hK) | (simp only [wHb, reduceCtorEq] at hb <;> try (exfalso; omega)) | refine wCd (fun hb => ?_) fun hb => ?_ | refine wCa (c := by first | exact hown | exact hthr | exact hok) (k := ?_) | refine wOq [68, 69, 196, 197, 198] (hc) ?_ | refine ww3 ?_ | ((fail_if_success refine wwN ?_); refine ww4 ?_) | refine wGd (fun hb => ?_) fun hb => ?_ | refine And.intro ?_ ?_ | exact trivial
  all_goals refine Qbw (vs := _) (acc := _) (by simp only [go_sem, Qcd]; rfl) (by simp only [go_sem, wrap, exV, exA, Qf0, Qen, exC, thB, Qao, Qaa, Qag, Qad, Qab, Qas, Nat.le_refl, Nat.zero_add, if_true]; rfl) (by simp) (by simp [Qau, Qai, Qap, Qaj, Qak, Qal]) (by simp [Qam, Qac, Qah, Qaf, Qae, Qan, Qbh])
end Go.Proofs.YtmiojnibngncaaaGreat
namespace Go.Proofs.YtmiojnibngncaaaGreat
open Go Go.RowKit
set_option linter.unusedVariables false
set_option linter.unusedSimpArgs false
set_option maxRecDepth 100000
set_option maxHeartbeats 40000000
attribute [local irreducible] Qdo VWP Qb5 Qbn Qbs Qbu Qbj Qbt Qa3 Qbq Qcq Qc6 Qbk Qdb Qc4 Qbr Qbm Qa8
theorem Qrv : ∀ {ds : List DescS}, (∀ d ∈ ds, d.entries.length ≤ 6) → Qdf ds ≤ 6 * ds.length
  | [], _ => by simp [Qdf]
  | d :: ds, h => by
    have h1 := h d (List.mem_cons_self ..)
    have h2 := Qrv fun x hx => h x (List.mem_cons_of_mem _ hx)
    simp only [Qdf, List.length_cons]
    omega
theorem Xfd {es : List EntS} (h : Qeb es) : ∀ e ∈ es, 0 ≤ e.object := fun e he => by
  obtain ⟨i, hi⟩ := List.getElem?_of_mem he
  have := (h.1 i e hi).1
  simp [EntS.ok, inB] at this
  omega
theorem Xff {s : StoreD} {t : ThreadD} (hs : s.tiny) (h : Qby s t = true) : RunP s t := by
  simp only [Qby, Qg0, Bool.and_eq_true] at h
  obtain ⟨⟨⟨⟨⟨⟨⟨⟨h1, h2⟩, h3⟩, h4⟩, h5⟩, h6⟩, ⟨⟨h7, h8⟩, h9⟩, h10⟩, h11⟩, h12⟩ := h
  have hS : Qd2 s := by
    simp only [Qe3, Bool.and_eq_true] at h1
    exact Qq0.1 h1.1.1
  have hp : Qeb t.opens := Qq0.1 h6
  have hi := Qy6 h1
  obtain ⟨q1, q2, q3, q4, q5⟩ := hS
  have hen := Qrv fun d hd => (q4 d hd).1.2.2.2.2.2
  simp only [Qhn, Bool.and_eq_true, List.all_eq_true, decide_eq_true_eq] at h3
  simp [inB] at h4 h9 h10
  simp only [Qvz, List.all_eq_true, decide_eq_true_eq] at h11
  simp only [Xbp, Xc0, List.all_eq_true] at h5
  have r0 := h5 t.r0 (by simp)
  have r1 := h5 t.r1 (by simp)
  have r2 := h5 t.r2 (by simp)
  have r3 := h5 t.r3 (by simp)
  simp [inB] at r0 r1 r2 r3
  refine ⟨hi, hs, q2, q3, by omega, fun x hx => ?_, h3.1, h3.2, by omega, by omega, ⟨by omega, by omega, by omega, by omega⟩, hp, fun e he => ⟨Xfd hp e he, h11 e he⟩, ?_, ?_, by omega, by omega, h2⟩
  · obtain ⟨i, hi⟩ := List.getElem?_of_mem hx
    have := q5 i x hi
    simp only [Qg6, Bool.and_eq_true] at this
    have a1 := this.1.1.1
    have a2 := this.1.1.2
    simp [inB] at a1 a2
    omega
  · simp only [Xfz, Bool.or_eq_true] at h7
    rcases h7 with h | h
    · left
      simpa using h
    · right
      simp [inB] at h
      exact ⟨t.check.toNat, by omega, by omega⟩
  · simp only [Qmm, Bool.or_eq_true] at h12
    rcases h12 with h | h
    · left
      simpa using h
    · right
      simp only [Bool.and_eq_true] at h
      have := h.1.1.1.1.2
      simp [inB] at this
      exact ⟨t.mine.toNat, by omega, by omega⟩
def Xao (s : StoreD) (t : ThreadD) (f : FuncId) (s2 : StoreD) (t2 : ThreadD) (ev : List EventD) : Prop :=
  SatP Tryz.prog f [.agg (s.cells 151 89 91), .agg (t.cells 146 91 160)]
    (.tup [.agg [.rf 0 s2.heads.length, .rf 1 s2.descs.length], .agg (thB t2 (.rf 2 t2.prog.length) (.rf 3 t2.opens.length) (.rf 4 t2.stack.length)), .rf 5 ev.length])
    [(151, Qat s2.heads), (89, Qar 91 s2.descs), (146, Qaw t2.prog), (91, Qav t2.opens), (160, Qaq t2.stack), (86, Qa0 ev)]
theorem Xb0 (s : StoreD) (t : ThreadD) (hs : s.tiny) (ht : t.small) : ∃ s2 t2 ev, SzP s2 t2 ev ∧ t2.prog.length ≤ 1048576 ∧ Xao s t 18 s2 t2 ev ∧ Xao s t 15 s2 t2 ev := by
  by_cases hg : Qby s t = true ∧ t.state = 0
  · obtain ⟨hB, h0⟩ := hg
    obtain ⟨s2, t2, ev, hp, hz, hI, hR⟩ := Xbd (Xff hs hB)
    refine ⟨s2, t2, ev, hz, by rw [hp]; exact ht.1, ?_, ?_⟩
    · unfold Xao
      rw [hp]
      rcases hI with ⟨e1, e2, e3, hc⟩ | ⟨e1, e2, e3, hc⟩ | ⟨e1, e2, hc⟩ | ⟨e1, e2, hc⟩ | ⟨e1, e2, hc⟩ | ⟨e1, hc⟩ | ⟨e1, hc⟩ | ⟨e1, hc⟩
      · rw [e1, e2, e3]; exact Qxe s t t2 ev hs ht hB h0 hc
      · rw [e1, e2, e3]; exact Qyu s t t2 ev hs ht hB h0 hc
      · rw [e1, e2]; exact Qwx s t t2 _ ev hs ht hB h0 hc
      · rw [e1, e2]; exact Qyr s t t2 _ ev hs ht hB h0 hc
      · rw [e1, e2]; exact Qx9 s t t2 _ ev hs ht hB h0 hc
      · rw [e1]; exact Qyc s t t2 s2 _ ev hs ht hB h0 hc
      · rw [e1]; exact Qzg s t t2 s2 _ ev hs ht hB h0 hc
      · rw [e1]; exact Qyy s t t2 s2 _ ev hs ht hB h0 hc
    · unfold Xao
      rw [hp]
      rcases hR with ⟨e1, e2, e3, hc⟩ | ⟨e1, e2, e3, hc⟩ | ⟨e1, e2, hc⟩ | ⟨e1, e2, hc⟩ | ⟨e1, f1, f2, junk, hc⟩ | ⟨e1, f1, f2, hc⟩ | ⟨e1, f1, f2, junk, hc⟩ | ⟨e1, hc⟩
      · rw [e1, e2, e3]; exact Qzc s t t2 ev hs ht hB h0 hc
      · rw [e1, e2, e3]; exact Qx0 s t t2 ev hs ht hB h0 hc
      · rw [e1, e2]; exact Qzi s t t2 _ ev hs ht hB h0 hc
      · rw [e1, e2]; exact Qyq s t t2 _ ev hs ht hB h0 hc
      · rw [e1]; exact Qxj s t t2 s2 _ junk ev hs ht hB h0 f1 f2 hc
      · rw [e1]; exact Qzd s t t2 s2 _ ev hs ht hB h0 f1 f2 hc
      · rw [e1]; exact Qw6 s t t2 s2 _ junk ev hs ht hB h0 f1 f2 hc
      · rw [e1]; exact Qx6 s t t2 s2 _ ev hs ht hB h0 hc
  · have hg2 : Qby s t = false ∨ t.state ≠ 0 := by
      cases hB : Qby s t with
      | false => exact .inl rfl
      | true => exact .inr fun h0 => hg ⟨hB, h0⟩
    exact ⟨s, t, [], ⟨hs, ht.2.1, ht.2.2, by simp⟩, ht.1, Qu7 s t t rfl hs ht hg2, Qvf s t t rfl hs ht hg2⟩
theorem Qid (t : ThreadD) (k : Int) (h0 : 0 ≤ k) (h1 : k ≤ 1073741824) (hp : t.prog.length ≤ 1048576) (ho : t.opens.length ≤ 1048576) (hs : t.stack.length ≤ 1048576) :
    SatO Tryz.prog 23 [.agg [.int .i64 t.id, .rf 0 t.prog.length, .int .i64 t.pc, .int .i64 t.r0, .int .i64 t.r1, .int .i64 t.r2, .int .i64 t.r3, .rf 1 t.opens.length, .int .i64 t.check, .rf 2 t.stack.length, .int .i64 t.mine, .int .i64 t.state, .int .i64 t.commits, .int .i64 t.fails], .int .i64 k]
      [.root 146 (Qaw t.prog), .root 91 (Qav t.opens), .root 160 (Qaq t.stack)]
      (.int .i64 (k + 3 * t.prog.length + 5 * t.opens.length + 3 * t.stack.length))
      [.root 146 (Qaw (Qg3 k t.prog.length)), .root 91 (Qav (Qfl (k + 3 * t.prog.length) t.opens.length)), .root 160 (Qaq (Qgy (k + 3 * t.prog.length + 5 * t.opens.length) t.stack.length))] := by
  refine wEo Tryz.func23 [.tmp 4] 18 3 (by simp [Qbc, Qa6, Qbg, Qcr, Qda]) fun E hE => ?_
  have F := wwA @Qam (wwA @Qac @Qah)
  repeat' first | refine wSq fun _ hK => ?_ | refine ww1 ?_ | (refine wK ?_; clear hK) | (simp only [wHb, reduceCtorEq] at hb <;> try (exfalso; omega)) | refine wCd (fun hb => ?_) fun hb => ?_ | refine wOw [0] (c := by exact Qqj t.prog k h0 (by omega) (by omega)) (k := ?_) | refine wOw [1] (c := by exact Qjr t.opens (k + 3 * t.prog.length) (by omega) (by omega) (by omega)) (k := ?_) | refine wOw [2] (c := by exact Qqr t.stack (k + 3 * t.prog.length + 5 * t.opens.length) (by omega) (by omega) (by omega)) (k := ?_) | refine ww3 ?_ | ((fail_if_success refine wwN ?_); refine ww4 ?_) | refine wGd (fun hb => ?_) fun hb => ?_ | exact trivial
  exact Qbf [] rfl [.root 146 (Qaw (Qg3 k t.prog.length)), .root 91 (Qav (Qfl (k + 3 * t.prog.length) t.opens.length)), .root 160 (Qaq (Qgy (k + 3 * t.prog.length + 5 * t.opens.length) t.stack.length))] rfl
    (by simp [Qbx, Qbd, HpE]) rfl (by simp only [go_sem, Qcd]; rfl) (acc := []) rfl (by simp) rfl
theorem Qnz (t : ThreadD) (k : Int) (h0 : 0 ≤ k) (h1 : k ≤ 1073741824) (hp : t.prog.length ≤ 1048576) (ho : t.opens.length ≤ 1048576) (hs : t.stack.length ≤ 1048576) :
    SatP Tryz.prog 26 [.agg [.int .i64 t.id, .fr 146 (Qaw (Qg3 k t.prog.length)), .int .i64 t.pc, .int .i64 t.r0, .int .i64 t.r1, .int .i64 t.r2, .int .i64 t.r3, .fr 91 (Qav (Qfl (k + 3 * t.prog.length) t.opens.length)), .int .i64 t.check,
        .fr 160 (Qaq (Qgy (k + 3 * t.prog.length + 5 * t.opens.length) t.stack.length)), .int .i64 t.mine, .int .i64 t.state, .int .i64 t.commits, .int .i64 t.fails], .int .i64 k]
      (.int .i64 (k + 3 * t.prog.length + 5 * t.opens.length + 3 * t.stack.length)) [] := by
  refine wEp Tryz.func26 [.tmp 4] 24 fun E hE => ?_
  have F := (Eq.refl 0)
  repeat' first | refine wSq fun _ hK => ?_ | refine ww1 ?_ | (refine wK ?_; clear hK) | (simp only [wHb, reduceCtorEq] at hb <;> try (exfalso; omega)) | refine wCd (fun hb => ?_) fun hb => ?_ | refine wCa (c := by first | exact Qpz t.prog.length k h0 (by omega) (by omega) | exact Qjs t.opens.length (k + 3 * t.prog.length) (by omega) (by omega) (by omega) | exact Qqb t.stack.length (k + 3 * t.prog.length + 5 * t.opens.length) (by omega) (by omega) (by omega)) (k := ?_) | refine ww3 ?_ | ((fail_if_success refine wwN ?_); refine ww4 ?_) | refine wGd (fun hb => ?_) fun hb => ?_ | exact trivial
  refine wLf ?_
  rfl
theorem Qw4 (s : StoreD) (t : ThreadD) (hf : s.fits) (ht : t.fits) : SatP Tryz.prog 4 [.agg (s.cells 153 139 158), .agg (t.cells 156 158 162)] (.bool true) [] := by
  have hz := Qpk s 1048576 (by omega)
  obtain ⟨g1, g2, g3⟩ := ht
  refine wEp Tryz.func4 [.tmp 4] 172 fun E hE => ?_
  rcases Int.lt_or_le (szS s 1048576) 0 with hbig | hsm
  · have hz2 := hz.2 hbig
    unfold StoreD.cells ThreadD.cells
    have F := hz2
    repeat' first | refine wSq fun _ hK => ?_ | refine ww1 ?_ | (refine wK ?_; clear hK) | (simp only [wHb, reduceCtorEq] at hb <;> try (exfalso; omega)) | refine wCd (fun hb => ?_) fun hb => ?_ | refine wCa (c := by first | exact Qj5 s _ (by omega) (by omega) hf) (k := ?_) | refine ww3 ?_ | ((fail_if_success refine wwN ?_); refine ww4 ?_) | refine wGd (fun hb => ?_) fun hb => ?_ | exact trivial
    refine wLf ?_
    rfl
  have hn : ¬ szS s 1048576 < 0 := by omega
  have hs := Xce (by omega) (by omega) hsm
  have hst := Xdi (by omega) (by omega) hsm
  have hz1 := hz.1 hsm
  obtain ⟨z1, z2⟩ := Xeb t (szS s 1048576)
  rcases Int.lt_or_le (szT t (szS s 1048576)) 0 with hb2 | hs2
  · have hz3 := z2 hb2
    unfold StoreD.cells ThreadD.cells
    have F := wwA hn hz3
    repeat' first | refine wSq fun _ hK => ?_ | refine ww1 ?_ | (refine wK ?_; clear hK) | (simp only [wHb, reduceCtorEq] at hb <;> try (exfalso; omega)) | refine wCd (fun hb => ?_) fun hb => ?_ | refine wCa (c := by first | exact Qj5 s _ (by omega) (by omega) hf | exact Qmr t _ (by omega) (by omega) g1 g2 g3) (k := ?_) | refine ww3 ?_ | ((fail_if_success refine wwN ?_); refine ww4 ?_) | refine wGd (fun hb => ?_) fun hb => ?_ | exact trivial
    refine wLf ?_
    rfl
  have hn2 : ¬ szT t (szS s 1048576) < 0 := by omega
  have z3 := z1 hs2
  have ht : t.small := ⟨by omega, by omega, by omega⟩
  obtain ⟨s2, t2, ev, ⟨y1, y2, y3, y4⟩, y5, c1, c2⟩ := Xb0 s t hst ht
  unfold Xao at c1 c2
  obtain ⟨p1, p2, p3⟩ := ht
  have q0 := Qo6 s s hs
  have q1 := Qo6 s2 s2 y1.small
  have q2 := Qmc t t p1 p2 p3
  have q3 := Qmc t2 t2 y5 y2 y3
  have q4 := Qvl ev ev (by omega)
  have k1 := Qxa s hs
  have k2 := Qul t p1 p2 p3
  have hct := Qin s.descs (Nat.le_refl _)
  have hcr := Qin s2.descs (Nat.le_refl _)
  have hcs : Qlg s = 3 * (s.heads.length : Int) + Qic s.descs s.descs.length := rfl
  have hcq : Qlg s2 = 3 * (s2.heads.length : Int) + Qic s2.descs s2.descs.length := rfl
  obtain ⟨b1, b2, b3⟩ := hst
  obtain ⟨b4, b5, b6⟩ := y1
  have hm := Qku s 1 (by omega) (by omega) ⟨b1, b2, b3⟩
  have hmt := Qid t (1 + Qlg s) (by omega) (by omega) p1 p2 p3
  have hmr := Qku s2 1 (by omega) (by omega) ⟨b4, b5, b6⟩
  have hmu := Qid t2 (1 + Qlg s2) (by omega) (by omega) y5 y2 y3
  have hme := Qpq ev (1 + Qlg s2 + 3 * t2.prog.length + 5 * t2.opens.length + 3 * t2.stack.length) (by omega) (by omega) (by omega)
  have hhr := Qsw s2 1 (by omega) (by omega) ⟨b4, b5, b6⟩
  have hhu := Qnz t2 (1 + Qlg s2) (by omega) (by omega) y5 y2 y3
  have hhe := Qqp ev.length (1 + Qlg s2 + 3 * t2.prog.length + 5 * t2.opens.length + 3 * t2.stack.length) (by omega) (by omega) (by omega)
  have n1 : ¬ 1 + Qlg s + 3 * (t.prog.length : Int) + 5 * (t.opens.length : Int) + 3 * (t.stack.length : Int) < 0 := by omega
  have n2 : ¬ 1 + Qlg s2 < 0 := by omega
  have n3 : ¬ 1 + Qlg s2 + 3 * (t2.prog.length : Int) + 5 * (t2.opens.length : Int) + 3 * (t2.stack.length : Int) < 0 := by omega
  have n4 : ¬ 1 + Qlg s2 + 3 * (t2.prog.length : Int) + 5 * (t2.opens.length : Int) + 3 * (t2.stack.length : Int) + 4 * (ev.length : Int) < 0 := by omega
  have t1 := Qaj (Qf1 1 s2).heads
  have t2' := Qak 91 (Qf1 1 s2).descs
  have l1 : (Qf1 1 s2).heads.length = s2.heads.length := by simp [Qf1, Qgc]
  have l2 : (Qf1 1 s2).descs.length = s2.descs.length := by simp [Qf1, Qgj]
  have t3 := Qau (Qg3 (1 + Qlg s2) t2.prog.length)
  have t4 := Qai (Qfl (1 + Qlg s2 + 3 * t2.prog.length) t2.opens.length)
  have t5 := Qap (Qgy (1 + Qlg s2 + 3 * t2.prog.length + 5 * t2.opens.length) t2.stack.length)
  have t6 := Qal (Qje (1 + Qlg s2 + 3 * t2.prog.length + 5 * t2.opens.length + 3 * t2.stack.length) ev.length)
  have l3 := Qf9 (1 + Qlg s2) t2.prog.length
  have l4 := Qek (1 + Qlg s2 + 3 * t2.prog.length) t2.opens.length
  have l5 := Qgi (1 + Qlg s2 + 3 * t2.prog.length + 5 * t2.opens.length) t2.stack.length
  have l6 := Qgf (1 + Qlg s2 + 3 * t2.prog.length + 5 * t2.opens.length + 3 * t2.stack.length) ev.length
  rw [l1] at t1
  rw [l2] at t2'
  rw [l3] at t3
  rw [l4] at t4
  rw [l5] at t5
  rw [l6] at t6
  clear hcs hcq hct hcr
  unfold StoreD.cells ThreadD.cells at *
  simp only [thB] at *
  have F := wwA hn (wwA hn2 (wwA n1 (wwA n2 (wwA n3 (wwA n4 (wwA t1 (wwA t2' (wwA t3 (wwA t4 (wwA t5 (wwA t6 (wwA l1 (wwA l2 (wwA l3 (wwA l4 (wwA l5 (wwA l6 (wwA @Qad (wwA @Qaf (wwA @Qaj (wwA @Qab (wwA @Qae (wwA @Qak (wwA @Qao (wwA @Qam (wwA @Qau (wwA @Qaa (wwA @Qac (wwA @Qai (wwA @Qag (wwA @Qah (wwA @Qap (wwA @Qas (wwA @Qan (wwA @Qal (wwA @bne_self_eq_false.{0} @Nat.le_refl))))))))))))))))))))))))))))))))))))
  repeat' first | refine wSq fun _ hK => ?_ | refine Qa1 hT hM (id := 8) 14 [[0,1,2,3,4,5,6,7,8,9,10,11,12,13]] (by kernel_rfl) ?_ | refine Qa1 hT hM (id := 39) 14 [[0,1,2,3,4,5,6,7,8,9,10,11,12,13]] (by kernel_rfl) ?_ | refine ww1 ?_ | (refine wK ?_; clear hK) | (simp only [wHb, reduceCtorEq] at hb <;> try (exfalso; omega)) | refine wCd (fun hb => ?_) fun hb => ?_ | refine wCa (c := by first | exact Qj5 s _ (by omega) (by omega) hf | exact Qmr t _ (by omega) (by omega) g1 g2 g3 | exact k1 | exact k2 | exact c1 | exact c2 | exact q0 | exact q1 | exact q2 | exact q3 | exact q4 | exact hhr | exact hhu | exact hhe) (k := ?_) | refine wOq [898, 899] (hm) ?_ | refine wOq [901, 902, 903] (hmt) ?_ | refine wOq [905, 906] (hmr) ?_ | refine wOq [907, 908, 909] (hmu) ?_ | refine wOq [910] (hme) ?_ | refine ww3 ?_ | ((fail_if_success refine wwN ?_); refine ww4 ?_) | refine wGd (fun hb => ?_) fun hb => ?_ | refine And.intro ?_ ?_ | exact trivial
  all_goals try (refine wLf ?_; rfl)
end Go.Proofs.YtmiojnibngncaaaGreat
