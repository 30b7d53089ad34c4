/- What the claim rests on, part 16: the value-level engine and contracts of functions; no condition. -/
import Derived.Test.YtmiojnibngncaaaGreatZQj
import Derived.Test.YtmiojnibngncaaaGreatZQo
import Derived.Test.YtmiojnibngncaaaGreatZQn
import Derived.Test.YtmiojnibngncaaaGreatZQk
import Derived.Test.YtmiojnibngncaaaGreatZQl
namespace Go.Proofs.YtmiojnibngncaaaGreat
open Go Go.RowKit
set_option linter.unusedVariables false
set_option linter.unusedSimpArgs false
set_option maxRecDepth 100000
set_option maxHeartbeats 4000000
attribute [local irreducible] Qdo VWP Qb5 Qbn Qbs Qbu Qbj Qbt Qa3 Qbq Qcq Qc6 Qbk Qdb Qc4 Qbr Qbm Qa8
def ThreadD.pts (ti te tf : TypeId) (t : ThreadD) : List PT := [.int .i64 t.id, .list ti (Qaw t.prog), .int .i64 t.pc, .int .i64 t.r0, .int .i64 t.r1, .int .i64 t.r2, .int .i64 t.r3, .list te (Qav t.opens), .int .i64 t.check, .list tf (Qaq t.stack), .int .i64 t.mine, .int .i64 t.state, .int .i64 t.commits, .int .i64 t.fails]
def thB (t : ThreadD) (vp vo vs : VV) : List VV := [.int .i64 t.id, vp, .int .i64 t.pc, .int .i64 t.r0, .int .i64 t.r1, .int .i64 t.r2, .int .i64 t.r3, vo, .int .i64 t.check, vs, .int .i64 t.mine, .int .i64 t.state, .int .i64 t.commits, .int .i64 t.fails]
theorem Qay : Qa0 [] = [] := rfl
theorem Xa4 (a b c d : Int) (es : List EventD) : Qa0 (⟨a, b, c, d⟩ :: es) = [.int .i64 a, .int .i64 b, .int .i64 c, .int .i64 d] :: Qa0 es := rfl
theorem Qbh : Qbb [] := fun r hr => by cases hr
theorem Qda : (∀ es, Qbb (Qaw es)) ∧ (∀ es, Qbb (Qav es)) ∧ (∀ es, Qbb (Qaq es)) ∧ (∀ es, Qbb (Qat es)) ∧ (∀ te ds, Qbb (Qar te ds)) ∧ (∀ es, Qbb (Qa0 es)) ∧ Qbb [] := ⟨Qam, Qac, Qah, Qaf, Qae, Qan, Qbh⟩
theorem Qwe (t : ThreadD) (kind : Int) : SatP Tryz.prog 134 [.fp (t.pts 146 91 160), .int .i64 kind] (.rf 0 1) [(86, Qa0 [⟨kind, t.id, 0, 0⟩])] := by
  refine wEp Tryz.func134 [.tmp 4] 12 (hp := (by simp [ThreadD.pts, Qam, Qac, Qah, Qan])) fun E hE => ?_
  unfold ThreadD.pts
  have F := (Eq.refl 0)
  repeat' first | refine wSq fun _ hK => ?_ | refine ww1 ?_ | (refine wK ?_; clear hK) | (simp only [wHb, reduceCtorEq] at hb <;> try (exfalso; omega)) | refine wCd (fun hb => ?_) fun hb => ?_ | refine ww3 ?_ | ((fail_if_success refine wwN ?_); refine ww4 ?_) | refine wGd (fun hb => ?_) fun hb => ?_ | exact trivial
  all_goals refine Qhz (T := 0) (by simp only [go_sem]; try simp) (by simp only [go_sem]; try rfl) (by simp [Qa0]) (Qan _)
theorem Qli {i p r0 r1 r2 r3 c m st co fa : Int} {xs : List InsS} {es : List EntS} {fs : List FrameD} (kind : Int) : SatP Tryz.prog 134 [.fp [.int .i64 i, .list 146 (Qaw xs), .int .i64 p, .int .i64 r0, .int .i64 r1, .int .i64 r2, .int .i64 r3, .list 91 (Qav es), .int .i64 c, .list 160 (Qaq fs), .int .i64 m, .int .i64 st, .int .i64 co, .int .i64 fa], .int .i64 kind] (.rf 0 1) [(86, Qa0 [⟨kind, i, 0, 0⟩])] := Qwe ⟨i, xs, p, r0, r1, r2, r3, es, c, fs, m, st, co, fa⟩ kind
theorem Qpw {i p r0 r1 r2 r3 c m st co fa : Int} {xs : List InsS} {fs : List FrameD} (kind : Int) : SatP Tryz.prog 134 [.fp [.int .i64 i, .list 146 (Qaw xs), .int .i64 p, .int .i64 r0, .int .i64 r1, .int .i64 r2, .int .i64 r3, .list 91 [], .int .i64 c, .list 160 (Qaq fs), .int .i64 m, .int .i64 st, .int .i64 co, .int .i64 fa], .int .i64 kind] (.rf 0 1) [(86, Qa0 [⟨kind, i, 0, 0⟩])] := Qwe ⟨i, xs, p, r0, r1, r2, r3, [], c, fs, m, st, co, fa⟩ kind
theorem Qmp (a b : Int) : SatP Tryz.prog 159 [.int .i64 a, .int .i64 b] (.int .i64 (if a < b then a else b)) [] := by
  refine wEp Tryz.func159 [.tmp 4] 10 fun E hE => ?_
  have F := (Eq.refl 0)
  repeat' first | refine wSq fun _ hK => ?_ | refine ww1 ?_ | (refine wK ?_; clear hK) | (simp only [wHb, reduceCtorEq] at hb <;> try (exfalso; omega)) | refine wCd (fun hb => ?_) fun hb => ?_ | refine ww3 ?_ | ((fail_if_success refine wwN ?_); refine ww4 ?_) | refine wGd (fun hb => ?_) fun hb => ?_ | exact trivial
  all_goals refine wLf ?_
  all_goals first | rw [if_pos (by omega)] | rw [if_neg (by omega)]
theorem Xga (a b : Int) : SatP Tryz.prog 162 [.int .i64 a, .int .i64 b] (.int .i64 (if a > b then a else b)) [] := by
  refine wEp Tryz.func162 [.tmp 4] 10 fun E hE => ?_
  have F := (Eq.refl 0)
  repeat' first | refine wSq fun _ hK => ?_ | refine ww1 ?_ | (refine wK ?_; clear hK) | (simp only [wHb, reduceCtorEq] at hb <;> try (exfalso; omega)) | refine wCd (fun hb => ?_) fun hb => ?_ | refine ww3 ?_ | ((fail_if_success refine wwN ?_); refine ww4 ?_) | refine wGd (fun hb => ?_) fun hb => ?_ | exact trivial
  all_goals refine wLf ?_
  all_goals first | rw [if_pos (by omega)] | rw [if_neg (by omega)]
theorem Qcw (t : ThreadD) (ht : t.small) :
    SatP Tryz.prog 67 [.agg (t.cells 146 91 160)]
      (.agg [.int .i64 t.id, .rf 0 t.prog.length, .int .i64 t.pc, .int .i64 t.r0, .int .i64 t.r1, .int .i64 t.r2, .int .i64 t.r3, .rf 1 t.opens.length, .int .i64 t.check, .rf 2 t.stack.length, .int .i64 t.mine, .int .i64 t.state, .int .i64 t.commits, .int .i64 t.fails])
      [(146, Qaw t.prog), (91, Qav t.opens), (160, Qaq t.stack)] := by
  obtain ⟨hp, ho, hs⟩ := ht
  refine wEp Tryz.func67 [.cell 2 57] 17 (hp := (by simp [Qam, Qac, Qah])) fun E hE => ?_
  unfold ThreadD.cells
  have F := wwA @Qao (wwA @Qn7 (wwA @Qau (wwA @Qaa @Qag)))
  repeat' first | refine wSq fun _ hK => ?_ | refine Qa1 hT hM (id := 1) 16 [[0,1,2,3,4,5,6,7,8,9,10,11,12,13,14,15],[0,1,2,4,3,5,6,7,8,9,10,11,12,13,14,15],[0,1,2,4,5,3,6,7,8,9,10,11,12,13,14,15],[0,1,2,4,5,7,3,6,8,9,10,11,12,13,14,15],[0,1,2,4,5,7,8,3,6,9,10,11,12,13,14,15],[0,1,2,4,7,3,5,6,8,9,10,11,12,13,14,15],[0,1,2,4,7,8,3,5,6,9,10,11,12,13,14,15],[0,1,2,7,3,4,5,6,8,9,10,11,12,13,14,15],[0,1,2,7,8,3,4,5,6,9,10,11,12,13,14,15]] (by kernel_rfl) ?_ | refine ww1 ?_ | (refine wK ?_; clear hK) | (simp only [wHb, reduceCtorEq] at hb <;> try (exfalso; omega)) | refine wCd (fun hb => ?_) fun hb => ?_ | refine wCa (c := by first | exact Qde t.opens (by omega) | exact Qem t.stack hs) (k := ?_) | refine ww3 ?_ | ((fail_if_success refine wwN ?_); refine ww4 ?_) | refine wGd (fun hb => ?_) fun hb => ?_ | refine And.intro ?_ ?_ | exact trivial
  all_goals refine Qbw (vs := _) (acc := _) (by simp only [go_sem, Qcd]; rfl) (by simp only [go_sem, wrap, exV, exA, Qen, exC, Qao, Qaa, Qag, Nat.le_refl, Nat.zero_add, if_true]; rfl) (by simp) (by simp [List.take_of_length_le, Qao, Qaa, Qag]) (by simp [Qam, Qac, Qah])
theorem Qcp (t : ThreadD) (ht : t.small) :
    SatP Tryz.prog 57 [.agg (t.cells 146 91 160)]
      (.agg [.int .i64 t.id, .rf 0 t.prog.length, .int .i64 t.pc, .int .i64 t.r0, .int .i64 t.r1, .int .i64 t.r2, .int .i64 t.r3, .rf 1 t.opens.length, .int .i64 t.check, .rf 2 t.stack.length, .int .i64 t.mine, .int .i64 t.state, .int .i64 t.commits, .int .i64 t.fails])
      [(146, Qaw t.prog), (91, Qav t.opens), (160, Qaq t.stack)] := by
  obtain ⟨hp, ho, hs⟩ := ht
  refine wEp Tryz.func57 [.cell 2 57] 17 (hp := (by simp [Qam, Qac, Qah])) fun E hE => ?_
  unfold ThreadD.cells
  have F := wwA @Qao (wwA @Qn7 (wwA @Qau (wwA @Qaa @Qag)))
  repeat' first | refine wSq fun _ hK => ?_ | refine ww1 ?_ | (refine wK ?_; clear hK) | (simp only [wHb, reduceCtorEq] at hb <;> try (exfalso; omega)) | refine wCd (fun hb => ?_) fun hb => ?_ | refine wCa (c := by first | exact Qfm t.opens (by omega) | exact Xa5 t.stack hs) (k := ?_) | refine ww3 ?_ | ((fail_if_success refine wwN ?_); refine ww4 ?_) | refine wGd (fun hb => ?_) fun hb => ?_ | exact trivial
  all_goals refine Qbw (vs := _) (acc := _) (by simp only [go_sem, Qcd]; rfl) (by simp only [go_sem, wrap, exV, exA, Qen, exC, Qao, Qaa, Qag, Nat.le_refl, Nat.zero_add, if_true]; rfl) (by simp) (by simp [List.take_of_length_le, Qao, Qaa, Qag]) (by simp [Qam, Qac, Qah])
def Qlr (n : Int) : Int := if 1000000 < n + 1 then 1000000 else n + 1
theorem Xgg (t : ThreadD) (h0 : 0 ≤ t.fails) (h1 : t.fails ≤ 1000000) : SatO Tryz.prog 173 [.bp 0 0] [.box (thB t (.rf 1 t.prog.length) (.rf 2 t.opens.length) (.rf 3 t.stack.length)), .root 146 (Qaw t.prog), .root 91 (Qav t.opens), .root 160 (Qaq t.stack)] (.rf 4 1) [.box (thB {t with pc := 0, r0 := 0, r1 := 0, r2 := 0, r3 := 0, check := -1, fails := Qlr t.fails} (.rf 1 t.prog.length) (.nl 91) (.rf 3 t.stack.length)), .root 146 (Qaw t.prog), .root 91 (Qav t.opens), .root 160 (Qaq t.stack), .root 86 (Qa0 [⟨4, t.id, 0, 0⟩])] := by
  have hw : IntKind.i64.wrap (t.fails + 1) = t.fails + 1 := Qax (by omega)
  have hmn : (if 1000000 < t.fails + 1 then 1000000 else t.fails + 1) = Qlr t.fails := rfl
  simp only [thB]
  refine wEo Tryz.func173 [.tmp 2] 27 4 (by simp [Qbc, Qa6, Qbg, Qcr, Qda]) fun E hE => ?_
  have F := wwA hw (wwA hmn (wwA @Qas (wwA @Qao (wwA @Qam (wwA @Qaa (wwA @Qac (wwA @Qag (wwA @Qah (wwA @Qau (wwA @Qai (wwA @Qap (wwA @Qan (wwA @Qal (wwA @Qay @Nat.le_refl))))))))))))))
  repeat' first | refine wSq fun _ hK => ?_ | refine ww1 ?_ | (refine wK ?_; clear hK) | (simp only [wHb, reduceCtorEq] at hb <;> try (exfalso; omega)) | refine wCd (fun hb => ?_) fun hb => ?_ | refine wCa (c := by first | exact Qpw _) (k := ?_) | refine ww3 ?_ | ((fail_if_success refine wwN ?_); refine ww4 ?_) | refine wGd (fun hb => ?_) fun hb => ?_ | exact trivial
  all_goals refine wRo [] [_, _, _, _]
theorem Qzo (t : ThreadD) (h0 : 0 ≤ t.fails) (h1 : t.fails ≤ 1000000) : SatO Tryz.prog 173 [.bp 0 0] [.box (thB t (.rf 1 t.prog.length) (.nl 91) (.rf 2 t.stack.length)), .root 146 (Qaw t.prog), .root 160 (Qaq t.stack)] (.rf 3 1) [.box (thB {t with pc := 0, r0 := 0, r1 := 0, r2 := 0, r3 := 0, check := -1, fails := Qlr t.fails} (.rf 1 t.prog.length) (.nl 91) (.rf 2 t.stack.length)), .root 146 (Qaw t.prog), .root 160 (Qaq t.stack), .root 86 (Qa0 [⟨4, t.id, 0, 0⟩])] := by
  have hw : IntKind.i64.wrap (t.fails + 1) = t.fails + 1 := Qax (by omega)
  have hmn : (if 1000000 < t.fails + 1 then 1000000 else t.fails + 1) = Qlr t.fails := rfl
  simp only [thB]
  refine wEo Tryz.func173 [.tmp 2] 27 3 (by simp [Qbc, Qa6, Qbg, Qcr, Qda]) fun E hE => ?_
  have F := wwA hw (wwA hmn (wwA @Qas (wwA @Qao (wwA @Qam (wwA @Qaa (wwA @Qac (wwA @Qag (wwA @Qah (wwA @Qau (wwA @Qai (wwA @Qap (wwA @Qan (wwA @Qal (wwA @Qay @Nat.le_refl))))))))))))))
  repeat' first | refine wSq fun _ hK => ?_ | refine ww1 ?_ | (refine wK ?_; clear hK) | (simp only [wHb, reduceCtorEq] at hb <;> try (exfalso; omega)) | refine wCd (fun hb => ?_) fun hb => ?_ | refine wCa (c := by first | exact Qpw _) (k := ?_) | refine ww3 ?_ | ((fail_if_success refine wwN ?_); refine ww4 ?_) | refine wGd (fun hb => ?_) fun hb => ?_ | exact trivial
  all_goals refine wRo [] [_, _, _]
theorem Qmz (t : ThreadD) (n : Int) (hl : t.stack.length ≤ 1048576) : SatO Tryz.prog 174 [.bp 0 0, .int .i64 n] [.box (thB t (.rf 1 t.prog.length) (.rf 2 t.opens.length) (.rf 3 t.stack.length)), .root 146 (Qaw t.prog), .root 91 (Qav t.opens), .root 160 (Qaq t.stack)] (.tup []) [.box (thB t (.rf 1 t.prog.length) (.rf 2 t.opens.length) (.rf 4 (t.stack.length + 1))), .root 146 (Qaw t.prog), .root 91 (Qav t.opens), .dead, .root 160 (Qaq (t.stack ++ [⟨n, 0, 0⟩]))] := by
  have happ : Qaq t.stack ++ [[.int .i64 n, .int .i64 0, .int .i64 0]] = Qaq (t.stack ++ [⟨n, 0, 0⟩]) := by simp [Qaq, FrameD.enc]
  have happ2 : (Qaq t.stack).take t.stack.length ++ [[.int .i64 n, .int .i64 0, .int .i64 0]] = Qaq (t.stack ++ [⟨n, 0, 0⟩]) := by rw [Qap]; exact happ
  have hlen : (t.stack ++ [(⟨n, 0, 0⟩ : FrameD)]).length = t.stack.length + 1 := by simp
  have htk : (Qaq (t.stack ++ [(⟨n, 0, 0⟩ : FrameD)])).take (t.stack.length + 1) = Qaq (t.stack ++ [⟨n, 0, 0⟩]) := by rw [List.take_of_length_le (by rw [Qag, hlen]; exact Nat.le_refl _)]
  simp only [thB]
  refine wEo Tryz.func174 [] 15 4 (by simp [Qbc, Qa6, Qbg, Qcr, Qda]) fun E hE => ?_
  have F := wwA @Qao (wwA @Qam (wwA @Qaa (wwA @Qac (wwA @Qag (wwA @Qah (wwA @Qau (wwA @Qai (wwA @Qap (wwA @Qas (wwA @Qan (wwA @Qal (wwA @Qay (wwA @Nat.le_refl (wwA happ (wwA happ2 (wwA hlen htk))))))))))))))))
  repeat' first | refine wSq fun _ hK => ?_ | refine ww1 ?_ | (refine wK ?_; clear hK) | (simp only [wHb, reduceCtorEq] at hb <;> try (exfalso; omega)) | refine wCd (fun hb => ?_) fun hb => ?_ | refine ww3 ?_ | ((fail_if_success refine wwN ?_); refine ww4 ?_) | refine wGd (fun hb => ?_) fun hb => ?_ | exact trivial
  all_goals refine wRo [] [_, _, _, _]
def Qp9 (n : Int) : Int := if (if 1000000000 < n then 1000000000 else n) < -1000000000 then -1000000000 else (if 1000000000 < n then 1000000000 else n)
def Xfv (t t2 : ThreadD) (a x : Int) : Prop := (a = 0 ∧ t2 = { t with r0 := x, pc := t.pc + 1 }) ∨ (a = 1 ∧ t2 = { t with r1 := x, pc := t.pc + 1 }) ∨ (a = 2 ∧ t2 = { t with r2 := x, pc := t.pc + 1 }) ∨ (a = 3 ∧ t2 = { t with r3 := x, pc := t.pc + 1 })
def GetC (t : ThreadD) (a x : Int) : Prop := (a = 0 ∧ x = t.r0) ∨ (a = 1 ∧ x = t.r1) ∨ (a = 2 ∧ x = t.r2) ∨ (a = 3 ∧ x = t.r3)
def Qg8 (n : Int) : Prop := -1000000000 ≤ n ∧ n ≤ 1000000000
def Xh2 (t t2 : ThreadD) (a b : Int) : Prop := (a = 0 ∧ b = 0 ∧ Qg8 t.r0 ∧ Qg8 t.r0 ∧ t2 = { t with r0 := Qp9 (t.r0 + t.r0), pc := t.pc + 1 }) ∨ (a = 0 ∧ b = 1 ∧ Qg8 t.r0 ∧ Qg8 t.r1 ∧ t2 = { t with r0 := Qp9 (t.r0 + t.r1), pc := t.pc + 1 }) ∨ (a = 0 ∧ b = 2 ∧ Qg8 t.r0 ∧ Qg8 t.r2 ∧ t2 = { t with r0 := Qp9 (t.r0 + t.r2), pc := t.pc + 1 }) ∨ (a = 0 ∧ b = 3 ∧ Qg8 t.r0 ∧ Qg8 t.r3 ∧ t2 = { t with r0 := Qp9 (t.r0 + t.r3), pc := t.pc + 1 }) ∨ (a = 1 ∧ b = 0 ∧ Qg8 t.r1 ∧ Qg8 t.r0 ∧ t2 = { t with r1 := Qp9 (t.r1 + t.r0), pc := t.pc + 1 }) ∨ (a = 1 ∧ b = 1 ∧ Qg8 t.r1 ∧ Qg8 t.r1 ∧ t2 = { t with r1 := Qp9 (t.r1 + t.r1), pc := t.pc + 1 }) ∨ (a = 1 ∧ b = 2 ∧ Qg8 t.r1 ∧ Qg8 t.r2 ∧ t2 = { t with r1 := Qp9 (t.r1 + t.r2), pc := t.pc + 1 }) ∨ (a = 1 ∧ b = 3 ∧ Qg8 t.r1 ∧ Qg8 t.r3 ∧ t2 = { t with r1 := Qp9 (t.r1 + t.r3), pc := t.pc + 1 }) ∨ (a = 2 ∧ b = 0 ∧ Qg8 t.r2 ∧ Qg8 t.r0 ∧ t2 = { t with r2 := Qp9 (t.r2 + t.r0), pc := t.pc + 1 }) ∨ (a = 2 ∧ b = 1 ∧ Qg8 t.r2 ∧ Qg8 t.r1 ∧ t2 = { t with r2 := Qp9 (t.r2 + t.r1), pc := t.pc + 1 }) ∨ (a = 2 ∧ b = 2 ∧ Qg8 t.r2 ∧ Qg8 t.r2 ∧ t2 = { t with r2 := Qp9 (t.r2 + t.r2), pc := t.pc + 1 }) ∨ (a = 2 ∧ b = 3 ∧ Qg8 t.r2 ∧ Qg8 t.r3 ∧ t2 = { t with r2 := Qp9 (t.r2 + t.r3), pc := t.pc + 1 }) ∨ (a = 3 ∧ b = 0 ∧ Qg8 t.r3 ∧ Qg8 t.r0 ∧ t2 = { t with r3 := Qp9 (t.r3 + t.r0), pc := t.pc + 1 }) ∨ (a = 3 ∧ b = 1 ∧ Qg8 t.r3 ∧ Qg8 t.r1 ∧ t2 = { t with r3 := Qp9 (t.r3 + t.r1), pc := t.pc + 1 }) ∨ (a = 3 ∧ b = 2 ∧ Qg8 t.r3 ∧ Qg8 t.r2 ∧ t2 = { t with r3 := Qp9 (t.r3 + t.r2), pc := t.pc + 1 }) ∨ (a = 3 ∧ b = 3 ∧ Qg8 t.r3 ∧ Qg8 t.r3 ∧ t2 = { t with r3 := Qp9 (t.r3 + t.r3), pc := t.pc + 1 })
def IfC (t t2 : ThreadD) (a b : Int) : Prop := (a = 0 ∧ ¬ t.r0 = 0 ∧ t2 = { t with pc := b }) ∨ (a = 0 ∧ t.r0 = 0 ∧ t2 = { t with pc := t.pc + 1 }) ∨ (a = 1 ∧ ¬ t.r1 = 0 ∧ t2 = { t with pc := b }) ∨ (a = 1 ∧ t.r1 = 0 ∧ t2 = { t with pc := t.pc + 1 }) ∨ (a = 2 ∧ ¬ t.r2 = 0 ∧ t2 = { t with pc := b }) ∨ (a = 2 ∧ t.r2 = 0 ∧ t2 = { t with pc := t.pc + 1 }) ∨ (a = 3 ∧ ¬ t.r3 = 0 ∧ t2 = { t with pc := b }) ∨ (a = 3 ∧ t.r3 = 0 ∧ t2 = { t with pc := t.pc + 1 })
theorem Qup (t t2 : ThreadD) (a b : Int) (h0 : 0 ≤ t.pc) (h1 : t.pc ≤ 1048576) (hs : Xfv t t2 a b) : SatO Tryz.prog 136 [.bp 0 0, .agg [.int .i64 3, .int .i64 a, .int .i64 b]] [.box (thB t (.rf 1 t.prog.length) (.rf 2 t.opens.length) (.rf 3 t.stack.length)), .root 146 (Qaw t.prog), .root 91 (Qav t.opens), .root 160 (Qaq t.stack)] (.rf 4 0) [.box (thB t2 (.rf 1 t.prog.length) (.rf 2 t.opens.length) (.rf 3 t.stack.length)), .root 146 (Qaw t.prog), .root 91 (Qav t.opens), .root 160 (Qaq t.stack), .root 86 (Qa0 [])] := by
  have hw : IntKind.i64.wrap (t.pc + 1) = t.pc + 1 := Qax (by omega)
  rcases hs with ⟨rfl, rfl⟩ | ⟨rfl, rfl⟩ | ⟨rfl, rfl⟩ | ⟨rfl, rfl⟩
  all_goals
    simp only [thB]
    refine wEo Tryz.func136 [.tmp 4] 78 4 (by simp [Qbc, Qa6, Qbg, Qcr, Qda]) fun E hE => ?_
    have F := wwA hw (wwA @Qao (wwA @Qam (wwA @Qaa (wwA @Qac (wwA @Qag (wwA @Qah (wwA @Qau (wwA @Qai (wwA @Qap (wwA @Qas (wwA @Qan (wwA @Qal (wwA @Qay @Nat.le_refl)))))))))))))
    repeat' first | refine wSq fun _ hK => ?_ | refine ww1 ?_ | (refine wK ?_; clear hK) | (simp only [wHb, reduceCtorEq] at hb <;> try (exfalso; omega)) | refine Qcf (fun hb => ?_) fun hb => ?_ | refine Qce ?_ | ((fail_if_success refine wwN ?_); refine ww4 ?_) | refine Qcc (fun hb => ?_) fun hb => ?_ | exact trivial
    all_goals refine wRo [] [_, _, _, _]
theorem Xfa (n : Int) : (if (if 1000000000 < n then 1000000000 else n) < -1000000000 then -1000000000 else (if 1000000000 < n then 1000000000 else n)) = Qp9 n := rfl
theorem Qv6 {a b : Int} (h1 : -1000000000 ≤ a) (h2 : a ≤ 1000000000) (h3 : -1000000000 ≤ b) (h4 : b ≤ 1000000000) : IntKind.i64.wrap (a + b) = a + b := Qax (by omega)
theorem Qt6 (t t2 : ThreadD) (a b : Int) (h0 : 0 ≤ t.pc) (h1 : t.pc ≤ 1048576) (hs : Xh2 t t2 a b) : SatO Tryz.prog 136 [.bp 0 0, .agg [.int .i64 4, .int .i64 a, .int .i64 b]] [.box (thB t (.rf 1 t.prog.length) (.rf 2 t.opens.length) (.rf 3 t.stack.length)), .root 146 (Qaw t.prog), .root 91 (Qav t.opens), .root 160 (Qaq t.stack)] (.rf 4 0) [.box (thB t2 (.rf 1 t.prog.length) (.rf 2 t.opens.length) (.rf 3 t.stack.length)), .root 146 (Qaw t.prog), .root 91 (Qav t.opens), .root 160 (Qaq t.stack), .root 86 (Qa0 [])] := by
  have hw : IntKind.i64.wrap (t.pc + 1) = t.pc + 1 := Qax (by omega)
  rcases hs with ⟨rfl, rfl, ⟨i1, i2⟩, ⟨j1, j2⟩, rfl⟩ | ⟨rfl, rfl, ⟨i1, i2⟩, ⟨j1, j2⟩, rfl⟩ | ⟨rfl, rfl, ⟨i1, i2⟩, ⟨j1, j2⟩, rfl⟩ | ⟨rfl, rfl, ⟨i1, i2⟩, ⟨j1, j2⟩, rfl⟩ | ⟨rfl, rfl, ⟨i1, i2⟩, ⟨j1, j2⟩, rfl⟩ | ⟨rfl, rfl, ⟨i1, i2⟩, ⟨j1, j2⟩, rfl⟩ | ⟨rfl, rfl, ⟨i1, i2⟩, ⟨j1, j2⟩, rfl⟩ | ⟨rfl, rfl, ⟨i1, i2⟩, ⟨j1, j2⟩, rfl⟩ | ⟨rfl, rfl, ⟨i1, i2⟩, ⟨j1, j2⟩, rfl⟩ | ⟨rfl, rfl, ⟨i1, i2⟩, ⟨j1, j2⟩, rfl⟩ | ⟨rfl, rfl, ⟨i1, i2⟩, ⟨j1, j2⟩, rfl⟩ | ⟨rfl, rfl, ⟨i1, i2⟩, ⟨j1, j2⟩, rfl⟩ | ⟨rfl, rfl, ⟨i1, i2⟩, ⟨j1, j2⟩, rfl⟩ | ⟨rfl, rfl, ⟨i1, i2⟩, ⟨j1, j2⟩, rfl⟩ | ⟨rfl, rfl, ⟨i1, i2⟩, ⟨j1, j2⟩, rfl⟩ | ⟨rfl, rfl, ⟨i1, i2⟩, ⟨j1, j2⟩, rfl⟩
  all_goals
    have hsw := Qv6 i1 i2 j1 j2
    simp only [thB]
    refine wEo Tryz.func136 [.tmp 4] 78 4 (by simp [Qbc, Qa6, Qbg, Qcr, Qda]) fun E hE => ?_
    have F := wwA hw (wwA @Qao (wwA @Qam (wwA @Qaa (wwA @Qac (wwA @Qag (wwA @Qah (wwA @Qau (wwA @Qai (wwA @Qap (wwA @Qas (wwA @Qan (wwA @Qal (wwA @Qay (wwA @Nat.le_refl (wwA hsw @Xfa)))))))))))))))
    repeat' first | refine wSq fun _ hK => ?_ | refine ww1 ?_ | (refine wK ?_; clear hK) | (simp only [wHb, reduceCtorEq] at hb <;> try (exfalso; omega)) | refine Qcf (fun hb => ?_) fun hb => ?_ | refine Qce ?_ | ((fail_if_success refine wwN ?_); refine ww4 ?_) | refine Qcc (fun hb => ?_) fun hb => ?_ | exact trivial
    all_goals refine wRo [] [_, _, _, _]
theorem Xba {a : Int} (h : ¬ a = 0) : (a != 0) = true := by simpa using h
theorem Xeo {a : Int} (h : a = 0) : (a != 0) = false := by simpa using h
theorem Qx7 (t t2 : ThreadD) (a b : Int) (h0 : 0 ≤ t.pc) (h1 : t.pc ≤ 1048576) (hs : IfC t t2 a b) : SatO Tryz.prog 136 [.bp 0 0, .agg [.int .i64 5, .int .i64 a, .int .i64 b]] [.box (thB t (.rf 1 t.prog.length) (.rf 2 t.opens.length) (.rf 3 t.stack.length)), .root 146 (Qaw t.prog), .root 91 (Qav t.opens), .root 160 (Qaq t.stack)] (.rf 4 0) [.box (thB t2 (.rf 1 t.prog.length) (.rf 2 t.opens.length) (.rf 3 t.stack.length)), .root 146 (Qaw t.prog), .root 91 (Qav t.opens), .root 160 (Qaq t.stack), .root 86 (Qa0 [])] := by
  have hw : IntKind.i64.wrap (t.pc + 1) = t.pc + 1 := Qax (by omega)
  rcases hs with ⟨rfl, hz, rfl⟩ | ⟨rfl, hz, rfl⟩ | ⟨rfl, hz, rfl⟩ | ⟨rfl, hz, rfl⟩ | ⟨rfl, hz, rfl⟩ | ⟨rfl, hz, rfl⟩ | ⟨rfl, hz, rfl⟩ | ⟨rfl, hz, rfl⟩
  all_goals
    first
    | have hz2 := Xba hz
    | have hz2 := Xeo hz
    simp only [thB]
    refine wEo Tryz.func136 [.tmp 4] 78 4 (by simp [Qbc, Qa6, Qbg, Qcr, Qda]) fun E hE => ?_
    have F := wwA hw (wwA @Qao (wwA @Qam (wwA @Qaa (wwA @Qac (wwA @Qag (wwA @Qah (wwA @Qau (wwA @Qai (wwA @Qap (wwA @Qas (wwA @Qan (wwA @Qal (wwA @Qay (wwA @Nat.le_refl hz2))))))))))))))
    repeat' first | refine wSq fun _ hK => ?_ | refine ww1 ?_ | (refine wK ?_; clear hK) | (simp only [wHb, reduceCtorEq] at hb <;> try (exfalso; omega)) | refine Qcf (fun hb => ?_) fun hb => ?_ | refine Qce ?_ | ((fail_if_success refine wwN ?_); refine ww4 ?_) | refine Qcc (fun hb => ?_) fun hb => ?_ | exact trivial
    all_goals refine wRo [] [_, _, _, _]
theorem Qya (t : ThreadD) (a b : Int) (h0 : 0 ≤ t.pc) (h1 : t.pc ≤ 1048576) : SatO Tryz.prog 136 [.bp 0 0, .agg [.int .i64 8, .int .i64 a, .int .i64 b]] [.box (thB t (.rf 1 t.prog.length) (.rf 2 t.opens.length) (.rf 3 t.stack.length)), .root 146 (Qaw t.prog), .root 91 (Qav t.opens), .root 160 (Qaq t.stack)] (.rf 4 0) [.box (thB {t with pc := a} (.rf 1 t.prog.length) (.rf 2 t.opens.length) (.rf 3 t.stack.length)), .root 146 (Qaw t.prog), .root 91 (Qav t.opens), .root 160 (Qaq t.stack), .root 86 (Qa0 [])] := by
  have hw : IntKind.i64.wrap (t.pc + 1) = t.pc + 1 := Qax (by omega)
  simp only [thB]
  refine wEo Tryz.func136 [.tmp 4] 78 4 (by simp [Qbc, Qa6, Qbg, Qcr, Qda]) fun E hE => ?_
  have F := wwA hw (wwA @Qao (wwA @Qam (wwA @Qaa (wwA @Qac (wwA @Qag (wwA @Qah (wwA @Qau (wwA @Qai (wwA @Qap (wwA @Qas (wwA @Qan (wwA @Qal (wwA @Qay @Nat.le_refl)))))))))))))
  repeat' first | refine wSq fun _ hK => ?_ | refine ww1 ?_ | (refine wK ?_; clear hK) | (simp only [wHb, reduceCtorEq] at hb <;> try (exfalso; omega)) | refine Qcf (fun hb => ?_) fun hb => ?_ | refine Qce ?_ | ((fail_if_success refine wwN ?_); refine ww4 ?_) | refine Qcc (fun hb => ?_) fun hb => ?_ | exact trivial
  all_goals refine wRo [] [_, _, _, _]
theorem Qpi (t : ThreadD) (a b : Int) (h0 : 0 ≤ t.pc) (h1 : t.pc ≤ 1048576) : SatO Tryz.prog 136 [.bp 0 0, .agg [.int .i64 7, .int .i64 a, .int .i64 b]] [.box (thB t (.rf 1 t.prog.length) (.rf 2 t.opens.length) (.rf 3 t.stack.length)), .root 146 (Qaw t.prog), .root 91 (Qav t.opens), .root 160 (Qaq t.stack)] (.rf 4 1) [.box (thB {t with pc := t.pc + 1} (.rf 1 t.prog.length) (.nl 91) (.rf 3 t.stack.length)), .root 146 (Qaw t.prog), .root 91 (Qav t.opens), .root 160 (Qaq t.stack), .root 86 (Qa0 [⟨5, t.id, 0, 0⟩])] := by
  have hw : IntKind.i64.wrap (t.pc + 1) = t.pc + 1 := Qax (by omega)
  simp only [thB]
  refine wEo Tryz.func136 [.tmp 4] 78 4 (by simp [Qbc, Qa6, Qbg, Qcr, Qda]) fun E hE => ?_
  have F := wwA hw (wwA @Qao (wwA @Qam (wwA @Qaa (wwA @Qac (wwA @Qag (wwA @Qah (wwA @Qau (wwA @Qai (wwA @Qap (wwA @Qas (wwA @Qan (wwA @Qal (wwA @Qay @Nat.le_refl)))))))))))))
  repeat' first | refine wSq fun _ hK => ?_ | refine ww1 ?_ | (refine wK ?_; clear hK) | (simp only [wHb, reduceCtorEq] at hb <;> try (exfalso; omega)) | refine Qcf (fun hb => ?_) fun hb => ?_ | refine Qgs (c := by first | exact Qpw _) (k := ?_) | refine Qce ?_ | ((fail_if_success refine wwN ?_); refine ww4 ?_) | refine Qcc (fun hb => ?_) fun hb => ?_ | exact trivial
  all_goals refine wRo [] [_, _, _, _]
end Go.Proofs.YtmiojnibngncaaaGreat
namespace Go.Proofs.YtmiojnibngncaaaGreat
open Go Go.RowKit
set_option linter.unusedVariables false
set_option linter.unusedSimpArgs false
set_option maxRecDepth 100000
set_option maxHeartbeats 4000000
attribute [local irreducible] VWP Qb5 Qbn Qbs Qbu Qbj Qbt Qa3 Qbq Qcq Qc6 Qbk Qdb Qc4 Qbr Qbm Qa8
noncomputable def Qv5 (s : StoreD) (d : DescS) : Bool := bP (Qd2 s) && bP (Qkf s.heads.length d) && (d.status == 0) && !(s.descs.length == 60)
noncomputable def Qcb (s : StoreD) (d : DescS) : StoreD × Int × Bool := if Qv5 s d = true then (⟨s.heads, s.descs ++ [d]⟩, s.descs.length, true) else (s, -1, false)
theorem Qqz (te : TypeId) (ds : List DescS) (r : List PT) : (Qar te ds ++ [r])[ds.length]? = some r := by
  have := Qkj te (ds := ds) (Nat.le_refl ds.length) r
  rwa [List.take_length] at this
theorem Qrk (te : TypeId) (ds : List DescS) (r r' : List PT) : (Qar te ds ++ [r]).set ds.length r' = Qar te ds ++ [r'] := by
  have := Qj7 te (ds := ds) (Nat.le_refl ds.length) r r'
  rwa [List.take_length] at this
theorem Qtf (te : TypeId) (ds : List DescS) (d : DescS) : Qar te ds ++ [[.int .i64 d.owner, .int .i64 d.status, .list te (Qav d.entries)]] = Qar te (ds ++ [d]) := by simp [Qar, Quq]
theorem Qkb (te : TypeId) (ds : List DescS) (d : DescS) : (Qar te (ds ++ [d])).length = ds.length + 1 := by simp [Qar]
theorem Qrj (te : TypeId) (ds : List DescS) (d : DescS) : (Qar te (ds ++ [d])).take (ds.length + 1) = Qar te (ds ++ [d]) := by rw [List.take_of_length_le (by rw [Qkb]; exact Nat.le_refl _)]
theorem Qjz {s : StoreD} {d : DescS} (h : Qv5 s d = false) : Qcb s d = (s, -1, false) := by simp [Qcb, h]
theorem Qhf (s : StoreD) (d : DescS) (r : StoreD × Int × Bool) (hr : Qcb s d = r) (hs : s.small) (hd : d.entries.length ≤ 1048576) :
    SatP Tryz.prog 176 [.agg (s.cells 151 89 91), .agg (d.cells 91)]
      (.tup [.agg [.rf 0 r.1.heads.length, .rf 1 r.1.descs.length], .int .i64 r.2.1, .bool r.2.2]) [(151, Qat r.1.heads), (89, Qar 91 r.1.descs)] := by
  have hc := Qii s hs
  have hf := Qkq s d hs.1 hd
  have ho := Qb4 s hs
  have hod := Qpb d hd
  obtain ⟨f1, f2, f3⟩ := hs
  refine wEp Tryz.func176 [.cell 4 37, .tmp 5, .tmp 6] 42 (hp := (by simp [Qaf, Qae])) fun E hE => ?_
  unfold StoreD.cells DescS.cells at *
  cases hp : bP (Qd2 s) with
  | false =>
    rw [hp] at hc
    rw [Qjz (by simp [Qv5, hp])] at hr
    subst hr
    have F := (Eq.refl 0)
    repeat' first | refine wSq fun _ hK => ?_ | refine ww1 ?_ | (refine wK ?_; clear hK) | (simp only [wHb, reduceCtorEq] at hb <;> try (exfalso; omega)) | refine wCd (fun hb => ?_) fun hb => ?_ | refine wCa (c := by first | exact hc | exact ho) (k := ?_) | refine ww3 ?_ | refine ww4 ?_ | refine wGd (fun hb => ?_) fun hb => ?_ | exact trivial
    refine Qbw (vs := _) (acc := _) (by simp only [go_sem, Qcd]; rfl) (by simp only [go_sem, wrap, exV, Qf0, exA, Qen, exC, Qad, Qaj, Qab, Qak, Nat.le_refl]; rfl) (by simp) (by simp) (by simp [Qaf, Qae])
  | true =>
    rw [hp] at hc
    cases hq : bP (Qkf s.heads.length d) with
    | false =>
      rw [hq] at hf
      rw [Qjz (by simp [Qv5, hp, hq])] at hr
      subst hr
      have F := (Eq.refl 0)
      repeat' first | refine wSq fun _ hK => ?_ | refine ww1 ?_ | (refine wK ?_; clear hK) | (simp only [wHb, reduceCtorEq] at hb <;> try (exfalso; omega)) | refine wCd (fun hb => ?_) fun hb => ?_ | refine wCa (c := by first | exact hc | exact ho | exact hf) (k := ?_) | refine ww3 ?_ | refine ww4 ?_ | refine wGd (fun hb => ?_) fun hb => ?_ | exact trivial
      refine Qbw (vs := _) (acc := _) (by simp only [go_sem, Qcd]; rfl) (by simp only [go_sem, wrap, exV, Qf0, exA, Qen, exC, Qad, Qaj, Qab, Qak, Nat.le_refl]; rfl) (by simp) (by simp) (by simp [Qaf, Qae])
    | true =>
      rw [hq] at hf
      by_cases h0 : d.status = 0
      · by_cases h60 : (s.descs.length : Int) = 60
        · have h60n : s.descs.length = 60 := by omega
          rw [Qjz (by simp [Qv5, h60n])] at hr
          subst hr
          have h60q : ((s.descs.length : Int) == 60) = true := by simp [h60]
          have h0q : (d.status != 0) = false := by simp [h0]
          have F := wwA @Qab (wwA h0q h60q)
          repeat' first | refine wSq fun _ hK => ?_ | refine ww1 ?_ | (refine wK ?_; clear hK) | (simp only [wHb, reduceCtorEq] at hb <;> try (exfalso; omega)) | refine wCd (fun hb => ?_) fun hb => ?_ | refine wCa (c := by first | exact hc | exact ho | exact hf) (k := ?_) | refine ww3 ?_ | refine ww4 ?_ | refine wGd (fun hb => ?_) fun hb => ?_ | exact trivial
          refine Qbw (vs := _) (acc := _) (by simp only [go_sem, Qcd]; rfl) (by simp only [go_sem, wrap, exV, Qf0, exA, Qen, exC, Qad, Qaj, Qab, Qak, Nat.le_refl]; rfl) (by simp) (by simp) (by simp [Qaf, Qae])
        · have h60q : ((s.descs.length : Int) == 60) = false := by simpa using h60
          have h60n : ¬ s.descs.length = 60 := by omega
          have he : Qcb s d = ((StoreD.mk s.heads (s.descs ++ [d])), ((s.descs.length : Nat) : Int), true) := by simp [Qcb, Qv5, hp, hq, h0, h60n]
          rw [he] at hr
          subst hr
          have hln : (s.descs ++ [d]).length = s.descs.length + 1 := by simp
          simp only [hln]
          have h0q : (d.status != 0) = false := by simp [h0]
          have F := wwA @Qab (wwA @Qak (wwA @Qaa (wwA h0q (wwA h60q (wwA @Nat.le_refl (wwA @Qef (wwA @Qei (wwA @Qdr (wwA @Qeg @Qfv)))))))))
          repeat' first | refine wSq fun _ hK => ?_ | refine Qej hT hM (id := 5) (.both (.step 0 (.both (.step 1 (.both (.step 2 (.both (.step 3 (.step 4 (.step 5 (.step 6 .done)))) (.step 4 (.step 3 (.step 5 (.step 6 .done)))))) (.step 4 (.step 2 (.step 3 (.step 5 (.step 6 .done))))))) (.step 4 (.step 1 (.step 2 (.step 3 (.step 5 (.step 6 .done)))))))) (.step 1 (.both (.step 0 (.both (.step 2 (.both (.step 3 (.step 4 (.step 5 (.step 6 .done)))) (.step 4 (.step 3 (.step 5 (.step 6 .done)))))) (.step 4 (.step 2 (.step 3 (.step 5 (.step 6 .done))))))) (.step 2 (.both (.step 0 (.both (.step 3 (.step 4 (.step 5 (.step 6 .done)))) (.step 4 (.step 3 (.step 5 (.step 6 .done)))))) (.step 3 (.step 0 (.step 4 (.step 5 (.step 6 .done)))))))))) (by kernel_rfl) ?_ | refine ww1 ?_ | (refine wK ?_; clear hK) | (simp only [wHb, reduceCtorEq] at hb <;> try (exfalso; omega)) | refine wCd (fun hb => ?_) fun hb => ?_ | refine wCa (c := by first | exact hc | exact ho | exact hf | exact hod) (k := ?_) | refine ww3 ?_ | refine ww4 ?_ | refine wGd (fun hb => ?_) fun hb => ?_ | refine And.intro ?_ ?_ | exact trivial
          all_goals first
            | (exfalso; simp_all; done)
            | (refine Xet [(326, s.descs.length, 2)] (by simp only [Qb1, Qco, go_sem, Qqz, Qrk, List.set_cons_succ, List.set_cons_zero, Qaa, Nat.le_refl]; rfl) (vs := _) (acc := _) (by simp only [go_sem, Qcd]; rfl) (by simp only [go_sem, wrap, exV, Qf0, exA, Qen, exC, Qad, Qaj, Qai, Qtf, Qkb, Qrj, Nat.le_refl]; rfl) (by simp) (by simp) (by simp [Qaf, Qae]))
      · have h0q : (d.status != 0) = true := by simpa using h0
        rw [Qjz (by simp [Qv5, h0])] at hr
        subst hr
        have F := h0q
        repeat' first | refine wSq fun _ hK => ?_ | refine ww1 ?_ | (refine wK ?_; clear hK) | (simp only [wHb, reduceCtorEq] at hb <;> try (exfalso; omega)) | refine wCd (fun hb => ?_) fun hb => ?_ | refine wCa (c := by first | exact hc | exact ho | exact hf) (k := ?_) | refine ww3 ?_ | refine ww4 ?_ | refine wGd (fun hb => ?_) fun hb => ?_ | exact trivial
        refine Qbw (vs := _) (acc := _) (by simp only [go_sem, Qcd]; rfl) (by simp only [go_sem, wrap, exV, Qf0, exA, Qen, exC, Qad, Qaj, Qab, Qak, Nat.le_refl]; rfl) (by simp) (by simp) (by simp [Qaf, Qae])
theorem Qyn (te : TypeId) (ds : List DescS) (r : List PT) : (Qar te ds ++ [r]).length = ds.length + 1 := by simp [Qar]
theorem Qhh (s : StoreD) (d : DescS) (r : StoreD × Int × Bool) (hr : Qcb s d = r) (hs : s.small) (hd : d.entries.length ≤ 1048576) :
    SatP Tryz.prog 164 [.agg (s.cells 151 89 91), .agg (d.cells 91)]
      (.tup [.agg [.rf 0 r.1.heads.length, .rf 1 r.1.descs.length], .int .i64 r.2.1, .bool r.2.2]) [(151, Qat r.1.heads), (89, Qar 91 r.1.descs)] := by
  have hc := Qf8 s hs
  have hf := Qgl d hd
  have ho := Qd6 s hs
  have hod := Qfm d.entries (by omega)
  obtain ⟨f1, f2, f3⟩ := hs
  refine wEp Tryz.func164 [.cell 4 37, .tmp 5, .tmp 6] 60 (hp := (by simp [Qaf, Qae])) fun E hE => ?_
  unfold StoreD.cells DescS.cells at *
  cases hp : bP (Qd2 s) with
  | false =>
    rw [hp] at hc
    rw [Qjz (by simp [Qv5, hp])] at hr
    subst hr
    have F := (Eq.refl 0)
    repeat' first | refine wSq fun _ hK => ?_ | refine ww1 ?_ | (refine wK ?_; clear hK) | (simp only [wHb, reduceCtorEq] at hb <;> try (exfalso; omega)) | refine wCd (fun hb => ?_) fun hb => ?_ | refine wCa (c := by first | exact hc | exact ho) (k := ?_) | refine ww3 ?_ | refine ww4 ?_ | refine wGd (fun hb => ?_) fun hb => ?_ | exact trivial
    refine Qbw (vs := _) (acc := _) (by simp only [go_sem, Qcd]; rfl) (by simp only [go_sem, wrap, exV, Qf0, exA, Qen, exC, Qad, Qaj, Qab, Qak, Nat.le_refl]; rfl) (by simp) (by simp) (by simp [Qaf, Qae])
  | true =>
    rw [hp] at hc
    cases hq : bP (Quj d) with
    | false =>
      rw [hq] at hf
      have hnf : bP (Qkf s.heads.length d) = false := Qbv fun hh => by rw [Qcs hh.1] at hq; cases hq
      rw [Qjz (by simp [Qv5, hp, hnf])] at hr
      subst hr
      have F := (Eq.refl 0)
      repeat' first | refine wSq fun _ hK => ?_ | refine ww1 ?_ | (refine wK ?_; clear hK) | (simp only [wHb, reduceCtorEq] at hb <;> try (exfalso; omega)) | refine wCd (fun hb => ?_) fun hb => ?_ | refine wCa (c := by first | exact hc | exact ho | exact hf) (k := ?_) | refine ww3 ?_ | refine ww4 ?_ | refine wGd (fun hb => ?_) fun hb => ?_ | exact trivial
      refine Qbw (vs := _) (acc := _) (by simp only [go_sem, Qcd]; rfl) (by simp only [go_sem, wrap, exV, Qf0, exA, Qen, exC, Qad, Qaj, Qab, Qak, Nat.le_refl]; rfl) (by simp) (by simp) (by simp [Qaf, Qae])
    | true =>
      rw [hq] at hf
      by_cases h0 : d.status = 0
      · obtain ⟨k, e, hk, hkl, hek, hiff⟩ := Quh (n := s.heads.length) (Qq0.1 hq)
        have hwk := Qax (x := (k : Int)) (by omega)
        have hk0 : (0 : Int) ≤ (k : Nat) := by omega
        have hre := Qbe hek
        have h0q : (d.status != 0) = false := by simp [h0]
        by_cases hob : e.object < s.heads.length
        · have hfit := Qcs (hiff.2 hob)
          have hobn : ¬ (s.heads.length : Int) ≤ e.object := by omega
          by_cases h60 : (s.descs.length : Int) = 60
          · have h60q : ((s.descs.length : Int) == 60) = true := by simp [h60]
            have h60n : s.descs.length = 60 := by omega
            rw [Qjz (by simp [Qv5, h60n])] at hr
            subst hr
            have F := wwA @Qab (wwA @Qad (wwA @Qaa (wwA h0q (wwA h60q (wwA hk (wwA hwk (wwA hk0 (wwA hkl (wwA hre hobn)))))))))
            repeat' first | refine wSq fun _ hK => ?_ | refine ww1 ?_ | (refine wK ?_; clear hK) | (simp only [wHb, reduceCtorEq] at hb <;> try (exfalso; omega)) | refine wCd (fun hb => ?_) fun hb => ?_ | refine wCa (c := by first | exact hc | exact ho | exact hf) (k := ?_) | refine ww3 ?_ | refine ww4 ?_ | refine wGd (fun hb => ?_) fun hb => ?_ | exact trivial
            refine Qbw (vs := _) (acc := _) (by simp only [go_sem, Qcd]; rfl) (by simp only [go_sem, wrap, exV, Qf0, exA, Qen, exC, Qad, Qaj, Qab, Qak, Nat.le_refl]; rfl) (by simp) (by simp) (by simp [Qaf, Qae])
          · have h60q : ((s.descs.length : Int) == 60) = false := by simpa using h60
            have h60n : ¬ s.descs.length = 60 := by omega
            have he : Qcb s d = ((StoreD.mk s.heads (s.descs ++ [d])), ((s.descs.length : Nat) : Int), true) := by simp [Qcb, Qv5, hp, hfit, h0, h60n]
            rw [he] at hr
            subst hr
            have hln : (s.descs ++ [d]).length = s.descs.length + 1 := by simp
            have hsub : ((s.descs.length + 1 : Nat) : Int) - 1 = s.descs.length := by omega
            have hwn := Qax (x := (s.descs.length : Int)) (by omega)
            simp only [hln]
            have F := wwA @Qab (wwA @Qak (wwA @Qad (wwA @Qaa (wwA h0q (wwA h60q (wwA hk (wwA hwk (wwA hk0 (wwA hkl (wwA hre (wwA hobn (wwA hsub (wwA hwn (wwA @Qyn (wwA @Nat.le_refl (wwA @Qef (wwA @Qei (wwA @Qdr (wwA @Qeg @Qfv)))))))))))))))))))
            repeat' first | refine wSq fun _ hK => ?_ | refine Qej hT hM (id := 6) (.both (.step 0 (.both (.step 1 (.both (.step 2 (.both (.step 3 (.both (.step 4 (.step 5 (.step 6 (.step 7 .done)))) (.step 5 (.step 4 (.step 6 (.step 7 .done)))))) (.step 5 (.step 3 (.step 4 (.step 6 (.step 7 .done))))))) (.step 5 (.step 2 (.step 3 (.step 4 (.step 6 (.step 7 .done)))))))) (.step 5 (.step 1 (.step 2 (.step 3 (.step 4 (.step 6 (.step 7 .done))))))))) (.step 1 (.both (.step 0 (.both (.step 2 (.both (.step 3 (.both (.step 4 (.step 5 (.step 6 (.step 7 .done)))) (.step 5 (.step 4 (.step 6 (.step 7 .done)))))) (.step 5 (.step 3 (.step 4 (.step 6 (.step 7 .done))))))) (.step 5 (.step 2 (.step 3 (.step 4 (.step 6 (.step 7 .done)))))))) (.step 2 (.both (.step 0 (.both (.step 3 (.both (.step 4 (.step 5 (.step 6 (.step 7 .done)))) (.step 5 (.step 4 (.step 6 (.step 7 .done)))))) (.step 5 (.step 3 (.step 4 (.step 6 (.step 7 .done))))))) (.step 3 (.both (.step 0 (.both (.step 4 (.step 5 (.step 6 (.step 7 .done)))) (.step 5 (.step 4 (.step 6 (.step 7 .done)))))) (.step 4 (.step 0 (.step 5 (.step 6 (.step 7 .done)))))))))))) (by kernel_rfl) ?_ | refine ww1 ?_ | (refine wK ?_; clear hK) | (simp only [wHb, reduceCtorEq] at hb <;> try (exfalso; omega)) | refine wCd (fun hb => ?_) fun hb => ?_ | refine wCa (c := by first | exact hc | exact ho | exact hf | exact hod) (k := ?_) | refine ww3 ?_ | refine ww4 ?_ | refine wGd (fun hb => ?_) fun hb => ?_ | refine And.intro ?_ ?_ | exact trivial
            all_goals first
              | (exfalso; simp_all; done)
              | (refine Xet [(2184, s.descs.length, 2)] (by simp only [Qb1, Qco, go_sem, Qqz, Qrk, List.set_cons_succ, List.set_cons_zero, Qaa, Nat.le_refl]; rfl) (vs := _) (acc := _) (by simp only [go_sem, Qcd]; rfl) (by simp only [go_sem, wrap, exV, Qf0, exA, Qen, exC, Qad, Qaj, Qai, Qtf, Qkb, Qrj, Nat.le_refl]; rfl) (by simp) (by simp) (by simp [Qaf, Qae]))
        · have hnf : bP (Qkf s.heads.length d) = false := Qbv fun hh => hob (hiff.1 hh)
          have hobn : (s.heads.length : Int) ≤ e.object := by omega
          rw [Qjz (by simp [Qv5, hp, hnf])] at hr
          subst hr
          have F := wwA @Qab (wwA @Qad (wwA @Qaa (wwA h0q (wwA hk (wwA hwk (wwA hk0 (wwA hkl (wwA hre hobn))))))))
          repeat' first | refine wSq fun _ hK => ?_ | refine ww1 ?_ | (refine wK ?_; clear hK) | (simp only [wHb, reduceCtorEq] at hb <;> try (exfalso; omega)) | refine wCd (fun hb => ?_) fun hb => ?_ | refine wCa (c := by first | exact hc | exact ho | exact hf) (k := ?_) | refine ww3 ?_ | refine ww4 ?_ | refine wGd (fun hb => ?_) fun hb => ?_ | exact trivial
          refine Qbw (vs := _) (acc := _) (by simp only [go_sem, Qcd]; rfl) (by simp only [go_sem, wrap, exV, Qf0, exA, Qen, exC, Qad, Qaj, Qab, Qak, Nat.le_refl]; rfl) (by simp) (by simp) (by simp [Qaf, Qae])
      · have h0q : (d.status != 0) = true := by simpa using h0
        rw [Qjz (by simp [Qv5, h0])] at hr
        subst hr
        have F := h0q
        repeat' first | refine wSq fun _ hK => ?_ | refine ww1 ?_ | (refine wK ?_; clear hK) | (simp only [wHb, reduceCtorEq] at hb <;> try (exfalso; omega)) | refine wCd (fun hb => ?_) fun hb => ?_ | refine wCa (c := by first | exact hc | exact ho | exact hf) (k := ?_) | refine ww3 ?_ | refine ww4 ?_ | refine wGd (fun hb => ?_) fun hb => ?_ | exact trivial
        refine Qbw (vs := _) (acc := _) (by simp only [go_sem, Qcd]; rfl) (by simp only [go_sem, wrap, exV, Qf0, exA, Qen, exC, Qad, Qaj, Qab, Qak, Nat.le_refl]; rfl) (by simp) (by simp) (by simp [Qaf, Qae])
end Go.Proofs.YtmiojnibngncaaaGreat
