/- What the claim rests on, part 23: the value-level engine and contracts of functions; no condition. -/
import Derived.Test.YtmiojnibngncaaaGreatZQv
import Derived.Test.YtmiojnibngncaaaGreatZQt
import Derived.Test.YtmiojnibngncaaaGreatZQu
import Derived.Test.YtmiojnibngncaaaGreatZQj
namespace Go.Proofs.YtmiojnibngncaaaGreat
open Go Go.RowKit
set_option linter.unusedVariables false
set_option linter.unusedSimpArgs false
set_option maxRecDepth 100000
set_option maxHeartbeats 4000000
attribute [local irreducible] Qdo VWP Qb5 Qbn Qbs Qbu Qbj Qbt Qa3 Qbq Qcq Qc6 Qbk Qdb Qc4 Qbr Qbm Qa8
def Qqw (s r : StoreD) (ev x : Nat) : List (Nat × VV) := [(2, .bp 5 0), (3, .bp 6 0), (4, .bp 7 0), (6, .rf 8 s.descs.length), (7, .rf ev (Qdw s.descs r.descs x).length), (8, .int .i64 x)]
def Qk0 (s r : StoreD) (t : ThreadD) (fs junk : List FrameD) (x : Nat) : List (Nat × Ent) := [(0, .root 151 (Qat r.heads)), (1, .root 89 (Qar 91 r.descs)), (2, .root 146 (Qaw t.prog)), (3, .root 91 (Qav t.opens)), (4, .root 160 (Qaq (fs ++ junk))), (5, .box [.rf 0 s.heads.length, .rf 1 s.descs.length]), (6, .box (thB t (.rf 2 t.prog.length) (.rf 3 t.opens.length) (.rf 4 fs.length))), (7, .box (thB ⟨0, [], 0, 0, 0, 0, 0, [], 0, [], 0, 0, 0, 0⟩ (.nl 146) (.nl 91) (.nl 160))), (8, .root 3 (Qgp (stL s.descs s.descs.length))), (9, .root 86 (Qa0 (Qdw s.descs r.descs x)))]
def Qzn (s r : StoreD) (t : ThreadD) (fs : List FrameD) (x : Nat) : List (Nat × Ent) := [(0, .root 151 (Qat r.heads)), (1, .root 89 (Qar 91 r.descs)), (2, .root 146 (Qaw t.prog)), (3, .root 91 (Qav t.opens)), (5, .box [.rf 0 s.heads.length, .rf 1 s.descs.length]), (6, .box (thB t (.rf 2 t.prog.length) (.rf 3 t.opens.length) (.rf 9 fs.length))), (7, .box (thB ⟨0, [], 0, 0, 0, 0, 0, [], 0, [], 0, 0, 0, 0⟩ (.nl 146) (.nl 91) (.nl 160))), (8, .root 3 (Qgp (stL s.descs s.descs.length))), (9, .root 160 (Qaq fs)), (10, .root 86 (Qa0 (Qdw s.descs r.descs x)))]
theorem Qme (s : StoreD) (t t2 : ThreadD) (r : StoreD) (fs : List FrameD) (hc : SatO Tryz.prog 158 [.agg [.rf 0 s.heads.length, .rf 1 s.descs.length], .rf 2 t.stack.length] [.root 151 (Qat s.heads), .root 89 (Qar 91 s.descs), .root 160 (Qaq t.stack)] (.rf 3 fs.length) [.root 151 (Qat r.heads), .root 89 (Qar 91 r.descs), .dead, .root 160 (Qaq fs)]) (hs : s.small) (e1 : r.heads.length = s.heads.length) (e2 : r.descs.length = s.descs.length) (hk : Qq7 s.descs r.descs) (hd2 : s.descs.length ≤ 1048576) (hne : ¬ fs = []) (h2 : t2 = {t with stack := fs}) : SatO Tryz.prog 117 [.agg [.rf 0 s.heads.length, .rf 1 s.descs.length], .agg (thB t (.rf 2 t.prog.length) (.rf 3 t.opens.length) (.rf 4 t.stack.length))] [.root 151 (Qat s.heads), .root 89 (Qar 91 s.descs), .root 146 (Qaw t.prog), .root 91 (Qav t.opens), .root 160 (Qaq t.stack)] (.tup [.agg (thB t2 (.rf 2 t.prog.length) (.rf 3 t.opens.length) (.rf 5 fs.length)), .rf 6 (Qdw s.descs r.descs s.descs.length).length]) [.root 151 (Qat r.heads), .root 89 (Qar 91 r.descs), .root 146 (Qaw t.prog), .root 91 (Qav t.opens), .dead, .root 160 (Qaq fs), .root 86 (Qa0 (Qdw s.descs r.descs s.descs.length))] := by
  have hstt := Qf6 s hs
  have t1 := Qaj r.heads
  have t2' := Qak 91 r.descs
  rw [e1] at t1
  rw [e2] at t2'
  unfold StoreD.cells at hstt
  simp only [thB] at *
  refine wEo Tryz.func117 [.cell 4 57, .tmp 5] 92 5 (by simp [Qbc, Qa6, Qbg, Qcr, Qda]) fun E hE => ?_
  have F := wwA @Qao (wwA @Qam (wwA @Qaa (wwA @Qac (wwA @Qag (wwA @Qah (wwA @Qau (wwA @Qai (wwA @Qap (wwA @Qas (wwA @Qan (wwA @Qal (wwA @Qad (wwA @Qaf (wwA @Qab (wwA @Qae (wwA @Qaj (wwA @Qak (wwA @Qay (wwA @Nat.le_refl (wwA e1 e2))))))))))))))))))))
  repeat' first | refine wSq fun _ hK => ?_ | refine ww1 ?_ | (refine wK ?_; clear hK) | (simp only [wHb, reduceCtorEq] at hb <;> try (exfalso; omega)) | refine wCd (fun hb => ?_) fun hb => ?_ | refine wCa (c := by first | exact hstt) (k := ?_) | refine wOq [0, 1, 4] (hc) ?_ | refine ww3 ?_ | ((fail_if_success refine wwN ?_); refine ww4 ?_) | refine wGd (fun hb => ?_) fun hb => ?_ | exact trivial
  clear F
  refine Qd5 hE (X := Nat) (Qqw s r 10) (Qzn s r t fs) (fun x => s.descs.length - x) (fun x => x ≤ s.descs.length) [0, 1, 2, 3, 4, 5, 6, 7, 8, 9, 10] 0 (Nat.zero_le _) (by decide) (by decide) (by simp [Qbo, Qqw, Qfa, Qe2, Qc3, Qdw]) (by simp [Qbd, HpE, Qzn, thB, Qb6, Qg4, Qc3, Qaf, Qae, Qah, Qam, Qac, Qan, Qc1, Qdw, Qay, Qbh]; try (intro q hq; cases hq)) ?_
  intro x hx
  simp only [Qqw, Qzn, thB]
  have hx0 : (0 : Int) ≤ (x : Int) := by omega
  rcases Nat.lt_or_ge x s.descs.length with hlt | hge
  · obtain ⟨d, hd⟩ : ∃ d, s.descs[x]? = some d := ⟨_, List.getElem?_eq_getElem hlt⟩
    obtain ⟨d', hd'⟩ : ∃ d', r.descs[x]? = some d' := ⟨_, List.getElem?_eq_getElem (by rw [e2]; exact hlt)⟩
    have hra := Qle (Xay hd)
    have hrb := Qbl (te := 91) hd'
    have hst1 := hk x d d' hd hd'
    have hli : (x : Int) < (s.descs.length : Int) := by omega
    have hw : IntKind.i64.wrap ((x : Int) + 1) = x + 1 := Qax (by omega)
    have hcl := Qfc s.descs r.descs x
    have hap := Qfk (Qdw s.descs r.descs x) ⟨3, d'.owner, x, 0⟩
    have hxx : ((x + 1 : Nat) : Int) = (x : Int) + 1 := by omega
    by_cases ha : d.status = 0
    · have hab : (d.status == 0) = true := by simpa using ha
      by_cases hb' : d'.status = 1
      · have hbb : (d'.status == 1) = true := by simpa using hb'
        have hyes := Qjj hd' hd hb' (by omega)
        have hm1 : ((Qdw s.descs r.descs x).length + 1) * 32 ≤ 140737488355328 := by omega
        have hm2 : (Qdw s.descs r.descs x).length + 1 ≤ maxLen := of_eq_true (Qdn (by omega))
        have F := wwA @Qao (wwA @Qam (wwA @Qaa (wwA @Qac (wwA @Qag (wwA @Qah (wwA @Qau (wwA @Qai (wwA @Qap (wwA @Qas (wwA @Qan (wwA @Qal (wwA @Qad (wwA @Qaf (wwA @Qab (wwA @Qae (wwA @Qaj (wwA @Qak (wwA @Qay (wwA @Nat.le_refl (wwA e1 (wwA e2 (wwA @Qca (wwA @Qdy (wwA hra (wwA hrb (wwA hli (wwA hlt (wwA hx0 (wwA hw (wwA hab (wwA hbb (wwA hap (wwA hm1 hm2)))))))))))))))))))))))))))))))))
        repeat' first | refine wSq fun _ hK => ?_ | refine ww1 ?_ | (refine wK ?_; clear hK) | (simp only [wHb, reduceCtorEq] at hb <;> try (exfalso; omega)) | refine wCd (fun hb => ?_) fun hb => ?_ | refine ww3 ?_ | ((fail_if_success refine wwN ?_); refine ww4 ?_) | refine wGd (fun hb => ?_) fun hb => ?_ | exact trivial
        all_goals clear F
        all_goals refine Qfb [] rfl [0, 1, 2, 3, 4, 5, 6, 7, 8, 9, 12] (x + 1) rfl (by decide) (by decide) hlt (by first | omega | (simp only; omega)) (by simp [Qbo, tmL, Qqw, Qfa, Qe2, Qc3, hyes]) (by simp [Qbd, hpL, Qzn, thB, Qb6, Qg4, Qc3, Qaf, Qae, Qah, Qam, Qac, Qan, Qc1, hyes])
      · have hbb : (d'.status == 1) = false := by simpa using hb'
        have hno := Qf7 hd' hd (fun h => hb' h.1)
        have F := wwA @Qao (wwA @Qam (wwA @Qaa (wwA @Qac (wwA @Qag (wwA @Qah (wwA @Qau (wwA @Qai (wwA @Qap (wwA @Qas (wwA @Qan (wwA @Qal (wwA @Qad (wwA @Qaf (wwA @Qab (wwA @Qae (wwA @Qaj (wwA @Qak (wwA @Qay (wwA @Nat.le_refl (wwA e1 (wwA e2 (wwA @Qca (wwA @Qdy (wwA hra (wwA hrb (wwA hli (wwA hlt (wwA hx0 (wwA hw (wwA hab hbb))))))))))))))))))))))))))))))
        repeat' first | refine wSq fun _ hK => ?_ | refine ww1 ?_ | (refine wK ?_; clear hK) | (simp only [wHb, reduceCtorEq] at hb <;> try (exfalso; omega)) | refine wCd (fun hb => ?_) fun hb => ?_ | refine ww3 ?_ | ((fail_if_success refine wwN ?_); refine ww4 ?_) | refine wGd (fun hb => ?_) fun hb => ?_ | exact trivial
        all_goals clear F
        all_goals refine Qfb [] rfl [0, 1, 2, 3, 4, 5, 6, 7, 8, 9, 10] (x + 1) rfl (by decide) (by decide) hlt (by first | omega | (simp only; omega)) (by simp [Qbo, tmL, Qqw, Qfa, Qe2, Qc3, hno]) (by simp [Qbd, hpL, Qzn, thB, Qb6, Qg4, Qc3, Qaf, Qae, Qah, Qam, Qac, Qan, Qc1, hno])
    · have hab : (d.status == 0) = false := by simpa using ha
      have hno := Qf7 hd' hd (fun h => h.2 (by omega))
      have F := wwA @Qao (wwA @Qam (wwA @Qaa (wwA @Qac (wwA @Qag (wwA @Qah (wwA @Qau (wwA @Qai (wwA @Qap (wwA @Qas (wwA @Qan (wwA @Qal (wwA @Qad (wwA @Qaf (wwA @Qab (wwA @Qae (wwA @Qaj (wwA @Qak (wwA @Qay (wwA @Nat.le_refl (wwA e1 (wwA e2 (wwA @Qca (wwA @Qdy (wwA hra (wwA hrb (wwA hli (wwA hlt (wwA hx0 (wwA hw hab)))))))))))))))))))))))))))))
      repeat' first | refine wSq fun _ hK => ?_ | refine ww1 ?_ | (refine wK ?_; clear hK) | (simp only [wHb, reduceCtorEq] at hb <;> try (exfalso; omega)) | refine wCd (fun hb => ?_) fun hb => ?_ | refine ww3 ?_ | ((fail_if_success refine wwN ?_); refine ww4 ?_) | refine wGd (fun hb => ?_) fun hb => ?_ | exact trivial
      all_goals clear F
      all_goals refine Qfb [] rfl [0, 1, 2, 3, 4, 5, 6, 7, 8, 9, 10] (x + 1) rfl (by decide) (by decide) hlt (by first | omega | (simp only; omega)) (by simp [Qbo, tmL, Qqw, Qfa, Qe2, Qc3, hno]) (by simp [Qbd, hpL, Qzn, thB, Qb6, Qg4, Qc3, Qaf, Qae, Qah, Qam, Qac, Qan, Qc1, hno])
  · obtain rfl : x = s.descs.length := by omega
    have hnl : ¬ ((s.descs.length : Int) < (s.descs.length : Int)) := by omega
    have hp0 : (0 : Int) < (fs.length : Int) := by have := List.length_pos_iff.2 hne; omega
    subst h2
    have F := wwA @Qao (wwA @Qam (wwA @Qaa (wwA @Qac (wwA @Qag (wwA @Qah (wwA @Qau (wwA @Qai (wwA @Qap (wwA @Qas (wwA @Qan (wwA @Qal (wwA @Qad (wwA @Qaf (wwA @Qab (wwA @Qae (wwA @Qaj (wwA @Qak (wwA @Qay (wwA @Nat.le_refl (wwA e1 (wwA e2 (wwA hnl (wwA hp0 (wwA @Qca (wwA @Qdy (wwA t1 t2'))))))))))))))))))))))))))
    repeat' first | refine wSq fun _ hK => ?_ | refine ww1 ?_ | (refine wK ?_; clear hK) | (simp only [wHb, reduceCtorEq] at hb <;> try (exfalso; omega)) | refine wCd (fun hb => ?_) fun hb => ?_ | refine ww3 ?_ | ((fail_if_success refine wwN ?_); refine ww4 ?_) | refine wGd (fun hb => ?_) fun hb => ?_ | exact trivial
    all_goals refine wRo [] [_, _, _, _, _]
theorem Qlx (s : StoreD) (t t2 : ThreadD) (r : StoreD) (fs junk : List FrameD) (hc : SatO Tryz.prog 158 [.agg [.rf 0 s.heads.length, .rf 1 s.descs.length], .rf 2 t.stack.length] [.root 151 (Qat s.heads), .root 89 (Qar 91 s.descs), .root 160 (Qaq t.stack)] (.rf 2 fs.length) [.root 151 (Qat r.heads), .root 89 (Qar 91 r.descs), .root 160 (Qaq (fs ++ junk))]) (hs : s.small) (e1 : r.heads.length = s.heads.length) (e2 : r.descs.length = s.descs.length) (hk : Qq7 s.descs r.descs) (hd2 : s.descs.length ≤ 1048576) (hcs : ¬ fs = [] ∨ (fs = [] ∧ t.mine < 0)) (h2 : t2 = {t with stack := fs}) : SatO Tryz.prog 117 [.agg [.rf 0 s.heads.length, .rf 1 s.descs.length], .agg (thB t (.rf 2 t.prog.length) (.rf 3 t.opens.length) (.rf 4 t.stack.length))] [.root 151 (Qat s.heads), .root 89 (Qar 91 s.descs), .root 146 (Qaw t.prog), .root 91 (Qav t.opens), .root 160 (Qaq t.stack)] (.tup [.agg (thB t2 (.rf 2 t.prog.length) (.rf 3 t.opens.length) (.rf 4 fs.length)), .rf 5 (Qdw s.descs r.descs s.descs.length).length]) [.root 151 (Qat r.heads), .root 89 (Qar 91 r.descs), .root 146 (Qaw t.prog), .root 91 (Qav t.opens), .root 160 (Qaq (fs ++ junk)), .root 86 (Qa0 (Qdw s.descs r.descs s.descs.length))] := by
  have hstt := Qf6 s hs
  have hfj : fs.length ≤ (fs ++ junk).length := by simp
  have t1 := Qaj r.heads
  have t2' := Qak 91 r.descs
  rw [e1] at t1
  rw [e2] at t2'
  unfold StoreD.cells at hstt
  simp only [thB] at *
  refine wEo Tryz.func117 [.cell 4 57, .tmp 5] 92 5 (by simp [Qbc, Qa6, Qbg, Qcr, Qda]) fun E hE => ?_
  have F := wwA @Qao (wwA @Qam (wwA @Qaa (wwA @Qac (wwA @Qag (wwA @Qah (wwA @Qau (wwA @Qai (wwA @Qap (wwA @Qas (wwA @Qan (wwA @Qal (wwA @Qad (wwA @Qaf (wwA @Qab (wwA @Qae (wwA @Qaj (wwA @Qak (wwA @Qay (wwA @Nat.le_refl (wwA e1 e2))))))))))))))))))))
  repeat' first | refine wSq fun _ hK => ?_ | refine ww1 ?_ | (refine wK ?_; clear hK) | (simp only [wHb, reduceCtorEq] at hb <;> try (exfalso; omega)) | refine wCd (fun hb => ?_) fun hb => ?_ | refine wCa (c := by first | exact hstt) (k := ?_) | refine wOq [0, 1, 4] (hc) ?_ | refine ww3 ?_ | ((fail_if_success refine wwN ?_); refine ww4 ?_) | refine wGd (fun hb => ?_) fun hb => ?_ | exact trivial
  clear F
  refine Qd5 hE (X := Nat) (Qqw s r 9) (Qk0 s r t fs junk) (fun x => s.descs.length - x) (fun x => x ≤ s.descs.length) [0, 1, 2, 3, 4, 5, 6, 7, 8, 9] 0 (Nat.zero_le _) (by decide) (by decide) (by simp [Qbo, Qqw, Qfa, Qe2, Qc3, Qdw]) (by simp [Qbd, HpE, Qk0, thB, Qb6, Qg4, Qc3, Qaf, Qae, Qah, Qam, Qac, Qan, Qc1, Qdw, Qay, Qbh]; try (intro q hq; cases hq)) ?_
  intro x hx
  simp only [Qqw, Qk0, thB]
  have hx0 : (0 : Int) ≤ (x : Int) := by omega
  rcases Nat.lt_or_ge x s.descs.length with hlt | hge
  · obtain ⟨d, hd⟩ : ∃ d, s.descs[x]? = some d := ⟨_, List.getElem?_eq_getElem hlt⟩
    obtain ⟨d', hd'⟩ : ∃ d', r.descs[x]? = some d' := ⟨_, List.getElem?_eq_getElem (by rw [e2]; exact hlt)⟩
    have hra := Qle (Xay hd)
    have hrb := Qbl (te := 91) hd'
    have hst1 := hk x d d' hd hd'
    have hli : (x : Int) < (s.descs.length : Int) := by omega
    have hw : IntKind.i64.wrap ((x : Int) + 1) = x + 1 := Qax (by omega)
    have hcl := Qfc s.descs r.descs x
    have hap := Qfk (Qdw s.descs r.descs x) ⟨3, d'.owner, x, 0⟩
    have hxx : ((x + 1 : Nat) : Int) = (x : Int) + 1 := by omega
    by_cases ha : d.status = 0
    · have hab : (d.status == 0) = true := by simpa using ha
      by_cases hb' : d'.status = 1
      · have hbb : (d'.status == 1) = true := by simpa using hb'
        have hyes := Qjj hd' hd hb' (by omega)
        have hm1 : ((Qdw s.descs r.descs x).length + 1) * 32 ≤ 140737488355328 := by omega
        have hm2 : (Qdw s.descs r.descs x).length + 1 ≤ maxLen := of_eq_true (Qdn (by omega))
        have F := wwA @Qao (wwA @Qam (wwA @Qaa (wwA @Qac (wwA @Qag (wwA @Qah (wwA @Qau (wwA @Qai (wwA @Qap (wwA @Qas (wwA @Qan (wwA @Qal (wwA @Qad (wwA @Qaf (wwA @Qab (wwA @Qae (wwA @Qaj (wwA @Qak (wwA @Qay (wwA @Nat.le_refl (wwA e1 (wwA e2 (wwA @Qca (wwA @Qdy (wwA hra (wwA hrb (wwA hli (wwA hlt (wwA hx0 (wwA hw (wwA hab (wwA hbb (wwA hap (wwA hm1 hm2)))))))))))))))))))))))))))))))))
        repeat' first | refine wSq fun _ hK => ?_ | refine ww1 ?_ | (refine wK ?_; clear hK) | (simp only [wHb, reduceCtorEq] at hb <;> try (exfalso; omega)) | refine wCd (fun hb => ?_) fun hb => ?_ | refine ww3 ?_ | ((fail_if_success refine wwN ?_); refine ww4 ?_) | refine wGd (fun hb => ?_) fun hb => ?_ | exact trivial
        all_goals clear F
        all_goals refine Qfb [] rfl [0, 1, 2, 3, 4, 5, 6, 7, 8, 11] (x + 1) rfl (by decide) (by decide) hlt (by first | omega | (simp only; omega)) (by simp [Qbo, tmL, Qqw, Qfa, Qe2, Qc3, hyes]) (by simp [Qbd, hpL, Qk0, thB, Qb6, Qg4, Qc3, Qaf, Qae, Qah, Qam, Qac, Qan, Qc1, hyes])
      · have hbb : (d'.status == 1) = false := by simpa using hb'
        have hno := Qf7 hd' hd (fun h => hb' h.1)
        have F := wwA @Qao (wwA @Qam (wwA @Qaa (wwA @Qac (wwA @Qag (wwA @Qah (wwA @Qau (wwA @Qai (wwA @Qap (wwA @Qas (wwA @Qan (wwA @Qal (wwA @Qad (wwA @Qaf (wwA @Qab (wwA @Qae (wwA @Qaj (wwA @Qak (wwA @Qay (wwA @Nat.le_refl (wwA e1 (wwA e2 (wwA @Qca (wwA @Qdy (wwA hra (wwA hrb (wwA hli (wwA hlt (wwA hx0 (wwA hw (wwA hab hbb))))))))))))))))))))))))))))))
        repeat' first | refine wSq fun _ hK => ?_ | refine ww1 ?_ | (refine wK ?_; clear hK) | (simp only [wHb, reduceCtorEq] at hb <;> try (exfalso; omega)) | refine wCd (fun hb => ?_) fun hb => ?_ | refine ww3 ?_ | ((fail_if_success refine wwN ?_); refine ww4 ?_) | refine wGd (fun hb => ?_) fun hb => ?_ | exact trivial
        all_goals clear F
        all_goals refine Qfb [] rfl [0, 1, 2, 3, 4, 5, 6, 7, 8, 9] (x + 1) rfl (by decide) (by decide) hlt (by first | omega | (simp only; omega)) (by simp [Qbo, tmL, Qqw, Qfa, Qe2, Qc3, hno]) (by simp [Qbd, hpL, Qk0, thB, Qb6, Qg4, Qc3, Qaf, Qae, Qah, Qam, Qac, Qan, Qc1, hno])
    · have hab : (d.status == 0) = false := by simpa using ha
      have hno := Qf7 hd' hd (fun h => h.2 (by omega))
      have F := wwA @Qao (wwA @Qam (wwA @Qaa (wwA @Qac (wwA @Qag (wwA @Qah (wwA @Qau (wwA @Qai (wwA @Qap (wwA @Qas (wwA @Qan (wwA @Qal (wwA @Qad (wwA @Qaf (wwA @Qab (wwA @Qae (wwA @Qaj (wwA @Qak (wwA @Qay (wwA @Nat.le_refl (wwA e1 (wwA e2 (wwA @Qca (wwA @Qdy (wwA hra (wwA hrb (wwA hli (wwA hlt (wwA hx0 (wwA hw hab)))))))))))))))))))))))))))))
      repeat' first | refine wSq fun _ hK => ?_ | refine ww1 ?_ | (refine wK ?_; clear hK) | (simp only [wHb, reduceCtorEq] at hb <;> try (exfalso; omega)) | refine wCd (fun hb => ?_) fun hb => ?_ | refine ww3 ?_ | ((fail_if_success refine wwN ?_); refine ww4 ?_) | refine wGd (fun hb => ?_) fun hb => ?_ | exact trivial
      all_goals clear F
      all_goals refine Qfb [] rfl [0, 1, 2, 3, 4, 5, 6, 7, 8, 9] (x + 1) rfl (by decide) (by decide) hlt (by first | omega | (simp only; omega)) (by simp [Qbo, tmL, Qqw, Qfa, Qe2, Qc3, hno]) (by simp [Qbd, hpL, Qk0, thB, Qb6, Qg4, Qc3, Qaf, Qae, Qah, Qam, Qac, Qan, Qc1, hno])
  · obtain rfl : x = s.descs.length := by omega
    have hnl : ¬ ((s.descs.length : Int) < (s.descs.length : Int)) := by omega
    subst h2
    rcases hcs with hne | ⟨hne, hmi⟩
    · have hp0 : (0 : Int) < (fs.length : Int) := by have := List.length_pos_iff.2 hne; omega
      have F := wwA @Qao (wwA @Qam (wwA @Qaa (wwA @Qac (wwA @Qag (wwA @Qah (wwA @Qau (wwA @Qai (wwA @Qap (wwA @Qas (wwA @Qan (wwA @Qal (wwA @Qad (wwA @Qaf (wwA @Qab (wwA @Qae (wwA @Qaj (wwA @Qak (wwA @Qay (wwA @Nat.le_refl (wwA e1 (wwA e2 (wwA hnl (wwA hp0 (wwA @Qca (wwA @Qdy (wwA hfj (wwA t1 t2')))))))))))))))))))))))))))
      repeat' first | refine wSq fun _ hK => ?_ | refine ww1 ?_ | (refine wK ?_; clear hK) | (simp only [wHb, reduceCtorEq] at hb <;> try (exfalso; omega)) | refine wCd (fun hb => ?_) fun hb => ?_ | refine ww3 ?_ | ((fail_if_success refine wwN ?_); refine ww4 ?_) | refine wGd (fun hb => ?_) fun hb => ?_ | exact trivial
      all_goals refine wRo [] [_, _, _, _, _]
    · have hp0 : ¬ (0 : Int) < (fs.length : Int) := by rw [hne]; simp
      have F := wwA @Qao (wwA @Qam (wwA @Qaa (wwA @Qac (wwA @Qag (wwA @Qah (wwA @Qau (wwA @Qai (wwA @Qap (wwA @Qas (wwA @Qan (wwA @Qal (wwA @Qad (wwA @Qaf (wwA @Qab (wwA @Qae (wwA @Qaj (wwA @Qak (wwA @Qay (wwA @Nat.le_refl (wwA e1 (wwA e2 (wwA hnl (wwA hp0 (wwA hmi (wwA @Qca (wwA @Qdy (wwA hfj (wwA t1 t2'))))))))))))))))))))))))))))
      repeat' first | refine wSq fun _ hK => ?_ | refine ww1 ?_ | (refine wK ?_; clear hK) | (simp only [wHb, reduceCtorEq] at hb <;> try (exfalso; omega)) | refine wCd (fun hb => ?_) fun hb => ?_ | refine ww3 ?_ | ((fail_if_success refine wwN ?_); refine ww4 ?_) | refine wGd (fun hb => ?_) fun hb => ?_ | exact trivial
      all_goals refine wRo [] [_, _, _, _, _]
theorem Qpp (s : StoreD) (t t2 : ThreadD) (r : StoreD) (fs junk : List FrameD) (hc : SatO Tryz.prog 158 [.agg [.rf 0 s.heads.length, .rf 1 s.descs.length], .rf 2 t.stack.length] [.root 151 (Qat s.heads), .root 89 (Qar 91 s.descs), .root 160 (Qaq t.stack)] (.rf 2 fs.length) [.root 151 (Qat r.heads), .root 89 (Qar 91 r.descs), .root 160 (Qaq (fs ++ junk))]) (hs : s.small) (e1 : r.heads.length = s.heads.length) (e2 : r.descs.length = s.descs.length) (hk : Qq7 s.descs r.descs) (hd2 : s.descs.length ≤ 1048576) (k : Nat) (dk : DescS) (hne : fs = []) (hmi : t.mine = k) (hdk : r.descs[k]? = some dk) (ev : List EventD) (hcs : (dk.status = 1 ∧ ev = (Qdw s.descs r.descs s.descs.length) ∧ t2 = {t with stack := fs, opens := [], mine := -1, commits := Qlr t.commits, pc := t.pc + 1}) ∨ (¬ dk.status = 1 ∧ ev = (Qdw s.descs r.descs s.descs.length) ++ [⟨4, t.id, 0, 0⟩] ∧ t2 = {Qdx t with stack := fs, mine := -1})) (h0 : 0 ≤ t.pc) (h1 : t.pc ≤ 1048576) (g0 : 0 ≤ t.commits) (g1 : t.commits ≤ 1000000) (f0 : 0 ≤ t.fails) (f1 : t.fails ≤ 1000000) : SatO Tryz.prog 117 [.agg [.rf 0 s.heads.length, .rf 1 s.descs.length], .agg (thB t (.rf 2 t.prog.length) (.rf 3 t.opens.length) (.rf 4 t.stack.length))] [.root 151 (Qat s.heads), .root 89 (Qar 91 s.descs), .root 146 (Qaw t.prog), .root 91 (Qav t.opens), .root 160 (Qaq t.stack)] (.tup [.agg (thB t2 (.rf 2 t.prog.length) (.rf 5 0) (.rf 4 fs.length)), .rf 6 ev.length]) [.root 151 (Qat r.heads), .root 89 (Qar 91 r.descs), .root 146 (Qaw t.prog), .root 91 (Qav t.opens), .root 160 (Qaq (fs ++ junk)), .root 91 [], .root 86 (Qa0 ev)] := by
  have hstt := Qf6 s hs
  have hfj : fs.length ≤ (fs ++ junk).length := by simp
  have t1 := Qaj r.heads
  have t2' := Qak 91 r.descs
  rw [e1] at t1
  rw [e2] at t2'
  unfold StoreD.cells at hstt
  simp only [thB] at *
  refine wEo Tryz.func117 [.cell 4 57, .tmp 5] 92 5 (by simp [Qbc, Qa6, Qbg, Qcr, Qda]) fun E hE => ?_
  have F := wwA @Qao (wwA @Qam (wwA @Qaa (wwA @Qac (wwA @Qag (wwA @Qah (wwA @Qau (wwA @Qai (wwA @Qap (wwA @Qas (wwA @Qan (wwA @Qal (wwA @Qad (wwA @Qaf (wwA @Qab (wwA @Qae (wwA @Qaj (wwA @Qak (wwA @Qay (wwA @Nat.le_refl (wwA e1 e2))))))))))))))))))))
  repeat' first | refine wSq fun _ hK => ?_ | refine ww1 ?_ | (refine wK ?_; clear hK) | (simp only [wHb, reduceCtorEq] at hb <;> try (exfalso; omega)) | refine wCd (fun hb => ?_) fun hb => ?_ | refine wCa (c := by first | exact hstt) (k := ?_) | refine wOq [0, 1, 4] (hc) ?_ | refine ww3 ?_ | ((fail_if_success refine wwN ?_); refine ww4 ?_) | refine wGd (fun hb => ?_) fun hb => ?_ | exact trivial
  clear F
  refine Qd5 hE (X := Nat) (Qqw s r 9) (Qk0 s r t fs junk) (fun x => s.descs.length - x) (fun x => x ≤ s.descs.length) [0, 1, 2, 3, 4, 5, 6, 7, 8, 9] 0 (Nat.zero_le _) (by decide) (by decide) (by simp [Qbo, Qqw, Qfa, Qe2, Qc3, Qdw]) (by simp [Qbd, HpE, Qk0, thB, Qb6, Qg4, Qc3, Qaf, Qae, Qah, Qam, Qac, Qan, Qc1, Qdw, Qay, Qbh]; try (intro q hq; cases hq)) ?_
  intro x hx
  simp only [Qqw, Qk0, thB]
  have hx0 : (0 : Int) ≤ (x : Int) := by omega
  rcases Nat.lt_or_ge x s.descs.length with hlt | hge
  · obtain ⟨d, hd⟩ : ∃ d, s.descs[x]? = some d := ⟨_, List.getElem?_eq_getElem hlt⟩
    obtain ⟨d', hd'⟩ : ∃ d', r.descs[x]? = some d' := ⟨_, List.getElem?_eq_getElem (by rw [e2]; exact hlt)⟩
    have hra := Qle (Xay hd)
    have hrb := Qbl (te := 91) hd'
    have hst1 := hk x d d' hd hd'
    have hli : (x : Int) < (s.descs.length : Int) := by omega
    have hw : IntKind.i64.wrap ((x : Int) + 1) = x + 1 := Qax (by omega)
    have hcl := Qfc s.descs r.descs x
    have hap := Qfk (Qdw s.descs r.descs x) ⟨3, d'.owner, x, 0⟩
    have hxx : ((x + 1 : Nat) : Int) = (x : Int) + 1 := by omega
    by_cases ha : d.status = 0
    · have hab : (d.status == 0) = true := by simpa using ha
      by_cases hb' : d'.status = 1
      · have hbb : (d'.status == 1) = true := by simpa using hb'
        have hyes := Qjj hd' hd hb' (by omega)
        have hm1 : ((Qdw s.descs r.descs x).length + 1) * 32 ≤ 140737488355328 := by omega
        have hm2 : (Qdw s.descs r.descs x).length + 1 ≤ maxLen := of_eq_true (Qdn (by omega))
        have F := wwA @Qao (wwA @Qam (wwA @Qaa (wwA @Qac (wwA @Qag (wwA @Qah (wwA @Qau (wwA @Qai (wwA @Qap (wwA @Qas (wwA @Qan (wwA @Qal (wwA @Qad (wwA @Qaf (wwA @Qab (wwA @Qae (wwA @Qaj (wwA @Qak (wwA @Qay (wwA @Nat.le_refl (wwA e1 (wwA e2 (wwA @Qca (wwA @Qdy (wwA hra (wwA hrb (wwA hli (wwA hlt (wwA hx0 (wwA hw (wwA hab (wwA hbb (wwA hap (wwA hm1 hm2)))))))))))))))))))))))))))))))))
        repeat' first | refine wSq fun _ hK => ?_ | refine ww1 ?_ | (refine wK ?_; clear hK) | (simp only [wHb, reduceCtorEq] at hb <;> try (exfalso; omega)) | refine wCd (fun hb => ?_) fun hb => ?_ | refine ww3 ?_ | ((fail_if_success refine wwN ?_); refine ww4 ?_) | refine wGd (fun hb => ?_) fun hb => ?_ | exact trivial
        all_goals clear F
        all_goals refine Qfb [] rfl [0, 1, 2, 3, 4, 5, 6, 7, 8, 11] (x + 1) rfl (by decide) (by decide) hlt (by first | omega | (simp only; omega)) (by simp [Qbo, tmL, Qqw, Qfa, Qe2, Qc3, hyes]) (by simp [Qbd, hpL, Qk0, thB, Qb6, Qg4, Qc3, Qaf, Qae, Qah, Qam, Qac, Qan, Qc1, hyes])
      · have hbb : (d'.status == 1) = false := by simpa using hb'
        have hno := Qf7 hd' hd (fun h => hb' h.1)
        have F := wwA @Qao (wwA @Qam (wwA @Qaa (wwA @Qac (wwA @Qag (wwA @Qah (wwA @Qau (wwA @Qai (wwA @Qap (wwA @Qas (wwA @Qan (wwA @Qal (wwA @Qad (wwA @Qaf (wwA @Qab (wwA @Qae (wwA @Qaj (wwA @Qak (wwA @Qay (wwA @Nat.le_refl (wwA e1 (wwA e2 (wwA @Qca (wwA @Qdy (wwA hra (wwA hrb (wwA hli (wwA hlt (wwA hx0 (wwA hw (wwA hab hbb))))))))))))))))))))))))))))))
        repeat' first | refine wSq fun _ hK => ?_ | refine ww1 ?_ | (refine wK ?_; clear hK) | (simp only [wHb, reduceCtorEq] at hb <;> try (exfalso; omega)) | refine wCd (fun hb => ?_) fun hb => ?_ | refine ww3 ?_ | ((fail_if_success refine wwN ?_); refine ww4 ?_) | refine wGd (fun hb => ?_) fun hb => ?_ | exact trivial
        all_goals clear F
        all_goals refine Qfb [] rfl [0, 1, 2, 3, 4, 5, 6, 7, 8, 9] (x + 1) rfl (by decide) (by decide) hlt (by first | omega | (simp only; omega)) (by simp [Qbo, tmL, Qqw, Qfa, Qe2, Qc3, hno]) (by simp [Qbd, hpL, Qk0, thB, Qb6, Qg4, Qc3, Qaf, Qae, Qah, Qam, Qac, Qan, Qc1, hno])
    · have hab : (d.status == 0) = false := by simpa using ha
      have hno := Qf7 hd' hd (fun h => h.2 (by omega))
      have F := wwA @Qao (wwA @Qam (wwA @Qaa (wwA @Qac (wwA @Qag (wwA @Qah (wwA @Qau (wwA @Qai (wwA @Qap (wwA @Qas (wwA @Qan (wwA @Qal (wwA @Qad (wwA @Qaf (wwA @Qab (wwA @Qae (wwA @Qaj (wwA @Qak (wwA @Qay (wwA @Nat.le_refl (wwA e1 (wwA e2 (wwA @Qca (wwA @Qdy (wwA hra (wwA hrb (wwA hli (wwA hlt (wwA hx0 (wwA hw hab)))))))))))))))))))))))))))))
      repeat' first | refine wSq fun _ hK => ?_ | refine ww1 ?_ | (refine wK ?_; clear hK) | (simp only [wHb, reduceCtorEq] at hb <;> try (exfalso; omega)) | refine wCd (fun hb => ?_) fun hb => ?_ | refine ww3 ?_ | ((fail_if_success refine wwN ?_); refine ww4 ?_) | refine wGd (fun hb => ?_) fun hb => ?_ | exact trivial
      all_goals clear F
      all_goals refine Qfb [] rfl [0, 1, 2, 3, 4, 5, 6, 7, 8, 9] (x + 1) rfl (by decide) (by decide) hlt (by first | omega | (simp only; omega)) (by simp [Qbo, tmL, Qqw, Qfa, Qe2, Qc3, hno]) (by simp [Qbd, hpL, Qk0, thB, Qb6, Qg4, Qc3, Qaf, Qae, Qah, Qam, Qac, Qan, Qc1, hno])
  · obtain rfl : x = s.descs.length := by omega
    have hnl : ¬ ((s.descs.length : Int) < (s.descs.length : Int)) := by omega
    have hp0 : ¬ (0 : Int) < (fs.length : Int) := by rw [hne]; simp
    have hk0 : (0 : Int) ≤ (k : Int) := by omega
    have hkn : ¬ (k : Int) < 0 := by omega
    have hkl0 : k < r.descs.length := (List.getElem?_eq_some_iff.1 hdk).1
    have hkl : k < s.descs.length := by rw [← e2]; exact hkl0
    have hki : (k : Int) < (s.descs.length : Int) := by omega
    have hrk := Qbl (te := 91) hdk
    have hwp : IntKind.i64.wrap (t.pc + 1) = t.pc + 1 := Qax (by omega)
    have hwc : IntKind.i64.wrap (t.commits + 1) = t.commits + 1 := Qax (by omega)
    have hmn := Qmp 1000000 (t.commits + 1)
    rw [show (if (1000000 : Int) < t.commits + 1 then 1000000 else t.commits + 1) = Qlr t.commits from rfl] at hmn
    rcases hcs with ⟨hsc, rfl, rfl⟩ | ⟨hsc, rfl, rfl⟩
    · have hsb : (dk.status == 1) = true := by simpa using hsc
      have F := wwA @Qao (wwA @Qam (wwA @Qaa (wwA @Qac (wwA @Qag (wwA @Qah (wwA @Qau (wwA @Qai (wwA @Qap (wwA @Qas (wwA @Qan (wwA @Qal (wwA @Qad (wwA @Qaf (wwA @Qab (wwA @Qae (wwA @Qaj (wwA @Qak (wwA @Qay (wwA @Nat.le_refl (wwA e1 (wwA e2 (wwA hfj (wwA hnl (wwA hp0 (wwA hmi (wwA hk0 (wwA hkn (wwA hkl (wwA hki (wwA hrk (wwA @Qca (wwA @Qdy (wwA hsb (wwA hwp (wwA hwc (wwA t1 t2'))))))))))))))))))))))))))))))))))))
      repeat' first | refine wSq fun _ hK => ?_ | refine ww1 ?_ | (refine wK ?_; clear hK) | (simp only [wHb, reduceCtorEq] at hb <;> try (exfalso; omega)) | refine wCd (fun hb => ?_) fun hb => ?_ | refine wCa (c := by first | exact hmn) (k := ?_) | refine ww3 ?_ | ((fail_if_success refine wwN ?_); refine ww4 ?_) | refine wGd (fun hb => ?_) fun hb => ?_ | exact trivial
      all_goals refine wRo [] [_, _, _, _, _]
    · have hsb : (dk.status == 1) = false := by simpa using hsc
      have hfl := Qqt {t with stack := fs, mine := -1, opens := []} (fs ++ junk) fs.length (by simp) f0 f1
      simp only [thB] at hfl
      have hcl := Qfc s.descs r.descs s.descs.length
      have hm1 : ((Qdw s.descs r.descs s.descs.length).length + 1) * 32 ≤ 140737488355328 := by omega
      have hm2 : (Qdw s.descs r.descs s.descs.length).length + 1 ≤ maxLen := of_eq_true (Qdn (by omega))
      have hap := Qfk (Qdw s.descs r.descs s.descs.length) ⟨4, t.id, 0, 0⟩
      have hv1 : (Qa0 [⟨4, t.id, 0, 0⟩]).take 1 = [[.int .i64 4, .int .i64 t.id, .int .i64 0, .int .i64 0]] := rfl
      have hpc : ([[.int .i64 4, .int .i64 t.id, .int .i64 0, .int .i64 0]] : List (List PT)).all (fun x => x.all Qcy) = true := rfl
      have hvt := Qal (Qdw s.descs r.descs s.descs.length ++ [(⟨4, t.id, 0, 0⟩ : EventD)])
      have hel : (Qdw s.descs r.descs s.descs.length ++ [(⟨4, t.id, 0, 0⟩ : EventD)]).length = (Qdw s.descs r.descs s.descs.length).length + 1 := by simp
      rw [hel] at hvt ⊢
      unfold Qdx at *
      have F := wwA @Qao (wwA @Qam (wwA @Qaa (wwA @Qac (wwA @Qag (wwA @Qah (wwA @Qau (wwA @Qai (wwA @Qap (wwA @Qas (wwA @Qan (wwA @Qal (wwA @Qad (wwA @Qaf (wwA @Qab (wwA @Qae (wwA @Qaj (wwA @Qak (wwA @Qay (wwA @Nat.le_refl (wwA e1 (wwA e2 (wwA hfj (wwA hnl (wwA hp0 (wwA hmi (wwA hk0 (wwA hkn (wwA hkl (wwA hki (wwA hrk (wwA @Qca (wwA @Qdy (wwA hsb (wwA hm1 (wwA hm2 (wwA hap (wwA hv1 (wwA hpc (wwA hel (wwA hvt (wwA t1 t2')))))))))))))))))))))))))))))))))))))))))
      repeat' first | refine wSq fun _ hK => ?_ | refine Qa1 hT hM (id := 19) 6 [[0,1,2,3,4,5],[1,2,3,0,4,5]] (by kernel_rfl) ?_ | refine ww1 ?_ | (refine wK ?_; clear hK) | (simp only [wHb, reduceCtorEq] at hb <;> try (exfalso; omega)) | refine wCd (fun hb => ?_) fun hb => ?_ | refine wOq [2, 4] (hfl) ?_ | refine ww3 ?_ | ((fail_if_success refine wwN ?_); refine ww4 ?_) | refine wGd (fun hb => ?_) fun hb => ?_ | refine And.intro ?_ ?_ | exact trivial
      all_goals refine wRo [] [_, _, _, _, _]
def Xd4 (s : StoreD) (t : ThreadD) (s2 : StoreD) (t2 : ThreadD) (ev : List EventD) : Prop :=
(s2 = s ∧ t2.opens = t.opens ∧ t2.stack = t.stack ∧ SatO Tryz.prog 69 [.bp 0 0, .bp 4 0] [.box (thB t (.rf 1 t.prog.length) (.rf 2 t.opens.length) (.rf 3 t.stack.length)), .root 146 (Qaw t.prog), .root 91 (Qav t.opens), .root 160 (Qaq t.stack), .box [.rf 5 s.heads.length, .rf 6 s.descs.length], .root 151 (Qat s.heads), .root 89 (Qar 91 s.descs)] (.rf 7 ev.length) [.box (thB t2 (.rf 1 t.prog.length) (.rf 2 t.opens.length) (.rf 3 t.stack.length)), .root 146 (Qaw t.prog), .root 91 (Qav t.opens), .root 160 (Qaq t.stack), .box [.rf 5 s.heads.length, .rf 6 s.descs.length], .root 151 (Qat s.heads), .root 89 (Qar 91 s.descs), .root 86 (Qa0 ev)])
  ∨ (s2 = s ∧ t2.opens = [] ∧ t2.stack = t.stack ∧ SatO Tryz.prog 69 [.bp 0 0, .bp 4 0] [.box (thB t (.rf 1 t.prog.length) (.rf 2 t.opens.length) (.rf 3 t.stack.length)), .root 146 (Qaw t.prog), .root 91 (Qav t.opens), .root 160 (Qaq t.stack), .box [.rf 5 s.heads.length, .rf 6 s.descs.length], .root 151 (Qat s.heads), .root 89 (Qar 91 s.descs)] (.rf 7 ev.length) [.box (thB t2 (.rf 1 t.prog.length) (.nl 91) (.rf 3 t.stack.length)), .root 146 (Qaw t.prog), .root 91 (Qav t.opens), .root 160 (Qaq t.stack), .box [.rf 5 s.heads.length, .rf 6 s.descs.length], .root 151 (Qat s.heads), .root 89 (Qar 91 s.descs), .root 86 (Qa0 ev)])
  ∨ (s2 = s ∧ t2.opens = t.opens ∧ SatO Tryz.prog 69 [.bp 0 0, .bp 4 0] [.box (thB t (.rf 1 t.prog.length) (.rf 2 t.opens.length) (.rf 3 t.stack.length)), .root 146 (Qaw t.prog), .root 91 (Qav t.opens), .root 160 (Qaq t.stack), .box [.rf 5 s.heads.length, .rf 6 s.descs.length], .root 151 (Qat s.heads), .root 89 (Qar 91 s.descs)] (.rf 8 ev.length) [.box (thB t2 (.rf 1 t.prog.length) (.rf 2 t.opens.length) (.rf 7 t2.stack.length)), .root 146 (Qaw t.prog), .root 91 (Qav t.opens), .dead, .box [.rf 5 s.heads.length, .rf 6 s.descs.length], .root 151 (Qat s.heads), .root 89 (Qar 91 s.descs), .root 160 (Qaq t2.stack), .root 86 (Qa0 ev)])
  ∨ (s2 = s ∧ t2.opens = t.opens ∧ SatO Tryz.prog 69 [.bp 0 0, .bp 4 0] [.box (thB t (.rf 1 t.prog.length) (.rf 2 t.opens.length) (.rf 3 t.stack.length)), .root 146 (Qaw t.prog), .root 91 (Qav t.opens), .root 160 (Qaq t.stack), .box [.rf 5 s.heads.length, .rf 6 s.descs.length], .root 151 (Qat s.heads), .root 89 (Qar 91 s.descs)] (.rf 8 ev.length) [.box (thB t2 (.rf 1 t.prog.length) (.rf 2 t.opens.length) (.rf 7 t2.stack.length)), .root 146 (Qaw t.prog), .root 91 (Qav t.opens), .root 160 (Qaq t.stack), .box [.rf 5 s.heads.length, .rf 6 s.descs.length], .root 151 (Qat s.heads), .root 89 (Qar 91 s.descs), .root 160 (Qaq t2.stack), .root 86 (Qa0 ev)])
  ∨ (s2 = s ∧ t2.stack = t.stack ∧ SatO Tryz.prog 69 [.bp 0 0, .bp 4 0] [.box (thB t (.rf 1 t.prog.length) (.rf 2 t.opens.length) (.rf 3 t.stack.length)), .root 146 (Qaw t.prog), .root 91 (Qav t.opens), .root 160 (Qaq t.stack), .box [.rf 5 s.heads.length, .rf 6 s.descs.length], .root 151 (Qat s.heads), .root 89 (Qar 91 s.descs)] (.rf 8 ev.length) [.box (thB t2 (.rf 1 t.prog.length) (.rf 7 t2.opens.length) (.rf 3 t.stack.length)), .root 146 (Qaw t.prog), .root 91 (Qav t.opens), .root 160 (Qaq t.stack), .box [.rf 5 s.heads.length, .rf 6 s.descs.length], .root 151 (Qat s.heads), .root 89 (Qar 91 s.descs), .root 91 (Qav t2.opens), .root 86 (Qa0 ev)])
  ∨ (t2.opens = t.opens ∧ SatO Tryz.prog 69 [.bp 0 0, .bp 4 0] [.box (thB t (.rf 1 t.prog.length) (.rf 2 t.opens.length) (.rf 3 t.stack.length)), .root 146 (Qaw t.prog), .root 91 (Qav t.opens), .root 160 (Qaq t.stack), .box [.rf 5 s.heads.length, .rf 6 s.descs.length], .root 151 (Qat s.heads), .root 89 (Qar 91 s.descs)] (.rf 10 ev.length) [.box (thB t2 (.rf 1 t.prog.length) (.rf 2 t.opens.length) (.rf 7 t2.stack.length)), .root 146 (Qaw t.prog), .root 91 (Qav t.opens), .root 160 (Qaq t.stack), .box [.rf 8 s2.heads.length, .rf 9 s2.descs.length], .root 151 (Qat s.heads), .root 89 (Qar 91 s.descs), .root 160 (Qaq t2.stack), .root 151 (Qat s2.heads), .root 89 (Qar 91 s2.descs), .root 86 (Qa0 ev)])
  ∨ (t2.opens = t.opens ∧ SatO Tryz.prog 69 [.bp 0 0, .bp 4 0] [.box (thB t (.rf 1 t.prog.length) (.rf 2 t.opens.length) (.rf 3 t.stack.length)), .root 146 (Qaw t.prog), .root 91 (Qav t.opens), .root 160 (Qaq t.stack), .box [.rf 5 s.heads.length, .rf 6 s.descs.length], .root 151 (Qat s.heads), .root 89 (Qar 91 s.descs)] (.rf 10 ev.length) [.box (thB t2 (.rf 1 t.prog.length) (.rf 2 t.opens.length) (.rf 7 t2.stack.length)), .root 146 (Qaw t.prog), .root 91 (Qav t.opens), .dead, .box [.rf 8 s2.heads.length, .rf 9 s2.descs.length], .root 151 (Qat s.heads), .root 89 (Qar 91 s.descs), .root 160 (Qaq t2.stack), .root 151 (Qat s2.heads), .root 89 (Qar 91 s2.descs), .root 86 (Qa0 ev)])
  ∨ (t2.opens = [] ∧ SatO Tryz.prog 69 [.bp 0 0, .bp 4 0] [.box (thB t (.rf 1 t.prog.length) (.rf 2 t.opens.length) (.rf 3 t.stack.length)), .root 146 (Qaw t.prog), .root 91 (Qav t.opens), .root 160 (Qaq t.stack), .box [.rf 5 s.heads.length, .rf 6 s.descs.length], .root 151 (Qat s.heads), .root 89 (Qar 91 s.descs)] (.rf 10 ev.length) [.box (thB t2 (.rf 1 t.prog.length) (.nl 91) (.rf 7 t2.stack.length)), .root 146 (Qaw t.prog), .root 91 (Qav t.opens), .root 160 (Qaq t.stack), .box [.rf 8 s2.heads.length, .rf 9 s2.descs.length], .root 151 (Qat s.heads), .root 89 (Qar 91 s.descs), .root 160 (Qaq t2.stack), .root 151 (Qat s2.heads), .root 89 (Qar 91 s2.descs), .root 86 (Qa0 ev)])
def Xe7 (s : StoreD) (t : ThreadD) (s2 : StoreD) (t2 : ThreadD) (ev : List EventD) : Prop :=
(s2 = s ∧ t2.opens = t.opens ∧ t2.stack = t.stack ∧ SatO Tryz.prog 59 [.agg [.rf 0 s.heads.length, .rf 1 s.descs.length], .agg (thB t (.rf 2 t.prog.length) (.rf 3 t.opens.length) (.rf 4 t.stack.length))] [.root 151 (Qat s.heads), .root 89 (Qar 91 s.descs), .root 146 (Qaw t.prog), .root 91 (Qav t.opens), .root 160 (Qaq t.stack)] (.tup [.agg [.rf 0 s.heads.length, .rf 1 s.descs.length], .agg (thB t2 (.rf 2 t.prog.length) (.rf 3 t.opens.length) (.rf 4 t.stack.length)), .rf 5 ev.length]) [.root 151 (Qat s.heads), .root 89 (Qar 91 s.descs), .root 146 (Qaw t.prog), .root 91 (Qav t.opens), .root 160 (Qaq t.stack), .root 86 (Qa0 ev)])
  ∨ (s2 = s ∧ t2.opens = [] ∧ t2.stack = t.stack ∧ SatO Tryz.prog 59 [.agg [.rf 0 s.heads.length, .rf 1 s.descs.length], .agg (thB t (.rf 2 t.prog.length) (.rf 3 t.opens.length) (.rf 4 t.stack.length))] [.root 151 (Qat s.heads), .root 89 (Qar 91 s.descs), .root 146 (Qaw t.prog), .root 91 (Qav t.opens), .root 160 (Qaq t.stack)] (.tup [.agg [.rf 0 s.heads.length, .rf 1 s.descs.length], .agg (thB t2 (.rf 2 t.prog.length) (.rf 5 0) (.rf 4 t.stack.length)), .rf 6 ev.length]) [.root 151 (Qat s.heads), .root 89 (Qar 91 s.descs), .root 146 (Qaw t.prog), .root 91 (Qav t.opens), .root 160 (Qaq t.stack), .root 91 [], .root 86 (Qa0 ev)])
  ∨ (s2 = s ∧ t2.opens = t.opens ∧ SatO Tryz.prog 59 [.agg [.rf 0 s.heads.length, .rf 1 s.descs.length], .agg (thB t (.rf 2 t.prog.length) (.rf 3 t.opens.length) (.rf 4 t.stack.length))] [.root 151 (Qat s.heads), .root 89 (Qar 91 s.descs), .root 146 (Qaw t.prog), .root 91 (Qav t.opens), .root 160 (Qaq t.stack)] (.tup [.agg [.rf 0 s.heads.length, .rf 1 s.descs.length], .agg (thB t2 (.rf 2 t.prog.length) (.rf 3 t.opens.length) (.rf 5 t2.stack.length)), .rf 6 ev.length]) [.root 151 (Qat s.heads), .root 89 (Qar 91 s.descs), .root 146 (Qaw t.prog), .root 91 (Qav t.opens), .dead, .root 160 (Qaq t2.stack), .root 86 (Qa0 ev)])
  ∨ (s2 = s ∧ t2.stack = t.stack ∧ SatO Tryz.prog 59 [.agg [.rf 0 s.heads.length, .rf 1 s.descs.length], .agg (thB t (.rf 2 t.prog.length) (.rf 3 t.opens.length) (.rf 4 t.stack.length))] [.root 151 (Qat s.heads), .root 89 (Qar 91 s.descs), .root 146 (Qaw t.prog), .root 91 (Qav t.opens), .root 160 (Qaq t.stack)] (.tup [.agg [.rf 0 s.heads.length, .rf 1 s.descs.length], .agg (thB t2 (.rf 2 t.prog.length) (.rf 5 t2.opens.length) (.rf 4 t.stack.length)), .rf 6 ev.length]) [.root 151 (Qat s.heads), .root 89 (Qar 91 s.descs), .root 146 (Qaw t.prog), .root 91 (Qav t.opens), .root 160 (Qaq t.stack), .root 91 (Qav t2.opens), .root 86 (Qa0 ev)])
  ∨ (t2.opens = t.opens ∧ s2.heads.length = s.heads.length ∧ s2.descs.length = s.descs.length ∧ ∃ junk, SatO Tryz.prog 59 [.agg [.rf 0 s.heads.length, .rf 1 s.descs.length], .agg (thB t (.rf 2 t.prog.length) (.rf 3 t.opens.length) (.rf 4 t.stack.length))] [.root 151 (Qat s.heads), .root 89 (Qar 91 s.descs), .root 146 (Qaw t.prog), .root 91 (Qav t.opens), .root 160 (Qaq t.stack)] (.tup [.agg [.rf 0 s2.heads.length, .rf 1 s2.descs.length], .agg (thB t2 (.rf 2 t.prog.length) (.rf 3 t.opens.length) (.rf 4 t2.stack.length)), .rf 5 ev.length]) [.root 151 (Qat s2.heads), .root 89 (Qar 91 s2.descs), .root 146 (Qaw t.prog), .root 91 (Qav t.opens), .root 160 (Qaq (t2.stack ++ junk)), .root 86 (Qa0 ev)])
  ∨ (t2.opens = t.opens ∧ s2.heads.length = s.heads.length ∧ s2.descs.length = s.descs.length ∧ SatO Tryz.prog 59 [.agg [.rf 0 s.heads.length, .rf 1 s.descs.length], .agg (thB t (.rf 2 t.prog.length) (.rf 3 t.opens.length) (.rf 4 t.stack.length))] [.root 151 (Qat s.heads), .root 89 (Qar 91 s.descs), .root 146 (Qaw t.prog), .root 91 (Qav t.opens), .root 160 (Qaq t.stack)] (.tup [.agg [.rf 0 s2.heads.length, .rf 1 s2.descs.length], .agg (thB t2 (.rf 2 t.prog.length) (.rf 3 t.opens.length) (.rf 5 t2.stack.length)), .rf 6 ev.length]) [.root 151 (Qat s2.heads), .root 89 (Qar 91 s2.descs), .root 146 (Qaw t.prog), .root 91 (Qav t.opens), .dead, .root 160 (Qaq t2.stack), .root 86 (Qa0 ev)])
  ∨ (t2.opens = [] ∧ s2.heads.length = s.heads.length ∧ s2.descs.length = s.descs.length ∧ ∃ junk, SatO Tryz.prog 59 [.agg [.rf 0 s.heads.length, .rf 1 s.descs.length], .agg (thB t (.rf 2 t.prog.length) (.rf 3 t.opens.length) (.rf 4 t.stack.length))] [.root 151 (Qat s.heads), .root 89 (Qar 91 s.descs), .root 146 (Qaw t.prog), .root 91 (Qav t.opens), .root 160 (Qaq t.stack)] (.tup [.agg [.rf 0 s2.heads.length, .rf 1 s2.descs.length], .agg (thB t2 (.rf 2 t.prog.length) (.rf 5 0) (.rf 4 t2.stack.length)), .rf 6 ev.length]) [.root 151 (Qat s2.heads), .root 89 (Qar 91 s2.descs), .root 146 (Qaw t.prog), .root 91 (Qav t.opens), .root 160 (Qaq (t2.stack ++ junk)), .root 91 [], .root 86 (Qa0 ev)])
  ∨ (t2.opens = t.opens ∧ SatO Tryz.prog 59 [.agg [.rf 0 s.heads.length, .rf 1 s.descs.length], .agg (thB t (.rf 2 t.prog.length) (.rf 3 t.opens.length) (.rf 4 t.stack.length))] [.root 151 (Qat s.heads), .root 89 (Qar 91 s.descs), .root 146 (Qaw t.prog), .root 91 (Qav t.opens), .root 160 (Qaq t.stack)] (.tup [.agg [.rf 5 s2.heads.length, .rf 6 s2.descs.length], .agg (thB t2 (.rf 2 t.prog.length) (.rf 3 t.opens.length) (.rf 7 t2.stack.length)), .rf 8 ev.length]) [.root 151 (Qat s.heads), .root 89 (Qar 91 s.descs), .root 146 (Qaw t.prog), .root 91 (Qav t.opens), .root 160 (Qaq t.stack), .root 151 (Qat s2.heads), .root 89 (Qar 91 s2.descs), .root 160 (Qaq t2.stack), .root 86 (Qa0 ev)])
structure RunP (s : StoreD) (t : ThreadD) : Prop where
  hi : HelpI s t.stack
  ti : s.tiny
  hl : s.heads.length ≤ 8
  dl : s.descs.length ≤ 60
  en : Qdf s.descs ≤ 1048000
  hv : ∀ h ∈ s.heads, (-1000000000 ≤ h.value ∧ h.value ≤ 1000000000) ∧ 0 ≤ h.version ∧ h.version ≤ 1000000
  pg : t.prog.length ≤ 30
  po : ∀ x ∈ t.prog, x.ok t.prog.length = true
  pc0 : 0 ≤ t.pc
  pc1 : t.pc ≤ t.prog.length
  rg : (-1000000000 ≤ t.r0 ∧ t.r0 ≤ 1000000000) ∧ (-1000000000 ≤ t.r1 ∧ t.r1 ≤ 1000000000) ∧ (-1000000000 ≤ t.r2 ∧ t.r2 ≤ 1000000000) ∧ (-1000000000 ≤ t.r3 ∧ t.r3 ≤ 1000000000)
  op : Qeb t.opens
  ob : ∀ e ∈ t.opens, 0 ≤ e.object ∧ e.object < s.heads.length
  ck : t.check = -1 ∨ ∃ j : Nat, t.check = j ∧ j + 2 ≤ t.opens.length
  mi : t.mine = -1 ∨ ∃ k : Nat, t.mine = k ∧ k < s.descs.length
  cm : 0 ≤ t.commits ∧ t.commits ≤ 1000000
  fa : 0 ≤ t.fails ∧ t.fails ≤ 1000000
  idk : inB t.id 0 3 = true
theorem Qsg (ds : List DescS) : ∀ i, Qdw ds ds i = []
  | 0 => rfl
  | i + 1 => by
    rw [Qdw, Qsg ds i]
    cases h : ds[i]? with
    | none => rfl
    | some d => simp
def SzP (s2 : StoreD) (t2 : ThreadD) (ev : List EventD) : Prop := s2.tiny ∧ t2.opens.length ≤ 1048576 ∧ t2.stack.length ≤ 1048576 ∧ ev.length ≤ 2097152
def Qvv (s : StoreD) (t : ThreadD) : Prop := ∃ s2 t2 ev, t2.prog = t.prog ∧ SzP s2 t2 ev ∧ Xd4 s t s2 t2 ev ∧ Xe7 s t s2 t2 ev
theorem Qc8 {s : StoreD} {t : ThreadD} (s2 : StoreD) (t2 : ThreadD) (ev : List EventD) (hp : t2.prog = t.prog) (hz : SzP s2 t2 ev) (h1 : Xd4 s t s2 t2 ev) (h2 : Xe7 s t s2 t2 ev) : Qvv s t := ⟨s2, t2, ev, hp, hz, h1, h2⟩
theorem Xhp (s : StoreD) (fs : List FrameD) (hi : HelpI s fs) (hs : s.small) (r : StoreD × List FrameD) (hr : Qes s fs = r) :
    (∃ junk', SatO Tryz.prog 158 [.agg [.rf 0 s.heads.length, .rf 1 s.descs.length], .rf 2 fs.length] [.root 151 (Qat s.heads), .root 89 (Qar 91 s.descs), .root 160 (Qaq fs)]
      (.rf 2 r.2.length) [.root 151 (Qat r.1.heads), .root 89 (Qar 91 r.1.descs), .root 160 (Qaq (r.2 ++ junk'))]) ∨
    (¬ r.2 = [] ∧ SatO Tryz.prog 158 [.agg [.rf 0 s.heads.length, .rf 1 s.descs.length], .rf 2 fs.length] [.root 151 (Qat s.heads), .root 89 (Qar 91 s.descs), .root 160 (Qaq fs)]
      (.rf 3 r.2.length) [.root 151 (Qat r.1.heads), .root 89 (Qar 91 r.1.descs), .dead, .root 160 (Qaq r.2)]) := by
  have h0 := l8_ok s fs [] hi hs r hr
  rw [List.append_nil] at h0
  rcases h0 with h | h
  · exact .inl h
  · by_cases hn : r.2 = []
    · left
      rcases List.eq_nil_or_concat fs with rfl | ⟨init, f, rfl⟩
      · rw [Qjy] at hr
        subst hr
        have := Qwi s [] hs
        exact ⟨[], by simpa using this⟩
      · rw [List.concat_eq_append] at *
        have hlen := hi.len
        simp at hlen
        obtain ⟨k, d, j, e, o, hd, ha, h1, h2, h3, h4⟩ := Qmu hi.st (hi.fr f (by simp))
        rw [Qey, Qfp ha] at hr
        by_cases hm : 0 ≤ (Qa5 s f k d e o hd).2.2
        · rw [if_pos hm] at hr
          exfalso
          split at hr
          · subst hr
            simp at hn
          · subst hr
            simp at hn
        · rw [if_neg hm] at hr
          by_cases h5 : (Qa5 s f k d e o hd).2.1.phase = 5
          · rw [if_pos h5] at hr
            subst hr
            have := Qv0 s init [] f k d j e o hd ha h1 h2 hs _ rfl hm h5 (by omega)
            exact ⟨_, by simpa using this⟩
          · rw [if_neg h5] at hr
            exfalso
            subst hr
            simp at hn
    · exact .inr ⟨hn, h⟩
theorem Qxc {s : StoreD} {t : ThreadD} (h : RunP s t) (hln : 0 < t.stack.length) : Qvv s t := by
  have hst : (0 : Int) < t.stack.length := by omega
  have hkk := Qi3 h.hi
  obtain ⟨r, hr⟩ : ∃ r, Qes s t.stack = r := ⟨_, rfl⟩
  have hk : Qq7 s.descs r.1.descs := by rw [← hr]; exact Qy4 h.hi
  rw [hr] at hkk
  have htr : r.1.tiny := by rw [← hr]; exact Qxl h.hi h.ti
  have hrl := hkk.inv.len
  have hcl := Qfc s.descs r.1.descs s.descs.length
  have e1 : r.1.heads.length = s.heads.length := hkk.hl
  have e2 : r.1.descs.length = s.descs.length := hkk.dl
  have hd2 : s.descs.length ≤ 1048576 := h.ti.2.1
  have hsm := h.ti.small
  have h8 := Xhp s t.stack h.hi hsm r hr
  have hpb : t.pc ≤ 1048576 := by have := h.pc1; have := h.pg; omega
  by_cases hne : r.2 = [] ∧ ¬ t.mine = -1
  · obtain ⟨hne, hmi⟩ := hne
    have hsk : Qgb s t.stack = false := by
      cases hb : Qgb s t.stack with
      | false => rfl
      | true =>
        have := Qo0 hb
        rw [hr] at this
        rw [this] at hne
        simp only at hne
        rw [hne] at hln
        simp at hln
    obtain ⟨k, hmk, hkl⟩ : ∃ k : Nat, t.mine = k ∧ k < s.descs.length := by
      rcases h.mi with h1 | h1
      · exact absurd h1 hmi
      · exact h1
    obtain ⟨dk, hdk⟩ : ∃ d, r.1.descs[k]? = some d := ⟨_, List.getElem?_eq_getElem (by rw [e2]; exact hkl)⟩
    obtain ⟨junk, hc8⟩ : ∃ junk', SatO Tryz.prog 158 [.agg [.rf 0 s.heads.length, .rf 1 s.descs.length], .rf 2 t.stack.length] [.root 151 (Qat s.heads), .root 89 (Qar 91 s.descs), .root 160 (Qaq t.stack)]
      (.rf 2 r.2.length) [.root 151 (Qat r.1.heads), .root 89 (Qar 91 r.1.descs), .root 160 (Qaq (r.2 ++ junk'))] := by
      rcases h8 with h8 | ⟨h8, _⟩
      · exact h8
      · exact absurd hne h8
    obtain ⟨t2, ev, hcs, hp2, ho2, hs2, hev⟩ : ∃ (t2 : ThreadD) (ev : List EventD), ((dk.status = 1 ∧ ev = Qdw s.descs r.1.descs s.descs.length ∧ t2 = {t with stack := r.2, opens := [], mine := -1, commits := Qlr t.commits, pc := t.pc + 1}) ∨ (¬ dk.status = 1 ∧ ev = Qdw s.descs r.1.descs s.descs.length ++ [⟨4, t.id, 0, 0⟩] ∧ t2 = {Qdx t with stack := r.2, mine := -1})) ∧ t2.prog = t.prog ∧ t2.opens = [] ∧ t2.stack = r.2 ∧ ev.length ≤ 2097152 := by
      by_cases hsc : dk.status = 1
      · exact ⟨_, _, .inl ⟨hsc, rfl, rfl⟩, rfl, rfl, rfl, by omega⟩
      · exact ⟨_, _, .inr ⟨hsc, rfl, rfl⟩, rfl, rfl, rfl, by simp; omega⟩
    have hc1 := Qu5 s t h.hi h.ti hsk r hr t2 ev k dk hne hmk hdk hcs h.pc0 hpb h.cm.1 h.cm.2 h.fa.1 h.fa.2
    have hc2 := Qpp s t t2 r.1 r.2 junk hc8 hsm e1 e2 hk hd2 k dk hne hmk hdk ev hcs h.pc0 hpb h.cm.1 h.cm.2 h.fa.1 h.fa.2
    refine Qc8 r.1 t2 ev hp2 ⟨htr, by rw [ho2]; simp, by rw [hs2]; omega, hev⟩ ?_ ?_
    · exact .inr (.inr (.inr (.inr (.inr (.inr (.inr (⟨ho2, by rw [hs2]; exact Qyj s t t2 r.1 r.2 _ rfl ev _ rfl hst (by rw [e1, e2]; exact hc1)⟩)))))))
    · exact .inr (.inr (.inr (.inr (.inr (.inr (.inl ⟨ho2, e1, e2, junk, by rw [hs2]; exact Qmf s t t2 r.1 r.2 junk ev _ rfl e1 e2 hst hc2⟩))))))
  · have hI : Xd4 s t r.1 { t with stack := r.2 } (Qdw s.descs r.1.descs s.descs.length) := by
      cases hsk : Qgb s t.stack with
      | true =>
        have h1 := Qo0 hsk
        rw [hr] at h1
        subst h1
        have hc1 := Qpl s t h.hi h.ti hsk hln
        rw [Qsg]
        exact .inr (.inr (.inr (.inl ⟨rfl, rfl, Qx3 s t { t with stack := t.stack } t.stack _ rfl [] _ rfl hst hc1⟩)))
      | false =>
        by_cases hn : r.2 = []
        · have hmi : t.mine = -1 := by
            by_cases hm : t.mine = -1
            · exact hm
            · exact absurd ⟨hn, hm⟩ hne
          have hc1 := Qr3 s t h.hi h.ti hsk r hr (.inr ⟨hn, hmi⟩)
          exact .inr (.inr (.inr (.inr (.inr (.inl ⟨rfl, Qo8 s t { t with stack := r.2 } r.1 r.2 _ rfl _ _ rfl hst (by rw [e1, e2]; exact hc1)⟩)))))
        · have hc1 := Qr3 s t h.hi h.ti hsk r hr (.inl hn)
          exact .inr (.inr (.inr (.inr (.inr (.inl ⟨rfl, Qo8 s t { t with stack := r.2 } r.1 r.2 _ rfl _ _ rfl hst (by rw [e1, e2]; exact hc1)⟩)))))
    refine Qc8 r.1 { t with stack := r.2 } _ rfl (by have z1 := h.op.2; have z2 := h.hi.len; have z3 := h.ti; refine ⟨by first | exact z3 | assumption, ?_, ?_, ?_⟩ <;> first | (simp [Qbz, Qdx]; done) | (simp [Qbz, Qdx]; omega) | (simp only []; omega) | omega) hI ?_
    rcases h8 with ⟨junk, hc8⟩ | ⟨hn, hc8⟩
    · by_cases hn : r.2 = []
      · have hmi : t.mine = -1 := by
          by_cases hm : t.mine = -1
          · exact hm
          · exact absurd ⟨hn, hm⟩ hne
        have hc2 := Qlx s t _ r.1 r.2 junk hc8 hsm e1 e2 hk hd2 (.inr ⟨hn, by omega⟩) rfl
        exact .inr (.inr (.inr (.inr (.inl ⟨rfl, e1, e2, junk, Qhx s t _ r.1 r.2 junk _ _ rfl e1 e2 hst hc2⟩))))
      · have hc2 := Qlx s t _ r.1 r.2 junk hc8 hsm e1 e2 hk hd2 (.inl hn) rfl
        exact .inr (.inr (.inr (.inr (.inl ⟨rfl, e1, e2, junk, Qhx s t _ r.1 r.2 junk _ _ rfl e1 e2 hst hc2⟩))))
    · have hc2 := Qme s t _ r.1 r.2 hc8 hsm e1 e2 hk hd2 hn rfl
      exact .inr (.inr (.inr (.inr (.inr (.inl ⟨rfl, e1, e2, Ql5 s t _ r.1 r.2 _ _ rfl e1 e2 hst hc2⟩)))))
theorem Qvd {s : StoreD} {t : ThreadD} (h : RunP s t) (hln : t.stack.length = 0) (hc : ¬ t.check = -1) : Qvv s t := by
  have hst : ¬ (0 : Int) < t.stack.length := by omega
  obtain ⟨j, hj, hj2⟩ : ∃ j : Nat, t.check = j ∧ j + 2 ≤ t.opens.length := by
    rcases h.ck with h1 | h1
    · exact absurd h1 hc
    · exact h1
  have hop6 := h.op.2
  have hckb : (t.check != -1) = true := by simpa using hc
  have hck0 : 0 ≤ t.check := by omega
  obtain ⟨e, he⟩ : ∃ e, t.opens[j]? = some e := ⟨_, List.getElem?_eq_getElem (by omega)⟩
  have hob := h.ob e (List.mem_of_getElem? he)
  obtain ⟨o, ho⟩ : ∃ o : Nat, e.object = o := ⟨e.object.toNat, by omega⟩
  obtain ⟨hd, hh⟩ : ∃ x, s.heads[o]? = some x := ⟨_, List.getElem?_eq_getElem (by omega)⟩
  have hlen1 : t.stack.length + 1 = (Qbz t hd.desc).stack.length := by simp [Qbz]
  by_cases hdd : 0 ≤ hd.desc
  · have c1 := Qne s t j e o hd hj he ho hh (by omega) hdd (by omega)
    have c2 := Qk9 s t _ _ j e o hd hj he ho hh (by omega) hdd (by omega) rfl rfl
    rw [hlen1] at c1
    refine Qc8 s (Qbz t hd.desc) [] rfl (by have z1 := h.op.2; have z2 := h.hi.len; have z3 := h.ti; refine ⟨by first | exact z3 | assumption, ?_, ?_, ?_⟩ <;> first | (simp [Qbz, Qdx]; done) | (simp [Qbz, Qdx]; omega) | (simp only []; omega) | omega) ?_ ?_
    · exact .inr (.inr (.inl ⟨rfl, rfl, Qud s t (Qbz t hd.desc) (Qbz t hd.desc).stack _ rfl [] _ rfl hst hckb c1⟩))
    · exact .inr (.inr (.inl ⟨rfl, rfl, Qla s t _ _ [] _ rfl hst hck0 c2⟩))
  · by_cases hv : hd.version = e.version
    · by_cases hn : (j : Int) + 1 = (t.opens.length : Int) - 1
      · have c1 := Qph s t j e o hd hj he ho hh (by omega) (by omega) hv (by omega) (by omega)
        have c2 := Ql9 s t _ j e o hd hj he ho hh (by omega) (by omega) hv hn (by omega) rfl
        refine Qc8 s { t with check := -1 } [⟨2, t.id, 0, 0⟩] rfl (by have z1 := h.op.2; have z2 := h.hi.len; have z3 := h.ti; refine ⟨by first | exact z3 | assumption, ?_, ?_, ?_⟩ <;> first | (simp [Qbz, Qdx]; done) | (simp [Qbz, Qdx]; omega) | (simp only []; omega) | omega) ?_ ?_
        · exact .inl ⟨rfl, rfl, rfl, Qmg s t { t with check := -1 } [⟨2, t.id, 0, 0⟩] _ rfl hst hckb c1⟩
        · exact .inl ⟨rfl, rfl, rfl, Qg2 s t _ [⟨2, t.id, 0, 0⟩] _ rfl hst hck0 c2⟩
      · have c1 := Qqn s t j e o hd hj he ho hh (by omega) (by omega) hv (by omega) (by omega)
        have c2 := Qln s t _ j e o hd hj he ho hh (by omega) (by omega) hv hn (by omega) rfl
        refine Qc8 s { t with check := (j : Int) + 1 } [] rfl (by have z1 := h.op.2; have z2 := h.hi.len; have z3 := h.ti; refine ⟨by first | exact z3 | assumption, ?_, ?_, ?_⟩ <;> first | (simp [Qbz, Qdx]; done) | (simp [Qbz, Qdx]; omega) | (simp only []; omega) | omega) ?_ ?_
        · exact .inl ⟨rfl, rfl, rfl, Qmg s t { t with check := (j : Int) + 1 } [] _ rfl hst hckb c1⟩
        · exact .inl ⟨rfl, rfl, rfl, Qg2 s t _ [] _ rfl hst hck0 c2⟩
    · have c1 := Qqa s t j e o hd hj he ho hh (by omega) (by omega) hv h.fa.1 h.fa.2
      have c2 := Qmn s t _ j e o hd hj he ho hh (by omega) (by omega) hv h.fa.1 h.fa.2 rfl
      refine Qc8 s (Qdx t) [⟨4, t.id, 0, 0⟩] rfl (by have z1 := h.op.2; have z2 := h.hi.len; have z3 := h.ti; refine ⟨by first | exact z3 | assumption, ?_, ?_, ?_⟩ <;> first | (simp [Qbz, Qdx]; done) | (simp [Qbz, Qdx]; omega) | (simp only []; omega) | omega) ?_ ?_
      · exact .inr (.inl ⟨rfl, rfl, rfl, Qu8 s t (Qdx t) [⟨4, t.id, 0, 0⟩] _ rfl hst hckb c1⟩)
      · exact .inr (.inl ⟨rfl, rfl, rfl, Qk3 s t _ [⟨4, t.id, 0, 0⟩] _ rfl hst hck0 c2⟩)
structure AtI (s : StoreD) (t : ThreadD) (p : Nat) (x : InsS) : Prop where
  st : t.stack = []
  ck : t.check = -1
  pc : t.pc = p
  at_ : t.prog[p]? = some x
theorem AtI.st0 {s : StoreD} {t : ThreadD} {p : Nat} {x : InsS} (a : AtI s t p x) : ¬ (0 : Int) < t.stack.length := by rw [a.st]; simp
theorem AtI.ckb {s : StoreD} {t : ThreadD} {p : Nat} {x : InsS} (a : AtI s t p x) : (t.check != -1) = false := by rw [a.ck]; rfl
theorem AtI.ckn {s : StoreD} {t : ThreadD} {p : Nat} {x : InsS} (a : AtI s t p x) : ¬ 0 ≤ t.check := by rw [a.ck]; omega
theorem AtI.pcb {s : StoreD} {t : ThreadD} {p : Nat} {x : InsS} (a : AtI s t p x) : (t.pc == (t.prog.length : Int)) = false := by
  have := (List.getElem?_eq_some_iff.1 a.at_).1
  rw [a.pc, beq_eq_false_iff_ne]
  omega
theorem sz0 {s s2 : StoreD} {t t2 : ThreadD} {ev : List EventD} (h : RunP s t) (h1 : s2.tiny) (h2 : t2.opens.length ≤ t.opens.length + 1) (h3 : t2.stack.length ≤ t.stack.length + 1) (h4 : ev.length ≤ 2097152) : SzP s2 t2 ev := ⟨h1, by have := h.op.2; omega, by have := h.hi.len; omega, h4⟩
theorem Qn9 {s : StoreD} {t : ThreadD} (h : RunP s t) {p : Nat} {op c d : Int} (o : Nat) (a : AtI s t p ⟨op, c, d⟩) (hw : (op = 1 ∧ d = (o : Int)) ∨ (op = 2 ∧ c = (o : Int))) (ho8 : o ≤ 7) (hpe : Qdl t.opens o < 0) : Qvv s t := by
  have hst := a.st0
  have hckb := a.ckb
  have hckn := a.ckn
  have hpcb := a.pcb
  have hx := a.at_
  have hp := a.pc
  have hop6 := h.op.2
  have hlo : t.opens.length ≤ 1048576 := by omega
  have h12 : op = 1 ∨ op = 2 := hw.imp (fun x => x.1) fun x => x.1
  have hop : Qbp t.opens o = -1 := by
    unfold Qbp
    rw [if_pos (Qcs h.op)]
    rcases Qdp t.opens o with ⟨h1, _⟩ | ⟨k, f, h1, _⟩
    · exact h1
    · omega
  rcases Nat.lt_or_ge o s.heads.length with hol | hol
  · obtain ⟨hd, hh⟩ : ∃ x, s.heads[o]? = some x := ⟨_, List.getElem?_eq_getElem hol⟩
    have hvv := h.hv hd (List.mem_of_getElem? hh)
    have hsl : s.heads.length ≤ 1048576 := by have := h.hl; omega
    have heok : (⟨o, hd.version, hd.value, hd.value, false⟩ : EntS).ok = true := by simp [EntS.ok, inB]; omega
    by_cases hdd : 0 ≤ hd.desc
    · have hlen1 : t.stack.length + 1 = (Qbz t hd.desc).stack.length := by simp [Qbz]
      have hsl2 : t.stack.length ≤ 1048576 := by rw [a.st]; simp
      have c1 := Qqi s t o (by omega) hd hh hsl hdd hsl2
      rw [hlen1] at c1
      refine Qc8 s (Qbz t hd.desc) [] rfl (sz0 h h.ti (by simp [Qbz]) (by simp [Qbz]) (by simp)) ?_ ?_
      · exact .inr (.inr (.inl ⟨rfl, rfl, Qzh s t (Qbz t hd.desc) op c d o (Qbz t hd.desc).stack _ rfl [] _ rfl hw hst hckb hpcb p hp hx hlo hpe c1⟩))
      · exact .inr (.inr (.inl ⟨rfl, rfl, Qk2 s t _ _ [] _ rfl hst hckn hpcb p _ _ _ hp hx (Qut s t _ op c d _ [] _ h12 (Qnu s t _ op c d o _ hw hd hh hlo hop hdd hsl2 rfl rfl) rfl)⟩))
    · by_cases hm : t.opens.length = 6
      · have ha := Qqk (Qcs h.op) heok (by show ¬ 0 ≤ Qbp t.opens o; rw [hop]; omega) hm
        have c1 := Qry s t o (by omega) hd hh hsl (by omega) hm
        refine Qc8 s { t with state := 2 } [] rfl (sz0 h h.ti (by simp [Qbz]) (by simp [Qbz]) (by simp)) ?_ ?_
        · exact .inl ⟨rfl, rfl, rfl, Qo9 s t { t with state := 2 } op c d o [] _ rfl hw hst hckb hpcb p hp hx hlo hpe c1⟩
        · exact .inl ⟨rfl, rfl, rfl, Qb8 s t _ [] _ rfl hst hckn hpcb p _ _ _ hp hx (Qiw s t _ op c d [] _ h12 (Qpv s t _ op c d o hw hd hh hlo hop (by omega) ha rfl) rfl)⟩
      · have ha := Qp3 (Qcs h.op) heok (by show ¬ 0 ≤ Qbp t.opens o; rw [hop]; omega) hm
        have hlen2 : t.opens.length + 1 = (t.opens ++ [(⟨o, hd.version, hd.value, hd.value, false⟩ : EntS)]).length := by simp
        by_cases hg : 1 ≤ t.opens.length
        · have c1 := Qtq s t o (by omega) hd hh hsl (by omega) (by omega) ha hg
          rw [hlen2] at c1
          refine Qc8 s { t with opens := t.opens ++ [(⟨o, hd.version, hd.value, hd.value, false⟩ : EntS)], check := 0 } [⟨1, t.id, o, hd.value⟩] rfl (sz0 h h.ti (by simp [Qbz]) (by simp [Qbz]) (by simp)) ?_ ?_
          · exact .inr (.inr (.inr (.inr (.inl ⟨rfl, rfl, Qo4 s t { t with opens := t.opens ++ [(⟨o, hd.version, hd.value, hd.value, false⟩ : EntS)], check := 0 } op c d o (t.opens ++ [(⟨o, hd.version, hd.value, hd.value, false⟩ : EntS)]) _ rfl [⟨1, t.id, o, hd.value⟩] _ rfl hw hst hckb hpcb p hp hx hlo hpe c1⟩))))
          · exact .inr (.inr (.inr (.inl ⟨rfl, rfl, Qe8 s t _ _ [⟨1, t.id, o, hd.value⟩] _ rfl hst hckn hpcb p _ _ _ hp hx (Qit s t _ op c d _ [⟨1, t.id, o, hd.value⟩] _ h12 (Qqu s t _ op c d o _ hw hd hh hlo hop (by omega) rfl ha hg rfl) rfl)⟩)))
        · have c1 := Qqc s t o (by omega) hd hh hsl (by omega) (by omega) ha (by omega)
          rw [hlen2] at c1
          refine Qc8 s { t with opens := t.opens ++ [(⟨o, hd.version, hd.value, hd.value, false⟩ : EntS)] } [⟨1, t.id, o, hd.value⟩, ⟨2, t.id, 0, 0⟩] rfl (sz0 h h.ti (by simp [Qbz]) (by simp [Qbz]) (by simp)) ?_ ?_
          · exact .inr (.inr (.inr (.inr (.inl ⟨rfl, rfl, Qo4 s t { t with opens := t.opens ++ [(⟨o, hd.version, hd.value, hd.value, false⟩ : EntS)] } op c d o (t.opens ++ [(⟨o, hd.version, hd.value, hd.value, false⟩ : EntS)]) _ rfl [⟨1, t.id, o, hd.value⟩, ⟨2, t.id, 0, 0⟩] _ rfl hw hst hckb hpcb p hp hx hlo hpe c1⟩))))
          · exact .inr (.inr (.inr (.inl ⟨rfl, rfl, Qe8 s t _ _ [⟨1, t.id, o, hd.value⟩, ⟨2, t.id, 0, 0⟩] _ rfl hst hckn hpcb p _ _ _ hp hx (Qit s t _ op c d _ [⟨1, t.id, o, hd.value⟩, ⟨2, t.id, 0, 0⟩] _ h12 (Qnf s t _ op c d o _ hw hd hh hlo hop (by omega) rfl ha (by omega) rfl) rfl)⟩)))
  · have c1 := Qr1 s t o (by omega) hol
    refine Qc8 s { t with state := 3 } [] rfl (sz0 h h.ti (by simp [Qbz]) (by simp [Qbz]) (by simp)) ?_ ?_
    · exact .inl ⟨rfl, rfl, rfl, Qo9 s t { t with state := 3 } op c d o [] _ rfl hw hst hckb hpcb p hp hx hlo hpe c1⟩
    · exact .inl ⟨rfl, rfl, rfl, Qb8 s t _ [] _ rfl hst hckn hpcb p _ _ _ hp hx (Qiw s t _ op c d [] _ h12 (Qpm s t _ op c d o hw hol rfl) rfl)⟩
theorem Xar {s : StoreD} {t t2 : ThreadD} (h : RunP s t) {p o j : Nat} {c : Int} {e : EntS} (a : AtI s t p ⟨1, c, (o : Int)⟩) (hs : Xfv t t2 c e.new) (hpe : Qdl t.opens o = j) (he : t.opens[j]? = some e) (hol : (o : Int) < s.heads.length) : Qvv s t := by
  have hst := a.st0
  have hckb := a.ckb
  have hckn := a.ckn
  have hpcb := a.pcb
  have hx := a.at_
  have hp := a.pc
  have hlo : t.opens.length ≤ 1048576 := by have := h.op.2; omega
  have hpb : t.pc ≤ 1048576 := by have := h.pc1; have := h.pg; omega
  have hop : Qbp t.opens o = j := by unfold Qbp; rw [if_pos (Qcs h.op)]; exact hpe
  have hq : t2.opens = t.opens ∧ t2.stack = t.stack ∧ t2.prog = t.prog := by rcases hs with ⟨_, rfl⟩ | ⟨_, rfl⟩ | ⟨_, rfl⟩ | ⟨_, rfl⟩ <;> exact ⟨rfl, rfl, rfl⟩
  refine Qc8 s t2 [] hq.2.2 (sz0 h h.ti (by rw [hq.1]; omega) (by rw [hq.2.1]; omega) (by simp)) ?_ ?_
  · exact .inl ⟨rfl, hq.1, hq.2.1, Qt9 s t _ c o hst hckb hpcb p hp hx j e hlo hpe he hol hpb hs⟩
  · exact .inl ⟨rfl, hq.1, hq.2.1, Qb8 s t _ [] _ rfl hst hckn hpcb p _ _ _ hp hx (Qiw s t _ 1 c o [] _ (.inl rfl) (Qk5 s t _ o c j e hlo hop he hol h.pc0 hpb hs) rfl)⟩
theorem Qxw {s : StoreD} {t : ThreadD} (h : RunP s t) {p o j : Nat} {c v : Int} {e : EntS} (a : AtI s t p ⟨2, (o : Int), c⟩) (hg : GetC t c v) (hpe : Qdl t.opens o = j) (he : t.opens[j]? = some e) (hol : (o : Int) < s.heads.length) {es : List EntS} (hsn : Qcl t.opens o v = (es, true)) : Qvv s t := by
  have hesl := Qt8 t.opens o v
  rw [hsn] at hesl
  simp only at hesl
  have hst := a.st0
  have hckb := a.ckb
  have hckn := a.ckn
  have hpcb := a.pcb
  have hx := a.at_
  have hp := a.pc
  have hlo : t.opens.length ≤ 1048576 := by have := h.op.2; omega
  have hpb : t.pc ≤ 1048576 := by have := h.pc1; have := h.pg; omega
  have hop : Qbp t.opens o = j := by unfold Qbp; rw [if_pos (Qcs h.op)]; exact hpe
  refine Qc8 s { t with opens := es, pc := t.pc + 1 } [] rfl (sz0 h h.ti (by simp only []; omega) (by simp) (by simp)) ?_ ?_
  · exact .inr (.inr (.inr (.inr (.inl ⟨rfl, rfl, Qq3 s t { t with opens := es, pc := t.pc + 1 } c o es _ rfl hst hckb hpcb p hp hx j e hlo hpe he hol hpb v hg ⟨hsn, rfl⟩⟩))))
  · exact .inr (.inr (.inr (.inl ⟨rfl, rfl, Qe8 s t _ _ [] _ rfl hst hckn hpcb p _ _ _ hp hx (Qit s t _ 2 o c _ [] _ (.inr rfl) (Qj4 s t { t with opens := es, pc := t.pc + 1 } o c es j e hlo hop he hol h.pc0 hpb v hg ⟨hsn, rfl⟩) rfl)⟩)))
theorem Qkd {s : StoreD} {t t2 : ThreadD} (h : RunP s t) {p : Nat} {op x y : Int} (a : AtI s t p ⟨op, x, y⟩) (hq : t2.opens = t.opens ∧ t2.stack = t.stack ∧ t2.prog = t.prog) (h1 : Xd4 s t s t2 []) (h2 : Xe7 s t s t2 []) : Qvv s t :=
  Qc8 s t2 [] hq.2.2 (sz0 h h.ti (by rw [hq.1]; omega) (by rw [hq.2.1]; omega) (by simp)) h1 h2
theorem Xdr {s : StoreD} {t t2 : ThreadD} (h : RunP s t) {p : Nat} {x y : Int} (a : AtI s t p ⟨3, x, y⟩) (hs : Xfv t t2 x y) : Qvv s t := by
  have hst := a.st0
  have hckb := a.ckb
  have hckn := a.ckn
  have hpcb := a.pcb
  have hx := a.at_
  have hp := a.pc
  have hlo : t.opens.length ≤ 1048576 := by have := h.op.2; omega
  have hpb : t.pc ≤ 1048576 := by have := h.pc1; have := h.pg; omega
  have hq : t2.opens = t.opens ∧ t2.stack = t.stack ∧ t2.prog = t.prog := by rcases hs with ⟨_, rfl⟩ | ⟨_, rfl⟩ | ⟨_, rfl⟩ | ⟨_, rfl⟩ <;> exact ⟨rfl, rfl, rfl⟩
  refine Qkd h a hq ?_ ?_
  · exact .inl ⟨rfl, hq.1, hq.2.1, Qye s t t2 x y [] _ rfl hst hckb hpcb p hp hx (Qup t t2 x y h.pc0 hpb hs)⟩
  · exact .inl ⟨rfl, hq.1, hq.2.1, Qb8 s t _ [] _ rfl hst hckn hpcb p _ _ _ hp hx (Qzm s t _ x y h.pc0 hpb hs)⟩
theorem Xeg {s : StoreD} {t t2 : ThreadD} (h : RunP s t) {p : Nat} {x y : Int} (a : AtI s t p ⟨4, x, y⟩) (hs : Xh2 t t2 x y) : Qvv s t := by
  have hst := a.st0
  have hckb := a.ckb
  have hckn := a.ckn
  have hpcb := a.pcb
  have hx := a.at_
  have hp := a.pc
  have hlo : t.opens.length ≤ 1048576 := by have := h.op.2; omega
  have hpb : t.pc ≤ 1048576 := by have := h.pc1; have := h.pg; omega
  have hq : t2.opens = t.opens ∧ t2.stack = t.stack ∧ t2.prog = t.prog := by rcases hs with ⟨_, _, _, _, rfl⟩ | ⟨_, _, _, _, rfl⟩ | ⟨_, _, _, _, rfl⟩ | ⟨_, _, _, _, rfl⟩ | ⟨_, _, _, _, rfl⟩ | ⟨_, _, _, _, rfl⟩ | ⟨_, _, _, _, rfl⟩ | ⟨_, _, _, _, rfl⟩ | ⟨_, _, _, _, rfl⟩ | ⟨_, _, _, _, rfl⟩ | ⟨_, _, _, _, rfl⟩ | ⟨_, _, _, _, rfl⟩ | ⟨_, _, _, _, rfl⟩ | ⟨_, _, _, _, rfl⟩ | ⟨_, _, _, _, rfl⟩ | ⟨_, _, _, _, rfl⟩ <;> exact ⟨rfl, rfl, rfl⟩
  refine Qkd h a hq ?_ ?_
  · exact .inl ⟨rfl, hq.1, hq.2.1, Qw5 s t t2 x y [] _ rfl hst hckb hpcb p hp hx (Qt6 t t2 x y h.pc0 hpb hs)⟩
  · exact .inl ⟨rfl, hq.1, hq.2.1, Qb8 s t _ [] _ rfl hst hckn hpcb p _ _ _ hp hx (Qy1 s t _ x y h.pc0 hpb hs)⟩
theorem Xfj {s : StoreD} {t t2 : ThreadD} (h : RunP s t) {p : Nat} {x y : Int} (a : AtI s t p ⟨5, x, y⟩) (hs : IfC t t2 x y) : Qvv s t := by
  have hst := a.st0
  have hckb := a.ckb
  have hckn := a.ckn
  have hpcb := a.pcb
  have hx := a.at_
  have hp := a.pc
  have hlo : t.opens.length ≤ 1048576 := by have := h.op.2; omega
  have hpb : t.pc ≤ 1048576 := by have := h.pc1; have := h.pg; omega
  have hq : t2.opens = t.opens ∧ t2.stack = t.stack ∧ t2.prog = t.prog := by rcases hs with ⟨_, _, rfl⟩ | ⟨_, _, rfl⟩ | ⟨_, _, rfl⟩ | ⟨_, _, rfl⟩ | ⟨_, _, rfl⟩ | ⟨_, _, rfl⟩ | ⟨_, _, rfl⟩ | ⟨_, _, rfl⟩ <;> exact ⟨rfl, rfl, rfl⟩
  refine Qkd h a hq ?_ ?_
  · exact .inl ⟨rfl, hq.1, hq.2.1, Qzk s t t2 x y [] _ rfl hst hckb hpcb p hp hx (Qx7 t t2 x y h.pc0 hpb hs)⟩
  · exact .inl ⟨rfl, hq.1, hq.2.1, Qb8 s t _ [] _ rfl hst hckn hpcb p _ _ _ hp hx (Xcr s t _ x y h.pc0 hpb hs)⟩
theorem Xf9 {s : StoreD} {t : ThreadD} (h : RunP s t) {p : Nat} {x y : Int} (a : AtI s t p ⟨8, x, y⟩) : Qvv s t := by
  have hst := a.st0
  have hckb := a.ckb
  have hckn := a.ckn
  have hpcb := a.pcb
  have hx := a.at_
  have hp := a.pc
  have hlo : t.opens.length ≤ 1048576 := by have := h.op.2; omega
  have hpb : t.pc ≤ 1048576 := by have := h.pc1; have := h.pg; omega
  have hg := h.rg
  refine Qc8 s { t with pc := x } [] rfl (by have z1 := h.op.2; have z2 := h.hi.len; have z3 := h.ti; refine ⟨by first | exact z3 | assumption, ?_, ?_, ?_⟩ <;> first | (simp [Qbz, Qdx]; done) | (simp [Qbz, Qdx]; omega) | (simp only []; omega) | omega) ?_ ?_
  · exact .inl ⟨rfl, rfl, rfl, Qw0 s t { t with pc := x } x y [] _ rfl hst hckb hpcb p hp hx (Qya t x y h.pc0 hpb)⟩
  · exact .inl ⟨rfl, rfl, rfl, Qb8 s t _ [] _ rfl hst hckn hpcb p _ _ _ hp hx (Xbn s t _ x y rfl)⟩
theorem Qw1 {s : StoreD} {t : ThreadD} (h : RunP s t) {p : Nat} {x y : Int} (a : AtI s t p ⟨7, x, y⟩) : Qvv s t := by
  have hst := a.st0
  have hckb := a.ckb
  have hckn := a.ckn
  have hpcb := a.pcb
  have hx := a.at_
  have hp := a.pc
  have hlo : t.opens.length ≤ 1048576 := by have := h.op.2; omega
  have hpb : t.pc ≤ 1048576 := by have := h.pc1; have := h.pg; omega
  have hg := h.rg
  refine Qc8 s { t with opens := [], pc := t.pc + 1 } [⟨5, t.id, 0, 0⟩] rfl (by have z1 := h.op.2; have z2 := h.hi.len; have z3 := h.ti; refine ⟨by first | exact z3 | assumption, ?_, ?_, ?_⟩ <;> first | (simp [Qbz, Qdx]; done) | (simp [Qbz, Qdx]; omega) | (simp only []; omega) | omega) ?_ ?_
  · exact .inr (.inl ⟨rfl, rfl, rfl, Qyf s t { t with opens := [], pc := t.pc + 1 } x y [⟨5, t.id, 0, 0⟩] _ rfl hst hckb hpcb p hp hx (Qpi t x y h.pc0 hpb)⟩)
  · exact .inr (.inl ⟨rfl, rfl, rfl, Qk4 s t _ [⟨5, t.id, 0, 0⟩] _ rfl hst hckn hpcb p _ _ _ hp hx (Qts s t _ x y h.pc0 hpb rfl)⟩)
theorem Qux {s : StoreD} {t : ThreadD} (h : RunP s t) {p : Nat} {x y : Int} (a : AtI s t p ⟨6, x, y⟩) : Qvv s t := by
  have hst := a.st0
  have hckb := a.ckb
  have hckn := a.ckn
  have hpcb := a.pcb
  have hx := a.at_
  have hp := a.pc
  have hlo : t.opens.length ≤ 1048576 := by have := h.op.2; omega
  have hpb : t.pc ≤ 1048576 := by have := h.pc1; have := h.pg; omega
  by_cases hz : t.opens.length = 0
  · have c1 := Qnv s t hz h.pc0 hpb h.cm.1 h.cm.2
    refine Qc8 s { t with pc := t.pc + 1, commits := Qlr t.commits } [] rfl (by have z1 := h.op.2; have z2 := h.hi.len; have z3 := h.ti; refine ⟨by first | exact z3 | assumption, ?_, ?_, ?_⟩ <;> first | (simp [Qbz, Qdx]; done) | (simp [Qbz, Qdx]; omega) | (simp only []; omega) | omega) ?_ ?_
    · exact .inl ⟨rfl, rfl, rfl, Qkw s t { t with pc := t.pc + 1, commits := Qlr t.commits } x y hst hckb hpcb p hp hx c1⟩
    · exact .inl ⟨rfl, rfl, rfl, Qb8 s t _ [] _ rfl hst hckn hpcb p _ _ _ hp hx (Qkl s t _ x y h.pc0 hpb h.cm.1 h.cm.2 hz rfl)⟩
  · have hmk : Qjp t.id t.opens = true := by simp [Qjp, h.idk, Qcs h.op]; intro hc; exact hz (by rw [hc]; rfl)
    have hm : Qia t.id t.opens = (⟨t.id, 0, Qdg t.opens 8⟩, true) := by simp [Qia, hmk]
    have hd8 : (⟨t.id, 0, Qdg t.opens 8⟩ : DescS).entries.length ≤ 8 := by have := Qtc t.opens 8; show (Qdg t.opens 8).length ≤ _; omega
    generalize (⟨t.id, 0, Qdg t.opens 8⟩ : DescS) = d at hm hd8
    have hdl : d.entries.length ≤ 1048576 := by omega
    by_cases hb : Qv5 s d = true
    · obtain ⟨r, n, ha, hrt⟩ : ∃ r n, Qcb s d = (r, n, true) ∧ r.tiny := ⟨⟨s.heads, s.descs ++ [d]⟩, (s.descs.length : Int), by unfold Qcb; rw [if_pos hb], h.ti.1, by have := h.dl; simp only [List.length_append, List.length_cons, List.length_nil]; omega, by have := h.en; rw [Qja]; simp only [Qdf]; omega⟩
      have hsl2 : t.stack.length ≤ 1048576 := by rw [a.st]; simp
      have c1 := Qnn s t d hz hlo h.ti.small hm hdl r n ha hsl2
      have hs1 : t.stack ++ [(⟨n, 0, 0⟩ : FrameD)] = [⟨n, 0, 0⟩] := by rw [a.st]; rfl
      have hs2 : t.stack.length + 1 = [(⟨n, 0, 0⟩ : FrameD)].length := by rw [a.st]; rfl
      rw [hs1, hs2] at c1
      refine Qc8 r { t with mine := n, stack := [⟨n, 0, 0⟩] } [] rfl (by have z1 := h.op.2; have z2 := h.hi.len; have z3 := h.ti; refine ⟨by first | exact z3 | assumption, ?_, ?_, ?_⟩ <;> first | (simp [Qbz, Qdx]; done) | (simp [Qbz, Qdx]; omega) | (simp only []; omega) | omega) ?_ ?_
      · exact .inr (.inr (.inr (.inr (.inr (.inr (.inl ⟨rfl, Qtb s t { t with mine := n, stack := [⟨n, 0, 0⟩] } x y r [⟨n, 0, 0⟩] _ rfl hst hckb hpcb p hp hx c1⟩))))))
      · exact .inr (.inr (.inr (.inr (.inr (.inr (.inr (⟨rfl, Qk7 s t _ r [⟨n, 0, 0⟩] [] _ rfl hst hckn hpcb p _ _ _ hp hx (Qj9 s t _ x y d r [⟨n, 0, 0⟩] hz hlo h.ti.small hm hdl n ha a.st rfl rfl)⟩)))))))
    · have ha : Qcb s d = (s, -1, false) := by simp [Qcb, hb]
      have c1 := Qnq s t d hz hlo h.ti.small hm hdl ha
      refine Qc8 s { t with state := 3 } [] rfl (by have z1 := h.op.2; have z2 := h.hi.len; have z3 := h.ti; refine ⟨by first | exact z3 | assumption, ?_, ?_, ?_⟩ <;> first | (simp [Qbz, Qdx]; done) | (simp [Qbz, Qdx]; omega) | (simp only []; omega) | omega) ?_ ?_
      · exact .inl ⟨rfl, rfl, rfl, Qkw s t { t with state := 3 } x y hst hckb hpcb p hp hx c1⟩
      · exact .inl ⟨rfl, rfl, rfl, Qb8 s t _ [] _ rfl hst hckn hpcb p _ _ _ hp hx (Qke s t _ x y d hz hlo h.ti.small hm hdl ha rfl)⟩
theorem Xes (t : ThreadD) {c : Int} (h : c = 0 ∨ c = 1 ∨ c = 2 ∨ c = 3) (x : Int) : ∃ t2, Xfv t t2 c x := by
  rcases h with rfl | rfl | rfl | rfl
  · exact ⟨_, .inl ⟨rfl, rfl⟩⟩
  · exact ⟨_, .inr (.inl ⟨rfl, rfl⟩)⟩
  · exact ⟨_, .inr (.inr (.inl ⟨rfl, rfl⟩))⟩
  · exact ⟨_, .inr (.inr (.inr ⟨rfl, rfl⟩))⟩
theorem Xhc {s : StoreD} {t : ThreadD} (h : RunP s t) {c : Int} (hc : c = 0 ∨ c = 1 ∨ c = 2 ∨ c = 3) : ∃ x, GetC t c x ∧ inB x (-1000000000) 1000000000 = true := by
  have hg := h.rg
  rcases hc with rfl | rfl | rfl | rfl
  · exact ⟨t.r0, .inl ⟨rfl, rfl⟩, by simp [inB]; omega⟩
  · exact ⟨t.r1, .inr (.inl ⟨rfl, rfl⟩), by simp [inB]; omega⟩
  · exact ⟨t.r2, .inr (.inr (.inl ⟨rfl, rfl⟩)), by simp [inB]; omega⟩
  · exact ⟨t.r3, .inr (.inr (.inr ⟨rfl, rfl⟩)), by simp [inB]; omega⟩
theorem if_ex (t : ThreadD) {c : Int} (h : c = 0 ∨ c = 1 ∨ c = 2 ∨ c = 3) (d : Int) : ∃ t2, IfC t t2 c d := by
  unfold IfC
  rcases h with rfl | rfl | rfl | rfl
  · by_cases hz : t.r0 = 0 <;> exact ⟨_, by simp [hz]; rfl⟩
  · by_cases hz : t.r1 = 0 <;> exact ⟨_, by simp [hz]; rfl⟩
  · by_cases hz : t.r2 = 0 <;> exact ⟨_, by simp [hz]; rfl⟩
  · by_cases hz : t.r3 = 0 <;> exact ⟨_, by simp [hz]; rfl⟩
theorem Xhl {s : StoreD} {t : ThreadD} (h : RunP s t) {c d : Int} (hc : c = 0 ∨ c = 1 ∨ c = 2 ∨ c = 3) (hd : d = 0 ∨ d = 1 ∨ d = 2 ∨ d = 3) : ∃ t2, Xh2 t t2 c d := by
  obtain ⟨g0, g1, g2, g3⟩ : Qg8 t.r0 ∧ Qg8 t.r1 ∧ Qg8 t.r2 ∧ Qg8 t.r3 := h.rg
  unfold Xh2
  rcases hc with rfl | rfl | rfl | rfl <;> rcases hd with rfl | rfl | rfl | rfl <;> exact ⟨_, by simp [g0, g1, g2, g3]; rfl⟩
theorem Xgt {c : Int} (h : inB c 0 3 = true) : c = 0 ∨ c = 1 ∨ c = 2 ∨ c = 3 := by
  simp [inB] at h
  omega
theorem Xbd {s : StoreD} {t : ThreadD} (h : RunP s t) : Qvv s t := by
  by_cases hs : t.stack.length = 0
  · by_cases hc : t.check = -1
    · obtain ⟨p, hp⟩ : ∃ p : Nat, t.pc = p := ⟨t.pc.toNat, by have := h.pc0; omega⟩
      have hs0 : t.stack = [] := List.eq_nil_of_length_eq_zero hs
      have hst : ¬ (0 : Int) < t.stack.length := by omega
      have hckb : (t.check != -1) = false := by rw [hc]; rfl
      by_cases hl : p < t.prog.length
      · obtain ⟨⟨op, c, d⟩, hx⟩ : ∃ x, t.prog[p]? = some x := ⟨_, List.getElem?_eq_getElem hl⟩
        have hok := h.po _ (List.mem_of_getElem? hx)
        have hat : AtI s t p ⟨op, c, d⟩ := ⟨hs0, hc, hp, hx⟩
        have hg := h.rg
        simp only [InsS.ok] at hok
        by_cases h1 : op = 1
        · subst h1
          simp only [if_true, Bool.and_eq_true] at hok
          have hd8 := hok.2
          simp [inB] at hd8
          obtain ⟨o, rfl⟩ : ∃ o : Nat, d = o := ⟨d.toNat, by omega⟩
          rcases Qdp t.opens o with ⟨hpe, _⟩ | ⟨k, e, hpe, he, heo⟩
          · exact Qn9 h o hat (.inl ⟨rfl, rfl⟩) (by omega) (by omega)
          · have hol := (h.ob e (List.mem_of_getElem? he)).2
            obtain ⟨t2, ht2⟩ := Xes t (Xgt hok.1) e.new
            exact Xar h hat ht2 hpe he (by omega)
        by_cases h2 : op = 2
        · subst h2
          simp only [if_neg h1, if_true, Bool.and_eq_true] at hok
          have hd8 := hok.1
          simp [inB] at hd8
          obtain ⟨o, rfl⟩ : ∃ o : Nat, c = o := ⟨c.toNat, by omega⟩
          rcases Qiy t.opens o with ⟨_, hpe⟩ | ⟨k, e, hf, hpe, he⟩
          · exact Qn9 h o hat (.inr ⟨rfl, rfl⟩) (by omega) (by omega)
          · have hol := (h.ob e (List.mem_of_getElem? he)).2
            have heo : e.object = o := by
              rw [List.findIdx?_eq_some_iff_getElem] at hf
              obtain ⟨hk1, hk2, _⟩ := hf
              rw [List.getElem?_eq_getElem hk1] at he
              cases he
              simpa [Xcu] using hk2
            have hset : ∀ v : Int, inB v (-1000000000) 1000000000 = true → ∃ es, Qcl t.opens o v = (es, true) := fun v hv => ⟨_, by unfold Qcl; rw [hf]; simp only [he]; rw [if_pos ⟨Qcs h.op, hv⟩]⟩
            obtain ⟨v, hv, hvb⟩ := Xhc h (Xgt hok.2)
            obtain ⟨es, hes⟩ := hset v hvb
            exact Qxw h hat hv hpe he (by omega) hes
        by_cases h3 : op = 3
        · subst h3
          simp only [if_neg h1, if_neg h2, if_true, Bool.and_eq_true] at hok
          obtain ⟨t2, ht2⟩ := Xes t (Xgt hok.1) d
          exact Xdr h hat ht2
        by_cases h4 : op = 4
        · subst h4
          simp only [if_neg h1, if_neg h2, if_neg h3, if_true, Bool.and_eq_true] at hok
          obtain ⟨t2, ht2⟩ := Xhl h (Xgt hok.1) (Xgt hok.2)
          exact Xeg h hat ht2
        by_cases h5 : op = 5
        · subst h5
          simp only [if_neg h1, if_neg h2, if_neg h3, if_neg h4, if_true, Bool.and_eq_true] at hok
          obtain ⟨t2, ht2⟩ := if_ex t (Xgt hok.1) d
          exact Xfj h hat ht2
        by_cases h6 : op = 6
        · subst h6
          exact Qux h hat
        by_cases h7 : op = 7
        · subst h7
          exact Qw1 h hat
        by_cases h8 : op = 8
        · subst h8
          exact Xf9 h hat
        · simp only [if_neg h1, if_neg h2, if_neg h3, if_neg h4, if_neg h5, if_neg h6, if_neg h7, if_neg h8] at hok
          cases hok
      · have hpc : t.pc = t.prog.length := by have := h.pc1; omega
        have hpcb : (t.pc == (t.prog.length : Int)) = true := by simpa using hpc
        refine Qc8 s { t with state := 1 } [⟨6, t.id, 0, 0⟩] rfl (by have z1 := h.op.2; have z2 := h.hi.len; have z3 := h.ti; refine ⟨by first | exact z3 | assumption, ?_, ?_, ?_⟩ <;> first | (simp [Qbz, Qdx]; done) | (simp [Qbz, Qdx]; omega) | (simp only []; omega) | omega) ?_ ?_
        · exact .inl ⟨rfl, rfl, rfl, Xds s t _ hst hckb hpcb rfl⟩
        · exact .inl ⟨rfl, rfl, rfl, Qnp s t _ hst (by omega) hpcb rfl⟩
    · exact Qvd h hs hc
  · exact Qxc h (by omega)
end Go.Proofs.YtmiojnibngncaaaGreat
namespace Go.Proofs.YtmiojnibngncaaaGreat
open Go Go.RowKit
set_option linter.unusedVariables false
set_option linter.unusedSimpArgs false
set_option maxRecDepth 100000
set_option maxHeartbeats 8000000
attribute [local irreducible] Qdo VWP Qb5 Qbn Qbs Qbu Qbj Qbt Qa3 Qbq Qcq Qc6 Qbk Qdb Qc4 Qbr Qbm Qa8
theorem Qu7 (s : StoreD) (t t2 : ThreadD) (h2 : t2 = t) (hs : s.tiny) (ht : t.small) (hTB : Qby s t = false ∨ t.state ≠ 0) :
    SatP Tryz.prog 18 [.agg (s.cells 151 89 91), .agg (t.cells 146 91 160)] (.tup [.agg [.rf 0 s.heads.length, .rf 1 s.descs.length], .agg (thB t2 (.rf 2 t.prog.length) (.rf 3 t.opens.length) (.rf 4 t.stack.length)), .rf 5 0]) [(151, Qat s.heads), (89, Qar 91 s.descs), (146, Qaw t.prog), (91, Qav t.opens), (160, Qaq t.stack), (86, [])] := by
  subst h2
  have hown := Qb4 s hs.small
  have hthr := Qcw t2 ht
  have hok := Qch s t2 hs.small ht
  unfold StoreD.cells ThreadD.cells at *
  simp only [thB] at *
  by_cases hB : Qby s t2 = true
  · have hsb : (t2.state != 0) = true := by
      rcases hTB with h | h
      · rw [h] at hB; cases hB
      · simpa using h
    rw [hB] at hok
    refine wEp Tryz.func18 [.cell 4 37, .cell 5 57, .tmp 6] 29 (hp := (by simp [Qam, Qac, Qah, Qaf, Qae, Qan, Qbh])) fun E hE => ?_
    have F := wwA @Qao (wwA @Qaa (wwA @Qag (wwA @Qad (wwA @Qab (wwA @Qas (wwA hsb @Nat.le_refl))))))
    repeat' first | refine wSq fun _ hK => ?_ | refine Qa1 hT hM (id := 1) 8 [[0,1,2,3,4,5,6,7]] (by kernel_rfl) ?_ | refine Qa1 hT hM (id := 3) 5 [[0,1,2,3,4],[0,2,1,3,4]] (by kernel_rfl) ?_ | refine ww1 ?_ | (refine wK ?_; clear hK) | (simp only [wHb, reduceCtorEq] at hb <;> try (exfalso; omega)) | refine wCd (fun hb => ?_) fun hb => ?_ | refine wCa (c := by first | exact hown | exact hthr | exact hok) (k := ?_) | refine ww3 ?_ | ((fail_if_success refine wwN ?_); refine ww4 ?_) | refine wGd (fun hb => ?_) fun hb => ?_ | refine And.intro ?_ ?_ | exact trivial
    all_goals refine Qbw (vs := _) (acc := _) (by simp only [go_sem, Qcd]; rfl) (by simp only [go_sem, wrap, exV, exA, Qf0, Qen, exC, thB, Qao, Qaa, Qag, Qad, Qab, Qas, Nat.le_refl, Nat.zero_add, if_true]; rfl) (by simp) (by simp [Qau, Qai, Qap, Qaj, Qak, Qal]) (by simp [Qam, Qac, Qah, Qaf, Qae, Qan, Qbh])
  · have hB : Qby s t2 = false := by simpa using hB
    rw [hB] at hok
    refine wEp Tryz.func18 [.cell 4 37, .cell 5 57, .tmp 6] 29 (hp := (by simp [Qam, Qac, Qah, Qaf, Qae, Qan, Qbh])) fun E hE => ?_
    have F := wwA @Qao (wwA @Qaa (wwA @Qag (wwA @Qad (wwA @Qab (wwA @Qas @Nat.le_refl)))))
    repeat' first | refine wSq fun _ hK => ?_ | refine Qa1 hT hM (id := 1) 8 [[0,1,2,3,4,5,6,7]] (by kernel_rfl) ?_ | refine Qa1 hT hM (id := 3) 5 [[0,1,2,3,4],[0,2,1,3,4]] (by kernel_rfl) ?_ | refine ww1 ?_ | (refine wK ?_; clear hK) | (simp only [wHb, reduceCtorEq] at hb <;> try (exfalso; omega)) | refine wCd (fun hb => ?_) fun hb => ?_ | refine wCa (c := by first | exact hown | exact hthr | exact hok) (k := ?_) | refine ww3 ?_ | ((fail_if_success refine wwN ?_); refine ww4 ?_) | refine wGd (fun hb => ?_) fun hb => ?_ | refine And.intro ?_ ?_ | exact trivial
    all_goals refine Qbw (vs := _) (acc := _) (by simp only [go_sem, Qcd]; rfl) (by simp only [go_sem, wrap, exV, exA, Qf0, Qen, exC, thB, Qao, Qaa, Qag, Qad, Qab, Qas, Nat.le_refl, Nat.zero_add, if_true]; rfl) (by simp) (by simp [Qau, Qai, Qap, Qaj, Qak, Qal]) (by simp [Qam, Qac, Qah, Qaf, Qae, Qan, Qbh])
theorem Qxe (s : StoreD) (t t2 : ThreadD) (ev : List EventD) (hs : s.tiny) (ht : t.small) (hTB : Qby s t = true) (h0 : t.state = 0) (hc : SatO Tryz.prog 69 [.bp 0 0, .bp 4 0] [.box (thB t (.rf 1 t.prog.length) (.rf 2 t.opens.length) (.rf 3 t.stack.length)), .root 146 (Qaw t.prog), .root 91 (Qav t.opens), .root 160 (Qaq t.stack), .box [.rf 5 s.heads.length, .rf 6 s.descs.length], .root 151 (Qat s.heads), .root 89 (Qar 91 s.descs)] (.rf 7 ev.length) [.box (thB t2 (.rf 1 t.prog.length) (.rf 2 t.opens.length) (.rf 3 t.stack.length)), .root 146 (Qaw t.prog), .root 91 (Qav t.opens), .root 160 (Qaq t.stack), .box [.rf 5 s.heads.length, .rf 6 s.descs.length], .root 151 (Qat s.heads), .root 89 (Qar 91 s.descs), .root 86 (Qa0 ev)]) :
    SatP Tryz.prog 18 [.agg (s.cells 151 89 91), .agg (t.cells 146 91 160)] (.tup [.agg [.rf 0 s.heads.length, .rf 1 s.descs.length], .agg (thB t2 (.rf 2 t.prog.length) (.rf 3 t.opens.length) (.rf 4 t.stack.length)), .rf 5 ev.length]) [(151, Qat s.heads), (89, Qar 91 s.descs), (146, Qaw t.prog), (91, Qav t.opens), (160, Qaq t.stack), (86, Qa0 ev)] := by
  have hown := Qb4 s hs.small
  have hthr := Qcw t ht
  have hok := Qch s t hs.small ht
  have hsb : (t.state != 0) = false := by rw [h0]; rfl
  rw [hTB] at hok
  unfold StoreD.cells ThreadD.cells at *
  simp only [thB] at *
  refine wEp Tryz.func18 [.cell 4 37, .cell 5 57, .tmp 6] 29 (hp := (by simp [Qam, Qac, Qah, Qaf, Qae, Qan, Qbh])) fun E hE => ?_
  have F := wwA @Qao (wwA @Qaa (wwA @Qag (wwA @Qad (wwA @Qab (wwA @Qas (wwA @Qam (wwA @Qac (wwA @Qah (wwA @Qaf (wwA @Qae (wwA @Qan (wwA @Qbh (wwA hsb (wwA @Qau (wwA @Qai (wwA @Qap (wwA @Qaj (wwA @Qak (wwA @Qal @Nat.le_refl)))))))))))))))))))
  repeat' first | refine wSq fun _ hK => ?_ | refine Qa1 hT hM (id := 1) 8 [[0,1,2,3,4,5,6,7]] (by kernel_rfl) ?_ | refine Qa1 hT hM (id := 3) 5 [[0,1,2,3,4],[0,2,1,3,4]] (by kernel_rfl) ?_ | refine Qa1 hT hM (id := 5) 6 [[0,1,2,3,4,5],[0,2,3,1,4,5]] (by kernel_rfl) ?_ | refine ww1 ?_ | (refine wK ?_; clear hK) | (simp only [wHb, reduceCtorEq] at hb <;> try (exfalso; omega)) | refine wCd (fun hb => ?_) fun hb => ?_ | refine wCa (c := by first | exact hown | exact hthr | exact hok) (k := ?_) | refine wOq [324, 196, 197, 198, 260, 68, 69] (hc) ?_ | refine ww3 ?_ | ((fail_if_success refine wwN ?_); refine ww4 ?_) | refine wGd (fun hb => ?_) fun hb => ?_ | refine And.intro ?_ ?_ | exact trivial
  all_goals refine Qbw (vs := _) (acc := _) (by simp only [go_sem, Qcd]; rfl) (by simp only [go_sem, wrap, exV, exA, Qf0, Qen, exC, thB, Qao, Qaa, Qag, Qad, Qab, Qas, Nat.le_refl, Nat.zero_add, if_true]; rfl) (by simp) (by simp [Qau, Qai, Qap, Qaj, Qak, Qal]) (by simp [Qam, Qac, Qah, Qaf, Qae, Qan, Qbh])
theorem Qyu (s : StoreD) (t t2 : ThreadD) (ev : List EventD) (hs : s.tiny) (ht : t.small) (hTB : Qby s t = true) (h0 : t.state = 0) (hc : SatO Tryz.prog 69 [.bp 0 0, .bp 4 0] [.box (thB t (.rf 1 t.prog.length) (.rf 2 t.opens.length) (.rf 3 t.stack.length)), .root 146 (Qaw t.prog), .root 91 (Qav t.opens), .root 160 (Qaq t.stack), .box [.rf 5 s.heads.length, .rf 6 s.descs.length], .root 151 (Qat s.heads), .root 89 (Qar 91 s.descs)] (.rf 7 ev.length) [.box (thB t2 (.rf 1 t.prog.length) (.nl 91) (.rf 3 t.stack.length)), .root 146 (Qaw t.prog), .root 91 (Qav t.opens), .root 160 (Qaq t.stack), .box [.rf 5 s.heads.length, .rf 6 s.descs.length], .root 151 (Qat s.heads), .root 89 (Qar 91 s.descs), .root 86 (Qa0 ev)]) :
    SatP Tryz.prog 18 [.agg (s.cells 151 89 91), .agg (t.cells 146 91 160)] (.tup [.agg [.rf 0 s.heads.length, .rf 1 s.descs.length], .agg (thB t2 (.rf 2 t.prog.length) (.rf 3 0) (.rf 4 t.stack.length)), .rf 5 ev.length]) [(151, Qat s.heads), (89, Qar 91 s.descs), (146, Qaw t.prog), (91, []), (160, Qaq t.stack), (86, Qa0 ev)] := by
  have hown := Qb4 s hs.small
  have hthr := Qcw t ht
  have hok := Qch s t hs.small ht
  have hsb : (t.state != 0) = false := by rw [h0]; rfl
  rw [hTB] at hok
  unfold StoreD.cells ThreadD.cells at *
  simp only [thB] at *
  refine wEp Tryz.func18 [.cell 4 37, .cell 5 57, .tmp 6] 29 (hp := (by simp [Qam, Qac, Qah, Qaf, Qae, Qan, Qbh])) fun E hE => ?_
  have F := wwA @Qao (wwA @Qaa (wwA @Qag (wwA @Qad (wwA @Qab (wwA @Qas (wwA @Qam (wwA @Qac (wwA @Qah (wwA @Qaf (wwA @Qae (wwA @Qan (wwA @Qbh (wwA hsb (wwA @Qau (wwA @Qai (wwA @Qap (wwA @Qaj (wwA @Qak (wwA @Qal @Nat.le_refl)))))))))))))))))))
  repeat' first | refine wSq fun _ hK => ?_ | refine Qa1 hT hM (id := 1) 8 [[0,1,2,3,4,5,6,7]] (by kernel_rfl) ?_ | refine Qa1 hT hM (id := 3) 5 [[0,1,2,3,4],[0,2,1,3,4]] (by kernel_rfl) ?_ | refine Qa1 hT hM (id := 5) 6 [[0,1,2,3,4,5],[0,2,3,1,4,5]] (by kernel_rfl) ?_ | refine ww1 ?_ | (refine wK ?_; clear hK) | (simp only [wHb, reduceCtorEq] at hb <;> try (exfalso; omega)) | refine wCd (fun hb => ?_) fun hb => ?_ | refine wCa (c := by first | exact hown | exact hthr | exact hok) (k := ?_) | refine wOq [324, 196, 197, 198, 260, 68, 69] (hc) ?_ | refine ww3 ?_ | ((fail_if_success refine wwN ?_); refine ww4 ?_) | refine wGd (fun hb => ?_) fun hb => ?_ | refine And.intro ?_ ?_ | exact trivial
  all_goals refine Qbw (vs := _) (acc := _) (by simp only [go_sem, Qcd]; rfl) (by simp only [go_sem, wrap, exV, exA, Qf0, Qen, exC, thB, Qao, Qaa, Qag, Qad, Qab, Qas, Nat.le_refl, Nat.zero_add, if_true]; rfl) (by simp) (by simp [Qau, Qai, Qap, Qaj, Qak, Qal]) (by simp [Qam, Qac, Qah, Qaf, Qae, Qan, Qbh])
theorem Qwx (s : StoreD) (t t2 : ThreadD) (fs : List FrameD) (ev : List EventD) (hs : s.tiny) (ht : t.small) (hTB : Qby s t = true) (h0 : t.state = 0) (hc : SatO Tryz.prog 69 [.bp 0 0, .bp 4 0] [.box (thB t (.rf 1 t.prog.length) (.rf 2 t.opens.length) (.rf 3 t.stack.length)), .root 146 (Qaw t.prog), .root 91 (Qav t.opens), .root 160 (Qaq t.stack), .box [.rf 5 s.heads.length, .rf 6 s.descs.length], .root 151 (Qat s.heads), .root 89 (Qar 91 s.descs)] (.rf 8 ev.length) [.box (thB t2 (.rf 1 t.prog.length) (.rf 2 t.opens.length) (.rf 7 fs.length)), .root 146 (Qaw t.prog), .root 91 (Qav t.opens), .dead, .box [.rf 5 s.heads.length, .rf 6 s.descs.length], .root 151 (Qat s.heads), .root 89 (Qar 91 s.descs), .root 160 (Qaq fs), .root 86 (Qa0 ev)]) :
    SatP Tryz.prog 18 [.agg (s.cells 151 89 91), .agg (t.cells 146 91 160)] (.tup [.agg [.rf 0 s.heads.length, .rf 1 s.descs.length], .agg (thB t2 (.rf 2 t.prog.length) (.rf 3 t.opens.length) (.rf 4 fs.length)), .rf 5 ev.length]) [(151, Qat s.heads), (89, Qar 91 s.descs), (146, Qaw t.prog), (91, Qav t.opens), (160, Qaq fs), (86, Qa0 ev)] := by
  have hown := Qb4 s hs.small
  have hthr := Qcw t ht
  have hok := Qch s t hs.small ht
  have hsb : (t.state != 0) = false := by rw [h0]; rfl
  rw [hTB] at hok
  unfold StoreD.cells ThreadD.cells at *
  simp only [thB] at *
  refine wEp Tryz.func18 [.cell 4 37, .cell 5 57, .tmp 6] 29 (hp := (by simp [Qam, Qac, Qah, Qaf, Qae, Qan, Qbh])) fun E hE => ?_
  have F := wwA @Qao (wwA @Qaa (wwA @Qag (wwA @Qad (wwA @Qab (wwA @Qas (wwA @Qam (wwA @Qac (wwA @Qah (wwA @Qaf (wwA @Qae (wwA @Qan (wwA @Qbh (wwA hsb (wwA @Qau (wwA @Qai (wwA @Qap (wwA @Qaj (wwA @Qak (wwA @Qal @Nat.le_refl)))))))))))))))))))
  repeat' first | refine wSq fun _ hK => ?_ | refine Qa1 hT hM (id := 1) 8 [[0,1,2,3,4,5,6,7]] (by kernel_rfl) ?_ | refine Qa1 hT hM (id := 3) 5 [[0,1,2,3,4],[0,2,1,3,4]] (by kernel_rfl) ?_ | refine Qa1 hT hM (id := 5) 6 [[0,1,2,3,4,5],[0,2,3,1,4,5]] (by kernel_rfl) ?_ | refine ww1 ?_ | (refine wK ?_; clear hK) | (simp only [wHb, reduceCtorEq] at hb <;> try (exfalso; omega)) | refine wCd (fun hb => ?_) fun hb => ?_ | refine wCa (c := by first | exact hown | exact hthr | exact hok) (k := ?_) | refine wOq [324, 196, 197, 198, 260, 68, 69] (hc) ?_ | refine ww3 ?_ | ((fail_if_success refine wwN ?_); refine ww4 ?_) | refine wGd (fun hb => ?_) fun hb => ?_ | refine And.intro ?_ ?_ | exact trivial
  all_goals refine Qbw (vs := _) (acc := _) (by simp only [go_sem, Qcd]; rfl) (by simp only [go_sem, wrap, exV, exA, Qf0, Qen, exC, thB, Qao, Qaa, Qag, Qad, Qab, Qas, Nat.le_refl, Nat.zero_add, if_true]; rfl) (by simp) (by simp [Qau, Qai, Qap, Qaj, Qak, Qal]) (by simp [Qam, Qac, Qah, Qaf, Qae, Qan, Qbh])
theorem Qyr (s : StoreD) (t t2 : ThreadD) (fs : List FrameD) (ev : List EventD) (hs : s.tiny) (ht : t.small) (hTB : Qby s t = true) (h0 : t.state = 0) (hc : SatO Tryz.prog 69 [.bp 0 0, .bp 4 0] [.box (thB t (.rf 1 t.prog.length) (.rf 2 t.opens.length) (.rf 3 t.stack.length)), .root 146 (Qaw t.prog), .root 91 (Qav t.opens), .root 160 (Qaq t.stack), .box [.rf 5 s.heads.length, .rf 6 s.descs.length], .root 151 (Qat s.heads), .root 89 (Qar 91 s.descs)] (.rf 8 ev.length) [.box (thB t2 (.rf 1 t.prog.length) (.rf 2 t.opens.length) (.rf 7 fs.length)), .root 146 (Qaw t.prog), .root 91 (Qav t.opens), .root 160 (Qaq t.stack), .box [.rf 5 s.heads.length, .rf 6 s.descs.length], .root 151 (Qat s.heads), .root 89 (Qar 91 s.descs), .root 160 (Qaq fs), .root 86 (Qa0 ev)]) :
    SatP Tryz.prog 18 [.agg (s.cells 151 89 91), .agg (t.cells 146 91 160)] (.tup [.agg [.rf 0 s.heads.length, .rf 1 s.descs.length], .agg (thB t2 (.rf 2 t.prog.length) (.rf 3 t.opens.length) (.rf 4 fs.length)), .rf 5 ev.length]) [(151, Qat s.heads), (89, Qar 91 s.descs), (146, Qaw t.prog), (91, Qav t.opens), (160, Qaq fs), (86, Qa0 ev)] := by
  have hown := Qb4 s hs.small
  have hthr := Qcw t ht
  have hok := Qch s t hs.small ht
  have hsb : (t.state != 0) = false := by rw [h0]; rfl
  rw [hTB] at hok
  unfold StoreD.cells ThreadD.cells at *
  simp only [thB] at *
  refine wEp Tryz.func18 [.cell 4 37, .cell 5 57, .tmp 6] 29 (hp := (by simp [Qam, Qac, Qah, Qaf, Qae, Qan, Qbh])) fun E hE => ?_
  have F := wwA @Qao (wwA @Qaa (wwA @Qag (wwA @Qad (wwA @Qab (wwA @Qas (wwA @Qam (wwA @Qac (wwA @Qah (wwA @Qaf (wwA @Qae (wwA @Qan (wwA @Qbh (wwA hsb (wwA @Qau (wwA @Qai (wwA @Qap (wwA @Qaj (wwA @Qak (wwA @Qal @Nat.le_refl)))))))))))))))))))
  repeat' first | refine wSq fun _ hK => ?_ | refine Qa1 hT hM (id := 1) 8 [[0,1,2,3,4,5,6,7]] (by kernel_rfl) ?_ | refine Qa1 hT hM (id := 3) 5 [[0,1,2,3,4],[0,2,1,3,4]] (by kernel_rfl) ?_ | refine Qa1 hT hM (id := 5) 6 [[0,1,2,3,4,5],[0,2,3,1,4,5]] (by kernel_rfl) ?_ | refine ww1 ?_ | (refine wK ?_; clear hK) | (simp only [wHb, reduceCtorEq] at hb <;> try (exfalso; omega)) | refine wCd (fun hb => ?_) fun hb => ?_ | refine wCa (c := by first | exact hown | exact hthr | exact hok) (k := ?_) | refine wOq [324, 196, 197, 198, 260, 68, 69] (hc) ?_ | refine ww3 ?_ | ((fail_if_success refine wwN ?_); refine ww4 ?_) | refine wGd (fun hb => ?_) fun hb => ?_ | refine And.intro ?_ ?_ | exact trivial
  all_goals refine Qbw (vs := _) (acc := _) (by simp only [go_sem, Qcd]; rfl) (by simp only [go_sem, wrap, exV, exA, Qf0, Qen, exC, thB, Qao, Qaa, Qag, Qad, Qab, Qas, Nat.le_refl, Nat.zero_add, if_true]; rfl) (by simp) (by simp [Qau, Qai, Qap, Qaj, Qak, Qal]) (by simp [Qam, Qac, Qah, Qaf, Qae, Qan, Qbh])
theorem Qx9 (s : StoreD) (t t2 : ThreadD) (es : List EntS) (ev : List EventD) (hs : s.tiny) (ht : t.small) (hTB : Qby s t = true) (h0 : t.state = 0) (hc : SatO Tryz.prog 69 [.bp 0 0, .bp 4 0] [.box (thB t (.rf 1 t.prog.length) (.rf 2 t.opens.length) (.rf 3 t.stack.length)), .root 146 (Qaw t.prog), .root 91 (Qav t.opens), .root 160 (Qaq t.stack), .box [.rf 5 s.heads.length, .rf 6 s.descs.length], .root 151 (Qat s.heads), .root 89 (Qar 91 s.descs)] (.rf 8 ev.length) [.box (thB t2 (.rf 1 t.prog.length) (.rf 7 es.length) (.rf 3 t.stack.length)), .root 146 (Qaw t.prog), .root 91 (Qav t.opens), .root 160 (Qaq t.stack), .box [.rf 5 s.heads.length, .rf 6 s.descs.length], .root 151 (Qat s.heads), .root 89 (Qar 91 s.descs), .root 91 (Qav es), .root 86 (Qa0 ev)]) :
    SatP Tryz.prog 18 [.agg (s.cells 151 89 91), .agg (t.cells 146 91 160)] (.tup [.agg [.rf 0 s.heads.length, .rf 1 s.descs.length], .agg (thB t2 (.rf 2 t.prog.length) (.rf 3 es.length) (.rf 4 t.stack.length)), .rf 5 ev.length]) [(151, Qat s.heads), (89, Qar 91 s.descs), (146, Qaw t.prog), (91, Qav es), (160, Qaq t.stack), (86, Qa0 ev)] := by
  have hown := Qb4 s hs.small
  have hthr := Qcw t ht
  have hok := Qch s t hs.small ht
  have hsb : (t.state != 0) = false := by rw [h0]; rfl
  rw [hTB] at hok
  unfold StoreD.cells ThreadD.cells at *
  simp only [thB] at *
  refine wEp Tryz.func18 [.cell 4 37, .cell 5 57, .tmp 6] 29 (hp := (by simp [Qam, Qac, Qah, Qaf, Qae, Qan, Qbh])) fun E hE => ?_
  have F := wwA @Qao (wwA @Qaa (wwA @Qag (wwA @Qad (wwA @Qab (wwA @Qas (wwA @Qam (wwA @Qac (wwA @Qah (wwA @Qaf (wwA @Qae (wwA @Qan (wwA @Qbh (wwA hsb (wwA @Qau (wwA @Qai (wwA @Qap (wwA @Qaj (wwA @Qak (wwA @Qal @Nat.le_refl)))))))))))))))))))
  repeat' first | refine wSq fun _ hK => ?_ | refine Qa1 hT hM (id := 1) 8 [[0,1,2,3,4,5,6,7]] (by kernel_rfl) ?_ | refine Qa1 hT hM (id := 3) 5 [[0,1,2,3,4],[0,2,1,3,4]] (by kernel_rfl) ?_ | refine Qa1 hT hM (id := 5) 6 [[0,1,2,3,4,5],[0,2,3,1,4,5]] (by kernel_rfl) ?_ | refine ww1 ?_ | (refine wK ?_; clear hK) | (simp only [wHb, reduceCtorEq] at hb <;> try (exfalso; omega)) | refine wCd (fun hb => ?_) fun hb => ?_ | refine wCa (c := by first | exact hown | exact hthr | exact hok) (k := ?_) | refine wOq [324, 196, 197, 198, 260, 68, 69] (hc) ?_ | refine ww3 ?_ | ((fail_if_success refine wwN ?_); refine ww4 ?_) | refine wGd (fun hb => ?_) fun hb => ?_ | refine And.intro ?_ ?_ | exact trivial
  all_goals refine Qbw (vs := _) (acc := _) (by simp only [go_sem, Qcd]; rfl) (by simp only [go_sem, wrap, exV, exA, Qf0, Qen, exC, thB, Qao, Qaa, Qag, Qad, Qab, Qas, Nat.le_refl, Nat.zero_add, if_true]; rfl) (by simp) (by simp [Qau, Qai, Qap, Qaj, Qak, Qal]) (by simp [Qam, Qac, Qah, Qaf, Qae, Qan, Qbh])
theorem Qyc (s : StoreD) (t t2 : ThreadD) (r : StoreD) (fs : List FrameD) (ev : List EventD) (hs : s.tiny) (ht : t.small) (hTB : Qby s t = true) (h0 : t.state = 0) (hc : SatO Tryz.prog 69 [.bp 0 0, .bp 4 0] [.box (thB t (.rf 1 t.prog.length) (.rf 2 t.opens.length) (.rf 3 t.stack.length)), .root 146 (Qaw t.prog), .root 91 (Qav t.opens), .root 160 (Qaq t.stack), .box [.rf 5 s.heads.length, .rf 6 s.descs.length], .root 151 (Qat s.heads), .root 89 (Qar 91 s.descs)] (.rf 10 ev.length) [.box (thB t2 (.rf 1 t.prog.length) (.rf 2 t.opens.length) (.rf 7 fs.length)), .root 146 (Qaw t.prog), .root 91 (Qav t.opens), .root 160 (Qaq t.stack), .box [.rf 8 r.heads.length, .rf 9 r.descs.length], .root 151 (Qat s.heads), .root 89 (Qar 91 s.descs), .root 160 (Qaq fs), .root 151 (Qat r.heads), .root 89 (Qar 91 r.descs), .root 86 (Qa0 ev)]) :
    SatP Tryz.prog 18 [.agg (s.cells 151 89 91), .agg (t.cells 146 91 160)] (.tup [.agg [.rf 0 r.heads.length, .rf 1 r.descs.length], .agg (thB t2 (.rf 2 t.prog.length) (.rf 3 t.opens.length) (.rf 4 fs.length)), .rf 5 ev.length]) [(151, Qat r.heads), (89, Qar 91 r.descs), (146, Qaw t.prog), (91, Qav t.opens), (160, Qaq fs), (86, Qa0 ev)] := by
  have hown := Qb4 s hs.small
  have hthr := Qcw t ht
  have hok := Qch s t hs.small ht
  have hsb : (t.state != 0) = false := by rw [h0]; rfl
  rw [hTB] at hok
  unfold StoreD.cells ThreadD.cells at *
  simp only [thB] at *
  refine wEp Tryz.func18 [.cell 4 37, .cell 5 57, .tmp 6] 29 (hp := (by simp [Qam, Qac, Qah, Qaf, Qae, Qan, Qbh])) fun E hE => ?_
  have F := wwA @Qao (wwA @Qaa (wwA @Qag (wwA @Qad (wwA @Qab (wwA @Qas (wwA @Qam (wwA @Qac (wwA @Qah (wwA @Qaf (wwA @Qae (wwA @Qan (wwA @Qbh (wwA hsb (wwA @Qau (wwA @Qai (wwA @Qap (wwA @Qaj (wwA @Qak (wwA @Qal @Nat.le_refl)))))))))))))))))))
  repeat' first | refine wSq fun _ hK => ?_ | refine Qa1 hT hM (id := 1) 8 [[0,1,2,3,4,5,6,7]] (by kernel_rfl) ?_ | refine Qa1 hT hM (id := 3) 5 [[0,1,2,3,4],[0,2,1,3,4]] (by kernel_rfl) ?_ | refine Qa1 hT hM (id := 5) 6 [[0,1,2,3,4,5],[0,2,3,1,4,5]] (by kernel_rfl) ?_ | refine ww1 ?_ | (refine wK ?_; clear hK) | (simp only [wHb, reduceCtorEq] at hb <;> try (exfalso; omega)) | refine wCd (fun hb => ?_) fun hb => ?_ | refine wCa (c := by first | exact hown | exact hthr | exact hok) (k := ?_) | refine wOq [324, 196, 197, 198, 260, 68, 69] (hc) ?_ | refine ww3 ?_ | ((fail_if_success refine wwN ?_); refine ww4 ?_) | refine wGd (fun hb => ?_) fun hb => ?_ | refine And.intro ?_ ?_ | exact trivial
  all_goals refine Qbw (vs := _) (acc := _) (by simp only [go_sem, Qcd]; rfl) (by simp only [go_sem, wrap, exV, exA, Qf0, Qen, exC, thB, Qao, Qaa, Qag, Qad, Qab, Qas, Nat.le_refl, Nat.zero_add, if_true]; rfl) (by simp) (by simp [Qau, Qai, Qap, Qaj, Qak, Qal]) (by simp [Qam, Qac, Qah, Qaf, Qae, Qan, Qbh])
theorem Qzg (s : StoreD) (t t2 : ThreadD) (r : StoreD) (fs : List FrameD) (ev : List EventD) (hs : s.tiny) (ht : t.small) (hTB : Qby s t = true) (h0 : t.state = 0) (hc : SatO Tryz.prog 69 [.bp 0 0, .bp 4 0] [.box (thB t (.rf 1 t.prog.length) (.rf 2 t.opens.length) (.rf 3 t.stack.length)), .root 146 (Qaw t.prog), .root 91 (Qav t.opens), .root 160 (Qaq t.stack), .box [.rf 5 s.heads.length, .rf 6 s.descs.length], .root 151 (Qat s.heads), .root 89 (Qar 91 s.descs)] (.rf 10 ev.length) [.box (thB t2 (.rf 1 t.prog.length) (.rf 2 t.opens.length) (.rf 7 fs.length)), .root 146 (Qaw t.prog), .root 91 (Qav t.opens), .dead, .box [.rf 8 r.heads.length, .rf 9 r.descs.length], .root 151 (Qat s.heads), .root 89 (Qar 91 s.descs), .root 160 (Qaq fs), .root 151 (Qat r.heads), .root 89 (Qar 91 r.descs), .root 86 (Qa0 ev)]) :
    SatP Tryz.prog 18 [.agg (s.cells 151 89 91), .agg (t.cells 146 91 160)] (.tup [.agg [.rf 0 r.heads.length, .rf 1 r.descs.length], .agg (thB t2 (.rf 2 t.prog.length) (.rf 3 t.opens.length) (.rf 4 fs.length)), .rf 5 ev.length]) [(151, Qat r.heads), (89, Qar 91 r.descs), (146, Qaw t.prog), (91, Qav t.opens), (160, Qaq fs), (86, Qa0 ev)] := by
  have hown := Qb4 s hs.small
  have hthr := Qcw t ht
  have hok := Qch s t hs.small ht
  have hsb : (t.state != 0) = false := by rw [h0]; rfl
  rw [hTB] at hok
  unfold StoreD.cells ThreadD.cells at *
  simp only [thB] at *
  refine wEp Tryz.func18 [.cell 4 37, .cell 5 57, .tmp 6] 29 (hp := (by simp [Qam, Qac, Qah, Qaf, Qae, Qan, Qbh])) fun E hE => ?_
  have F := wwA @Qao (wwA @Qaa (wwA @Qag (wwA @Qad (wwA @Qab (wwA @Qas (wwA @Qam (wwA @Qac (wwA @Qah (wwA @Qaf (wwA @Qae (wwA @Qan (wwA @Qbh (wwA hsb (wwA @Qau (wwA @Qai (wwA @Qap (wwA @Qaj (wwA @Qak (wwA @Qal @Nat.le_refl)))))))))))))))))))
  repeat' first | refine wSq fun _ hK => ?_ | refine Qa1 hT hM (id := 1) 8 [[0,1,2,3,4,5,6,7]] (by kernel_rfl) ?_ | refine Qa1 hT hM (id := 3) 5 [[0,1,2,3,4],[0,2,1,3,4]] (by kernel_rfl) ?_ | refine Qa1 hT hM (id := 5) 6 [[0,1,2,3,4,5],[0,2,3,1,4,5]] (by kernel_rfl) ?_ | refine ww1 ?_ | (refine wK ?_; clear hK) | (simp only [wHb, reduceCtorEq] at hb <;> try (exfalso; omega)) | refine wCd (fun hb => ?_) fun hb => ?_ | refine wCa (c := by first | exact hown | exact hthr | exact hok) (k := ?_) | refine wOq [324, 196, 197, 198, 260, 68, 69] (hc) ?_ | refine ww3 ?_ | ((fail_if_success refine wwN ?_); refine ww4 ?_) | refine wGd (fun hb => ?_) fun hb => ?_ | refine And.intro ?_ ?_ | exact trivial
  all_goals refine Qbw (vs := _) (acc := _) (by simp only [go_sem, Qcd]; rfl) (by simp only [go_sem, wrap, exV, exA, Qf0, Qen, exC, thB, Qao, Qaa, Qag, Qad, Qab, Qas, Nat.le_refl, Nat.zero_add, if_true]; rfl) (by simp) (by simp [Qau, Qai, Qap, Qaj, Qak, Qal]) (by simp [Qam, Qac, Qah, Qaf, Qae, Qan, Qbh])
theorem Qyy (s : StoreD) (t t2 : ThreadD) (r : StoreD) (fs : List FrameD) (ev : List EventD) (hs : s.tiny) (ht : t.small) (hTB : Qby s t = true) (h0 : t.state = 0) (hc : SatO Tryz.prog 69 [.bp 0 0, .bp 4 0] [.box (thB t (.rf 1 t.prog.length) (.rf 2 t.opens.length) (.rf 3 t.stack.length)), .root 146 (Qaw t.prog), .root 91 (Qav t.opens), .root 160 (Qaq t.stack), .box [.rf 5 s.heads.length, .rf 6 s.descs.length], .root 151 (Qat s.heads), .root 89 (Qar 91 s.descs)] (.rf 10 ev.length) [.box (thB t2 (.rf 1 t.prog.length) (.nl 91) (.rf 7 fs.length)), .root 146 (Qaw t.prog), .root 91 (Qav t.opens), .root 160 (Qaq t.stack), .box [.rf 8 r.heads.length, .rf 9 r.descs.length], .root 151 (Qat s.heads), .root 89 (Qar 91 s.descs), .root 160 (Qaq fs), .root 151 (Qat r.heads), .root 89 (Qar 91 r.descs), .root 86 (Qa0 ev)]) :
    SatP Tryz.prog 18 [.agg (s.cells 151 89 91), .agg (t.cells 146 91 160)] (.tup [.agg [.rf 0 r.heads.length, .rf 1 r.descs.length], .agg (thB t2 (.rf 2 t.prog.length) (.rf 3 0) (.rf 4 fs.length)), .rf 5 ev.length]) [(151, Qat r.heads), (89, Qar 91 r.descs), (146, Qaw t.prog), (91, []), (160, Qaq fs), (86, Qa0 ev)] := by
  have hown := Qb4 s hs.small
  have hthr := Qcw t ht
  have hok := Qch s t hs.small ht
  have hsb : (t.state != 0) = false := by rw [h0]; rfl
  rw [hTB] at hok
  unfold StoreD.cells ThreadD.cells at *
  simp only [thB] at *
  refine wEp Tryz.func18 [.cell 4 37, .cell 5 57, .tmp 6] 29 (hp := (by simp [Qam, Qac, Qah, Qaf, Qae, Qan, Qbh])) fun E hE => ?_
  have F := wwA @Qao (wwA @Qaa (wwA @Qag (wwA @Qad (wwA @Qab (wwA @Qas (wwA @Qam (wwA @Qac (wwA @Qah (wwA @Qaf (wwA @Qae (wwA @Qan (wwA @Qbh (wwA hsb (wwA @Qau (wwA @Qai (wwA @Qap (wwA @Qaj (wwA @Qak (wwA @Qal @Nat.le_refl)))))))))))))))))))
  repeat' first | refine wSq fun _ hK => ?_ | refine Qa1 hT hM (id := 1) 8 [[0,1,2,3,4,5,6,7]] (by kernel_rfl) ?_ | refine Qa1 hT hM (id := 3) 5 [[0,1,2,3,4],[0,2,1,3,4]] (by kernel_rfl) ?_ | refine Qa1 hT hM (id := 5) 6 [[0,1,2,3,4,5],[0,2,3,1,4,5]] (by kernel_rfl) ?_ | refine ww1 ?_ | (refine wK ?_; clear hK) | (simp only [wHb, reduceCtorEq] at hb <;> try (exfalso; omega)) | refine wCd (fun hb => ?_) fun hb => ?_ | refine wCa (c := by first | exact hown | exact hthr | exact hok) (k := ?_) | refine wOq [324, 196, 197, 198, 260, 68, 69] (hc) ?_ | refine ww3 ?_ | ((fail_if_success refine wwN ?_); refine ww4 ?_) | refine wGd (fun hb => ?_) fun hb => ?_ | refine And.intro ?_ ?_ | exact trivial
  all_goals refine Qbw (vs := _) (acc := _) (by simp only [go_sem, Qcd]; rfl) (by simp only [go_sem, wrap, exV, exA, Qf0, Qen, exC, thB, Qao, Qaa, Qag, Qad, Qab, Qas, Nat.le_refl, Nat.zero_add, if_true]; rfl) (by simp) (by simp [Qau, Qai, Qap, Qaj, Qak, Qal]) (by simp [Qam, Qac, Qah, Qaf, Qae, Qan, Qbh])
end Go.Proofs.YtmiojnibngncaaaGreat
