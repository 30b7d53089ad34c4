/- What the claim rests on, part 19: the value-level engine and contracts of functions; no condition. -/
import Derived.Test.YtmiojnibngncaaaGreatZQr
import Derived.Test.YtmiojnibngncaaaGreatZQp
import Derived.Test.YtmiojnibngncaaaGreatZQh
import Derived.Test.YtmiojnibngncaaaGreatZQj
namespace Go.Proofs.YtmiojnibngncaaaGreat
open Go Go.RowKit
set_option linter.unusedVariables false
set_option linter.unusedSimpArgs false
set_option maxRecDepth 100000
set_option maxHeartbeats 4000000
attribute [local irreducible] Qdo VWP Qb5 Qbn Qbs Qbu Qbj Qbt Qa3 Qbq Qcq Qc6 Qbk Qdb Qc4 Qbr Qbm Qa8
def Qdw (ds ds' : List DescS) : Nat → List EventD
  | 0 => []
  | i + 1 => Qdw ds ds' i ++ (match ds'[i]?, ds[i]? with
    | some d', some d => if d'.status = 1 ∧ ¬ d.status = 1 then [⟨3, d'.owner, i, 0⟩] else []
    | _, _ => [])
theorem Qjj {ds ds' : List DescS} {i : Nat} {d d' : DescS} (h' : ds'[i]? = some d') (h : ds[i]? = some d) (a : d'.status = 1) (b : ¬ d.status = 1) : Qdw ds ds' (i + 1) = Qdw ds ds' i ++ [⟨3, d'.owner, i, 0⟩] := by simp [Qdw, h', h, a, b]
theorem Qf7 {ds ds' : List DescS} {i : Nat} {d d' : DescS} (h' : ds'[i]? = some d') (h : ds[i]? = some d) (a : ¬ (d'.status = 1 ∧ ¬ d.status = 1)) : Qdw ds ds' (i + 1) = Qdw ds ds' i := by simp [Qdw, h', h, a]
theorem Qfc (ds ds' : List DescS) : ∀ i : Nat, (Qdw ds ds' i).length ≤ i
  | 0 => Nat.le_refl 0
  | i + 1 => by
    have := Qfc ds ds' i
    unfold Qdw
    simp only [List.length_append]
    split
    · split
      · simp; omega
      · simp; omega
    · simp; omega
def Qdx (t : ThreadD) : ThreadD := { t with opens := [], check := -1, pc := 0, r0 := 0, r1 := 0, r2 := 0, r3 := 0, fails := Qlr t.fails }
def Qg1 (s : StoreD) (r : StoreD × List FrameD) (x : Nat) : List (Nat × VV) := [(0, .bp 0 0), (1, .bp 4 0), (5, .bp 7 0), (6, .rf 13 (Qdw s.descs r.1.descs x).length), (27, .rf 11 s.descs.length), (28, .int .i64 s.descs.length), (29, .int .i64 x)]
def Qgz (s : StoreD) (t : ThreadD) (r : StoreD × List FrameD) (x : Nat) : List (Nat × Ent) := [(0, .box (thB t (.rf 1 t.prog.length) (.rf 2 t.opens.length) (.rf 12 r.2.length))), (1, .root 146 (Qaw t.prog)), (2, .root 91 (Qav t.opens)), (3, .root 160 (Qaq t.stack)), (4, .box [.rf 10 s.heads.length, .rf 11 s.descs.length]), (5, .root 151 (Qat s.heads)), (6, .root 89 (Qar 91 s.descs)), (7, .box [.rf 8 s.heads.length, .rf 9 s.descs.length]), (8, .root 151 (Qat s.heads)), (9, .root 89 (Qar 91 s.descs)), (10, .root 151 (Qat r.1.heads)), (11, .root 89 (Qar 91 r.1.descs)), (12, .root 160 (Qaq r.2)), (13, .root 86 (Qa0 (Qdw s.descs r.1.descs x)))]
theorem Qr3 (s : StoreD) (t : ThreadD) (hi : HelpI s t.stack) (hs : s.tiny) (hst : Qgb s t.stack = false) (r : StoreD × List FrameD) (hr : Qes s t.stack = r) (hcs : ¬ r.2 = [] ∨ (r.2 = [] ∧ t.mine = -1)) : SatO Tryz.prog 132 [.bp 0 0, .bp 4 0] [.box (thB t (.rf 1 t.prog.length) (.rf 2 t.opens.length) (.rf 3 t.stack.length)), .root 146 (Qaw t.prog), .root 91 (Qav t.opens), .root 160 (Qaq t.stack), .box [.rf 5 s.heads.length, .rf 6 s.descs.length], .root 151 (Qat s.heads), .root 89 (Qar 91 s.descs)] (.rf 10 (Qdw s.descs r.1.descs s.descs.length).length) [.box (thB t (.rf 1 t.prog.length) (.rf 2 t.opens.length) (.rf 7 r.2.length)), .root 146 (Qaw t.prog), .root 91 (Qav t.opens), .root 160 (Qaq t.stack), .box [.rf 8 s.heads.length, .rf 9 s.descs.length], .root 151 (Qat s.heads), .root 89 (Qar 91 s.descs), .root 160 (Qaq r.2), .root 151 (Qat r.1.heads), .root 89 (Qar 91 r.1.descs), .root 86 (Qa0 (Qdw s.descs r.1.descs s.descs.length))] := by
  have hc := Qks s t.stack hi hs.small hst r hr
  have hown := Qb4 s hs.small
  have hkk := Qi3 hi
  rw [hr] at hkk
  have e1 : r.1.heads.length = s.heads.length := hkk.hl
  have e2 : r.1.descs.length = s.descs.length := hkk.dl
  have t1 := Qaj r.1.heads
  have t2 := Qak 91 r.1.descs
  rw [e1] at t1
  rw [e2] at t2
  obtain ⟨f1, f2, f3⟩ := hs
  unfold StoreD.cells at hown
  simp only [thB] at *
  refine wEo Tryz.func132 [.tmp 4] 108 7 (by simp [Qbc, Qa6, Qbg, Qcr, Qda]) fun E hE => ?_
  have F := wwA @Qag (wwA @Qap (wwA @Qah (wwA @Qad (wwA @Qab (wwA @Qaf (wwA @Qae (wwA @Qaj (wwA @Qak (wwA @Qas (wwA @Qal (wwA @Qan (wwA @Qao (wwA @Qam (wwA @Qaa (wwA @Qac (wwA e1 (wwA e2 @Nat.le_refl)))))))))))))))))
  repeat' first | refine wSq fun _ hK => ?_ | refine ww1 ?_ | (refine wK ?_; clear hK) | (simp only [wHb, reduceCtorEq] at hb <;> try (exfalso; omega)) | refine wCd (fun hb => ?_) fun hb => ?_ | refine wCa (c := by first | exact hown) (k := ?_) | refine wOq [4, 5, 6] (hc) ?_ | refine ww3 ?_ | ((fail_if_success refine wwN ?_); refine ww4 ?_) | refine wGd (fun hb => ?_) fun hb => ?_ | exact trivial
  clear F
  refine Qd5 hE (X := Nat) (Qg1 s r) (Qgz s t r) (fun x => s.descs.length - x) (fun x => x ≤ s.descs.length) [0, 1, 2, 3, 4, 5, 6, 10, 7, 8, 11, 12, 13, 9] 0 (Nat.zero_le _) (by decide) (by decide) (by simp [Qbo, Qg1, Qfa, Qe2, Qc3, Qdw]) (by simp [Qbd, HpE, Qgz, thB, Qb6, Qg4, Qc3, Qaf, Qae, Qah, Qam, Qac, Qan, Qdw, Qa0]; try (intro q hq; cases hq)) ?_
  intro x hx
  simp only [Qg1, Qgz, thB]
  rcases Nat.lt_or_ge x s.descs.length with hlt | hge
  · obtain ⟨d, hd⟩ : ∃ d, s.descs[x]? = some d := ⟨_, List.getElem?_eq_getElem hlt⟩
    obtain ⟨d', hd'⟩ : ∃ d', r.1.descs[x]? = some d' := ⟨_, List.getElem?_eq_getElem (by rw [e2]; exact hlt)⟩
    have hra := Qbl (te := 91) hd
    have hrb := Qbl (te := 91) hd'
    have hli : (x : Int) < (s.descs.length : Int) := by omega
    have hx0 : (0 : Int) ≤ (x : Int) := by omega
    have hw : IntKind.i64.wrap ((x : Int) + 1) = x + 1 := Qax (by omega)
    have hkr : x < (Qar 91 r.1.descs).length := by rw [Qab, e2]; exact hlt
    have hself : (Qar 91 r.1.descs).set x [.int .i64 d'.owner, .int .i64 d'.status, .list 91 (Qav d'.entries)] = Qar 91 r.1.descs := by
      apply List.ext_getElem?
      intro q
      rw [List.getElem?_set]
      split
      · rename_i hq
        subst hq
        first | exact hrb.symm | simp [hkr, hrb]
      · rfl
    have hcl := Qfc s.descs r.1.descs x
    have hap := Qfk (Qdw s.descs r.1.descs x) ⟨3, d'.owner, x, 0⟩
    have hxx : ((x + 1 : Nat) : Int) = (x : Int) + 1 := by omega
    by_cases ha : d'.status = 1
    · have hab : (d'.status == 1) = true := by simpa using ha
      by_cases hb' : d.status = 1
      · have hbb : (d.status != 1) = false := by simpa using hb'
        have hno := Qf7 hd' hd (fun h => h.2 hb')
        have F := wwA @Qag (wwA @Qap (wwA @Qah (wwA @Qad (wwA @Qab (wwA @Qaf (wwA @Qae (wwA @Qaj (wwA @Qak (wwA @Qas (wwA @Qal (wwA @Qan (wwA @Qao (wwA @Qam (wwA @Qaa (wwA @Qac (wwA e1 (wwA e2 (wwA @Nat.le_refl (wwA (fun a => List.getElem?_set_self (a := a) hkr) (wwA @List.length_set.{0} (wwA hra (wwA hrb (wwA hli (wwA hlt (wwA hx0 (wwA hw (wwA hab hbb)))))))))))))))))))))))))))
        repeat' first | refine wSq fun _ hK => ?_ | refine wSp (id := 5) [(11, x, 2)] ?_ | refine ww1 ?_ | (refine wK ?_; clear hK) | (simp only [wHb, reduceCtorEq] at hb <;> try (exfalso; omega)) | refine wCd (fun hb => ?_) fun hb => ?_ | refine ww3 ?_ | ((fail_if_success refine wwN ?_); refine ww4 ?_) | refine wGd (fun hb => ?_) fun hb => ?_ | exact trivial
        all_goals clear F
        all_goals refine Qfb [(11, x, 2)] (by simp only [Qb1, Qco, go_sem, List.getElem?_set_self hkr, List.set_set, List.length_set, List.set_cons_succ, List.set_cons_zero, Qaa, Qai, Nat.le_refl, hself]; rfl) [0, 1, 2, 3, 4, 5, 6, 7, 8, 9, 10, 11, 12, 13] (x + 1) rfl (by decide) (by decide) hlt (by first | omega | (simp only; omega)) (by simp [Qbo, tmL, Qg1, Qfa, Qe2, Qc3, hno]) (by simp [Qbd, hpL, Qgz, thB, Qb6, Qg4, Qc3, Qaf, Qae, Qah, Qam, Qac, Qan, hno])
      · have hbb : (d.status != 1) = true := by simpa using hb'
        have hyes := Qjj hd' hd ha hb'
        have hm1 : ((Qdw s.descs r.1.descs x).length + 1) * 32 ≤ 140737488355328 := by omega
        have hm2 : (Qdw s.descs r.1.descs x).length + 1 ≤ maxLen := of_eq_true (Qdn (by omega))
        have F := wwA @Qag (wwA @Qap (wwA @Qah (wwA @Qad (wwA @Qab (wwA @Qaf (wwA @Qae (wwA @Qaj (wwA @Qak (wwA @Qas (wwA @Qal (wwA @Qan (wwA @Qao (wwA @Qam (wwA @Qaa (wwA @Qac (wwA e1 (wwA e2 (wwA @Nat.le_refl (wwA (fun a => List.getElem?_set_self (a := a) hkr) (wwA @List.length_set.{0} (wwA hra (wwA hrb (wwA hli (wwA hlt (wwA hx0 (wwA hw (wwA hab (wwA hbb (wwA hap (wwA hm1 hm2))))))))))))))))))))))))))))))
        repeat' first | refine wSq fun _ hK => ?_ | refine wSp (id := 5) [(11, x, 2)] ?_ | refine ww1 ?_ | (refine wK ?_; clear hK) | (simp only [wHb, reduceCtorEq] at hb <;> try (exfalso; omega)) | refine wCd (fun hb => ?_) fun hb => ?_ | refine ww3 ?_ | ((fail_if_success refine wwN ?_); refine ww4 ?_) | refine wGd (fun hb => ?_) fun hb => ?_ | exact trivial
        all_goals clear F
        all_goals refine Qfb [(11, x, 2)] (by simp only [Qb1, Qco, go_sem, List.getElem?_set_self hkr, List.set_set, List.length_set, List.set_cons_succ, List.set_cons_zero, Qaa, Qai, Nat.le_refl, hself]; rfl) [0, 1, 2, 3, 4, 5, 6, 7, 8, 9, 10, 11, 12, 17] (x + 1) rfl (by decide) (by decide) hlt (by first | omega | (simp only; omega)) (by simp [Qbo, tmL, Qg1, Qfa, Qe2, Qc3, hyes]) (by simp [Qbd, hpL, Qgz, thB, Qb6, Qg4, Qc3, Qaf, Qae, Qah, Qam, Qac, Qan, hyes])
    · have hab : (d'.status == 1) = false := by simpa using ha
      have hno := Qf7 hd' hd (fun h => ha h.1)
      have F := wwA @Qag (wwA @Qap (wwA @Qah (wwA @Qad (wwA @Qab (wwA @Qaf (wwA @Qae (wwA @Qaj (wwA @Qak (wwA @Qas (wwA @Qal (wwA @Qan (wwA @Qao (wwA @Qam (wwA @Qaa (wwA @Qac (wwA e1 (wwA e2 (wwA @Nat.le_refl (wwA (fun a => List.getElem?_set_self (a := a) hkr) (wwA @List.length_set.{0} (wwA hra (wwA hrb (wwA hli (wwA hlt (wwA hx0 (wwA hw hab))))))))))))))))))))))))))
      repeat' first | refine wSq fun _ hK => ?_ | refine wSp (id := 5) [(11, x, 2)] ?_ | refine ww1 ?_ | (refine wK ?_; clear hK) | (simp only [wHb, reduceCtorEq] at hb <;> try (exfalso; omega)) | refine wCd (fun hb => ?_) fun hb => ?_ | refine ww3 ?_ | ((fail_if_success refine wwN ?_); refine ww4 ?_) | refine wGd (fun hb => ?_) fun hb => ?_ | exact trivial
      all_goals clear F
      all_goals refine Qfb [(11, x, 2)] (by simp only [Qb1, Qco, go_sem, List.getElem?_set_self hkr, List.set_set, List.length_set, List.set_cons_succ, List.set_cons_zero, Qaa, Qai, Nat.le_refl, hself]; rfl) [0, 1, 2, 3, 4, 5, 6, 7, 8, 9, 10, 11, 12, 13] (x + 1) rfl (by decide) (by decide) hlt (by first | omega | (simp only; omega)) (by simp [Qbo, tmL, Qg1, Qfa, Qe2, Qc3, hno]) (by simp [Qbd, hpL, Qgz, thB, Qb6, Qg4, Qc3, Qaf, Qae, Qah, Qam, Qac, Qan, hno])
  · obtain rfl : x = s.descs.length := by omega
    have hnl : ¬ ((s.descs.length : Int) < (s.descs.length : Int)) := by omega
    rcases hcs with hne | ⟨hne, hmi⟩
    · have hp0 : (0 : Int) < (r.2.length : Int) := by have := List.length_pos_iff.2 hne; omega
      have F := wwA @Qag (wwA @Qap (wwA @Qah (wwA @Qad (wwA @Qab (wwA @Qaf (wwA @Qae (wwA @Qaj (wwA @Qak (wwA @Qas (wwA @Qal (wwA @Qan (wwA @Qao (wwA @Qam (wwA @Qaa (wwA @Qac (wwA e1 (wwA e2 (wwA @Nat.le_refl (wwA hnl (wwA hp0 (wwA t1 t2)))))))))))))))))))))
      repeat' first | refine wSq fun _ hK => ?_ | refine ww1 ?_ | (refine wK ?_; clear hK) | (simp only [wHb, reduceCtorEq] at hb <;> try (exfalso; omega)) | refine wCd (fun hb => ?_) fun hb => ?_ | refine ww3 ?_ | ((fail_if_success refine wwN ?_); refine ww4 ?_) | refine wGd (fun hb => ?_) fun hb => ?_ | exact trivial
      all_goals refine wRo [] [_, _, _, _, _, _, _]
    · have hp0 : ¬ (0 : Int) < (r.2.length : Int) := by rw [hne]; simp
      have hmb : (t.mine == -1) = true := by rw [hmi]; rfl
      have F := wwA @Qag (wwA @Qap (wwA @Qah (wwA @Qad (wwA @Qab (wwA @Qaf (wwA @Qae (wwA @Qaj (wwA @Qak (wwA @Qas (wwA @Qal (wwA @Qan (wwA @Qao (wwA @Qam (wwA @Qaa (wwA @Qac (wwA e1 (wwA e2 (wwA @Nat.le_refl (wwA hnl (wwA hp0 (wwA hmb (wwA t1 t2))))))))))))))))))))))
      repeat' first | refine wSq fun _ hK => ?_ | refine ww1 ?_ | (refine wK ?_; clear hK) | (simp only [wHb, reduceCtorEq] at hb <;> try (exfalso; omega)) | refine wCd (fun hb => ?_) fun hb => ?_ | refine ww3 ?_ | ((fail_if_success refine wwN ?_); refine ww4 ?_) | refine wGd (fun hb => ?_) fun hb => ?_ | exact trivial
      all_goals refine wRo [] [_, _, _, _, _, _, _]
theorem Qu5 (s : StoreD) (t : ThreadD) (hi : HelpI s t.stack) (hs : s.tiny) (hst : Qgb s t.stack = false) (r : StoreD × List FrameD) (hr : Qes s t.stack = r) (t2 : ThreadD) (ev : List EventD) (k : Nat) (dk : DescS) (hne : r.2 = []) (hmi : t.mine = k) (hdk : r.1.descs[k]? = some dk) (hcs : (dk.status = 1 ∧ ev = (Qdw s.descs r.1.descs s.descs.length) ∧ t2 = {t with stack := r.2, opens := [], mine := -1, commits := Qlr t.commits, pc := t.pc + 1}) ∨ (¬ dk.status = 1 ∧ ev = (Qdw s.descs r.1.descs s.descs.length) ++ [⟨4, t.id, 0, 0⟩] ∧ t2 = {Qdx t with stack := r.2, mine := -1})) (h0 : 0 ≤ t.pc) (h1 : t.pc ≤ 1048576) (g0 : 0 ≤ t.commits) (g1 : t.commits ≤ 1000000) (u0 : 0 ≤ t.fails) (u1 : t.fails ≤ 1000000) : SatO Tryz.prog 132 [.bp 0 0, .bp 4 0] [.box (thB t (.rf 1 t.prog.length) (.rf 2 t.opens.length) (.rf 3 t.stack.length)), .root 146 (Qaw t.prog), .root 91 (Qav t.opens), .root 160 (Qaq t.stack), .box [.rf 5 s.heads.length, .rf 6 s.descs.length], .root 151 (Qat s.heads), .root 89 (Qar 91 s.descs)] (.rf 10 ev.length) [.box (thB t2 (.rf 1 t.prog.length) (.nl 91) (.rf 7 r.2.length)), .root 146 (Qaw t.prog), .root 91 (Qav t.opens), .root 160 (Qaq t.stack), .box [.rf 8 s.heads.length, .rf 9 s.descs.length], .root 151 (Qat s.heads), .root 89 (Qar 91 s.descs), .root 160 (Qaq r.2), .root 151 (Qat r.1.heads), .root 89 (Qar 91 r.1.descs), .root 86 (Qa0 ev)] := by
  have hc := Qks s t.stack hi hs.small hst r hr
  have hown := Qb4 s hs.small
  have hkk := Qi3 hi
  rw [hr] at hkk
  have e1 : r.1.heads.length = s.heads.length := hkk.hl
  have e2 : r.1.descs.length = s.descs.length := hkk.dl
  have t1 := Qaj r.1.heads
  have t2 := Qak 91 r.1.descs
  rw [e1] at t1
  rw [e2] at t2
  obtain ⟨f1, f2, f3⟩ := hs
  unfold StoreD.cells at hown
  simp only [thB] at *
  refine wEo Tryz.func132 [.tmp 4] 108 7 (by simp [Qbc, Qa6, Qbg, Qcr, Qda]) fun E hE => ?_
  have F := wwA @Qag (wwA @Qap (wwA @Qah (wwA @Qad (wwA @Qab (wwA @Qaf (wwA @Qae (wwA @Qaj (wwA @Qak (wwA @Qas (wwA @Qal (wwA @Qan (wwA @Qao (wwA @Qam (wwA @Qaa (wwA @Qac (wwA e1 (wwA e2 @Nat.le_refl)))))))))))))))))
  repeat' first | refine wSq fun _ hK => ?_ | refine ww1 ?_ | (refine wK ?_; clear hK) | (simp only [wHb, reduceCtorEq] at hb <;> try (exfalso; omega)) | refine wCd (fun hb => ?_) fun hb => ?_ | refine wCa (c := by first | exact hown) (k := ?_) | refine wOq [4, 5, 6] (hc) ?_ | refine ww3 ?_ | ((fail_if_success refine wwN ?_); refine ww4 ?_) | refine wGd (fun hb => ?_) fun hb => ?_ | exact trivial
  clear F
  refine Qd5 hE (X := Nat) (Qg1 s r) (Qgz s t r) (fun x => s.descs.length - x) (fun x => x ≤ s.descs.length) [0, 1, 2, 3, 4, 5, 6, 10, 7, 8, 11, 12, 13, 9] 0 (Nat.zero_le _) (by decide) (by decide) (by simp [Qbo, Qg1, Qfa, Qe2, Qc3, Qdw]) (by simp [Qbd, HpE, Qgz, thB, Qb6, Qg4, Qc3, Qaf, Qae, Qah, Qam, Qac, Qan, Qdw, Qa0]; try (intro q hq; cases hq)) ?_
  intro x hx
  simp only [Qg1, Qgz, thB]
  rcases Nat.lt_or_ge x s.descs.length with hlt | hge
  · obtain ⟨d, hd⟩ : ∃ d, s.descs[x]? = some d := ⟨_, List.getElem?_eq_getElem hlt⟩
    obtain ⟨d', hd'⟩ : ∃ d', r.1.descs[x]? = some d' := ⟨_, List.getElem?_eq_getElem (by rw [e2]; exact hlt)⟩
    have hra := Qbl (te := 91) hd
    have hrb := Qbl (te := 91) hd'
    have hli : (x : Int) < (s.descs.length : Int) := by omega
    have hx0 : (0 : Int) ≤ (x : Int) := by omega
    have hw : IntKind.i64.wrap ((x : Int) + 1) = x + 1 := Qax (by omega)
    have hkr : x < (Qar 91 r.1.descs).length := by rw [Qab, e2]; exact hlt
    have hself : (Qar 91 r.1.descs).set x [.int .i64 d'.owner, .int .i64 d'.status, .list 91 (Qav d'.entries)] = Qar 91 r.1.descs := by
      apply List.ext_getElem?
      intro q
      rw [List.getElem?_set]
      split
      · rename_i hq
        subst hq
        first | exact hrb.symm | simp [hkr, hrb]
      · rfl
    have hcl := Qfc s.descs r.1.descs x
    have hap := Qfk (Qdw s.descs r.1.descs x) ⟨3, d'.owner, x, 0⟩
    have hxx : ((x + 1 : Nat) : Int) = (x : Int) + 1 := by omega
    by_cases ha : d'.status = 1
    · have hab : (d'.status == 1) = true := by simpa using ha
      by_cases hb' : d.status = 1
      · have hbb : (d.status != 1) = false := by simpa using hb'
        have hno := Qf7 hd' hd (fun h => h.2 hb')
        have F := wwA @Qag (wwA @Qap (wwA @Qah (wwA @Qad (wwA @Qab (wwA @Qaf (wwA @Qae (wwA @Qaj (wwA @Qak (wwA @Qas (wwA @Qal (wwA @Qan (wwA @Qao (wwA @Qam (wwA @Qaa (wwA @Qac (wwA e1 (wwA e2 (wwA @Nat.le_refl (wwA (fun a => List.getElem?_set_self (a := a) hkr) (wwA @List.length_set.{0} (wwA hra (wwA hrb (wwA hli (wwA hlt (wwA hx0 (wwA hw (wwA hab hbb)))))))))))))))))))))))))))
        repeat' first | refine wSq fun _ hK => ?_ | refine wSp (id := 5) [(11, x, 2)] ?_ | refine ww1 ?_ | (refine wK ?_; clear hK) | (simp only [wHb, reduceCtorEq] at hb <;> try (exfalso; omega)) | refine wCd (fun hb => ?_) fun hb => ?_ | refine ww3 ?_ | ((fail_if_success refine wwN ?_); refine ww4 ?_) | refine wGd (fun hb => ?_) fun hb => ?_ | exact trivial
        all_goals clear F
        all_goals refine Qfb [(11, x, 2)] (by simp only [Qb1, Qco, go_sem, List.getElem?_set_self hkr, List.set_set, List.length_set, List.set_cons_succ, List.set_cons_zero, Qaa, Qai, Nat.le_refl, hself]; rfl) [0, 1, 2, 3, 4, 5, 6, 7, 8, 9, 10, 11, 12, 13] (x + 1) rfl (by decide) (by decide) hlt (by first | omega | (simp only; omega)) (by simp [Qbo, tmL, Qg1, Qfa, Qe2, Qc3, hno]) (by simp [Qbd, hpL, Qgz, thB, Qb6, Qg4, Qc3, Qaf, Qae, Qah, Qam, Qac, Qan, hno])
      · have hbb : (d.status != 1) = true := by simpa using hb'
        have hyes := Qjj hd' hd ha hb'
        have hm1 : ((Qdw s.descs r.1.descs x).length + 1) * 32 ≤ 140737488355328 := by omega
        have hm2 : (Qdw s.descs r.1.descs x).length + 1 ≤ maxLen := of_eq_true (Qdn (by omega))
        have F := wwA @Qag (wwA @Qap (wwA @Qah (wwA @Qad (wwA @Qab (wwA @Qaf (wwA @Qae (wwA @Qaj (wwA @Qak (wwA @Qas (wwA @Qal (wwA @Qan (wwA @Qao (wwA @Qam (wwA @Qaa (wwA @Qac (wwA e1 (wwA e2 (wwA @Nat.le_refl (wwA (fun a => List.getElem?_set_self (a := a) hkr) (wwA @List.length_set.{0} (wwA hra (wwA hrb (wwA hli (wwA hlt (wwA hx0 (wwA hw (wwA hab (wwA hbb (wwA hap (wwA hm1 hm2))))))))))))))))))))))))))))))
        repeat' first | refine wSq fun _ hK => ?_ | refine wSp (id := 5) [(11, x, 2)] ?_ | refine ww1 ?_ | (refine wK ?_; clear hK) | (simp only [wHb, reduceCtorEq] at hb <;> try (exfalso; omega)) | refine wCd (fun hb => ?_) fun hb => ?_ | refine ww3 ?_ | ((fail_if_success refine wwN ?_); refine ww4 ?_) | refine wGd (fun hb => ?_) fun hb => ?_ | exact trivial
        all_goals clear F
        all_goals refine Qfb [(11, x, 2)] (by simp only [Qb1, Qco, go_sem, List.getElem?_set_self hkr, List.set_set, List.length_set, List.set_cons_succ, List.set_cons_zero, Qaa, Qai, Nat.le_refl, hself]; rfl) [0, 1, 2, 3, 4, 5, 6, 7, 8, 9, 10, 11, 12, 17] (x + 1) rfl (by decide) (by decide) hlt (by first | omega | (simp only; omega)) (by simp [Qbo, tmL, Qg1, Qfa, Qe2, Qc3, hyes]) (by simp [Qbd, hpL, Qgz, thB, Qb6, Qg4, Qc3, Qaf, Qae, Qah, Qam, Qac, Qan, hyes])
    · have hab : (d'.status == 1) = false := by simpa using ha
      have hno := Qf7 hd' hd (fun h => ha h.1)
      have F := wwA @Qag (wwA @Qap (wwA @Qah (wwA @Qad (wwA @Qab (wwA @Qaf (wwA @Qae (wwA @Qaj (wwA @Qak (wwA @Qas (wwA @Qal (wwA @Qan (wwA @Qao (wwA @Qam (wwA @Qaa (wwA @Qac (wwA e1 (wwA e2 (wwA @Nat.le_refl (wwA (fun a => List.getElem?_set_self (a := a) hkr) (wwA @List.length_set.{0} (wwA hra (wwA hrb (wwA hli (wwA hlt (wwA hx0 (wwA hw hab))))))))))))))))))))))))))
      repeat' first | refine wSq fun _ hK => ?_ | refine wSp (id := 5) [(11, x, 2)] ?_ | refine ww1 ?_ | (refine wK ?_; clear hK) | (simp only [wHb, reduceCtorEq] at hb <;> try (exfalso; omega)) | refine wCd (fun hb => ?_) fun hb => ?_ | refine ww3 ?_ | ((fail_if_success refine wwN ?_); refine ww4 ?_) | refine wGd (fun hb => ?_) fun hb => ?_ | exact trivial
      all_goals clear F
      all_goals refine Qfb [(11, x, 2)] (by simp only [Qb1, Qco, go_sem, List.getElem?_set_self hkr, List.set_set, List.length_set, List.set_cons_succ, List.set_cons_zero, Qaa, Qai, Nat.le_refl, hself]; rfl) [0, 1, 2, 3, 4, 5, 6, 7, 8, 9, 10, 11, 12, 13] (x + 1) rfl (by decide) (by decide) hlt (by first | omega | (simp only; omega)) (by simp [Qbo, tmL, Qg1, Qfa, Qe2, Qc3, hno]) (by simp [Qbd, hpL, Qgz, thB, Qb6, Qg4, Qc3, Qaf, Qae, Qah, Qam, Qac, Qan, hno])
  · obtain rfl : x = s.descs.length := by omega
    have hnl : ¬ ((s.descs.length : Int) < (s.descs.length : Int)) := by omega
    have hp0 : ¬ (0 : Int) < (r.2.length : Int) := by rw [hne]; simp
    have hmb : ((k : Int) == -1) = false := by rw [beq_eq_false_iff_ne]; omega
    have hk0 : (0 : Int) ≤ (k : Int) := by omega
    have hkl0 : k < r.1.descs.length := (List.getElem?_eq_some_iff.1 hdk).1
    have hkl : k < s.descs.length := by rw [← e2]; exact hkl0
    have hki : (k : Int) < (s.descs.length : Int) := by omega
    have hrk := Qbl (te := 91) hdk
    have hkr : k < (Qar 91 r.1.descs).length := by rw [Qab, e2]; exact hkl
    have hself : (Qar 91 r.1.descs).set k [.int .i64 dk.owner, .int .i64 dk.status, .list 91 (Qav dk.entries)] = Qar 91 r.1.descs := by
      apply List.ext_getElem?
      intro q
      rw [List.getElem?_set]
      split
      · rename_i hq
        subst hq
        first | exact hrk.symm | simp [hkr, hrk]
      · rfl
    rcases hcs with ⟨hsc, rfl, rfl⟩ | ⟨hsc, rfl, rfl⟩
    · have hsb : (dk.status != 1) = false := by simpa using hsc
      have hwp : IntKind.i64.wrap (t.pc + 1) = t.pc + 1 := Qax (by omega)
      have hwc : IntKind.i64.wrap (t.commits + 1) = t.commits + 1 := Qax (by omega)
      have hmn : (if 1000000 < t.commits + 1 then 1000000 else t.commits + 1) = Qlr t.commits := rfl
      have F := wwA @Qag (wwA @Qap (wwA @Qah (wwA @Qad (wwA @Qab (wwA @Qaf (wwA @Qae (wwA @Qaj (wwA @Qak (wwA @Qas (wwA @Qal (wwA @Qan (wwA @Qao (wwA @Qam (wwA @Qaa (wwA @Qac (wwA e1 (wwA e2 (wwA @Nat.le_refl (wwA (fun a => List.getElem?_set_self (a := a) hkr) (wwA @List.length_set.{0} (wwA hnl (wwA hp0 (wwA hmb (wwA hmi (wwA hk0 (wwA hkl (wwA hki (wwA hrk (wwA hsb (wwA hwp (wwA hwc (wwA hmn (wwA t1 t2)))))))))))))))))))))))))))))))))
      repeat' first | refine wSq fun _ hK => ?_ | refine wSp (id := 11) [(11, k, 2)] ?_ | refine ww1 ?_ | (refine wK ?_; clear hK) | (simp only [wHb, reduceCtorEq] at hb <;> try (exfalso; omega)) | refine wCd (fun hb => ?_) fun hb => ?_ | refine ww3 ?_ | ((fail_if_success refine wwN ?_); refine ww4 ?_) | refine wGd (fun hb => ?_) fun hb => ?_ | exact trivial
      all_goals refine wRo [(11, k, 2)] [_, _, _, _, _, _, _] (h0 := (by simp only [Qb1, Qco, go_sem, List.getElem?_set_self hkr, List.set_set, List.length_set, List.set_cons_succ, List.set_cons_zero, Qaa, Qai, Nat.le_refl, hself]; rfl))
    · have hsb : (dk.status != 1) = true := by simpa using hsc
      have hfl := Qzo {t with stack := r.2, mine := -1} u0 u1
      simp only [thB] at hfl
      unfold Qdx at *
      have hcl := Qfc s.descs r.1.descs s.descs.length
      have hm1 : ((Qdw s.descs r.1.descs s.descs.length).length + 1) * 32 ≤ 140737488355328 := by omega
      have hm2 : (Qdw s.descs r.1.descs s.descs.length).length + 1 ≤ maxLen := of_eq_true (Qdn (by omega))
      have hap := Qfk (Qdw s.descs r.1.descs s.descs.length) ⟨4, t.id, 0, 0⟩
      have hv1 : (Qa0 [⟨4, t.id, 0, 0⟩]).take 1 = [[.int .i64 4, .int .i64 t.id, .int .i64 0, .int .i64 0]] := rfl
      have hpc : ([[.int .i64 4, .int .i64 t.id, .int .i64 0, .int .i64 0]] : List (List PT)).all (fun x => x.all Qcy) = true := rfl
      have hel : (Qdw s.descs r.1.descs s.descs.length ++ [(⟨4, t.id, 0, 0⟩ : EventD)]).length = (Qdw s.descs r.1.descs s.descs.length).length + 1 := by simp
      have hvt := Qal (Qdw s.descs r.1.descs s.descs.length ++ [(⟨4, t.id, 0, 0⟩ : EventD)])
      rw [hel] at hvt ⊢
      have F := wwA @Qag (wwA @Qap (wwA @Qah (wwA @Qad (wwA @Qab (wwA @Qaf (wwA @Qae (wwA @Qaj (wwA @Qak (wwA @Qas (wwA @Qal (wwA @Qan (wwA @Qao (wwA @Qam (wwA @Qaa (wwA @Qac (wwA e1 (wwA e2 (wwA @Nat.le_refl (wwA (fun a => List.getElem?_set_self (a := a) hkr) (wwA @List.length_set.{0} (wwA hnl (wwA hp0 (wwA hmb (wwA hmi (wwA hk0 (wwA hkl (wwA hki (wwA hrk (wwA hsb (wwA hm1 (wwA hm2 (wwA hap (wwA hv1 (wwA hpc (wwA hel (wwA t1 (wwA t2 hvt)))))))))))))))))))))))))))))))))))))
      repeat' first | refine wSq fun _ hK => ?_ | refine wSp (id := 11) [(11, k, 2)] ?_ | refine ww1 ?_ | (refine wK ?_; clear hK) | (simp only [wHb, reduceCtorEq] at hb <;> try (exfalso; omega)) | refine wCd (fun hb => ?_) fun hb => ?_ | refine wOq [0, 1, 12] (hfl) ?_ | refine ww3 ?_ | ((fail_if_success refine wwN ?_); refine ww4 ?_) | refine wGd (fun hb => ?_) fun hb => ?_ | exact trivial
      all_goals refine wRo [(11, k, 2)] [_, _, _, _, _, _, _] (h0 := (by simp only [Qb1, Qco, go_sem, List.getElem?_set_self hkr, List.set_set, List.length_set, List.set_cons_succ, List.set_cons_zero, Qaa, Qai, Nat.le_refl, hself]; rfl))
def Qmw (s : StoreD) (x : Nat) : List (Nat × VV) := [(0, .bp 0 0), (1, .bp 4 0), (5, .bp 7 0), (6, .rf 11 0), (27, .rf 6 s.descs.length), (28, .int .i64 s.descs.length), (29, .int .i64 x)]
def Ql7 (s : StoreD) (t : ThreadD) (x : Nat) : List (Nat × Ent) := [(0, .box (thB t (.rf 1 t.prog.length) (.rf 2 t.opens.length) (.rf 10 t.stack.length))), (1, .root 146 (Qaw t.prog)), (2, .root 91 (Qav t.opens)), (3, .root 160 (Qaq t.stack)), (4, .box [.rf 5 s.heads.length, .rf 6 s.descs.length]), (5, .root 151 (Qat s.heads)), (6, .root 89 (Qar 91 s.descs)), (7, .box [.rf 8 s.heads.length, .rf 9 s.descs.length]), (8, .root 151 (Qat s.heads)), (9, .root 89 (Qar 91 s.descs)), (10, .root 160 (Qaq t.stack)), (11, .root 86 [])]
theorem Qpl (s : StoreD) (t : ThreadD) (hi : HelpI s t.stack) (hs : s.tiny) (hst : Qgb s t.stack = true) (hln : 0 < t.stack.length) : SatO Tryz.prog 132 [.bp 0 0, .bp 4 0] [.box (thB t (.rf 1 t.prog.length) (.rf 2 t.opens.length) (.rf 3 t.stack.length)), .root 146 (Qaw t.prog), .root 91 (Qav t.opens), .root 160 (Qaq t.stack), .box [.rf 5 s.heads.length, .rf 6 s.descs.length], .root 151 (Qat s.heads), .root 89 (Qar 91 s.descs)] (.rf 8 0) [.box (thB t (.rf 1 t.prog.length) (.rf 2 t.opens.length) (.rf 7 t.stack.length)), .root 146 (Qaw t.prog), .root 91 (Qav t.opens), .root 160 (Qaq t.stack), .box [.rf 5 s.heads.length, .rf 6 s.descs.length], .root 151 (Qat s.heads), .root 89 (Qar 91 s.descs), .root 160 (Qaq t.stack), .root 86 []] := by
  have hc := Qq6 s t.stack hi hs.small hst
  have hown := Qb4 s hs.small
  obtain ⟨f1, f2, f3⟩ := hs
  unfold StoreD.cells at hown
  simp only [thB] at *
  refine wEo Tryz.func132 [.tmp 4] 108 7 (by simp [Qbc, Qa6, Qbg, Qcr, Qda]) fun E hE => ?_
  have F := wwA @Qag (wwA @Qap (wwA @Qah (wwA @Qad (wwA @Qab (wwA @Qaf (wwA @Qae (wwA @Qaj (wwA @Qak (wwA @Qas (wwA @Qal (wwA @Qan (wwA @Qao (wwA @Qam (wwA @Qaa (wwA @Qac @Nat.le_refl)))))))))))))))
  repeat' first | refine wSq fun _ hK => ?_ | refine ww1 ?_ | (refine wK ?_; clear hK) | (simp only [wHb, reduceCtorEq] at hb <;> try (exfalso; omega)) | refine wCd (fun hb => ?_) fun hb => ?_ | refine wCa (c := by first | exact hown) (k := ?_) | refine wOq [4, 5, 6] (hc) ?_ | refine ww3 ?_ | ((fail_if_success refine wwN ?_); refine ww4 ?_) | refine wGd (fun hb => ?_) fun hb => ?_ | exact trivial
  clear F
  refine Qd5 hE (X := Nat) (Qmw s) (Ql7 s t) (fun x => s.descs.length - x) (fun x => x ≤ s.descs.length) [0, 1, 2, 3, 4, 5, 6, 10, 7, 8, 11, 9] 0 (Nat.zero_le _) (by decide) (by decide) (by simp [Qbo, Qmw, Qfa, Qe2, Qc3]) (by simp [Qbd, HpE, Ql7, thB, Qb6, Qg4, Qc3, Qaf, Qae, Qah, Qam, Qac, Qan, Qbh]; try (intro q hq; cases hq)) ?_
  intro x hx
  simp only [Qmw, Ql7, thB]
  rcases Nat.lt_or_ge x s.descs.length with hlt | hge
  · obtain ⟨d, hd⟩ : ∃ d, s.descs[x]? = some d := ⟨_, List.getElem?_eq_getElem hlt⟩
    have hra := Qbl (te := 91) hd
    have hli : (x : Int) < (s.descs.length : Int) := by omega
    have hx0 : (0 : Int) ≤ (x : Int) := by omega
    have hw : IntKind.i64.wrap ((x : Int) + 1) = x + 1 := Qax (by omega)
    have hkr : x < (Qar 91 s.descs).length := by rw [Qab]; exact hlt
    have hself : (Qar 91 s.descs).set x [.int .i64 d.owner, .int .i64 d.status, .list 91 (Qav d.entries)] = Qar 91 s.descs := by
      apply List.ext_getElem?
      intro q
      rw [List.getElem?_set]
      split
      · rename_i hq
        subst hq
        first | exact hra.symm | simp [hkr, hra]
      · rfl
    have hxx : ((x + 1 : Nat) : Int) = (x : Int) + 1 := by omega
    by_cases ha : d.status = 1
    · have hab : (d.status == 1) = true := by simpa using ha
      have hbb : (d.status != 1) = false := by simpa using ha
      have F := wwA @Qag (wwA @Qap (wwA @Qah (wwA @Qad (wwA @Qab (wwA @Qaf (wwA @Qae (wwA @Qaj (wwA @Qak (wwA @Qas (wwA @Qal (wwA @Qan (wwA @Qao (wwA @Qam (wwA @Qaa (wwA @Qac (wwA @Nat.le_refl (wwA (fun a => List.getElem?_set_self (a := a) hkr) (wwA @List.length_set.{0} (wwA hra (wwA hli (wwA hlt (wwA hx0 (wwA hw (wwA hab hbb))))))))))))))))))))))))
      repeat' first | refine wSq fun _ hK => ?_ | refine wSp (id := 5) [(6, x, 2)] ?_ | refine ww1 ?_ | (refine wK ?_; clear hK) | (simp only [wHb, reduceCtorEq] at hb <;> try (exfalso; omega)) | refine wCd (fun hb => ?_) fun hb => ?_ | refine ww3 ?_ | ((fail_if_success refine wwN ?_); refine ww4 ?_) | refine wGd (fun hb => ?_) fun hb => ?_ | exact trivial
      all_goals clear F
      all_goals refine Qfb [(6, x, 2)] (by simp only [Qb1, Qco, go_sem, List.getElem?_set_self hkr, List.set_set, List.length_set, List.set_cons_succ, List.set_cons_zero, Qaa, Qai, Nat.le_refl, hself]; rfl) [0, 1, 2, 3, 4, 5, 6, 7, 8, 9, 10, 11] (x + 1) rfl (by decide) (by decide) hlt (by first | omega | (simp only; omega)) (by simp [Qbo, tmL, Qmw, Qfa, Qe2, Qc3]) (by simp [Qbd, hpL, Ql7, thB, Qb6, Qg4, Qc3, Qaf, Qae, Qah, Qam, Qac, Qan, Qbh])
    · have hab : (d.status == 1) = false := by simpa using ha
      have F := wwA @Qag (wwA @Qap (wwA @Qah (wwA @Qad (wwA @Qab (wwA @Qaf (wwA @Qae (wwA @Qaj (wwA @Qak (wwA @Qas (wwA @Qal (wwA @Qan (wwA @Qao (wwA @Qam (wwA @Qaa (wwA @Qac (wwA @Nat.le_refl (wwA (fun a => List.getElem?_set_self (a := a) hkr) (wwA @List.length_set.{0} (wwA hra (wwA hli (wwA hlt (wwA hx0 (wwA hw hab)))))))))))))))))))))))
      repeat' first | refine wSq fun _ hK => ?_ | refine wSp (id := 5) [(6, x, 2)] ?_ | refine ww1 ?_ | (refine wK ?_; clear hK) | (simp only [wHb, reduceCtorEq] at hb <;> try (exfalso; omega)) | refine wCd (fun hb => ?_) fun hb => ?_ | refine ww3 ?_ | ((fail_if_success refine wwN ?_); refine ww4 ?_) | refine wGd (fun hb => ?_) fun hb => ?_ | exact trivial
      all_goals clear F
      all_goals refine Qfb [(6, x, 2)] (by simp only [Qb1, Qco, go_sem, List.getElem?_set_self hkr, List.set_set, List.length_set, List.set_cons_succ, List.set_cons_zero, Qaa, Qai, Nat.le_refl, hself]; rfl) [0, 1, 2, 3, 4, 5, 6, 7, 8, 9, 10, 11] (x + 1) rfl (by decide) (by decide) hlt (by first | omega | (simp only; omega)) (by simp [Qbo, tmL, Qmw, Qfa, Qe2, Qc3]) (by simp [Qbd, hpL, Ql7, thB, Qb6, Qg4, Qc3, Qaf, Qae, Qah, Qam, Qac, Qan, Qbh])
  · obtain rfl : x = s.descs.length := by omega
    have hnl : ¬ ((s.descs.length : Int) < (s.descs.length : Int)) := by omega
    have hp0 : (0 : Int) < (t.stack.length : Int) := by omega
    have F := wwA @Qag (wwA @Qap (wwA @Qah (wwA @Qad (wwA @Qab (wwA @Qaf (wwA @Qae (wwA @Qaj (wwA @Qak (wwA @Qas (wwA @Qal (wwA @Qan (wwA @Qao (wwA @Qam (wwA @Qaa (wwA @Qac (wwA @Nat.le_refl (wwA hnl hp0)))))))))))))))))
    repeat' first | refine wSq fun _ hK => ?_ | refine ww1 ?_ | (refine wK ?_; clear hK) | (simp only [wHb, reduceCtorEq] at hb <;> try (exfalso; omega)) | refine wCd (fun hb => ?_) fun hb => ?_ | refine ww3 ?_ | ((fail_if_success refine wwN ?_); refine ww4 ?_) | refine wGd (fun hb => ?_) fun hb => ?_ | exact trivial
    all_goals refine wRo [] [_, _, _, _, _, _, _]
end Go.Proofs.YtmiojnibngncaaaGreat
namespace Go.Proofs.YtmiojnibngncaaaGreat
open Go Go.RowKit
set_option linter.unusedVariables false
set_option linter.unusedSimpArgs false
set_option maxRecDepth 100000
set_option maxHeartbeats 4000000
attribute [local irreducible] VWP Qb5 Qbn Qbs Qbu Qbj Qbt Qa3 Qbq Qcq Qc6 Qbk Qdb Qc4 Qbr Qbm Qa8
noncomputable def Qcl (es : List EntS) (o v : Int) : List EntS × Bool :=
  match es.findIdx? (Xcu o) with
  | some k => match es[k]? with
    | some e => if bP (Qeb es) = true ∧ inB v (-1000000000) 1000000000 = true then (es.set k ⟨e.object, e.version, e.old, v, true⟩, true) else (es, false)
    | none => (es, false)
  | none => (es, false)
theorem Qt8 (es : List EntS) (o v : Int) : (Qcl es o v).1.length = es.length := by
  unfold Qcl
  repeat' split
  all_goals simp
theorem Qrh (es : List EntS) (k : Nat) (e : EntS) : (Qav es).set k [.int .i64 e.object, .int .i64 e.version, .int .i64 e.old, .int .i64 e.new, .bool e.write] = Qav (es.set k e) := by simp [Qav, List.map_set, EntS.enc]
theorem Qiy (es : List EntS) (o : Int) : (es.findIdx? (Xcu o) = none ∧ Qdl es o = -1) ∨ ∃ (k : Nat) (e : EntS), es.findIdx? (Xcu o) = some k ∧ Qdl es o = k ∧ es[k]? = some e := by
  cases h : es.findIdx? (Xcu o) with
  | none => exact .inl ⟨rfl, by simp [Qdl, Qge, h]⟩
  | some k =>
    right
    have h2 := h
    rw [List.findIdx?_eq_some_iff_getElem] at h2
    obtain ⟨h1, _⟩ := h2
    exact ⟨k, es[k], rfl, by simp [Qdl, Qge, h], List.getElem?_eq_getElem h1⟩
theorem Qqv (es : List EntS) (o v : Int) (r : List EntS × Bool) (hr : Qcl es o v = r) (hl : es.length ≤ 1048576) : SatP Tryz.prog 186 [.fr 91 (Qav es), .int .i64 o, .int .i64 v]
    (.tup [.rf 0 r.1.length, .bool r.2]) [(91, Qav r.1)] := by
  refine wEp Tryz.func186 [.tmp 6, .tmp 7] 33 (hp := (by simpa using Qac _)) fun E hE => ?_
  rcases Qiy es o with ⟨hf, hp⟩ | ⟨k, e, hf, hp, he⟩
  · have ho : Qbp es o = -1 := by rw [Qbp, hp]; split <;> rfl
    have h : Qcl es o v = (es, false) := by simp [Qcl, hf]
    rw [h] at hr
    subst hr
    have F := wwA @Qaa ho
    repeat' first | refine wSq fun _ hK => ?_ | refine ww1 ?_ | (refine wK ?_; clear hK) | (simp only [wHb, reduceCtorEq] at hb <;> try (exfalso; omega)) | refine wCd (fun hb => ?_) fun hb => ?_ | refine wCa (c := by first | exact Qfm es (by omega) | exact Qb9 es o hl | exact Qcu _) (k := ?_) | refine ww3 ?_ | refine ww4 ?_ | refine wGd (fun hb => ?_) fun hb => ?_ | exact trivial
    exact Qdh (T := 0) (by simp only [go_sem]) (by simp only [go_sem]) rfl (by simp only [go_sem]; try rfl) rfl (Qaa es).symm (Qac es)
  · have hk := (List.getElem?_eq_some_iff.1 he).1
    have hre := Qbe he
    have hkr : k < (Qav es).length := by rw [Qaa]; exact hk
    cases hb0 : bP (Qeb es) with
    | false =>
      have ho : Qbp es o = -1 := by rw [Qbp, hb0]; rfl
      have h : Qcl es o v = (es, false) := by simp [Qcl, hf, he, hb0]
      rw [h] at hr
      subst hr
      have F := wwA @Qaa ho
      repeat' first | refine wSq fun _ hK => ?_ | refine ww1 ?_ | (refine wK ?_; clear hK) | (simp only [wHb, reduceCtorEq] at hb <;> try (exfalso; omega)) | refine wCd (fun hb => ?_) fun hb => ?_ | refine wCa (c := by first | exact Qfm es (by omega) | exact Qb9 es o hl | exact Qcu _) (k := ?_) | refine ww3 ?_ | refine ww4 ?_ | refine wGd (fun hb => ?_) fun hb => ?_ | exact trivial
      exact Qdh (T := 0) (by simp only [go_sem]) (by simp only [go_sem]) rfl (by simp only [go_sem]; try rfl) rfl (Qaa es).symm (Qac es)
    | true =>
      have ho : Qbp es o = k := by rw [Qbp, if_pos hb0, hp]
      repeat' first
        | refine Qjg fun _ hK => ?_
        | refine Qf2 hT ?_
        | refine Qh3 hT hM (by kernel_rfl) rfl ?_
        | refine Qjx ?_
        | refine Qlc ?_
        | refine Qlm ?_
        | refine Qpo ?_
        | (refine hK _ ?_; clear hK)
        | (clear hK; refine hK _ ?_; clear hK)
        | (clear hK; clear hK; refine hK _ ?_; clear hK)
        | (clear hK; clear hK; clear hK; refine hK _ ?_; clear hK)
        | (simp only [decide_eq_true_eq, decide_eq_false_iff_not, bne_iff_ne, ne_eq, Bool.not_eq_true', Bool.not_eq_false', Bool.true_eq_false, Bool.false_eq_true, reduceCtorEq, not_true_eq_false, eq_self] at hb <;> try (exfalso; omega))
        | refine Qaz _ (by simp only [go_sem, Qaa, ho, hre, hk, set_set, List.length_set, Qfs _ hkr]; rfl) (fun hb => ?_) (fun hb => ?_)
        | refine Xdf (by simp only [go_sem, Qaa, ho, hre, hk, set_set, List.length_set, Qfs _ hkr, List.mem_cons, List.not_mem_nil, or_false, forall_eq_or_imp, forall_eq, Qgm, Qdm]; try simp) (args' := _) (by simp only [go_sem, Qaa, ho, hre, hk, set_set, List.length_set, Qfs _ hkr, Qnd, Qlk]; try rfl) (by first | exact Qfm es (by omega) | exact Qb9 es o hl | exact Qcu _) (by simp only [go_sem, Qaa, ho, hre, hk, set_set, List.length_set, Qfs _ hkr]; try simp) (by decide) ?_
        | simp only [go_sem, Qaa, ho, hre, hk, set_set, List.length_set, Qfs _ hkr]
        | simp (disch := omega) only [decide_eq_true_eq, if_pos, if_neg, Qax, Qdn, and_true, true_and, if_true, ite_true]
        | refine Qfq (by simp only [go_sem, Qaa, ho, hre, hk, set_set, List.length_set, Qfs _ hkr]) rfl (fun hb => ?_) (fun hb => ?_)
      · have hv : inB v (-1000000000) 1000000000 = false := by simp_all
        have h : Qcl es o v = (es, false) := by simp [Qcl, hf, he, hv]
        rw [h] at hr
        subst hr
        exact Qdh (T := 0) (by simp only [go_sem]) (by simp only [go_sem]) rfl (by simp only [go_sem]; try rfl) rfl (Qaa es).symm (Qac es)
      · have hv : inB v (-1000000000) 1000000000 = true := by simp_all
        have h : Qcl es o v = (es.set k ⟨e.object, e.version, e.old, v, true⟩, true) := by simp [Qcl, hf, he, hb0, hv]
        rw [h] at hr
        subst hr
        exact Qdh (T := 0) (by simp only [go_sem]; simp) (by simp only [go_sem]) rfl (by simp only [go_sem]; rw [← Qrh]) rfl (by simp [Qaa]) (Qac _)
theorem Qqe (es : List EntS) (o v : Int) (r : List EntS × Bool) (hr : Qcl es o v = r) (hl : es.length ≤ 1048576) : SatP Tryz.prog 139 [.fr 91 (Qav es), .int .i64 o, .int .i64 v]
    (.tup [.rf 0 r.1.length, .bool r.2]) [(91, Qav r.1)] := by
  refine wEp Tryz.func139 [.tmp 6, .tmp 7] 33 (hp := (by simpa using Qac _)) fun E hE => ?_
  rcases Qiy es o with ⟨hf, hp⟩ | ⟨k, e, hf, hp, he⟩
  · have ho : Qbp es o = -1 := by rw [Qbp, hp]; split <;> rfl
    have h : Qcl es o v = (es, false) := by simp [Qcl, hf]
    rw [h] at hr
    subst hr
    have F := wwA @Qaa ho
    repeat' first | refine wSq fun _ hK => ?_ | refine ww1 ?_ | (refine wK ?_; clear hK) | (simp only [wHb, reduceCtorEq] at hb <;> try (exfalso; omega)) | refine wCd (fun hb => ?_) fun hb => ?_ | refine wCa (c := by first | exact Qde es (by omega) | exact Qgo es o hl | exact Qdu _) (k := ?_) | refine ww3 ?_ | refine ww4 ?_ | refine wGd (fun hb => ?_) fun hb => ?_ | exact trivial
    exact Qdh (T := 0) (by simp only [go_sem]) (by simp only [go_sem]) rfl (by simp only [go_sem]; try rfl) rfl (Qaa es).symm (Qac es)
  · have hk := (List.getElem?_eq_some_iff.1 he).1
    have hre := Qbe he
    have hkr : k < (Qav es).length := by rw [Qaa]; exact hk
    cases hb0 : bP (Qeb es) with
    | false =>
      have ho : Qbp es o = -1 := by rw [Qbp, hb0]; rfl
      have h : Qcl es o v = (es, false) := by simp [Qcl, hf, he, hb0]
      rw [h] at hr
      subst hr
      have F := wwA @Qaa ho
      repeat' first | refine wSq fun _ hK => ?_ | refine ww1 ?_ | (refine wK ?_; clear hK) | (simp only [wHb, reduceCtorEq] at hb <;> try (exfalso; omega)) | refine wCd (fun hb => ?_) fun hb => ?_ | refine wCa (c := by first | exact Qde es (by omega) | exact Qgo es o hl | exact Qdu _) (k := ?_) | refine ww3 ?_ | refine ww4 ?_ | refine wGd (fun hb => ?_) fun hb => ?_ | exact trivial
      exact Qdh (T := 0) (by simp only [go_sem]) (by simp only [go_sem]) rfl (by simp only [go_sem]; try rfl) rfl (Qaa es).symm (Qac es)
    | true =>
      have ho : Qbp es o = k := by rw [Qbp, if_pos hb0, hp]
      repeat' first
        | refine Qjg fun _ hK => ?_
        | refine Qf2 hT ?_
        | refine Qh3 hT hM (by kernel_rfl) rfl ?_
        | refine Qjx ?_
        | refine Qlc ?_
        | refine Qlm ?_
        | refine Qpo ?_
        | (refine hK _ ?_; clear hK)
        | (clear hK; refine hK _ ?_; clear hK)
        | (clear hK; clear hK; refine hK _ ?_; clear hK)
        | (clear hK; clear hK; clear hK; refine hK _ ?_; clear hK)
        | (simp only [decide_eq_true_eq, decide_eq_false_iff_not, bne_iff_ne, ne_eq, Bool.not_eq_true', Bool.not_eq_false', Bool.true_eq_false, Bool.false_eq_true, reduceCtorEq, not_true_eq_false, eq_self] at hb <;> try (exfalso; omega))
        | refine Qaz _ (by simp only [go_sem, Qaa, ho, hre, hk, set_set, List.length_set, Qfs _ hkr]; rfl) (fun hb => ?_) (fun hb => ?_)
        | refine Xdf (by simp only [go_sem, Qaa, ho, hre, hk, set_set, List.length_set, Qfs _ hkr, List.mem_cons, List.not_mem_nil, or_false, forall_eq_or_imp, forall_eq, Qgm, Qdm]; try simp) (args' := _) (by simp only [go_sem, Qaa, ho, hre, hk, set_set, List.length_set, Qfs _ hkr, Qnd, Qlk]; try rfl) (by first | exact Qde es (by omega) | exact Qgo es o hl | exact Qdu _) (by simp only [go_sem, Qaa, ho, hre, hk, set_set, List.length_set, Qfs _ hkr]; try simp) (by decide) ?_
        | simp only [go_sem, Qaa, ho, hre, hk, set_set, List.length_set, Qfs _ hkr]
        | simp (disch := omega) only [decide_eq_true_eq, if_pos, if_neg, Qax, Qdn, and_true, true_and, if_true, ite_true]
        | refine Qfq (by simp only [go_sem, Qaa, ho, hre, hk, set_set, List.length_set, Qfs _ hkr]) rfl (fun hb => ?_) (fun hb => ?_)
      · have hv : inB v (-1000000000) 1000000000 = false := by simp_all
        have h : Qcl es o v = (es, false) := by simp [Qcl, hf, he, hv]
        rw [h] at hr
        subst hr
        exact Qdh (T := 0) (by simp only [go_sem]) (by simp only [go_sem]) rfl (by simp only [go_sem]; try rfl) rfl (Qaa es).symm (Qac es)
      · have hv : inB v (-1000000000) 1000000000 = true := by simp_all
        have h : Qcl es o v = (es.set k ⟨e.object, e.version, e.old, v, true⟩, true) := by simp [Qcl, hf, he, hb0, hv]
        rw [h] at hr
        subst hr
        exact Qdh (T := 0) (by simp only [go_sem]; simp) (by simp only [go_sem]) rfl (by simp only [go_sem]; rw [← Qrh]) rfl (by simp [Qaa]) (Qac _)
end Go.Proofs.YtmiojnibngncaaaGreat
namespace Go.Proofs.YtmiojnibngncaaaGreat
open Go Go.RowKit
set_option linter.unusedVariables false
set_option linter.unusedSimpArgs false
set_option maxRecDepth 100000
set_option maxHeartbeats 4000000
attribute [local irreducible] Qdo VWP Qb5 Qbn Qbs Qbu Qbj Qbt Qa3 Qbq Qcq Qc6 Qbk Qdb Qc4 Qbr Qbm Qa8
def getR (t : ThreadD) (i : Int) : Int := if i = 0 then t.r0 else if i = 1 then t.r1 else if i = 2 then t.r2 else t.r3
def setR (t : ThreadD) (i x : Int) : ThreadD := if i = 0 then { t with r0 := x } else if i = 1 then { t with r1 := x } else if i = 2 then { t with r2 := x } else { t with r3 := x }
def Qbz (t : ThreadD) (n : Int) : ThreadD := { t with stack := t.stack ++ [⟨n, 0, 0⟩] }
def Xhm (t : ThreadD) (op a b : Int) : ThreadD :=
  if op = 3 then { setR t a b with pc := t.pc + 1 } else if op = 4 then { setR t a (Qp9 (getR t a + getR t b)) with pc := t.pc + 1 }
  else if op = 5 then { t with pc := if getR t a = 0 then t.pc + 1 else b } else { t with pc := a }
def Xe2 (s : StoreD) (t : ThreadD) : ThreadD × List EventD := match t.opens[t.check.toNat]? with
  | none => (t, [])
  | some e => match s.heads[e.object.toNat]? with
    | none => (t, [])
    | some h => if 0 ≤ h.desc then (Qbz t h.desc, []) else if ¬ h.version = e.version then (Qdx t, [⟨4, t.id, 0, 0⟩])
      else if t.check + 1 < (t.opens.length : Int) - 1 then ({ t with check := t.check + 1 }, []) else ({ t with check := -1 }, [⟨2, t.id, 0, 0⟩])
def Xel (s : StoreD) (t : ThreadD) (o : Nat) : ThreadD × List EventD := match s.heads[o]? with
  | none => ({ t with state := 3 }, [])
  | some h => if 0 ≤ h.desc then (Qbz t h.desc, []) else if t.opens.length = 6 then ({ t with state := 2 }, [])
    else ({ t with opens := t.opens ++ [⟨o, h.version, h.value, h.value, false⟩], check := if 1 ≤ t.opens.length then 0 else t.check }, ⟨1, t.id, o, h.value⟩ :: (if 1 ≤ t.opens.length then [] else [⟨2, t.id, 0, 0⟩]))
noncomputable def Qvy (s : StoreD) (t : ThreadD) : StoreD × ThreadD :=
  if t.opens.length = 0 then (s, { t with pc := t.pc + 1, commits := Qlr t.commits })
  else if (Qcb s (Qia t.id t.opens).1).2.2 = true then ((Qcb s (Qia t.id t.opens).1).1, { Qbz t (Qcb s (Qia t.id t.opens).1).2.1 with mine := (Qcb s (Qia t.id t.opens).1).2.1 })
  else (s, { t with state := 3 })
def endM (r : StoreD × List FrameD) (t : ThreadD) : ThreadD × List EventD := match r.1.descs[t.mine.toNat]? with
  | none => (t, [])
  | some d => if d.status = 1 then ({ t with stack := [], opens := [], mine := -1, commits := Qlr t.commits, pc := t.pc + 1 }, [])
    else (Qdx { t with stack := [], mine := -1 }, [⟨4, t.id, 0, 0⟩])
def Xhi (s : StoreD) (t : ThreadD) : StoreD × ThreadD × List EventD :=
  if (Qes s t.stack).2 = [] ∧ ¬ t.mine = -1 then ((Qes s t.stack).1, (endM (Qes s t.stack) t).1, Qdw s.descs (Qes s t.stack).1.descs s.descs.length ++ (endM (Qes s t.stack) t).2)
  else ((Qes s t.stack).1, { t with stack := (Qes s t.stack).2 }, Qdw s.descs (Qes s t.stack).1.descs s.descs.length)
noncomputable def Xg4 (s : StoreD) (t : ThreadD) (x : InsS) : StoreD × ThreadD × List EventD :=
  if x.op = 1 then (if 0 ≤ Qdl t.opens x.b ∧ x.b < s.heads.length then (s, { setR t x.a ((t.opens[(Qdl t.opens x.b).toNat]?.map EntS.new).getD 0) with pc := t.pc + 1 }, []) else (s, (Xel s t x.b.toNat)))
  else if x.op = 2 then (if 0 ≤ Qdl t.opens x.a ∧ x.a < s.heads.length then (s, { t with opens := (Qcl t.opens x.a (getR t x.b)).1, pc := t.pc + 1 }, []) else (s, (Xel s t x.a.toNat)))
  else if x.op = 6 then ((Qvy s t).1, (Qvy s t).2, [])
  else if x.op = 7 then (s, { t with opens := [], pc := t.pc + 1 }, [⟨5, t.id, 0, 0⟩])
  else (s, Xhm t x.op x.a x.b, [])
noncomputable def stepM (s : StoreD) (t : ThreadD) : StoreD × ThreadD × List EventD :=
  if 0 < t.stack.length then Xhi s t
  else if ¬ t.check = -1 then (s, Xe2 s t)
  else if t.pc = t.prog.length then (s, { t with state := 1 }, [⟨6, t.id, 0, 0⟩])
  else match t.prog[t.pc.toNat]? with
    | none => (s, t, [])
    | some x => Xg4 s t x
end Go.Proofs.YtmiojnibngncaaaGreat
