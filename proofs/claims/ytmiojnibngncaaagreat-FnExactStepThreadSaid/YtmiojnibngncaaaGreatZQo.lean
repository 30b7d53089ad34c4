/- What the claim rests on, part 15: the value-level engine and contracts of functions; no condition. -/
import Derived.Test.YtmiojnibngncaaaGreatZQn
import Derived.Test.YtmiojnibngncaaaGreatZQg
import Derived.Test.YtmiojnibngncaaaGreatZQk
import Derived.Test.YtmiojnibngncaaaGreatZQi
import Derived.Test.YtmiojnibngncaaaGreatZQc
namespace Go.Proofs.YtmiojnibngncaaaGreat
open Go Go.RowKit
set_option linter.unusedVariables false
set_option linter.unusedSimpArgs false
set_option maxRecDepth 100000
set_option maxHeartbeats 4000000
attribute [local irreducible] VWP Qb5 Qbn Qbs Qbu Qbj Qbt Qa3 Qbq Qcq Qc6 Qbk Qdb Qc4 Qbr Qbm Qa8
attribute [local irreducible] Qdo
def Qgb (s : StoreD) (fs : List FrameD) : Bool := match fs.getLast? with
  | none => true
  | some f => decide (0 ≤ (Qe6 s f).2.2) && decide (fs.length = 130)
theorem Qo0 {s : StoreD} {fs : List FrameD} (h : Qgb s fs = true) : Qes s fs = (s, fs) := by
  rcases List.eq_nil_or_concat fs with rfl | ⟨init, f, rfl⟩
  · rfl
  · rw [List.concat_eq_append] at *
    simp [Qgb] at h
    rw [Qey, if_pos h.1, if_pos (by have := h.2; omega)]
theorem Qq6 (s : StoreD) (fs : List FrameD) (hi : HelpI s fs) (hs : s.small) (h : Qgb s fs = true) :
    SatO Tryz.prog 172 [.bp 0 0, .fr 160 (Qaq fs)] [.box [.rf 1 s.heads.length, .rf 2 s.descs.length], .root 151 (Qat s.heads), .root 89 (Qar 91 s.descs)]
      (.rf 3 fs.length) [.box [.rf 1 s.heads.length, .rf 2 s.descs.length], .root 151 (Qat s.heads), .root 89 (Qar 91 s.descs), .root 160 (Qaq fs)] := by
  rcases List.eq_nil_or_concat fs with rfl | ⟨init, f, rfl⟩
  · exact Qxq s hs
  · rw [List.concat_eq_append] at *
    simp [Qgb] at h
    obtain ⟨k, d, j, e, o, hd, ha, h1, h2, h3, h4⟩ := Qmu hi.st (hi.fr f (by simp))
    rw [Qfp ha] at h
    have := Qt0 s init f k d j e o hd ha h1 h2 hs _ rfl h.1 (by have := h.2; omega)
    simpa using this
theorem Qks (s : StoreD) (fs : List FrameD) (hi : HelpI s fs) (hs : s.small) (h : Qgb s fs = false) (r : StoreD × List FrameD) (hr : Qes s fs = r) :
    SatO Tryz.prog 172 [.bp 0 0, .fr 160 (Qaq fs)] [.box [.rf 1 s.heads.length, .rf 2 s.descs.length], .root 151 (Qat s.heads), .root 89 (Qar 91 s.descs)]
      (.rf 5 r.2.length) [.box [.rf 3 s.heads.length, .rf 4 s.descs.length], .root 151 (Qat s.heads), .root 89 (Qar 91 s.descs), .root 151 (Qat r.1.heads), .root 89 (Qar 91 r.1.descs), .root 160 (Qaq r.2)] := by
  rcases List.eq_nil_or_concat fs with rfl | ⟨init, f, rfl⟩
  · simp [Qgb] at h
  · rw [List.concat_eq_append] at *
    simp [Qgb] at h
    have hlen := hi.len
    simp at hlen
    obtain ⟨k, d, j, e, o, hd, ha, h1, h2, h3, h4⟩ := Qmu hi.st (hi.fr f (by simp))
    rw [Qey] at hr
    rw [Qfp ha] at h hr
    by_cases hm : 0 ≤ (Qa5 s f k d e o hd).2.2
    · have hst := (Qix hi.st (hi.fr f (by simp)) ha h1 h2 h3 h4).same hm
      rw [if_pos hm, if_neg (by have := h hm; omega)] at hr
      subst hr
      have := Qu6 s init f k d j e o hd ha h1 h2 hs _ rfl hm (Qy3 hm) (by have := h hm; omega)
      simp only [hst] at this
      simpa using this
    · rw [if_neg hm] at hr
      by_cases h5 : (Qa5 s f k d e o hd).2.1.phase = 5
      · rw [if_pos h5] at hr
        subst hr
        exact Qw3 s init f k d j e o hd ha h1 h2 hs _ rfl hm h5 (by omega)
      · rw [if_neg h5] at hr
        subst hr
        have := Qzb s init f k d j e o hd ha h1 h2 hs _ rfl hm h5 (by omega)
        simpa using this
structure FinX where
  i : Nat
  s : StoreD
  fs : List FrameD
def FinX.tl (tf : TypeId) (m : Nat) (x : FinX) : List (Nat × VV) := if x.i = 0 then [(0, .bp 0 0), (1, .fr tf (Qaq x.fs)), (2, .int .i64 m), (8, .int .i64 x.i)] else [(0, .bp 0 0), (1, .rf 5 x.fs.length), (2, .int .i64 m), (8, .int .i64 x.i)]
def FinX.hl (th td te tf : TypeId) (nh nd : Nat) (x : FinX) : List (Nat × Ent) := if x.i = 0 then [(0, .box [.rf 1 nh, .rf 2 nd]), (1, .root th (Qat x.s.heads)), (2, .root td (Qar te x.s.descs))]
  else [(0, .box [.rf 3 nh, .rf 4 nd]), (3, .root th (Qat x.s.heads)), (4, .root td (Qar te x.s.descs)), (5, .root tf (Qaq x.fs))]
structure FinJ (m : Nat) (s0 : StoreD) (fs0 : List FrameD) (x : FinX) : Prop where
  inv : HelpI x.s x.fs
  tin : x.s.tiny
  le : x.i ≤ m
  hl : x.s.heads.length = s0.heads.length
  dl : x.s.descs.length = s0.descs.length
  zero : x.i = 0 → x.s = s0 ∧ x.fs = fs0
  res : Xc1 m s0 fs0 = ((Xc1 (m - x.i) x.s x.fs).1, (Xc1 (m - x.i) x.s x.fs).2.1, x.i + (Xc1 (m - x.i) x.s x.fs).2.2)
theorem l8_ok (s : StoreD) (fs junk : List FrameD) (hi : HelpI s fs) (hs : s.small) (r : StoreD × List FrameD) (hr : Qes s fs = r) :
    (∃ junk', SatO Tryz.prog 158 [.agg [.rf 0 s.heads.length, .rf 1 s.descs.length], .rf 2 fs.length] [.root 151 (Qat s.heads), .root 89 (Qar 91 s.descs), .root 160 (Qaq (fs ++ junk))]
      (.rf 2 r.2.length) [.root 151 (Qat r.1.heads), .root 89 (Qar 91 r.1.descs), .root 160 (Qaq (r.2 ++ junk'))]) ∨
    SatO Tryz.prog 158 [.agg [.rf 0 s.heads.length, .rf 1 s.descs.length], .rf 2 fs.length] [.root 151 (Qat s.heads), .root 89 (Qar 91 s.descs), .root 160 (Qaq (fs ++ junk))]
      (.rf 3 r.2.length) [.root 151 (Qat r.1.heads), .root 89 (Qar 91 r.1.descs), .dead, .root 160 (Qaq r.2)] := by
  rcases List.eq_nil_or_concat fs with rfl | ⟨init, f, rfl⟩
  · rw [Qjy] at hr
    subst hr
    exact .inl ⟨junk, Qwi s junk hs⟩
  · rw [List.concat_eq_append] at *
    have hlen := hi.len
    simp at hlen
    obtain ⟨k, d, j, e, o, hd, ha, h1, h2, h3, h4⟩ := Qmu hi.st (hi.fr f (by simp))
    rw [Qey, Qfp ha] at hr
    have e1 : init ++ [f] ++ junk = init ++ f :: junk := by simp
    have e2 : (init ++ [f]).length = init.length + 1 := by simp
    rw [e1, e2]
    by_cases hm : 0 ≤ (Qa5 s f k d e o hd).2.2
    · have hst := (Qix hi.st (hi.fr f (by simp)) ha h1 h2 h3 h4).same hm
      rw [if_pos hm] at hr
      by_cases hn : init.length + 1 = 130
      · rw [if_pos hn] at hr
        subst hr
        have := Xbg s init junk f k d j e o hd ha h1 h2 hs _ rfl hm hn
        rw [hst] at this
        exact .inl ⟨junk, by simpa using this⟩
      · rw [if_neg hn] at hr
        subst hr
        have := Xbq s init junk f k d j e o hd ha h1 h2 hs _ rfl hm (by omega)
        rw [hst] at this
        exact .inr (by simpa using this)
    · rw [if_neg hm] at hr
      by_cases h5 : (Qa5 s f k d e o hd).2.1.phase = 5
      · rw [if_pos h5] at hr
        subst hr
        exact .inl ⟨_, Qv0 s init junk f k d j e o hd ha h1 h2 hs _ rfl hm h5 (by omega)⟩
      · rw [if_neg h5] at hr
        subst hr
        have := Xdm s init junk f k d j e o hd ha h1 h2 hs _ rfl hm h5 (by omega)
        exact .inl ⟨junk, by simpa using this⟩
noncomputable def finOk (s : StoreD) (fs : List FrameD) (m : Int) : Bool := Qe3 s fs && inB m 0 2000
noncomputable def finishR (s : StoreD) (fs : List FrameD) (m : Int) : StoreD × Int × Bool :=
  if finOk s fs m = true then ((Xc1 m.toNat s fs).1, ((Xc1 m.toNat s fs).2.2 : Nat), decide ((Xc1 m.toNat s fs).2.1 = [])) else (s, 0, false)
theorem Qy6 {s : StoreD} {fs : List FrameD} (h : Qe3 s fs = true) : HelpI s fs := by
  simp only [Qe3, Bool.and_eq_true, decide_eq_true_eq, List.all_eq_true] at h
  exact Xfe (Qq0.1 h.1.1) h.1.2 fun f hf => by
    have := h.2 f hf
    simp only [stB, Bool.and_eq_true] at this
    exact this.1
structure SFX where
  i : Nat
  s : StoreD
  fs : List FrameD
  junk : List FrameD
end Go.Proofs.YtmiojnibngncaaaGreat
namespace Go.Proofs.YtmiojnibngncaaaGreat
open Go Go.RowKit
set_option linter.unusedVariables false
set_option linter.unusedSimpArgs false
set_option maxRecDepth 100000
set_option maxHeartbeats 4000000
attribute [local irreducible] VWP Qb5 Qbn Qbs Qbu Qbj Qbt Qa3 Qbq Qcq Qc6 Qbk Qdb Qc4 Qbr Qbm Qa8
structure EventD where
  kind : Int
  thread : Int
  object : Int
  value : Int
  deriving DecidableEq
def EventD.enc (e : EventD) : List PT := [.int .i64 e.kind, .int .i64 e.thread, .int .i64 e.object, .int .i64 e.value]
def EventD.cells (e : EventD) : List VV := [.int .i64 e.kind, .int .i64 e.thread, .int .i64 e.object, .int .i64 e.value]
def Qa0 (es : List EventD) : List (List PT) := es.map EventD.enc
theorem Qas (es : List EventD) : (Qa0 es).length = es.length := by simp [Qa0]
theorem Qan (es : List EventD) : Qbb (Qa0 es) := by
  intro r hr c hc
  obtain ⟨e, _, rfl⟩ := List.mem_map.1 hr
  simp only [EventD.enc, List.mem_cons, List.not_mem_nil, or_false] at hc
  rcases hc with rfl | rfl | rfl | rfl <;> constructor
theorem Qal (es : List EventD) : (Qa0 es).take es.length = Qa0 es := by rw [List.take_of_length_le (by rw [Qas]; exact Nat.le_refl _)]
theorem Qi7 {es : List EventD} {i : Nat} {e : EventD} (h : es[i]? = some e) : (Qa0 es)[i]? = some [.int .i64 e.kind, .int .i64 e.thread, .int .i64 e.object, .int .i64 e.value] := by simp [Qa0, h, EventD.enc]
theorem Qfk (es : List EventD) (e : EventD) : Qa0 es ++ [[.int .i64 e.kind, .int .i64 e.thread, .int .i64 e.object, .int .i64 e.value]] = Qa0 (es ++ [e]) := by simp [Qa0, EventD.enc]
theorem Qot (e f : EventD) : SatP Tryz.prog 76 [.agg e.cells, .agg f.cells] (.bool (decide (e = f))) [] := by
  refine wEp Tryz.func76 [.tmp 4] 25 fun E hE => ?_
  unfold EventD.cells
  have F := (Eq.refl 0)
  repeat' first | refine wSq fun _ hK => ?_ | refine ww1 ?_ | (refine wK ?_; clear hK) | (simp only [wHb, reduceCtorEq] at hb <;> try (exfalso; omega)) | refine wCd (fun hb => ?_) fun hb => ?_ | refine ww3 ?_ | refine ww4 ?_ | refine wGd (fun hb => ?_) fun hb => ?_ | exact trivial
  all_goals refine wLf ?_
  all_goals (cases e; cases f; simp_all)
theorem Qvl (es fs : List EventD) (hl : es.length ≤ 1099511627776) : SatP Tryz.prog 21 [.fr 86 (Qa0 es), .fr 86 (Qa0 fs)] (.bool (decide (es = fs))) [] := by
  refine wEp Tryz.func21 [.tmp 4] 27 fun E hE => ?_
  have F := @Qas
  repeat' first | refine wSq fun _ hK => ?_ | refine ww1 ?_ | (refine wK ?_; clear hK) | (simp only [wHb, reduceCtorEq] at hb <;> try (exfalso; omega)) | refine wCd (fun hb => ?_) fun hb => ?_ | refine wCa (c := by first | exact Qot _ _) (k := ?_) | refine ww3 ?_ | refine ww4 ?_ | refine wGd (fun hb => ?_) fun hb => ?_ | exact trivial
  · refine wLf ?_
    have : es ≠ fs := fun h => by subst h; simp at hb
    simp [this]
  have hlen : es.length = fs.length := by simp at hb; omega
  clear hb
  refine Qa4 (X := Nat) (fun i => [(0, .fr 86 (Qa0 es)), (1, .fr 86 (Qa0 fs)), (5, .int .i64 i)]) (fun _ => []) (fun i => es.length - i) (fun i => i ≤ es.length ∧ ∀ j, j < i → es[j]? = fs[j]?) 0 0 ⟨by simp, by simp⟩ (by simp [Qbo]) (by simp) (by simp) ?_
  rintro i nx ⟨hi, hdone⟩ hB
  rcases Nat.lt_or_ge i es.length with hlt | hge
  · obtain ⟨e, he⟩ : ∃ e, es[i]? = some e := ⟨_, List.getElem?_eq_getElem hlt⟩
    obtain ⟨f, hf⟩ : ∃ f, fs[i]? = some f := ⟨_, List.getElem?_eq_getElem (by omega)⟩
    have hre := Qi7 he
    have hrf := Qi7 hf
    have F := wwA @Qas (wwA hre hrf)
    repeat' first | refine wSq fun _ hK => ?_ | refine ww1 ?_ | (refine wK ?_; clear hK) | (simp only [wHb, reduceCtorEq] at hb <;> try (exfalso; omega)) | refine wCd (fun hb => ?_) fun hb => ?_ | refine wCa (c := by first | exact Qot e f) (k := ?_) | refine ww3 ?_ | refine ww4 ?_ | refine wGd (fun hb => ?_) fun hb => ?_ | exact trivial
    · refine wLf ?_
      have : es ≠ fs := fun h => by subst h; rw [he] at hf; cases hf; simp_all
      simp [this]
    · have hef : e = f := by assumption
      have hw := Qax (x := (i : Int) + 1) (by omega)
      refine Qcj (i + 1) ⟨by omega, fun j hj => ?_⟩ (by omega) (by simp [Qbo, tmL, hw]) (by simp) (by simp)
      rcases Nat.lt_or_ge j i with h | h
      · exact hdone j h
      · obtain rfl : j = i := by omega
        rw [he, hf, hef]
  · obtain rfl : i = es.length := by omega
    have : es = fs := List.ext_getElem? fun j => by
      rcases Nat.lt_or_ge j es.length with h | h
      · exact hdone j h
      · rw [List.getElem?_eq_none (by omega), List.getElem?_eq_none (by omega)]
    subst this
    have F := @Qas
    repeat' first | refine wSq fun _ hK => ?_ | refine ww1 ?_ | (refine wK ?_; clear hK) | (simp only [wHb, reduceCtorEq] at hb <;> try (exfalso; omega)) | refine wCd (fun hb => ?_) fun hb => ?_ | refine ww3 ?_ | refine ww4 ?_ | refine wGd (fun hb => ?_) fun hb => ?_ | exact trivial
    refine wLf ?_
    simp
def Qyp (k : Int) : EventD := ⟨k, k + 1, k + 2, k + 3⟩
def Qje (k : Int) (n : Nat) : List EventD := (List.range n).map fun j => Qyp (k + 4 * (j : Nat))
theorem Qgf (k : Int) (n : Nat) : (Qje k n).length = n := by simp [Qje]
theorem Qtk {k : Int} {n i : Nat} (h : i < n) : (Qje k n)[i]? = some (Qyp (k + 4 * (i : Nat))) := by simp [Qje, h]
theorem Qpq (es : List EventD) (k : Int) (h0 : 0 ≤ k) (h1 : k ≤ 1099511627776) (hl : es.length ≤ 1099511627776) :
    SatO Tryz.prog 24 [.rf 0 es.length, .int .i64 k] [.root 86 (Qa0 es)] (.int .i64 (k + 4 * es.length)) [.root 86 (Qa0 (Qje k es.length))] := by
  refine wEo Tryz.func24 [.tmp 4] 41 1 ⟨⟨rfl, Qan _⟩, by simp [Qbc]⟩ fun E hE => ?_
  have F := @Qas
  repeat' first | refine wSq fun _ hK => ?_ | refine ww1 ?_ | (refine wK ?_; clear hK) | (simp only [wHb, reduceCtorEq] at hb <;> try (exfalso; omega)) | refine wCd (fun hb => ?_) fun hb => ?_ | refine ww3 ?_ | refine ww4 ?_ | refine wGd (fun hb => ?_) fun hb => ?_ | exact trivial
  refine Qa4 (X := Nat × List (List PT)) (fun x => [(0, .rf 0 es.length), (1, .int .i64 (k + 4 * (x.1 : Nat))), (5, .int .i64 x.1)]) (fun x => [(0, .root 86 x.2)]) (fun x => es.length - x.1)
    (fun x => x.1 ≤ es.length ∧ x.2.length = es.length ∧ (∀ (j : Nat), j < x.1 → x.2[j]? = some (Qyp (k + 4 * (j : Nat))).enc) ∧ ∀ (j : Nat), x.1 ≤ j → x.2[j]? = (Qa0 es)[j]?)
    1 (0, Qa0 es) ⟨by simp, by simp [Qas], by simp, by simp⟩ (by simp [Qbo]) (by simp [HpE]) (by simp) ?_
  rintro ⟨i, rows⟩ nx ⟨hi, hlen, hdone, hrest⟩ hB
  simp only at hi hlen hdone hrest
  rcases Nat.lt_or_ge i es.length with hlt | hge
  · obtain ⟨e, he⟩ : ∃ e, es[i]? = some e := ⟨_, List.getElem?_eq_getElem hlt⟩
    have hr := hrest i (Nat.le_refl _)
    rw [Qi7 he] at hr
    have hli : i < rows.length := by omega
    have hle : es.length ≤ rows.length := by omega
    have a2 : k + 4 * (i : Nat) + 1 + 1 = k + 4 * (i : Nat) + 2 := by omega
    have a3 : k + 4 * (i : Nat) + 2 + 1 = k + 4 * (i : Nat) + 3 := by omega
    have a4 : k + 4 * (i : Nat) + 3 + 1 = k + 4 * ((i + 1 : Nat) : Int) := by omega
    have w1 := Qax (x := k + 4 * (i : Nat) + 1) (by omega)
    have w2 := Qax (x := k + 4 * (i : Nat) + 2) (by omega)
    have w3 := Qax (x := k + 4 * (i : Nat) + 3) (by omega)
    have w4 := Qax (x := k + 4 * ((i + 1 : Nat) : Int)) (by omega)
    have w0 := Qax (x := (i : Int) + 1) (by omega)
    have F := wwA @Qas (wwA hr (wwA hle (wwA @List.set_set.{0} (wwA @List.length_set.{0} (wwA (fun a => List.getElem?_set_self (a := a) hli) (wwA a2 (wwA a3 (wwA a4 (wwA w0 (wwA w1 (wwA w2 (wwA w3 w4))))))))))))
    repeat' first | refine wSq fun _ hK => ?_ | refine ww1 ?_ | (refine wK ?_; clear hK) | (simp only [wHb, reduceCtorEq] at hb <;> try (exfalso; omega)) | refine wCd (fun hb => ?_) fun hb => ?_ | refine ww3 ?_ | refine ww4 ?_ | refine wGd (fun hb => ?_) fun hb => ?_ | exact trivial
    refine Qcj (i + 1, rows.set i (Qyp (k + 4 * (i : Nat))).enc) ⟨by simp only; omega, by simpa using hlen, fun j hj => ?_, fun j hj => ?_⟩ (by simp only; omega) ?_ ?_ (by simpa using hB)
    · simp only at hj ⊢
      rcases Nat.lt_or_ge j i with h | h
      · rw [List.getElem?_set_ne (by omega)]; exact hdone j h
      · obtain rfl : j = i := by omega
        simp [hli]
    · simp only at hj ⊢
      rw [List.getElem?_set_ne (by omega)]
      exact hrest j (by omega)
    · simp [Qbo, tmL, w0]
    · simp [Qbd, hpL, Qyp, EventD.enc]
  · obtain rfl : i = es.length := by omega
    have hrows : rows = Qa0 (Qje k es.length) := by
      refine List.ext_getElem? fun j => ?_
      rcases Nat.lt_or_ge j es.length with h | h
      · rw [hdone j h, Qi7 (Qtk h)]
        rfl
      · rw [List.getElem?_eq_none (by omega), List.getElem?_eq_none (by rw [Qas, Qgf]; omega)]
    have F := wwA @Qas hlen
    repeat' first | refine wSq fun _ hK => ?_ | refine ww1 ?_ | (refine wK ?_; clear hK) | (simp only [wHb, reduceCtorEq] at hb <;> try (exfalso; omega)) | refine wCd (fun hb => ?_) fun hb => ?_ | refine ww3 ?_ | refine ww4 ?_ | refine wGd (fun hb => ?_) fun hb => ?_ | exact trivial
    exact Qh6 (by simp only [go_sem]) rfl (by simp only [go_sem]) rfl hrows
theorem Qqp (n : Nat) (k : Int) (h0 : 0 ≤ k) (h1 : k ≤ 1099511627776) (hl : n ≤ 1099511627776) :
    SatP Tryz.prog 27 [.fr 86 (Qa0 (Qje k n)), .int .i64 k] (.int .i64 (k + 4 * n)) [] := by
  refine wEp Tryz.func27 [.tmp 4] 49 fun E hE => ?_
  have F := wwA @Qas @Qgf
  repeat' first | refine wSq fun _ hK => ?_ | refine ww1 ?_ | (refine wK ?_; clear hK) | (simp only [wHb, reduceCtorEq] at hb <;> try (exfalso; omega)) | refine wCd (fun hb => ?_) fun hb => ?_ | refine ww3 ?_ | refine ww4 ?_ | refine wGd (fun hb => ?_) fun hb => ?_ | exact trivial
  refine Qa4 (X := Nat) (fun i => [(0, .fr 86 (Qa0 (Qje k n))), (1, .int .i64 (k + 4 * (i : Nat))), (5, .int .i64 i)]) (fun _ => []) (fun i => n - i)
    (fun i => i ≤ n) 0 0 (by simp) (by simp [Qbo]) (by simp) (by simp) ?_
  rintro i nx hi hB
  rcases Nat.lt_or_ge i n with hlt | hge
  · have hre := Qi7 (Qtk (k := k) hlt)
    simp only [Qyp] at hre
    have a2 : k + 4 * (i : Nat) + 1 + 1 = k + 4 * (i : Nat) + 2 := by omega
    have a3 : k + 4 * (i : Nat) + 2 + 1 = k + 4 * (i : Nat) + 3 := by omega
    have a4 : k + 4 * (i : Nat) + 3 + 1 = k + 4 * ((i + 1 : Nat) : Int) := by omega
    have w1 := Qax (x := k + 4 * (i : Nat) + 1) (by omega)
    have w2 := Qax (x := k + 4 * (i : Nat) + 2) (by omega)
    have w3 := Qax (x := k + 4 * (i : Nat) + 3) (by omega)
    have w4 := Qax (x := k + 4 * ((i + 1 : Nat) : Int)) (by omega)
    have w0 := Qax (x := (i : Int) + 1) (by omega)
    have F := wwA @Qas (wwA @Qgf (wwA hre (wwA a2 (wwA a3 (wwA a4 (wwA w0 (wwA w1 (wwA w2 (wwA w3 (wwA w4 @bne_self_eq_false.{0}))))))))))
    repeat' first | refine wSq fun _ hK => ?_ | refine ww1 ?_ | (refine wK ?_; clear hK) | (simp only [wHb, reduceCtorEq] at hb <;> try (exfalso; omega)) | refine wCd (fun hb => ?_) fun hb => ?_ | refine ww3 ?_ | refine ww4 ?_ | refine wGd (fun hb => ?_) fun hb => ?_ | exact trivial
    refine Qcj (i + 1) (by omega) (by omega) ?_ (by simp) (by simp)
    simp [Qbo, tmL, w0]
  · obtain rfl : i = n := by omega
    have F := wwA @Qas @Qgf
    repeat' first | refine wSq fun _ hK => ?_ | refine ww1 ?_ | (refine wK ?_; clear hK) | (simp only [wHb, reduceCtorEq] at hb <;> try (exfalso; omega)) | refine wCd (fun hb => ?_) fun hb => ?_ | refine ww3 ?_ | refine ww4 ?_ | refine wGd (fun hb => ?_) fun hb => ?_ | exact trivial
    refine wLf ?_
    rfl
end Go.Proofs.YtmiojnibngncaaaGreat
namespace Go.Proofs.YtmiojnibngncaaaGreat
open Go Go.RowKit
set_option linter.unusedVariables false
set_option linter.unusedSimpArgs false
section
variable {E : Env} {rest : List Oper} {K : St → Prop} {tm : Nat → VV} {H : Qbi} {nx N : Nat} {lim : Option Nat} {s : St}
theorem wOq {f : FuncId} {args args' : List VV} {dd : Nat} {v : VV} {O I : List Ent} (σ : List Nat) (c : SatO Tryz.prog f args' I v O) (k : K ⟨Qbo dd (bkV σ nx v) tm, Qqx (bkE σ nx) σ nx O H, nx + (O.length - σ.length), N, none⟩)
    (ha : args.map (Qpj σ H) = args' := by (simp only [go_sem, F, Qnd, Qlk] <;> try rfl) <;> fail) (hI : (σ.map fun T => Qeq σ H (H T)) = I := by (simp only [go_sem, F] <;> try rfl) <;> fail) (hn : σ.Nodup := by simp)
    (h1 : ∀ T ∈ σ, Qew σ H (H T) := by (simp only [go_sem, F, List.mem_cons, List.not_mem_nil, or_false, forall_eq_or_imp, forall_eq, Qew, Qd0] <;> try simp) <;> fail) (h2 : ∀ x ∈ args, Qhl σ H x := by (simp only [go_sem, F, List.mem_cons, List.not_mem_nil, or_false, forall_eq_or_imp, forall_eq, Qhl, Qd0, Qgm, Qdm] <;> try simp) <;> fail) (hd : dd < N := by decide) :
    Qbj Tryz.prog f args ⟨tm, H, nx, N, none⟩ (some dd) K := Xc3 σ hn h1 h2 ha hI c hd k
theorem Qiz {f : FuncId} {args args' : List VV} {dd : Nat} {v : VV} {O I : List Ent} (σ : List Nat) (c : SatO Tryz.prog f args' I v O) (k : K ⟨Qbo dd (bkV σ nx v) tm, Qqx (bkE σ nx) σ nx O H, nx + (O.length - σ.length), N, none⟩)
    (ha : args.map (Qpj σ H) = args' := by (simp only [go_sem, Int.reduceBEq, Int.reduceBNe, Int.reduceLT, Int.reduceLE, Int.reduceAdd, Int.reduceToNat, F, Qnd, Qlk] <;> try rfl) <;> fail) (hI : (σ.map fun T => Qeq σ H (H T)) = I := by (simp only [go_sem, Int.reduceBEq, Int.reduceBNe, Int.reduceLT, Int.reduceLE, Int.reduceAdd, Int.reduceToNat, F] <;> try rfl) <;> fail) (hn : σ.Nodup := by simp)
    (h1 : ∀ T ∈ σ, Qew σ H (H T) := by (simp only [go_sem, Int.reduceBEq, Int.reduceBNe, Int.reduceLT, Int.reduceLE, Int.reduceAdd, Int.reduceToNat, F, List.mem_cons, List.not_mem_nil, or_false, forall_eq_or_imp, forall_eq, Qew, Qd0] <;> try simp) <;> fail) (h2 : ∀ x ∈ args, Qhl σ H x := by (simp only [go_sem, Int.reduceBEq, Int.reduceBNe, Int.reduceLT, Int.reduceLE, Int.reduceAdd, Int.reduceToNat, F, List.mem_cons, List.not_mem_nil, or_false, forall_eq_or_imp, forall_eq, Qhl, Qd0, Qgm, Qdm] <;> try simp) <;> fail) (hd : dd < N := by decide) :
    Qbj Tryz.prog f args ⟨tm, H, nx, N, none⟩ (some dd) K := Xc3 σ hn h1 h2 ha hI c hd k
end
end Go.Proofs.YtmiojnibngncaaaGreat
