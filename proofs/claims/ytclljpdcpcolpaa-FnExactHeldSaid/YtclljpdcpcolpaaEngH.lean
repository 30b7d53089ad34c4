/- The value-level engine, eighth part: what stays true when the world grows or a variable is written. -/
import Derived.Test.YtclljpdcpcolpaaEngG
namespace Go.Proofs.Ytclljpdcpcolpaa
open Go Go.RowKit
set_option linter.unusedVariables false
set_option linter.unusedSimpArgs false

section
variable {P : Program} {E : Env} {g g' : Gh} {H H' : Heap} {w w' : World}

theorem HLe.refl (g : Gh) (H : Heap) : HLe g H g H := ⟨fun _ h => h, fun _ _ _ _ h => ⟨_, h⟩, fun _ _ h => h, fun _ _ _ => rfl, fun _ _ _ => rfl⟩


theorem HLe.isRoot (h : HLe g H g' H') {T : Nat} (hT : g.sn T = true) (hr : (H' T).isRoot = true) : (H T).isRoot = true := by
  obtain ⟨e, rows, he⟩ := isRoot_spec hr
  obtain ⟨rows', h'⟩ := h.root T e rows hT he
  simp [h', Ent.isRoot]

theorem HLe.trans {g g' g'' : Gh} {H H' H'' : Heap} (h : HLe g H g' H') (k : HLe g' H' g'' H'') : HLe g H g'' H'' := by
  refine ⟨fun T hT => k.sn T (h.sn T hT), fun T e rows hT hr => ?_, fun T hT hr => ?_, fun T hT hr => ?_, fun T hT hr => ?_⟩
  · obtain ⟨r1, h1⟩ := k.root T e rows (h.sn T hT) hr
    exact h.root T e r1 hT h1
  · exact h.live T hT (k.live T (h.sn T hT) hr)
  · have h1 := k.isRoot (h.sn T hT) hr
    exact (k.hd T (h.sn T hT) hr).trans (h.hd T hT h1)
  · have h1 := k.live T (h.sn T hT) hr
    exact (k.bx T (h.sn T hT) hr).trans (h.bx T hT h1)

theorem crel_mono (h : HLe g H g' H') {x : VV} {v : Value} (hx : CRel P E H g x v) : CRel P E H' g' x v := by
  cases x <;> try exact hx
  case rf T n =>
    obtain ⟨h1, h0', h2⟩ := hx
    exact ⟨h.sn _ h1, h0', fun hr => by rw [h.hd T h1 hr]; exact h2 (h.isRoot h1 hr)⟩
  case bp T j =>
    obtain ⟨h1, h0', h2⟩ := hx
    exact ⟨h.sn _ h1, h0', fun hr => by rw [h.bx T h1 hr]; exact h2 (h.live T h1 hr)⟩
  case bs T j n e =>
    obtain ⟨h1, h0', h3, h2⟩ := hx
    exact ⟨h.sn _ h1, h0', h3, fun hr => by rw [h.bx T h1 hr]; exact h2 (h.live T h1 hr)⟩
  case np T i j =>
    obtain ⟨h1, h0', h2⟩ := hx
    refine ⟨h.sn _ h1, h0', fun e rows hr => ?_⟩
    obtain ⟨rows0, h0⟩ := h.root T e rows h1 hr
    obtain ⟨b, n, c, h3, h4⟩ := h2 e rows0 h0
    exact ⟨b, n, c, by rw [h.hd T h1 (by simp [hr, Ent.isRoot])]; exact h3, h4⟩
  case clo f caps =>
    obtain ⟨cs, h1, h2, h3⟩ := hx
    refine ⟨cs, h1, h2, fun j c u hc hu => ?_⟩
    have := h3 j c u hc hu
    cases c <;> try exact this
    case bp T j =>
      obtain ⟨k1, k2, k3⟩ := this
      exact ⟨h.sn _ k1, k2, fun hr => by rw [h.bx _ k1 hr]; exact k3 (h.live _ k1 hr)⟩

theorem arel_eq {x : VV} {v : Value} (h : ∀ vs, x ≠ .agg vs) : ARel P E H g x v = CRel P E H g x v := by
  cases x <;> first | rfl | exact absurd rfl (h _)
theorem vrel_eq {x : VV} {v : Value} (h : ∀ vs, x ≠ .tup vs) : VRel P E H g x v = ARel P E H g x v := by
  cases x <;> first | rfl | exact absurd rfl (h _)

theorem arel_mono (h : HLe g H g' H') {x : VV} {v : Value} (hx : ARel P E H g x v) : ARel P E H' g' x v := by
  by_cases ha : ∃ vs, x = .agg vs
  · obtain ⟨vs, rfl⟩ := ha
    obtain ⟨cs, h1, h2, h3⟩ := hx
    exact ⟨cs, h1, h2, fun j c u hj hu => crel_mono h (h3 j c u hj hu)⟩
  · rw [arel_eq (fun vs e => ha ⟨vs, e⟩)] at hx ⊢
    exact crel_mono h hx

theorem vrel_mono (h : HLe g H g' H') {x : VV} {v : Value} (hx : VRel P E H g x v) : VRel P E H' g' x v := by
  by_cases ha : ∃ vs, x = .tup vs
  · obtain ⟨vs, rfl⟩ := ha
    obtain ⟨cs, h1, h2, h3⟩ := hx
    exact ⟨cs, h1, h2, fun j c u hj hu => arel_mono h (h3 j c u hj hu)⟩
  · rw [vrel_eq (fun vs e => ha ⟨vs, e⟩)] at hx ⊢
    exact arel_mono h hx

theorem ocell_mono (h : HLe g H g' H') {c : PT} {x u : Value} (ho : ocell H g c x u) : ocell H' g' c x u := by
  cases c <;> try exact ho
  case ref T n =>
    obtain ⟨h1, h0', h2⟩ := ho
    exact ⟨h.sn _ h1, h0', fun hr => by rw [h.hd T h1 hr]; exact h2 (h.isRoot h1 hr)⟩

/-- A slice that nobody has touched. -/
theorem node_mono (h : HLe g H g' H') {T : Nat} {p : Path} {e : TypeId} {rows : List (List PT)} (hn : NodeOK P E H g w T p e rows)
    (hhd : ∀ q, g'.hd T q = g.hd T q) (hown : ∀ b, b < w.heap.size → g.own b = some (T, p) → g'.own b = some (T, p)) (hw : ∀ b, b < w.heap.size → g.own b = some (T, p) → w'.heap[b]? = w.heap[b]?) : NodeOK P E H' g' w' T p e rows := by
  rcases hn with ⟨h1, h2⟩ | ⟨b, cap, cur, h1, h2, h3, h4, h5, h6, h7, h8⟩
  · exact .inl ⟨by rw [hhd]; exact h1, h2⟩
  · have hlt : b < w.heap.size := (Array.getElem?_eq_some_iff.1 h4).1
    refine .inr ⟨b, cap, cur, by rw [hhd]; exact h1, hown b hlt h2, h3, by rw [hw b hlt h2]; exact h4, h5, h6, h7, fun i r hr => ?_⟩
    obtain ⟨h9, h10⟩ := h8 i r hr
    refine ⟨h9, fun j c hc => ?_⟩
    obtain ⟨u, h11, h12⟩ := h10 j c hc
    exact ⟨u, h11, by rw [hhd]; exact ocell_mono h h12⟩

/-- A variable that nobody has touched. -/
theorem box_mono (h : HLe g H g' H') {T : Nat} {cs : List VV} (hb : BoxOK P E H g w T cs) (hbx : g'.bx T = g.bx T) (hown : g.own (g.bx T).1 = none → g'.own (g.bx T).1 = none)
    (hob : ∀ o j, g.ob (g.bx T).1 o = some (T, j) → g'.ob (g.bx T).1 o = some (T, j))
    (hw : ∀ cur e, w.heap[(g.bx T).1]? = some (.cells cur e (0, 0)) → ∃ cur', w'.heap[(g.bx T).1]? = some (.cells cur' e (0, 0)) ∧ ∀ o j, g.ob (g.bx T).1 o = some (T, j) → cur'[o]? = cur[o]?) :
    BoxOK P E H' g' w' T cs := by
  obtain ⟨cur, e, h1, h2, h3⟩ := hb
  obtain ⟨cur', h4, h5⟩ := hw cur e h1
  refine ⟨cur', e, by rw [hbx]; exact h4, by rw [hbx]; exact hown h2, fun j c hj => ?_⟩
  obtain ⟨h6, h7, u, h8, h9⟩ := h3 j c hj
  rw [hbx]
  exact ⟨hob _ _ h6, h7, u, by rw [h5 _ _ h6]; exact h8, crel_mono h h9⟩

/-! ### The frame -/
theorem Frm.refl (E : Env) : Frm E E.w0 := ⟨rfl, rfl, rfl, Nat.le_refl _, fun b c e fz h => ⟨c, h, rfl, fun _ _ => rfl⟩, fun b x h _ => h⟩

/-- A step that turns no block that was there, but those that are the call's own. -/
theorem Frm.step (h : Frm E w) (os : w'.os = w.os) (tape : w'.tape = w.tape) (output : w'.output = w.output) (size : w.heap.size ≤ w'.heap.size)
    (hb : ∀ b, b < E.w0.heap.size → w'.heap[b]? = w.heap[b]? ∨ ∃ c e c' , w.heap[b]? = some (.cells c e (0, 0)) ∧ w'.heap[b]? = some (.cells c' e (0, 0)) ∧ c'.size = c.size ∧ ∀ o, ¬ E.own b o → c'[o]? = c[o]?) : Frm E w' := by
  refine ⟨os.trans h.os, tape.trans h.tape, output.trans h.output, Nat.le_trans h.size size, fun b c e fz hc => ?_, fun b x hx hn => ?_⟩
  · have hlt : b < E.w0.heap.size := (Array.getElem?_eq_some_iff.1 hc).1
    obtain ⟨c1, h1, h2, h3⟩ := h.cells b c e fz hc
    rcases hb b hlt with h4 | ⟨c2, e2, c3, h4, h5, h6, h7⟩
    · exact ⟨c1, h4.trans h1, h2, h3⟩
    · rw [h1] at h4
      injection h4 with h4
      injection h4 with e1 e2 e3
      subst e1; subst e2; subst e3
      exact ⟨c3, h5, h6.trans h2, fun o ho => (h7 o ho).trans (h3 o ho)⟩
  · have hlt : b < E.w0.heap.size := (Array.getElem?_eq_some_iff.1 hx).1
    have h1 := h.other b x hx hn
    rcases hb b hlt with h4 | ⟨c2, e2, c3, h4, _⟩
    · exact h4.trans h1
    · rw [h1] at h4
      injection h4 with h4
      exact absurd h4 (hn _ _ _)

theorem Frm.alloc (h : Frm E w) (o : Obj) : Frm E (w.alloc o) :=
  h.step rfl rfl rfl (by simp) fun b hb => .inl (Below.heap_alloc w o b (by have := h.size; omega))
theorem Frm.drew (h : Frm E w) : Frm E w.drew := ⟨h.os, h.tape, h.output, h.size, h.cells, h.other⟩
theorem Frm.grown (h : Frm E w) {row : Option Nat} (hg : w.grownBy w' row) (hr : ∀ b, row = some b → E.w0.heap.size ≤ b) : Frm E w' :=
  h.step hg.os hg.tape hg.output hg.size fun b hb => .inl (hg.block b (by have := h.size; omega) (fun e => by have := hr b e.symm; omega))

theorem node_lt {T : Nat} {p : Path} {e : TypeId} {rows : List (List PT)} (hn : NodeOK P E H g w T p e rows) {b n c : Nat} {ad : Option Nat} (hh : g.hd T p = .slice (some ⟨b, 0, ad⟩) n c) : b < w.heap.size ∧ g.own b = some (T, p) := by
  rcases hn with ⟨h1, h2⟩ | ⟨b', cap, cur, h1, h2, h3, h4, _⟩
  · rw [hh] at h1; cases h1
  · rw [hh] at h1
    injection h1 with e1
    injection e1 with e1
    injection e1 with e1
    subst e1
    exact ⟨(Array.getElem?_eq_some_iff.1 h4).1, h2⟩

theorem HRel.drew (h : HRel P E g H w) : HRel P E g H w.drew := ⟨h.frm.drew, h.node, h.box, h.seen⟩

theorem dead_of (h : HRel P E g H w) {X : Nat} (hX : g.sn X = false) : H X = .dead := by
  cases hx : H X with
  | dead => rfl
  | _ => have := h.seen X (by simp [hx, Ent.live]); rw [hX] at this; cases this

/-! ### A new variable -/
def Gh.box (g : Gh) (X b : Nat) : Gh :=
  { g with bx := fun T => if T = X then (b, 0) else g.bx T, own := fun x => if x = b then none else g.own x, ob := fun x o => if x = b then some (X, o) else g.ob x o, sn := fun T => if T = X then true else g.sn T }

theorem hle_new {e : Ent} {X : Nat} (hX : g.sn X = false) {g' : Gh} (hn : ∀ T, g.sn T = true → g'.sn T = true) (hh : ∀ T p, T ≠ X → g'.hd T p = g.hd T p) (hb : ∀ T, T ≠ X → g'.bx T = g.bx T) : HLe g H g' (updH X e H) := by
  have ne : ∀ T, g.sn T = true → T ≠ X := fun T h => by rintro rfl; rw [hX] at h; cases h
  refine ⟨hn, fun T e' rows hT h => ?_, fun T hT h => ?_, fun T hT _ => hh T [] (ne T hT), fun T hT _ => hb T (ne T hT)⟩
  · rw [updH_ne _ _ (ne T hT)] at h; exact ⟨rows, h⟩
  · rwa [updH_ne _ _ (ne T hT)] at h

theorem seen_new (h : HRel P E g H w) {X : Nat} {e : Ent} {g' : Gh} (hn : ∀ T, g.sn T = true → g'.sn T = true) (hX : g'.sn X = true) : ∀ T, (updH X e H T).live = true → g'.sn T = true := by
  intro T hT
  by_cases c : T = X
  · subst c; exact hX
  · rw [updH_ne _ _ c] at hT; exact hn T (h.seen T hT)

theorem hrel_box (h : HRel P E g H w) {X : Nat} (hX : g.sn X = false) (vs : List VV) (cs : List Value) (e : TypeId) (hl : cs.length = vs.length)
    (hc : ∀ (j : Nat) (c : VV) (u : Value), vs[j]? = some c → cs[j]? = some u → CRel P E H g c u) :
    HRel P E (g.box X w.heap.size) (updH X (.box vs) H) (w.alloc (.cells cs.toArray e)) ∧ HLe g H (g.box X w.heap.size) (updH X (.box vs) H) := by
  have hsn : ∀ T, g.sn T = true → (g.box X w.heap.size).sn T = true := fun T hT => by simp [Gh.box, hT]
  have hle : HLe g H (g.box X w.heap.size) (updH X (.box vs) H) :=
    hle_new hX hsn (fun T p hT => rfl) (fun T hT => by simp [Gh.box, hT])
  refine ⟨⟨h.frm.alloc _, fun T e' rows hT p e2 rows2 hp => ?_, fun T cs' hT => ?_, seen_new h hsn (by simp [Gh.box])⟩, hle⟩
  · have hne : T ≠ X := by rintro rfl; rw [updH_same] at hT; cases hT
    rw [updH_ne _ _ hne] at hT
    have hn := h.node T e' rows hT p e2 rows2 hp
    refine node_mono hle hn (fun q => rfl) (fun b hlt hb => ?_) (fun b hlt hb => Below.heap_alloc w _ b hlt)
    have : b ≠ w.heap.size := by omega
    simp [Gh.box, this, hb]
  · by_cases hne : T = X
    · subst hne
      rw [updH_same] at hT
      injection hT with hT
      subst hT
      refine ⟨cs.toArray, e, by simp only [Gh.box, if_true]; exact heap_alloc_new w _, by simp [Gh.box], fun j c hj => ?_⟩
      have hlt : j < cs.length := by
        rcases Nat.lt_or_ge j vs.length with h' | h'
        · omega
        · rw [List.getElem?_eq_none h'] at hj; cases hj
      refine ⟨by simp [Gh.box], .inl (by simp only [Gh.box, if_true]; exact h.frm.size), cs[j], by simp [Gh.box, hlt], ?_⟩
      exact crel_mono hle (hc j c _ hj (List.getElem?_eq_getElem hlt))
    · rw [updH_ne _ _ hne] at hT
      have hb := h.box T cs' hT
      have hlt : (g.bx T).1 < w.heap.size := by
        obtain ⟨cur, e1, h1, _⟩ := hb
        exact (Array.getElem?_eq_some_iff.1 h1).1
      have hx : (g.box X w.heap.size).bx T = g.bx T := by simp [Gh.box, hne]
      refine box_mono hle hb hx (fun hh => ?_) (fun o j hj => ?_) (fun cur e1 he => ⟨cur, ?_, fun _ _ _ => rfl⟩)
      · have : (g.bx T).1 ≠ w.heap.size := by omega
        simp [Gh.box, this, hh]
      · have : (g.bx T).1 ≠ w.heap.size := by omega
        simp [Gh.box, this, hj]
      · rw [Below.heap_alloc w _ _ hlt]; exact he
end
end Go.Proofs.Ytclljpdcpcolpaa
