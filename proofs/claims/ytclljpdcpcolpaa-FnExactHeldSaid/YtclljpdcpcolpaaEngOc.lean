/- The value-level engine, fifteenth part, c: calls of functions that turn what they are handed. -/
import Derived.Test.YtclljpdcpcolpaaEngOb
namespace Go.Proofs.Ytclljpdcpcolpaa
open Go Go.RowKit
set_option linter.unusedVariables false
set_option linter.unusedSimpArgs false

def HpE (l : List Ent) : Heap := fun T => (l[T]?).getD .dead

/-- The place of a token among those that are handed over. -/
def idx : List Nat → Nat → Option Nat
  | [], _ => none
  | X :: σ, T => if T = X then some 0 else (idx σ T).map (· + 1)

theorem idx_some : ∀ {σ : List Nat} {T k : Nat}, idx σ T = some k → σ[k]? = some T
  | [], T, k, h => by cases h
  | X :: σ, T, k, h => by
    simp only [idx] at h
    split at h
    · rename_i e
      injection h with h
      subst h
      subst e
      rfl
    · cases hi : idx σ T with
      | none => rw [hi] at h; cases h
      | some m =>
        rw [hi] at h
        simp only [Option.map_some, Option.some.injEq] at h
        subst h
        rw [List.getElem?_cons_succ]
        exact idx_some hi
theorem idx_get : ∀ {σ : List Nat} (hn : σ.Nodup) {T k : Nat}, σ[k]? = some T → idx σ T = some k
  | [], _, T, k, h => by simp at h
  | X :: σ, hn, T, 0, h => by
    simp only [List.getElem?_cons_zero, Option.some.injEq] at h
    subst h
    simp [idx]
  | X :: σ, hn, T, k + 1, h => by
    simp only [List.getElem?_cons_succ] at h
    rw [List.nodup_cons] at hn
    have hne : T ≠ X := fun hh => hn.1 (hh ▸ List.mem_of_getElem? h)
    simp only [idx, if_neg hne, idx_get hn.2 h, Option.map_some]
theorem idx_none : ∀ {σ : List Nat} {T : Nat}, idx σ T = none → T ∉ σ
  | [], T, h => by simp
  | X :: σ, T, h => by
    simp only [idx] at h
    split at h
    · cases h
    · rename_i e
      cases hi : idx σ T with
      | some m => rw [hi] at h; cases h
      | none =>
        have := idx_none hi
        simp [e, this]
theorem idx_mem {σ : List Nat} {T : Nat} (h : T ∈ σ) : ∃ k, idx σ T = some k := by
  cases hi : idx σ T with
  | some k => exact ⟨k, rfl⟩
  | none => exact absurd h (idx_none hi)
theorem idx_notMem {σ : List Nat} {T : Nat} (h : T ∉ σ) : idx σ T = none := by
  cases hi : idx σ T with
  | none => rfl
  | some k => exact absurd (List.mem_of_getElem? (idx_some hi)) h

def hid (σ : List Nat) : VV → Bool
  | .rf T _ => (idx σ T).isNone
  | _ => true
/-- A value as such a call is handed it. -/
def viewC (σ : List Nat) (H : Heap) (x : VV) : VV :=
  match x with
  | .rf T n => match idx σ T with
    | some k => .rf k n
    | none => frzC H (.rf T n)
  | .bp T j => match idx σ T with
    | some k => .bp k j
    | none => frzBox H T j
  | .nl e => .nl e
  | x => frzC H x
def viewA (σ : List Nat) (H : Heap) : VV → VV
  | .agg vs => .agg (vs.map (viewC σ H))
  | x => viewC σ H x
def capHid (σ : List Nat) (H : Heap) : VV → Prop
  | .bp T j => idx σ T = none ∧ (match H T with
    | .box cs => (cs.drop j).all (hid σ) = true
    | _ => True)
  | _ => True
def viewOkC (σ : List Nat) (H : Heap) (x : VV) : Prop :=
  match x with
  | .rf T n => match idx σ T with
    | some _ => True
    | none => frzOkC H (.rf T n)
  | .bp T j => match idx σ T with
    | some _ => True
    | none => frzOkC H (.bp T j) ∧ (match H T with
      | .box cs => (cs.drop j).all (hid σ) = true
      | _ => True)
  | .bs T j n e => idx σ T = none ∧ frzOkC H (.bs T j n e)
  | .clo _ caps => ∀ c ∈ caps, capsOk H c ∧ capHid σ H c
  | .np .. | .agg _ | .tup _ => False
  | _ => True
def viewOk (σ : List Nat) (H : Heap) : VV → Prop
  | .agg vs => ∀ x ∈ vs, viewOkC σ H x
  | x => viewOkC σ H x
def viewE (σ : List Nat) (H : Heap) : Ent → Ent
  | .box cs => .box (cs.map (viewC σ H))
  | x => x
def viewOkE (σ : List Nat) (H : Heap) : Ent → Prop
  | .dead => False
  | .root _ rows => PurRows rows
  | .box cs => ∀ x ∈ cs, viewOkC σ H x

def outE : VV → Bool
  | .int _ _ | .bool _ | .str _ | .rf _ _ | .err _ | .any | .nl _ => true
  | _ => false
/-- What comes of what was handed over. -/
def keptOk : Ent → Ent → Prop
  | _, .dead => True
  | .root e _, .root e' rows => e' = e ∧ PurRows rows
  | .box cs, .box cs' => cs'.length = cs.length ∧ cs'.all outE = true
  | _, _ => False
def newOk : Ent → Prop
  | .root _ rows => PurRows rows
  | _ => False

/-- What a function gives, and what becomes of what it is handed. -/
structure SatO (P : Program) (f : FuncId) (args : List VV) (I : List Ent) (v : VV) (O : List Ent) : Prop where
  fn : ∃ fn, P.funcs[f]? = some fn ∧ (fn.name == "runtime.NumGoroutine") = false ∧ fn.body.isNone = false
  out : outV v = true
  len : I.length ≤ O.length
  kept : ∀ (k : Nat) (x y : Ent), I[k]? = some x → O[k]? = some y → keptOk x y
  new : ∀ (k : Nat) (y : Ent), I.length ≤ k → O[k]? = some y → newOk y
  run : ∀ (E : Env) (g : Gh) (w : World) (vals : List Value), E.w0 = w → HRel P E g (HpE I) w → (∀ T, I.length ≤ T → g.sn T = false) → vals.length = args.length →
    (∀ (j : Nat) (x : VV) (u : Value), args[j]? = some x → vals[j]? = some u → ARel P E (HpE I) g x u) →
    Calls P f vals.toArray w fun e w' => ∃ val g', e = .returned val ∧ HRel P E g' (HpE O) w' ∧ (∀ T, O.length ≤ T → g'.sn T = false) ∧ HLe g (HpE I) g' (HpE O) ∧ VRel P E (HpE O) g' v val

/-- The cells that such a call may write. -/
def ownR (σ : List Nat) (H : Heap) (g : Gh) (b o : Nat) : Prop :=
  (∃ T ∈ σ, ∃ e rows p e' rows' n c, H T = .root e rows ∧ At p (.list e rows) = some (e', rows') ∧ g.hd T p = .slice (some ⟨b, 0, none⟩) n c) ∨
  ∃ T ∈ σ, ∃ cs j, H T = .box cs ∧ j < cs.length ∧ b = (g.bx T).1 ∧ o = (g.bx T).2 + j
def callEnv (σ : List Nat) (H : Heap) (g : Gh) (w : World) : Env := ⟨w, ownR σ H g, fun _ _ => True, fun _ _ _ _ _ _ => trivial⟩
def Gh.call (g : Gh) (σ : List Nat) : Gh :=
  { hd := fun k p => match σ[k]? with
      | some T => g.hd T p
      | none => undef
    bx := fun k => match σ[k]? with
      | some T => g.bx T
      | none => (0, 0)
    own := fun b => match g.own b with
      | some (T, p) => (idx σ T).map fun k => (k, p)
      | none => none
    ob := fun b o => match g.ob b o with
      | some (T, j) => (idx σ T).map fun k => (k, j)
      | none => none
    sn := fun k => decide (k < σ.length) }

section
variable {P : Program} {E : Env} {g g' : Gh} {H : Heap} {s : St} {a : Act} {w w' : World} {ty : Ty} {σ : List Nat}

theorem ownR_cases (h : HRel P E g H w) {b o : Nat} (ho : ownR σ H g b o) :
    (∃ T ∈ σ, ∃ p, g.own b = some (T, p) ∧ (E.w0.heap.size ≤ b ∨ ∀ o, E.own b o) ∧ ∃ cur e, w.heap[b]? = some (.cells cur e (0, 0))) ∨
    ∃ T ∈ σ, ∃ j, g.own b = none ∧ g.ob b o = some (T, j) ∧ (E.w0.heap.size ≤ b ∨ E.own b o) ∧ ∃ cur e, w.heap[b]? = some (.cells cur e (0, 0)) := by
  rcases ho with ⟨T, hT, e, rows, p, e', rows', n, c, h1, h2, h3⟩ | ⟨T, hT, cs, j, h1, h2, rfl, rfl⟩
  · rcases h.node T e rows h1 p e' rows' h2 with ⟨k1, _⟩ | ⟨b', cap, cur, k1, k2, k3, k4, _⟩
    · rw [h3] at k1; cases k1
    · rw [h3] at k1
      injection k1 with k1
      injection k1 with k1
      injection k1 with k1
      subst k1
      exact .inl ⟨T, hT, p, k2, k3, cur, _, k4⟩
  · obtain ⟨cur, e, k1, k2, k3⟩ := h.box T cs h1
    obtain ⟨k4, k5, _⟩ := k3 j cs[j] (List.getElem?_eq_getElem h2)
    exact .inr ⟨T, hT, j, k2, k4, k5, cur, e, k1⟩

theorem nown_rd (h : HRel P E g H w) {b o : Nat} {u : Value} (hr : E.rd b o u) : ¬ ownR σ H g b o := by
  intro ho
  obtain ⟨h1, h2, _⟩ := hr
  rcases ownR_cases h ho with ⟨T, _, p, _, k, _⟩ | ⟨T, _, j, _, _, k, _⟩
  · rcases k with k | k
    · omega
    · exact h2 (k o)
  · rcases k with k | k
    · omega
    · exact h2 k

theorem nown_rt (h : HRel P E g H w) {X : Nat} (hX : X ∉ σ) {p : Path} {b : Nat} (hb : g.own b = some (X, p)) (o : Nat) : ¬ ownR σ H g b o := by
  intro ho
  rcases ownR_cases h ho with ⟨T, hT, q, k, _⟩ | ⟨T, hT, j, k, _⟩
  · rw [hb] at k
    injection k with k
    injection k with k _
    exact hX (k ▸ hT)
  · rw [hb] at k; cases k

theorem nown_bx (h : HRel P E g H w) {X : Nat} (hX : X ∉ σ) {b o j : Nat} (h0 : g.own b = none) (hb : g.ob b o = some (X, j)) : ¬ ownR σ H g b o := by
  intro ho
  rcases ownR_cases h ho with ⟨T, hT, q, k, _⟩ | ⟨T, hT, j', _, k, _⟩
  · rw [h0] at k; cases k
  · rw [hb] at k
    injection k with k
    injection k with k _
    exact hX (k ▸ hT)

/-! ### What is handed over reads as it did -/
theorem rdO_frame (h : HRel P E g H w) {x : PT} {v : Value} (hr : Rd P E x v) : Rd P (callEnv σ H g w) x v := by
  cases x <;> try exact hr
  case list e rows =>
    obtain ⟨fh, h0, h1⟩ := hr
    refine ⟨fh, h0, fun p e' rows' hp => ?_⟩
    obtain ⟨A, cap, h2, h3, h4, h5⟩ := h1 p e' rows' hp
    refine ⟨A, cap, h2, h3, h4, ?_⟩
    rcases h5 with h5 | ⟨b, o, h5, h6⟩
    · exact .inl h5
    · refine .inr ⟨b, o, h5, fun i r hr => ?_⟩
      obtain ⟨h7, h8⟩ := h6 i r hr
      refine ⟨h7, fun j c hc => ?_⟩
      obtain ⟨u, h9, h10⟩ := h8 j c hc
      exact ⟨u, ⟨Nat.lt_of_lt_of_le h9.1 h.frm.size, nown_rd h h9, rd_cell h.frm h9⟩, h10⟩

theorem rdO_root (h : HRel P E g H w) {T : Nat} (hσ : T ∉ σ) {e : TypeId} {rows : List (List PT)} (hT : H T = .root e rows) (hp : PurRows rows) {n : Nat} (hn : n ≤ rows.length) : Rd P (callEnv σ H g w) (.list e (rows.take n)) (cutv n (g.hd T [])) := by
  obtain ⟨fh, h0, h1⟩ := rd_root h hT hp hn
  -- the same headers, read by this call: the blocks are T's
  have node : ∀ p e' rows', At p (.list e rows) = some (e', rows') → ∀ m, m ≤ rows'.length → RdNode P (callEnv σ H g w) e' (rows'.take m) (fun i j => g.hd T (p ++ [(i, j)])) (cutv m (g.hd T p)) := by
    intro p e' rows' hat m hm
    have hpur : PurRows rows' := pur_at p (.list e rows) (.list _ _ hp) e' rows' hat
    have hlen : (rows'.take m).length = m := by simp; omega
    rcases h.node T e rows hT p e' rows' hat with ⟨h1, h2⟩ | ⟨b, cap, cur, h1, h2, h3, h4, h5, h6, h7, h8⟩
    · subst h2
      simp at hm
      subst hm
      exact ⟨none, 0, by rw [h1]; rfl, by simp, by simp [maxLen], .inl (by simp)⟩
    · refine ⟨_, cap, by rw [h1, hlen]; rfl, by rw [hlen]; omega, h6, .inr ⟨b, 0, rfl, fun i r hr => ?_⟩⟩
      rw [List.getElem?_take] at hr
      split at hr
      · obtain ⟨h9, h10⟩ := h8 i r hr
        refine ⟨h9, fun j c hc => ?_⟩
        obtain ⟨u, h11, h12⟩ := h10 j c hc
        refine ⟨u, ⟨(Array.getElem?_eq_some_iff.1 h4).1, nown_rt h hσ h2 _, ?_⟩, fcell_of_ocell (hpur r (List.mem_of_getElem? hr) c (List.mem_of_getElem? hc)) h12⟩
        rw [Nat.zero_add]
        exact cell_of_heap h4 h11
      · cases hr
  refine ⟨fun p => if p = [] then cutv n (g.hd T []) else g.hd T p, by simp, fun p e' rows' hat => ?_⟩
  cases p with
  | nil =>
    simp only [At, Option.some.injEq, Prod.mk.injEq] at hat
    obtain ⟨rfl, rfl⟩ := hat
    have := node [] e rows rfl n hn
    simpa using this
  | cons x q =>
    have hat' := At_take hat
    have h1 := node _ e' rows' hat' rows'.length (Nat.le_refl _)
    rw [List.take_length] at h1
    have h2 : cutv rows'.length (g.hd T (x :: q)) = g.hd T (x :: q) := by
      rcases h.node T e rows hT _ e' rows' hat' with ⟨h1, h2⟩ | ⟨b, cap, cur, h1, _⟩
      · rw [h1, h2]; rfl
      · rw [h1]; rfl
    rw [h2] at h1
    simpa using h1

theorem ptO_rel (h : HRel P E g H w) {x : VV} {u : Value} (hx : CRel P E H g x u) (hok : ptOk H x) (hh : hid σ x = true) : Rd P (callEnv σ H g w) (x.pt H) u := by
  cases x with
  | nl e => have hx : u = .slice none 0 0 := hx; subst hx; exact rd_nil
  | fr e rows => exact rdO_frame (x := .list e rows) h hx
  | rf T n =>
    simp only [ptOk] at hok
    split at hok
    · rename_i e rows hT
      obtain ⟨h1, h2⟩ := hok
      obtain ⟨_, _, hv⟩ := hx
      have hv := hv (by simp [hT, Ent.isRoot])
      simp only [VV.pt, hT]
      rw [hv]
      refine rdO_root h (idx_none ?_) hT h2 h1
      simpa [hid] using hh
    · exact hok.elim
  | int => exact hx
  | bool => exact hx
  | str => exact hx
  | _ => exact hok.elim

theorem fpO_frame (h : HRel P E g H w) {row : List PT} {v : Value} (hx : CapRel P E H g (.fp row) v) {H' : Heap} {g' : Gh} : CapRel P (callEnv σ H g w) H' g' (.fp row) v := by
  obtain ⟨b, o, h1, h2⟩ := hx
  refine ⟨b, o, h1, fun j c hc => ?_⟩
  obtain ⟨u, h3, h4⟩ := h2 j c hc
  exact ⟨u, ⟨Nat.lt_of_lt_of_le h3.1 h.frm.size, nown_rd h h3, rd_cell h.frm h3⟩, rdO_frame h h4⟩

theorem boxO_frame (h : HRel P E g H w) {T j : Nat} {v : Value} (hx : CapRel P E H g (.bp T j) v) (hok : capsOk H (.bp T j)) (hhd : capHid σ H (.bp T j)) {H' : Heap} {g' : Gh} : CapRel P (callEnv σ H g w) H' g' (frzBox H T j) v := by
  simp only [capsOk] at hok
  split at hok
  · rename_i cs hT
    obtain ⟨hn, hall⟩ := hhd
    rw [hT] at hall
    simp only at hall
    obtain ⟨_, _, hv⟩ := hx
    have hv := hv (by simp [hT, Ent.live])
    obtain ⟨cur, e, hw, ho, hc⟩ := h.box T cs hT
    simp only [frzBox, hT]
    refine ⟨_, _, hv, fun k c hk => ?_⟩
    simp only [List.getElem?_map, List.getElem?_drop, Option.map_eq_some_iff] at hk
    obtain ⟨x, hx, rfl⟩ := hk
    obtain ⟨hob, _, u, hu, hr⟩ := hc (j + k) x hx
    have hmem : x ∈ cs.drop j := List.mem_of_getElem? (i := k) (by rw [List.getElem?_drop]; exact hx)
    refine ⟨u, ⟨(Array.getElem?_eq_some_iff.1 hw).1, ?_, ?_⟩, ptO_rel h hr (hok x hmem) (List.all_eq_true.1 hall x hmem)⟩
    · rw [Nat.add_assoc]; exact nown_bx h (idx_none hn) ho hob
    · have := cell_of_heap hw hu
      rw [Nat.add_assoc]
      exact this
  · exact hok.elim

theorem frzO_rel (h : HRel P E g H w) {x : VV} {u : Value} (hx : CRel P E H g x u) {H' : Heap} {g' : Gh} (hr : ∀ T n, x ≠ .rf T n) (hb : ∀ T j, x ≠ .bp T j) (hnl : ∀ e, x ≠ .nl e) (hok : viewOkC σ H x) : CRel P (callEnv σ H g w) H' g' (frzC H x) u := by
  cases x with
  | rf T n => exact absurd rfl (hr T n)
  | bp T j => exact absurd rfl (hb T j)
  | nl e => exact absurd rfl (hnl e)
  | fr e rows => exact rdO_frame (x := .list e rows) h hx
  | clo f caps =>
    obtain ⟨cs, h1, h2, h3⟩ := hx
    refine ⟨cs, h1, by simpa using h2, fun j c u hc hu => ?_⟩
    simp only [List.getElem?_map, Option.map_eq_some_iff] at hc
    obtain ⟨c0, hc0, rfl⟩ := hc
    have hr := h3 j c0 u hc0 hu
    obtain ⟨ho, hh⟩ := hok c0 (List.mem_of_getElem? hc0)
    cases c0 <;> try exact ho.elim
    case bp T j => exact boxO_frame h hr ho hh
    case fp row => exact fpO_frame h hr
  | fp row => exact fpO_frame h (g := g) (H := H) (H' := H') (g' := g') hx
  | bs T j n e =>
    obtain ⟨hn, hok⟩ := hok
    refine bs_frame h hx hok fun cs hT k u hk hu => ?_
    obtain ⟨x, hx⟩ : ∃ x, cs[k]? = some x := ⟨_, List.getElem?_eq_getElem hk⟩
    obtain ⟨cur, e0, hw, ho, hc⟩ := h.box T cs hT
    exact ⟨(Array.getElem?_eq_some_iff.1 hw).1, nown_bx h (idx_none hn) ho (hc k x hx).1, hu⟩
  | np => exact hok.elim
  | agg => exact hok.elim
  | tup => exact hok.elim
  | _ => exact hx

theorem viewE_root {x : Ent} : (viewE σ H x).isRoot = x.isRoot := by cases x <;> rfl
theorem viewE_live {x : Ent} : (viewE σ H x).live = x.live := by cases x <;> rfl
theorem hpI {k T : Nat} (hk : σ[k]? = some T) : HpE (σ.map fun T => viewE σ H (H T)) k = viewE σ H (H T) := by simp [HpE, hk]
theorem hpI_none {k : Nat} (hk : σ[k]? = none) : HpE (σ.map fun T => viewE σ H (H T)) k = .dead := by simp [HpE, hk]

theorem viewC_rel (h : HRel P E g H w) {x : VV} {u : Value} (hx : CRel P E H g x u) (hok : viewOkC σ H x) : CRel P (callEnv σ H g w) (HpE (σ.map fun T => viewE σ H (H T))) (g.call σ) (viewC σ H x) u := by
  by_cases hr : ∃ T n, x = .rf T n
  · obtain ⟨T, n, rfl⟩ := hr
    simp only [viewOkC] at hok
    simp only [viewC]
    cases hi : idx σ T with
    | some k =>
      have hk := idx_some hi
      obtain ⟨h1, h2, h3⟩ := hx
      refine ⟨by simp only [Gh.call, decide_eq_true_eq]; exact (List.getElem?_eq_some_iff.1 hk).1, h2, fun hroot => ?_⟩
      rw [hpI hk, viewE_root] at hroot
      simp only [Gh.call, hk]
      exact h3 hroot
    | none =>
      rw [hi] at hok
      simp only [frzOkC] at hok
      simp only [frzC]
      split at hok
      · rename_i e rows hT
        obtain ⟨h1, h2⟩ := hok
        obtain ⟨_, _, hv⟩ := hx
        have hv := hv (by simp [hT, Ent.isRoot])
        rw [hv]
        exact rdO_root h (idx_none hi) hT h2 h1
      · exact hok.elim
  · by_cases hb : ∃ T j, x = .bp T j
    · obtain ⟨T, j, rfl⟩ := hb
      simp only [viewOkC] at hok
      simp only [viewC]
      cases hi : idx σ T with
      | some k =>
        have hk := idx_some hi
        obtain ⟨h1, h2, h3⟩ := hx
        refine ⟨by simp only [Gh.call, decide_eq_true_eq]; exact (List.getElem?_eq_some_iff.1 hk).1, h2, fun hlive => ?_⟩
        rw [hpI hk, viewE_live] at hlive
        simp only [Gh.call, hk]
        exact h3 hlive
      | none =>
        rw [hi] at hok
        have := boxO_frame (σ := σ) (H' := HpE (σ.map fun T => viewE σ H (H T))) (g' := g.call σ) h (T := T) (j := j) hx hok.1 ⟨hi, hok.2⟩
        simp only [frzBox] at this ⊢
        split at this
        · exact this
        · exact this.elim
    · by_cases hn : ∃ e, x = .nl e
      · obtain ⟨e, rfl⟩ := hn
        exact hx
      · have h1 : viewC σ H x = frzC H x := by
          cases x <;> first | rfl | exact absurd ⟨_, _, rfl⟩ hr | exact absurd ⟨_, _, rfl⟩ hb | exact absurd ⟨_, rfl⟩ hn
        rw [h1]
        exact frzO_rel h hx (fun T n hh => hr ⟨T, n, hh⟩) (fun T n hh => hb ⟨T, n, hh⟩) (fun e hh => hn ⟨e, hh⟩) hok

theorem viewA_rel (h : HRel P E g H w) {x : VV} {u : Value} (hx : VRel P E H g x u) (hok : viewOk σ H x) : ARel P (callEnv σ H g w) (HpE (σ.map fun T => viewE σ H (H T))) (g.call σ) (viewA σ H x) u := by
  by_cases ha : ∃ vs, x = .agg vs
  · obtain ⟨vs, rfl⟩ := ha
    obtain ⟨cs, h1, h2, h3⟩ := hx
    refine ⟨cs, h1, by simpa using h2, fun j c u hc hu => ?_⟩
    simp only [List.getElem?_map, Option.map_eq_some_iff] at hc
    obtain ⟨c0, hc0, rfl⟩ := hc
    exact viewC_rel h (h3 j c0 u hc0 hu) (hok c0 (List.mem_of_getElem? hc0))
  · have hne : ∀ vs, x ≠ .agg vs := fun vs hh => ha ⟨vs, hh⟩
    have hnt : ∀ vs, x ≠ .tup vs := fun vs hh => by subst hh; exact hok
    rw [vrel_eq hnt, arel_eq hne] at hx
    have h1 : viewA σ H x = viewC σ H x := by cases x <;> first | rfl | exact absurd rfl (hne _)
    have h2 : viewOkC σ H x := by cases x <;> first | exact hok | exact absurd rfl (hne _)
    rw [h1]
    exact arel_of_crel (viewC_rel h hx h2)

/-- What such a call begins with. -/
theorem hrel_call (h : HRel P E g H w) (hn : σ.Nodup) (hok : ∀ T ∈ σ, viewOkE σ H (H T)) : HRel P (callEnv σ H g w) (g.call σ) (HpE (σ.map fun T => viewE σ H (H T))) w := by
  refine ⟨Frm.refl _, fun k e rows hk p e2 rows2 hp => ?_, fun k cs hk => ?_, fun k hk => ?_⟩
  · cases hT : σ[k]? with
    | none => rw [hpI_none hT] at hk; cases hk
    | some T =>
      rw [hpI hT] at hk
      have hroot : H T = .root e rows := by
        cases hx : H T with
        | root e' rows' => rw [hx] at hk; exact hk
        | box cs => rw [hx] at hk; cases hk
        | dead => rw [hx] at hk; cases hk
      have hmem := List.mem_of_getElem? hT
      have hidx := idx_get hn hT
      have hpr : PurRows rows := by have := hok T hmem; rw [hroot] at this; exact this
      have hpr2 : PurRows rows2 := pur_at p (.list e rows) (.list _ _ hpr) e2 rows2 hp
      rcases h.node T e rows hroot p e2 rows2 hp with ⟨k1, k2⟩ | ⟨b, cap, cur, k1, k2, k3, k4, k5, k6, k7, k8⟩
      · exact .inl ⟨by simp only [Gh.call, hT]; exact k1, k2⟩
      · refine .inr ⟨b, cap, cur, by simp only [Gh.call, hT]; exact k1, by simp only [Gh.call, k2, hidx, Option.map_some], .inr fun o => .inl ⟨T, hmem, e, rows, p, e2, rows2, _, _, hroot, hp, k1⟩, k4, k5, k6, k7, fun i r hr => ?_⟩
        obtain ⟨m1, m2⟩ := k8 i r hr
        refine ⟨m1, fun j c hc => ?_⟩
        obtain ⟨u, m3, m4⟩ := m2 j c hc
        refine ⟨u, m3, ?_⟩
        simp only [Gh.call, hT]
        have := hpr2 r (List.mem_of_getElem? hr) c (List.mem_of_getElem? hc)
        cases this <;> exact m4
  · cases hT : σ[k]? with
    | none => rw [hpI_none hT] at hk; cases hk
    | some T =>
      rw [hpI hT] at hk
      obtain ⟨cs0, hbox, rfl⟩ : ∃ cs0, H T = .box cs0 ∧ cs = cs0.map (viewC σ H) := by
        cases hx : H T with
        | root e' rows' => rw [hx] at hk; cases hk
        | box cs0 => rw [hx] at hk; injection hk with hk; exact ⟨cs0, rfl, hk.symm⟩
        | dead => rw [hx] at hk; cases hk
      have hmem := List.mem_of_getElem? hT
      have hidx := idx_get hn hT
      have hokc := hok T hmem
      rw [hbox] at hokc
      obtain ⟨cur, e, k1, k2, k3⟩ := h.box T cs0 hbox
      have hbx : (g.call σ).bx k = g.bx T := by simp only [Gh.call, hT]
      refine ⟨cur, e, by rw [hbx]; exact k1, by rw [hbx]; simp only [Gh.call, k2], fun j c hc => ?_⟩
      simp only [List.getElem?_map, Option.map_eq_some_iff] at hc
      obtain ⟨c0, hc0, rfl⟩ := hc
      obtain ⟨k4, k5, u, k6, k7⟩ := k3 j c0 hc0
      rw [hbx]
      refine ⟨by simp only [Gh.call, k4, hidx, Option.map_some], .inr (.inr ⟨T, hmem, cs0, j, hbox, (List.getElem?_eq_some_iff.1 hc0).1, rfl, rfl⟩), u, k6, viewC_rel h k7 (hokc c0 (List.mem_of_getElem? hc0))⟩
  · cases hT : σ[k]? with
    | none => rw [hpI_none hT] at hk; cases hk
    | some T => simp only [Gh.call, decide_eq_true_eq]; exact (List.getElem?_eq_some_iff.1 hT).1
end
end Go.Proofs.Ytclljpdcpcolpaa
