/- The value-level engine, thirty-first part: tokens get new numbers; loops whose tokens have the same numbers in each round. -/
import Derived.Test.YtmiojnibngncaaaEc
namespace Go.Proofs.Ytmiojnibngncaaa
open Go Go.RowKit
set_option linter.unusedVariables false
set_option linter.unusedSimpArgs false

/-- Nothing like this is a value. -/
def badV : VV := .tup [.tup []]
/-- What a value was called before: token j was the j-th of the list. -/
def renC (L : List Nat) (x : VV) : VV :=
  match x with
  | .rf T n => (match L[T]? with | some a => .rf a n | none => badV)
  | .bp T j => (match L[T]? with | some a => .bp a j | none => badV)
  | .np T i j => (match L[T]? with | some a => .np a i j | none => badV)
  | .bs T j n e => (match L[T]? with | some a => .bs a j n e | none => badV)
  | .int k n => .int k n
  | .bool b => .bool b
  | .str s => .str s
  | .nl e => .nl e
  | .fr e rows => .fr e rows
  | .fp row => .fp row
  | .err b => .err b
  | .any => .any
  | .clo f caps => .clo f (caps.map fun c => match c with
    | .bp T j => (match L[T]? with | some a => .bp a j | none => badV)
    | .fp row => .fp row
    | _ => badV)
  | _ => badV
def renA (L : List Nat) (x : VV) : VV :=
  match x with
  | .agg vs => .agg (vs.map (renC L))
  | x => renC L x
def renV (L : List Nat) (x : VV) : VV :=
  match x with
  | .tup vs => .tup (vs.map (renA L))
  | x => renA L x
def renE (L : List Nat) (x : Ent) : Ent :=
  match x with
  | .box cs => .box (cs.map (renC L))
  | x => x
/-- What lies under a token, by its old name. -/
def renH (L : List Nat) (H : Heap) (p : Nat × Ent) : Prop := match L[p.1]? with
  | some a => H a = renE L p.2 ∧ (match p.2 with | .root _ rows => PurRows rows | _ => True)
  | none => False
/-- What was handed over keeps its numbers. -/
def pinL (m : Nat) (L : List Nat) : Bool := (List.range m).all fun k => match L[k]? with | some a => a == k | none => false

section
variable {P : Program} {E : Env} {g g' : Gh} {s : St} {a : Act} {w w' : World} {ty : Ty} {H : Heap}

/-- The new names of what the world has. -/
def renG (L : List Nat) (g : Gh) : Gh :=
  { hd := fun T p => match L[T]? with | some a => g.hd a p | none => undef
    bx := fun T => match L[T]? with | some a => g.bx a | none => (0, 0)
    own := fun b => match g.own b with
      | some (a, p) => (L.findIdx? (· == a)).map fun T => (T, p)
      | none => none
    ob := fun b o => match g.ob b o with
      | some (a, j) => (L.findIdx? (· == a)).map fun T => (T, j)
      | none => none
    sn := fun T => match L[T]? with | some a => g.sn a | none => false }
theorem find_at {L : List Nat} (hL : L.Nodup) {T a : Nat} (h : L[T]? = some a) : L.findIdx? (· == a) = some T := by
  obtain ⟨hlt, he⟩ := List.getElem?_eq_some_iff.1 h
  rw [List.findIdx?_eq_some_iff_getElem]
  refine ⟨hlt, by simp [he], fun j hj => ?_⟩
  simp only [beq_iff_eq, Bool.not_eq_true, beq_eq_false_iff_ne]
  intro hh
  have := (List.getElem_inj (h₀ := by omega) (h₁ := hlt) hL).1 (hh.trans he.symm)
  omega
/-- The tokens of the new heap lie in the list, and what lies under them lay under the old ones. -/
def HRen (L : List Nat) (H H' : Heap) : Prop := ∀ T, (H' T = .dead) ∨ ∃ a, L[T]? = some a ∧ H a = renE L (H' T) ∧ (match H' T with | .root _ rows => PurRows rows | _ => True)
theorem ren_isRoot {L : List Nat} {x : Ent} : (renE L x).isRoot = x.isRoot := by cases x <;> rfl
theorem ren_live {L : List Nat} {x : Ent} : (renE L x).live = x.live := by cases x <;> rfl
theorem hren_root {L : List Nat} {H H' : Heap} (h : HRen L H H') {T a : Nat} (ha : L[T]? = some a) (hr : (H' T).isRoot = true) : H a = H' T := by
  rcases h T with h | ⟨b, hb, h1, _⟩
  · rw [h] at hr; cases hr
  · rw [ha] at hb
    cases hb
    rw [h1]
    cases hx : H' T with
    | box cs => rw [hx] at hr; cases hr
    | _ => rfl
theorem hren_live {L : List Nat} {H H' : Heap} (h : HRen L H H') {T a : Nat} (ha : L[T]? = some a) (hr : (H' T).live = true) : (H a).live = true := by
  rcases h T with h | ⟨b, hb, h1, _⟩
  · rw [h] at hr; cases hr
  · rw [ha] at hb
    cases hb
    rw [h1, ren_live]; exact hr
theorem bad_no {v : Value} (h : CRel P E H g badV v) : False := h
theorem renC_rel {L : List Nat} {H H' : Heap} (hh : HRen L H H') {x : VV} {v : Value} (h : CRel P E H g (renC L x) v) : CRel P E H' (renG L g) x v := by
  have sn : ∀ {T a : Nat}, L[T]? = some a → g.sn a = true → (renG L g).sn T = true := fun ha hs => by simp only [renG, ha]; exact hs
  have bx : ∀ {T a : Nat}, L[T]? = some a → (renG L g).bx T = g.bx a := fun ha => by simp only [renG, ha]
  have hd : ∀ {T a : Nat}, L[T]? = some a → ∀ p, (renG L g).hd T p = g.hd a p := fun ha p => by simp only [renG, ha]
  cases x with
  | rf T n =>
    simp only [renC] at h
    split at h
    · rename_i a ha
      obtain ⟨h1, h2, h3⟩ := h
      refine ⟨sn ha h1, h2, fun hr => ?_⟩
      rw [hd ha]
      exact h3 (by rw [hren_root hh ha hr]; exact hr)
    · exact False.elim h
  | bp T j =>
    simp only [renC] at h
    split at h
    · rename_i a ha
      obtain ⟨h1, h2, h3⟩ := h
      refine ⟨sn ha h1, h2, fun hr => ?_⟩
      rw [bx ha]
      exact h3 (hren_live hh ha hr)
    · exact False.elim h
  | np T i j =>
    simp only [renC] at h
    split at h
    · rename_i a ha
      obtain ⟨h1, h2, h3⟩ := h
      refine ⟨sn ha h1, h2, fun e rows hr => ?_⟩
      rw [hd ha]
      exact h3 e rows (by rw [hren_root hh ha (by rw [hr]; rfl)]; exact hr)
    · exact False.elim h
  | bs T j n e =>
    simp only [renC] at h
    split at h
    · rename_i a ha
      obtain ⟨h1, h2, h3, h4⟩ := h
      refine ⟨sn ha h1, h2, h3, fun hr => ?_⟩
      rw [bx ha]
      exact h4 (hren_live hh ha hr)
    · exact False.elim h
  | clo f caps =>
    obtain ⟨cs, h1, h2, h3⟩ := h
    simp only [List.length_map] at h2
    refine ⟨cs, h1, h2, fun j c u hc hu => ?_⟩
    have h4 := h3 j _ u (by rw [List.getElem?_map, hc]; rfl) hu
    cases c with
    | bp T j =>
      simp only at h4
      split at h4
      · rename_i a ha
        obtain ⟨k1, k2, k3⟩ := h4
        refine ⟨sn ha k1, k2, fun hr => ?_⟩
        rw [bx ha]
        exact k3 (hren_live hh ha hr)
      · exact h4.elim
    | fp row => exact h4
    | _ => exact h4.elim
  | agg vs => exact False.elim h
  | tup vs => exact False.elim h
  | _ => exact h
theorem renA_rel {L : List Nat} {H H' : Heap} (hh : HRen L H H') {x : VV} {v : Value} (h : ARel P E H g (renA L x) v) : ARel P E H' (renG L g) x v := by
  cases x with
  | agg vs =>
    obtain ⟨cs, h1, h2, h3⟩ := h
    simp only [List.length_map] at h2
    refine ⟨cs, h1, h2, fun j c u hc hu => ?_⟩
    exact renC_rel hh (h3 j _ u (by rw [List.getElem?_map, hc]; rfl) hu)
  | rf T n =>
    cases hL : L[T]? with
    | none => simp only [renA, renC, hL] at h; exact False.elim h
    | some a => exact renC_rel (P := P) (E := E) (g := g) (H := H) (x := .rf T n) hh (by simp only [renA, renC, hL] at h ⊢; exact h)
  | bp T j =>
    cases hL : L[T]? with
    | none => simp only [renA, renC, hL] at h; exact False.elim h
    | some a => exact renC_rel (P := P) (E := E) (g := g) (H := H) (x := .bp T j) hh (by simp only [renA, renC, hL] at h ⊢; exact h)
  | np T i j =>
    cases hL : L[T]? with
    | none => simp only [renA, renC, hL] at h; exact False.elim h
    | some a => exact renC_rel (P := P) (E := E) (g := g) (H := H) (x := .np T i j) hh (by simp only [renA, renC, hL] at h ⊢; exact h)
  | bs T j n e =>
    cases hL : L[T]? with
    | none => simp only [renA, renC, hL] at h; exact False.elim h
    | some a => exact renC_rel (P := P) (E := E) (g := g) (H := H) (x := .bs T j n e) hh (by simp only [renA, renC, hL] at h ⊢; exact h)
  | int k n => exact renC_rel (P := P) (E := E) (g := g) (H := H) (x := .int k n) hh h
  | bool b => exact renC_rel (P := P) (E := E) (g := g) (H := H) (x := .bool b) hh h
  | str s => exact renC_rel (P := P) (E := E) (g := g) (H := H) (x := .str s) hh h
  | nl e => exact renC_rel (P := P) (E := E) (g := g) (H := H) (x := .nl e) hh h
  | fr e rows => exact renC_rel (P := P) (E := E) (g := g) (H := H) (x := .fr e rows) hh h
  | fp row => exact renC_rel (P := P) (E := E) (g := g) (H := H) (x := .fp row) hh h
  | err b => exact renC_rel (P := P) (E := E) (g := g) (H := H) (x := .err b) hh h
  | any => trivial
  | clo f caps => exact renC_rel (P := P) (E := E) (g := g) (H := H) (x := .clo f caps) hh h
  | tup vs => exact False.elim h
theorem renV_rel {L : List Nat} {H H' : Heap} (hh : HRen L H H') {x : VV} {v : Value} (h : VRel P E H g (renV L x) v) : VRel P E H' (renG L g) x v := by
  have bad : ∀ {v : Value}, VRel P E H g badV v → False := fun {v} h => by
    obtain ⟨cs, h1, h2, h3⟩ := h
    cases cs with
    | nil => simp at h2
    | cons c cs => exact False.elim (h3 0 (.tup []) c rfl rfl)
  cases x with
  | tup vs =>
    obtain ⟨cs, h1, h2, h3⟩ := h
    simp only [List.length_map] at h2
    refine ⟨cs, h1, h2, fun j c u hc hu => ?_⟩
    exact renA_rel hh (h3 j _ u (by rw [List.getElem?_map, hc]; rfl) hu)
  | rf T n =>
    cases hL : L[T]? with
    | none => simp only [renV, renA, renC, hL] at h; exact (bad h).elim
    | some a => exact renA_rel (P := P) (E := E) (g := g) (H := H) (x := .rf T n) hh (by simp only [renV, renA, renC, hL] at h ⊢; exact h)
  | bp T j =>
    cases hL : L[T]? with
    | none => simp only [renV, renA, renC, hL] at h; exact (bad h).elim
    | some a => exact renA_rel (P := P) (E := E) (g := g) (H := H) (x := .bp T j) hh (by simp only [renV, renA, renC, hL] at h ⊢; exact h)
  | np T i j =>
    cases hL : L[T]? with
    | none => simp only [renV, renA, renC, hL] at h; exact (bad h).elim
    | some a => exact renA_rel (P := P) (E := E) (g := g) (H := H) (x := .np T i j) hh (by simp only [renV, renA, renC, hL] at h ⊢; exact h)
  | bs T j n e =>
    cases hL : L[T]? with
    | none => simp only [renV, renA, renC, hL] at h; exact (bad h).elim
    | some a => exact renA_rel (P := P) (E := E) (g := g) (H := H) (x := .bs T j n e) hh (by simp only [renV, renA, renC, hL] at h ⊢; exact h)
  | int k n => exact renA_rel (P := P) (E := E) (g := g) (H := H) (x := .int k n) hh h
  | bool b => exact renA_rel (P := P) (E := E) (g := g) (H := H) (x := .bool b) hh h
  | str s => exact renA_rel (P := P) (E := E) (g := g) (H := H) (x := .str s) hh h
  | nl e => exact renA_rel (P := P) (E := E) (g := g) (H := H) (x := .nl e) hh h
  | fr e rows => exact renA_rel (P := P) (E := E) (g := g) (H := H) (x := .fr e rows) hh h
  | fp row => exact renA_rel (P := P) (E := E) (g := g) (H := H) (x := .fp row) hh h
  | err b => exact renA_rel (P := P) (E := E) (g := g) (H := H) (x := .err b) hh h
  | any => trivial
  | clo f caps => exact renA_rel (P := P) (E := E) (g := g) (H := H) (x := .clo f caps) hh h
  | agg vs => exact renA_rel (P := P) (E := E) (g := g) (H := H) (x := .agg vs) hh h

theorem ren_hrel {L : List Nat} (hL : L.Nodup) {H H' : Heap} (hh : HRen L H H') (h : HRel P E g H w) : HRel P E (renG L g) H' w := by
  refine ⟨h.frm, fun T e rows hT p e' rows' hp => ?_, fun T cs hT => ?_, fun T hT => ?_⟩
  · rcases hh T with h0 | ⟨a, ha, h1, h2⟩
    · rw [h0] at hT; cases hT
    · rw [hT] at h1 h2
      have hpur : PurRows rows' := pur_at p (.list e rows) (.list e rows h2) e' rows' hp
      have hd : ∀ p, (renG L g).hd T p = g.hd a p := fun p => by simp only [renG, ha]
      rcases h.node a e rows h1 p e' rows' hp with ⟨k1, k2⟩ | ⟨b, cap, cur, k1, k2, k3, k4, k5, k6, k7, k8⟩
      · exact .inl ⟨by rw [hd]; exact k1, k2⟩
      · refine .inr ⟨b, cap, cur, by rw [hd]; exact k1, ?_, k3, k4, k5, k6, k7, fun i r hr => ⟨(k8 i r hr).1, fun j c hc => ?_⟩⟩
        · simp only [renG, k2, find_at hL ha, Option.map_some]
        · obtain ⟨u, u1, u2⟩ := (k8 i r hr).2 j c hc
          refine ⟨u, u1, ?_⟩
          rw [hd]
          have hpc := hpur r (List.mem_of_getElem? hr) c (List.mem_of_getElem? hc)
          cases hpc <;> exact u2
  · rcases hh T with h0 | ⟨a, ha, h1, h2⟩
    · rw [h0] at hT; cases hT
    · rw [hT] at h1
      obtain ⟨cur, e, k1, k2, k3⟩ := h.box a (cs.map (renC L)) h1
      have hb : (renG L g).bx T = g.bx a := by simp only [renG, ha]
      refine ⟨cur, e, by rw [hb]; exact k1, ?_, fun j c hc => ?_⟩
      · rw [hb]
        simp only [renG, k2]
      · obtain ⟨m1, m2, u, m3, m4⟩ := k3 j (renC L c) (by rw [List.getElem?_map, hc]; rfl)
        rw [hb]
        refine ⟨?_, m2, u, m3, renC_rel hh m4⟩
        simp only [renG, m1, find_at hL ha, Option.map_some]
  · rcases hh T with h0 | ⟨a, ha, h1, h2⟩
    · rw [h0] at hT; cases hT
    · have : (H a).live = true := by rw [h1, ren_live]; exact hT
      simp only [renG, ha]
      exact h.seen a this

theorem hpL_ren {L : List Nat} {H : Heap} : ∀ {hl : List (Nat × Ent)}, (∀ p ∈ hl, renH L H p) → HRen L H (hpL hl)
  | [], _, T => .inl rfl
  | (u, e) :: hl, h, T => by
    simp only [hpL]
    split
    · rename_i hu
      subst hu
      have h0 := h (T, e) (List.mem_cons_self ..)
      unfold renH at h0
      split at h0
      · rename_i a ha
        exact .inr ⟨a, ha, h0⟩
      · exact h0.elim
    · exact hpL_ren (fun p hp => h p (List.mem_cons_of_mem _ hp)) T
/-- Tokens get new numbers; what is not named is forgotten. -/
theorem rel_ren {m : Nat} (hE : PinLe E m) (L : List Nat) (tl : List (Nat × VV)) (hl : List (Nat × Ent)) (hL : L.Nodup) (hm : pinL m L = true) (h1 : ∀ p ∈ tl, s.tm p.1 = renV L p.2) (h2 : ∀ p ∈ hl, renH L s.H p) (hr : Rel P E g s a w) :
    Rel P E (renG L g) ⟨tmL tl, hpL hl, L.length, s.N, none⟩ a w := by
  have hh := hpL_ren h2
  refine ⟨hr.size, hr.defers, ren_hrel hL hh hr.heap, fun T hT => ?_, fun t => ?_, ?_⟩
  · have : L[T]? = none := List.getElem?_eq_none hT.1
    simp only [renG, this]
  · have key : ∀ tl : List (Nat × VV), (∀ p ∈ tl, s.tm p.1 = renV L p.2) → tmL tl t = .any ∨ s.tm t = renV L (tmL tl t) := by
      intro tl
      induction tl with
      | nil => intro _; exact .inl rfl
      | cons q tl ih =>
        intro h
        obtain ⟨u, v⟩ := q
        simp only [tmL]
        split
        · rename_i hu
          right
          rw [hu]
          exact h (u, v) (List.mem_cons_self ..)
        · exact ih fun p hp => h p (List.mem_cons_of_mem _ hp)
    rcases key tl h1 with h | h
    · show VRel P E _ _ (tmL tl t) _
      rw [h]; trivial
    · refine renV_rel hh ?_
      rw [← h]
      exact hr.tmps t
  · refine hE g s.H _ _ (fun T hT => ?_) hr.pin
    have ha : L[T]? = some T := by
      simp only [pinL, List.all_eq_true, List.mem_range] at hm
      have := hm T hT
      split at this
      · rename_i a ha
        rw [ha, beq_iff_eq.1 this]
      · cases this
    refine ⟨fun h => by simp only [renG, ha]; exact h, fun e rows' h => ?_, fun h => hren_live hh ha h, by simp only [renG, ha], by simp only [renG, ha]⟩
    exact ⟨rows', by rw [hren_root hh ha (by have h' : hpL hl T = .root e rows' := h; rw [h']; rfl)]; exact h⟩
theorem VWP_ren {c : Code} {Q : Exit → St → Prop} {m : Nat} (hE : PinLe E m) (L : List Nat) (tl : List (Nat × VV)) (hl : List (Nat × Ent)) (hL : L.Nodup) (hm : pinL m L = true) (h1 : ∀ p ∈ tl, s.tm p.1 = renV L p.2) (h2 : ∀ p ∈ hl, renH L s.H p)
    (h : VWP P E c Q ⟨tmL tl, hpL hl, L.length, s.N, none⟩) : VWP P E c Q s := fun g a w hr => h _ a w (rel_ren hE L tl hl hL hm h1 h2 hr)

variable {tm : Nat → VV} {nx N : Nat}
/-- A round of a loop has gone well; the tokens that it knows get their numbers back. -/
def NextN {X : Type} (tl : X → List (Nat × VV)) (hl : X → List (Nat × Ent)) (μ : X → Nat) (J : X → Prop) (m K N : Nat) (x : X) (s' : St) : Prop :=
  ∃ ms H', merges ms s'.H = some H' ∧ ∃ L x', L.length = K ∧ L.Nodup ∧ pinL m L = true ∧ J x' ∧ μ x' < μ x ∧ (∀ p ∈ tl x', s'.tm p.1 = renV L p.2) ∧ (∀ p ∈ hl x', renH L H' p) ∧ s'.N = N
theorem nextN {X : Type} {tl : X → List (Nat × VV)} {hl : X → List (Nat × Ent)} {μ : X → Nat} {J : X → Prop} {m K : Nat} {x : X} {lim : Option Nat} (ms : List (Nat × Nat × Nat)) {H' : Heap} (h0 : merges ms H = some H') (L : List Nat) (x' : X) (hK : L.length = K) (hL : L.Nodup) (hm : pinL m L = true) (h1 : J x') (h2 : μ x' < μ x) (h3 : ∀ p ∈ tl x', tm p.1 = renV L p.2) (h4 : ∀ p ∈ hl x', renH L H' p) :
    NextN tl hl μ J m K N x ⟨tm, H, nx, N, lim⟩ := ⟨ms, H', h0, L, x', hK, hL, hm, h1, h2, h3, h4, rfl⟩
theorem wNn {X : Type} {tl : X → List (Nat × VV)} {hl : X → List (Nat × Ent)} {μ : X → Nat} {J : X → Prop} {m K N : Nat} {x : X} {s : St} (h : NextN tl hl μ J m K N x s) : NextN tl hl μ J m K N x s := h
theorem VWP_loopN {X : Type} {m : Nat} (hE : PinLe E m) (tl : X → List (Nat × VV)) (hl : X → List (Nat × Ent)) (μ : X → Nat) (J : X → Prop) (L0 : List Nat) (x0 : X) {c : Code} {Q : Exit → St → Prop} (hJ : J x0) (hL : L0.Nodup) (hm : pinL m L0 = true) (h1 : ∀ p ∈ tl x0, tm p.1 = renV L0 p.2) (h2 : ∀ p ∈ hl x0, renH L0 H p)
    (round : ∀ x, J x → VWP P E c (thenQ (NextN tl hl μ J m L0.length N x) Q) ⟨tmL (tl x), hpL (hl x), L0.length, N, none⟩) :
    VWP P E (.loop c) Q ⟨tm, H, nx, N, none⟩ := by
  refine VWP_ren hE L0 (tl x0) (hl x0) hL hm h1 h2 ?_
  refine VWP_loop (fun n s => ∃ x, J x ∧ n = μ x ∧ s = ⟨tmL (tl x), hpL (hl x), L0.length, N, none⟩) (μ x0) ⟨x0, hJ, rfl, rfl⟩ ?_
  rintro n s ⟨x, k1, rfl, rfl⟩
  refine VWP_post (fun e s he => ?_) (round x k1)
  cases e with
  | normal =>
    obtain ⟨ms, H', j0, L, x', j1, j2, j3, j4, j5, j6, j7, j8⟩ := he
    refine ⟨⟨tmL (tl x'), hpL (hl x'), L0.length, N, none⟩, fun g a w hr => ?_, μ x', j5, x', j4, rfl, rfl⟩
    obtain ⟨g1, hg1, _⟩ := rel_merges hr j0
    have := rel_ren (s := { s with H := H' }) hE L (tl x') (hl x') j2 j3 j6 j7 hg1
    simp only [j1, j8] at this
    exact ⟨_, this⟩
  | _ => exact ⟨s, fun g a w hr => ⟨g, hr⟩, he⟩
end
theorem renH_at {L : List Nat} {H : Heap} {T : Nat} {e : Ent} : renH L H (T, e) = (match L[T]? with
  | some a => H a = renE L e ∧ (match e with | .root _ rows => PurRows rows | _ => True)
  | none => False) := rfl
end Go.Proofs.Ytmiojnibngncaaa
