/- The value-level engine, twelfth part: structs, literal slices, make. -/
import Derived.Test.YtclljpdcpcolpaaEngK
namespace Go.Proofs.Ytclljpdcpcolpaa
open Go Go.RowKit
set_option linter.unusedVariables false
set_option linter.unusedSimpArgs false

def partTy (ty : Ty) (t : TypeId) (i : Nat) : TypeId :=
  match ty t with
  | some ⟨.st fs, _, _, _⟩ => (fs[i]?.map (·.2)).getD 0
  | some ⟨.ar _ e, _, _, _⟩ => e
  | some ⟨.sl e, _, _, _⟩ => e
  | _ => 0

def evParts (ty : Ty) (s : St) (t : TypeId) (parts : Array (Nat × Operand)) : List (Nat × VV) :=
  parts.toList.map fun x => (x.1, retype ty (partTy ty t x.1) (ev s x.2))

def vBuild (ty : Ty) (t : TypeId) (parts : List (Nat × VV)) : Option VV :=
  match ty t with
  | some ⟨.st fs, _, _, z⟩ =>
    if z = [] then none else
    if fs.all (fun x => (ty x.2).isSome) then (vfill (fun i => fs[i]?.map fun x => (x.1, sizeT ty x.2)) z parts).map .agg else none
  | some ⟨.ar _ e, _, _, z⟩ =>
    if z = [] then none else
    if (ty e).isSome then (vfill (fun i => some (i * sizeT ty e, sizeT ty e)) z parts).map .agg else none
  | _ => none

section
variable {P : Program} {E : Env} {g : Gh} {s : St} {a : Act} {w : World} {ty : Ty}

theorem evParts_rel (h : Rel P E g s a w) (t : TypeId) (parts : Array (Nat × Operand)) :
    (parts.toList.map fun x => (x.1, a.eval x.2)).map (·.1) = (evParts ty s t parts).map (·.1) ∧
    ∀ (j : Nat) (x : Nat × VV) (y : Nat × Value), (evParts ty s t parts)[j]? = some x → (parts.toList.map fun x => (x.1, a.eval x.2))[j]? = some y → VRel P E s.H g x.2 y.2 := by
  refine ⟨by simp [evParts], fun j x y hx hy => ?_⟩
  simp only [evParts, List.getElem?_map] at hx hy
  cases hq : parts.toList[j]? with
  | none => rw [hq] at hx; cases hx
  | some q =>
    rw [hq] at hx hy
    simp only [Option.map_some, Option.some.injEq] at hx hy
    subst hx
    subst hy
    exact retype_rel _ (ev_rel h q.2)

theorem sizeT_info (hT : TyOK P ty) {t : TypeId} (h : (ty t).isSome = true) : (P.info? t).map (·.size) = some (sizeT ty t) := by
  cases hd : ty t with
  | none => simp [hd] at h
  | some d =>
    obtain ⟨i, hi, hs, _⟩ := (hT t d hd).info
    simp [hi, hs, sizeT, hd]

theorem places_of (hT : TyOK P ty) : ∀ (F : List Field), (F.map (fun f => (f.offset, f.type))).all (fun x => (ty x.2).isSome) = true →
    F.mapM (fun f => (P.info? f.type).map fun i => (f.offset, i.size)) = some ((F.map (fun f => (f.offset, f.type))).map fun x => (x.1, sizeT ty x.2))
  | [], _ => by simp
  | f :: F, h => by
    simp only [List.map_cons, List.all_cons, Bool.and_eq_true] at h
    have h1 := sizeT_info hT h.1
    have ih := places_of hT F h.2
    cases hi : P.info? f.type with
    | none => simp [hi] at h1
    | some i =>
      simp only [hi, Option.map_some, Option.some.injEq] at h1
      simp only [List.mapM_cons, hi, Option.map_some, ih, List.map_cons, h1]
      rfl

theorem gives_build (hT : TyOK P ty) (h : Rel P E g s a w) {o : Oper} {t : TypeId} {parts : Array (Nat × Operand)} {r : VV} (ho : o.op = .build t parts)
    (hb : vBuild ty t (evParts ty s t parts) = some r) : Gives P E g s a w o r := by
  obtain ⟨hp1, hp2⟩ := evParts_rel (ty := ty) h t parts
  suffices hh : ∃ v, (Instr.build t (parts.map fun x => (x.1, a.eval x.2))).run P w = .ok v w ∧ VRel P E s.H g r v by
    obtain ⟨v, h1, h2⟩ := hh
    exact ⟨v, by simp [execOp, ho, h1], h2⟩
  have hl : (parts.map fun x => (x.1, a.eval x.2)).toList = parts.toList.map fun x => (x.1, a.eval x.2) := by simp
  unfold vBuild at hb
  split at hb
  · rename_i fs sz by' z ht
    split at hb
    · cases hb
    · rename_i hz
      split at hb
      · rename_i hall
        obtain ⟨F, hF, hm⟩ := (hT t _ ht).desc
        obtain ⟨zv, hzr, hzl, hzs, i, hi, hiz, _⟩ := zero_rel (P := P) (E := E) (H := s.H) (g := g) (w := w) hT ht hz
        cases hf : vfill (fun i => fs[i]?.map fun x => (x.1, sizeT ty x.2)) z (evParts ty s t parts) with
        | none => rw [hf] at hb; cases hb
        | some r' =>
          rw [hf] at hb
          simp only [Option.map_some, Option.some.injEq] at hb
          subst hb
          obtain ⟨es, he, hre⟩ := fill_rel (P := P) (E := E) (g := g) (H := s.H) _ _ _ _ _ hp1 hp2 hzl hf
          refine ⟨.agg es.toArray, run_build w t _ es.toArray ?_, es, rfl, hre.1, hre.2⟩
          rw [hl]
          have hpl := places_of hT F.toList (by rw [hm]; exact hall)
          rw [hm] at hpl
          simp only [Program.built, hi, hF, hiz, hpl]
          rw [← he]
          congr 1
          funext i
          simp
      · cases hb
  · rename_i n e sz by' z ht
    split at hb
    · cases hb
    · rename_i hz
      split at hb
      · rename_i hall
        have hu : P.underlying t = some (.array n e) := (hT t _ ht).desc
        obtain ⟨zv, hzr, hzl, hzs, i, hi, hiz, _⟩ := zero_rel (P := P) (E := E) (H := s.H) (g := g) (w := w) hT ht hz
        have h1 := sizeT_info hT hall
        cases hie : P.info? e with
        | none => simp [hie] at h1
        | some ie =>
          simp only [hie, Option.map_some, Option.some.injEq] at h1
          cases hf : vfill (fun i => some (i * sizeT ty e, sizeT ty e)) z (evParts ty s t parts) with
          | none => rw [hf] at hb; cases hb
          | some r' =>
            rw [hf] at hb
            simp only [Option.map_some, Option.some.injEq] at hb
            subst hb
            obtain ⟨es, he, hre⟩ := fill_rel (P := P) (E := E) (g := g) (H := s.H) _ _ _ _ _ hp1 hp2 hzl hf
            refine ⟨.agg es.toArray, run_build w t _ es.toArray ?_, es, rfl, hre.1, hre.2⟩
            rw [hl]
            simp only [Program.built, hi, hu, hiz, hie, h1]
            rw [← he]
      · cases hb
  · cases hb
end

/-! ### Cells of a slice of the call's own -/
def toCells : List VV → Nat → Heap → Option (List PT × Nat × Heap)
  | [], n, H => some ([], n, H)
  | .nl e :: vs, n, H => match toCells vs (n + 1) (updH n (.root e []) H) with
    | some (ps, m, H') => some (.ref n 0 :: ps, m, H')
    | none => none
  | v :: vs, n, H => match v.cell, toCells vs n H with
    | some c, some (ps, m, H') => some (c :: ps, m, H')
    | _, _ => none

section
variable {P : Program} {E : Env} {w : World} {ty : Ty}

theorem lrel_cons {g : Gh} {H : Heap} {v : VV} {vs : List VV} {us : List Value} (h : LRel P E H g (v :: vs) us) : ∃ u us', us = u :: us' ∧ CRel P E H g v u ∧ LRel P E H g vs us' := by
  cases us with
  | nil => have := h.1; simp at this
  | cons u us => exact ⟨u, us, rfl, h.2 0 v u rfl rfl, by have := h.1; simpa using this, fun j c x hj hx => h.2 (j + 1) c x hj hx⟩

theorem lrel_mono {g g' : Gh} {H H' : Heap} {vs : List VV} {us : List Value} (hl : HLe g H g' H') (h : LRel P E H g vs us) : LRel P E H' g' vs us :=
  ⟨h.1, fun j c u hj hu => crel_mono hl (h.2 j c u hj hu)⟩

theorem toCells_le : ∀ (vs : List VV) (n : Nat) (H : Heap) (ps : List PT) (m : Nat) (H' : Heap), toCells vs n H = some (ps, m, H') → n ≤ m := by
  intro vs
  induction vs with
  | nil => intro n H ps m H' h; simp only [toCells, Option.some.injEq, Prod.mk.injEq] at h; omega
  | cons v vs ih =>
    intro n H ps m H' h
    by_cases hv : ∃ e, v = .nl e
    · obtain ⟨e, rfl⟩ := hv
      simp only [toCells] at h
      cases hr : toCells vs (n + 1) (updH n (.root e []) H) with
      | none => rw [hr] at h; cases h
      | some z =>
        obtain ⟨ps', m', H2⟩ := z
        rw [hr] at h
        simp only [Option.some.injEq, Prod.mk.injEq] at h
        have := ih _ _ _ _ _ hr
        omega
    · have h' : (match v.cell, toCells vs n H with | some c, some (ps, m, H') => some (c :: ps, m, H') | _, _ => none) = some (ps, m, H') := by
        cases v <;> first | exact h | exact absurd ⟨_, rfl⟩ hv
      cases hcv : v.cell with
      | none => rw [hcv] at h'; cases h'
      | some c0 =>
        cases hr : toCells vs n H with
        | none => rw [hcv, hr] at h'; cases h'
        | some z =>
          obtain ⟨ps', m', H2⟩ := z
          rw [hcv, hr] at h'
          simp only [Option.some.injEq, Prod.mk.injEq] at h'
          have := ih _ _ _ _ _ hr
          omega

theorem toCells_rel : ∀ (vs : List VV) (us : List Value) (n : Nat) (H : Heap) (g : Gh) (ps : List PT) (m : Nat) (H' : Heap), toCells vs n H = some (ps, m, H') → HRel P E g H w → (∀ X, n ≤ X → X < m → g.sn X = false) → LRel P E H g vs us →
    n ≤ m ∧ ∃ g', HRel P E g' H' w ∧ (∀ X, (n ≤ X → m ≤ X) → g'.sn X = g.sn X) ∧ HLe g H g' H' ∧ (∀ X, g.sn X = true → H' X = H X) ∧ (∀ X, g.sn X = true → g'.bx X = g.bx X ∧ ∀ p, g'.hd X p = g.hd X p) ∧ ps.length = vs.length ∧
      (∀ (j : Nat) (c : PT) (u hh : Value), ps[j]? = some c → us[j]? = some u → ocell H' g' c hh u) ∧ (∀ (j : Nat) (c : PT), ps[j]? = some c → ∀ e rows, c ≠ PT.list e rows) := by
  intro vs
  induction vs with
  | nil =>
    intro us n H g ps m H' ht hh hf hl
    simp only [toCells, Option.some.injEq, Prod.mk.injEq] at ht
    obtain ⟨rfl, rfl, rfl⟩ := ht
    exact ⟨Nat.le_refl _, g, hh, fun _ _ => rfl, HLe.refl _ _, fun _ _ => rfl, fun _ _ => ⟨rfl, fun _ => rfl⟩, rfl, fun j c u hh hj => by simp at hj, fun j c hj => by simp at hj⟩
  | cons v vs ih =>
    intro us n H g ps m H' ht hh hf hl
    obtain ⟨u, us, rfl, hc, hl'⟩ := lrel_cons hl
    by_cases hv : ∃ e, v = .nl e
    · obtain ⟨e, rfl⟩ := hv
      simp only [toCells] at ht
      cases hr : toCells vs (n + 1) (updH n (.root e []) H) with
      | none => rw [hr] at ht; cases ht
      | some z =>
        obtain ⟨ps', m', H2⟩ := z
        rw [hr] at ht
        simp only [Option.some.injEq, Prod.mk.injEq] at ht
        obtain ⟨rfl, rfl, rfl⟩ := ht
        have hnm : n + 1 ≤ m' := toCells_le vs (n + 1) _ ps' m' H2 hr
        have hY : g.sn n = false := hf n (Nat.le_refl _) (by omega)
        obtain ⟨h1, h2⟩ := hrel_nil hh hY e
        have hle : HLe g H (g.fresh n none (.slice none 0 0)) (updH n (.root e []) H) := hle_new hY (fun T hT => by simp [Gh.fresh, hT]) (fun T p hT => by simp [Gh.fresh, hT]) (fun T hT => rfl)
        have hf' : ∀ X, n + 1 ≤ X → X < m' → (g.fresh n none (.slice none 0 0)).sn X = false := fun X hX hX2 => by
          have : X ≠ n := by omega
          simp [Gh.fresh, this, hf X (by omega) hX2]
        obtain ⟨_, g', k2, k3, k4, k5, k5', k6, k7, k8⟩ := ih us (n + 1) _ _ ps' m' H2 hr h1 hf' (lrel_mono hle hl')
        have hsn : ∀ X, g.sn X = true → (g.fresh n none (.slice none 0 0)).sn X = true := hle.sn
        have hne : ∀ X, g.sn X = true → X ≠ n := fun X hX hh => by rw [hh, hY] at hX; cases hX
        refine ⟨by omega, g', k2, fun X hX => ?_, hle.trans k4, fun X hX => ?_, fun X hX => ?_, by simp [k6], fun j c x hh' hj hx => ?_, fun j c hj => ?_⟩
        · have hXn : X ≠ n := fun hh => by subst hh; have := hX (Nat.le_refl _); omega
          rw [k3 X (fun hh => hX (by omega))]
          simp [Gh.fresh, hXn]
        · rw [k5 X (hsn X hX), updH_ne _ _ (hne X hX)]
        · obtain ⟨q1, q2⟩ := k5' X (hsn X hX)
          exact ⟨q1, fun p => by rw [q2]; simp [Gh.fresh, hne X hX]⟩
        · cases j with
          | zero =>
            simp only [List.getElem?_cons_zero, Option.some.injEq] at hj hx
            subst hj
            subst hx
            have hcu : u = .slice none 0 0 := hc
            subst hcu
            exact crel_mono (x := .rf n 0) k4 h2
          | succ j => exact k7 j c x hh' hj hx
        · cases j with
          | zero => simp only [List.getElem?_cons_zero, Option.some.injEq] at hj; subst hj; intro e rows hh; cases hh
          | succ j => exact k8 j c hj
    · have ht' : (match v.cell, toCells vs n H with | some c, some (ps, m, H') => some (c :: ps, m, H') | _, _ => none) = some (ps, m, H') := by
        cases v <;> first | exact ht | exact absurd ⟨_, rfl⟩ hv
      cases hcv : v.cell with
      | none => rw [hcv] at ht'; cases ht'
      | some c0 =>
        cases hr : toCells vs n H with
        | none => rw [hcv, hr] at ht'; cases ht'
        | some z =>
          obtain ⟨ps', m', H2⟩ := z
          rw [hcv, hr] at ht'
          simp only [Option.some.injEq, Prod.mk.injEq] at ht'
          obtain ⟨rfl, rfl, rfl⟩ := ht'
          obtain ⟨k0, g', k2, k3, k4, k5, k5', k6, k7, k8⟩ := ih us n H g ps' m' H2 hr hh hf hl'
          refine ⟨k0, g', k2, k3, k4, k5, k5', by simp [k6], fun j c x hh' hj hx => ?_, fun j c hj => ?_⟩
          · cases j with
            | zero =>
              simp only [List.getElem?_cons_zero, Option.some.injEq] at hj hx
              subst hj
              subst hx
              exact cell_ocell hcv (crel_mono k4 hc)
            | succ j => exact k7 j c x hh' hj hx
          · cases j with
            | zero => simp only [List.getElem?_cons_zero, Option.some.injEq] at hj; subst hj; exact cell_plain hcv
            | succ j => exact k8 j c hj
end
end Go.Proofs.Ytclljpdcpcolpaa
