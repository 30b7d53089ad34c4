/- The value-level engine, seventeenth part, b: the body of a function that turns what it is handed, as a contract. -/
import Derived.Test.YtclljpdcpcolpaaEngQ
namespace Go.Proofs.Ytclljpdcpcolpaa
open Go Go.RowKit
set_option linter.unusedVariables false
set_option linter.unusedSimpArgs false

def exOC (m : Nat) (H : Heap) (kb : Bool) (x : VV) (acc : List Out) : Option (VV × List Out) :=
  match x with
  | .rf T n => if T < m then some (.rf T n, acc) else match H T with
    | .root e rows => if n ≤ rows.length then some (.rf (m + acc.length) n, acc ++ [(some T, e, rows.take n)]) else none
    | _ => none
  | .nl e => if kb = true then some (.nl e, acc) else some (.rf (m + acc.length) 0, acc ++ [(none, e, [])])
  | .int k n => some (.int k n, acc)
  | .bool b => some (.bool b, acc)
  | .str s => some (.str s, acc)
  | .err b => some (.err b, acc)
  | .any => some (.any, acc)
  | _ => none
def exOCs (m : Nat) (H : Heap) (kb : Bool) : List VV → List Out → Option (List VV × List Out)
  | [], acc => some ([], acc)
  | x :: xs, acc => match exOC m H kb x acc with
    | some (y, acc) => match exOCs m H kb xs acc with
      | some (ys, acc) => some (y :: ys, acc)
      | none => none
    | none => none
def exOA (m : Nat) (H : Heap) (x : VV) (acc : List Out) : Option (VV × List Out) :=
  match x with
  | .agg vs => match exOCs m H false vs acc with
    | some (ys, acc) => some (.agg ys, acc)
    | none => none
  | x => exOC m H false x acc
def exOAs (m : Nat) (H : Heap) : List VV → List Out → Option (List VV × List Out)
  | [], acc => some ([], acc)
  | x :: xs, acc => match exOA m H x acc with
    | some (y, acc) => match exOAs m H xs acc with
      | some (ys, acc) => some (y :: ys, acc)
      | none => none
    | none => none
def exOV (m : Nat) (H : Heap) (x : VV) (acc : List Out) : Option (VV × List Out) :=
  match x with
  | .tup vs => match exOAs m H vs acc with
    | some (ys, acc) => some (.tup ys, acc)
    | none => none
  | x => exOA m H x acc
/-- What becomes of what was handed over. -/
def exEs (m : Nat) (H : Heap) : List Ent → List Out → Option (List Ent × List Out)
  | [], acc => some ([], acc)
  | .box cs :: xs, acc => match exOCs m H true cs acc with
    | some (ys, acc) => match exEs m H xs acc with
      | some (zs, acc) => some (.box ys :: zs, acc)
      | none => none
    | none => none
  | x :: xs, acc => match exEs m H xs acc with
    | some (zs, acc) => some (x :: zs, acc)
    | none => none

def rootOf (x : Out) : Ent := .root x.2.1 x.2.2
def Gh.outO (g : Gh) (m : Nat) (acc : List Out) : Gh :=
  { hd := fun j p => if j < m then g.hd j p else match acc[j - m]? with
      | some (some T, _, rows) => if p = [] then cutv rows.length (g.hd T []) else g.hd T p
      | some (none, _, _) => .slice none 0 0
      | none => undef
    bx := g.bx
    own := fun b => match g.own b with
      | some (T, p) => if T < m then some (T, p) else (acc.findIdx? fun x => x.1 == some T).map fun j => (m + j, p)
      | none => none
    ob := g.ob
    sn := fun j => if j < m then g.sn j else decide (j < m + acc.length) }
def TokGe (m : Nat) (acc : List Out) : Prop := ∀ x ∈ acc, ∀ T, x.1 = some T → m ≤ T

def keptL : List Ent → List Ent → Prop
  | [], O => ∀ y ∈ O, newOk y
  | x :: I, y :: O => keptOk x y ∧ keptL I O
  | _ :: _, [] => False

def RetO (P : Program) (ty : Ty) (rs : List ResultVar) (m : Nat) (v : VV) (O : List Ent) (s : St) : Prop :=
  ∃ ms H' Ks K2 acc1 vs acc, merges ms s.H = some H' ∧ Ks.length = m ∧ (∀ (k : Nat) (x : Ent), Ks[k]? = some x → H' k = x) ∧ exEs m H' Ks [] = some (K2, acc1) ∧ vres ty s rs = some vs ∧ exOV m H' (wrap vs) acc1 = some (v, acc) ∧
    (acc.filterMap (·.1)).Nodup ∧ K2 ++ acc.map rootOf = O

section
variable {P : Program} {E : Env} {g g' : Gh} {s : St} {a : Act} {w w' : World} {ty : Ty} {H : Heap} {m : Nat}

theorem keptL_spec : ∀ {I O : List Ent}, keptL I O → I.length ≤ O.length ∧ (∀ (k : Nat) (x y : Ent), I[k]? = some x → O[k]? = some y → keptOk x y) ∧ ∀ (k : Nat) (y : Ent), I.length ≤ k → O[k]? = some y → newOk y
  | [], O, h => ⟨Nat.zero_le _, fun k x y hx => by simp at hx, fun k y _ hy => h y (List.mem_of_getElem? hy)⟩
  | x :: I, [], h => h.elim
  | x :: I, y :: O, h => by
    obtain ⟨h1, h2⟩ := h
    obtain ⟨k1, k2, k3⟩ := keptL_spec h2
    refine ⟨by simpa using k1, fun k a b ha hb => ?_, fun k b hk hb => ?_⟩
    · cases k with
      | zero => simp only [List.getElem?_cons_zero, Option.some.injEq] at ha hb; subst ha; subst hb; exact h1
      | succ k => exact k2 k a b (by simpa using ha) (by simpa using hb)
    · cases k with
      | zero => simp at hk
      | succ k => exact k3 k b (by simpa using hk) (by simpa using hb)

theorem hpE_out {K2 : List Ent} (hl : K2.length = m) (fin : List Out) (T : Nat) : HpE (K2 ++ fin.map rootOf) T = if T < m then (K2[T]?).getD .dead else ((fin[T - m]?).map rootOf).getD .dead := by
  simp only [HpE, List.getElem?_append, hl, List.getElem?_map]
  split <;> rfl

theorem tokGe_snoc {acc : List Out} {x : Out} (h : TokGe m acc) (hx : ∀ T, x.1 = some T → m ≤ T) : TokGe m (acc ++ [x]) := by
  intro y hy T hT
  rcases List.mem_append.1 hy with hy | hy
  · exact h y hy T hT
  · simp only [List.mem_singleton] at hy; subst hy; exact hx T hT

/-- What is known of an entry that was handed over when all is done. -/
def Keeps (H : Heap) (K2 : List Ent) : Prop := ∀ (T : Nat), ((K2[T]?).getD .dead).isRoot = true → (H T).isRoot = true

theorem exOC_ok {kb : Bool} {x y : VV} {acc acc' : List Out} (h : exOC m H kb x acc = some (y, acc')) : (∃ z, acc' = acc ++ z) ∧ (AccOK H acc → AccOK H acc') ∧ (TokGe m acc → TokGe m acc') ∧ outE y = true ∧ (kb = false → outC y = true) ∧
    ∀ (E : Env) (fin : List Out) (K2 : List Ent), (∃ z, fin = acc' ++ z) → K2.length = m → Keeps H K2 → ∀ u, CRel P E H g x u → CRel P E (HpE (K2 ++ fin.map rootOf)) (g.outO m fin) y u := by
  have triv : ∀ {x : VV}, outE x = true → (kb = false → outC x = true) → (∀ T n, x ≠ .rf T n) → x = y ∧ acc = acc' → (∃ z, acc' = acc ++ z) ∧ (AccOK H acc → AccOK H acc') ∧ (TokGe m acc → TokGe m acc') ∧ outE y = true ∧ (kb = false → outC y = true) ∧
    ∀ (E : Env) (fin : List Out) (K2 : List Ent), (∃ z, fin = acc' ++ z) → K2.length = m → Keeps H K2 → ∀ u, CRel P E H g x u → CRel P E (HpE (K2 ++ fin.map rootOf)) (g.outO m fin) y u := by
    intro x ho ho2 hn he
    obtain ⟨rfl, rfl⟩ := he
    refine ⟨⟨[], by simp⟩, fun h => h, fun h => h, ho, ho2, fun E fin K2 hf _ _ u hu => ?_⟩
    cases x <;> first | exact hu | exact absurd rfl (hn _ _) | (simp [outE] at ho; done)
  unfold exOC at h
  split at h
  · rename_i T n
    split at h
    · rename_i hTm
      simp only [Option.some.injEq, Prod.mk.injEq] at h
      obtain ⟨rfl, rfl⟩ := h
      refine ⟨⟨[], by simp⟩, fun h => h, fun h => h, rfl, fun _ => rfl, fun E fin K2 hf hl hk u hu => ?_⟩
      obtain ⟨h1, h2, h3⟩ := hu
      refine ⟨by simp only [Gh.outO, if_pos hTm]; exact h1, h2, fun hr => ?_⟩
      rw [hpE_out hl, if_pos hTm] at hr
      simp only [Gh.outO, if_pos hTm]
      exact h3 (hk T hr)
    · rename_i hTm
      split at h
      · rename_i e rows hT
        split at h
        · rename_i hle
          simp only [Option.some.injEq, Prod.mk.injEq] at h
          obtain ⟨rfl, rfl⟩ := h
          have hl : (rows.take n).length = n := by simp; omega
          refine ⟨⟨_, rfl⟩, fun h => accOK_snoc h (fun j x hj => ?_), fun h => tokGe_snoc h (fun T' hT' => by injection hT' with hT'; omega), rfl, fun _ => rfl, fun E fin K2 hf hl2 hk u hu => ?_⟩
          · cases j with
            | zero =>
              simp only [List.getElem?_cons_zero, Option.some.injEq] at hj
              subst hj
              exact ⟨rows, hT, by rw [hl]; exact hle, by rw [hl]⟩
            | succ j => simp at hj
          · obtain ⟨z, rfl⟩ := hf
            obtain ⟨h1, h2, h3⟩ := hu
            have hnm : ¬ m + acc.length < m := by omega
            refine ⟨by simp [Gh.outO], h2, fun _ => ?_⟩
            have hget : (acc ++ [(some T, e, rows.take n)] ++ z)[m + acc.length - m]? = some (some T, e, rows.take n) := by
              rw [Nat.add_sub_cancel_left]; simp
            simp only [Gh.outO, if_neg hnm, hget, if_true, hl]
            rw [cutv_cutv]
            exact h3 (by simp [hT, Ent.isRoot])
        · cases h
      · cases h
  · rename_i e
    split at h
    · rename_i hkb
      simp only [Option.some.injEq, Prod.mk.injEq] at h
      exact triv rfl (fun hh => by rw [hkb] at hh; cases hh) (fun _ _ hh => by cases hh) h
    · simp only [Option.some.injEq, Prod.mk.injEq] at h
      obtain ⟨rfl, rfl⟩ := h
      refine ⟨⟨_, rfl⟩, fun h => accOK_snoc h (fun j x hj => ?_), fun h => tokGe_snoc h (fun T' hT' => by cases hT'), rfl, fun _ => rfl, fun E fin K2 hf hl hk u hu => ?_⟩
      · cases j with
        | zero =>
          simp only [List.getElem?_cons_zero, Option.some.injEq] at hj
          subst hj
          rfl
        | succ j => simp at hj
      · obtain ⟨z, rfl⟩ := hf
        have hu : u = .slice none 0 0 := hu
        subst hu
        have hnm : ¬ m + acc.length < m := by omega
        have hget : (acc ++ [(none, e, [])] ++ z)[m + acc.length - m]? = some (none, e, []) := by
          rw [Nat.add_sub_cancel_left]; simp
        refine ⟨by simp [Gh.outO], rfl, fun _ => ?_⟩
        simp only [Gh.outO, if_neg hnm, hget]
        rfl
  all_goals first
    | (simp only [Option.some.injEq, Prod.mk.injEq] at h; exact triv rfl (fun _ => rfl) (fun _ _ hh => by cases hh) h)
    | cases h

theorem exOCs_ok {kb : Bool} : ∀ {xs ys : List VV} {acc acc' : List Out}, exOCs m H kb xs acc = some (ys, acc') → (∃ z, acc' = acc ++ z) ∧ (AccOK H acc → AccOK H acc') ∧ (TokGe m acc → TokGe m acc') ∧ (∀ y ∈ ys, outE y = true ∧ (kb = false → outC y = true)) ∧ ys.length = xs.length ∧
    ∀ (E : Env) (fin : List Out) (K2 : List Ent), (∃ z, fin = acc' ++ z) → K2.length = m → Keeps H K2 → ∀ (j : Nat) (x y : VV) (u : Value), xs[j]? = some x → ys[j]? = some y → CRel P E H g x u → CRel P E (HpE (K2 ++ fin.map rootOf)) (g.outO m fin) y u
  | [], ys, acc, acc', h => by
    simp only [exOCs, Option.some.injEq, Prod.mk.injEq] at h
    obtain ⟨rfl, rfl⟩ := h
    exact ⟨⟨[], by simp⟩, fun h => h, fun h => h, fun y hy => by simp at hy, rfl, fun E fin K2 hf _ _ j x y u hx => by simp at hx⟩
  | x :: xs, ys, acc, acc', h => by
    simp only [exOCs] at h
    split at h
    · rename_i y acc1 h1
      split at h
      · rename_i ys1 acc2 h2
        simp only [Option.some.injEq, Prod.mk.injEq] at h
        obtain ⟨rfl, rfl⟩ := h
        obtain ⟨⟨z1, e1⟩, a1, b1, o1, o1', r1⟩ := exOC_ok (P := P) (g := g) h1
        obtain ⟨⟨z2, e2⟩, a2, b2, o2, l2, r2⟩ := exOCs_ok h2
        refine ⟨⟨z1 ++ z2, by rw [e2, e1, List.append_assoc]⟩, fun h => a2 (a1 h), fun h => b2 (b1 h), fun c hc => ?_, by simp [l2], fun E fin K2 hf hl hk j x' y' u hx hy hu => ?_⟩
        · rcases List.mem_cons.1 hc with rfl | hc
          · exact ⟨o1, o1'⟩
          · exact o2 c hc
        · cases j with
          | zero =>
            simp only [List.getElem?_cons_zero, Option.some.injEq] at hx hy
            subst hx; subst hy
            obtain ⟨z, rfl⟩ := hf
            exact r1 E _ K2 ⟨z2 ++ z, by rw [e2, List.append_assoc]⟩ hl hk u hu
          | succ j => exact r2 E fin K2 hf hl hk j x' y' u (by simpa using hx) (by simpa using hy) hu
      · cases h
    · cases h

theorem exOA_ok {x y : VV} {acc acc' : List Out} (h : exOA m H x acc = some (y, acc')) : (∃ z, acc' = acc ++ z) ∧ (AccOK H acc → AccOK H acc') ∧ (TokGe m acc → TokGe m acc') ∧ outA y = true ∧
    ∀ (E : Env) (fin : List Out) (K2 : List Ent), (∃ z, fin = acc' ++ z) → K2.length = m → Keeps H K2 → ∀ u, ARel P E H g x u → ARel P E (HpE (K2 ++ fin.map rootOf)) (g.outO m fin) y u := by
  by_cases ha : ∃ vs, x = .agg vs
  · obtain ⟨vs, rfl⟩ := ha
    simp only [exOA] at h
    split at h
    · rename_i ys acc1 h1
      simp only [Option.some.injEq, Prod.mk.injEq] at h
      obtain ⟨rfl, rfl⟩ := h
      obtain ⟨e1, a1, b1, o1, l1, r1⟩ := exOCs_ok (P := P) (g := g) h1
      refine ⟨e1, a1, b1, by simp only [outA, List.all_eq_true]; exact fun y hy => (o1 y hy).2 rfl, fun E fin K2 hf hl hk u hu => ?_⟩
      obtain ⟨cs, k1, k2, k3⟩ := hu
      refine ⟨cs, k1, by rw [k2, l1], fun j c v hc hv => ?_⟩
      have hlt : j < vs.length := by rw [← l1]; exact (List.getElem?_eq_some_iff.1 hc).1
      exact r1 E fin K2 hf hl hk j _ c v (List.getElem?_eq_getElem hlt) hc (k3 j _ v (List.getElem?_eq_getElem hlt) hv)
    · cases h
  · have hne : ∀ vs, x ≠ .agg vs := fun vs hh => ha ⟨vs, hh⟩
    have h' : exOC m H false x acc = some (y, acc') := by cases x <;> first | exact h | exact absurd rfl (hne _)
    obtain ⟨e1, a1, b1, o1, o2, r1⟩ := exOC_ok (P := P) (g := g) h'
    have o2 := o2 rfl
    refine ⟨e1, a1, b1, ?_, fun E fin K2 hf hl hk u hu => ?_⟩
    · cases y <;> first | exact o2 | (simp [outC] at o2; done)
    · rw [arel_eq hne] at hu
      exact arel_of_crel (r1 E fin K2 hf hl hk u hu)

theorem exOAs_ok : ∀ {xs ys : List VV} {acc acc' : List Out}, exOAs m H xs acc = some (ys, acc') → (∃ z, acc' = acc ++ z) ∧ (AccOK H acc → AccOK H acc') ∧ (TokGe m acc → TokGe m acc') ∧ (∀ y ∈ ys, outA y = true) ∧ ys.length = xs.length ∧
    ∀ (E : Env) (fin : List Out) (K2 : List Ent), (∃ z, fin = acc' ++ z) → K2.length = m → Keeps H K2 → ∀ (j : Nat) (x y : VV) (u : Value), xs[j]? = some x → ys[j]? = some y → ARel P E H g x u → ARel P E (HpE (K2 ++ fin.map rootOf)) (g.outO m fin) y u
  | [], ys, acc, acc', h => by
    simp only [exOAs, Option.some.injEq, Prod.mk.injEq] at h
    obtain ⟨rfl, rfl⟩ := h
    exact ⟨⟨[], by simp⟩, fun h => h, fun h => h, fun y hy => by simp at hy, rfl, fun E fin K2 hf _ _ j x y u hx => by simp at hx⟩
  | x :: xs, ys, acc, acc', h => by
    simp only [exOAs] at h
    split at h
    · rename_i y acc1 h1
      split at h
      · rename_i ys1 acc2 h2
        simp only [Option.some.injEq, Prod.mk.injEq] at h
        obtain ⟨rfl, rfl⟩ := h
        obtain ⟨⟨z1, e1⟩, a1, b1, o1, r1⟩ := exOA_ok (P := P) (g := g) h1
        obtain ⟨⟨z2, e2⟩, a2, b2, o2, l2, r2⟩ := exOAs_ok h2
        refine ⟨⟨z1 ++ z2, by rw [e2, e1, List.append_assoc]⟩, fun h => a2 (a1 h), fun h => b2 (b1 h), fun c hc => ?_, by simp [l2], fun E fin K2 hf hl hk j x' y' u hx hy hu => ?_⟩
        · rcases List.mem_cons.1 hc with rfl | hc
          · exact o1
          · exact o2 c hc
        · cases j with
          | zero =>
            simp only [List.getElem?_cons_zero, Option.some.injEq] at hx hy
            subst hx; subst hy
            obtain ⟨z, rfl⟩ := hf
            exact r1 E _ K2 ⟨z2 ++ z, by rw [e2, List.append_assoc]⟩ hl hk u hu
          | succ j => exact r2 E fin K2 hf hl hk j x' y' u (by simpa using hx) (by simpa using hy) hu
      · cases h
    · cases h

theorem exOV_ok {x y : VV} {acc acc' : List Out} (h : exOV m H x acc = some (y, acc')) : (∃ z, acc' = acc ++ z) ∧ (AccOK H acc → AccOK H acc') ∧ (TokGe m acc → TokGe m acc') ∧
    ∀ (E : Env) (K2 : List Ent), K2.length = m → Keeps H K2 → ∀ u, VRel P E H g x u → VRel P E (HpE (K2 ++ acc'.map rootOf)) (g.outO m acc') y u := by
  by_cases ha : ∃ vs, x = .tup vs
  · obtain ⟨vs, rfl⟩ := ha
    simp only [exOV] at h
    split at h
    · rename_i ys acc1 h1
      simp only [Option.some.injEq, Prod.mk.injEq] at h
      obtain ⟨rfl, rfl⟩ := h
      obtain ⟨e1, a1, b1, o1, l1, r1⟩ := exOAs_ok (P := P) (g := g) h1
      refine ⟨e1, a1, b1, fun E K2 hl hk u hu => ?_⟩
      obtain ⟨cs, k1, k2, k3⟩ := hu
      refine ⟨cs, k1, by rw [k2, l1], fun j c v hc hv => ?_⟩
      have hlt : j < vs.length := by rw [← l1]; exact (List.getElem?_eq_some_iff.1 hc).1
      exact r1 E _ K2 ⟨[], by simp⟩ hl hk j _ c v (List.getElem?_eq_getElem hlt) hc (k3 j _ v (List.getElem?_eq_getElem hlt) hv)
    · cases h
  · have hne : ∀ vs, x ≠ .tup vs := fun vs hh => ha ⟨vs, hh⟩
    have h' : exOA m H x acc = some (y, acc') := by cases x <;> first | exact h | exact absurd rfl (hne _)
    obtain ⟨e1, a1, b1, o1, r1⟩ := exOA_ok (P := P) (g := g) h'
    refine ⟨e1, a1, b1, fun E K2 hl hk u hu => ?_⟩
    rw [vrel_eq hne] at hu
    exact vrel_of_arel (r1 E _ K2 ⟨[], by simp⟩ hl hk u hu)

theorem exOA_ne {x y : VV} {acc acc' : List Out} (h : exOA m H x acc = some (y, acc')) : ∀ vs, x ≠ .tup vs := by
  rintro vs rfl
  simp [exOA, exOC] at h
theorem exOAs_ne : ∀ {xs ys : List VV} {acc acc' : List Out}, exOAs m H xs acc = some (ys, acc') → ∀ x ∈ xs, ∀ vs, x ≠ .tup vs
  | [], ys, acc, acc', h => fun x hx => by simp at hx
  | x :: xs, ys, acc, acc', h => by
    simp only [exOAs] at h
    split at h
    · rename_i y acc1 h1
      split at h
      · rename_i ys1 acc2 h2
        intro z hz
        rcases List.mem_cons.1 hz with rfl | hz
        · exact exOA_ne h1
        · exact exOAs_ne h2 z hz
      · cases h
    · cases h

/-- The entries, as they come out. -/
theorem exEs_ok : ∀ {Ks K2 : List Ent} {acc acc' : List Out}, exEs m H Ks acc = some (K2, acc') → (∃ z, acc' = acc ++ z) ∧ (AccOK H acc → AccOK H acc') ∧ (TokGe m acc → TokGe m acc') ∧ K2.length = Ks.length ∧
    (∀ (k : Nat) (y : Ent), K2[k]? = some y → ∃ x, Ks[k]? = some x ∧ match y with
      | .dead => True
      | .root e rows => x = .root e rows
      | .box ys => ∃ cs, x = .box cs ∧ ys.length = cs.length ∧ ∀ (E : Env) (fin : List Out) (K3 : List Ent), (∃ z, fin = acc' ++ z) → K3.length = m → Keeps H K3 → ∀ (j : Nat) (c d : VV) (u : Value), cs[j]? = some c → ys[j]? = some d → CRel P E H g c u → CRel P E (HpE (K3 ++ fin.map rootOf)) (g.outO m fin) d u)
  | [], K2, acc, acc', h => by
    simp only [exEs, Option.some.injEq, Prod.mk.injEq] at h
    obtain ⟨rfl, rfl⟩ := h
    exact ⟨⟨[], by simp⟩, fun h => h, fun h => h, rfl, fun k y hy => by simp at hy⟩
  | .box cs :: xs, K2, acc, acc', h => by
    simp only [exEs] at h
    split at h
    · rename_i ys acc1 h1
      split at h
      · rename_i zs acc2 h2
        simp only [Option.some.injEq, Prod.mk.injEq] at h
        obtain ⟨rfl, rfl⟩ := h
        obtain ⟨⟨z1, e1⟩, a1, b1, o1, l1, r1⟩ := exOCs_ok (P := P) (g := g) h1
        obtain ⟨⟨z2, e2⟩, a2, b2, l2, r2⟩ := exEs_ok h2
        refine ⟨⟨z1 ++ z2, by rw [e2, e1, List.append_assoc]⟩, fun h => a2 (a1 h), fun h => b2 (b1 h), by simp [l2], fun k y hy => ?_⟩
        cases k with
        | zero =>
          simp only [List.getElem?_cons_zero, Option.some.injEq] at hy
          subst hy
          refine ⟨_, rfl, cs, rfl, l1, fun E fin K3 hf hl hk j c d u hc hd hu => ?_⟩
          obtain ⟨z, rfl⟩ := hf
          exact r1 E _ K3 ⟨z2 ++ z, by rw [e2, List.append_assoc]⟩ hl hk j c d u hc hd hu
        | succ k => exact r2 k y (by simpa using hy)
      · cases h
    · cases h
  | .root e rows :: xs, K2, acc, acc', h => by
    simp only [exEs] at h
    split at h
    · rename_i zs acc2 h2
      simp only [Option.some.injEq, Prod.mk.injEq] at h
      obtain ⟨rfl, rfl⟩ := h
      obtain ⟨e2, a2, b2, l2, r2⟩ := exEs_ok h2
      refine ⟨e2, a2, b2, by simp [l2], fun k y hy => ?_⟩
      cases k with
      | zero =>
        simp only [List.getElem?_cons_zero, Option.some.injEq] at hy
        subst hy
        exact ⟨_, rfl, rfl⟩
      | succ k => exact r2 k y (by simpa using hy)
    · cases h
  | .dead :: xs, K2, acc, acc', h => by
    simp only [exEs] at h
    split at h
    · rename_i zs acc2 h2
      simp only [Option.some.injEq, Prod.mk.injEq] at h
      obtain ⟨rfl, rfl⟩ := h
      obtain ⟨e2, a2, b2, l2, r2⟩ := exEs_ok h2
      refine ⟨e2, a2, b2, by simp [l2], fun k y hy => ?_⟩
      cases k with
      | zero =>
        simp only [List.getElem?_cons_zero, Option.some.injEq] at hy
        subst hy
        exact ⟨_, rfl, trivial⟩
      | succ k => exact r2 k y (by simpa using hy)
    · cases h

theorem hrel_outO (h : HRel P E g H w) {acc : List Out} (ha : AccOK H acc) (hn : (acc.filterMap (·.1)).Nodup) (hge : TokGe m acc) (hpur : ∀ x ∈ acc, PurRows x.2.2) {K2 : List Ent} (hl : K2.length = m)
    (hK : ∀ (k : Nat) (y : Ent), K2[k]? = some y → match y with
      | .dead => True
      | .root e rows => H k = .root e rows ∧ PurRows rows
      | .box ys => ∃ cs, H k = .box cs ∧ ys.length = cs.length ∧ ∀ (j : Nat) (c d : VV) (u : Value), cs[j]? = some c → ys[j]? = some d → CRel P E H g c u → CRel P E (HpE (K2 ++ acc.map rootOf)) (g.outO m acc) d u) :
    HRel P E (g.outO m acc) (HpE (K2 ++ acc.map rootOf)) w := by
  refine ⟨h.frm, fun j e rows hj p e2 rows2 hat => ?_, fun j cs hj => ?_, fun j hj => ?_⟩
  · rw [hpE_out hl] at hj
    by_cases hjm : j < m
    · rw [if_pos hjm] at hj
      have hget : K2[j]? = some K2[j] := List.getElem?_eq_getElem (by omega)
      rw [hget, Option.getD_some] at hj
      have hk := hK j _ hget
      rw [hj] at hk
      obtain ⟨hroot, hpr⟩ := hk
      have hpr2 : PurRows rows2 := pur_at p (.list e rows) (.list _ _ hpr) e2 rows2 hat
      have hhd : ∀ q, (g.outO m acc).hd j q = g.hd j q := fun q => by simp only [Gh.outO, if_pos hjm]
      rcases h.node j e rows hroot p e2 rows2 hat with ⟨h1, h2⟩ | ⟨b, cap, cur, h1, h2, h3, h4, h5, h6, h7, h8⟩
      · exact .inl ⟨by rw [hhd]; exact h1, h2⟩
      · refine .inr ⟨b, cap, cur, by rw [hhd]; exact h1, by simp only [Gh.outO, h2, if_pos hjm], h3, h4, h5, h6, h7, fun i r hr => ?_⟩
        obtain ⟨h9, h10⟩ := h8 i r hr
        refine ⟨h9, fun k c hc => ?_⟩
        obtain ⟨u, h11, h12⟩ := h10 k c hc
        refine ⟨u, h11, ?_⟩
        rw [hhd]
        have := hpr2 r (List.mem_of_getElem? hr) c (List.mem_of_getElem? hc)
        cases this <;> exact h12
    · rw [if_neg hjm] at hj
      obtain ⟨T, hT⟩ : ∃ T, acc[j - m]? = some (T, e, rows) := by
        cases hx : acc[j - m]? with
        | none => rw [hx] at hj; cases hj
        | some x =>
          obtain ⟨T, e', rows'⟩ := x
          rw [hx] at hj
          simp only [Option.map_some, rootOf, Option.getD_some, Ent.root.injEq] at hj
          obtain ⟨rfl, rfl⟩ := hj
          exact ⟨T, rfl⟩
      have hok := ha (j - m) _ hT
      have hpr : PurRows rows := hpur _ (List.mem_of_getElem? hT)
      have hpr2 : PurRows rows2 := pur_at p (.list e rows) (.list _ _ hpr) e2 rows2 hat
      cases T with
      | none =>
        have : rows = [] := hok
        subst this
        cases p with
        | nil =>
          simp only [At, Option.some.injEq, Prod.mk.injEq] at hat
          obtain ⟨rfl, rfl⟩ := hat
          exact .inl ⟨by simp only [Gh.outO, if_neg hjm, hT], rfl⟩
        | cons x q => obtain ⟨i, k⟩ := x; simp [At] at hat
      | some T =>
        obtain ⟨rows0, hroot, hlen, hrows⟩ := hok
        have hfind := find_tok hn hT
        have hTm : ¬ T < m := Nat.not_lt.2 (hge _ (List.mem_of_getElem? hT) T rfl)
        have hown : ∀ b q, g.own b = some (T, q) → (g.outO m acc).own b = some (j, q) := fun b q hb => by
          simp only [Gh.outO, hb, if_neg hTm, hfind, Option.map_some]
          rw [Nat.add_sub_cancel' (Nat.not_lt.1 hjm)]
        cases p with
        | nil =>
          simp only [At, Option.some.injEq, Prod.mk.injEq] at hat
          obtain ⟨rfl, rfl⟩ := hat
          have hhd : (g.outO m acc).hd j [] = cutv rows.length (g.hd T []) := by simp only [Gh.outO, if_neg hjm, hT, if_true]
          rcases h.node T e rows0 hroot [] e rows0 rfl with ⟨h1, h2⟩ | ⟨b, cap, cur, h1, h2, h3, h4, h5, h6, h7, h8⟩
          · subst h2
            have : rows = [] := by simpa using hrows
            subst this
            exact .inl ⟨by rw [hhd, h1]; rfl, rfl⟩
          · refine .inr ⟨b, cap, cur, by rw [hhd, h1]; rfl, hown b [] h2, h3, h4, by omega, h6, h7, fun i r hr => ?_⟩
            have hcp := hpr r (List.mem_of_getElem? hr)
            rw [hrows, List.getElem?_take] at hr
            split at hr
            · obtain ⟨h9, h10⟩ := h8 i r hr
              refine ⟨h9, fun k c hc => ?_⟩
              obtain ⟨u, h11, h12⟩ := h10 k c hc
              refine ⟨u, h11, ?_⟩
              have hhd2 : (g.outO m acc).hd j ([] ++ [(i, k)]) = g.hd T ([] ++ [(i, k)]) := by simp [Gh.outO, hjm, hT]
              rw [hhd2]
              have := hcp c (List.mem_of_getElem? hc)
              cases this <;> exact h12
            · cases hr
        | cons x q =>
          obtain ⟨i0, j0⟩ := x
          have hat' : At ((i0, j0) :: q) (.list e rows0) = some (e2, rows2) := by
            rw [hrows] at hat
            exact At_take hat
          have hhd : ∀ q', (g.outO m acc).hd j ((i0, j0) :: q') = g.hd T ((i0, j0) :: q') := fun q' => by simp [Gh.outO, hjm, hT]
          rcases h.node T e rows0 hroot _ e2 rows2 hat' with ⟨h1, h2⟩ | ⟨b, cap, cur, h1, h2, h3, h4, h5, h6, h7, h8⟩
          · exact .inl ⟨by rw [hhd]; exact h1, h2⟩
          · refine .inr ⟨b, cap, cur, by rw [hhd]; exact h1, hown b _ h2, h3, h4, h5, h6, h7, fun i r hr => ?_⟩
            obtain ⟨h9, h10⟩ := h8 i r hr
            refine ⟨h9, fun k c hc => ?_⟩
            obtain ⟨u, h11, h12⟩ := h10 k c hc
            refine ⟨u, h11, ?_⟩
            rw [List.cons_append, hhd]
            have := hpr2 r (List.mem_of_getElem? hr) c (List.mem_of_getElem? hc)
            cases this <;> exact h12
  · rw [hpE_out hl] at hj
    by_cases hjm : j < m
    · rw [if_pos hjm] at hj
      have hget : K2[j]? = some K2[j] := List.getElem?_eq_getElem (by omega)
      rw [hget, Option.getD_some] at hj
      have hk := hK j _ hget
      rw [hj] at hk
      obtain ⟨cs0, hbox, hlen, hc⟩ := hk
      obtain ⟨cur, e, b1, b2, b3⟩ := h.box j cs0 hbox
      refine ⟨cur, e, b1, by simp only [Gh.outO, b2], fun k d hd => ?_⟩
      have hlt : k < cs0.length := by rw [← hlen]; exact (List.getElem?_eq_some_iff.1 hd).1
      obtain ⟨n1, n2, u, n3, n4⟩ := b3 k cs0[k] (List.getElem?_eq_getElem hlt)
      exact ⟨n1, n2, u, n3, hc k _ d u (List.getElem?_eq_getElem hlt) hd n4⟩
    · rw [if_neg hjm] at hj
      cases hx : acc[j - m]? with
      | none => rw [hx] at hj; cases hj
      | some x => rw [hx] at hj; cases hj
  · rw [hpE_out hl] at hj
    by_cases hjm : j < m
    · rw [if_pos hjm] at hj
      have hget : K2[j]? = some K2[j] := List.getElem?_eq_getElem (by omega)
      rw [hget, Option.getD_some] at hj
      simp only [Gh.outO, if_pos hjm]
      have hk := hK j _ hget
      refine h.seen j ?_
      cases hx : K2[j] with
      | dead => rw [hx] at hj; cases hj
      | root e rows => rw [hx] at hk; simp [hk.1, Ent.live]
      | box cs => rw [hx] at hk; obtain ⟨_, hb, _⟩ := hk; simp [hb, Ent.live]
    · rw [if_neg hjm] at hj
      cases hx : acc[j - m]? with
      | none => rw [hx] at hj; cases hj
      | some x =>
        have := (List.getElem?_eq_some_iff.1 hx).1
        simp only [Gh.outO, if_neg hjm, decide_eq_true_eq]
        omega

def St.initO (args : List VV) (I : List Ent) (m n : Nat) : St := ⟨fun t => (args[t]?).getD .any, HpE I, m, n, none⟩
def RetQO (P : Program) (ty : Ty) (rs : List ResultVar) (m : Nat) (v : VV) (O : List Ent) : Exit → St → Prop
  | .normal, s => RetO P ty rs m v O s
  | .ret, s => RetO P ty rs m v O s
  | _, _ => False

theorem resultsO_ok (hT : TyOK P ty) (h : Rel P E g s a w) {fn : Func} {vs : List VV} (hv : vres ty s fn.results.toList = some vs) {H' : Heap} {v : VV} {acc acc' : List Out} (he : exOV m H' (wrap vs) acc = some (v, acc')) :
    ∃ val, (results fn a.tmps).run P w = .ok val w ∧ VRel P E s.H g (wrap vs) val := by
  obtain ⟨us, h1, h2, h3⟩ := results_run hT h _ _ hv
  have hr : (results fn a.tmps).run P w = .ok (if h : us.toArray.size = 1 then us.toArray[0] else .tuple us.toArray) w := by
    rw [results_eq, Array.mapM_eq_mapM_toList]
    simp only [Sem.run_bind, Sem.run_map, h1, Result.andThen_ok, Sem.run_pure]
  refine ⟨_, hr, ?_⟩
  match vs, us, h2, h3, he with
  | [], [], _, _, _ => exact undef_rel
  | [x], [u], _, h3, _ => exact h3 0 x u rfl rfl
  | x :: y :: vs, u1 :: u2 :: us, h2, h3, he =>
    have hw : wrap (x :: y :: vs) = .tup (x :: y :: vs) := rfl
    rw [hw] at he ⊢
    have hd : ¬ (u1 :: u2 :: us).toArray.size = 1 := by simp
    rw [dif_neg hd]
    refine ⟨_, rfl, h2, fun j c u hc hu => ?_⟩
    have := h3 j c u hc hu
    simp only [exOV] at he
    split at he
    · rename_i ys acc1 h1
      have hne := exOAs_ne h1 c (List.mem_of_getElem? hc)
      rwa [vrel_eq hne] at this
    · cases he

theorem satO_of_body (hT : TyOK P ty) {f : FuncId} {fn : Func} {c : Code} {args : List VV} {I : List Ent} {v : VV} {O : List Ent} (hf : P.funcs[f]? = some fn) (hname : (fn.name == "runtime.NumGoroutine") = false)
    (hb : fn.body = some c) {rs : List ResultVar} (hrs : fn.results.toList = rs) {n : Nat} (hn : fn.ntmps = n) (hlen : args.length ≤ n) (hout : outV v = true) {m : Nat} (hm : I.length = m) (hkept : keptL I O)
    (hbody : ∀ E, VWP P E c (RetQO P ty rs m v O) (St.initO args I m n)) : SatO P f args I v O := by
  subst hrs
  subst hn
  subst hm
  obtain ⟨kl, kk, kn⟩ := keptL_spec hkept
  refine ⟨⟨fn, hf, hname, by rw [hb]; rfl⟩, hout, kl, kk, kn, fun E g0 w vals hw h hsn hvl hva => ?_⟩
  let E2 : Env := ⟨E.w0, E.own, HLe g0 (HpE I), fun g H g' H' h1 h2 => h2.trans h1⟩
  have hh : HRel P E2 g0 (HpE I) w := ⟨⟨h.frm.os, h.frm.tape, h.frm.output, h.frm.size, h.frm.cells, h.frm.other⟩, h.node, h.box, h.seen⟩
  have hrel : Rel P E2 g0 (St.initO args I I.length fn.ntmps) { tmps := vals.toArray ++ Array.replicate (fn.ntmps - vals.toArray.size) undef, defers := [] } w := by
    refine ⟨by simp [St.initO]; omega, rfl, hh, fun T hT => hsn T hT.1, fun t => ?_, HLe.refl _ _⟩
    simp only [St.initO]
    cases ht : args[t]? with
    | none => trivial
    | some x =>
      have hlt : t < vals.length := by rw [hvl]; exact (List.getElem?_eq_some_iff.1 ht).1
      have hu : (vals.toArray ++ Array.replicate (fn.ntmps - vals.toArray.size) undef).getD t undef = vals[t] := by
        rw [Array.getD_eq_getD_getElem?, Array.getElem?_append_left (by simpa using hlt)]
        simp [hlt]
      rw [hu]
      exact vrel_of_arel (P := P) (E := E2) (hva t x _ ht (List.getElem?_eq_getElem hlt))
  refine calls_of_wp hf hb (Go.wp_mono (hbody E2 _ _ _ hrel) fun e a w' he => ?_)
  have key : ∀ g s, Rel P E2 g s a w' → RetO P ty fn.results.toList I.length v O s → a.defers = [] ∧ ∃ val, (results fn a.tmps).run P w' = .ok val w' ∧
      ∃ val' g', Ending.returned val = .returned val' ∧ HRel P E g' (HpE O) w' ∧ (∀ T, O.length ≤ T → g'.sn T = false) ∧ HLe g0 (HpE I) g' (HpE O) ∧ VRel P E (HpE O) g' v val' := by
    intro g s h hr
    obtain ⟨ms, H', Ks, K2, acc1, vs, acc, r0, r1, r2, r3, r4, r5, r6, rfl⟩ := hr
    obtain ⟨val, k1, k2⟩ := resultsO_ok hT h r4 r5
    obtain ⟨g1, j1, j2⟩ := rel_merges h r0
    have k2 := vrel_mono j2 k2
    obtain ⟨⟨z1, _⟩, p2, p3, p4, p5⟩ := exEs_ok (P := P) (g := g1) r3
    obtain ⟨q1, q2, q3, q4⟩ := exOV_ok (P := P) (g := g1) r5
    have hacc : AccOK H' acc := q2 (p2 fun j x hj => by simp at hj)
    have hge : TokGe I.length acc := q3 (p3 fun x hx => by simp at hx)
    have hl : K2.length = I.length := by rw [p4, r1]
    have hkr : ∀ (k : Nat) (y : Ent), K2[k]? = some y → (K2 ++ acc.map rootOf)[k]? = some y := fun k y hk => by
      rw [List.getElem?_append_left (by have := (List.getElem?_eq_some_iff.1 hk).1; exact this)]; exact hk
    have hkeep : Keeps H' K2 := fun T hT => by
      cases hk : K2[T]? with
      | none => rw [hk] at hT; cases hT
      | some y =>
        rw [hk, Option.getD_some] at hT
        obtain ⟨x, hx, hy⟩ := p5 T y hk
        cases y with
        | dead => cases hT
        | box cs => cases hT
        | root e rows =>
          have : x = .root e rows := hy
          subst this
          rw [r2 T _ hx]; rfl
    have hpur : ∀ x ∈ acc, PurRows x.2.2 := fun x hx => by
      obtain ⟨j, hj⟩ := List.getElem?_of_mem hx
      exact kn (I.length + j) (rootOf x) (by omega) (by rw [← hl, List.getElem?_append_right (by omega), Nat.add_sub_cancel_left]; simp [hj])
    have hK : ∀ (k : Nat) (y : Ent), K2[k]? = some y → match y with
      | .dead => True
      | .root e rows => H' k = .root e rows ∧ PurRows rows
      | .box ys => ∃ cs, H' k = .box cs ∧ ys.length = cs.length ∧ ∀ (j : Nat) (c d : VV) (u : Value), cs[j]? = some c → ys[j]? = some d → CRel P E2 H' g1 c u → CRel P E2 (HpE (K2 ++ acc.map rootOf)) (g1.outO I.length acc) d u := by
      intro k y hk
      obtain ⟨x, hx, hy⟩ := p5 k y hk
      cases y with
      | dead => trivial
      | root e rows =>
        have : x = .root e rows := hy
        subst this
        refine ⟨r2 k _ hx, ?_⟩
        have hlt : k < I.length := by rw [← hl]; exact (List.getElem?_eq_some_iff.1 hk).1
        have := kk k I[k] _ (List.getElem?_eq_getElem hlt) (hkr k _ hk)
        cases hi : I[k] with
        | root e' rows' => rw [hi] at this; exact this.2
        | box cs => rw [hi] at this; exact this.elim
        | dead => rw [hi] at this; exact this.elim
      | box ys =>
        obtain ⟨cs, rfl, h2, h3⟩ := hy
        exact ⟨cs, r2 k _ hx, h2, fun j c d u hc hd hu => h3 E2 acc K2 q1 hl hkeep j c d u hc hd hu⟩
    have hfin := hrel_outO (m := I.length) j1.heap hacc r6 hge hpur hl hK
    have hpin : HLe g0 (HpE I) g1 H' := j1.pin
    have hv := q4 E2 K2 hl hkeep val k2
    have hsm : ∀ T, g0.sn T = true → T < I.length := fun T hT => by
      rcases Nat.lt_or_ge T I.length with c | c
      · exact c
      · rw [hsn T c] at hT; cases hT
    have hat : ∀ T, T < I.length → ∃ y, K2[T]? = some y ∧ HpE (K2 ++ acc.map rootOf) T = y ∧ ∃ x, Ks[T]? = some x := fun T hT => by
      have hg : K2[T]? = some K2[T] := List.getElem?_eq_getElem (by omega)
      obtain ⟨x, hx, _⟩ := p5 T _ hg
      exact ⟨K2[T], hg, by rw [hpE_out hl, if_pos hT, hg]; rfl, x, hx⟩
    have hle : HLe g0 (HpE I) (g1.outO I.length acc) (HpE (K2 ++ acc.map rootOf)) := by
      refine ⟨fun T hT => ?_, fun T e rows hT hr => ?_, fun T hT hr => ?_, fun T hT hr => ?_, fun T hT hr => ?_⟩
      · simp only [Gh.outO, if_pos (hsm T hT)]; exact hpin.sn T hT
      · obtain ⟨y, y1, y2, _⟩ := hat T (hsm T hT)
        rw [y2] at hr
        subst hr
        exact hpin.root T e rows hT (hK T _ y1).1
      · obtain ⟨y, y1, y2, _⟩ := hat T (hsm T hT)
        rw [y2] at hr
        refine hpin.live T hT ?_
        have := hK T y y1
        cases y with
        | dead => cases hr
        | root e rows => simp [this.1, Ent.live]
        | box ys => obtain ⟨cs, hb, _⟩ := this; simp [hb, Ent.live]
      · obtain ⟨y, y1, y2, _⟩ := hat T (hsm T hT)
        rw [y2] at hr
        simp only [Gh.outO, if_pos (hsm T hT)]
        refine hpin.hd T hT ?_
        have := hK T y y1
        cases y with
        | dead => cases hr
        | root e rows => simp [this.1, Ent.isRoot]
        | box ys => cases hr
      · obtain ⟨y, y1, y2, _⟩ := hat T (hsm T hT)
        rw [y2] at hr
        refine hpin.bx T hT ?_
        have := hK T y y1
        cases y with
        | dead => cases hr
        | root e rows => simp [this.1, Ent.live]
        | box ys => obtain ⟨cs, hb, _⟩ := this; simp [hb, Ent.live]
    refine ⟨h.defers, val, k1, val, g1.outO I.length acc, rfl, ⟨⟨hfin.frm.os, hfin.frm.tape, hfin.frm.output, hfin.frm.size, hfin.frm.cells, hfin.frm.other⟩, hfin.node, hfin.box, hfin.seen⟩, fun T hT => ?_, hle, hv⟩
    have : ¬ T < I.length + acc.length := by simp only [List.length_append, List.length_map, hl] at hT; omega
    have h2 : ¬ T < I.length := by omega
    simp only [Gh.outO, if_neg h2, this, decide_false]
  cases e with
  | normal => obtain ⟨g, s, h1, h2⟩ := he; exact key g s h1 h2
  | ret => obtain ⟨g, s, h1, h2⟩ := he; exact key g s h1 h2
  | exit i => obtain ⟨g, s, h1, h2⟩ := he; exact h2
  | _ => exact he.elim
end
end Go.Proofs.Ytclljpdcpcolpaa
