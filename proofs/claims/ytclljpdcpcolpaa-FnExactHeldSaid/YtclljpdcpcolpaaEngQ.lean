/- The value-level engine, seventeenth part: what a function hands back, and its body as a contract. -/
import Derived.Test.YtclljpdcpcolpaaEngP
namespace Go.Proofs.Ytclljpdcpcolpaa
open Go Go.RowKit
set_option linter.unusedVariables false
set_option linter.unusedSimpArgs false

def vres (ty : Ty) (s : St) : List ResultVar → Option (List VV)
  | [] => some []
  | .tmp t :: rs => match vres ty s rs with
    | some vs => some (s.tm t :: vs)
    | none => none
  | .cell p t :: rs => match vLoad ty s t (s.tm p), vres ty s rs with
    | some v, some vs => some (v :: vs)
    | _, _ => none

def wrap : List VV → VV
  | [v] => v
  | vs => .tup vs

/-- One slice that is handed back: the token, or none for nil. -/
abbrev Out := Option Nat × TypeId × List (List PT)

def exC (H : Heap) (x : VV) (acc : List Out) : Option (VV × List Out) :=
  match x with
  | .rf T n => match H T with
    | .root e rows => if n ≤ rows.length then some (.rf acc.length n, acc ++ [(some T, e, rows.take n)]) else none
    | _ => none
  | .nl e => some (.rf acc.length 0, acc ++ [(none, e, [])])
  | .int k n => some (.int k n, acc)
  | .bool b => some (.bool b, acc)
  | .str s => some (.str s, acc)
  | .err b => some (.err b, acc)
  | .any => some (.any, acc)
  | _ => none
def exCs (H : Heap) : List VV → List Out → Option (List VV × List Out)
  | [], acc => some ([], acc)
  | x :: xs, acc => match exC H x acc with
    | some (y, acc) => match exCs H xs acc with
      | some (ys, acc) => some (y :: ys, acc)
      | none => none
    | none => none
def exA (H : Heap) (x : VV) (acc : List Out) : Option (VV × List Out) :=
  match x with
  | .agg vs => match exCs H vs acc with
    | some (ys, acc) => some (.agg ys, acc)
    | none => none
  | x => exC H x acc
def exAs (H : Heap) : List VV → List Out → Option (List VV × List Out)
  | [], acc => some ([], acc)
  | x :: xs, acc => match exA H x acc with
    | some (y, acc) => match exAs H xs acc with
      | some (ys, acc) => some (y :: ys, acc)
      | none => none
    | none => none
def exV (H : Heap) (x : VV) : Option (VV × List Out) :=
  match x with
  | .tup vs => match exAs H vs [] with
    | some (ys, acc) => some (.tup ys, acc)
    | none => none
  | x => exA H x []

def Gh.out (g : Gh) (acc : List Out) : Gh :=
  { hd := fun j p => match acc[j]? with
      | some (some T, _, rows) => if p = [] then cutv rows.length (g.hd T []) else g.hd T p
      | some (none, _, _) => .slice none 0 0
      | none => undef
    bx := fun _ => (0, 0)
    own := fun b => match g.own b with
      | some (T, p) => (acc.findIdx? fun x => x.1 == some T).map fun j => (j, p)
      | none => none
    ob := fun _ _ => none
    sn := fun j => decide (j < acc.length) }

def AccOK (H : Heap) (acc : List Out) : Prop := ∀ (j : Nat) (x : Out), acc[j]? = some x → match x with
  | (some T, e, rows) => ∃ rows0, H T = .root e rows0 ∧ rows.length ≤ rows0.length ∧ rows = rows0.take rows.length
  | (none, _, rows) => rows = []

/-- What may be handed back. -/
def RetOK (P : Program) (ty : Ty) (rs : List ResultVar) (v : VV) (l : List (TypeId × List (List PT))) (s : St) : Prop :=
  ∃ ms H' vs acc, merges ms s.H = some H' ∧ vres ty s rs = some vs ∧ exV H' (wrap vs) = some (v, acc) ∧ (acc.filterMap (·.1)).Nodup ∧ acc.map (·.2) = l ∧ ∀ x ∈ l, PurRows x.2

section
variable {P : Program} {E : Env} {g g' : Gh} {s : St} {a : Act} {w w' : World} {ty : Ty} {H : Heap}

theorem cutv_cutv (n : Nat) (v : Value) : cutv n (cutv n v) = cutv n v := by cases v <;> rfl

theorem accOK_snoc {acc : List Out} {x : Out} (h : AccOK H acc) (hx : AccOK H [x]) : AccOK H (acc ++ [x]) := by
  intro j y hj
  rw [List.getElem?_append] at hj
  split at hj
  · exact h j y hj
  · rename_i hge
    have h1 := (List.getElem?_eq_some_iff.1 hj).1
    simp only [List.length_singleton] at h1
    have h0 : j - acc.length = 0 := by omega
    rw [h0] at hj
    exact hx 0 y hj

theorem exC_ok {x y : VV} {acc acc' : List Out} (h : exC H x acc = some (y, acc')) : (∃ z, acc' = acc ++ z) ∧ (AccOK H acc → AccOK H acc') ∧ outC y = true ∧
    ∀ (E : Env) (fin : List Out), (∃ z, fin = acc' ++ z) → ∀ u, CRel P E H g x u → CRel P E (Hp (fin.map (·.2))) (g.out fin) y u := by
  have triv : ∀ {x : VV}, outC x = true → (∀ T n, x ≠ .rf T n) → x = y ∧ acc = acc' → (∃ z, acc' = acc ++ z) ∧ (AccOK H acc → AccOK H acc') ∧ outC y = true ∧
    ∀ (E : Env) (fin : List Out), (∃ z, fin = acc' ++ z) → ∀ u, CRel P E H g x u → CRel P E (Hp (fin.map (·.2))) (g.out fin) y u := by
    intro x ho hn he
    obtain ⟨rfl, rfl⟩ := he
    refine ⟨⟨[], by simp⟩, fun h => h, ho, fun E fin hf u hu => ?_⟩
    cases x <;> first | exact hu | exact absurd rfl (hn _ _) | (simp [outC] at ho; done)
  unfold exC at h
  split at h
  · rename_i T n
    split at h
    · rename_i e rows hT
      split at h
      · rename_i hle
        simp only [Option.some.injEq, Prod.mk.injEq] at h
        obtain ⟨rfl, rfl⟩ := h
        have hl : (rows.take n).length = n := by simp; omega
        refine ⟨⟨_, rfl⟩, fun h => accOK_snoc h (fun j x hj => ?_), rfl, fun E fin hf u hu => ?_⟩
        · cases j with
          | zero =>
            simp only [List.getElem?_cons_zero, Option.some.injEq] at hj
            subst hj
            exact ⟨rows, hT, by rw [hl]; exact hle, by rw [hl]⟩
          | succ j => simp at hj
        · obtain ⟨z, rfl⟩ := hf
          obtain ⟨h1, h2, h3⟩ := hu
          refine ⟨by simp [Gh.out], h2, fun _ => ?_⟩
          have hget : (acc ++ [(some T, e, rows.take n)] ++ z)[acc.length]? = some (some T, e, rows.take n) := by simp
          simp only [Gh.out, hget, if_true, hl]
          rw [cutv_cutv]
          exact h3 (by simp [hT, Ent.isRoot])
      · cases h
    · cases h
  · rename_i e
    simp only [Option.some.injEq, Prod.mk.injEq] at h
    obtain ⟨rfl, rfl⟩ := h
    refine ⟨⟨_, rfl⟩, fun h => accOK_snoc h (fun j x hj => ?_), rfl, fun E fin hf u hu => ?_⟩
    · cases j with
      | zero =>
        simp only [List.getElem?_cons_zero, Option.some.injEq] at hj
        subst hj
        rfl
      | succ j => simp at hj
    · obtain ⟨z, rfl⟩ := hf
      have hu : u = .slice none 0 0 := hu
      subst hu
      have hget : (acc ++ [(none, e, [])] ++ z)[acc.length]? = some (none, e, []) := by simp
      refine ⟨by simp [Gh.out], rfl, fun _ => ?_⟩
      simp only [Gh.out, hget]
      rfl
  all_goals first
    | (simp only [Option.some.injEq, Prod.mk.injEq] at h; exact triv rfl (fun _ _ hh => by cases hh) h)
    | cases h

theorem exCs_ok : ∀ {xs ys : List VV} {acc acc' : List Out}, exCs H xs acc = some (ys, acc') → (∃ z, acc' = acc ++ z) ∧ (AccOK H acc → AccOK H acc') ∧ (∀ y ∈ ys, outC y = true) ∧ ys.length = xs.length ∧
    ∀ (E : Env) (fin : List Out), (∃ z, fin = acc' ++ z) → ∀ (j : Nat) (x y : VV) (u : Value), xs[j]? = some x → ys[j]? = some y → CRel P E H g x u → CRel P E (Hp (fin.map (·.2))) (g.out fin) y u
  | [], ys, acc, acc', h => by
    simp only [exCs, Option.some.injEq, Prod.mk.injEq] at h
    obtain ⟨rfl, rfl⟩ := h
    exact ⟨⟨[], by simp⟩, fun h => h, fun y hy => by simp at hy, rfl, fun E fin hf j x y u hx => by simp at hx⟩
  | x :: xs, ys, acc, acc', h => by
    simp only [exCs] at h
    split at h
    · rename_i y acc1 h1
      split at h
      · rename_i ys1 acc2 h2
        simp only [Option.some.injEq, Prod.mk.injEq] at h
        obtain ⟨rfl, rfl⟩ := h
        obtain ⟨⟨z1, e1⟩, a1, o1, r1⟩ := exC_ok (P := P) (g := g) h1
        obtain ⟨⟨z2, e2⟩, a2, o2, l2, r2⟩ := exCs_ok h2
        refine ⟨⟨z1 ++ z2, by rw [e2, e1, List.append_assoc]⟩, fun h => a2 (a1 h), fun c hc => ?_, by simp [l2], fun E fin hf j x' y' u hx hy hu => ?_⟩
        · rcases List.mem_cons.1 hc with rfl | hc
          · exact o1
          · exact o2 c hc
        · cases j with
          | zero =>
            simp only [List.getElem?_cons_zero, Option.some.injEq] at hx hy
            subst hx; subst hy
            obtain ⟨z, rfl⟩ := hf
            exact r1 E _ ⟨z2 ++ z, by rw [e2, List.append_assoc]⟩ u hu
          | succ j => exact r2 E fin hf j x' y' u (by simpa using hx) (by simpa using hy) hu
      · cases h
    · cases h

theorem exA_ok {x y : VV} {acc acc' : List Out} (h : exA H x acc = some (y, acc')) : (∃ z, acc' = acc ++ z) ∧ (AccOK H acc → AccOK H acc') ∧ outA y = true ∧
    ∀ (E : Env) (fin : List Out), (∃ z, fin = acc' ++ z) → ∀ u, ARel P E H g x u → ARel P E (Hp (fin.map (·.2))) (g.out fin) y u := by
  by_cases ha : ∃ vs, x = .agg vs
  · obtain ⟨vs, rfl⟩ := ha
    simp only [exA] at h
    split at h
    · rename_i ys acc1 h1
      simp only [Option.some.injEq, Prod.mk.injEq] at h
      obtain ⟨rfl, rfl⟩ := h
      obtain ⟨e1, a1, o1, l1, r1⟩ := exCs_ok (P := P) (g := g) h1
      refine ⟨e1, a1, by simpa [outA] using o1, fun E fin hf u hu => ?_⟩
      obtain ⟨cs, k1, k2, k3⟩ := hu
      refine ⟨cs, k1, by rw [k2, l1], fun j c v hc hv => ?_⟩
      have hlt : j < vs.length := by rw [← l1]; exact (List.getElem?_eq_some_iff.1 hc).1
      exact r1 E fin hf j _ c v (List.getElem?_eq_getElem hlt) hc (k3 j _ v (List.getElem?_eq_getElem hlt) hv)
    · cases h
  · have hne : ∀ vs, x ≠ .agg vs := fun vs hh => ha ⟨vs, hh⟩
    have h' : exC H x acc = some (y, acc') := by cases x <;> first | exact h | exact absurd rfl (hne _)
    obtain ⟨e1, a1, o1, r1⟩ := exC_ok (P := P) (g := g) h'
    refine ⟨e1, a1, ?_, fun E fin hf u hu => ?_⟩
    · cases y <;> first | exact o1 | (simp [outC] at o1; done)
    · rw [arel_eq hne] at hu
      exact arel_of_crel (r1 E fin hf u hu)

theorem exAs_ok : ∀ {xs ys : List VV} {acc acc' : List Out}, exAs H xs acc = some (ys, acc') → (∃ z, acc' = acc ++ z) ∧ (AccOK H acc → AccOK H acc') ∧ (∀ y ∈ ys, outA y = true) ∧ ys.length = xs.length ∧
    ∀ (E : Env) (fin : List Out), (∃ z, fin = acc' ++ z) → ∀ (j : Nat) (x y : VV) (u : Value), xs[j]? = some x → ys[j]? = some y → ARel P E H g x u → ARel P E (Hp (fin.map (·.2))) (g.out fin) y u
  | [], ys, acc, acc', h => by
    simp only [exAs, Option.some.injEq, Prod.mk.injEq] at h
    obtain ⟨rfl, rfl⟩ := h
    exact ⟨⟨[], by simp⟩, fun h => h, fun y hy => by simp at hy, rfl, fun E fin hf j x y u hx => by simp at hx⟩
  | x :: xs, ys, acc, acc', h => by
    simp only [exAs] at h
    split at h
    · rename_i y acc1 h1
      split at h
      · rename_i ys1 acc2 h2
        simp only [Option.some.injEq, Prod.mk.injEq] at h
        obtain ⟨rfl, rfl⟩ := h
        obtain ⟨⟨z1, e1⟩, a1, o1, r1⟩ := exA_ok (P := P) (g := g) h1
        obtain ⟨⟨z2, e2⟩, a2, o2, l2, r2⟩ := exAs_ok h2
        refine ⟨⟨z1 ++ z2, by rw [e2, e1, List.append_assoc]⟩, fun h => a2 (a1 h), fun c hc => ?_, by simp [l2], fun E fin hf j x' y' u hx hy hu => ?_⟩
        · rcases List.mem_cons.1 hc with rfl | hc
          · exact o1
          · exact o2 c hc
        · cases j with
          | zero =>
            simp only [List.getElem?_cons_zero, Option.some.injEq] at hx hy
            subst hx; subst hy
            obtain ⟨z, rfl⟩ := hf
            exact r1 E _ ⟨z2 ++ z, by rw [e2, List.append_assoc]⟩ u hu
          | succ j => exact r2 E fin hf j x' y' u (by simpa using hx) (by simpa using hy) hu
      · cases h
    · cases h

theorem exV_ok {x y : VV} {acc : List Out} (h : exV H x = some (y, acc)) : AccOK H acc ∧ outV y = true ∧ ∀ (E : Env) u, VRel P E H g x u → VRel P E (Hp (acc.map (·.2))) (g.out acc) y u := by
  have h0 : AccOK H [] := fun j x hj => by simp at hj
  by_cases ha : ∃ vs, x = .tup vs
  · obtain ⟨vs, rfl⟩ := ha
    simp only [exV] at h
    split at h
    · rename_i ys acc1 h1
      simp only [Option.some.injEq, Prod.mk.injEq] at h
      obtain ⟨rfl, rfl⟩ := h
      obtain ⟨e1, a1, o1, l1, r1⟩ := exAs_ok (P := P) (g := g) h1
      refine ⟨a1 h0, by simpa [outV] using o1, fun E u hu => ?_⟩
      obtain ⟨cs, k1, k2, k3⟩ := hu
      refine ⟨cs, k1, by rw [k2, l1], fun j c v hc hv => ?_⟩
      have hlt : j < vs.length := by rw [← l1]; exact (List.getElem?_eq_some_iff.1 hc).1
      exact r1 E _ ⟨[], by simp⟩ j _ c v (List.getElem?_eq_getElem hlt) hc (k3 j _ v (List.getElem?_eq_getElem hlt) hv)
    · cases h
  · have hne : ∀ vs, x ≠ .tup vs := fun vs hh => ha ⟨vs, hh⟩
    have h' : exA H x [] = some (y, acc) := by cases x <;> first | exact h | exact absurd rfl (hne _)
    obtain ⟨e1, a1, o1, r1⟩ := exA_ok (P := P) (g := g) h'
    refine ⟨a1 h0, ?_, fun E u hu => ?_⟩
    · cases y <;> first | exact o1 | (simp [outA, outC] at o1; done)
    · rw [vrel_eq hne] at hu
      exact vrel_of_arel (r1 E _ ⟨[], by simp⟩ u hu)

theorem find_tok : ∀ {acc : List Out} (hn : (acc.filterMap (·.1)).Nodup) {j T : Nat} {x : TypeId × List (List PT)}, acc[j]? = some (some T, x) → acc.findIdx? (fun x => x.1 == some T) = some j
  | [], _, j, T, x, h => by simp at h
  | (t0, y) :: acc, hn, 0, T, x, h => by
    simp only [List.getElem?_cons_zero, Option.some.injEq, Prod.mk.injEq] at h
    obtain ⟨rfl, rfl⟩ := h
    simp [List.findIdx?_cons]
  | (t0, y) :: acc, hn, j + 1, T, x, h => by
    simp only [List.getElem?_cons_succ] at h
    have hmem : T ∈ acc.filterMap (·.1) := List.mem_filterMap.2 ⟨_, List.mem_of_getElem? h, rfl⟩
    have hne : (t0 == some T) = false := by
      cases t0 with
      | none => rfl
      | some t =>
        simp only [List.filterMap_cons_some (show (fun x : Out => x.1) (some t, y) = some t from rfl), List.nodup_cons] at hn
        have : t ≠ T := fun hh => hn.1 (hh ▸ hmem)
        simpa using this
    have hn' : (acc.filterMap (·.1)).Nodup := by
      cases t0 with
      | none => simpa using hn
      | some t =>
        simp only [List.filterMap_cons_some (show (fun x : Out => x.1) (some t, y) = some t from rfl), List.nodup_cons] at hn
        exact hn.2
    rw [List.findIdx?_cons]
    simp only [hne]
    rw [find_tok hn' h]
    rfl

theorem hrel_out (h : HRel P E g H w) {acc : List Out} (ha : AccOK H acc) (hn : (acc.filterMap (·.1)).Nodup) (hpur : ∀ x ∈ acc, PurRows x.2.2) : HRel P E (g.out acc) (Hp (acc.map (·.2))) w := by
  have hget : ∀ (j : Nat) (e : TypeId) (rows : List (List PT)), Hp (acc.map (·.2)) j = .root e rows → ∃ T, acc[j]? = some (T, e, rows) := by
    intro j e rows hj
    simp only [Hp, List.getElem?_map] at hj
    cases hx : acc[j]? with
    | none => rw [hx] at hj; simp at hj
    | some x =>
      obtain ⟨T, e', rows'⟩ := x
      rw [hx] at hj
      simp only [Option.map_some, Ent.root.injEq] at hj
      obtain ⟨rfl, rfl⟩ := hj
      exact ⟨T, rfl⟩
  refine ⟨h.frm, fun j e rows hj p e2 rows2 hat => ?_, fun j cs hj => ?_, fun j hj => ?_⟩
  · obtain ⟨T, hT⟩ := hget j e rows hj
    have hok := ha j _ hT
    have hpr : PurRows rows := hpur _ (List.mem_of_getElem? hT)
    have hpr2 : PurRows rows2 := pur_at p (.list e rows) (.list _ _ hpr) e2 rows2 hat
    cases T with
    | none =>
      have : rows = [] := hok
      subst this
      cases p with
      | nil =>
        simp only [At, Option.some.injEq, Prod.mk.injEq] at hat
        obtain ⟨rfl, rfl⟩ := hat
        exact .inl ⟨by simp only [Gh.out, hT], rfl⟩
      | cons x q => obtain ⟨i, k⟩ := x; simp [At] at hat
    | some T =>
      obtain ⟨rows0, hroot, hlen, hrows⟩ := hok
      have hfind := find_tok hn hT
      have hown : ∀ b q, g.own b = some (T, q) → (g.out acc).own b = some (j, q) := fun b q hb => by
        simp only [Gh.out, hb, hfind, Option.map_some]
      cases p with
      | nil =>
        simp only [At, Option.some.injEq, Prod.mk.injEq] at hat
        obtain ⟨rfl, rfl⟩ := hat
        have hhd : (g.out acc).hd j [] = cutv rows.length (g.hd T []) := by simp only [Gh.out, hT, if_true]
        rcases h.node T e rows0 hroot [] e rows0 rfl with ⟨h1, h2⟩ | ⟨b, cap, cur, h1, h2, h3, h4, h5, h6, h7, h8⟩
        · subst h2
          have : rows = [] := by simpa using hrows
          subst this
          exact .inl ⟨by rw [hhd, h1]; rfl, rfl⟩
        · refine .inr ⟨b, cap, cur, by rw [hhd, h1]; rfl, hown b [] h2, h3, h4, by omega, h6, h7, fun i r hr => ?_⟩
          have hcp := hpr r (List.mem_of_getElem? hr)
          rw [hrows, List.getElem?_take] at hr
          split at hr
          · obtain ⟨h9, h10⟩ := h8 i r hr
            refine ⟨h9, fun k c hc => ?_⟩
            obtain ⟨u, h11, h12⟩ := h10 k c hc
            refine ⟨u, h11, ?_⟩
            have hhd2 : (g.out acc).hd j ([] ++ [(i, k)]) = g.hd T ([] ++ [(i, k)]) := by simp [Gh.out, hT]
            rw [hhd2]
            have := hcp c (List.mem_of_getElem? hc)
            cases this <;> exact h12
          · cases hr
      | cons x q =>
        obtain ⟨i0, j0⟩ := x
        have hat' : At ((i0, j0) :: q) (.list e rows0) = some (e2, rows2) := by
          simp only [At] at hat ⊢
          rw [hrows, List.getElem?_take] at hat
          split at hat
          · exact hat
          · simp at hat
        have hhd : ∀ q', (g.out acc).hd j ((i0, j0) :: q') = g.hd T ((i0, j0) :: q') := fun q' => by simp [Gh.out, hT]
        rcases h.node T e rows0 hroot _ e2 rows2 hat' with ⟨h1, h2⟩ | ⟨b, cap, cur, h1, h2, h3, h4, h5, h6, h7, h8⟩
        · exact .inl ⟨by rw [hhd]; exact h1, h2⟩
        · refine .inr ⟨b, cap, cur, by rw [hhd]; exact h1, hown b _ h2, h3, h4, h5, h6, h7, fun i r hr => ?_⟩
          obtain ⟨h9, h10⟩ := h8 i r hr
          refine ⟨h9, fun k c hc => ?_⟩
          obtain ⟨u, h11, h12⟩ := h10 k c hc
          refine ⟨u, h11, ?_⟩
          rw [List.cons_append, hhd]
          have := hpr2 r (List.mem_of_getElem? hr) c (List.mem_of_getElem? hc)
          cases this <;> exact h12
  · simp only [Hp] at hj
    split at hj <;> cases hj
  · have : j < acc.length := by
      rcases Nat.lt_or_ge j acc.length with hh | hh
      · exact hh
      · simp [Hp, hh, Ent.live] at hj
    simp [Gh.out, this]

def resSem (tmps : Array Value) : ResultVar → Sem Value
  | .tmp t => pure (tmps.getD t undef)
  | .cell p t => do loadVar t (← asAddr (tmps.getD p undef))

theorem results_eq (fn : Func) (tmps : Array Value) : results fn tmps = (do let vs ← fn.results.mapM (resSem tmps); pure (if h : vs.size = 1 then vs[0] else .tuple vs)) := by
  unfold results
  congr 2

theorem results_run (hT : TyOK P ty) (h : Rel P E g s a w) : ∀ (l : List ResultVar) (vs : List VV), vres ty s l = some vs →
    ∃ us : List Value, (l.mapM (resSem a.tmps)).run P w = .ok us w ∧ us.length = vs.length ∧
      ∀ (j : Nat) (x : VV) (u : Value), vs[j]? = some x → us[j]? = some u → VRel P E s.H g x u
  | [], vs, hv => by
    simp only [vres, Option.some.injEq] at hv
    subst hv
    exact ⟨[], by simp, rfl, fun j x u hx => by simp at hx⟩
  | .tmp t :: rs, vs, hv => by
    simp only [vres] at hv
    split at hv
    · rename_i vs' hv'
      simp only [Option.some.injEq] at hv
      subst hv
      obtain ⟨us, h1, h2, h3⟩ := results_run hT h rs vs' hv'
      refine ⟨a.tmps.getD t undef :: us, by simp only [List.mapM_cons, resSem, Sem.run_bind, Sem.run_pure, Result.andThen_ok, h1], by simp [h2], fun j x u hx hu => ?_⟩
      cases j with
      | zero =>
        simp only [List.getElem?_cons_zero, Option.some.injEq] at hx hu
        subst hx; subst hu
        exact h.tmps t
      | succ j => exact h3 j x u (by simpa using hx) (by simpa using hu)
    · cases hv
  | .cell p t :: rs, vs, hv => by
    simp only [vres] at hv
    split at hv
    · rename_i v vs' hl hv'
      simp only [Option.some.injEq] at hv
      subst hv
      obtain ⟨us, h1, h2, h3⟩ := results_run hT h rs vs' hv'
      obtain ⟨u0, k1, k2⟩ := load_run hT h (h.tmps p) hl
      have k3 : (resSem a.tmps (.cell p t)).run P w = .ok u0 w := by
        simp only [resSem]
        generalize a.tmps.getD p undef = X at *
        cases X with
        | pointer q => cases q with
          | none => simp [Instr.loadAt, Instr.sureAddr, stuck] at k1
          | some q => simpa [Instr.loadAt, Instr.sureAddr, asAddr] using k1
        | _ => simp [Instr.loadAt, Instr.sureAddr, stuck] at k1
      refine ⟨u0 :: us, by simp only [List.mapM_cons, Sem.run_bind, k3, Sem.run_pure, Result.andThen_ok, h1], by simp [h2], fun j x u hx hu => ?_⟩
      cases j with
      | zero =>
        simp only [List.getElem?_cons_zero, Option.some.injEq] at hx hu
        subst hx; subst hu
        exact k2
      | succ j => exact h3 j x u (by simpa using hx) (by simpa using hu)
    · cases hv

theorem exA_ne {x y : VV} {acc acc' : List Out} (h : exA H x acc = some (y, acc')) : ∀ vs, x ≠ .tup vs := by
  rintro vs rfl
  simp [exA, exC] at h
theorem exAs_ne : ∀ {xs ys : List VV} {acc acc' : List Out}, exAs H xs acc = some (ys, acc') → ∀ x ∈ xs, ∀ vs, x ≠ .tup vs
  | [], ys, acc, acc', h => fun x hx => by simp at hx
  | x :: xs, ys, acc, acc', h => by
    simp only [exAs] at h
    split at h
    · rename_i y acc1 h1
      split at h
      · rename_i ys1 acc2 h2
        intro z hz
        rcases List.mem_cons.1 hz with rfl | hz
        · exact exA_ne h1
        · exact exAs_ne h2 z hz
      · cases h
    · cases h

theorem results_ok (hT : TyOK P ty) (h : Rel P E g s a w) {fn : Func} {vs : List VV} (hv : vres ty s fn.results.toList = some vs) {H' : Heap} {v : VV} {acc : List Out} (he : exV H' (wrap vs) = some (v, acc)) :
    ∃ val, (results fn a.tmps).run P w = .ok val w ∧ VRel P E s.H g (wrap vs) val := by
  obtain ⟨us, h1, h2, h3⟩ := results_run hT h _ _ hv
  have hr : (results fn a.tmps).run P w = .ok (if h : us.toArray.size = 1 then us.toArray[0] else .tuple us.toArray) w := by
    rw [results_eq, Array.mapM_eq_mapM_toList]
    simp only [Sem.run_bind, Sem.run_map, h1, Result.andThen_ok, Sem.run_pure]
  refine ⟨_, hr, ?_⟩
  match vs, us, h2, h3, he with
  | [], [], _, _, _ => exact undef_rel
  | [x], [u], _, h3, _ => exact h3 0 x u rfl rfl
  | x :: y :: vs, u1 :: u2 :: us, h2, h3, he =>
    have hw : wrap (x :: y :: vs) = .tup (x :: y :: vs) := rfl
    rw [hw] at he ⊢
    have hd : ¬ (u1 :: u2 :: us).toArray.size = 1 := by simp
    rw [dif_neg hd]
    refine ⟨_, rfl, h2, fun j c u hc hu => ?_⟩
    have := h3 j c u hc hu
    simp only [exV] at he
    split at he
    · rename_i ys acc1 h1
      have hne := exAs_ne h1 c (List.mem_of_getElem? hc)
      rwa [vrel_eq hne] at this
    · cases he

def St.init (args : List VV) (n : Nat) : St := ⟨fun t => (args[t]?).getD .any, fun _ => .dead, 0, n, none⟩

def RetQ (P : Program) (ty : Ty) (rs : List ResultVar) (v : VV) (l : List (TypeId × List (List PT))) : Exit → St → Prop
  | .normal, s => RetOK P ty rs v l s
  | .ret, s => RetOK P ty rs v l s
  | _, _ => False

theorem satP_of_body (hT : TyOK P ty) {f : FuncId} {fn : Func} {c : Code} {args : List VV} {v : VV} {l : List (TypeId × List (List PT))} (hf : P.funcs[f]? = some fn) (hname : (fn.name == "runtime.NumGoroutine") = false)
    (hb : fn.body = some c) {rs : List ResultVar} (hrs : fn.results.toList = rs) {n : Nat} (hn : fn.ntmps = n) (hlen : args.length ≤ n) (hout : outV v = true) (hpur : ∀ x ∈ l, PurRows x.2)
    (hbody : ∀ E, VWP P E c (RetQ P ty rs v l) (St.init args n)) : SatP P f args v l := by
  subst hrs
  subst hn
  refine ⟨⟨fn, hf, hname, by rw [hb]; rfl⟩, hout, hpur, fun w vals hvl hva => ?_⟩
  have hrel : Rel P (botEnv w) Gh.nil (St.init args fn.ntmps) { tmps := vals.toArray ++ Array.replicate (fn.ntmps - vals.toArray.size) undef, defers := [] } w := by
    refine ⟨by simp [St.init]; omega, rfl, ⟨Frm.refl _, fun T e rows h => (by cases h), fun T cs h => (by cases h), fun T h => (by cases h)⟩, fun _ _ => rfl, fun t => ?_, trivial⟩
    simp only [St.init]
    cases ht : args[t]? with
    | none => trivial
    | some x =>
      have hlt : t < vals.length := by rw [hvl]; exact (List.getElem?_eq_some_iff.1 ht).1
      have hu : (vals.toArray ++ Array.replicate (fn.ntmps - vals.toArray.size) undef).getD t undef = vals[t] := by
        rw [Array.getD_eq_getD_getElem?, Array.getElem?_append_left (by simpa using hlt)]
        simp [hlt]
      rw [hu]
      exact vrel_of_arel (hva t x _ ht (List.getElem?_eq_getElem hlt))
  refine calls_of_wp hf hb (Go.wp_mono (hbody _ _ _ _ hrel) fun e a w' he => ?_)
  have key : ∀ g s, Rel P (botEnv w) g s a w' → RetOK P ty fn.results.toList v l s → a.defers = [] ∧ ∃ val, (results fn a.tmps).run P w' = .ok val w' ∧
      ∃ val' g', Ending.returned val = .returned val' ∧ HRel P (botEnv w) g' (Hp l) w' ∧ (∀ T, l.length ≤ T → g'.sn T = false) ∧ VRel P (botEnv w) (Hp l) g' v val' := by
    intro g s h hr
    obtain ⟨ms, H', vs, acc, h0, h1, h2, h3, rfl, h5⟩ := hr
    obtain ⟨val, k1, k2⟩ := results_ok hT h h1 h2
    obtain ⟨g1, j1, j2⟩ := rel_merges h h0
    have k2 := vrel_mono j2 k2
    obtain ⟨m1, m2, m3⟩ := exV_ok (P := P) (g := g1) h2
    refine ⟨h.defers, val, k1, val, g1.out acc, rfl, hrel_out j1.heap m1 h3 (fun x hx => h5 _ (List.mem_map_of_mem hx)), fun T hT => ?_, m3 _ _ k2⟩
    have : ¬ T < acc.length := by simpa using hT
    simp [Gh.out, this]
  cases e with
  | normal => obtain ⟨g, s, h1, h2⟩ := he; exact key g s h1 h2
  | ret => obtain ⟨g, s, h1, h2⟩ := he; exact key g s h1 h2
  | exit i => obtain ⟨g, s, h1, h2⟩ := he; exact h2
  | _ => exact he.elim
end
end Go.Proofs.Ytclljpdcpcolpaa
