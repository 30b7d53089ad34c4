/- The value-level engine, fifteenth part, b: a slice that lies in a row of another one becomes part of its tree. -/
import Derived.Test.YtclljpdcpcolpaaEngO
namespace Go.Proofs.Ytclljpdcpcolpaa
open Go Go.RowKit
set_option linter.unusedVariables false
set_option linter.unusedSimpArgs false

/-- The slice that the cell (i, j) of T refers to, taken into T's tree. -/
def mergeH (H : Heap) (T i j : Nat) : Option Heap :=
  match H T with
  | .root e rows => match rows[i]? with
    | some r => match r[j]? with
      | some (.ref T' n) => match H T' with
        | .root e' rows' => if n ≤ rows'.length ∧ T' ≠ T then some (updH T (.root e (rows.set i (r.set j (.list e' (rows'.take n))))) (updH T' .dead H)) else none
        | _ => none
      | _ => none
    | _ => none
  | _ => none
def merges : List (Nat × Nat × Nat) → Heap → Option Heap
  | [], H => some H
  | (T, i, j) :: ms, H => match mergeH H T i j with
    | some H' => merges ms H'
    | none => none

def Gh.merge (g : Gh) (T i j T' n : Nat) : Gh :=
  { g with
    hd := fun X p => match p with
      | (a, b) :: q => if X = T ∧ a = i ∧ b = j then (if q = [] then cutv n (g.hd T' []) else g.hd T' q) else g.hd X ((a, b) :: q)
      | [] => g.hd X []
    own := fun b => match g.own b with
      | some (X, p) => if X = T' then some (T, (i, j) :: p) else some (X, p)
      | none => none }

section
variable {P : Program} {E : Env} {g g' : Gh} {H H' : Heap} {w w' : World}

/-- A node, under another name. -/
theorem node_move (h : HLe g H g' H') {X Y : Nat} {p q : Path} {e : TypeId} {rows : List (List PT)} (hn : NodeOK P E H g w X p e rows) (n : Nat) (hln : n ≤ rows.length) (h1 : g'.hd Y q = cutv n (g.hd X p)) (h2 : ∀ x, g'.hd Y (q ++ [x]) = g.hd X (p ++ [x]))
    (h3 : ∀ b, g.own b = some (X, p) → g'.own b = some (Y, q)) : NodeOK P E H' g' w Y q e (rows.take n) := by
  have hl : (rows.take n).length = n := by simp; omega
  rcases hn with ⟨k1, k2⟩ | ⟨b, cap, cur, k1, k2, k3, k4, k5, k6, k7, k8⟩
  · subst k2
    exact .inl ⟨by rw [h1, k1]; have : n = 0 := by simpa using hln
                   subst this; rfl, by simp⟩
  · refine .inr ⟨b, cap, cur, by rw [h1, k1, hl]; rfl, h3 b k2, k3, k4, by omega, k6, k7, fun i r hr => ?_⟩
    rw [List.getElem?_take] at hr
    split at hr
    · obtain ⟨m1, m2⟩ := k8 i r hr
      refine ⟨m1, fun j c hc => ?_⟩
      obtain ⟨u, m3, m4⟩ := m2 j c hc
      refine ⟨u, m3, ?_⟩
      rw [h2]
      exact ocell_mono h m4
    · cases hr

theorem At_put {e : TypeId} {rows : List (List PT)} {i j : Nat} {r : List PT} (hr : rows[i]? = some r) (hj : j < r.length) {c : PT} {a b : Nat} {p : Path} :
    At ((a, b) :: p) (.list e (rows.set i (r.set j c))) = if a = i ∧ b = j then At p c else At ((a, b) :: p) (.list e rows) := by
  have hlt : i < rows.length := (List.getElem?_eq_some_iff.1 hr).1
  simp only [At]
  by_cases ha : a = i
  · subst ha
    rw [List.getElem?_set_self hlt, hr]
    simp only [Option.getD_some]
    by_cases hb : b = j
    · subst hb
      simp [hj]
    · rw [List.getElem?_set_ne (Ne.symm hb)]
      simp [hb]
  · rw [List.getElem?_set_ne (Ne.symm ha)]
    simp [ha]

theorem At_take {e : TypeId} {rows : List (List PT)} {n : Nat} {x : Nat × Nat} {p : Path} {z : TypeId × List (List PT)} (h : At (x :: p) (.list e (rows.take n)) = some z) : At (x :: p) (.list e rows) = some z := by
  obtain ⟨a, b⟩ := x
  simp only [At] at h ⊢
  rw [List.getElem?_take] at h
  split at h
  · exact h
  · simp at h

theorem hrel_merge (h : HRel P E g H w) {T i j T' n : Nat} {e e' : TypeId} {rows rows' : List (List PT)} {r : List PT} (hT : H T = .root e rows) (hr : rows[i]? = some r) (hc : r[j]? = some (.ref T' n)) (hT' : H T' = .root e' rows') (hn : n ≤ rows'.length) (hne : T' ≠ T) :
    HRel P E (g.merge T i j T' n) (updH T (.root e (rows.set i (r.set j (.list e' (rows'.take n))))) (updH T' .dead H)) w ∧
      HLe g H (g.merge T i j T' n) (updH T (.root e (rows.set i (r.set j (.list e' (rows'.take n))))) (updH T' .dead H)) := by
  have hj : j < r.length := (List.getElem?_eq_some_iff.1 hc).1
  have hlt : i < rows.length := (List.getElem?_eq_some_iff.1 hr).1
  have hle : HLe g H (g.merge T i j T' n) (updH T (.root e (rows.set i (r.set j (.list e' (rows'.take n))))) (updH T' .dead H)) := by
    refine ⟨fun X hX => hX, fun X e2 rows2 _ hX => ?_, fun X _ hX => ?_, fun X _ _ => rfl, fun X _ _ => rfl⟩
    · by_cases c1 : X = T
      · subst c1
        rw [updH_same] at hX
        injection hX with e1 _
        subst e1
        exact ⟨_, hT⟩
      · rw [updH_ne _ _ c1] at hX
        by_cases c2 : X = T'
        · subst c2; rw [updH_same] at hX; cases hX
        · rw [updH_ne _ _ c2] at hX; exact ⟨_, hX⟩
    · by_cases c1 : X = T
      · subst c1; simp [hT, Ent.live]
      · rw [updH_ne _ _ c1] at hX
        by_cases c2 : X = T'
        · subst c2; rw [updH_same] at hX; cases hX
        · rwa [updH_ne _ _ c2] at hX
  have hown : ∀ (X : Nat) (p : Path) (b : Nat), X ≠ T' → g.own b = some (X, p) → (g.merge T i j T' n).own b = some (X, p) := fun X p b hX hb => by
    simp only [Gh.merge, hb, if_neg hX]
  have hown' : ∀ (p : Path) (b : Nat), g.own b = some (T', p) → (g.merge T i j T' n).own b = some (T, (i, j) :: p) := fun p b hb => by
    simp only [Gh.merge, hb, if_true]
  refine ⟨⟨h.frm, fun X e2 rows2 hX p e3 rows3 hp => ?_, fun X cs hX => ?_, fun X hX => ?_⟩, hle⟩
  · by_cases c1 : X = T
    · subst c1
      rw [updH_same] at hX
      injection hX with e1 e4
      subst e1
      subst e4
      cases p with
      | nil =>
        simp only [At, Option.some.injEq, Prod.mk.injEq] at hp
        obtain ⟨rfl, rfl⟩ := hp
        rcases h.node X e rows hT [] e rows rfl with ⟨_, k2⟩ | ⟨b, cap, cur, k1, k2, k3, k4, k5, k6, k7, k8⟩
        · subst k2; simp at hlt
        · refine .inr ⟨b, cap, cur, by simpa [Gh.merge] using k1, hown X [] b (Ne.symm hne) k2, k3, k4, by simpa using k5, k6, k7, fun a ra hra => ?_⟩
          by_cases ha : a = i
          · subst ha
            rw [List.getElem?_set_self hlt] at hra
            injection hra with hra
            subst hra
            obtain ⟨m1, m2⟩ := k8 a r hr
            refine ⟨by simpa using m1, fun k c hk => ?_⟩
            by_cases hkj : k = j
            · subst hkj
              rw [List.getElem?_set_self hj] at hk
              injection hk with hk
              subst hk
              obtain ⟨u, m3, m4⟩ := m2 k _ hc
              refine ⟨u, m3, ?_⟩
              obtain ⟨_, _, m5⟩ := m4
              have := m5 (by simp [hT', Ent.isRoot])
              simp [ocell, Gh.merge, this]
            · rw [List.getElem?_set_ne (Ne.symm hkj)] at hk
              obtain ⟨u, m3, m4⟩ := m2 k c hk
              refine ⟨u, m3, ?_⟩
              have : (g.merge X a j T' n).hd X ([] ++ [(a, k)]) = g.hd X ([] ++ [(a, k)]) := by simp [Gh.merge, hkj]
              rw [this]
              exact ocell_mono hle m4
          · rw [List.getElem?_set_ne (Ne.symm ha)] at hra
            obtain ⟨m1, m2⟩ := k8 a ra hra
            refine ⟨m1, fun k c hk => ?_⟩
            obtain ⟨u, m3, m4⟩ := m2 k c hk
            refine ⟨u, m3, ?_⟩
            have : (g.merge X i j T' n).hd X ([] ++ [(a, k)]) = g.hd X ([] ++ [(a, k)]) := by simp [Gh.merge, ha]
            rw [this]
            exact ocell_mono hle m4
      | cons x q =>
        obtain ⟨a, b⟩ := x
        rw [At_put hr hj] at hp
        by_cases hab : a = i ∧ b = j
        · rw [if_pos hab] at hp
          obtain ⟨rfl, rfl⟩ := hab
          cases q with
          | nil =>
            simp only [At, Option.some.injEq, Prod.mk.injEq] at hp
            obtain ⟨rfl, rfl⟩ := hp
            exact node_move hle (h.node T' e' rows' hT' [] e' rows' rfl) n hn (by simp [Gh.merge]) (fun x => by simp [Gh.merge]) (fun b hb => hown' [] b hb)
          | cons y q =>
            have hk := h.node T' e' rows' hT' _ e3 rows3 (At_take hp)
            have hcut : cutv rows3.length (g.hd T' (y :: q)) = g.hd T' (y :: q) := by
              rcases hk with ⟨k1, k2⟩ | ⟨b, cap, cur, k1, _⟩
              · rw [k1, k2]; rfl
              · rw [k1]; rfl
            have := node_move (g' := g.merge X a b T' n) (Y := X) (q := (a, b) :: y :: q) hle hk rows3.length (Nat.le_refl _) (by rw [hcut]; simp [Gh.merge]) (fun x => by simp [Gh.merge]) (fun b hb => hown' _ b hb)
            rwa [List.take_length] at this
        · rw [if_neg hab] at hp
          have hk := h.node X e rows hT _ e3 rows3 hp
          have hcut : cutv rows3.length (g.hd X ((a, b) :: q)) = g.hd X ((a, b) :: q) := by
            rcases hk with ⟨k1, k2⟩ | ⟨b, cap, cur, k1, _⟩
            · rw [k1, k2]; rfl
            · rw [k1]; rfl
          have := node_move (g' := g.merge X i j T' n) (Y := X) (q := (a, b) :: q) hle hk rows3.length (Nat.le_refl _) (by rw [hcut]; simp [Gh.merge, hab]) (fun x => by simp [Gh.merge, hab]) (fun b hb => hown X _ b (Ne.symm hne) hb)
          rwa [List.take_length] at this
    · rw [updH_ne _ _ c1] at hX
      have c2 : X ≠ T' := by rintro rfl; rw [updH_same] at hX; cases hX
      rw [updH_ne _ _ c2] at hX
      refine node_mono hle (h.node X e2 rows2 hX p e3 rows3 hp) (fun q => ?_) (fun b _ hb => hown X p b c2 hb) (fun _ _ _ => rfl)
      cases q with
      | nil => rfl
      | cons x q => obtain ⟨a, b⟩ := x; simp [Gh.merge, c1]
  · have c1 : X ≠ T := by rintro rfl; rw [updH_same] at hX; cases hX
    rw [updH_ne _ _ c1] at hX
    have c2 : X ≠ T' := by rintro rfl; rw [updH_same] at hX; cases hX
    rw [updH_ne _ _ c2] at hX
    refine box_mono hle (h.box X cs hX) rfl (fun hh => by simp only [Gh.merge, hh]) (fun _ _ hh => hh) (fun cur e he => ⟨cur, he, fun _ _ _ => rfl⟩)
  · by_cases c1 : X = T
    · subst c1; exact h.seen X (by simp [hT, Ent.live])
    · rw [updH_ne _ _ c1] at hX
      by_cases c2 : X = T'
      · subst c2; rw [updH_same] at hX; cases hX
      · rw [updH_ne _ _ c2] at hX; exact h.seen X hX

theorem hrel_merges : ∀ (ms : List (Nat × Nat × Nat)) (g : Gh) (H H' : Heap), merges ms H = some H' → HRel P E g H w → ∃ g', HRel P E g' H' w ∧ HLe g H g' H' ∧ ∀ T, g'.sn T = g.sn T
  | [], g, H, H', hm, h => by
    simp only [merges, Option.some.injEq] at hm
    subst hm
    exact ⟨g, h, HLe.refl _ _, fun _ => rfl⟩
  | (T, i, j) :: ms, g, H, H', hm, h => by
    simp only [merges] at hm
    split at hm
    · rename_i H1 h1
      have step : ∃ g1, HRel P E g1 H1 w ∧ HLe g H g1 H1 ∧ ∀ T, g1.sn T = g.sn T := by
        unfold mergeH at h1
        split at h1
        · rename_i e rows hT
          split at h1
          · rename_i r hr
            split at h1
            · rename_i T' n hc
              split at h1
              · rename_i e' rows' hT'
                split at h1
                · rename_i hh
                  simp only [Option.some.injEq] at h1
                  subst h1
                  obtain ⟨k1, k2⟩ := hrel_merge h hT hr hc hT' hh.1 hh.2
                  exact ⟨_, k1, k2, fun _ => rfl⟩
                · cases h1
              · cases h1
            · cases h1
          · cases h1
        · cases h1
      obtain ⟨g1, k1, k2, k3⟩ := step
      obtain ⟨g2, k4, k5, k6⟩ := hrel_merges ms g1 H1 H' hm k1
      exact ⟨g2, k4, k2.trans k5, fun T => (k6 T).trans (k3 T)⟩
    · cases hm

theorem rel_merges {s : St} {a : Act} {ms : List (Nat × Nat × Nat)} (h : Rel P E g s a w) (hm : merges ms s.H = some H') : ∃ g', Rel P E g' { s with H := H' } a w ∧ HLe g s.H g' H' := by
  obtain ⟨g', h1, h2, h3⟩ := hrel_merges ms g s.H H' hm h.heap
  exact ⟨g', rel_step (n' := s.nx) h h2 h1 (fun T hT => by rw [h3]; exact h.fresh T hT), h2⟩
end
end Go.Proofs.Ytclljpdcpcolpaa
