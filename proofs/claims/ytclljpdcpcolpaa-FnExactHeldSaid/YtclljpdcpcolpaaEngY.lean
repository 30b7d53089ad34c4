/- The value-level engine, twenty-fifth part: a slice that lies in a row of the call's own is taken out, and put back, between two steps. -/
import Derived.Test.YtclljpdcpcolpaaEngX
namespace Go.Proofs.Ytclljpdcpcolpaa
open Go Go.RowKit
set_option linter.unusedVariables false
set_option linter.unusedSimpArgs false

/-- The slice of the cell (i, j) of T as a token X of its own. -/
def splitH (H : Heap) (T i j X : Nat) : Option Heap :=
  match H T with
  | .root e rows => match rows[i]? with
    | some r => match r[j]? with
      | some (.list e' rows') => some (updH X (.root e' rows') (updH T (.root e (rows.set i (r.set j (.ref X rows'.length)))) H))
      | _ => none
    | _ => none
  | _ => none
def splits : List (Nat × Nat × Nat) → Nat → Heap → Option Heap
  | [], _, H => some H
  | (T, i, j) :: ms, nx, H => match splitH H T i j nx with
    | some H' => splits ms (nx + 1) H'
    | none => none

def Gh.split (g : Gh) (T i j X : Nat) : Gh :=
  { g with
    hd := fun Y p => if Y = X then g.hd T ((i, j) :: p) else g.hd Y p
    sn := fun Y => if Y = X then true else g.sn Y
    own := fun b => match g.own b with
      | some (Y, (a, c) :: p) => if Y = T ∧ a = i ∧ c = j then some (X, p) else some (Y, (a, c) :: p)
      | o => o }

section
variable {P : Program} {E : Env} {g g' : Gh} {H H' : Heap} {w w' : World}

theorem node_len {T : Nat} {p : Path} {e : TypeId} {rows : List (List PT)} (h : NodeOK P E H g w T p e rows) : cutv rows.length (g.hd T p) = g.hd T p ∧ (g.hd T p).oneCell' = true := by
  rcases h with ⟨k1, k2⟩ | ⟨b, cap, cur, k1, _⟩
  · rw [k1, k2]; exact ⟨rfl, rfl⟩
  · rw [k1]; exact ⟨rfl, rfl⟩

theorem hrel_split (h : HRel P E g H w) {T i j X : Nat} {e e' : TypeId} {rows rows' : List (List PT)} {r : List PT} (hT : H T = .root e rows) (hr : rows[i]? = some r) (hc : r[j]? = some (.list e' rows')) (hX : g.sn X = false) :
    HRel P E (g.split T i j X) (updH X (.root e' rows') (updH T (.root e (rows.set i (r.set j (.ref X rows'.length)))) H)) w ∧
      HLe g H (g.split T i j X) (updH X (.root e' rows') (updH T (.root e (rows.set i (r.set j (.ref X rows'.length)))) H)) := by
  have hj : j < r.length := (List.getElem?_eq_some_iff.1 hc).1
  have hlt : i < rows.length := (List.getElem?_eq_some_iff.1 hr).1
  have hsT : g.sn T = true := h.seen T (by simp [hT, Ent.live])
  have hne : T ≠ X := by rintro rfl; rw [hX] at hsT; cases hsT
  have hsee : ∀ Y, g.sn Y = true → Y ≠ X := fun Y hY => by rintro rfl; rw [hX] at hY; cases hY
  have hle : HLe g H (g.split T i j X) (updH X (.root e' rows') (updH T (.root e (rows.set i (r.set j (.ref X rows'.length)))) H)) := by
    refine ⟨fun Y hY => by simp [Gh.split, hY], fun Y e2 rows2 hs hY => ?_, fun Y hs hY => ?_, fun Y hs _ => by simp [Gh.split, hsee Y hs], fun Y _ _ => rfl⟩
    · rw [updH_ne _ _ (hsee Y hs)] at hY
      by_cases c1 : Y = T
      · subst c1
        rw [updH_same] at hY
        injection hY with e1 _
        subst e1
        exact ⟨_, hT⟩
      · rw [updH_ne _ _ c1] at hY; exact ⟨_, hY⟩
    · rw [updH_ne _ _ (hsee Y hs)] at hY
      by_cases c1 : Y = T
      · subst c1; simp [hT, Ent.live]
      · rwa [updH_ne _ _ c1] at hY
  have hat : ∀ p, At ((i, j) :: p) (.list e rows) = At p (.list e' rows') := fun p => by
    simp [At, hr, hc]
  have hnode : ∀ p e3 rows3, At p (.list e' rows') = some (e3, rows3) → NodeOK P E H g w T ((i, j) :: p) e3 rows3 := fun p e3 rows3 hp =>
    h.node T e rows hT _ e3 rows3 (by rw [hat]; exact hp)
  have hown : ∀ (Y : Nat) (p : Path) (b : Nat), ¬ (Y = T ∧ ∃ q, p = (i, j) :: q) → g.own b = some (Y, p) → (g.split T i j X).own b = some (Y, p) := fun Y p b hn hb => by
    simp only [Gh.split, hb]
    cases p with
    | nil => rfl
    | cons x q =>
      obtain ⟨a, c⟩ := x
      simp only
      rw [if_neg]
      rintro ⟨rfl, rfl, rfl⟩
      exact hn ⟨rfl, q, rfl⟩
  refine ⟨⟨h.frm, fun Y e2 rows2 hY p e3 rows3 hp => ?_, fun Y cs hY => ?_, fun Y hY => ?_⟩, hle⟩
  · by_cases c0 : Y = X
    · subst c0
      rw [updH_same] at hY
      injection hY with e1 e4
      subst e1
      subst e4
      have hk := hnode p e3 rows3 hp
      have := node_move (g' := g.split T i j Y) (Y := Y) (q := p) hle hk rows3.length (Nat.le_refl _) (by rw [(node_len hk).1]; simp [Gh.split]) (fun x => by simp [Gh.split]) (fun b hb => by simp [Gh.split, hb])
      rwa [List.take_length] at this
    · rw [updH_ne _ _ c0] at hY
      by_cases c1 : Y = T
      · subst c1
        rw [updH_same] at hY
        injection hY with e1 e4
        subst e1
        subst e4
        cases p with
        | nil =>
          simp only [At, Option.some.injEq, Prod.mk.injEq] at hp
          obtain ⟨rfl, rfl⟩ := hp
          rcases h.node Y e rows hT [] e rows rfl with ⟨_, k2⟩ | ⟨b, cap, cur, k1, k2, k3, k4, k5, k6, k7, k8⟩
          · subst k2; simp at hlt
          · refine .inr ⟨b, cap, cur, by simpa [Gh.split, hne] using k1, hown Y [] b (by rintro ⟨_, q, hq⟩; cases hq) k2, k3, k4, by simpa using k5, k6, k7, fun a ra hra => ?_⟩
            by_cases ha : a = i
            · subst ha
              rw [List.getElem?_set_self hlt] at hra
              injection hra with hra
              subst hra
              obtain ⟨m1, m2⟩ := k8 a r hr
              refine ⟨by simpa using m1, fun k c hk => ?_⟩
              by_cases hkj : k = j
              · subst hkj
                rw [List.getElem?_set_self hj] at hk
                injection hk with hk
                subst hk
                obtain ⟨u, m3, m4⟩ := m2 k _ hc
                have m4 : u = g.hd Y ([] ++ [(a, k)]) := m4
                obtain ⟨n1, n2⟩ := node_len (hnode [] e' rows' rfl)
                refine ⟨u, m3, by simp [Gh.split], by rw [m4]; exact n2, fun _ => ?_⟩
                rw [m4]
                simp only [Gh.split, if_true, List.nil_append]
                exact n1.symm
              · rw [List.getElem?_set_ne (Ne.symm hkj)] at hk
                obtain ⟨u, m3, m4⟩ := m2 k c hk
                refine ⟨u, m3, ?_⟩
                have : (g.split Y a j X).hd Y ([] ++ [(a, k)]) = g.hd Y ([] ++ [(a, k)]) := by simp [Gh.split, hne]
                rw [this]
                exact ocell_mono hle m4
            · rw [List.getElem?_set_ne (Ne.symm ha)] at hra
              obtain ⟨m1, m2⟩ := k8 a ra hra
              refine ⟨m1, fun k c hk => ?_⟩
              obtain ⟨u, m3, m4⟩ := m2 k c hk
              refine ⟨u, m3, ?_⟩
              have : (g.split Y i j X).hd Y ([] ++ [(a, k)]) = g.hd Y ([] ++ [(a, k)]) := by simp [Gh.split, hne]
              rw [this]
              exact ocell_mono hle m4
        | cons x q =>
          obtain ⟨a, b⟩ := x
          rw [At_put hr hj] at hp
          by_cases hab : a = i ∧ b = j
          · rw [if_pos hab] at hp
            cases q <;> simp [At] at hp
          · rw [if_neg hab] at hp
            refine node_mono hle (h.node Y e rows hT _ e3 rows3 hp) (fun p => by simp [Gh.split, hne]) (fun b' _ hb => hown Y _ b' ?_ hb) (fun _ _ _ => rfl)
            rintro ⟨_, q', hq'⟩
            injection hq' with h1 _
            injection h1 with h1 h2
            exact hab ⟨h1, h2⟩
      · rw [updH_ne _ _ c1] at hY
        exact node_mono hle (h.node Y e2 rows2 hY p e3 rows3 hp) (fun q => by simp [Gh.split, c0]) (fun b _ hb => hown Y p b (fun hh => c1 hh.1) hb) (fun _ _ _ => rfl)
  · have c0 : Y ≠ X := by rintro rfl; rw [updH_same] at hY; cases hY
    rw [updH_ne _ _ c0] at hY
    have c1 : Y ≠ T := by rintro rfl; rw [updH_same] at hY; cases hY
    rw [updH_ne _ _ c1] at hY
    refine box_mono hle (h.box Y cs hY) rfl (fun hh => by simp only [Gh.split, hh]) (fun _ _ hh => hh) (fun cur e he => ⟨cur, he, fun _ _ _ => rfl⟩)
  · by_cases c0 : Y = X
    · simp [Gh.split, c0]
    · rw [updH_ne _ _ c0] at hY
      by_cases c1 : Y = T
      · subst c1; simp [Gh.split, hsT]
      · rw [updH_ne _ _ c1] at hY
        simp [Gh.split, h.seen Y hY]

theorem rel_splits {a : Act} : ∀ (ms : List (Nat × Nat × Nat)) (g : Gh) (s : St) (H' : Heap), splits ms s.nx s.H = some H' → s.lim = none → Rel P E g s a w → ∃ g', Rel P E g' { s with H := H', nx := s.nx + ms.length } a w
  | [], g, s, H', hm, hl, h => by
    simp only [splits, Option.some.injEq] at hm
    subst hm
    exact ⟨g, h⟩
  | (T, i, j) :: ms, g, s, H', hm, hl, h => by
    simp only [splits] at hm
    split at hm
    · rename_i H1 h1
      unfold splitH at h1
      split at h1
      · rename_i e rows hT
        split at h1
        · rename_i r hr
          split at h1
          · rename_i e' rows' hc
            simp only [Option.some.injEq] at h1
            subst h1
            have hfr : ∀ Y, s.nx ≤ Y → g.sn Y = false := fun Y hY => h.fresh Y ⟨hY, by rw [hl]; trivial⟩
            obtain ⟨k1, k2⟩ := hrel_split h.heap hT hr hc (hfr s.nx (Nat.le_refl _))
            have h2 := rel_step (n' := s.nx + 1) h k2 k1 (fun Y hY => by
              have : s.nx + 1 ≤ Y := hY.1
              simp only [Gh.split]
              rw [if_neg (by omega)]
              exact hfr Y (by omega))
            obtain ⟨g2, h3⟩ := rel_splits ms _ { s with H := _, nx := s.nx + 1 } H' hm hl h2
            refine ⟨g2, ?_⟩
            have hn : s.nx + 1 + ms.length = s.nx + (ms.length + 1) := by omega
            simp only [List.length_cons]
            rw [← hn]
            exact h3
          · cases h1
        · cases h1
      · cases h1
    · cases hm

variable {tm : Nat → VV} {nx N : Nat} {c : Code} {Q : Exit → St → Prop}
/-- Slices of rows are taken out ahead of a step. -/
theorem VWP_split (ms : List (Nat × Nat × Nat)) (h0 : splits ms nx H = some H') (h : VWP P E c Q ⟨tm, H', nx + ms.length, N, none⟩) : VWP P E c Q ⟨tm, H, nx, N, none⟩ := fun g a w hr => by
  obtain ⟨g', h1⟩ := rel_splits ms g ⟨tm, H, nx, N, none⟩ H' h0 rfl hr
  exact h g' a w h1
/-- Slices are taken into the rows in which they lie ahead of a step. -/
theorem VWP_merge (ms : List (Nat × Nat × Nat)) (h0 : merges ms H = some H') (h : VWP P E c Q ⟨tm, H', nx, N, none⟩) : VWP P E c Q ⟨tm, H, nx, N, none⟩ := fun g a w hr => by
  obtain ⟨g', h1, _⟩ := rel_merges hr h0
  exact h g' a w h1
theorem VWP_split_at {id : Nat} {l : Array Oper} {b : Bool} (ms : List (Nat × Nat × Nat)) (h0 : splits ms nx H = some H') (h : VWP P E (.region id l b) Q ⟨tm, H', nx + ms.length, N, none⟩) : VWP P E (.region id l b) Q ⟨tm, H, nx, N, none⟩ := VWP_split ms h0 h
theorem VWP_merge_at {id : Nat} {l : Array Oper} {b : Bool} (ms : List (Nat × Nat × Nat)) (h0 : merges ms H = some H') (h : VWP P E (.region id l b) Q ⟨tm, H', nx, N, none⟩) : VWP P E (.region id l b) Q ⟨tm, H, nx, N, none⟩ := VWP_merge ms h0 h
end
end Go.Proofs.Ytclljpdcpcolpaa
