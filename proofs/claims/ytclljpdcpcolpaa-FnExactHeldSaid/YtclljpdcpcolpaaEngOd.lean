/- The value-level engine, fifteenth part, d: what comes back from a call that turns what it is handed. -/
import Derived.Test.YtclljpdcpcolpaaEngOc
namespace Go.Proofs.Ytclljpdcpcolpaa
open Go Go.RowKit
set_option linter.unusedVariables false
set_option linter.unusedSimpArgs false

def tkB (σ : List Nat) (nx k : Nat) : Nat := match σ[k]? with
  | some T => T
  | none => nx + (k - σ.length)
def bkC (σ : List Nat) (nx : Nat) : VV → VV
  | .rf k n => .rf (tkB σ nx k) n
  | x => x
def bkA (σ : List Nat) (nx : Nat) : VV → VV
  | .agg vs => .agg (vs.map (bkC σ nx))
  | x => bkC σ nx x
def bkV (σ : List Nat) (nx : Nat) : VV → VV
  | .tup vs => .tup (vs.map (bkA σ nx))
  | x => bkA σ nx x
def bkE (σ : List Nat) (nx : Nat) : Ent → Ent
  | .box cs => .box (cs.map (bkC σ nx))
  | x => x
def putO (bk : Ent → Ent) : List Nat → Nat → List Ent → Heap → Heap
  | T :: σ, n, o :: O, H => updH T (bk o) (putO bk σ n O H)
  | [], n, o :: O, H => updH n (bk o) (putO bk [] (n + 1) O H)
  | _, _, [], H => H

theorem putO_nil (bk : Ent → Ent) : ∀ (O : List Ent) (n : Nat) (H : Heap) (X : Nat), putO bk [] n O H X = if n ≤ X ∧ X < n + O.length then bk ((O[X - n]?).getD .dead) else H X
  | [], n, H, X => by simp [putO]; omega
  | o :: O, n, H, X => by
    simp only [putO]
    by_cases c : X = n
    · subst c; simp [updH_same]
    · rw [updH_ne _ _ c, putO_nil bk O (n + 1) H X]
      by_cases d : n ≤ X ∧ X < n + (o :: O).length
      · simp only [List.length_cons] at d
        rw [if_pos (by omega), if_pos (by simp only [List.length_cons]; omega)]
        obtain ⟨k, rfl⟩ : ∃ k, X = n + 1 + k := ⟨X - (n + 1), by omega⟩
        rw [show n + 1 + k - (n + 1) = k by omega, show n + 1 + k - n = k + 1 by omega]
        simp
      · simp only [List.length_cons] at d
        rw [if_neg (by omega), if_neg (by simp only [List.length_cons]; omega)]

theorem putO_at (bk : Ent → Ent) : ∀ (σ : List Nat) (hn : σ.Nodup) (O : List Ent) (hl : σ.length ≤ O.length) (n : Nat) (H : Heap) (X : Nat),
    putO bk σ n O H X = match idx σ X with
      | some k => bk ((O[k]?).getD .dead)
      | none => if n ≤ X ∧ X < n + (O.length - σ.length) then bk ((O[σ.length + (X - n)]?).getD .dead) else H X
  | [], _, O, _, n, H, X => by rw [putO_nil]; simp [idx]
  | T :: σ, _, [], hl, n, H, X => by simp at hl
  | T :: σ, hn, o :: O, hl, n, H, X => by
    simp only [putO, idx]
    rw [List.nodup_cons] at hn
    by_cases c : X = T
    · subst c; simp [updH_same]
    · rw [updH_ne _ _ c, if_neg c, putO_at bk σ hn.2 O (by simpa using hl) n H X]
      cases hi : idx σ X with
      | some k => simp
      | none =>
        simp only [Option.map_none, List.length_cons, Nat.add_sub_add_right]
        rw [show σ.length + 1 + (X - n) = σ.length + (X - n) + 1 by omega]
        simp

def Gh.back (g g' : Gh) (σ : List Nat) (nx m sz : Nat) : Gh :=
  { hd := fun X p => match idx σ X with
      | some k => g'.hd k p
      | none => if nx ≤ X ∧ X < nx + m then g'.hd (σ.length + (X - nx)) p else g.hd X p
    bx := fun X => match idx σ X with
      | some k => g'.bx k
      | none => g.bx X
    own := fun b => if sz ≤ b then (g'.own b).map fun x => (tkB σ nx x.1, x.2) else match g.own b with
      | some (T, p) => (match idx σ T with
        | some _ => (g'.own b).map fun x => (tkB σ nx x.1, x.2)
        | none => some (T, p))
      | none => none
    ob := fun b o => if sz ≤ b then (g'.ob b o).map fun x => (tkB σ nx x.1, x.2) else match g.ob b o with
      | some (T, j) => (match idx σ T with
        | some _ => (g'.ob b o).map fun x => (tkB σ nx x.1, x.2)
        | none => some (T, j))
      | none => none
    sn := fun X => match idx σ X with
      | some _ => true
      | none => if nx ≤ X ∧ X < nx + m then g'.sn (σ.length + (X - nx)) else g.sn X }

section
variable {P : Program} {E : Env} {g g' : Gh} {H : Heap} {s : St} {a : Act} {w w' : World} {ty : Ty} {σ : List Nat} {O : List Ent} {nx : Nat}

theorem box_bound (H : Heap) (g : Gh) : ∀ σ : List Nat, ∃ N, ∀ T ∈ σ, ∀ cs, H T = .box cs → (g.bx T).2 + cs.length ≤ N
  | [] => ⟨0, fun T hT => by simp at hT⟩
  | X :: σ => by
    obtain ⟨N, hN⟩ := box_bound H g σ
    cases hx : H X with
    | box cs0 =>
      refine ⟨max N ((g.bx X).2 + cs0.length), fun T hT cs hc => ?_⟩
      rcases List.mem_cons.1 hT with rfl | hT
      · rw [hx] at hc; injection hc with hc; subst hc; exact Nat.le_max_right _ _
      · exact Nat.le_trans (hN T hT cs hc) (Nat.le_max_left _ _)
    | dead =>
      refine ⟨N, fun T hT cs hc => ?_⟩
      rcases List.mem_cons.1 hT with rfl | hT
      · rw [hx] at hc; cases hc
      · exact hN T hT cs hc
    | root e rows =>
      refine ⟨N, fun T hT cs hc => ?_⟩
      rcases List.mem_cons.1 hT with rfl | hT
      · rw [hx] at hc; cases hc
      · exact hN T hT cs hc

/-- A block that is owned whole lies under a slice that was handed over. -/
theorem own_all (h : HRel P E g H w) {b : Nat} (ho : ∀ o, ownR σ H g b o) : ∃ T ∈ σ, ∃ p, g.own b = some (T, p) ∧ (E.w0.heap.size ≤ b ∨ ∀ o, E.own b o) := by
  obtain ⟨N, hN⟩ := box_bound H g σ
  have h1 := ho N
  rcases h1 with h1 | ⟨T, hT, cs, j, k1, k2, k3, k4⟩
  · rcases ownR_cases h (Or.inl h1 : ownR σ H g b N) with ⟨T, hT, p, k1, k2, _⟩ | ⟨T, hT, j, k1, _⟩
    · exact ⟨T, hT, p, k1, k2⟩
    · obtain ⟨T, hT, e, rows, p, e', rows', n, c, m1, m2, m3⟩ := h1
      have := (node_lt (h.node T e rows m1 p e' rows' m2) m3).2
      rw [this] at k1; cases k1
  · have := hN T hT cs k1
    omega

theorem same_block (h' : Frm (callEnv σ H g w) w') {b : Nat} (hb : b < w.heap.size) (hno : ∀ o, ¬ ownR σ H g b o) : w'.heap[b]? = w.heap[b]? := by
  cases hx : w.heap[b]? with
  | none => rw [Array.getElem?_eq_none_iff] at hx; omega
  | some x =>
    by_cases hc : ∃ c e fz, x = Obj.cells c e fz
    · obtain ⟨c, e, fz, rfl⟩ := hc
      obtain ⟨c', h1, h2, h3⟩ := h'.cells b c e fz hx
      have : c' = c := by
        apply Array.ext_getElem?
        intro i
        exact h3 i (hno i)
      rw [h1, this]
    · exact h'.other b x hx (fun c e fz hh => hc ⟨c, e, fz, hh⟩)

theorem bkE_root {x : Ent} {e : TypeId} {rows : List (List PT)} (h : bkE σ nx x = .root e rows) : x = .root e rows := by
  cases x <;> first | exact h | (simp [bkE] at h; done)
theorem bkE_box {x : Ent} {cs : List VV} (h : bkE σ nx x = .box cs) : ∃ cs0, x = .box cs0 ∧ cs = cs0.map (bkC σ nx) := by
  cases x with
  | box cs0 => simp only [bkE, Ent.box.injEq] at h; exact ⟨cs0, rfl, h.symm⟩
  | dead => cases h
  | root => cases h
theorem bkE_live {x : Ent} : (bkE σ nx x).live = x.live := by cases x <;> rfl
theorem bkE_isRoot {x : Ent} : (bkE σ nx x).isRoot = x.isRoot := by cases x <;> rfl

theorem hrel_back (h : HRel P E g H w) (hn : σ.Nodup) (hok : ∀ T ∈ σ, viewOkE σ H (H T)) (hlen : σ.length ≤ O.length)
    (hkept : ∀ (k : Nat) (x y : Ent), (σ.map fun T => viewE σ H (H T))[k]? = some x → O[k]? = some y → keptOk x y) (hnew : ∀ (k : Nat) (y : Ent), σ.length ≤ k → O[k]? = some y → newOk y)
    (h' : HRel P (callEnv σ H g w) g' (HpE O) w') (hk : ∀ T, O.length ≤ T → g'.sn T = false) (hle' : HLe (g.call σ) (HpE (σ.map fun T => viewE σ H (H T))) g' (HpE O))
    (hf : ∀ T, nx ≤ T → T < nx + (O.length - σ.length) → g.sn T = false) :
    HRel P E (g.back g' σ nx (O.length - σ.length) w.heap.size) (putO (bkE σ nx) σ nx O H) w' ∧ HLe g H (g.back g' σ nx (O.length - σ.length) w.heap.size) (putO (bkE σ nx) σ nx O H) ∧
      (∀ c u, outE c = true → CRel P (callEnv σ H g w) (HpE O) g' c u → CRel P E (putO (bkE σ nx) σ nx O H) (g.back g' σ nx (O.length - σ.length) w.heap.size) (bkC σ nx c) u) := by
  have hlive : ∀ T ∈ σ, (H T).live = true := fun T hT => by
    have := hok T hT
    cases hx : H T with
    | dead => rw [hx] at this; exact this.elim
    | _ => rfl
  have hsn : ∀ T ∈ σ, g.sn T = true := fun T hT => h.seen T (hlive T hT)
  have hat := putO_at (bkE σ nx) σ hn O hlen nx H
  generalize hH2 : putO (bkE σ nx) σ nx O H = H2 at *
  generalize hg2 : g.back g' σ nx (O.length - σ.length) w.heap.size = g2
  -- a token of the call's, under its new name
  have hin : ∀ k, k < σ.length → ∃ T, σ[k]? = some T ∧ idx σ T = some k ∧ T ∈ σ ∧ tkB σ nx k = T := fun k hk' => by
    have h1 : σ[k]? = some σ[k] := List.getElem?_eq_getElem hk'
    exact ⟨σ[k], h1, idx_get hn h1, List.getElem_mem hk', by simp only [tkB, h1]⟩
  have hnewT : ∀ k, σ.length ≤ k → k < O.length → tkB σ nx k = nx + (k - σ.length) ∧ idx σ (nx + (k - σ.length)) = none := fun k h1 h2 => by
    have h3 : σ[k]? = none := List.getElem?_eq_none h1
    refine ⟨by simp only [tkB, h3], idx_notMem fun hm => ?_⟩
    have := hsn _ hm
    rw [hf _ (by omega) (by omega)] at this
    cases this
  have key : ∀ k, k < O.length → ∃ y, O[k]? = some y ∧ H2 (tkB σ nx k) = bkE σ nx y ∧ HpE O k = y ∧ (∀ p, g2.hd (tkB σ nx k) p = g'.hd k p) ∧ (g'.sn k = true → g2.sn (tkB σ nx k) = true) := fun k hk' => by
    have h1 : O[k]? = some O[k] := List.getElem?_eq_getElem hk'
    rcases Nat.lt_or_ge k σ.length with c | c
    · obtain ⟨T, k1, k2, k3, k4⟩ := hin k c
      refine ⟨O[k], h1, by rw [k4, hat T, k2]; simp [h1], by simp [HpE, h1], fun p => by rw [k4, ← hg2]; simp only [Gh.back, k2], fun _ => by rw [k4, ← hg2]; simp only [Gh.back, k2]⟩
    · obtain ⟨k1, k2⟩ := hnewT k c hk'
      have hr : nx ≤ nx + (k - σ.length) ∧ nx + (k - σ.length) < nx + (O.length - σ.length) := ⟨by omega, by omega⟩
      have e1 : σ.length + (nx + (k - σ.length) - nx) = k := by omega
      refine ⟨O[k], h1, by rw [k1, hat, k2]; simp only [if_pos hr, e1, h1, Option.getD_some], by simp [HpE, h1], fun p => by rw [k1, ← hg2]; simp only [Gh.back, k2, if_pos hr, e1], fun hs => by rw [k1, ← hg2]; simp only [Gh.back, k2, if_pos hr, e1]; exact hs⟩
  -- where a token comes from
  have split : ∀ X, (∃ k, k < O.length ∧ X = tkB σ nx k ∧ (X ∈ σ → k < σ.length) ∧ (X ∉ σ → σ.length ≤ k)) ∨ (X ∉ σ ∧ idx σ X = none ∧ ¬ (nx ≤ X ∧ X < nx + (O.length - σ.length)) ∧ H2 X = H X ∧ (∀ p, g2.hd X p = g.hd X p) ∧ g2.bx X = g.bx X ∧ g2.sn X = g.sn X) := fun X => by
    cases hi : idx σ X with
    | some k =>
      have h1 := idx_some hi
      have h2 : k < σ.length := (List.getElem?_eq_some_iff.1 h1).1
      exact .inl ⟨k, by omega, by simp only [tkB, h1], fun _ => h2, fun hm => absurd (List.mem_of_getElem? h1) hm⟩
    | none =>
      by_cases c : nx ≤ X ∧ X < nx + (O.length - σ.length)
      · obtain ⟨k1, _⟩ := hnewT (σ.length + (X - nx)) (by omega) (by omega)
        exact .inl ⟨σ.length + (X - nx), by omega, by rw [k1]; omega, fun hm => absurd hm (idx_none hi), fun _ => by omega⟩
      · refine .inr ⟨idx_none hi, rfl, c, by rw [hat X, hi]; simp only [if_neg c], fun p => by rw [← hg2]; simp only [Gh.back, hi, if_neg c], by rw [← hg2]; simp only [Gh.back, hi], by rw [← hg2]; simp only [Gh.back, hi, if_neg c]⟩
  have hcs : ∀ k, k < σ.length → (g.call σ).sn k = true := fun k hk' => by simp [Gh.call, hk']
  have hle : HLe g H g2 H2 := by
    have old : ∀ X, g.sn X = true → (∃ k, k < σ.length ∧ σ[k]? = some X ∧ X = tkB σ nx k) ∨ (H2 X = H X ∧ (∀ p, g2.hd X p = g.hd X p) ∧ g2.bx X = g.bx X ∧ g2.sn X = g.sn X) := fun X hX => by
      rcases split X with ⟨k, h1, h2, h3, h4⟩ | ⟨_, _, _, h4, h5, h6, h7⟩
      · by_cases hm : X ∈ σ
        · have h5 := h3 hm
          obtain ⟨T, k1, k2, k3, k4⟩ := hin k h5
          exact .inl ⟨k, h5, by rw [h2, k4]; exact k1, h2⟩
        · have hge := h4 hm
          obtain ⟨k1, k2⟩ := hnewT k hge h1
          have hz := hf (nx + (k - σ.length)) (by omega) (by omega)
          rw [h2, k1, hz] at hX
          cases hX
      · exact .inr ⟨h4, h5, h6, h7⟩
    have hI : ∀ k X, σ[k]? = some X → HpE (σ.map fun T => viewE σ H (H T)) k = viewE σ H (H X) := fun k X hX => hpI hX
    refine ⟨fun X hX => ?_, fun X e rows hX hr => ?_, fun X hX hr => ?_, fun X hX hr => ?_, fun X hX hr => ?_⟩
    · rcases old X hX with ⟨k, h1, h2, h3⟩ | ⟨_, _, _, h4⟩
      · obtain ⟨y, _, _, _, _, h5⟩ := key k (by omega)
        rw [h3]
        exact h5 (hle'.sn k (hcs k h1))
      · rw [h4]; exact hX
    · rcases old X hX with ⟨k, h1, h2, h3⟩ | ⟨h4, _⟩
      · obtain ⟨y, _, h5, h6, _⟩ := key k (by omega)
        rw [h3, h5] at hr
        have hy := bkE_root hr
        obtain ⟨rows1, h7⟩ := hle'.root k e rows (hcs k h1) (by rw [h6]; exact hy)
        rw [hI k X h2] at h7
        cases hx : H X with
        | root e1 r1 => rw [hx] at h7; simp only [viewE, Ent.root.injEq] at h7; rw [h7.1]; exact ⟨r1, rfl⟩
        | box cs => rw [hx] at h7; cases h7
        | dead => rw [hx] at h7; cases h7
      · rw [h4] at hr; exact ⟨rows, hr⟩
    · rcases old X hX with ⟨k, h1, h2, h3⟩ | ⟨h4, _⟩
      · exact hlive X (List.mem_of_getElem? h2)
      · rwa [h4] at hr
    · rcases old X hX with ⟨k, h1, h2, h3⟩ | ⟨_, h4, _⟩
      · obtain ⟨y, _, h5, h6, h7, _⟩ := key k (by omega)
        rw [h3, h5, bkE_isRoot] at hr
        have h8 := hle'.hd k (hcs k h1) (by rw [h6]; exact hr)
        have h9 := h7 []
        rw [← h3] at h9
        rw [h9, h8]
        simp only [Gh.call, h2]
      · exact h4 []
    · rcases old X hX with ⟨k, h1, h2, h3⟩ | ⟨_, _, h4, _⟩
      · obtain ⟨y, _, h5, h6, h7, _⟩ := key k (by omega)
        rw [h3, h5, bkE_live] at hr
        have h8 := hle'.bx k (hcs k h1) (by rw [h6]; exact hr)
        have h9 : g2.bx X = g'.bx k := by rw [← hg2]; simp only [Gh.back, idx_get hn h2]
        rw [h9, h8]
        simp only [Gh.call, h2]
      · exact h4
  have hcr : ∀ c u, outE c = true → CRel P (callEnv σ H g w) (HpE O) g' c u → CRel P E H2 g2 (bkC σ nx c) u := by
    intro c u ho hc
    cases c <;> first | exact hc | (simp [outE] at ho; done) | skip
    case rf k n =>
      obtain ⟨h1, h2, h3⟩ := hc
      have hlt : k < O.length := by
        rcases Nat.lt_or_ge k O.length with c | c
        · exact c
        · rw [hk k c] at h1; cases h1
      obtain ⟨y, k1, k2, k3, k4, k5⟩ := key k hlt
      refine ⟨k5 h1, h2, fun hr => ?_⟩
      rw [k2, bkE_isRoot] at hr
      rw [k4]
      exact h3 (by rw [k3]; exact hr)
  have hfr : Frm E w' := by
    refine h.frm.step h'.frm.os h'.frm.tape h'.frm.output h'.frm.size fun b hb => ?_
    by_cases ho : ∃ o, ownR σ H g b o
    · obtain ⟨o, ho⟩ := ho
      have hcell : ∃ cur e, w.heap[b]? = some (.cells cur e (0, 0)) := by
        rcases ownR_cases h ho with ⟨_, _, _, _, _, k⟩ | ⟨_, _, _, _, _, _, k⟩ <;> exact k
      obtain ⟨cur, e, hw⟩ := hcell
      obtain ⟨c', h1, h2, h3⟩ := h'.frm.cells b cur e (0, 0) hw
      refine .inr ⟨cur, e, c', hw, h1, h2, fun o' ho' => h3 o' fun hh => ?_⟩
      rcases ownR_cases h hh with ⟨_, _, _, _, k, _⟩ | ⟨_, _, _, _, _, k, _⟩
      · rcases k with k | k
        · omega
        · exact ho' (k o')
      · rcases k with k | k
        · omega
        · exact ho' k
    · exact .inl (same_block h'.frm (Nat.lt_of_lt_of_le hb h.frm.size) fun o hh => ho ⟨o, hh⟩)
  refine ⟨⟨hfr, fun X e rows hX p e2 rows2 hp => ?_, fun X cs hX => ?_, fun X hX => ?_⟩, hle, hcr⟩
  · rcases split X with ⟨k, h1, h2, h3, h4⟩ | ⟨hm, hi, hnr, h4, h5, h6, h7⟩
    · obtain ⟨y, k1, k2, k3, k4, k5⟩ := key k h1
      rw [h2, k2] at hX
      have hy := bkE_root hX
      subst hy
      have hpr : PurRows rows := by
        rcases Nat.lt_or_ge k σ.length with c | c
        · have hI : (σ.map fun T => viewE σ H (H T))[k]? = some (viewE σ H (H σ[k])) := by simp [c]
          have := hkept k _ _ hI k1
          cases hx : viewE σ H (H σ[k]) with
          | root e1 r1 => rw [hx] at this; exact this.2
          | box cs => rw [hx] at this; exact this.elim
          | dead => rw [hx] at this; exact this.elim
        · exact hnew k _ c k1
      have hpr2 : PurRows rows2 := pur_at p (.list e rows) (.list _ _ hpr) e2 rows2 hp
      rw [h2]
      rcases h'.node k e rows k3 p e2 rows2 hp with ⟨m1, m2⟩ | ⟨b, cap, cur, m1, m2, m3, m4, m5, m6, m7, m8⟩
      · exact .inl ⟨by rw [k4]; exact m1, m2⟩
      · have hb : (w.heap.size ≤ b) ∨ (b < w.heap.size ∧ ∃ T ∈ σ, ∃ p, g.own b = some (T, p) ∧ (E.w0.heap.size ≤ b ∨ ∀ o, E.own b o)) := by
          rcases Nat.lt_or_ge b w.heap.size with c | c
          · rcases m3 with m3 | m3
            · exact .inl m3
            · exact .inr ⟨c, own_all h m3⟩
          · exact .inl c
        refine .inr ⟨b, cap, cur, by rw [k4]; exact m1, ?_, ?_, m4, m5, m6, m7, fun i r hr => ?_⟩
        · rw [← hg2]
          rcases hb with hb | ⟨hb, T, hT, q, hq, _⟩
          · simp only [Gh.back, if_pos hb, m2, Option.map_some]
          · obtain ⟨kk, hkk⟩ := idx_mem hT
            simp only [Gh.back, if_neg (Nat.not_le.2 hb), hq, hkk, m2, Option.map_some]
        · rcases hb with hb | ⟨_, T, hT, q, _, hq⟩
          · exact .inl (Nat.le_trans h.frm.size hb)
          · exact hq
        · obtain ⟨q1, q2⟩ := m8 i r hr
          refine ⟨q1, fun j c hc => ?_⟩
          obtain ⟨u, q3, q4⟩ := q2 j c hc
          refine ⟨u, q3, ?_⟩
          rw [k4]
          have := hpr2 r (List.mem_of_getElem? hr) c (List.mem_of_getElem? hc)
          cases this <;> exact q4
    · rw [h4] at hX
      refine node_mono hle (h.node X e rows hX p e2 rows2 hp) h5 (fun b hb ho => ?_) (fun b hb ho => same_block h'.frm hb (nown_rt h hm ho))
      rw [← hg2]
      simp only [Gh.back, if_neg (Nat.not_le.2 hb), ho, hi]
  · rcases split X with ⟨k, h1, h2, h3, h4⟩ | ⟨hm, hi, hnr, h4, h5, h6, h7⟩
    · obtain ⟨y, k1, k2, k3, k4, k5⟩ := key k h1
      rw [h2, k2] at hX
      obtain ⟨cs', rfl, rfl⟩ := bkE_box hX
      rcases Nat.lt_or_ge k σ.length with c | c
      rotate_left
      · exact (hnew k _ c k1).elim
      obtain ⟨T, j1, j2, j3, j4⟩ := hin k c
      have hXT : X = T := by rw [h2, j4]
      subst hXT
      have hI : (σ.map fun T => viewE σ H (H T))[k]? = some (viewE σ H (H X)) := by simp [j1]
      have hkp := hkept k _ _ hI k1
      obtain ⟨cs0, hbox⟩ : ∃ cs0, H X = .box cs0 := by
        cases hx : H X with
        | root e1 r1 => rw [hx] at hkp; exact hkp.elim
        | box cs => exact ⟨cs, rfl⟩
        | dead => rw [hx] at hkp; exact hkp.elim
      rw [hbox] at hkp
      obtain ⟨hl, hall⟩ := hkp
      rw [List.length_map] at hl
      obtain ⟨cur0, e0, b1, b2, b3⟩ := h.box X cs0 hbox
      obtain ⟨cur, e, m1, m2, m3⟩ := h'.box k cs' k3
      have hbx : g'.bx k = g.bx X := by
        have := hle'.bx k (hcs k c) (by rw [k3]; rfl)
        rw [this]
        simp only [Gh.call, j1]
      have hbx2 : g2.bx X = g.bx X := by rw [← hg2]; simp only [Gh.back, j2, hbx]
      have hlt : (g.bx X).1 < w.heap.size := (Array.getElem?_eq_some_iff.1 b1).1
      rw [hbx] at m1 m2 m3
      refine ⟨cur, e, by rw [hbx2]; exact m1, by rw [hbx2, ← hg2]; simp only [Gh.back, if_neg (Nat.not_le.2 hlt), b2], fun j c' hj => ?_⟩
      simp only [List.getElem?_map, Option.map_eq_some_iff] at hj
      obtain ⟨c0, hc0, rfl⟩ := hj
      have hjl : j < cs0.length := by rw [← hl]; exact (List.getElem?_eq_some_iff.1 hc0).1
      obtain ⟨n1, n2, _⟩ := b3 j cs0[j] (List.getElem?_eq_getElem hjl)
      obtain ⟨n3, n4, u, n5, n6⟩ := m3 j c0 hc0
      rw [hbx2]
      refine ⟨?_, n2, u, n5, hcr c0 u (List.all_eq_true.1 hall c0 (List.mem_of_getElem? hc0)) n6⟩
      rw [← hg2]
      simp only [Gh.back, if_neg (Nat.not_le.2 hlt), n1, j2, n3, Option.map_some, j4]
    · rw [h4] at hX
      have hb := h.box X cs hX
      obtain ⟨cur0, e0, b1, b2, b3⟩ := hb
      have hlt : (g.bx X).1 < w.heap.size := (Array.getElem?_eq_some_iff.1 b1).1
      refine box_mono hle (h.box X cs hX) h6 (fun hh => by rw [← hg2]; simp only [Gh.back, if_neg (Nat.not_le.2 hlt), hh]) (fun o j ho => by rw [← hg2]; simp only [Gh.back, if_neg (Nat.not_le.2 hlt), ho, hi]) (fun cur e he => ?_)
      obtain ⟨c', q1, q2, q3⟩ := h'.frm.cells _ cur e (0, 0) he
      exact ⟨c', q1, fun o j ho => q3 o (nown_bx h hm b2 ho)⟩
  · rcases split X with ⟨k, h1, h2, h3, h4⟩ | ⟨hm, hi, hnr, h4, h5, h6, h7⟩
    · obtain ⟨y, k1, k2, k3, k4, k5⟩ := key k h1
      rw [h2, k2, bkE_live] at hX
      rw [h2]
      exact k5 (h'.seen k (by rw [k3]; exact hX))
    · rw [h4] at hX
      rw [h7]
      exact h.seen X hX

theorem outC_outE {c : VV} (h : outC c = true) : outE c = true := by cases c <;> first | rfl | (simp [outC] at h)

/-- The state behind such a call. -/
def St.impO (s : St) (σ : List Nat) (O : List Ent) : St := { s with H := putO (bkE σ s.nx) σ s.nx O s.H, nx := s.nx + (O.length - σ.length) }

theorem rel_back (h : Rel P E g s a w) (hn : σ.Nodup) (hok : ∀ T ∈ σ, viewOkE σ s.H (s.H T)) (hlen : σ.length ≤ O.length) (hroom : s.room (O.length - σ.length) = true)
    (hkept : ∀ (k : Nat) (x y : Ent), (σ.map fun T => viewE σ s.H (s.H T))[k]? = some x → O[k]? = some y → keptOk x y) (hnew : ∀ (k : Nat) (y : Ent), σ.length ≤ k → O[k]? = some y → newOk y)
    (h' : HRel P (callEnv σ s.H g w) g' (HpE O) w') (hk : ∀ T, O.length ≤ T → g'.sn T = false) (hle' : HLe (g.call σ) (HpE (σ.map fun T => viewE σ s.H (s.H T))) g' (HpE O))
    {v : VV} {val : Value} (ho : outV v = true) (hv : VRel P (callEnv σ s.H g w) (HpE O) g' v val) :
    ∃ g2, Rel P E g2 (s.impO σ O) a w' ∧ HLe g s.H g2 (s.impO σ O).H ∧ (∀ T, (s.nx ≤ T → s.nx + (O.length - σ.length) ≤ T) → g2.sn T = g.sn T) ∧ VRel P E (s.impO σ O).H g2 (bkV σ s.nx v) val := by
  obtain ⟨h1, h2, h3⟩ := hrel_back (nx := s.nx) h.heap hn hok hlen hkept hnew h' hk hle' (fun T ha hb => fresh_at h hroom ha hb)
  have hsn : ∀ T, (s.nx ≤ T → s.nx + (O.length - σ.length) ≤ T) → (g.back g' σ s.nx (O.length - σ.length) w.heap.size).sn T = g.sn T := fun T hT => by
    have hc : ¬ (s.nx ≤ T ∧ T < s.nx + (O.length - σ.length)) := by omega
    simp only [Gh.back, if_neg hc]
    cases hi : idx σ T with
    | some k =>
      have hm := List.mem_of_getElem? (idx_some hi)
      have := hok T hm
      refine (h.heap.seen T ?_).symm
      cases hx : s.H T with
      | dead => rw [hx] at this; exact this.elim
      | _ => rfl
    | none => rfl
  refine ⟨_, rel_step (n' := s.nx + (O.length - σ.length)) h h2 h1 (fun T hT => ?_), h2, hsn, ?_⟩
  · obtain ⟨f1, f2⟩ := fresh_on (Nat.le_add_right _ _) hT
    rw [hsn T (fun _ => f2)]
    exact h.fresh T f1
  · have hA : ∀ {x : VV} {u : Value}, outA x = true → ARel P (callEnv σ s.H g w) (HpE O) g' x u → ARel P E (s.impO σ O).H (g.back g' σ s.nx (O.length - σ.length) w.heap.size) (bkA σ s.nx x) u := by
      intro x u hx hu
      rcases outA_spec hx with ⟨vs, rfl, hvs⟩ | ⟨hne, hoc⟩
      · obtain ⟨cs, k1, k2, k3⟩ := hu
        refine ⟨cs, k1, by simpa using k2, fun j c u hc hu => ?_⟩
        simp only [List.getElem?_map, Option.map_eq_some_iff] at hc
        obtain ⟨c0, hc0, rfl⟩ := hc
        exact h3 _ _ (outC_outE (hvs c0 (List.mem_of_getElem? hc0))) (k3 j c0 u hc0 hu)
      · rw [arel_eq hne] at hu
        have : bkA σ s.nx x = bkC σ s.nx x := by cases x <;> first | rfl | exact absurd rfl (hne _)
        rw [this]
        exact arel_of_crel (h3 _ _ (outC_outE hoc) hu)
    by_cases ht : ∃ vs, v = .tup vs
    · obtain ⟨vs, rfl⟩ := ht
      obtain ⟨cs, k1, k2, k3⟩ := hv
      refine ⟨cs, k1, by simpa using k2, fun j c u hc hu => ?_⟩
      simp only [List.getElem?_map, Option.map_eq_some_iff] at hc
      obtain ⟨c0, hc0, rfl⟩ := hc
      have ho' : outA c0 = true := by
        simp only [outV, List.all_eq_true] at ho
        exact ho c0 (List.mem_of_getElem? hc0)
      exact hA ho' (k3 j c0 u hc0 hu)
    · have hne : ∀ vs, v ≠ .tup vs := fun vs hh => ht ⟨vs, hh⟩
      rw [vrel_eq hne] at hv
      have k1 : bkV σ s.nx v = bkA σ s.nx v := by cases v <;> first | rfl | exact absurd rfl (hne _)
      have k2 : outA v = true := by cases v <;> first | exact ho | exact absurd rfl (hne _)
      rw [k1]
      exact vrel_of_arel (hA k2 hv)

/-- A call of a function that turns what it is handed. -/
def OwnCall (P : Program) (f : FuncId) (xs : List VV) (s : St) (dst : Option Nat) (K : St → Prop) : Prop :=
  s.lim = none ∧ ∃ σ v O, σ.Nodup ∧ (∀ T ∈ σ, viewOkE σ s.H (s.H T)) ∧ (∀ x ∈ xs, viewOk σ s.H x) ∧ SatO P f (xs.map (viewA σ s.H)) (σ.map fun T => viewE σ s.H (s.H T)) v O ∧
    s.room (O.length - σ.length) = true ∧ ∃ s' : St, (s.impO σ O).putd dst (bkV σ s.nx v) = some s' ∧ K s'
end
end Go.Proofs.Ytclljpdcpcolpaa
