/- The value-level engine, tenth part: new slices: made, written out, appended to. -/
import Derived.Test.YtclljpdcpcolpaaEngI
namespace Go.Proofs.Ytclljpdcpcolpaa
open Go Go.RowKit
set_option linter.unusedVariables false
set_option linter.unusedSimpArgs false

/-- A new slice, in the place of the slice T: what lay under T's elements lies under its own. -/
def Gh.grow (g : Gh) (Y T : Nat) (nb : Option Nat) (v : Value) : Gh :=
  { g with
    hd := fun X p => if X = Y then (if p = [] then v else g.hd T p) else g.hd X p
    own := fun b => if nb = some b then some (Y, []) else match g.own b with
      | some (X, p) => if X = T then some (Y, p) else some (X, p)
      | none => none
    sn := fun X => if X = Y then true else g.sn X }

section
variable {P : Program} {E : Env} {g : Gh} {H : Heap} {w w' : World}

theorem own_root_lt (h : HRel P E g H w) {T : Nat} {e : TypeId} {rows : List (List PT)} (hT : H T = .root e rows) : g.sn T = true := h.seen T (by simp [hT, Ent.live])

theorem At_app {e : TypeId} {rows ns : List (List PT)} {n : Nat} (hn : n ≤ rows.length) (hns : ∀ r ∈ ns, ∀ c ∈ r, ∀ e rows, c ≠ PT.list e rows)
    {x : Nat × Nat} {p : Path} {z : TypeId × List (List PT)} (h : At (x :: p) (.list e (rows.take n ++ ns)) = some z) : At (x :: p) (.list e rows) = some z := by
  obtain ⟨i, j⟩ := x
  simp only [At] at h ⊢
  rw [List.getElem?_append] at h
  split at h
  · rename_i hlt
    rw [List.getElem?_take] at h
    split at h
    · exact h
    · simp at h
  · cases hr : ns[i - (rows.take n).length]? with
    | none => rw [hr] at h; simp at h
    | some r =>
      rw [hr] at h
      simp only [Option.getD_some] at h
      cases hc : r[j]? with
      | none => rw [hc] at h; simp at h
      | some c =>
        rw [hc] at h
        simp only [Option.bind_some] at h
        have := hns r (List.mem_of_getElem? hr) c (List.mem_of_getElem? hc)
        cases c with
        | list e2 rows2 => exact absurd rfl (this _ _)
        | _ => cases p <;> simp [At] at h

theorem At_root_some {e : TypeId} {rows : List (List PT)} {p : Path} {e2 : TypeId} {rows2 : List (List PT)} (h : At p (.list e rows) = some (e2, rows2)) : (p = [] ∧ e2 = e ∧ rows2 = rows) ∨ ∃ x q, p = x :: q := by
  cases p with
  | nil => simp only [At, Option.some.injEq, Prod.mk.injEq] at h; exact .inl ⟨rfl, h.1.symm, h.2.symm⟩
  | cons x q => exact .inr ⟨x, q, rfl⟩

/-- A new slice out of the slice T (which is gone behind it) and rows without slices of their own. -/
theorem hrel_grow (h : HRel P E g H w) {Y : Nat} (hY : g.sn Y = false) {T : Nat} {e : TypeId} {rows : List (List PT)} (hT : H T = .root e rows) {n : Nat} (hn : n ≤ rows.length) {ns : List (List PT)}
    (hns : ∀ r ∈ ns, ∀ c ∈ r, ∀ e rows, c ≠ PT.list e rows) {v : Value} {nb : Nat} {cap : Nat} {cur' : Array Value} (hv : v = .slice (some ⟨nb, 0, none⟩) (n + ns.length) cap)
    (hfr : Frm E w') (hnb : w'.heap[nb]? = some (.cells cur' e (0, 0))) (hoth : ∀ b, b < w.heap.size → b ≠ nb → w'.heap[b]? = w.heap[b]?) (hwhere : nb = w.heap.size ∨ g.own nb = some (T, []))
    (hpl : E.w0.heap.size ≤ nb ∨ ∀ o, E.own nb o) (hcap : n + ns.length ≤ cap) (hmax : cap ≤ maxLen) (hsz : cur'.size = cap * P.cellsOf e)
    (hold : ∀ i r, i < n → rows[i]? = some r → ∀ (j : Nat), j < P.cellsOf e → ∀ cur b m c, g.hd T [] = .slice (some ⟨b, 0, none⟩) m c → w.heap[b]? = some (.cells cur e (0, 0)) → cur'[i * P.cellsOf e + j]? = cur[i * P.cellsOf e + j]?)
    (hnew : ∀ i r, ns[i]? = some r → r.length = P.cellsOf e ∧ ∀ j c, r[j]? = some c → ∃ u, cur'[(n + i) * P.cellsOf e + j]? = some u ∧ ∀ hh, ocell H g c hh u) :
    HRel P E (g.grow Y T (some nb) v) (updH Y (.root e (rows.take n ++ ns)) (updH T .dead H)) w' ∧
      CRel P E (updH Y (.root e (rows.take n ++ ns)) (updH T .dead H)) (g.grow Y T (some nb) v) (.rf Y (n + ns.length)) v := by
  have hTlt := own_root_lt h hT
  have hne : ∀ X, g.sn X = true → X ≠ Y := fun X hX hh => by rw [hh, hY] at hX; cases hX
  have hsn : ∀ X, g.sn X = true → (g.grow Y T (some nb) v).sn X = true := fun X hX => by simp [Gh.grow, hX]
  have hle : HLe g H (g.grow Y T (some nb) v) (updH Y (.root e (rows.take n ++ ns)) (updH T .dead H)) := by
    refine ⟨hsn, fun X e' rows' hX hh => ?_, fun X hX hh => ?_, fun X hX _ => ?_, fun X hX _ => rfl⟩
    · rw [updH_ne _ _ (hne X hX)] at hh
      by_cases c1 : X = T
      · subst c1; rw [updH_same] at hh; cases hh
      · rw [updH_ne _ _ c1] at hh; exact ⟨_, hh⟩
    · rw [updH_ne _ _ (hne X hX)] at hh
      by_cases c1 : X = T
      · subst c1; rw [updH_same] at hh; cases hh
      · rwa [updH_ne _ _ c1] at hh
    · simp only [Gh.grow]
      rw [if_neg (hne X hX)]
  have hlen : (rows.take n ++ ns).length = n + ns.length := by simp; omega
  have hroot := h.node T e rows hT [] e rows rfl
  refine ⟨⟨hfr, fun X e' rows' hX p e2 rows2 hp => ?_, fun X cs' hX => ?_, fun X hX => ?_⟩, ?_⟩
  · by_cases c1 : X = Y
    · have c1 := c1.symm
      subst c1
      rw [updH_same] at hX
      injection hX with e1 e3
      subst e1
      subst e3
      rcases At_root_some hp with ⟨rfl, rfl, rfl⟩ | ⟨x, q, rfl⟩
      · refine .inr ⟨nb, cap, cur', by simp [Gh.grow, hv, hlen], by simp [Gh.grow], hpl, hnb, by rw [hlen]; exact hcap, hmax, hsz, fun i r hr => ?_⟩
        rw [List.getElem?_append] at hr
        split at hr
        · rename_i hlt
          rw [List.getElem?_take] at hr
          split at hr
          · rename_i hin
            rcases hroot with ⟨_, h0⟩ | ⟨b, cap0, cur, h1, h2, h3, h4, h5, h6, h7, h8⟩
            · subst h0; simp at hr
            · obtain ⟨h9, h10⟩ := h8 i r hr
              refine ⟨h9, fun j c hc => ?_⟩
              obtain ⟨u, h11, h12⟩ := h10 j c hc
              have hjl : j < P.cellsOf e2 := by
                rcases Nat.lt_or_ge j r.length with h' | h'
                · omega
                · rw [List.getElem?_eq_none h'] at hc; cases hc
              refine ⟨u, by rw [hold i r hin hr j hjl cur b _ _ h1 h4]; exact h11, ?_⟩
              have hh : (g.grow Y T (some nb) v).hd Y ([] ++ [(i, j)]) = g.hd T ([] ++ [(i, j)]) := by simp [Gh.grow]
              rw [hh]
              exact ocell_mono hle h12
          · cases hr
        · rename_i hge
          have hmin : (rows.take n).length = n := by simp; omega
          rw [hmin] at hr hge
          obtain ⟨h9, h10⟩ := hnew (i - n) r hr
          refine ⟨h9, fun j c hc => ?_⟩
          obtain ⟨u, h11, h12⟩ := h10 j c hc
          rw [show n + (i - n) = i by omega] at h11
          exact ⟨u, h11, ocell_mono hle (h12 _)⟩
      · have hp' := At_app hn hns hp
        have hnode := h.node T e rows hT (x :: q) e2 rows2 hp'
        rcases hnode with ⟨h1, h2⟩ | ⟨b, cap0, cur, h1, h2, h3, h4, h5, h6, h7, h8⟩
        · exact .inl ⟨by simp [Gh.grow]; exact h1, h2⟩
        · have hblt : b < w.heap.size := (Array.getElem?_eq_some_iff.1 h4).1
          have hbne : b ≠ nb := by
            rintro rfl
            rcases hwhere with hw | hw
            · omega
            · rw [hw] at h2; injection h2 with h2; injection h2 with _ h2; cases h2
          refine .inr ⟨b, cap0, cur, by simp [Gh.grow]; exact h1, ?_, h3, by rw [hoth b hblt hbne]; exact h4, h5, h6, h7, fun i r hr => ?_⟩
          · simp only [Gh.grow]
            rw [if_neg (by simpa using Ne.symm hbne), h2]
            simp
          · obtain ⟨h9, h10⟩ := h8 i r hr
            refine ⟨h9, fun j c hc => ?_⟩
            obtain ⟨u, h11, h12⟩ := h10 j c hc
            have hh : (g.grow Y T (some nb) v).hd Y (x :: q ++ [(i, j)]) = g.hd T (x :: q ++ [(i, j)]) := by simp [Gh.grow]
            refine ⟨u, h11, ?_⟩
            rw [hh]
            exact ocell_mono hle h12
    · rw [updH_ne _ _ c1] at hX
      by_cases c2 : X = T
      · subst c2; rw [updH_same] at hX; cases hX
      · rw [updH_ne _ _ c2] at hX
        have hbn : ∀ b, b < w.heap.size → g.own b = some (X, p) → b ≠ nb := by
          rintro b hb1 hb2 rfl
          rcases hwhere with hw | hw
          · omega
          · rw [hw] at hb2; injection hb2 with hb2; injection hb2 with hb2 _; exact c2 hb2.symm
        refine node_mono hle (h.node X e' rows' hX p e2 rows2 hp) (fun q => by simp [Gh.grow, c1]) (fun b hb1 hb2 => ?_) (fun b hb1 hb2 => hoth b hb1 (hbn b hb1 hb2))
        have := hbn b hb1 hb2
        simp only [Gh.grow]
        rw [if_neg (by simpa using Ne.symm this), hb2]
        simp [c2]
  · have c1 : X ≠ Y := by intro hh; rw [hh, updH_same] at hX; cases hX
    rw [updH_ne _ _ c1] at hX
    have c2 : X ≠ T := by rintro rfl; rw [updH_same] at hX; cases hX
    rw [updH_ne _ _ c2] at hX
    have hb := h.box X cs' hX
    obtain ⟨cur1, e1, hbw, hbo, _⟩ := hb
    have hblt : (g.bx X).1 < w.heap.size := (Array.getElem?_eq_some_iff.1 hbw).1
    have hbne : (g.bx X).1 ≠ nb := by
      intro hh
      rcases hwhere with hw | hw
      · omega
      · rw [hh, hw] at hbo; cases hbo
    refine box_mono hle (h.box X cs' hX) rfl (fun hh => ?_) (fun _ _ hh => hh) (fun cur2 e2 he2 => ⟨cur2, by rw [hoth _ hblt hbne]; exact he2, fun _ _ _ => rfl⟩)
    simp only [Gh.grow]
    rw [if_neg (by simpa using Ne.symm hbne), hh]
  · by_cases c1 : X = Y
    · simp [Gh.grow, c1]
    · rw [updH_ne _ _ c1] at hX
      by_cases c2 : X = T
      · subst c2; rw [updH_same] at hX; cases hX
      · rw [updH_ne _ _ c2] at hX; exact hsn X (h.seen X hX)
  · refine ⟨by simp [Gh.grow], by rw [hv]; rfl, fun _ => ?_⟩
    simp [Gh.grow, hv, cutv]

/-- A new slice in a new block; below it there are only empty slices that are nil. -/
def Gh.fresh (g : Gh) (Y : Nat) (nb : Option Nat) (v : Value) : Gh :=
  { g with
    hd := fun X p => if X = Y then (if p = [] then v else .slice none 0 0) else g.hd X p
    own := fun b => if nb = some b then some (Y, []) else g.own b
    sn := fun X => if X = Y then true else g.sn X }

def flatC : PT → Prop
  | .list _ rows => rows = []
  | _ => True

theorem At_flat {e : TypeId} {rows : List (List PT)} (hns : ∀ r ∈ rows, ∀ c ∈ r, flatC c) {x : Nat × Nat} {p : Path} {z : TypeId × List (List PT)} (h : At (x :: p) (.list e rows) = some z) : z.2 = [] := by
  obtain ⟨i, j⟩ := x
  simp only [At] at h
  cases hr : rows[i]? with
  | none => rw [hr] at h; simp at h
  | some r =>
    rw [hr] at h
    simp only [Option.getD_some] at h
    cases hc : r[j]? with
    | none => rw [hc] at h; simp at h
    | some c =>
      rw [hc] at h
      simp only [Option.bind_some] at h
      have := hns r (List.mem_of_getElem? hr) c (List.mem_of_getElem? hc)
      cases c with
      | list e2 rows2 =>
        have : rows2 = [] := this
        subst this
        cases p with
        | nil => simp only [At, Option.some.injEq] at h; rw [← h]
        | cons y q => obtain ⟨a, b⟩ := y; simp [At] at h
      | _ => cases p <;> simp [At] at h

theorem hrel_fresh (h : HRel P E g H w) {Y : Nat} (hY : g.sn Y = false) {e : TypeId} {rows : List (List PT)} (hfl : ∀ r ∈ rows, ∀ c ∈ r, flatC c) {cap : Nat} {cur : Array Value}
    (hcap : rows.length ≤ cap) (hmax : cap ≤ maxLen) (hsz : cur.size = cap * P.cellsOf e)
    (hnew : ∀ i r, rows[i]? = some r → r.length = P.cellsOf e ∧ ∀ j c, r[j]? = some c → ∃ u, cur[i * P.cellsOf e + j]? = some u ∧ ocell H g c (.slice none 0 0) u) :
    HRel P E (g.fresh Y (some w.heap.size) (.slice (some ⟨w.heap.size, 0, none⟩) rows.length cap)) (updH Y (.root e rows) H) (w.alloc (.cells cur e)) ∧
      CRel P E (updH Y (.root e rows) H) (g.fresh Y (some w.heap.size) (.slice (some ⟨w.heap.size, 0, none⟩) rows.length cap)) (.rf Y rows.length) (.slice (some ⟨w.heap.size, 0, none⟩) rows.length cap) := by
  have hle : HLe g H (g.fresh Y (some w.heap.size) (.slice (some ⟨w.heap.size, 0, none⟩) rows.length cap)) (updH Y (.root e rows) H) :=
    hle_new hY (fun T hT => by simp [Gh.fresh, hT]) (fun T p hT => by simp [Gh.fresh, hT]) (fun T hT => rfl)
  refine ⟨⟨h.frm.alloc _, fun X e' rows' hX p e2 rows2 hp => ?_, fun X cs' hX => ?_, seen_new h (fun T hT => by simp [Gh.fresh, hT]) (by simp [Gh.fresh])⟩, by simp [Gh.fresh], rfl, fun _ => by simp [Gh.fresh, cutv]⟩
  · by_cases c1 : X = Y
    · have c1 := c1.symm
      subst c1
      rw [updH_same] at hX
      injection hX with e1 e3
      subst e1
      subst e3
      rcases At_root_some hp with ⟨rfl, rfl, rfl⟩ | ⟨x, q, rfl⟩
      · refine .inr ⟨w.heap.size, cap, cur, by simp [Gh.fresh], by simp [Gh.fresh], .inl h.frm.size, heap_alloc_new w _, hcap, hmax, hsz, fun i r hr => ?_⟩
        obtain ⟨h9, h10⟩ := hnew i r hr
        refine ⟨h9, fun j c hc => ?_⟩
        obtain ⟨u, h11, h12⟩ := h10 j c hc
        refine ⟨u, h11, ?_⟩
        have hh : (g.fresh Y (some w.heap.size) (.slice (some ⟨w.heap.size, 0, none⟩) rows2.length cap)).hd Y ([] ++ [(i, j)]) = .slice none 0 0 := by simp [Gh.fresh]
        rw [hh]
        exact ocell_mono hle h12
      · exact .inl ⟨by simp [Gh.fresh], At_flat hfl hp⟩
    · rw [updH_ne _ _ c1] at hX
      refine node_mono hle (h.node X e' rows' hX p e2 rows2 hp) (fun q => by simp [Gh.fresh, c1]) (fun b hb1 hb2 => ?_) (fun b hb1 hb2 => Below.heap_alloc w _ b hb1)
      have : w.heap.size ≠ b := by omega
      simp [Gh.fresh, this, hb2]
  · have c1 : X ≠ Y := by intro hh; rw [hh, updH_same] at hX; cases hX
    rw [updH_ne _ _ c1] at hX
    have hb := h.box X cs' hX
    obtain ⟨cur1, e1, hbw, hbo, _⟩ := hb
    have hblt : (g.bx X).1 < w.heap.size := (Array.getElem?_eq_some_iff.1 hbw).1
    refine box_mono hle (h.box X cs' hX) rfl (fun hh => ?_) (fun _ _ hh => hh) (fun cur2 e2 he2 => ⟨cur2, by rw [Below.heap_alloc w _ _ hblt]; exact he2, fun _ _ _ => rfl⟩)
    have : w.heap.size ≠ (g.bx X).1 := by omega
    simp [Gh.fresh, this, hh]

/-- A token for the nil slice: nothing turns. -/
theorem hrel_nil (h : HRel P E g H w) {Y : Nat} (hY : g.sn Y = false) (e : TypeId) :
    HRel P E (g.fresh Y none (.slice none 0 0)) (updH Y (.root e []) H) w ∧ CRel P E (updH Y (.root e []) H) (g.fresh Y none (.slice none 0 0)) (.rf Y 0) (.slice none 0 0) := by
  have hle : HLe g H (g.fresh Y none (.slice none 0 0)) (updH Y (.root e []) H) :=
    hle_new hY (fun T hT => by simp [Gh.fresh, hT]) (fun T p hT => by simp [Gh.fresh, hT]) (fun T hT => rfl)
  refine ⟨⟨h.frm, fun X e' rows' hX p e2 rows2 hp => ?_, fun X cs' hX => ?_, seen_new h (fun T hT => by simp [Gh.fresh, hT]) (by simp [Gh.fresh])⟩, by simp [Gh.fresh], rfl, fun _ => by simp [Gh.fresh, cutv]⟩
  · by_cases c1 : X = Y
    · have c1 := c1.symm
      subst c1
      rw [updH_same] at hX
      injection hX with e1 e3
      subst e1
      subst e3
      rcases At_root_some hp with ⟨rfl, rfl, rfl⟩ | ⟨x, q, rfl⟩
      · exact .inl ⟨by simp [Gh.fresh], rfl⟩
      · obtain ⟨a, b⟩ := x
        simp [At] at hp
    · rw [updH_ne _ _ c1] at hX
      exact node_mono hle (h.node X e' rows' hX p e2 rows2 hp) (fun q => by simp [Gh.fresh, c1]) (fun b hb1 hb2 => by simpa [Gh.fresh] using hb2) (fun b hb1 hb2 => rfl)
  · have c1 : X ≠ Y := by intro hh; rw [hh, updH_same] at hX; cases hX
    rw [updH_ne _ _ c1] at hX
    exact box_mono hle (h.box X cs' hX) rfl (fun hh => by simpa [Gh.fresh] using hh) (fun _ _ hh => hh) (fun cur2 e2 he2 => ⟨cur2, he2, fun _ _ _ => rfl⟩)
end
end Go.Proofs.Ytclljpdcpcolpaa
