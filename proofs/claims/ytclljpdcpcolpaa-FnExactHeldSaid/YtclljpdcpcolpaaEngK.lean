/- The value-level engine, eleventh part: what is built out of parts. -/
import Derived.Test.YtclljpdcpcolpaaEngJ
namespace Go.Proofs.Ytclljpdcpcolpaa
open Go Go.RowKit
set_option linter.unusedVariables false
set_option linter.unusedSimpArgs false

/-- A value's cells. -/
def VV.cells : VV → Option (List VV)
  | .agg vs => some vs
  | .tup _ | .any => none
  | v => some [v]

/-- Each part over the cells at its place. -/
def vfill (place : Nat → Option (Nat × Nat)) (cs : List VV) : List (Nat × VV) → Option (List VV)
  | [] => some cs
  | (i, v) :: rest =>
    match place i, v.cells with
    | some (off, size), some vs => if vs.length = size ∧ off + vs.length ≤ cs.length then vfill place (spl cs off vs) rest else none
    | _, _ => none

section
variable {P : Program} {E : Env} {g : Gh} {H : Heap} {w : World} {ty : Ty}

/-- Cells and values, one by one. -/
def LRel (P : Program) (E : Env) (H : Heap) (g : Gh) (vs : List VV) (cs : List Value) : Prop :=
  cs.length = vs.length ∧ ∀ (j : Nat) (c : VV) (u : Value), vs[j]? = some c → cs[j]? = some u → CRel P E H g c u

theorem cells_rel {x : VV} {vs : List VV} {v : Value} (hx : x.cells = some vs) (h : VRel P E H g x v) : LRel P E H g vs v.cells.toList := by
  by_cases ha : ∃ ws, x = .agg ws
  · obtain ⟨ws, rfl⟩ := ha
    simp only [VV.cells, Option.some.injEq] at hx
    subst hx
    obtain ⟨cs, rfl, h1, h2⟩ := h
    exact ⟨by simpa [Value.cells] using h1, fun j c u hj hu => h2 j c u hj (by simpa [Value.cells] using hu)⟩
  · have hc : CRel P E H g x v ∧ x ≠ .any ∧ vs = [x] := by
      cases x <;> simp [VV.cells] at hx <;> first
        | (subst hx; exact ⟨h, by simp, rfl⟩)
        | exact absurd ⟨_, rfl⟩ ha
    obtain ⟨hc, hn, rfl⟩ := hc
    have h1 := crel_one hc hn
    have hcells : v.cells.toList = [v] := by cases v <;> simp_all [Value.cells, Value.oneCell']
    rw [hcells]
    refine ⟨rfl, fun j c u hj hu => ?_⟩
    cases j with
    | zero =>
      simp only [List.getElem?_cons_zero, Option.some.injEq] at hj hu
      subst hj
      subst hu
      exact hc
    | succ j => simp at hj

theorem lrel_spl {vs us : List VV} {cs ds : List Value} {j : Nat} (h : LRel P E H g vs cs) (h' : LRel P E H g us ds) (hj : j + us.length ≤ vs.length) : LRel P E H g (spl vs j us) (spl cs j ds) := by
  have hj' : j + ds.length ≤ cs.length := by rw [h.1, h'.1]; exact hj
  refine ⟨by rw [spl_length hj, spl_length hj', h.1], fun k c u hc hu => ?_⟩
  rw [spl_get hj] at hc
  rw [spl_get hj'] at hu
  rw [h'.1] at hu
  split at hc
  · rename_i c1; rw [if_pos c1] at hu; exact h.2 k c u hc hu
  · rename_i c1
    rw [if_neg c1] at hu
    split at hc
    · rename_i c2; rw [if_pos c2] at hu; exact h'.2 _ c u hc hu
    · rename_i c2; rw [if_neg c2] at hu; exact h.2 k c u hc hu

theorem foldl_set : ∀ (ds : List Value) (off k : Nat) (cs : Array Value), off + k + ds.length ≤ cs.size →
    ((ds.zipIdx k).foldl (fun cs (x : Value × Nat) => cs.setIfInBounds (off + x.2) x.1) cs) = (spl cs.toList (off + k) ds).toArray := by
  intro ds
  induction ds with
  | nil => intro off k cs h; simp [spl]
  | cons d ds ih =>
    intro off k cs h
    simp only [List.zipIdx_cons, List.foldl_cons]
    rw [ih off (k + 1) _ (by simp at h ⊢; omega)]
    congr 1
    apply List.ext_getElem?
    intro i
    simp at h
    rw [spl_get (by simp; omega), spl_get (by simp; omega)]
    simp only [Array.toList_setIfInBounds, List.getElem?_set, List.length_cons]
    by_cases c1 : i < off + k
    · simp [c1, show i < off + (k + 1) by omega, show off + k ≠ i by omega]
    · by_cases c0 : i = off + k
      · subst c0
        simp only [Nat.lt_irrefl, if_false, show off + k < off + (k + 1) by omega, if_true, Nat.sub_self, show off + k < off + k + (ds.length + 1) by omega, List.getElem?_cons_zero]
        rw [if_pos (by simp; omega)]
      · by_cases c2 : i < off + k + (ds.length + 1)
        · simp [c1, c2, show ¬ i < off + (k + 1) by omega, show i < off + (k + 1) + ds.length by omega, show off + k ≠ i by omega, show i - (off + k) = (i - (off + (k + 1))) + 1 by omega]
        · simp [c1, c2, show ¬ i < off + (k + 1) by omega, show ¬ i < off + (k + 1) + ds.length by omega, show off + k ≠ i by omega]

theorem fill_rel {place : Nat → Option (Nat × Nat)} : ∀ (parts : List (Nat × VV)) (ps : List (Nat × Value)) (cs : List VV) (ds : List Value) (r : List VV), ps.map (·.1) = parts.map (·.1) →
    (∀ (j : Nat) (x : Nat × VV) (y : Nat × Value), parts[j]? = some x → ps[j]? = some y → VRel P E H g x.2 y.2) → LRel P E H g cs ds → vfill place cs parts = some r →
    ∃ es : List Value, Instr.fill place ds.toArray ps = some es.toArray ∧ LRel P E H g r es := by
  intro parts
  induction parts with
  | nil =>
    intro ps cs ds r hp _ hl hf
    have : ps = [] := by simpa using hp
    subst this
    simp only [vfill, Option.some.injEq] at hf
    subst hf
    exact ⟨ds, rfl, hl⟩
  | cons x parts ih =>
    intro ps cs ds r hp hr hl hf
    cases ps with
    | nil => simp at hp
    | cons y ps =>
      obtain ⟨i, v⟩ := x
      obtain ⟨i', V⟩ := y
      simp only [List.map_cons, List.cons.injEq] at hp
      obtain ⟨hi, hp'⟩ := hp
      have hi : i' = i := hi
      subst hi
      simp only [vfill] at hf
      split at hf
      · rename_i off size vs hpl hvs
        split at hf
        · rename_i hc
          obtain ⟨hc1, hc2⟩ := hc
          have hv := cells_rel hvs (hr 0 _ _ rfl rfl)
          have hVs : V.cells.size = vs.length := by have := hv.1; simpa using this
          have hdl := hl.1
          have hds : off + V.cells.toList.length ≤ ds.length := by simp; omega
          have hfs := foldl_set V.cells.toList off 0 ds.toArray (by simpa using hds)
          simp only [Nat.add_zero] at hfs
          obtain ⟨es, he, hre⟩ := ih ps (spl cs off vs) (spl ds off V.cells.toList) r hp' (fun j x y hj hy => hr (j + 1) x y hj hy) (lrel_spl hl hv hc2) hf
          refine ⟨es, ?_, hre⟩
          simp only [Instr.fill, hpl]
          have hsz : ¬ (V.cells.size ≠ size || off + V.cells.size > ds.toArray.size) = true := by simp; omega
          rw [if_neg hsz]
          rw [← he]
          congr 1
          rw [← hfs]
          rw [← Array.foldl_toList]
          simp [Array.toList_zipIdx]
        · cases hf
      · cases hf

theorem const_crel {x : VV} {v : Value} (h : x.const? = some v) : CRel P E H g x v := by
  cases x <;> simp [VV.const?] at h <;> (subst h; rfl)

theorem zero_rel (hT : TyOK P ty) {t : TypeId} {d : TyE} (ht : ty t = some d) (hz : d.zero ≠ []) : ∃ zv, (zeroValue t).run P w = .ok zv w ∧ LRel P E H g d.zero zv.cells.toList ∧ zv.cells.size = d.zero.length ∧
    ∃ i, P.info? t = some i ∧ i.zero = some zv ∧ i.size = d.size ∧ i.bytes = d.bytes := by
  obtain ⟨i, hi, hs, hby, hzz⟩ := (hT t d ht).info
  rcases hzz with h0 | ⟨zv, h1, h2⟩
  · exact absurd h0 hz
  · have hlen : zv.cells.toList.length = d.zero.length := by have := congrArg List.length h2; simpa using this
    refine ⟨zv, by simp [zeroValue, typeInfo, hi, h1], ⟨hlen, fun j c u hj hu => ?_⟩, by simpa using hlen, i, hi, h1, hs, hby⟩
    have h3 := congrArg (fun l => l[j]?) h2
    simp only [List.getElem?_map, hj, hu, Option.map_some, Option.some.injEq] at h3
    exact const_crel h3.symm
end
end Go.Proofs.Ytclljpdcpcolpaa
