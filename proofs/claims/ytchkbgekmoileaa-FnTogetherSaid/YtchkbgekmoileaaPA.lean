/- What the functions of instructions give. -/
import Derived.Test.YtchkbgekmoileaaDA
namespace Go.Proofs.Ytchkbgekmoileaa
open Go Go.RowKit
set_option linter.unusedVariables false
set_option linter.unusedSimpArgs false
set_option maxRecDepth 100000
set_option maxHeartbeats 4000000
attribute [local irreducible] VWP vops vdraw contV contD CallK Guard GuardV NextL Puts Runs RetOK RetQ RetO RetQO thenQ blockQ

structure InsS where
  op : Int
  a : Int
  b : Int
  deriving DecidableEq
def InsS.enc (e : InsS) : List PT := [.int .i64 e.op, .int .i64 e.a, .int .i64 e.b]
def InsS.cells (e : InsS) : List VV := [.int .i64 e.op, .int .i64 e.a, .int .i64 e.b]
def rowsI (es : List InsS) : List (List PT) := es.map InsS.enc
theorem rowsI_len (es : List InsS) : (rowsI es).length = es.length := by simp [rowsI]
theorem rowsI_pur (es : List InsS) : PurRows (rowsI es) := by
  intro r hr c hc
  obtain ⟨e, _, rfl⟩ := List.mem_map.1 hr
  simp only [InsS.enc, List.mem_cons, List.not_mem_nil, or_false] at hc
  rcases hc with rfl | rfl | rfl <;> constructor
theorem rowsI_take (es : List InsS) : (rowsI es).take es.length = rowsI es := by rw [List.take_of_length_le (by rw [rowsI_len]; exact Nat.le_refl _)]
theorem rowsI_at {es : List InsS} {i : Nat} {e : InsS} (h : es[i]? = some e) : (rowsI es)[i]? = some [.int .i64 e.op, .int .i64 e.a, .int .i64 e.b] := by simp [rowsI, h, InsS.enc]

/-- The place of the first that meets a test, -1 if none does. -/
def firstI {α : Type} (p : α → Bool) (xs : List α) : Int := match xs.findIdx? p with
  | some i => i
  | none => -1
theorem firstI_hit {α : Type} {p : α → Bool} {xs : List α} {i : Nat} {x : α} (hx : xs[i]? = some x) (hp : p x = true) (h : ∀ (j : Nat) (y : α), j < i → xs[j]? = some y → p y = false) : firstI p xs = i := by
  have hlt : i < xs.length := (List.getElem?_eq_some_iff.1 hx).1
  have : xs.findIdx? p = some i := by
    rw [List.findIdx?_eq_some_iff_getElem]
    refine ⟨hlt, ?_, fun j hj => ?_⟩
    · rw [List.getElem?_eq_getElem hlt] at hx
      cases hx
      exact hp
    · have := h j _ hj (List.getElem?_eq_getElem (by omega))
      simp [this]
  simp [firstI, this]
theorem firstI_miss {α : Type} {p : α → Bool} {xs : List α} (h : ∀ (j : Nat) (y : α), xs[j]? = some y → p y = false) : firstI p xs = -1 := by
  have : xs.findIdx? p = none := by
    rw [List.findIdx?_eq_none_iff]
    intro x hx
    obtain ⟨j, hj⟩ := List.getElem?_of_mem hx
    simp [h j x hj]
  simp [firstI, this]
theorem firstI_any {α : Type} (p : α → Bool) (xs : List α) : decide (0 ≤ firstI p xs) = xs.any p := by
  unfold firstI
  cases h : xs.findIdx? p with
  | none =>
    rw [List.findIdx?_eq_none_iff] at h
    have : xs.any p = false := by
      rw [List.any_eq_false]
      intro x hx
      simp [h x hx]
    simp [this]
  | some i =>
    rw [List.findIdx?_eq_some_iff_getElem] at h
    obtain ⟨h1, h2, _⟩ := h
    have : xs.any p = true := List.any_eq_true.2 ⟨_, List.getElem_mem h1, h2⟩
    simp [this]

end Go.Proofs.Ytchkbgekmoileaa
