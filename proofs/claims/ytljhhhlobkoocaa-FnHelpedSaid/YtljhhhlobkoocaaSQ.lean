/- Rows of numbers, and what the laws' functions of its slices give. -/
import Derived.Test.YtljhhhlobkoocaaDB
namespace Go.Proofs.Ytljhhhlobkoocaa
open Go Go.RowKit
set_option linter.unusedVariables false
set_option linter.unusedSimpArgs false
set_option maxRecDepth 100000
set_option maxHeartbeats 4000000
attribute [local irreducible] VWP vops vdraw contV contD CallK Guard GuardV NextL Puts Runs RetOK RetQ RetO RetQO thenQ blockQ

def encN (n : Int) : List PT := [.int .i64 n]
def rowsN (es : List Int) : List (List PT) := es.map encN
theorem rowsN_len (es : List Int) : (rowsN es).length = es.length := by simp [rowsN]
theorem rowsN_pur (es : List Int) : PurRows (rowsN es) := by
  intro r hr c hc
  obtain ⟨e, _, rfl⟩ := List.mem_map.1 hr
  simp only [encN, List.mem_cons, List.not_mem_nil, or_false] at hc
  rcases hc with rfl <;> constructor
theorem rowsN_take (es : List Int) : (rowsN es).take es.length = rowsN es := by rw [List.take_of_length_le (by rw [rowsN_len]; exact Nat.le_refl _)]
theorem rowsN_at {es : List Int} {i : Nat} {e : Int} (h : es[i]? = some e) : (rowsN es)[i]? = some [.int .i64 e] := by simp [rowsN, h, encN]
theorem rowsN_scal (es : List Int) : (rowsN es).all (·.all scal) = true := by
  simp [rowsN, encN, scal, List.all_eq_true]
theorem rowsN_app (es : List Int) (e : Int) : rowsN es ++ [[.int .i64 e]] = rowsN (es ++ [e]) := by simp [rowsN, encN]
theorem rowsN_set (es : List Int) (k : Nat) (e : Int) : (rowsN es).set k [.int .i64 e] = rowsN (es.set k e) := by simp [rowsN, List.map_set, encN]

def marksN (k : Int) (n : Nat) : List Int := (List.range n).map fun j => k + (j : Nat)
theorem marksN_len (k : Int) (n : Nat) : (marksN k n).length = n := by simp [marksN]
theorem marksN_at {k : Int} {n i : Nat} (h : i < n) : (marksN k n)[i]? = some (k + (i : Nat)) := by simp [marksN, h]
end Go.Proofs.Ytljhhhlobkoocaa
