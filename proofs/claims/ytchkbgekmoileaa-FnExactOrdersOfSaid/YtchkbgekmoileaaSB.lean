/- Rows of bools, and what the laws' functions of its slices give. -/
import Derived.Test.YtchkbgekmoileaaDB
import Derived.Test.YtchkbgekmoileaaEf
namespace Go.Proofs.Ytchkbgekmoileaa
open Go Go.RowKit
set_option linter.unusedVariables false
set_option linter.unusedSimpArgs false
set_option maxRecDepth 100000
set_option maxHeartbeats 4000000
attribute [local irreducible] VWP vops vdraw contV contD CallK Guard GuardV NextL Puts Runs RetOK RetQ RetO RetQO thenQ blockQ
attribute [local irreducible] NextN

def encB (b : Bool) : List PT := [.bool b]
def rowsB (es : List Bool) : List (List PT) := es.map encB
theorem rowsB_len (es : List Bool) : (rowsB es).length = es.length := by simp [rowsB]
theorem rowsB_pur (es : List Bool) : PurRows (rowsB es) := by
  intro r hr c hc
  obtain ⟨e, _, rfl⟩ := List.mem_map.1 hr
  simp only [encB, List.mem_cons, List.not_mem_nil, or_false] at hc
  rcases hc with rfl <;> constructor
theorem rowsB_take (es : List Bool) : (rowsB es).take es.length = rowsB es := by rw [List.take_of_length_le (by rw [rowsB_len]; exact Nat.le_refl _)]
theorem rowsB_at {es : List Bool} {i : Nat} {e : Bool} (h : es[i]? = some e) : (rowsB es)[i]? = some [.bool e] := by simp [rowsB, h, encB]
def marksB (k : Int) (n : Nat) : List Bool := (List.range n).map fun j => (k + (j : Nat)).tmod 3 == 0
theorem marksB_len (k : Int) (n : Nat) : (marksB k n).length = n := by simp [marksB]
theorem marksB_at {k : Int} {n i : Nat} (h : i < n) : (marksB k n)[i]? = some ((k + (i : Nat)).tmod 3 == 0) := by simp [marksB, h]
end Go.Proofs.Ytchkbgekmoileaa
