/- What both NewStore give. -/
import Derived.Test.YtljhhhlobkoocaaNA
namespace Go.Proofs.Ytljhhhlobkoocaa
open Go Go.RowKit
set_option linter.unusedVariables false
set_option linter.unusedSimpArgs false
set_option maxRecDepth 100000
set_option maxHeartbeats 4000000
attribute [local irreducible] VWP vops vdraw contV contD CallK Guard GuardV NextL Puts Runs RetOK RetQ RetO RetQO thenQ blockQ
attribute [local irreducible] NextB

def headOf (v : Int) : HeadD := ⟨v, 0, -1⟩
def newStoreL (xs : List Int) : StoreD × Bool := if inB xs.length 1 8 = true ∧ allB xs (-1000000000) 1000000000 = true then (⟨xs.map headOf, []⟩, true) else (⟨[], []⟩, false)
theorem rowsH_snoc {xs : List Int} {i : Nat} {v : Int} (h : xs[i]? = some v) : rowsH ((xs.take i).map headOf) ++ [[.int .i64 v, .int .i64 0, .int .i64 (-1)]] = rowsH ((xs.take (i + 1)).map headOf) := by
  rw [List.take_add_one, h]
  simp [rowsH, headOf, HeadD.enc]
theorem rowsHt_len {xs : List Int} {i : Nat} (h : i ≤ xs.length) : (rowsH ((xs.take i).map headOf)).length = i := by simp [rowsH]; omega
theorem rowsHt_take {xs : List Int} {i : Nat} (h : i ≤ xs.length) : (rowsH ((xs.take i).map headOf)).take i = rowsH ((xs.take i).map headOf) := by rw [List.take_of_length_le (by rw [rowsHt_len h]; exact Nat.le_refl _)]
def hcell (th : TypeId) (x : Nat × Nat) : VV := if x.1 = 0 then .nl th else .rf x.2 x.1
def hent (th : TypeId) (xs : List Int) (x : Nat × Nat) : Ent := if x.1 = 0 then .dead else .root th (rowsH ((xs.take x.1).map headOf))
end Go.Proofs.Ytljhhhlobkoocaa
