/- Stores: rows of descriptors, and what the laws' functions of stores give. -/
import Derived.Test.YtljhhhlobkoocaaSH
import Derived.Test.YtljhhhlobkoocaaDG
namespace Go.Proofs.Ytljhhhlobkoocaa
open Go Go.RowKit
set_option linter.unusedVariables false
set_option linter.unusedSimpArgs false
set_option maxRecDepth 100000
set_option maxHeartbeats 4000000
attribute [local irreducible] VWP vops vdraw contV contD CallK Guard GuardV NextL Puts Runs RetOK RetQ RetO RetQO thenQ blockQ

def rowT (te : TypeId) (d : DescS) : List PT := [.int .i64 d.owner, .int .i64 d.status, .list te (rowsE d.entries)]
def rowsD (te : TypeId) (ds : List DescS) : List (List PT) := ds.map (rowT te)
theorem rowsD_len (te : TypeId) (ds : List DescS) : (rowsD te ds).length = ds.length := by simp [rowsD]
theorem rowsD_pur (te : TypeId) (ds : List DescS) : PurRows (rowsD te ds) := by
  intro r hr c hc
  obtain ⟨d, _, rfl⟩ := List.mem_map.1 hr
  simp only [rowT, List.mem_cons, List.not_mem_nil, or_false] at hc
  rcases hc with rfl | rfl | rfl
  · constructor
  · constructor
  · exact .list _ _ (rowsE_pur d.entries)
theorem rowsD_take (te : TypeId) (ds : List DescS) : (rowsD te ds).take ds.length = rowsD te ds := by rw [List.take_of_length_le (by rw [rowsD_len]; exact Nat.le_refl _)]
theorem rowsD_at {te : TypeId} {ds : List DescS} {i : Nat} {d : DescS} (h : ds[i]? = some d) : (rowsD te ds)[i]? = some [.int .i64 d.owner, .int .i64 d.status, .list te (rowsE d.entries)] := by simp [rowsD, h, rowT]

def entsN : List DescS → Nat
  | [] => 0
  | d :: ds => d.entries.length + entsN ds
theorem entsN_app : ∀ (xs bs : List DescS), entsN (xs ++ bs) = entsN xs + entsN bs
  | [], bs => by simp [entsN]
  | a :: xs, bs => by simp only [List.cons_append, entsN, entsN_app xs bs]; omega
theorem entsN_succ {ds : List DescS} {i : Nat} {d : DescS} (h : ds[i]? = some d) : entsN (ds.take (i + 1)) = entsN (ds.take i) + d.entries.length := by
  rw [List.take_add_one, h, entsN_app]
  simp [entsN]
theorem entsN_take (ds : List DescS) (i : Nat) : entsN (ds.take i) ≤ entsN ds := by
  have := entsN_app (ds.take i) (ds.drop i)
  rw [List.take_append_drop] at this
  omega
def szDs (ds : List DescS) (left : Int) : Int := if (ds.length : Int) + entsN ds ≤ left then left - ds.length - entsN ds else -1
end Go.Proofs.Ytljhhhlobkoocaa
