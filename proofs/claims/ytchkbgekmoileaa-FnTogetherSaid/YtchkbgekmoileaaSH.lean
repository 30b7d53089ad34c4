/- Rows of the type Head, and what the laws' functions of its slices give. -/
import Derived.Test.YtchkbgekmoileaaDB
namespace Go.Proofs.Ytchkbgekmoileaa
open Go Go.RowKit
set_option linter.unusedVariables false
set_option linter.unusedSimpArgs false
set_option maxRecDepth 100000
set_option maxHeartbeats 4000000
attribute [local irreducible] VWP vops vdraw contV contD CallK Guard GuardV NextL Puts Runs RetOK RetQ RetO RetQO thenQ blockQ

structure HeadD where
  value : Int
  version : Int
  desc : Int
  deriving DecidableEq
def HeadD.enc (e : HeadD) : List PT := [.int .i64 e.value, .int .i64 e.version, .int .i64 e.desc]
def HeadD.cells (e : HeadD) : List VV := [.int .i64 e.value, .int .i64 e.version, .int .i64 e.desc]
def rowsH (es : List HeadD) : List (List PT) := es.map HeadD.enc
theorem rowsH_len (es : List HeadD) : (rowsH es).length = es.length := by simp [rowsH]
theorem rowsH_pur (es : List HeadD) : PurRows (rowsH es) := by
  intro r hr c hc
  obtain ⟨e, _, rfl⟩ := List.mem_map.1 hr
  simp only [HeadD.enc, List.mem_cons, List.not_mem_nil, or_false] at hc
  rcases hc with rfl | rfl | rfl <;> constructor
theorem rowsH_take (es : List HeadD) : (rowsH es).take es.length = rowsH es := by rw [List.take_of_length_le (by rw [rowsH_len]; exact Nat.le_refl _)]
theorem rowsH_at {es : List HeadD} {i : Nat} {e : HeadD} (h : es[i]? = some e) : (rowsH es)[i]? = some [.int .i64 e.value, .int .i64 e.version, .int .i64 e.desc] := by simp [rowsH, h, HeadD.enc]
theorem rowsH_scal (es : List HeadD) : (rowsH es).all (·.all scal) = true := by
  simp [rowsH, HeadD.enc, scal, List.all_eq_true]
theorem rowsH_app (es : List HeadD) (e : HeadD) : rowsH es ++ [[.int .i64 e.value, .int .i64 e.version, .int .i64 e.desc]] = rowsH (es ++ [e]) := by simp [rowsH, HeadD.enc]
theorem rowsH_set (es : List HeadD) (k : Nat) (e : HeadD) : (rowsH es).set k [.int .i64 e.value, .int .i64 e.version, .int .i64 e.desc] = rowsH (es.set k e) := by simp [rowsH, List.map_set, HeadD.enc]

def markH (k : Int) : HeadD := ⟨k, k + 1, k + 2⟩
def marksH (k : Int) (n : Nat) : List HeadD := (List.range n).map fun j => markH (k + 3 * (j : Nat))
theorem marksH_len (k : Int) (n : Nat) : (marksH k n).length = n := by simp [marksH]
theorem marksH_at {k : Int} {n i : Nat} (h : i < n) : (marksH k n)[i]? = some (markH (k + 3 * (i : Nat))) := by simp [marksH, h]
end Go.Proofs.Ytchkbgekmoileaa
