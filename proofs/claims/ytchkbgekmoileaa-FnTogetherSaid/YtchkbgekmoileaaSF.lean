/- Rows of the type Frame, and what the laws' functions of its slices give. -/
import Derived.Test.YtchkbgekmoileaaSH
namespace Go.Proofs.Ytchkbgekmoileaa
open Go Go.RowKit
set_option linter.unusedVariables false
set_option linter.unusedSimpArgs false
set_option maxRecDepth 100000
set_option maxHeartbeats 4000000
attribute [local irreducible] VWP vops vdraw contV contD CallK Guard GuardV NextL Puts Runs RetOK RetQ RetO RetQO thenQ blockQ

structure FrameD where
  desc : Int
  phase : Int
  place : Int
  deriving DecidableEq
def FrameD.enc (e : FrameD) : List PT := [.int .i64 e.desc, .int .i64 e.phase, .int .i64 e.place]
def FrameD.cells (e : FrameD) : List VV := [.int .i64 e.desc, .int .i64 e.phase, .int .i64 e.place]
def rowsF (es : List FrameD) : List (List PT) := es.map FrameD.enc
theorem rowsF_len (es : List FrameD) : (rowsF es).length = es.length := by simp [rowsF]
theorem rowsF_pur (es : List FrameD) : PurRows (rowsF es) := by
  intro r hr c hc
  obtain ⟨e, _, rfl⟩ := List.mem_map.1 hr
  simp only [FrameD.enc, List.mem_cons, List.not_mem_nil, or_false] at hc
  rcases hc with rfl | rfl | rfl <;> constructor
theorem rowsF_take (es : List FrameD) : (rowsF es).take es.length = rowsF es := by rw [List.take_of_length_le (by rw [rowsF_len]; exact Nat.le_refl _)]
theorem rowsF_at {es : List FrameD} {i : Nat} {e : FrameD} (h : es[i]? = some e) : (rowsF es)[i]? = some [.int .i64 e.desc, .int .i64 e.phase, .int .i64 e.place] := by simp [rowsF, h, FrameD.enc]
theorem rowsF_scal (es : List FrameD) : (rowsF es).all (·.all scal) = true := by
  simp [rowsF, FrameD.enc, scal, List.all_eq_true]
theorem rowsF_app (es : List FrameD) (e : FrameD) : rowsF es ++ [[.int .i64 e.desc, .int .i64 e.phase, .int .i64 e.place]] = rowsF (es ++ [e]) := by simp [rowsF, FrameD.enc]
theorem rowsF_set (es : List FrameD) (k : Nat) (e : FrameD) : (rowsF es).set k [.int .i64 e.desc, .int .i64 e.phase, .int .i64 e.place] = rowsF (es.set k e) := by simp [rowsF, List.map_set, FrameD.enc]

def markF (k : Int) : FrameD := ⟨k, k + 1, k + 2⟩
def marksF (k : Int) (n : Nat) : List FrameD := (List.range n).map fun j => markF (k + 3 * (j : Nat))
theorem marksF_len (k : Int) (n : Nat) : (marksF k n).length = n := by simp [marksF]
theorem marksF_at {k : Int} {n i : Nat} (h : i < n) : (marksF k n)[i]? = some (markF (k + 3 * (i : Nat))) := by simp [marksF, h]
end Go.Proofs.Ytchkbgekmoileaa
