/- One step of a stack: the reference's. -/
import Derived.Test.YtchkbgekmoileaaHA
import Derived.Test.YtchkbgekmoileaaEf
import Derived.Test.YtchkbgekmoileaaEc
namespace Go.Proofs.Ytchkbgekmoileaa
open Go Go.RowKit
set_option linter.unusedVariables false
set_option linter.unusedSimpArgs false
set_option maxRecDepth 100000
set_option maxHeartbeats 4000000
attribute [local irreducible] VWP vops vdraw contV contD CallK Guard GuardV NextL Puts Runs RetOK RetQ RetO RetQO thenQ blockQ

theorem rowsF_mid (xs ys : List FrameD) (f : FrameD) : (rowsF (xs ++ f :: ys))[xs.length]? = some [.int .i64 f.desc, .int .i64 f.phase, .int .i64 f.place] := rowsF_at (by simp)
theorem rowsF_put (xs ys : List FrameD) (f g : FrameD) : (rowsF (xs ++ f :: ys)).set xs.length [.int .i64 g.desc, .int .i64 g.phase, .int .i64 g.place] = rowsF (xs ++ g :: ys) := by
  rw [rowsF_set]
  simp
theorem rowsF_more (xs ys : List FrameD) (f : FrameD) (m : Int) : (rowsF (xs ++ f :: ys)).take (xs.length + 1) ++ [[.int .i64 m, .int .i64 0, .int .i64 0]] = rowsF (xs ++ [f, ⟨m, 0, 0⟩]) := by
  have : xs ++ f :: ys = (xs ++ [f]) ++ ys := by simp
  rw [this, show rowsF ((xs ++ [f]) ++ ys) = rowsF (xs ++ [f]) ++ rowsF ys by simp [rowsF], List.take_left' (by simp [rowsF])]
  simp [rowsF, FrameD.enc]
end Go.Proofs.Ytchkbgekmoileaa
