/- Threads: what the laws' functions of threads give. -/
import Derived.Test.YtmiojnibngncaaaSF
import Derived.Test.YtmiojnibngncaaaDE
import Derived.Test.YtmiojnibngncaaaPD
namespace Go.Proofs.Ytmiojnibngncaaa
open Go Go.RowKit
set_option linter.unusedVariables false
set_option linter.unusedSimpArgs false
set_option maxRecDepth 100000
set_option maxHeartbeats 4000000
attribute [local irreducible] VWP vops vdraw contV contD CallK Guard GuardV NextL Puts Runs RetOK RetQ RetO RetQO thenQ blockQ

def c4 (i : Nat) (a b c d : Int) : List VV := [.int .i64 (if 0 < i then a else 0), .int .i64 (if 1 < i then b else 0), .int .i64 (if 2 < i then c else 0), .int .i64 (if 3 < i then d else 0)]
structure ThreadD where
  id : Int
  prog : List InsS
  pc : Int
  r0 : Int
  r1 : Int
  r2 : Int
  r3 : Int
  opens : List EntS
  check : Int
  stack : List FrameD
  mine : Int
  state : Int
  commits : Int
  fails : Int
  deriving DecidableEq
def ThreadD.cells (ti te tf : TypeId) (t : ThreadD) : List VV := [.int .i64 t.id, .fr ti (rowsI t.prog), .int .i64 t.pc, .int .i64 t.r0, .int .i64 t.r1, .int .i64 t.r2, .int .i64 t.r3, .fr te (rowsE t.opens), .int .i64 t.check, .fr tf (rowsF t.stack), .int .i64 t.mine, .int .i64 t.state, .int .i64 t.commits, .int .i64 t.fails]
def szT (t : ThreadD) (left : Int) : Int := if szB t.prog.length left < 0 then -1 else if szB t.opens.length (szB t.prog.length left) < 0 then -1 else szB t.stack.length (szB t.opens.length (szB t.prog.length left))
theorem szT_fits (t : ThreadD) (left : Int) : (0 ≤ szT t left → t.prog.length + t.opens.length + t.stack.length ≤ left ∧ szT t left = left - t.prog.length - t.opens.length - t.stack.length) ∧ (szT t left < 0 → szT t left = -1) := by
  unfold szT szB
  repeat' split
  all_goals omega
theorem szB_neg {n left : Int} (h : szB n left < 0) : szB n left = -1 := by
  unfold szB at *
  split
  · rfl
  · rename_i h2
    rw [if_neg h2] at h
    omega
end Go.Proofs.Ytmiojnibngncaaa
