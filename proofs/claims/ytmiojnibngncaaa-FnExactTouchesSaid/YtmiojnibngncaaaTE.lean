/- What both NewThread give, and the law on values. -/
import Derived.Test.YtmiojnibngncaaaTD
namespace Go.Proofs.Ytmiojnibngncaaa
open Go Go.RowKit
set_option linter.unusedVariables false
set_option linter.unusedSimpArgs false
set_option maxRecDepth 100000
set_option maxHeartbeats 4000000
attribute [local irreducible] VWP vops vdraw contV contD CallK Guard GuardV NextL Puts Runs RetOK RetQ RetO RetQO thenQ blockQ

theorem rowsI_scal (es : List InsS) : (rowsI es).all (·.all scal) = true := by
  simp [rowsI, InsS.enc, scal, List.all_eq_true]
def progOkB (xs : List InsS) : Bool := decide (xs.length ≤ 30) && xs.all (fun e => e.ok xs.length)
def zeroT : ThreadD := ⟨0, [], 0, 0, 0, 0, 0, [], 0, [], 0, 0, 0, 0⟩
def newThreadL (id : Int) (xs : List InsS) : ThreadD × Bool := if inB id 0 3 = true ∧ progOkB xs = true then (⟨id, xs, 0, 0, 0, 0, 0, [], -1, [], -1, 0, 0, 0⟩, true) else (zeroT, false)
def outT (t : ThreadD) : VV := .agg [.int .i64 t.id, .rf 0 t.prog.length, .int .i64 t.pc, .int .i64 t.r0, .int .i64 t.r1, .int .i64 t.r2, .int .i64 t.r3, .rf 1 t.opens.length, .int .i64 t.check, .rf 2 t.stack.length, .int .i64 t.mine, .int .i64 t.state, .int .i64 t.commits, .int .i64 t.fails]
end Go.Proofs.Ytmiojnibngncaaa
