/- What the functions of lists of entries give. -/
import Derived.Test.YtljhhhlobkoocaaDA
namespace Go.Proofs.Ytljhhhlobkoocaa
open Go Go.RowKit
set_option linter.unusedVariables false
set_option linter.unusedSimpArgs false
set_option maxRecDepth 100000
set_option maxHeartbeats 4000000
attribute [local irreducible] VWP vops vdraw contV contD CallK Guard GuardV NextL Puts Runs RetOK RetQ RetO RetQO thenQ blockQ

def rowsE (es : List EntS) : List (List PT) := es.map EntS.enc
theorem rowsE_len (es : List EntS) : (rowsE es).length = es.length := by simp [rowsE]
theorem rowsE_pur (es : List EntS) : PurRows (rowsE es) := EntS.pur es
theorem rowsE_at {es : List EntS} {i : Nat} {e : EntS} (h : es[i]? = some e) : (rowsE es)[i]? = some [.int .i64 e.object, .int .i64 e.version, .int .i64 e.old, .int .i64 e.new, .bool e.write] := by simp [rowsE, h, EntS.enc]

/-- What is left of a bound. -/
def szB (n left : Int) : Int := if left - n < 0 then -1 else left - n

end Go.Proofs.Ytljhhhlobkoocaa
