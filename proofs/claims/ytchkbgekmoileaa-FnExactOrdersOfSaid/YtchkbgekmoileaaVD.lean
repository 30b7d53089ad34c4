/- What both Serial give for all arguments, and the law on values. -/
import Derived.Test.YtchkbgekmoileaaVC
import Derived.Test.YtchkbgekmoileaaYB
namespace Go.Proofs.Ytchkbgekmoileaa
open Go Go.RowKit
set_option linter.unusedVariables false
set_option linter.unusedSimpArgs false
set_option maxRecDepth 100000
set_option maxHeartbeats 4000000
attribute [local irreducible] VWP vops vdraw contV contD CallK Guard GuardV NextL Puts Runs RetOK RetQ RetO RetQO thenQ blockQ

theorem serR_len (xs : List Int) (ds : List DescS) : (serR xs ds).1.length ≤ xs.length := by
  unfold serR
  split
  · rw [serialL_len]; exact Nat.le_refl _
  · simp
theorem szDs_small {ds : List DescS} {left : Int} (h0 : 0 ≤ left) (h : 0 ≤ szDs ds left) : (ds.length : Int) + entsN ds ≤ left := by
  unfold szDs at h
  split at h <;> omega
end Go.Proofs.Ytchkbgekmoileaa
