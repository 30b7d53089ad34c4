/- What is told by marks on descriptors and stores. -/
import Derived.Test.YtchkbgekmoileaaYA
namespace Go.Proofs.Ytchkbgekmoileaa
open Go Go.RowKit
set_option linter.unusedVariables false
set_option linter.unusedSimpArgs false
set_option maxRecDepth 100000
set_option maxHeartbeats 4000000
attribute [local irreducible] VWP vops vdraw contV contD CallK Guard GuardV NextL Puts Runs RetOK RetQ RetO RetQO thenQ blockQ

def StoreD.tiny (s : StoreD) : Prop := s.heads.length ≤ 1048576 ∧ s.descs.length ≤ 1048576 ∧ entsN s.descs ≤ 1048576
theorem StoreD.tiny.small {s : StoreD} (h : s.tiny) : s.small := ⟨h.1, h.2.1, fun d hd => Nat.le_trans (entsN_mem hd) h.2.2⟩
theorem szS_tiny {s : StoreD} {left : Int} (h0 : 0 ≤ left) (h1 : left ≤ 1048576) (h : 0 ≤ szS s left) : s.tiny := by
  obtain ⟨k1, _⟩ := (szS_fits s left h0).1 h
  exact ⟨by omega, by omega, by omega⟩
/-- How many marks lie on a store. -/
def cntS (s : StoreD) : Int := 3 * (s.heads.length : Int) + cntD s.descs s.descs.length
def marksS (k : Int) (s : StoreD) : StoreD := ⟨marksH k s.heads.length, marksD (k + 3 * s.heads.length) s.descs⟩
end Go.Proofs.Ytchkbgekmoileaa
