/- Stores: what the laws' functions of stores give. -/
import Derived.Test.YtljhhhlobkoocaaSD
namespace Go.Proofs.Ytljhhhlobkoocaa
open Go Go.RowKit
set_option linter.unusedVariables false
set_option linter.unusedSimpArgs false
set_option maxRecDepth 100000
set_option maxHeartbeats 4000000
attribute [local irreducible] VWP vops vdraw contV contD CallK Guard GuardV NextL Puts Runs RetOK RetQ RetO RetQO thenQ blockQ

structure StoreD where
  heads : List HeadD
  descs : List DescS
  deriving DecidableEq
def StoreD.cells (th td te : TypeId) (s : StoreD) : List VV := [.fr th (rowsH s.heads), .fr td (rowsD te s.descs)]
def szS (s : StoreD) (left : Int) : Int := if szB s.heads.length left < 0 then -1 else szDs s.descs (szB s.heads.length left)
theorem szDs_neg {ds : List DescS} {left : Int} (h : szDs ds left < 0) (h0 : 0 ≤ left) : szDs ds left = -1 := by
  unfold szDs at *
  split
  · rename_i h2
    rw [if_pos h2] at h
    omega
  · rfl
theorem szS_fits (s : StoreD) (left : Int) (h0 : 0 ≤ left) : (0 ≤ szS s left → (s.heads.length : Int) + s.descs.length + entsN s.descs ≤ left ∧ szS s left = left - s.heads.length - s.descs.length - entsN s.descs) ∧ (szS s left < 0 → szS s left = -1) := by
  unfold szS szDs szB
  repeat' split
  all_goals omega
theorem entsN_mem : ∀ {ds : List DescS} {d : DescS}, d ∈ ds → d.entries.length ≤ entsN ds
  | [], d, h => by simp at h
  | a :: ds, d, h => by
    simp only [entsN]
    rcases List.mem_cons.1 h with rfl | h
    · omega
    · have := entsN_mem h
      omega
/-- What the kit knows of a store that came in. -/
def StoreD.fits (s : StoreD) : Prop := s.heads.length ≤ 9223372036854775807 ∧ s.descs.length ≤ 9223372036854775807 ∧ ∀ d ∈ s.descs, d.entries.length ≤ 9223372036854775807
/-- A store that is not too big. -/
def StoreD.small (s : StoreD) : Prop := s.heads.length ≤ 1048576 ∧ s.descs.length ≤ 1048576 ∧ ∀ d ∈ s.descs, d.entries.length ≤ 1048576
theorem szS_small {s : StoreD} {left : Int} (h0 : 0 ≤ left) (h1 : left ≤ 1048576) (h : 0 ≤ szS s left) : s.small := by
  obtain ⟨k1, _⟩ := (szS_fits s left h0).1 h
  exact ⟨by omega, by omega, fun d hd => by have := entsN_mem hd; omega⟩
end Go.Proofs.Ytljhhhlobkoocaa
