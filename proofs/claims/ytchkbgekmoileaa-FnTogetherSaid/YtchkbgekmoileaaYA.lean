/- Marks on lists of descriptors. -/
import Derived.Test.YtchkbgekmoileaaSE
import Derived.Test.YtchkbgekmoileaaDJ
import Derived.Test.YtchkbgekmoileaaEc
namespace Go.Proofs.Ytchkbgekmoileaa
open Go Go.RowKit
set_option linter.unusedVariables false
set_option linter.unusedSimpArgs false
set_option maxRecDepth 100000
set_option maxHeartbeats 4000000
attribute [local irreducible] VWP vops vdraw contV contD CallK Guard GuardV NextL Puts Runs RetOK RetQ RetO RetQO thenQ blockQ

/-- How many marks lie ahead of a descriptor. -/
def cntD (ds : List DescS) (i : Nat) : Int := 2 * (i : Int) + 5 * (entsN (ds.take i) : Int)
def mkD (k : Int) (ds : List DescS) (j : Nat) (d : DescS) : DescS := ⟨k + cntD ds j, k + cntD ds j + 1, marksE (k + cntD ds j + 1 + 1) d.entries.length⟩
def marksD (k : Int) (ds : List DescS) : List DescS := ds.mapIdx fun j d => mkD k ds j d
theorem marksD_len (k : Int) (ds : List DescS) : (marksD k ds).length = ds.length := by simp [marksD]
theorem marksD_at {k : Int} {ds : List DescS} {j : Nat} {d : DescS} (h : ds[j]? = some d) : (marksD k ds)[j]? = some (mkD k ds j d) := by simp [marksD, h]
theorem cntD_succ {ds : List DescS} {i : Nat} {d : DescS} (h : ds[i]? = some d) : cntD ds (i + 1) = cntD ds i + 2 + 5 * d.entries.length := by
  unfold cntD
  rw [entsN_succ h]
  omega
theorem cntD_le (ds : List DescS) {i : Nat} (h : i ≤ ds.length) : 0 ≤ cntD ds i ∧ cntD ds i ≤ 2 * (ds.length : Int) + 5 * (entsN ds : Int) := by
  unfold cntD
  have := entsN_take ds i
  omega
theorem cntD_all (ds : List DescS) : cntD ds ds.length = 2 * (ds.length : Int) + 5 * (entsN ds : Int) := by
  unfold cntD
  rw [List.take_length]
end Go.Proofs.Ytchkbgekmoileaa
