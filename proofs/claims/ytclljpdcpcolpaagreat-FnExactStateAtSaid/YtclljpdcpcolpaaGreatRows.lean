/-
  No cell of these rows narrows 'for every input' (looked for: loops, veiled, ifaces, maps, wideKeys, modest, calm, conditions, laid).
  DERIVED. THE GIVEN ROWS OF THIS SEAT. 3 by the template 'for every input the law returns true; each argument reads behind the call as it read before'; 0 by the template 'total and deterministic' (their statements: YtclljpdcpcolpaaGreatTotals.lean).
  GIVEN WITH THE SEED: the statements are not yours to turn. If you find one false, say at which input.
  Laid BY PROGRAM, IN A SANDBOX (cutbox-rows.mjs): the forced cells as the released guide's own fill.sh prints them over the translation 2986e4820646708a… (all of the seat's roots in one cut). By AI agents, Wed Nov 11 2026. No macro, syntax, notation, axiom, sorry.
-/
import Derived.Test.YtclljpdcpcolpaaGreatChecked
import GoSem.Claim
import GoSem.ClaimJoined
import GoSem.ClaimMapViews
import Derived.JoinedTies
import Derived.KernelRfl
namespace Go.Proofs.YtclljpdcpcolpaaGreat
/- THE CELL 'sum', in the pinned program and in every row, IS THE sha256 OF THE DUMP (.gsa) THAT YtclljpdcpcolpaaGreatProg.lean LOADS. Nothing in Lean hashes anything: it is a label: what it is worth is what the hold of that sum in a sandbox is worth. -/
noncomputable def Tryz.pinned : Pinned := { name := "ytclljpdcpcolpaagreat", sum := "2986e4820646708a9a3386cb2ddd7bb273e507ed87a24239b8f51aa150568720", checked := Tryz.checked }
namespace Rows
def none {H : Type} : Left H := { results := [], args := [] }

/-- 'laws.FnExactCommits12': WHATEVER THE INPUT: true; the input reads as it did. -/
def fnExactCommits12Spec : ChangeSpec := { name := "fnExactCommits12", fn := fun _ => fun
  | [d] => { results := [.lit (.bool true)], args := [d] }
  | _ => none }
def fnExactCommits12Row : OpenClaim := { program := "ytclljpdcpcolpaagreat", sum := "2986e4820646708a9a3386cb2ddd7bb273e507ed87a24239b8f51aa150568720", func := "loop.example/g00087/laws.FnExactCommits12", spec := "fnExactCommits12", unfollowed := true, recurses := true, apart := false }
def FnExactCommits12Said : Prop := fnExactCommits12Row.holds Tryz.pinned (OpenSpec.ofChange fnExactCommits12Spec)

/-- ITS FALSE NEIGHBOUR: 'it returns false'. Refute it at one input. -/
def fnExactCommits12Wrong : ChangeSpec := { name := "fnExactCommits12", fn := fun _ => fun
  | [d] => { results := [.lit (.bool false)], args := [d] }
  | _ => none }
def FnExactCommits12WrongFalsely : Prop := fnExactCommits12Row.holds Tryz.pinned (OpenSpec.ofChange fnExactCommits12Wrong)

/-- 'laws.FnExactSeen11': WHATEVER THE INPUT: true; the input reads as it did. -/
def fnExactSeen11Spec : ChangeSpec := { name := "fnExactSeen11", fn := fun _ => fun
  | [d] => { results := [.lit (.bool true)], args := [d] }
  | _ => none }
def fnExactSeen11Row : OpenClaim := { program := "ytclljpdcpcolpaagreat", sum := "2986e4820646708a9a3386cb2ddd7bb273e507ed87a24239b8f51aa150568720", func := "loop.example/g00087/laws.FnExactSeen11", spec := "fnExactSeen11", unfollowed := true, recurses := true, apart := false }
def FnExactSeen11Said : Prop := fnExactSeen11Row.holds Tryz.pinned (OpenSpec.ofChange fnExactSeen11Spec)

/-- ITS FALSE NEIGHBOUR: 'it returns false'. Refute it at one input. -/
def fnExactSeen11Wrong : ChangeSpec := { name := "fnExactSeen11", fn := fun _ => fun
  | [d] => { results := [.lit (.bool false)], args := [d] }
  | _ => none }
def FnExactSeen11WrongFalsely : Prop := fnExactSeen11Row.holds Tryz.pinned (OpenSpec.ofChange fnExactSeen11Wrong)

/-- 'laws.FnExactStateAt': WHATEVER THE INPUT: true; the input reads as it did. -/
def fnExactStateAtSpec : ChangeSpec := { name := "fnExactStateAt", fn := fun _ => fun
  | [d1, d2] => { results := [.lit (.bool true)], args := [d1, d2] }
  | _ => none }
def fnExactStateAtRow : OpenClaim := { program := "ytclljpdcpcolpaagreat", sum := "2986e4820646708a9a3386cb2ddd7bb273e507ed87a24239b8f51aa150568720", func := "loop.example/g00087/laws.FnExactStateAt", spec := "fnExactStateAt", unfollowed := true, recurses := true, apart := false }
def FnExactStateAtSaid : Prop := fnExactStateAtRow.holds Tryz.pinned (OpenSpec.ofChange fnExactStateAtSpec)

/-- ITS FALSE NEIGHBOUR: 'it returns false'. Refute it at one input. -/
def fnExactStateAtWrong : ChangeSpec := { name := "fnExactStateAt", fn := fun _ => fun
  | [d1, d2] => { results := [.lit (.bool false)], args := [d1, d2] }
  | _ => none }
def FnExactStateAtWrongFalsely : Prop := fnExactStateAtRow.holds Tryz.pinned (OpenSpec.ofChange fnExactStateAtWrong)

/- THE SECOND FORM. 'bulk': how many values and letters a reading holds, each counted each time it is reached (what is shared counts as often as it is met; a slice's spare places count too). A statement '..UptoSaid' is the law's where the arguments, and the package variables that the reading takes, are together of bulk at most 1048576: NARROWER than '..Said'. Prove '..Said' where nothing that the law and all that it calls make is longer than what came in: it says more and counts as full. Else prove '..UptoSaid'. A law counts once. -/
mutual
def uptoBulk {H : Type} : DataW H → Nat
  | .lit (.string bytes) => bytes.length + 1
  | .lit _ => 1
  | .nil => 1
  | .ptr d => uptoBulk d + 1
  | .slice elems spare => uptoBulkAll elems + uptoBulkAll spare + 1
  | .agg parts => uptoBulkAll parts + 1
  | .iface _ d => uptoBulk d + 1
  | .map entries => uptoBulkEntries entries + 1
  | .held _ => 1
def uptoBulkAll {H : Type} : List (DataW H) → Nat
  | [] => 0
  | d :: r => uptoBulk d + uptoBulkAll r
def uptoBulkEntries {H : Type} : List (Lit × DataW H) → Nat
  | [] => 0
  | x :: r => uptoBulkEntry x + uptoBulkEntries r
def uptoBulkEntry {H : Type} : Lit × DataW H → Nat
  | (.string bytes, d) => bytes.length + uptoBulk d + 1
  | (_, d) => uptoBulk d + 1
 end
def uptoSmall : (H : Type) → List (DataW H) → Bool := fun _ ds => decide (uptoBulkAll ds ≤ 1048576)
def OpenSpec.upto (s : _root_.Go.ChangeSpec) : _root_.Go.OpenSpec := { _root_.Go.OpenSpec.ofChange s with cond := some uptoSmall }

/-- 'laws.FnExactCommits12', WHERE WHAT IT READS IS OF BULK AT MOST 1048576: true; the input reads as it did. -/
def fnExactCommits12UptoRow : OpenClaim := { program := "ytclljpdcpcolpaagreat", sum := "2986e4820646708a9a3386cb2ddd7bb273e507ed87a24239b8f51aa150568720", func := "loop.example/g00087/laws.FnExactCommits12", spec := "fnExactCommits12", unfollowed := true, recurses := true, apart := false, narrowed := true }
def FnExactCommits12UptoSaid : Prop := fnExactCommits12UptoRow.holds Tryz.pinned (OpenSpec.upto fnExactCommits12Spec)

/-- 'laws.FnExactSeen11', WHERE WHAT IT READS IS OF BULK AT MOST 1048576: true; the input reads as it did. -/
def fnExactSeen11UptoRow : OpenClaim := { program := "ytclljpdcpcolpaagreat", sum := "2986e4820646708a9a3386cb2ddd7bb273e507ed87a24239b8f51aa150568720", func := "loop.example/g00087/laws.FnExactSeen11", spec := "fnExactSeen11", unfollowed := true, recurses := true, apart := false, narrowed := true }
def FnExactSeen11UptoSaid : Prop := fnExactSeen11UptoRow.holds Tryz.pinned (OpenSpec.upto fnExactSeen11Spec)

/-- 'laws.FnExactStateAt', WHERE WHAT IT READS IS OF BULK AT MOST 1048576: true; the input reads as it did. -/
def fnExactStateAtUptoRow : OpenClaim := { program := "ytclljpdcpcolpaagreat", sum := "2986e4820646708a9a3386cb2ddd7bb273e507ed87a24239b8f51aa150568720", func := "loop.example/g00087/laws.FnExactStateAt", spec := "fnExactStateAt", unfollowed := true, recurses := true, apart := false, narrowed := true }
def FnExactStateAtUptoSaid : Prop := fnExactStateAtUptoRow.holds Tryz.pinned (OpenSpec.upto fnExactStateAtSpec)

end Rows
end Go.Proofs.YtclljpdcpcolpaaGreat
