/-
  No cell of these rows narrows 'for every input' (looked for: loops, veiled, ifaces, maps, wideKeys, modest, calm, conditions, laid).
  DERIVED. THE GIVEN ROWS OF THIS SEAT. 5 by the template 'for every input the law returns true; each argument reads behind the call as it read before'; 0 by the template 'total and deterministic' (their statements: YtmiojnibngncaaaGreatTotals.lean).
  GIVEN WITH THE SEED: the statements are not yours to turn. If you find one false, say at which input.
  Laid BY PROGRAM, IN A SANDBOX (cutbox-rows.mjs): the forced cells as the released guide's own fill.sh prints them over the translation 07b6390360acaaad… (all of the seat's roots in one cut). By AI agents, Wed Nov 11 2026. No macro, syntax, notation, axiom, sorry.
-/
import Derived.Test.YtmiojnibngncaaaGreatChecked
import GoSem.Claim
import GoSem.ClaimJoined
import GoSem.ClaimMapViews
import Derived.JoinedTies
import Derived.KernelRfl
namespace Go.Proofs.YtmiojnibngncaaaGreat
/- THE CELL 'sum', in the pinned program and in every row, IS THE sha256 OF THE DUMP (.gsa) THAT YtmiojnibngncaaaGreatProg.lean LOADS. Nothing in Lean hashes anything: it is a label: what it is worth is what the hold of that sum in a sandbox is worth. -/
noncomputable def Tryz.pinned : Pinned := { name := "ytmiojnibngncaaagreat", sum := "07b6390360acaaad176b3ec35af7822bf523e6f23891daa8a2f49cd3ca7de140", checked := Tryz.checked }
namespace Rows
def none {H : Type} : Left H := { results := [], args := [] }

/-- 'laws.FnExactExplained': WHATEVER THE INPUT: true; the input reads as it did. -/
def fnExactExplainedSpec : ChangeSpec := { name := "fnExactExplained", fn := fun _ => fun
  | [d] => { results := [.lit (.bool true)], args := [d] }
  | _ => none }
def fnExactExplainedRow : OpenClaim := { program := "ytmiojnibngncaaagreat", sum := "07b6390360acaaad176b3ec35af7822bf523e6f23891daa8a2f49cd3ca7de140", func := "loop.example/g00087/laws.FnExactExplained", spec := "fnExactExplained", unfollowed := true, recurses := true, apart := false }
def FnExactExplainedSaid : Prop := fnExactExplainedRow.holds Tryz.pinned (OpenSpec.ofChange fnExactExplainedSpec)

/-- ITS FALSE NEIGHBOUR: 'it returns false'. Refute it at one input. -/
def fnExactExplainedWrong : ChangeSpec := { name := "fnExactExplained", fn := fun _ => fun
  | [d] => { results := [.lit (.bool false)], args := [d] }
  | _ => none }
def FnExactExplainedWrongFalsely : Prop := fnExactExplainedRow.holds Tryz.pinned (OpenSpec.ofChange fnExactExplainedWrong)

/-- 'laws.FnExactStepThread': WHATEVER THE INPUT: true; the input reads as it did. -/
def fnExactStepThreadSpec : ChangeSpec := { name := "fnExactStepThread", fn := fun _ => fun
  | [d1, d2] => { results := [.lit (.bool true)], args := [d1, d2] }
  | _ => none }
def fnExactStepThreadRow : OpenClaim := { program := "ytmiojnibngncaaagreat", sum := "07b6390360acaaad176b3ec35af7822bf523e6f23891daa8a2f49cd3ca7de140", func := "loop.example/g00087/laws.FnExactStepThread", spec := "fnExactStepThread", unfollowed := true, recurses := true, apart := false }
def FnExactStepThreadSaid : Prop := fnExactStepThreadRow.holds Tryz.pinned (OpenSpec.ofChange fnExactStepThreadSpec)

/-- ITS FALSE NEIGHBOUR: 'it returns false'. Refute it at one input. -/
def fnExactStepThreadWrong : ChangeSpec := { name := "fnExactStepThread", fn := fun _ => fun
  | [d1, d2] => { results := [.lit (.bool false)], args := [d1, d2] }
  | _ => none }
def FnExactStepThreadWrongFalsely : Prop := fnExactStepThreadRow.holds Tryz.pinned (OpenSpec.ofChange fnExactStepThreadWrong)

/-- 'laws.FnExactStepWorld': WHATEVER THE INPUT: true; the input reads as it did. -/
def fnExactStepWorldSpec : ChangeSpec := { name := "fnExactStepWorld", fn := fun _ => fun
  | [d1, d2] => { results := [.lit (.bool true)], args := [d1, d2] }
  | _ => none }
def fnExactStepWorldRow : OpenClaim := { program := "ytmiojnibngncaaagreat", sum := "07b6390360acaaad176b3ec35af7822bf523e6f23891daa8a2f49cd3ca7de140", func := "loop.example/g00087/laws.FnExactStepWorld", spec := "fnExactStepWorld", unfollowed := true, recurses := true, apart := false }
def FnExactStepWorldSaid : Prop := fnExactStepWorldRow.holds Tryz.pinned (OpenSpec.ofChange fnExactStepWorldSpec)

/-- ITS FALSE NEIGHBOUR: 'it returns false'. Refute it at one input. -/
def fnExactStepWorldWrong : ChangeSpec := { name := "fnExactStepWorld", fn := fun _ => fun
  | [d1, d2] => { results := [.lit (.bool false)], args := [d1, d2] }
  | _ => none }
def FnExactStepWorldWrongFalsely : Prop := fnExactStepWorldRow.holds Tryz.pinned (OpenSpec.ofChange fnExactStepWorldWrong)

/-- 'laws.FnExactRunWorld': WHATEVER THE INPUT: true; the input reads as it did. -/
def fnExactRunWorldSpec : ChangeSpec := { name := "fnExactRunWorld", fn := fun _ => fun
  | [d1, d2] => { results := [.lit (.bool true)], args := [d1, d2] }
  | _ => none }
def fnExactRunWorldRow : OpenClaim := { program := "ytmiojnibngncaaagreat", sum := "07b6390360acaaad176b3ec35af7822bf523e6f23891daa8a2f49cd3ca7de140", func := "loop.example/g00087/laws.FnExactRunWorld", spec := "fnExactRunWorld", unfollowed := true, recurses := true, apart := false }
def FnExactRunWorldSaid : Prop := fnExactRunWorldRow.holds Tryz.pinned (OpenSpec.ofChange fnExactRunWorldSpec)

/-- ITS FALSE NEIGHBOUR: 'it returns false'. Refute it at one input. -/
def fnExactRunWorldWrong : ChangeSpec := { name := "fnExactRunWorld", fn := fun _ => fun
  | [d1, d2] => { results := [.lit (.bool false)], args := [d1, d2] }
  | _ => none }
def FnExactRunWorldWrongFalsely : Prop := fnExactRunWorldRow.holds Tryz.pinned (OpenSpec.ofChange fnExactRunWorldWrong)

/-- 'laws.FnExactSolo': WHATEVER THE INPUT: true; the input reads as it did. -/
def fnExactSoloSpec : ChangeSpec := { name := "fnExactSolo", fn := fun _ => fun
  | [d1, d2, d3] => { results := [.lit (.bool true)], args := [d1, d2, d3] }
  | _ => none }
def fnExactSoloRow : OpenClaim := { program := "ytmiojnibngncaaagreat", sum := "07b6390360acaaad176b3ec35af7822bf523e6f23891daa8a2f49cd3ca7de140", func := "loop.example/g00087/laws.FnExactSolo", spec := "fnExactSolo", unfollowed := true, recurses := true, apart := false }
def FnExactSoloSaid : Prop := fnExactSoloRow.holds Tryz.pinned (OpenSpec.ofChange fnExactSoloSpec)

/-- ITS FALSE NEIGHBOUR: 'it returns false'. Refute it at one input. -/
def fnExactSoloWrong : ChangeSpec := { name := "fnExactSolo", fn := fun _ => fun
  | [d1, d2, d3] => { results := [.lit (.bool false)], args := [d1, d2, d3] }
  | _ => none }
def FnExactSoloWrongFalsely : Prop := fnExactSoloRow.holds Tryz.pinned (OpenSpec.ofChange fnExactSoloWrong)

/- THE SECOND FORM. 'bulk': how many values and letters a reading holds, each counted each time it is reached (what is shared counts as often as it is met; a slice's spare places count too). A statement '..UptoSaid' is the law's where the arguments, and the package variables that the reading takes, are together of bulk at most 1048576: NARROWER than '..Said'. Prove '..Said' where nothing that the law and all that it calls make is longer than what came in: it says more and counts as full. Else prove '..UptoSaid'. A law counts once. -/
mutual
def uptoBulk {H : Type} : DataW H → Nat
  | .lit (.string bytes) => bytes.length + 1
  | .lit _ => 1
  | .nil => 1
  | .ptr d => uptoBulk d + 1
  | .slice elems spare => uptoBulkAll elems + uptoBulkAll spare + 1
  | .agg parts => uptoBulkAll parts + 1
  | .iface _ d => uptoBulk d + 1
  | .map entries => uptoBulkEntries entries + 1
  | .held _ => 1
def uptoBulkAll {H : Type} : List (DataW H) → Nat
  | [] => 0
  | d :: r => uptoBulk d + uptoBulkAll r
def uptoBulkEntries {H : Type} : List (Lit × DataW H) → Nat
  | [] => 0
  | x :: r => uptoBulkEntry x + uptoBulkEntries r
def uptoBulkEntry {H : Type} : Lit × DataW H → Nat
  | (.string bytes, d) => bytes.length + uptoBulk d + 1
  | (_, d) => uptoBulk d + 1
 end
def uptoSmall : (H : Type) → List (DataW H) → Bool := fun _ ds => decide (uptoBulkAll ds ≤ 1048576)
def OpenSpec.upto (s : _root_.Go.ChangeSpec) : _root_.Go.OpenSpec := { _root_.Go.OpenSpec.ofChange s with cond := some uptoSmall }

/-- 'laws.FnExactExplained', WHERE WHAT IT READS IS OF BULK AT MOST 1048576: true; the input reads as it did. -/
def fnExactExplainedUptoRow : OpenClaim := { program := "ytmiojnibngncaaagreat", sum := "07b6390360acaaad176b3ec35af7822bf523e6f23891daa8a2f49cd3ca7de140", func := "loop.example/g00087/laws.FnExactExplained", spec := "fnExactExplained", unfollowed := true, recurses := true, apart := false, narrowed := true }
def FnExactExplainedUptoSaid : Prop := fnExactExplainedUptoRow.holds Tryz.pinned (OpenSpec.upto fnExactExplainedSpec)

/-- 'laws.FnExactStepThread', WHERE WHAT IT READS IS OF BULK AT MOST 1048576: true; the input reads as it did. -/
def fnExactStepThreadUptoRow : OpenClaim := { program := "ytmiojnibngncaaagreat", sum := "07b6390360acaaad176b3ec35af7822bf523e6f23891daa8a2f49cd3ca7de140", func := "loop.example/g00087/laws.FnExactStepThread", spec := "fnExactStepThread", unfollowed := true, recurses := true, apart := false, narrowed := true }
def FnExactStepThreadUptoSaid : Prop := fnExactStepThreadUptoRow.holds Tryz.pinned (OpenSpec.upto fnExactStepThreadSpec)

/-- 'laws.FnExactStepWorld', WHERE WHAT IT READS IS OF BULK AT MOST 1048576: true; the input reads as it did. -/
def fnExactStepWorldUptoRow : OpenClaim := { program := "ytmiojnibngncaaagreat", sum := "07b6390360acaaad176b3ec35af7822bf523e6f23891daa8a2f49cd3ca7de140", func := "loop.example/g00087/laws.FnExactStepWorld", spec := "fnExactStepWorld", unfollowed := true, recurses := true, apart := false, narrowed := true }
def FnExactStepWorldUptoSaid : Prop := fnExactStepWorldUptoRow.holds Tryz.pinned (OpenSpec.upto fnExactStepWorldSpec)

/-- 'laws.FnExactRunWorld', WHERE WHAT IT READS IS OF BULK AT MOST 1048576: true; the input reads as it did. -/
def fnExactRunWorldUptoRow : OpenClaim := { program := "ytmiojnibngncaaagreat", sum := "07b6390360acaaad176b3ec35af7822bf523e6f23891daa8a2f49cd3ca7de140", func := "loop.example/g00087/laws.FnExactRunWorld", spec := "fnExactRunWorld", unfollowed := true, recurses := true, apart := false, narrowed := true }
def FnExactRunWorldUptoSaid : Prop := fnExactRunWorldUptoRow.holds Tryz.pinned (OpenSpec.upto fnExactRunWorldSpec)

/-- 'laws.FnExactSolo', WHERE WHAT IT READS IS OF BULK AT MOST 1048576: true; the input reads as it did. -/
def fnExactSoloUptoRow : OpenClaim := { program := "ytmiojnibngncaaagreat", sum := "07b6390360acaaad176b3ec35af7822bf523e6f23891daa8a2f49cd3ca7de140", func := "loop.example/g00087/laws.FnExactSolo", spec := "fnExactSolo", unfollowed := true, recurses := true, apart := false, narrowed := true }
def FnExactSoloUptoSaid : Prop := fnExactSoloUptoRow.holds Tryz.pinned (OpenSpec.upto fnExactSoloSpec)

end Rows
end Go.Proofs.YtmiojnibngncaaaGreat
