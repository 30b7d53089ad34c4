/-
  No cell of these rows narrows 'for every input' (looked for: loops, veiled, ifaces, maps, wideKeys, modest, calm, conditions, laid).
  DERIVED. THE GIVEN ROWS OF THIS SEAT. 6 by the template 'for every input the law returns true; each argument reads behind the call as it read before'; 0 by the template 'total and deterministic' (their statements: YtmiojnibngncaaaTotals.lean).
  GIVEN WITH THE SEED: the statements are not yours to turn. If you find one false, say at which input.
  Laid BY PROGRAM, IN A SANDBOX (cutbox-rows.mjs): the forced cells as the released guide's own fill.sh prints them over the translation 766100b5d094fa41… (all of the seat's roots in one cut). By AI agents, Wed Nov 11 2026. No macro, syntax, notation, axiom, sorry.
-/
import Derived.Test.YtmiojnibngncaaaChecked
import GoSem.Claim
import GoSem.ClaimJoined
import GoSem.ClaimMapViews
import Derived.JoinedTies
import Derived.KernelRfl
namespace Go.Proofs.Ytmiojnibngncaaa
/- THE CELL 'sum', in the pinned program and in every row, IS THE sha256 OF THE DUMP (.gsa) THAT YtmiojnibngncaaaProg.lean LOADS. Nothing in Lean hashes anything: it is a label: what it is worth is what the hold of that sum in a sandbox is worth. -/
noncomputable def Try.pinned : Pinned := { name := "ytmiojnibngncaaa", sum := "766100b5d094fa41441f7deefb0c3726bd64e9b3b126891467240b255a847315", checked := Try.checked }
namespace Rows
def none {H : Type} : Left H := { results := [], args := [] }

/-- 'laws.FnExactOrdersOf': WHATEVER THE INPUT: true; the input reads as it did. -/
def fnExactOrdersOfSpec : ChangeSpec := { name := "fnExactOrdersOf", fn := fun _ => fun
  | [d1, d2] => { results := [.lit (.bool true)], args := [d1, d2] }
  | _ => none }
def fnExactOrdersOfRow : OpenClaim := { program := "ytmiojnibngncaaa", sum := "766100b5d094fa41441f7deefb0c3726bd64e9b3b126891467240b255a847315", func := "loop.example/g00087/laws.FnExactOrdersOf", spec := "fnExactOrdersOf", unfollowed := true, recurses := true, apart := false }
def FnExactOrdersOfSaid : Prop := fnExactOrdersOfRow.holds Try.pinned (OpenSpec.ofChange fnExactOrdersOfSpec)

/-- ITS FALSE NEIGHBOUR: 'it returns false'. Refute it at one input. -/
def fnExactOrdersOfWrong : ChangeSpec := { name := "fnExactOrdersOf", fn := fun _ => fun
  | [d1, d2] => { results := [.lit (.bool false)], args := [d1, d2] }
  | _ => none }
def FnExactOrdersOfWrongFalsely : Prop := fnExactOrdersOfRow.holds Try.pinned (OpenSpec.ofChange fnExactOrdersOfWrong)

/-- 'laws.FnExactMakeDesc': WHATEVER THE INPUT: true; the input reads as it did. -/
def fnExactMakeDescSpec : ChangeSpec := { name := "fnExactMakeDesc", fn := fun _ => fun
  | [d1, d2] => { results := [.lit (.bool true)], args := [d1, d2] }
  | _ => none }
def fnExactMakeDescRow : OpenClaim := { program := "ytmiojnibngncaaa", sum := "766100b5d094fa41441f7deefb0c3726bd64e9b3b126891467240b255a847315", func := "loop.example/g00087/laws.FnExactMakeDesc", spec := "fnExactMakeDesc", unfollowed := true, recurses := true, apart := false }
def FnExactMakeDescSaid : Prop := fnExactMakeDescRow.holds Try.pinned (OpenSpec.ofChange fnExactMakeDescSpec)

/-- ITS FALSE NEIGHBOUR: 'it returns false'. Refute it at one input. -/
def fnExactMakeDescWrong : ChangeSpec := { name := "fnExactMakeDesc", fn := fun _ => fun
  | [d1, d2] => { results := [.lit (.bool false)], args := [d1, d2] }
  | _ => none }
def FnExactMakeDescWrongFalsely : Prop := fnExactMakeDescRow.holds Try.pinned (OpenSpec.ofChange fnExactMakeDescWrong)

/-- 'laws.FnExactTouches': WHATEVER THE INPUT: true; the input reads as it did. -/
def fnExactTouchesSpec : ChangeSpec := { name := "fnExactTouches", fn := fun _ => fun
  | [d] => { results := [.lit (.bool true)], args := [d] }
  | _ => none }
def fnExactTouchesRow : OpenClaim := { program := "ytmiojnibngncaaa", sum := "766100b5d094fa41441f7deefb0c3726bd64e9b3b126891467240b255a847315", func := "loop.example/g00087/laws.FnExactTouches", spec := "fnExactTouches", unfollowed := true, recurses := true, apart := false }
def FnExactTouchesSaid : Prop := fnExactTouchesRow.holds Try.pinned (OpenSpec.ofChange fnExactTouchesSpec)

/-- ITS FALSE NEIGHBOUR: 'it returns false'. Refute it at one input. -/
def fnExactTouchesWrong : ChangeSpec := { name := "fnExactTouches", fn := fun _ => fun
  | [d] => { results := [.lit (.bool false)], args := [d] }
  | _ => none }
def FnExactTouchesWrongFalsely : Prop := fnExactTouchesRow.holds Try.pinned (OpenSpec.ofChange fnExactTouchesWrong)

/-- 'laws.FnExactFinish': WHATEVER THE INPUT: true; the input reads as it did. -/
def fnExactFinishSpec : ChangeSpec := { name := "fnExactFinish", fn := fun _ => fun
  | [d1, d2, d3] => { results := [.lit (.bool true)], args := [d1, d2, d3] }
  | _ => none }
def fnExactFinishRow : OpenClaim := { program := "ytmiojnibngncaaa", sum := "766100b5d094fa41441f7deefb0c3726bd64e9b3b126891467240b255a847315", func := "loop.example/g00087/laws.FnExactFinish", spec := "fnExactFinish", unfollowed := true, recurses := true, apart := false }
def FnExactFinishSaid : Prop := fnExactFinishRow.holds Try.pinned (OpenSpec.ofChange fnExactFinishSpec)

/-- ITS FALSE NEIGHBOUR: 'it returns false'. Refute it at one input. -/
def fnExactFinishWrong : ChangeSpec := { name := "fnExactFinish", fn := fun _ => fun
  | [d1, d2, d3] => { results := [.lit (.bool false)], args := [d1, d2, d3] }
  | _ => none }
def FnExactFinishWrongFalsely : Prop := fnExactFinishRow.holds Try.pinned (OpenSpec.ofChange fnExactFinishWrong)

/-- 'laws.FnExactHelp': WHATEVER THE INPUT: true; the input reads as it did. -/
def fnExactHelpSpec : ChangeSpec := { name := "fnExactHelp", fn := fun _ => fun
  | [d1, d2] => { results := [.lit (.bool true)], args := [d1, d2] }
  | _ => none }
def fnExactHelpRow : OpenClaim := { program := "ytmiojnibngncaaa", sum := "766100b5d094fa41441f7deefb0c3726bd64e9b3b126891467240b255a847315", func := "loop.example/g00087/laws.FnExactHelp", spec := "fnExactHelp", unfollowed := true, recurses := true, apart := false }
def FnExactHelpSaid : Prop := fnExactHelpRow.holds Try.pinned (OpenSpec.ofChange fnExactHelpSpec)

/-- ITS FALSE NEIGHBOUR: 'it returns false'. Refute it at one input. -/
def fnExactHelpWrong : ChangeSpec := { name := "fnExactHelp", fn := fun _ => fun
  | [d1, d2] => { results := [.lit (.bool false)], args := [d1, d2] }
  | _ => none }
def FnExactHelpWrongFalsely : Prop := fnExactHelpRow.holds Try.pinned (OpenSpec.ofChange fnExactHelpWrong)

/-- 'laws.FnExactTogether': WHATEVER THE INPUT: true; the input reads as it did. -/
def fnExactTogetherSpec : ChangeSpec := { name := "fnExactTogether", fn := fun _ => fun
  | [d1, d2, d3, d4] => { results := [.lit (.bool true)], args := [d1, d2, d3, d4] }
  | _ => none }
def fnExactTogetherRow : OpenClaim := { program := "ytmiojnibngncaaa", sum := "766100b5d094fa41441f7deefb0c3726bd64e9b3b126891467240b255a847315", func := "loop.example/g00087/laws.FnExactTogether", spec := "fnExactTogether", unfollowed := true, recurses := true, apart := false }
def FnExactTogetherSaid : Prop := fnExactTogetherRow.holds Try.pinned (OpenSpec.ofChange fnExactTogetherSpec)

/-- ITS FALSE NEIGHBOUR: 'it returns false'. Refute it at one input. -/
def fnExactTogetherWrong : ChangeSpec := { name := "fnExactTogether", fn := fun _ => fun
  | [d1, d2, d3, d4] => { results := [.lit (.bool false)], args := [d1, d2, d3, d4] }
  | _ => none }
def FnExactTogetherWrongFalsely : Prop := fnExactTogetherRow.holds Try.pinned (OpenSpec.ofChange fnExactTogetherWrong)

/- THE SECOND FORM. 'bulk': how many values and letters a reading holds, each counted each time it is reached (what is shared counts as often as it is met; a slice's spare places count too). A statement '..UptoSaid' is the law's where the arguments, and the package variables that the reading takes, are together of bulk at most 1048576: NARROWER than '..Said'. Prove '..Said' where nothing that the law and all that it calls make is longer than what came in: it says more and counts as full. Else prove '..UptoSaid'. A law counts once. -/
mutual
def uptoBulk {H : Type} : DataW H → Nat
  | .lit (.string bytes) => bytes.length + 1
  | .lit _ => 1
  | .nil => 1
  | .ptr d => uptoBulk d + 1
  | .slice elems spare => uptoBulkAll elems + uptoBulkAll spare + 1
  | .agg parts => uptoBulkAll parts + 1
  | .iface _ d => uptoBulk d + 1
  | .map entries => uptoBulkEntries entries + 1
  | .held _ => 1
def uptoBulkAll {H : Type} : List (DataW H) → Nat
  | [] => 0
  | d :: r => uptoBulk d + uptoBulkAll r
def uptoBulkEntries {H : Type} : List (Lit × DataW H) → Nat
  | [] => 0
  | x :: r => uptoBulkEntry x + uptoBulkEntries r
def uptoBulkEntry {H : Type} : Lit × DataW H → Nat
  | (.string bytes, d) => bytes.length + uptoBulk d + 1
  | (_, d) => uptoBulk d + 1
 end
def uptoSmall : (H : Type) → List (DataW H) → Bool := fun _ ds => decide (uptoBulkAll ds ≤ 1048576)
def OpenSpec.upto (s : _root_.Go.ChangeSpec) : _root_.Go.OpenSpec := { _root_.Go.OpenSpec.ofChange s with cond := some uptoSmall }

/-- 'laws.FnExactOrdersOf', WHERE WHAT IT READS IS OF BULK AT MOST 1048576: true; the input reads as it did. -/
def fnExactOrdersOfUptoRow : OpenClaim := { program := "ytmiojnibngncaaa", sum := "766100b5d094fa41441f7deefb0c3726bd64e9b3b126891467240b255a847315", func := "loop.example/g00087/laws.FnExactOrdersOf", spec := "fnExactOrdersOf", unfollowed := true, recurses := true, apart := false, narrowed := true }
def FnExactOrdersOfUptoSaid : Prop := fnExactOrdersOfUptoRow.holds Try.pinned (OpenSpec.upto fnExactOrdersOfSpec)

/-- 'laws.FnExactMakeDesc', WHERE WHAT IT READS IS OF BULK AT MOST 1048576: true; the input reads as it did. -/
def fnExactMakeDescUptoRow : OpenClaim := { program := "ytmiojnibngncaaa", sum := "766100b5d094fa41441f7deefb0c3726bd64e9b3b126891467240b255a847315", func := "loop.example/g00087/laws.FnExactMakeDesc", spec := "fnExactMakeDesc", unfollowed := true, recurses := true, apart := false, narrowed := true }
def FnExactMakeDescUptoSaid : Prop := fnExactMakeDescUptoRow.holds Try.pinned (OpenSpec.upto fnExactMakeDescSpec)

/-- 'laws.FnExactTouches', WHERE WHAT IT READS IS OF BULK AT MOST 1048576: true; the input reads as it did. -/
def fnExactTouchesUptoRow : OpenClaim := { program := "ytmiojnibngncaaa", sum := "766100b5d094fa41441f7deefb0c3726bd64e9b3b126891467240b255a847315", func := "loop.example/g00087/laws.FnExactTouches", spec := "fnExactTouches", unfollowed := true, recurses := true, apart := false, narrowed := true }
def FnExactTouchesUptoSaid : Prop := fnExactTouchesUptoRow.holds Try.pinned (OpenSpec.upto fnExactTouchesSpec)

/-- 'laws.FnExactFinish', WHERE WHAT IT READS IS OF BULK AT MOST 1048576: true; the input reads as it did. -/
def fnExactFinishUptoRow : OpenClaim := { program := "ytmiojnibngncaaa", sum := "766100b5d094fa41441f7deefb0c3726bd64e9b3b126891467240b255a847315", func := "loop.example/g00087/laws.FnExactFinish", spec := "fnExactFinish", unfollowed := true, recurses := true, apart := false, narrowed := true }
def FnExactFinishUptoSaid : Prop := fnExactFinishUptoRow.holds Try.pinned (OpenSpec.upto fnExactFinishSpec)

/-- 'laws.FnExactHelp', WHERE WHAT IT READS IS OF BULK AT MOST 1048576: true; the input reads as it did. -/
def fnExactHelpUptoRow : OpenClaim := { program := "ytmiojnibngncaaa", sum := "766100b5d094fa41441f7deefb0c3726bd64e9b3b126891467240b255a847315", func := "loop.example/g00087/laws.FnExactHelp", spec := "fnExactHelp", unfollowed := true, recurses := true, apart := false, narrowed := true }
def FnExactHelpUptoSaid : Prop := fnExactHelpUptoRow.holds Try.pinned (OpenSpec.upto fnExactHelpSpec)

/-- 'laws.FnExactTogether', WHERE WHAT IT READS IS OF BULK AT MOST 1048576: true; the input reads as it did. -/
def fnExactTogetherUptoRow : OpenClaim := { program := "ytmiojnibngncaaa", sum := "766100b5d094fa41441f7deefb0c3726bd64e9b3b126891467240b255a847315", func := "loop.example/g00087/laws.FnExactTogether", spec := "fnExactTogether", unfollowed := true, recurses := true, apart := false, narrowed := true }
def FnExactTogetherUptoSaid : Prop := fnExactTogetherUptoRow.holds Try.pinned (OpenSpec.upto fnExactTogetherSpec)

end Rows
end Go.Proofs.Ytmiojnibngncaaa
