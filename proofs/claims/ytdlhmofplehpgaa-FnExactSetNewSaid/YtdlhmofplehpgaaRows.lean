/-
  No cell of these rows narrows 'for every input' (looked for: loops, veiled, ifaces, maps, wideKeys, modest, calm, conditions, laid).
  DERIVED. THE GIVEN ROWS OF THIS SEAT. 6 by the template 'for every input the law returns true; each argument reads behind the call as it read before'; 0 by the template 'total and deterministic' (their statements: YtdlhmofplehpgaaTotals.lean).
  GIVEN WITH THE SEED: the statements are not yours to turn. If you find one false, say at which input.
  Laid BY PROGRAM, IN A SANDBOX (cutbox-rows.mjs): the forced cells as the released guide's own fill.sh prints them over the translation 14fef0af225fe882… (all of the seat's roots in one cut). By AI agents, Wed Nov 11 2026. No macro, syntax, notation, axiom, sorry.
-/
import Derived.Test.YtdlhmofplehpgaaChecked
import GoSem.Claim
import GoSem.ClaimJoined
import GoSem.ClaimMapViews
import Derived.JoinedTies
import Derived.KernelRfl
namespace Go.Proofs.Ytdlhmofplehpgaa
/- THE CELL 'sum', in the pinned program and in every row, IS THE sha256 OF THE DUMP (.gsa) THAT YtdlhmofplehpgaaProg.lean LOADS. Nothing in Lean hashes anything: it is a label: what it is worth is what the hold of that sum in a sandbox is worth. -/
noncomputable def Try.pinned : Pinned := { name := "ytdlhmofplehpgaa", sum := "14fef0af225fe8822cb57745b00411eda49d84f860fd12b4a49a7bd9c3d5af68", checked := Try.checked }
namespace Rows
def none {H : Type} : Left H := { results := [], args := [] }

/-- 'laws.FnExactProgOk': WHATEVER THE INPUT: true; the input reads as it did. -/
def fnExactProgOkSpec : ChangeSpec := { name := "fnExactProgOk", fn := fun _ => fun
  | [d] => { results := [.lit (.bool true)], args := [d] }
  | _ => none }
def fnExactProgOkRow : OpenClaim := { program := "ytdlhmofplehpgaa", sum := "14fef0af225fe8822cb57745b00411eda49d84f860fd12b4a49a7bd9c3d5af68", func := "loop.example/g00087/laws.FnExactProgOk", spec := "fnExactProgOk", unfollowed := true, recurses := true, apart := false }
def FnExactProgOkSaid : Prop := fnExactProgOkRow.holds Try.pinned (OpenSpec.ofChange fnExactProgOkSpec)

/-- ITS FALSE NEIGHBOUR: 'it returns false'. Refute it at one input. -/
def fnExactProgOkWrong : ChangeSpec := { name := "fnExactProgOk", fn := fun _ => fun
  | [d] => { results := [.lit (.bool false)], args := [d] }
  | _ => none }
def FnExactProgOkWrongFalsely : Prop := fnExactProgOkRow.holds Try.pinned (OpenSpec.ofChange fnExactProgOkWrong)

/-- 'laws.FnExactDescOk': WHATEVER THE INPUT: true; the input reads as it did. -/
def fnExactDescOkSpec : ChangeSpec := { name := "fnExactDescOk", fn := fun _ => fun
  | [d] => { results := [.lit (.bool true)], args := [d] }
  | _ => none }
def fnExactDescOkRow : OpenClaim := { program := "ytdlhmofplehpgaa", sum := "14fef0af225fe8822cb57745b00411eda49d84f860fd12b4a49a7bd9c3d5af68", func := "loop.example/g00087/laws.FnExactDescOk", spec := "fnExactDescOk", apart := false }
def FnExactDescOkSaid : Prop := fnExactDescOkRow.holds Try.pinned (OpenSpec.ofChange fnExactDescOkSpec)

/-- ITS FALSE NEIGHBOUR: 'it returns false'. Refute it at one input. -/
def fnExactDescOkWrong : ChangeSpec := { name := "fnExactDescOk", fn := fun _ => fun
  | [d] => { results := [.lit (.bool false)], args := [d] }
  | _ => none }
def FnExactDescOkWrongFalsely : Prop := fnExactDescOkRow.holds Try.pinned (OpenSpec.ofChange fnExactDescOkWrong)

/-- 'laws.FnExactStraight': WHATEVER THE INPUT: true; the input reads as it did. -/
def fnExactStraightSpec : ChangeSpec := { name := "fnExactStraight", fn := fun _ => fun
  | [d] => { results := [.lit (.bool true)], args := [d] }
  | _ => none }
def fnExactStraightRow : OpenClaim := { program := "ytdlhmofplehpgaa", sum := "14fef0af225fe8822cb57745b00411eda49d84f860fd12b4a49a7bd9c3d5af68", func := "loop.example/g00087/laws.FnExactStraight", spec := "fnExactStraight", unfollowed := true, recurses := true, apart := false }
def FnExactStraightSaid : Prop := fnExactStraightRow.holds Try.pinned (OpenSpec.ofChange fnExactStraightSpec)

/-- ITS FALSE NEIGHBOUR: 'it returns false'. Refute it at one input. -/
def fnExactStraightWrong : ChangeSpec := { name := "fnExactStraight", fn := fun _ => fun
  | [d] => { results := [.lit (.bool false)], args := [d] }
  | _ => none }
def FnExactStraightWrongFalsely : Prop := fnExactStraightRow.holds Try.pinned (OpenSpec.ofChange fnExactStraightWrong)

/-- 'laws.FnExactMeets': WHATEVER THE INPUT: true; the input reads as it did. -/
def fnExactMeetsSpec : ChangeSpec := { name := "fnExactMeets", fn := fun _ => fun
  | [d1, d2] => { results := [.lit (.bool true)], args := [d1, d2] }
  | _ => none }
def fnExactMeetsRow : OpenClaim := { program := "ytdlhmofplehpgaa", sum := "14fef0af225fe8822cb57745b00411eda49d84f860fd12b4a49a7bd9c3d5af68", func := "loop.example/g00087/laws.FnExactMeets", spec := "fnExactMeets", unfollowed := true, recurses := true, apart := false }
def FnExactMeetsSaid : Prop := fnExactMeetsRow.holds Try.pinned (OpenSpec.ofChange fnExactMeetsSpec)

/-- ITS FALSE NEIGHBOUR: 'it returns false'. Refute it at one input. -/
def fnExactMeetsWrong : ChangeSpec := { name := "fnExactMeets", fn := fun _ => fun
  | [d1, d2] => { results := [.lit (.bool false)], args := [d1, d2] }
  | _ => none }
def FnExactMeetsWrongFalsely : Prop := fnExactMeetsRow.holds Try.pinned (OpenSpec.ofChange fnExactMeetsWrong)

/-- 'laws.FnExactAddRead': WHATEVER THE INPUT: true; the input reads as it did. -/
def fnExactAddReadSpec : ChangeSpec := { name := "fnExactAddRead", fn := fun _ => fun
  | [d1, d2, d3, d4] => { results := [.lit (.bool true)], args := [d1, d2, d3, d4] }
  | _ => none }
def fnExactAddReadRow : OpenClaim := { program := "ytdlhmofplehpgaa", sum := "14fef0af225fe8822cb57745b00411eda49d84f860fd12b4a49a7bd9c3d5af68", func := "loop.example/g00087/laws.FnExactAddRead", spec := "fnExactAddRead", unfollowed := true, recurses := true, apart := false }
def FnExactAddReadSaid : Prop := fnExactAddReadRow.holds Try.pinned (OpenSpec.ofChange fnExactAddReadSpec)

/-- ITS FALSE NEIGHBOUR: 'it returns false'. Refute it at one input. -/
def fnExactAddReadWrong : ChangeSpec := { name := "fnExactAddRead", fn := fun _ => fun
  | [d1, d2, d3, d4] => { results := [.lit (.bool false)], args := [d1, d2, d3, d4] }
  | _ => none }
def FnExactAddReadWrongFalsely : Prop := fnExactAddReadRow.holds Try.pinned (OpenSpec.ofChange fnExactAddReadWrong)

/-- 'laws.FnExactSetNew': WHATEVER THE INPUT: true; the input reads as it did. -/
def fnExactSetNewSpec : ChangeSpec := { name := "fnExactSetNew", fn := fun _ => fun
  | [d1, d2, d3] => { results := [.lit (.bool true)], args := [d1, d2, d3] }
  | _ => none }
def fnExactSetNewRow : OpenClaim := { program := "ytdlhmofplehpgaa", sum := "14fef0af225fe8822cb57745b00411eda49d84f860fd12b4a49a7bd9c3d5af68", func := "loop.example/g00087/laws.FnExactSetNew", spec := "fnExactSetNew", unfollowed := true, recurses := true, apart := false }
def FnExactSetNewSaid : Prop := fnExactSetNewRow.holds Try.pinned (OpenSpec.ofChange fnExactSetNewSpec)

/-- ITS FALSE NEIGHBOUR: 'it returns false'. Refute it at one input. -/
def fnExactSetNewWrong : ChangeSpec := { name := "fnExactSetNew", fn := fun _ => fun
  | [d1, d2, d3] => { results := [.lit (.bool false)], args := [d1, d2, d3] }
  | _ => none }
def FnExactSetNewWrongFalsely : Prop := fnExactSetNewRow.holds Try.pinned (OpenSpec.ofChange fnExactSetNewWrong)

/- THE SECOND FORM. 'bulk': how many values and letters a reading holds, each counted each time it is reached (what is shared counts as often as it is met; a slice's spare places count too). A statement '..UptoSaid' is the law's where the arguments, and the package variables that the reading takes, are together of bulk at most 1048576: NARROWER than '..Said'. Prove '..Said' where nothing that the law and all that it calls make is longer than what came in: it says more and counts as full. Else prove '..UptoSaid'. A law counts once. -/
mutual
def uptoBulk {H : Type} : DataW H → Nat
  | .lit (.string bytes) => bytes.length + 1
  | .lit _ => 1
  | .nil => 1
  | .ptr d => uptoBulk d + 1
  | .slice elems spare => uptoBulkAll elems + uptoBulkAll spare + 1
  | .agg parts => uptoBulkAll parts + 1
  | .iface _ d => uptoBulk d + 1
  | .map entries => uptoBulkEntries entries + 1
  | .held _ => 1
def uptoBulkAll {H : Type} : List (DataW H) → Nat
  | [] => 0
  | d :: r => uptoBulk d + uptoBulkAll r
def uptoBulkEntries {H : Type} : List (Lit × DataW H) → Nat
  | [] => 0
  | x :: r => uptoBulkEntry x + uptoBulkEntries r
def uptoBulkEntry {H : Type} : Lit × DataW H → Nat
  | (.string bytes, d) => bytes.length + uptoBulk d + 1
  | (_, d) => uptoBulk d + 1
 end
def uptoSmall : (H : Type) → List (DataW H) → Bool := fun _ ds => decide (uptoBulkAll ds ≤ 1048576)
def OpenSpec.upto (s : _root_.Go.ChangeSpec) : _root_.Go.OpenSpec := { _root_.Go.OpenSpec.ofChange s with cond := some uptoSmall }

/-- 'laws.FnExactProgOk', WHERE WHAT IT READS IS OF BULK AT MOST 1048576: true; the input reads as it did. -/
def fnExactProgOkUptoRow : OpenClaim := { program := "ytdlhmofplehpgaa", sum := "14fef0af225fe8822cb57745b00411eda49d84f860fd12b4a49a7bd9c3d5af68", func := "loop.example/g00087/laws.FnExactProgOk", spec := "fnExactProgOk", unfollowed := true, recurses := true, apart := false, narrowed := true }
def FnExactProgOkUptoSaid : Prop := fnExactProgOkUptoRow.holds Try.pinned (OpenSpec.upto fnExactProgOkSpec)

/-- 'laws.FnExactDescOk', WHERE WHAT IT READS IS OF BULK AT MOST 1048576: true; the input reads as it did. -/
def fnExactDescOkUptoRow : OpenClaim := { program := "ytdlhmofplehpgaa", sum := "14fef0af225fe8822cb57745b00411eda49d84f860fd12b4a49a7bd9c3d5af68", func := "loop.example/g00087/laws.FnExactDescOk", spec := "fnExactDescOk", apart := false, narrowed := true }
def FnExactDescOkUptoSaid : Prop := fnExactDescOkUptoRow.holds Try.pinned (OpenSpec.upto fnExactDescOkSpec)

/-- 'laws.FnExactStraight', WHERE WHAT IT READS IS OF BULK AT MOST 1048576: true; the input reads as it did. -/
def fnExactStraightUptoRow : OpenClaim := { program := "ytdlhmofplehpgaa", sum := "14fef0af225fe8822cb57745b00411eda49d84f860fd12b4a49a7bd9c3d5af68", func := "loop.example/g00087/laws.FnExactStraight", spec := "fnExactStraight", unfollowed := true, recurses := true, apart := false, narrowed := true }
def FnExactStraightUptoSaid : Prop := fnExactStraightUptoRow.holds Try.pinned (OpenSpec.upto fnExactStraightSpec)

/-- 'laws.FnExactMeets', WHERE WHAT IT READS IS OF BULK AT MOST 1048576: true; the input reads as it did. -/
def fnExactMeetsUptoRow : OpenClaim := { program := "ytdlhmofplehpgaa", sum := "14fef0af225fe8822cb57745b00411eda49d84f860fd12b4a49a7bd9c3d5af68", func := "loop.example/g00087/laws.FnExactMeets", spec := "fnExactMeets", unfollowed := true, recurses := true, apart := false, narrowed := true }
def FnExactMeetsUptoSaid : Prop := fnExactMeetsUptoRow.holds Try.pinned (OpenSpec.upto fnExactMeetsSpec)

/-- 'laws.FnExactAddRead', WHERE WHAT IT READS IS OF BULK AT MOST 1048576: true; the input reads as it did. -/
def fnExactAddReadUptoRow : OpenClaim := { program := "ytdlhmofplehpgaa", sum := "14fef0af225fe8822cb57745b00411eda49d84f860fd12b4a49a7bd9c3d5af68", func := "loop.example/g00087/laws.FnExactAddRead", spec := "fnExactAddRead", unfollowed := true, recurses := true, apart := false, narrowed := true }
def FnExactAddReadUptoSaid : Prop := fnExactAddReadUptoRow.holds Try.pinned (OpenSpec.upto fnExactAddReadSpec)

/-- 'laws.FnExactSetNew', WHERE WHAT IT READS IS OF BULK AT MOST 1048576: true; the input reads as it did. -/
def fnExactSetNewUptoRow : OpenClaim := { program := "ytdlhmofplehpgaa", sum := "14fef0af225fe8822cb57745b00411eda49d84f860fd12b4a49a7bd9c3d5af68", func := "loop.example/g00087/laws.FnExactSetNew", spec := "fnExactSetNew", unfollowed := true, recurses := true, apart := false, narrowed := true }
def FnExactSetNewUptoSaid : Prop := fnExactSetNewUptoRow.holds Try.pinned (OpenSpec.upto fnExactSetNewSpec)

end Rows
end Go.Proofs.Ytdlhmofplehpgaa
