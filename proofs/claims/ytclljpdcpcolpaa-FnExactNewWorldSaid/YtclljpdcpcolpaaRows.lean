/-
  No cell of these rows narrows 'for every input' (looked for: loops, veiled, ifaces, maps, wideKeys, modest, calm, conditions, laid).
  DERIVED. THE GIVEN ROWS OF THIS SEAT. 9 by the template 'for every input the law returns true; each argument reads behind the call as it read before'; 0 by the template 'total and deterministic' (their statements: YtclljpdcpcolpaaTotals.lean).
  GIVEN WITH THE SEED: the statements are not yours to turn. If you find one false, say at which input.
  Laid BY PROGRAM, IN A SANDBOX (cutbox-rows.mjs): the forced cells as the released guide's own fill.sh prints them over the translation a771fd1d2ef94203… (all of the seat's roots in one cut). By AI agents, Wed Nov 11 2026. No macro, syntax, notation, axiom, sorry.
-/
import Derived.Test.YtclljpdcpcolpaaChecked
import GoSem.Claim
import GoSem.ClaimJoined
import GoSem.ClaimMapViews
import Derived.JoinedTies
import Derived.KernelRfl
namespace Go.Proofs.Ytclljpdcpcolpaa
/- THE CELL 'sum', in the pinned program and in every row, IS THE sha256 OF THE DUMP (.gsa) THAT YtclljpdcpcolpaaProg.lean LOADS. Nothing in Lean hashes anything: it is a label: what it is worth is what the hold of that sum in a sandbox is worth. -/
noncomputable def Try.pinned : Pinned := { name := "ytclljpdcpcolpaa", sum := "a771fd1d2ef942039cf5e960f47147dd40f0badd8c66c93e67761fcc6aabd5f8", checked := Try.checked }
namespace Rows
def none {H : Type} : Left H := { results := [], args := [] }

/-- 'laws.FnExactSerial': WHATEVER THE INPUT: true; the input reads as it did. -/
def fnExactSerialSpec : ChangeSpec := { name := "fnExactSerial", fn := fun _ => fun
  | [d1, d2] => { results := [.lit (.bool true)], args := [d1, d2] }
  | _ => none }
def fnExactSerialRow : OpenClaim := { program := "ytclljpdcpcolpaa", sum := "a771fd1d2ef942039cf5e960f47147dd40f0badd8c66c93e67761fcc6aabd5f8", func := "loop.example/g00087/laws.FnExactSerial", spec := "fnExactSerial", unfollowed := true, recurses := true, apart := false }
def FnExactSerialSaid : Prop := fnExactSerialRow.holds Try.pinned (OpenSpec.ofChange fnExactSerialSpec)

/-- ITS FALSE NEIGHBOUR: 'it returns false'. Refute it at one input. -/
def fnExactSerialWrong : ChangeSpec := { name := "fnExactSerial", fn := fun _ => fun
  | [d1, d2] => { results := [.lit (.bool false)], args := [d1, d2] }
  | _ => none }
def FnExactSerialWrongFalsely : Prop := fnExactSerialRow.holds Try.pinned (OpenSpec.ofChange fnExactSerialWrong)

/-- 'laws.FnExactStackOk': WHATEVER THE INPUT: true; the input reads as it did. -/
def fnExactStackOkSpec : ChangeSpec := { name := "fnExactStackOk", fn := fun _ => fun
  | [d1, d2] => { results := [.lit (.bool true)], args := [d1, d2] }
  | _ => none }
def fnExactStackOkRow : OpenClaim := { program := "ytclljpdcpcolpaa", sum := "a771fd1d2ef942039cf5e960f47147dd40f0badd8c66c93e67761fcc6aabd5f8", func := "loop.example/g00087/laws.FnExactStackOk", spec := "fnExactStackOk", unfollowed := true, recurses := true, apart := false }
def FnExactStackOkSaid : Prop := fnExactStackOkRow.holds Try.pinned (OpenSpec.ofChange fnExactStackOkSpec)

/-- ITS FALSE NEIGHBOUR: 'it returns false'. Refute it at one input. -/
def fnExactStackOkWrong : ChangeSpec := { name := "fnExactStackOk", fn := fun _ => fun
  | [d1, d2] => { results := [.lit (.bool false)], args := [d1, d2] }
  | _ => none }
def FnExactStackOkWrongFalsely : Prop := fnExactStackOkRow.holds Try.pinned (OpenSpec.ofChange fnExactStackOkWrong)

/-- 'laws.FnExactHeld': WHATEVER THE INPUT: true; the input reads as it did. -/
def fnExactHeldSpec : ChangeSpec := { name := "fnExactHeld", fn := fun _ => fun
  | [d] => { results := [.lit (.bool true)], args := [d] }
  | _ => none }
def fnExactHeldRow : OpenClaim := { program := "ytclljpdcpcolpaa", sum := "a771fd1d2ef942039cf5e960f47147dd40f0badd8c66c93e67761fcc6aabd5f8", func := "loop.example/g00087/laws.FnExactHeld", spec := "fnExactHeld", unfollowed := true, recurses := true, apart := false }
def FnExactHeldSaid : Prop := fnExactHeldRow.holds Try.pinned (OpenSpec.ofChange fnExactHeldSpec)

/-- ITS FALSE NEIGHBOUR: 'it returns false'. Refute it at one input. -/
def fnExactHeldWrong : ChangeSpec := { name := "fnExactHeld", fn := fun _ => fun
  | [d] => { results := [.lit (.bool false)], args := [d] }
  | _ => none }
def FnExactHeldWrongFalsely : Prop := fnExactHeldRow.holds Try.pinned (OpenSpec.ofChange fnExactHeldWrong)

/-- 'laws.FnExactAnnounce': WHATEVER THE INPUT: true; the input reads as it did. -/
def fnExactAnnounceSpec : ChangeSpec := { name := "fnExactAnnounce", fn := fun _ => fun
  | [d1, d2] => { results := [.lit (.bool true)], args := [d1, d2] }
  | _ => none }
def fnExactAnnounceRow : OpenClaim := { program := "ytclljpdcpcolpaa", sum := "a771fd1d2ef942039cf5e960f47147dd40f0badd8c66c93e67761fcc6aabd5f8", func := "loop.example/g00087/laws.FnExactAnnounce", spec := "fnExactAnnounce", unfollowed := true, recurses := true, apart := false }
def FnExactAnnounceSaid : Prop := fnExactAnnounceRow.holds Try.pinned (OpenSpec.ofChange fnExactAnnounceSpec)

/-- ITS FALSE NEIGHBOUR: 'it returns false'. Refute it at one input. -/
def fnExactAnnounceWrong : ChangeSpec := { name := "fnExactAnnounce", fn := fun _ => fun
  | [d1, d2] => { results := [.lit (.bool false)], args := [d1, d2] }
  | _ => none }
def FnExactAnnounceWrongFalsely : Prop := fnExactAnnounceRow.holds Try.pinned (OpenSpec.ofChange fnExactAnnounceWrong)

/-- 'laws.FnExactDrive': WHATEVER THE INPUT: true; the input reads as it did. -/
def fnExactDriveSpec : ChangeSpec := { name := "fnExactDrive", fn := fun _ => fun
  | [d1, d2] => { results := [.lit (.bool true)], args := [d1, d2] }
  | _ => none }
def fnExactDriveRow : OpenClaim := { program := "ytclljpdcpcolpaa", sum := "a771fd1d2ef942039cf5e960f47147dd40f0badd8c66c93e67761fcc6aabd5f8", func := "loop.example/g00087/laws.FnExactDrive", spec := "fnExactDrive", unfollowed := true, recurses := true, apart := false }
def FnExactDriveSaid : Prop := fnExactDriveRow.holds Try.pinned (OpenSpec.ofChange fnExactDriveSpec)

/-- ITS FALSE NEIGHBOUR: 'it returns false'. Refute it at one input. -/
def fnExactDriveWrong : ChangeSpec := { name := "fnExactDrive", fn := fun _ => fun
  | [d1, d2] => { results := [.lit (.bool false)], args := [d1, d2] }
  | _ => none }
def FnExactDriveWrongFalsely : Prop := fnExactDriveRow.holds Try.pinned (OpenSpec.ofChange fnExactDriveWrong)

/-- 'laws.FnExactThreadOk': WHATEVER THE INPUT: true; the input reads as it did. -/
def fnExactThreadOkSpec : ChangeSpec := { name := "fnExactThreadOk", fn := fun _ => fun
  | [d1, d2] => { results := [.lit (.bool true)], args := [d1, d2] }
  | _ => none }
def fnExactThreadOkRow : OpenClaim := { program := "ytclljpdcpcolpaa", sum := "a771fd1d2ef942039cf5e960f47147dd40f0badd8c66c93e67761fcc6aabd5f8", func := "loop.example/g00087/laws.FnExactThreadOk", spec := "fnExactThreadOk", unfollowed := true, recurses := true, apart := false }
def FnExactThreadOkSaid : Prop := fnExactThreadOkRow.holds Try.pinned (OpenSpec.ofChange fnExactThreadOkSpec)

/-- ITS FALSE NEIGHBOUR: 'it returns false'. Refute it at one input. -/
def fnExactThreadOkWrong : ChangeSpec := { name := "fnExactThreadOk", fn := fun _ => fun
  | [d1, d2] => { results := [.lit (.bool false)], args := [d1, d2] }
  | _ => none }
def FnExactThreadOkWrongFalsely : Prop := fnExactThreadOkRow.holds Try.pinned (OpenSpec.ofChange fnExactThreadOkWrong)

/-- 'laws.FnExactFinishAll': WHATEVER THE INPUT: true; the input reads as it did. -/
def fnExactFinishAllSpec : ChangeSpec := { name := "fnExactFinishAll", fn := fun _ => fun
  | [d] => { results := [.lit (.bool true)], args := [d] }
  | _ => none }
def fnExactFinishAllRow : OpenClaim := { program := "ytclljpdcpcolpaa", sum := "a771fd1d2ef942039cf5e960f47147dd40f0badd8c66c93e67761fcc6aabd5f8", func := "loop.example/g00087/laws.FnExactFinishAll", spec := "fnExactFinishAll", unfollowed := true, recurses := true, apart := false }
def FnExactFinishAllSaid : Prop := fnExactFinishAllRow.holds Try.pinned (OpenSpec.ofChange fnExactFinishAllSpec)

/-- ITS FALSE NEIGHBOUR: 'it returns false'. Refute it at one input. -/
def fnExactFinishAllWrong : ChangeSpec := { name := "fnExactFinishAll", fn := fun _ => fun
  | [d] => { results := [.lit (.bool false)], args := [d] }
  | _ => none }
def FnExactFinishAllWrongFalsely : Prop := fnExactFinishAllRow.holds Try.pinned (OpenSpec.ofChange fnExactFinishAllWrong)

/-- 'laws.FnExactNewWorld': WHATEVER THE INPUT: true; the input reads as it did. -/
def fnExactNewWorldSpec : ChangeSpec := { name := "fnExactNewWorld", fn := fun _ => fun
  | [d1, d2] => { results := [.lit (.bool true)], args := [d1, d2] }
  | _ => none }
def fnExactNewWorldRow : OpenClaim := { program := "ytclljpdcpcolpaa", sum := "a771fd1d2ef942039cf5e960f47147dd40f0badd8c66c93e67761fcc6aabd5f8", func := "loop.example/g00087/laws.FnExactNewWorld", spec := "fnExactNewWorld", unfollowed := true, recurses := true, apart := false }
def FnExactNewWorldSaid : Prop := fnExactNewWorldRow.holds Try.pinned (OpenSpec.ofChange fnExactNewWorldSpec)

/-- ITS FALSE NEIGHBOUR: 'it returns false'. Refute it at one input. -/
def fnExactNewWorldWrong : ChangeSpec := { name := "fnExactNewWorld", fn := fun _ => fun
  | [d1, d2] => { results := [.lit (.bool false)], args := [d1, d2] }
  | _ => none }
def FnExactNewWorldWrongFalsely : Prop := fnExactNewWorldRow.holds Try.pinned (OpenSpec.ofChange fnExactNewWorldWrong)

/-- 'laws.FnExactWorldOk': WHATEVER THE INPUT: true; the input reads as it did. -/
def fnExactWorldOkSpec : ChangeSpec := { name := "fnExactWorldOk", fn := fun _ => fun
  | [d] => { results := [.lit (.bool true)], args := [d] }
  | _ => none }
def fnExactWorldOkRow : OpenClaim := { program := "ytclljpdcpcolpaa", sum := "a771fd1d2ef942039cf5e960f47147dd40f0badd8c66c93e67761fcc6aabd5f8", func := "loop.example/g00087/laws.FnExactWorldOk", spec := "fnExactWorldOk", unfollowed := true, recurses := true, apart := false }
def FnExactWorldOkSaid : Prop := fnExactWorldOkRow.holds Try.pinned (OpenSpec.ofChange fnExactWorldOkSpec)

/-- ITS FALSE NEIGHBOUR: 'it returns false'. Refute it at one input. -/
def fnExactWorldOkWrong : ChangeSpec := { name := "fnExactWorldOk", fn := fun _ => fun
  | [d] => { results := [.lit (.bool false)], args := [d] }
  | _ => none }
def FnExactWorldOkWrongFalsely : Prop := fnExactWorldOkRow.holds Try.pinned (OpenSpec.ofChange fnExactWorldOkWrong)

/- THE SECOND FORM. 'bulk': how many values and letters a reading holds, each counted each time it is reached (what is shared counts as often as it is met; a slice's spare places count too). A statement '..UptoSaid' is the law's where the arguments, and the package variables that the reading takes, are together of bulk at most 1048576: NARROWER than '..Said'. Prove '..Said' where nothing that the law and all that it calls make is longer than what came in: it says more and counts as full. Else prove '..UptoSaid'. A law counts once. -/
mutual
def uptoBulk {H : Type} : DataW H → Nat
  | .lit (.string bytes) => bytes.length + 1
  | .lit _ => 1
  | .nil => 1
  | .ptr d => uptoBulk d + 1
  | .slice elems spare => uptoBulkAll elems + uptoBulkAll spare + 1
  | .agg parts => uptoBulkAll parts + 1
  | .iface _ d => uptoBulk d + 1
  | .map entries => uptoBulkEntries entries + 1
  | .held _ => 1
def uptoBulkAll {H : Type} : List (DataW H) → Nat
  | [] => 0
  | d :: r => uptoBulk d + uptoBulkAll r
def uptoBulkEntries {H : Type} : List (Lit × DataW H) → Nat
  | [] => 0
  | x :: r => uptoBulkEntry x + uptoBulkEntries r
def uptoBulkEntry {H : Type} : Lit × DataW H → Nat
  | (.string bytes, d) => bytes.length + uptoBulk d + 1
  | (_, d) => uptoBulk d + 1
 end
def uptoSmall : (H : Type) → List (DataW H) → Bool := fun _ ds => decide (uptoBulkAll ds ≤ 1048576)
def OpenSpec.upto (s : _root_.Go.ChangeSpec) : _root_.Go.OpenSpec := { _root_.Go.OpenSpec.ofChange s with cond := some uptoSmall }

/-- 'laws.FnExactSerial', WHERE WHAT IT READS IS OF BULK AT MOST 1048576: true; the input reads as it did. -/
def fnExactSerialUptoRow : OpenClaim := { program := "ytclljpdcpcolpaa", sum := "a771fd1d2ef942039cf5e960f47147dd40f0badd8c66c93e67761fcc6aabd5f8", func := "loop.example/g00087/laws.FnExactSerial", spec := "fnExactSerial", unfollowed := true, recurses := true, apart := false, narrowed := true }
def FnExactSerialUptoSaid : Prop := fnExactSerialUptoRow.holds Try.pinned (OpenSpec.upto fnExactSerialSpec)

/-- 'laws.FnExactStackOk', WHERE WHAT IT READS IS OF BULK AT MOST 1048576: true; the input reads as it did. -/
def fnExactStackOkUptoRow : OpenClaim := { program := "ytclljpdcpcolpaa", sum := "a771fd1d2ef942039cf5e960f47147dd40f0badd8c66c93e67761fcc6aabd5f8", func := "loop.example/g00087/laws.FnExactStackOk", spec := "fnExactStackOk", unfollowed := true, recurses := true, apart := false, narrowed := true }
def FnExactStackOkUptoSaid : Prop := fnExactStackOkUptoRow.holds Try.pinned (OpenSpec.upto fnExactStackOkSpec)

/-- 'laws.FnExactHeld', WHERE WHAT IT READS IS OF BULK AT MOST 1048576: true; the input reads as it did. -/
def fnExactHeldUptoRow : OpenClaim := { program := "ytclljpdcpcolpaa", sum := "a771fd1d2ef942039cf5e960f47147dd40f0badd8c66c93e67761fcc6aabd5f8", func := "loop.example/g00087/laws.FnExactHeld", spec := "fnExactHeld", unfollowed := true, recurses := true, apart := false, narrowed := true }
def FnExactHeldUptoSaid : Prop := fnExactHeldUptoRow.holds Try.pinned (OpenSpec.upto fnExactHeldSpec)

/-- 'laws.FnExactAnnounce', WHERE WHAT IT READS IS OF BULK AT MOST 1048576: true; the input reads as it did. -/
def fnExactAnnounceUptoRow : OpenClaim := { program := "ytclljpdcpcolpaa", sum := "a771fd1d2ef942039cf5e960f47147dd40f0badd8c66c93e67761fcc6aabd5f8", func := "loop.example/g00087/laws.FnExactAnnounce", spec := "fnExactAnnounce", unfollowed := true, recurses := true, apart := false, narrowed := true }
def FnExactAnnounceUptoSaid : Prop := fnExactAnnounceUptoRow.holds Try.pinned (OpenSpec.upto fnExactAnnounceSpec)

/-- 'laws.FnExactDrive', WHERE WHAT IT READS IS OF BULK AT MOST 1048576: true; the input reads as it did. -/
def fnExactDriveUptoRow : OpenClaim := { program := "ytclljpdcpcolpaa", sum := "a771fd1d2ef942039cf5e960f47147dd40f0badd8c66c93e67761fcc6aabd5f8", func := "loop.example/g00087/laws.FnExactDrive", spec := "fnExactDrive", unfollowed := true, recurses := true, apart := false, narrowed := true }
def FnExactDriveUptoSaid : Prop := fnExactDriveUptoRow.holds Try.pinned (OpenSpec.upto fnExactDriveSpec)

/-- 'laws.FnExactThreadOk', WHERE WHAT IT READS IS OF BULK AT MOST 1048576: true; the input reads as it did. -/
def fnExactThreadOkUptoRow : OpenClaim := { program := "ytclljpdcpcolpaa", sum := "a771fd1d2ef942039cf5e960f47147dd40f0badd8c66c93e67761fcc6aabd5f8", func := "loop.example/g00087/laws.FnExactThreadOk", spec := "fnExactThreadOk", unfollowed := true, recurses := true, apart := false, narrowed := true }
def FnExactThreadOkUptoSaid : Prop := fnExactThreadOkUptoRow.holds Try.pinned (OpenSpec.upto fnExactThreadOkSpec)

/-- 'laws.FnExactFinishAll', WHERE WHAT IT READS IS OF BULK AT MOST 1048576: true; the input reads as it did. -/
def fnExactFinishAllUptoRow : OpenClaim := { program := "ytclljpdcpcolpaa", sum := "a771fd1d2ef942039cf5e960f47147dd40f0badd8c66c93e67761fcc6aabd5f8", func := "loop.example/g00087/laws.FnExactFinishAll", spec := "fnExactFinishAll", unfollowed := true, recurses := true, apart := false, narrowed := true }
def FnExactFinishAllUptoSaid : Prop := fnExactFinishAllUptoRow.holds Try.pinned (OpenSpec.upto fnExactFinishAllSpec)

/-- 'laws.FnExactNewWorld', WHERE WHAT IT READS IS OF BULK AT MOST 1048576: true; the input reads as it did. -/
def fnExactNewWorldUptoRow : OpenClaim := { program := "ytclljpdcpcolpaa", sum := "a771fd1d2ef942039cf5e960f47147dd40f0badd8c66c93e67761fcc6aabd5f8", func := "loop.example/g00087/laws.FnExactNewWorld", spec := "fnExactNewWorld", unfollowed := true, recurses := true, apart := false, narrowed := true }
def FnExactNewWorldUptoSaid : Prop := fnExactNewWorldUptoRow.holds Try.pinned (OpenSpec.upto fnExactNewWorldSpec)

/-- 'laws.FnExactWorldOk', WHERE WHAT IT READS IS OF BULK AT MOST 1048576: true; the input reads as it did. -/
def fnExactWorldOkUptoRow : OpenClaim := { program := "ytclljpdcpcolpaa", sum := "a771fd1d2ef942039cf5e960f47147dd40f0badd8c66c93e67761fcc6aabd5f8", func := "loop.example/g00087/laws.FnExactWorldOk", spec := "fnExactWorldOk", unfollowed := true, recurses := true, apart := false, narrowed := true }
def FnExactWorldOkUptoSaid : Prop := fnExactWorldOkUptoRow.holds Try.pinned (OpenSpec.upto fnExactWorldOkSpec)

end Rows
end Go.Proofs.Ytclljpdcpcolpaa
