/-
  No cell of these rows narrows 'for every input' (looked for: loops, veiled, ifaces, maps, wideKeys, modest, calm, conditions, laid).
  DERIVED. THE GIVEN ROWS OF THIS SEAT. 11 by the template 'for every input the law returns true; each argument reads behind the call as it read before'; 0 by the template 'total and deterministic' (their statements: YtfkefjcopbcmlaaTotals.lean).
  GIVEN WITH THE SEED: the statements are not yours to turn. If you find one false, say at which input.
  Laid BY PROGRAM, IN A SANDBOX (cutbox-rows.mjs): the forced cells as the released guide's own fill.sh prints them over the translation b4c6a8df19e1308d… (all of the seat's roots in one cut). By AI agents, Wed Nov 11 2026. No macro, syntax, notation, axiom, sorry.
-/
import Derived.Test.YtfkefjcopbcmlaaChecked
import GoSem.Claim
import GoSem.ClaimJoined
import GoSem.ClaimMapViews
import Derived.JoinedTies
import Derived.KernelRfl
namespace Go.Proofs.Ytfkefjcopbcmlaa
/- THE CELL 'sum', in the pinned program and in every row, IS THE sha256 OF THE DUMP (.gsa) THAT YtfkefjcopbcmlaaProg.lean LOADS. Nothing in Lean hashes anything: it is a label: what it is worth is what the hold of that sum in a sandbox is worth. -/
noncomputable def Try.pinned : Pinned := { name := "ytfkefjcopbcmlaa", sum := "b4c6a8df19e1308da05c5fdab03fe76bc8ac5556e2f32375293da4917c3abc9e", checked := Try.checked }
namespace Rows
def none {H : Type} : Left H := { results := [], args := [] }

/-- 'laws.FnTogether': WHATEVER THE INPUT: true; the input reads as it did. -/
def fnTogetherSpec : ChangeSpec := { name := "fnTogether", fn := fun _ => fun
  | [d] => { results := [.lit (.bool true)], args := [d] }
  | _ => none }
def fnTogetherRow : OpenClaim := { program := "ytfkefjcopbcmlaa", sum := "b4c6a8df19e1308da05c5fdab03fe76bc8ac5556e2f32375293da4917c3abc9e", func := "loop.example/g00087/laws.FnTogether", spec := "fnTogether", unfollowed := true, recurses := true, apart := false }
def FnTogetherSaid : Prop := fnTogetherRow.holds Try.pinned (OpenSpec.ofChange fnTogetherSpec)

/-- ITS FALSE NEIGHBOUR: 'it returns false'. Refute it at one input. -/
def fnTogetherWrong : ChangeSpec := { name := "fnTogether", fn := fun _ => fun
  | [d] => { results := [.lit (.bool false)], args := [d] }
  | _ => none }
def FnTogetherWrongFalsely : Prop := fnTogetherRow.holds Try.pinned (OpenSpec.ofChange fnTogetherWrong)

/-- 'laws.FnExactIdle': WHATEVER THE INPUT: true; the input reads as it did. -/
def fnExactIdleSpec : ChangeSpec := { name := "fnExactIdle", fn := fun _ => fun
  | [d] => { results := [.lit (.bool true)], args := [d] }
  | _ => none }
def fnExactIdleRow : OpenClaim := { program := "ytfkefjcopbcmlaa", sum := "b4c6a8df19e1308da05c5fdab03fe76bc8ac5556e2f32375293da4917c3abc9e", func := "loop.example/g00087/laws.FnExactIdle", spec := "fnExactIdle", apart := false }
def FnExactIdleSaid : Prop := fnExactIdleRow.holds Try.pinned (OpenSpec.ofChange fnExactIdleSpec)

/-- ITS FALSE NEIGHBOUR: 'it returns false'. Refute it at one input. -/
def fnExactIdleWrong : ChangeSpec := { name := "fnExactIdle", fn := fun _ => fun
  | [d] => { results := [.lit (.bool false)], args := [d] }
  | _ => none }
def FnExactIdleWrongFalsely : Prop := fnExactIdleRow.holds Try.pinned (OpenSpec.ofChange fnExactIdleWrong)

/-- 'laws.FnExactNewStore': WHATEVER THE INPUT: true; the input reads as it did. -/
def fnExactNewStoreSpec : ChangeSpec := { name := "fnExactNewStore", fn := fun _ => fun
  | [d] => { results := [.lit (.bool true)], args := [d] }
  | _ => none }
def fnExactNewStoreRow : OpenClaim := { program := "ytfkefjcopbcmlaa", sum := "b4c6a8df19e1308da05c5fdab03fe76bc8ac5556e2f32375293da4917c3abc9e", func := "loop.example/g00087/laws.FnExactNewStore", spec := "fnExactNewStore", unfollowed := true, recurses := true, apart := false }
def FnExactNewStoreSaid : Prop := fnExactNewStoreRow.holds Try.pinned (OpenSpec.ofChange fnExactNewStoreSpec)

/-- ITS FALSE NEIGHBOUR: 'it returns false'. Refute it at one input. -/
def fnExactNewStoreWrong : ChangeSpec := { name := "fnExactNewStore", fn := fun _ => fun
  | [d] => { results := [.lit (.bool false)], args := [d] }
  | _ => none }
def FnExactNewStoreWrongFalsely : Prop := fnExactNewStoreRow.holds Try.pinned (OpenSpec.ofChange fnExactNewStoreWrong)

/-- 'laws.FnExactStoreOk': WHATEVER THE INPUT: true; the input reads as it did. -/
def fnExactStoreOkSpec : ChangeSpec := { name := "fnExactStoreOk", fn := fun _ => fun
  | [d] => { results := [.lit (.bool true)], args := [d] }
  | _ => none }
def fnExactStoreOkRow : OpenClaim := { program := "ytfkefjcopbcmlaa", sum := "b4c6a8df19e1308da05c5fdab03fe76bc8ac5556e2f32375293da4917c3abc9e", func := "loop.example/g00087/laws.FnExactStoreOk", spec := "fnExactStoreOk", unfollowed := true, recurses := true, apart := false }
def FnExactStoreOkSaid : Prop := fnExactStoreOkRow.holds Try.pinned (OpenSpec.ofChange fnExactStoreOkSpec)

/-- ITS FALSE NEIGHBOUR: 'it returns false'. Refute it at one input. -/
def fnExactStoreOkWrong : ChangeSpec := { name := "fnExactStoreOk", fn := fun _ => fun
  | [d] => { results := [.lit (.bool false)], args := [d] }
  | _ => none }
def FnExactStoreOkWrongFalsely : Prop := fnExactStoreOkRow.holds Try.pinned (OpenSpec.ofChange fnExactStoreOkWrong)

/-- 'laws.FnExactLook': WHATEVER THE INPUT: true; the input reads as it did. -/
def fnExactLookSpec : ChangeSpec := { name := "fnExactLook", fn := fun _ => fun
  | [d1, d2] => { results := [.lit (.bool true)], args := [d1, d2] }
  | _ => none }
def fnExactLookRow : OpenClaim := { program := "ytfkefjcopbcmlaa", sum := "b4c6a8df19e1308da05c5fdab03fe76bc8ac5556e2f32375293da4917c3abc9e", func := "loop.example/g00087/laws.FnExactLook", spec := "fnExactLook", unfollowed := true, recurses := true, apart := false }
def FnExactLookSaid : Prop := fnExactLookRow.holds Try.pinned (OpenSpec.ofChange fnExactLookSpec)

/-- ITS FALSE NEIGHBOUR: 'it returns false'. Refute it at one input. -/
def fnExactLookWrong : ChangeSpec := { name := "fnExactLook", fn := fun _ => fun
  | [d1, d2] => { results := [.lit (.bool false)], args := [d1, d2] }
  | _ => none }
def FnExactLookWrongFalsely : Prop := fnExactLookRow.holds Try.pinned (OpenSpec.ofChange fnExactLookWrong)

/-- 'laws.FnExactFrameOk': WHATEVER THE INPUT: true; the input reads as it did. -/
def fnExactFrameOkSpec : ChangeSpec := { name := "fnExactFrameOk", fn := fun _ => fun
  | [d1, d2] => { results := [.lit (.bool true)], args := [d1, d2] }
  | _ => none }
def fnExactFrameOkRow : OpenClaim := { program := "ytfkefjcopbcmlaa", sum := "b4c6a8df19e1308da05c5fdab03fe76bc8ac5556e2f32375293da4917c3abc9e", func := "loop.example/g00087/laws.FnExactFrameOk", spec := "fnExactFrameOk", unfollowed := true, recurses := true, apart := false }
def FnExactFrameOkSaid : Prop := fnExactFrameOkRow.holds Try.pinned (OpenSpec.ofChange fnExactFrameOkSpec)

/-- ITS FALSE NEIGHBOUR: 'it returns false'. Refute it at one input. -/
def fnExactFrameOkWrong : ChangeSpec := { name := "fnExactFrameOk", fn := fun _ => fun
  | [d1, d2] => { results := [.lit (.bool false)], args := [d1, d2] }
  | _ => none }
def FnExactFrameOkWrongFalsely : Prop := fnExactFrameOkRow.holds Try.pinned (OpenSpec.ofChange fnExactFrameOkWrong)

/-- 'laws.FnSerial': WHATEVER THE INPUT: true; the input reads as it did. -/
def fnSerialSpec : ChangeSpec := { name := "fnSerial", fn := fun _ => fun
  | [d] => { results := [.lit (.bool true)], args := [d] }
  | _ => none }
def fnSerialRow : OpenClaim := { program := "ytfkefjcopbcmlaa", sum := "b4c6a8df19e1308da05c5fdab03fe76bc8ac5556e2f32375293da4917c3abc9e", func := "loop.example/g00087/laws.FnSerial", spec := "fnSerial", unfollowed := true, recurses := true, apart := false }
def FnSerialSaid : Prop := fnSerialRow.holds Try.pinned (OpenSpec.ofChange fnSerialSpec)

/-- ITS FALSE NEIGHBOUR: 'it returns false'. Refute it at one input. -/
def fnSerialWrong : ChangeSpec := { name := "fnSerial", fn := fun _ => fun
  | [d] => { results := [.lit (.bool false)], args := [d] }
  | _ => none }
def FnSerialWrongFalsely : Prop := fnSerialRow.holds Try.pinned (OpenSpec.ofChange fnSerialWrong)

/-- 'laws.FnExactOrdersOf': WHATEVER THE INPUT: true; the input reads as it did. -/
def fnExactOrdersOfSpec : ChangeSpec := { name := "fnExactOrdersOf", fn := fun _ => fun
  | [d1, d2] => { results := [.lit (.bool true)], args := [d1, d2] }
  | _ => none }
def fnExactOrdersOfRow : OpenClaim := { program := "ytfkefjcopbcmlaa", sum := "b4c6a8df19e1308da05c5fdab03fe76bc8ac5556e2f32375293da4917c3abc9e", func := "loop.example/g00087/laws.FnExactOrdersOf", spec := "fnExactOrdersOf", unfollowed := true, recurses := true, apart := false }
def FnExactOrdersOfSaid : Prop := fnExactOrdersOfRow.holds Try.pinned (OpenSpec.ofChange fnExactOrdersOfSpec)

/-- ITS FALSE NEIGHBOUR: 'it returns false'. Refute it at one input. -/
def fnExactOrdersOfWrong : ChangeSpec := { name := "fnExactOrdersOf", fn := fun _ => fun
  | [d1, d2] => { results := [.lit (.bool false)], args := [d1, d2] }
  | _ => none }
def FnExactOrdersOfWrongFalsely : Prop := fnExactOrdersOfRow.holds Try.pinned (OpenSpec.ofChange fnExactOrdersOfWrong)

/-- 'laws.FnExactSerial': WHATEVER THE INPUT: true; the input reads as it did. -/
def fnExactSerialSpec : ChangeSpec := { name := "fnExactSerial", fn := fun _ => fun
  | [d1, d2] => { results := [.lit (.bool true)], args := [d1, d2] }
  | _ => none }
def fnExactSerialRow : OpenClaim := { program := "ytfkefjcopbcmlaa", sum := "b4c6a8df19e1308da05c5fdab03fe76bc8ac5556e2f32375293da4917c3abc9e", func := "loop.example/g00087/laws.FnExactSerial", spec := "fnExactSerial", unfollowed := true, recurses := true, apart := false }
def FnExactSerialSaid : Prop := fnExactSerialRow.holds Try.pinned (OpenSpec.ofChange fnExactSerialSpec)

/-- ITS FALSE NEIGHBOUR: 'it returns false'. Refute it at one input. -/
def fnExactSerialWrong : ChangeSpec := { name := "fnExactSerial", fn := fun _ => fun
  | [d1, d2] => { results := [.lit (.bool false)], args := [d1, d2] }
  | _ => none }
def FnExactSerialWrongFalsely : Prop := fnExactSerialRow.holds Try.pinned (OpenSpec.ofChange fnExactSerialWrong)

/-- 'laws.FnExactDepth': WHATEVER THE INPUT: true; the input reads as it did. -/
def fnExactDepthSpec : ChangeSpec := { name := "fnExactDepth", fn := fun _ => fun
  | [d1, d2] => { results := [.lit (.bool true)], args := [d1, d2] }
  | _ => none }
def fnExactDepthRow : OpenClaim := { program := "ytfkefjcopbcmlaa", sum := "b4c6a8df19e1308da05c5fdab03fe76bc8ac5556e2f32375293da4917c3abc9e", func := "loop.example/g00087/laws.FnExactDepth", spec := "fnExactDepth", unfollowed := true, recurses := true, apart := false }
def FnExactDepthSaid : Prop := fnExactDepthRow.holds Try.pinned (OpenSpec.ofChange fnExactDepthSpec)

/-- ITS FALSE NEIGHBOUR: 'it returns false'. Refute it at one input. -/
def fnExactDepthWrong : ChangeSpec := { name := "fnExactDepth", fn := fun _ => fun
  | [d1, d2] => { results := [.lit (.bool false)], args := [d1, d2] }
  | _ => none }
def FnExactDepthWrongFalsely : Prop := fnExactDepthRow.holds Try.pinned (OpenSpec.ofChange fnExactDepthWrong)

/-- 'laws.FnExactNewThread': WHATEVER THE INPUT: true; the input reads as it did. -/
def fnExactNewThreadSpec : ChangeSpec := { name := "fnExactNewThread", fn := fun _ => fun
  | [d1, d2] => { results := [.lit (.bool true)], args := [d1, d2] }
  | _ => none }
def fnExactNewThreadRow : OpenClaim := { program := "ytfkefjcopbcmlaa", sum := "b4c6a8df19e1308da05c5fdab03fe76bc8ac5556e2f32375293da4917c3abc9e", func := "loop.example/g00087/laws.FnExactNewThread", spec := "fnExactNewThread", unfollowed := true, recurses := true, apart := false }
def FnExactNewThreadSaid : Prop := fnExactNewThreadRow.holds Try.pinned (OpenSpec.ofChange fnExactNewThreadSpec)

/-- ITS FALSE NEIGHBOUR: 'it returns false'. Refute it at one input. -/
def fnExactNewThreadWrong : ChangeSpec := { name := "fnExactNewThread", fn := fun _ => fun
  | [d1, d2] => { results := [.lit (.bool false)], args := [d1, d2] }
  | _ => none }
def FnExactNewThreadWrongFalsely : Prop := fnExactNewThreadRow.holds Try.pinned (OpenSpec.ofChange fnExactNewThreadWrong)

/- THE SECOND FORM. 'bulk': how many values and letters a reading holds, each counted each time it is reached (what is shared counts as often as it is met; a slice's spare places count too). A statement '..UptoSaid' is the law's where the arguments, and the package variables that the reading takes, are together of bulk at most 1048576: NARROWER than '..Said'. Prove '..Said' where nothing that the law and all that it calls make is longer than what came in: it says more and counts as full. Else prove '..UptoSaid'. A law counts once. -/
mutual
def uptoBulk {H : Type} : DataW H → Nat
  | .lit (.string bytes) => bytes.length + 1
  | .lit _ => 1
  | .nil => 1
  | .ptr d => uptoBulk d + 1
  | .slice elems spare => uptoBulkAll elems + uptoBulkAll spare + 1
  | .agg parts => uptoBulkAll parts + 1
  | .iface _ d => uptoBulk d + 1
  | .map entries => uptoBulkEntries entries + 1
  | .held _ => 1
def uptoBulkAll {H : Type} : List (DataW H) → Nat
  | [] => 0
  | d :: r => uptoBulk d + uptoBulkAll r
def uptoBulkEntries {H : Type} : List (Lit × DataW H) → Nat
  | [] => 0
  | x :: r => uptoBulkEntry x + uptoBulkEntries r
def uptoBulkEntry {H : Type} : Lit × DataW H → Nat
  | (.string bytes, d) => bytes.length + uptoBulk d + 1
  | (_, d) => uptoBulk d + 1
 end
def uptoSmall : (H : Type) → List (DataW H) → Bool := fun _ ds => decide (uptoBulkAll ds ≤ 1048576)
def OpenSpec.upto (s : _root_.Go.ChangeSpec) : _root_.Go.OpenSpec := { _root_.Go.OpenSpec.ofChange s with cond := some uptoSmall }

/-- 'laws.FnTogether', WHERE WHAT IT READS IS OF BULK AT MOST 1048576: true; the input reads as it did. -/
def fnTogetherUptoRow : OpenClaim := { program := "ytfkefjcopbcmlaa", sum := "b4c6a8df19e1308da05c5fdab03fe76bc8ac5556e2f32375293da4917c3abc9e", func := "loop.example/g00087/laws.FnTogether", spec := "fnTogether", unfollowed := true, recurses := true, apart := false, narrowed := true }
def FnTogetherUptoSaid : Prop := fnTogetherUptoRow.holds Try.pinned (OpenSpec.upto fnTogetherSpec)

/-- 'laws.FnExactIdle', WHERE WHAT IT READS IS OF BULK AT MOST 1048576: true; the input reads as it did. -/
def fnExactIdleUptoRow : OpenClaim := { program := "ytfkefjcopbcmlaa", sum := "b4c6a8df19e1308da05c5fdab03fe76bc8ac5556e2f32375293da4917c3abc9e", func := "loop.example/g00087/laws.FnExactIdle", spec := "fnExactIdle", apart := false, narrowed := true }
def FnExactIdleUptoSaid : Prop := fnExactIdleUptoRow.holds Try.pinned (OpenSpec.upto fnExactIdleSpec)

/-- 'laws.FnExactNewStore', WHERE WHAT IT READS IS OF BULK AT MOST 1048576: true; the input reads as it did. -/
def fnExactNewStoreUptoRow : OpenClaim := { program := "ytfkefjcopbcmlaa", sum := "b4c6a8df19e1308da05c5fdab03fe76bc8ac5556e2f32375293da4917c3abc9e", func := "loop.example/g00087/laws.FnExactNewStore", spec := "fnExactNewStore", unfollowed := true, recurses := true, apart := false, narrowed := true }
def FnExactNewStoreUptoSaid : Prop := fnExactNewStoreUptoRow.holds Try.pinned (OpenSpec.upto fnExactNewStoreSpec)

/-- 'laws.FnExactStoreOk', WHERE WHAT IT READS IS OF BULK AT MOST 1048576: true; the input reads as it did. -/
def fnExactStoreOkUptoRow : OpenClaim := { program := "ytfkefjcopbcmlaa", sum := "b4c6a8df19e1308da05c5fdab03fe76bc8ac5556e2f32375293da4917c3abc9e", func := "loop.example/g00087/laws.FnExactStoreOk", spec := "fnExactStoreOk", unfollowed := true, recurses := true, apart := false, narrowed := true }
def FnExactStoreOkUptoSaid : Prop := fnExactStoreOkUptoRow.holds Try.pinned (OpenSpec.upto fnExactStoreOkSpec)

/-- 'laws.FnExactLook', WHERE WHAT IT READS IS OF BULK AT MOST 1048576: true; the input reads as it did. -/
def fnExactLookUptoRow : OpenClaim := { program := "ytfkefjcopbcmlaa", sum := "b4c6a8df19e1308da05c5fdab03fe76bc8ac5556e2f32375293da4917c3abc9e", func := "loop.example/g00087/laws.FnExactLook", spec := "fnExactLook", unfollowed := true, recurses := true, apart := false, narrowed := true }
def FnExactLookUptoSaid : Prop := fnExactLookUptoRow.holds Try.pinned (OpenSpec.upto fnExactLookSpec)

/-- 'laws.FnExactFrameOk', WHERE WHAT IT READS IS OF BULK AT MOST 1048576: true; the input reads as it did. -/
def fnExactFrameOkUptoRow : OpenClaim := { program := "ytfkefjcopbcmlaa", sum := "b4c6a8df19e1308da05c5fdab03fe76bc8ac5556e2f32375293da4917c3abc9e", func := "loop.example/g00087/laws.FnExactFrameOk", spec := "fnExactFrameOk", unfollowed := true, recurses := true, apart := false, narrowed := true }
def FnExactFrameOkUptoSaid : Prop := fnExactFrameOkUptoRow.holds Try.pinned (OpenSpec.upto fnExactFrameOkSpec)

/-- 'laws.FnSerial', WHERE WHAT IT READS IS OF BULK AT MOST 1048576: true; the input reads as it did. -/
def fnSerialUptoRow : OpenClaim := { program := "ytfkefjcopbcmlaa", sum := "b4c6a8df19e1308da05c5fdab03fe76bc8ac5556e2f32375293da4917c3abc9e", func := "loop.example/g00087/laws.FnSerial", spec := "fnSerial", unfollowed := true, recurses := true, apart := false, narrowed := true }
def FnSerialUptoSaid : Prop := fnSerialUptoRow.holds Try.pinned (OpenSpec.upto fnSerialSpec)

/-- 'laws.FnExactOrdersOf', WHERE WHAT IT READS IS OF BULK AT MOST 1048576: true; the input reads as it did. -/
def fnExactOrdersOfUptoRow : OpenClaim := { program := "ytfkefjcopbcmlaa", sum := "b4c6a8df19e1308da05c5fdab03fe76bc8ac5556e2f32375293da4917c3abc9e", func := "loop.example/g00087/laws.FnExactOrdersOf", spec := "fnExactOrdersOf", unfollowed := true, recurses := true, apart := false, narrowed := true }
def FnExactOrdersOfUptoSaid : Prop := fnExactOrdersOfUptoRow.holds Try.pinned (OpenSpec.upto fnExactOrdersOfSpec)

/-- 'laws.FnExactSerial', WHERE WHAT IT READS IS OF BULK AT MOST 1048576: true; the input reads as it did. -/
def fnExactSerialUptoRow : OpenClaim := { program := "ytfkefjcopbcmlaa", sum := "b4c6a8df19e1308da05c5fdab03fe76bc8ac5556e2f32375293da4917c3abc9e", func := "loop.example/g00087/laws.FnExactSerial", spec := "fnExactSerial", unfollowed := true, recurses := true, apart := false, narrowed := true }
def FnExactSerialUptoSaid : Prop := fnExactSerialUptoRow.holds Try.pinned (OpenSpec.upto fnExactSerialSpec)

/-- 'laws.FnExactDepth', WHERE WHAT IT READS IS OF BULK AT MOST 1048576: true; the input reads as it did. -/
def fnExactDepthUptoRow : OpenClaim := { program := "ytfkefjcopbcmlaa", sum := "b4c6a8df19e1308da05c5fdab03fe76bc8ac5556e2f32375293da4917c3abc9e", func := "loop.example/g00087/laws.FnExactDepth", spec := "fnExactDepth", unfollowed := true, recurses := true, apart := false, narrowed := true }
def FnExactDepthUptoSaid : Prop := fnExactDepthUptoRow.holds Try.pinned (OpenSpec.upto fnExactDepthSpec)

/-- 'laws.FnExactNewThread', WHERE WHAT IT READS IS OF BULK AT MOST 1048576: true; the input reads as it did. -/
def fnExactNewThreadUptoRow : OpenClaim := { program := "ytfkefjcopbcmlaa", sum := "b4c6a8df19e1308da05c5fdab03fe76bc8ac5556e2f32375293da4917c3abc9e", func := "loop.example/g00087/laws.FnExactNewThread", spec := "fnExactNewThread", unfollowed := true, recurses := true, apart := false, narrowed := true }
def FnExactNewThreadUptoSaid : Prop := fnExactNewThreadUptoRow.holds Try.pinned (OpenSpec.upto fnExactNewThreadSpec)

end Rows
end Go.Proofs.Ytfkefjcopbcmlaa
