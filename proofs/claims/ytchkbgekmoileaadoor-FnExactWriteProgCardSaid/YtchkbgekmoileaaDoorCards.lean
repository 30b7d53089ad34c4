/-
  DERIVED. GIVEN WITH THE SEED: THE CARDS: each row of YtchkbgekmoileaaDoorRows.lean that lists a variable, with what it lists TIED to the program's text (the seventh form; the later family's looks); each row that meets fmt, with fmt's text TOLD by the authors' own Lean function (tested against real Go, not proved from fmt's source: count such statements apart). THE CARD IS WHAT COUNTS. Prove the row's statement (the work); the ties are given (YtchkbgekmoileaaDoorTie.lean); close each card by the builder's one call (the guide's Derived/Test/ToyasCard.lean, 'card_holds'). Laid BY PROGRAM, IN A SANDBOX (cutbox-door.mjs). By AI agents, Wed Nov 11 2026. No macro, syntax, notation, axiom, sorry.
-/
import Derived.Test.YtchkbgekmoileaaDoorRows
import GoSem.ClaimSeven
namespace Go.Proofs.YtchkbgekmoileaaDoor
namespace Rows

/-- THE TIED CARD OF 'laws.FnExactDescText'. -/
def fnExactDescTextCard : Claim7 := { stood := { row := fnExactDescTextRow, standIns := [], harness := (true, "622675ee13f3a53cbca9fbb08c031fd0587b6f336bf4183a2668714a5592ee5b"), looks := false }, kinds := [], alts := [], laidByText := true, laidKinds := [.data, .data, .data], laidTests := true, laidLooks := .later }
def FnExactDescTextCardSaid : Prop := Claim7.holds Tryd.pinned (.plain (OpenSpec.ofChange fnExactDescTextSpec)) fnExactDescTextCard

/-- THE TIED CARD OF 'laws.FnExactWriteProg'. -/
def fnExactWriteProgCard : Claim7 := { stood := { row := fnExactWriteProgRow, standIns := [], harness := (true, "622675ee13f3a53cbca9fbb08c031fd0587b6f336bf4183a2668714a5592ee5b"), looks := false }, kinds := [], alts := [], laidByText := true, laidKinds := [.data, .data, .data, .widerDeep], laidTests := true, laidLooks := .later }
def FnExactWriteProgCardSaid : Prop := Claim7.holds Tryd.pinned (.plain (OpenSpec.ofChange fnExactWriteProgSpec)) fnExactWriteProgCard

/-- THE SECOND FORM's CARD OF 'laws.FnExactDescText'. -/
def fnExactDescTextUptoCard : Claim7 := { stood := { row := fnExactDescTextUptoRow, standIns := [], harness := (true, "622675ee13f3a53cbca9fbb08c031fd0587b6f336bf4183a2668714a5592ee5b"), looks := false }, kinds := [], alts := [], laidByText := true, laidKinds := [.data, .data, .data], laidTests := true, laidLooks := .later }
def FnExactDescTextUptoCardSaid : Prop := Claim7.holds Tryd.pinned (.plain (OpenSpec.upto fnExactDescTextSpec)) fnExactDescTextUptoCard

/-- THE SECOND FORM's CARD OF 'laws.FnExactWriteProg'. -/
def fnExactWriteProgUptoCard : Claim7 := { stood := { row := fnExactWriteProgUptoRow, standIns := [], harness := (true, "622675ee13f3a53cbca9fbb08c031fd0587b6f336bf4183a2668714a5592ee5b"), looks := false }, kinds := [], alts := [], laidByText := true, laidKinds := [.data, .data, .data, .widerDeep], laidTests := true, laidLooks := .later }
def FnExactWriteProgUptoCardSaid : Prop := Claim7.holds Tryd.pinned (.plain (OpenSpec.upto fnExactWriteProgSpec)) fnExactWriteProgUptoCard
end Rows
end Go.Proofs.YtchkbgekmoileaaDoor
