/-
  DERIVED. GIVEN WITH THE SEED: THE CARDS: each row of YteempnebenjkmaaDoorRows.lean that lists a variable, with what it lists TIED to the program's text (the seventh form; the later family's looks); each row that meets fmt, with fmt's text TOLD by the authors' own Lean function (tested against real Go, not proved from fmt's source: count such statements apart). THE CARD IS WHAT COUNTS. Prove the row's statement (the work); the ties are given (YteempnebenjkmaaDoorTie.lean); close each card by the builder's one call (the guide's Derived/Test/ToyasCard.lean, 'card_holds'). Laid BY PROGRAM, IN A SANDBOX (cutbox-door.mjs). By AI agents, Wed Nov 11 2026. No macro, syntax, notation, axiom, sorry.
-/
import Derived.Test.YteempnebenjkmaaDoorRows
import GoSem.ClaimSeven
namespace Go.Proofs.YteempnebenjkmaaDoor
namespace Rows

/-- THE TIED CARD OF 'watershedlaw09.ImageBytes'. -/
def imageBytesCard : Claim7 := { stood := { row := imageBytesRow, standIns := [], harness := (true, "01ffb48d79f9738018e2b4b53de10b1917a6ca260ee1b5e2de2ea638b3ac26ce"), looks := false }, kinds := [], alts := [], laidByText := true, laidKinds := [.data, .data, .data], laidTests := true, laidLooks := .later }
def ImageBytesCardSaid : Prop := Claim7.holds Tryd.pinned (.plain (OpenSpec.ofChange imageBytesSpec)) imageBytesCard

/-- THE SECOND FORM's CARD OF 'watershedlaw09.ImageBytes'. -/
def imageBytesUptoCard : Claim7 := { stood := { row := imageBytesUptoRow, standIns := [], harness := (true, "01ffb48d79f9738018e2b4b53de10b1917a6ca260ee1b5e2de2ea638b3ac26ce"), looks := false }, kinds := [], alts := [], laidByText := true, laidKinds := [.data, .data, .data], laidTests := true, laidLooks := .later }
def ImageBytesUptoCardSaid : Prop := Claim7.holds Tryd.pinned (.plain (OpenSpec.upto imageBytesSpec)) imageBytesUptoCard
end Rows
end Go.Proofs.YteempnebenjkmaaDoor
