/-
  DERIVED. GIVEN WITH THE SEED: THE CARDS: each row of YteempnebenjkmaaGreatDoorRows.lean that lists a variable, with what it lists TIED to the program's text (the seventh form; the later family's looks); each row that meets fmt, with fmt's text TOLD by the authors' own Lean function (tested against real Go, not proved from fmt's source: count such statements apart). THE CARD IS WHAT COUNTS. Prove the row's statement (the work); the ties are given (YteempnebenjkmaaGreatDoorTie.lean); close each card by the builder's one call (the guide's Derived/Test/ToyasCard.lean, 'card_holds'). Laid BY PROGRAM, IN A SANDBOX (cutbox-door.mjs). By AI agents, Wed Nov 11 2026. No macro, syntax, notation, axiom, sorry.
-/
import Derived.Test.YteempnebenjkmaaGreatDoorRows
import GoSem.ClaimSeven
namespace Go.Proofs.YteempnebenjkmaaGreatDoor
namespace Rows

/-- THE TIED CARD OF 'watershedlaw09.ImageLoads'. -/
def imageLoadsCard : Claim7 := { stood := { row := imageLoadsRow, standIns := [], harness := (true, "6bd6dccf22800b057db350788ee30bdc6ce6f5730464a2df8e00ad99ed1af251"), looks := false }, kinds := [], alts := [], laidByText := true, laidKinds := [.data, .data, .data], laidTests := true, laidLooks := .later }
def ImageLoadsCardSaid : Prop := Claim7.holds Tryz.pinned (.plain (OpenSpec.ofChange imageLoadsSpec)) imageLoadsCard

/-- THE TIED CARD OF 'watershedlaw09.ImageSaves'. -/
def imageSavesCard : Claim7 := { stood := { row := imageSavesRow, standIns := [], harness := (true, "6bd6dccf22800b057db350788ee30bdc6ce6f5730464a2df8e00ad99ed1af251"), looks := false }, kinds := [], alts := [], laidByText := true, laidKinds := [.data, .data, .data], laidTests := true, laidLooks := .later }
def ImageSavesCardSaid : Prop := Claim7.holds Tryz.pinned (.plain (OpenSpec.ofChange imageSavesSpec)) imageSavesCard

/-- THE TIED CARD OF 'watershedlaw09.ImageEnds'. -/
def imageEndsCard : Claim7 := { stood := { row := imageEndsRow, standIns := [], harness := (true, "6bd6dccf22800b057db350788ee30bdc6ce6f5730464a2df8e00ad99ed1af251"), looks := false }, kinds := [], alts := [], laidByText := true, laidKinds := [.data, .data, .data], laidTests := true, laidLooks := .later }
def ImageEndsCardSaid : Prop := Claim7.holds Tryz.pinned (.plain (OpenSpec.ofChange imageEndsSpec)) imageEndsCard

/-- THE TIED CARD OF 'watershedlaw09.ImageSafe'. -/
def imageSafeCard : Claim7 := { stood := { row := imageSafeRow, standIns := [], harness := (true, "6bd6dccf22800b057db350788ee30bdc6ce6f5730464a2df8e00ad99ed1af251"), looks := false }, kinds := [], alts := [], laidByText := true, laidKinds := [.data, .data, .data], laidTests := true, laidLooks := .later }
def ImageSafeCardSaid : Prop := Claim7.holds Tryz.pinned (.plain (OpenSpec.ofChange imageSafeSpec)) imageSafeCard

/-- THE SECOND FORM's CARD OF 'watershedlaw09.ImageLoads'. -/
def imageLoadsUptoCard : Claim7 := { stood := { row := imageLoadsUptoRow, standIns := [], harness := (true, "6bd6dccf22800b057db350788ee30bdc6ce6f5730464a2df8e00ad99ed1af251"), looks := false }, kinds := [], alts := [], laidByText := true, laidKinds := [.data, .data, .data], laidTests := true, laidLooks := .later }
def ImageLoadsUptoCardSaid : Prop := Claim7.holds Tryz.pinned (.plain (OpenSpec.upto imageLoadsSpec)) imageLoadsUptoCard

/-- THE SECOND FORM's CARD OF 'watershedlaw09.ImageSaves'. -/
def imageSavesUptoCard : Claim7 := { stood := { row := imageSavesUptoRow, standIns := [], harness := (true, "6bd6dccf22800b057db350788ee30bdc6ce6f5730464a2df8e00ad99ed1af251"), looks := false }, kinds := [], alts := [], laidByText := true, laidKinds := [.data, .data, .data], laidTests := true, laidLooks := .later }
def ImageSavesUptoCardSaid : Prop := Claim7.holds Tryz.pinned (.plain (OpenSpec.upto imageSavesSpec)) imageSavesUptoCard

/-- THE SECOND FORM's CARD OF 'watershedlaw09.ImageEnds'. -/
def imageEndsUptoCard : Claim7 := { stood := { row := imageEndsUptoRow, standIns := [], harness := (true, "6bd6dccf22800b057db350788ee30bdc6ce6f5730464a2df8e00ad99ed1af251"), looks := false }, kinds := [], alts := [], laidByText := true, laidKinds := [.data, .data, .data], laidTests := true, laidLooks := .later }
def ImageEndsUptoCardSaid : Prop := Claim7.holds Tryz.pinned (.plain (OpenSpec.upto imageEndsSpec)) imageEndsUptoCard

/-- THE SECOND FORM's CARD OF 'watershedlaw09.ImageSafe'. -/
def imageSafeUptoCard : Claim7 := { stood := { row := imageSafeUptoRow, standIns := [], harness := (true, "6bd6dccf22800b057db350788ee30bdc6ce6f5730464a2df8e00ad99ed1af251"), looks := false }, kinds := [], alts := [], laidByText := true, laidKinds := [.data, .data, .data], laidTests := true, laidLooks := .later }
def ImageSafeUptoCardSaid : Prop := Claim7.holds Tryz.pinned (.plain (OpenSpec.upto imageSafeSpec)) imageSafeUptoCard
end Rows
end Go.Proofs.YteempnebenjkmaaGreatDoor
