/-
  DERIVED. GIVEN WITH THE SEED: THE CARDS: each row of YtiienjjhlibopaaGreatDoorRows.lean that lists a variable, with what it lists TIED to the program's text (the seventh form; the later family's looks); each row that meets fmt, with fmt's text TOLD by the authors' own Lean function (tested against real Go, not proved from fmt's source: count such statements apart). THE CARD IS WHAT COUNTS. Prove the row's statement (the work); the ties are given (YtiienjjhlibopaaGreatDoorTie.lean); close each card by the builder's one call (the guide's Derived/Test/ToyasCard.lean, 'card_holds'). Laid BY PROGRAM, IN A SANDBOX (cutbox-door.mjs). By AI agents, Wed Nov 11 2026. No macro, syntax, notation, axiom, sorry.
-/
import Derived.Test.YtiienjjhlibopaaGreatDoorRows
import GoSem.ClaimSeven
namespace Go.Proofs.YtiienjjhlibopaaGreatDoor
namespace Rows

/-- THE TIED CARD OF 'watershedlaw08.JournalBytes'. -/
def journalBytesCard : Claim7 := { stood := { row := journalBytesRow, standIns := [], harness := (true, "bac9aea77f066d6ddfee4482160b595abb42817cb6e3254f4cd78159ffaad9e3"), looks := true }, kinds := [], alts := [], laidByText := true, laidKinds := [.data, .data, .data], laidTests := true, laidLooks := .later }
def JournalBytesCardSaid : Prop := Claim7.holds Tryz.pinned (.plain (OpenSpec.ofChange journalBytesSpec)) journalBytesCard

/-- THE TIED CARD OF 'watershedlaw08.JournalGroups'. -/
def journalGroupsCard : Claim7 := { stood := { row := journalGroupsRow, standIns := [], harness := (true, "bac9aea77f066d6ddfee4482160b595abb42817cb6e3254f4cd78159ffaad9e3"), looks := true }, kinds := [], alts := [], laidByText := true, laidKinds := [.data, .data, .data], laidTests := true, laidLooks := .later }
def JournalGroupsCardSaid : Prop := Claim7.holds Tryz.pinned (.plain (OpenSpec.ofChange journalGroupsSpec)) journalGroupsCard

/-- THE TIED CARD OF 'watershedlaw08.JournalCrash'. -/
def journalCrashCard : Claim7 := { stood := { row := journalCrashRow, standIns := [], harness := (true, "bac9aea77f066d6ddfee4482160b595abb42817cb6e3254f4cd78159ffaad9e3"), looks := true }, kinds := [], alts := [], laidByText := true, laidKinds := [.data, .data, .data], laidTests := true, laidLooks := .later }
def JournalCrashCardSaid : Prop := Claim7.holds Tryz.pinned (.plain (OpenSpec.ofChange journalCrashSpec)) journalCrashCard

/-- THE TIED CARD OF 'watershedlaw08.JournalEnds'. -/
def journalEndsCard : Claim7 := { stood := { row := journalEndsRow, standIns := [], harness := (true, "bac9aea77f066d6ddfee4482160b595abb42817cb6e3254f4cd78159ffaad9e3"), looks := true }, kinds := [], alts := [], laidByText := true, laidKinds := [.data, .data, .data], laidTests := true, laidLooks := .later }
def JournalEndsCardSaid : Prop := Claim7.holds Tryz.pinned (.plain (OpenSpec.ofChange journalEndsSpec)) journalEndsCard

/-- THE SECOND FORM's CARD OF 'watershedlaw08.JournalBytes'. -/
def journalBytesUptoCard : Claim7 := { stood := { row := journalBytesUptoRow, standIns := [], harness := (true, "bac9aea77f066d6ddfee4482160b595abb42817cb6e3254f4cd78159ffaad9e3"), looks := true }, kinds := [], alts := [], laidByText := true, laidKinds := [.data, .data, .data], laidTests := true, laidLooks := .later }
def JournalBytesUptoCardSaid : Prop := Claim7.holds Tryz.pinned (.plain (OpenSpec.upto journalBytesSpec)) journalBytesUptoCard

/-- THE SECOND FORM's CARD OF 'watershedlaw08.JournalGroups'. -/
def journalGroupsUptoCard : Claim7 := { stood := { row := journalGroupsUptoRow, standIns := [], harness := (true, "bac9aea77f066d6ddfee4482160b595abb42817cb6e3254f4cd78159ffaad9e3"), looks := true }, kinds := [], alts := [], laidByText := true, laidKinds := [.data, .data, .data], laidTests := true, laidLooks := .later }
def JournalGroupsUptoCardSaid : Prop := Claim7.holds Tryz.pinned (.plain (OpenSpec.upto journalGroupsSpec)) journalGroupsUptoCard

/-- THE SECOND FORM's CARD OF 'watershedlaw08.JournalCrash'. -/
def journalCrashUptoCard : Claim7 := { stood := { row := journalCrashUptoRow, standIns := [], harness := (true, "bac9aea77f066d6ddfee4482160b595abb42817cb6e3254f4cd78159ffaad9e3"), looks := true }, kinds := [], alts := [], laidByText := true, laidKinds := [.data, .data, .data], laidTests := true, laidLooks := .later }
def JournalCrashUptoCardSaid : Prop := Claim7.holds Tryz.pinned (.plain (OpenSpec.upto journalCrashSpec)) journalCrashUptoCard

/-- THE SECOND FORM's CARD OF 'watershedlaw08.JournalEnds'. -/
def journalEndsUptoCard : Claim7 := { stood := { row := journalEndsUptoRow, standIns := [], harness := (true, "bac9aea77f066d6ddfee4482160b595abb42817cb6e3254f4cd78159ffaad9e3"), looks := true }, kinds := [], alts := [], laidByText := true, laidKinds := [.data, .data, .data], laidTests := true, laidLooks := .later }
def JournalEndsUptoCardSaid : Prop := Claim7.holds Tryz.pinned (.plain (OpenSpec.upto journalEndsSpec)) journalEndsUptoCard
end Rows
end Go.Proofs.YtiienjjhlibopaaGreatDoor
