/-
  DERIVED. GIVEN WITH THE SEED: THE CARDS: each row of YtbmkfjmlepjpfaaGreatDoorRows.lean that lists a variable, with what it lists TIED to the program's text (the seventh form; the later family's looks); each row that meets fmt, with fmt's text TOLD by the authors' own Lean function (tested against real Go, not proved from fmt's source: count such statements apart). THE CARD IS WHAT COUNTS. Prove the row's statement (the work); the ties are given (YtbmkfjmlepjpfaaGreatDoorTie.lean); close each card by the builder's one call (the guide's Derived/Test/ToyasCard.lean, 'card_holds'). Laid BY PROGRAM, IN A SANDBOX (cutbox-door.mjs). By AI agents, Wed Nov 11 2026. No macro, syntax, notation, axiom, sorry.
-/
import Derived.Test.YtbmkfjmlepjpfaaGreatDoorRows
import GoSem.ClaimSeven
namespace Go.Proofs.YtbmkfjmlepjpfaaGreatDoor
namespace Rows

/-- THE TIED CARD OF 'jointerlaw20.BoundMost'. -/
def boundMostCard : Claim7 := { stood := { row := boundMostRow, standIns := [], harness := (true, "9a6b4a9cdd17fd4b220fe12613982cb83ca4a450f7e35cdcd693d0ac13a82659"), looks := false }, kinds := [], alts := [], laidByText := true, laidKinds := [.data, .listed, .data, .pinned, .pinned], laidTests := true, laidLooks := .later }
def BoundMostCardSaid : Prop := Claim7.holds Tryz.pinned (.plain (OpenSpec.ofChange boundMostSpec)) boundMostCard

/-- THE TIED CARD OF 'jointerlaw20.BoundFilter'. -/
def boundFilterCard : Claim7 := { stood := { row := boundFilterRow, standIns := [], harness := (true, "9a6b4a9cdd17fd4b220fe12613982cb83ca4a450f7e35cdcd693d0ac13a82659"), looks := false }, kinds := [], alts := [], laidByText := true, laidKinds := [.data, .listed, .data, .pinned, .pinned], laidTests := true, laidLooks := .later }
def BoundFilterCardSaid : Prop := Claim7.holds Tryz.pinned (.plain (OpenSpec.ofChange boundFilterSpec)) boundFilterCard

/-- THE TIED CARD OF 'jointerlaw20.BoundJoin'. -/
def boundJoinCard : Claim7 := { stood := { row := boundJoinRow, standIns := [], harness := (true, "9a6b4a9cdd17fd4b220fe12613982cb83ca4a450f7e35cdcd693d0ac13a82659"), looks := false }, kinds := [], alts := [], laidByText := true, laidKinds := [.data, .listed, .data, .pinned, .pinned], laidTests := true, laidLooks := .later }
def BoundJoinCardSaid : Prop := Claim7.holds Tryz.pinned (.plain (OpenSpec.ofChange boundJoinSpec)) boundJoinCard

/-- THE TIED CARD OF 'jointerlaw20.BoundPlan'. -/
def boundPlanCard : Claim7 := { stood := { row := boundPlanRow, standIns := [], harness := (true, "9a6b4a9cdd17fd4b220fe12613982cb83ca4a450f7e35cdcd693d0ac13a82659"), looks := false }, kinds := [], alts := [], laidByText := true, laidKinds := [.data, .listed, .data, .pinned, .pinned], laidTests := true, laidLooks := .later }
def BoundPlanCardSaid : Prop := Claim7.holds Tryz.pinned (.plain (OpenSpec.ofChange boundPlanSpec)) boundPlanCard

/-- THE TIED CARD OF 'jointerlaw20.BoundMemory'. -/
def boundMemoryCard : Claim7 := { stood := { row := boundMemoryRow, standIns := [], harness := (true, "9a6b4a9cdd17fd4b220fe12613982cb83ca4a450f7e35cdcd693d0ac13a82659"), looks := false }, kinds := [], alts := [], laidByText := true, laidKinds := [.data, .listed, .data, .pinned, .pinned], laidTests := true, laidLooks := .later }
def BoundMemoryCardSaid : Prop := Claim7.holds Tryz.pinned (.plain (OpenSpec.ofChange boundMemorySpec)) boundMemoryCard

/-- THE TIED CARD OF 'jointerlaw20.BoundFilterHolds'. -/
def boundFilterHoldsCard : Claim7 := { stood := { row := boundFilterHoldsRow, standIns := [], harness := (true, "9a6b4a9cdd17fd4b220fe12613982cb83ca4a450f7e35cdcd693d0ac13a82659"), looks := false }, kinds := [], alts := [], laidByText := true, laidKinds := [.data, .listed, .data, .pinned, .pinned], laidTests := true, laidLooks := .later }
def BoundFilterHoldsCardSaid : Prop := Claim7.holds Tryz.pinned (.plain (OpenSpec.ofChange boundFilterHoldsSpec)) boundFilterHoldsCard

/-- THE TIED CARD OF 'jointerlaw20.BoundJoinHolds'. -/
def boundJoinHoldsCard : Claim7 := { stood := { row := boundJoinHoldsRow, standIns := [], harness := (true, "9a6b4a9cdd17fd4b220fe12613982cb83ca4a450f7e35cdcd693d0ac13a82659"), looks := false }, kinds := [], alts := [], laidByText := true, laidKinds := [.data, .listed, .data, .pinned, .pinned], laidTests := true, laidLooks := .later }
def BoundJoinHoldsCardSaid : Prop := Claim7.holds Tryz.pinned (.plain (OpenSpec.ofChange boundJoinHoldsSpec)) boundJoinHoldsCard

/-- THE TIED CARD OF 'jointerlaw20.BoundPlanHolds'. -/
def boundPlanHoldsCard : Claim7 := { stood := { row := boundPlanHoldsRow, standIns := [], harness := (true, "9a6b4a9cdd17fd4b220fe12613982cb83ca4a450f7e35cdcd693d0ac13a82659"), looks := false }, kinds := [], alts := [], laidByText := true, laidKinds := [.data, .listed, .data, .pinned, .pinned], laidTests := true, laidLooks := .later }
def BoundPlanHoldsCardSaid : Prop := Claim7.holds Tryz.pinned (.plain (OpenSpec.ofChange boundPlanHoldsSpec)) boundPlanHoldsCard

/-- THE TIED CARD OF 'jointerlaw20.BoundGrows'. -/
def boundGrowsCard : Claim7 := { stood := { row := boundGrowsRow, standIns := [], harness := (true, "9a6b4a9cdd17fd4b220fe12613982cb83ca4a450f7e35cdcd693d0ac13a82659"), looks := false }, kinds := [], alts := [], laidByText := true, laidKinds := [.data, .listed, .data, .pinned, .pinned], laidTests := true, laidLooks := .later }
def BoundGrowsCardSaid : Prop := Claim7.holds Tryz.pinned (.plain (OpenSpec.ofChange boundGrowsSpec)) boundGrowsCard

/-- THE SECOND FORM's CARD OF 'jointerlaw20.BoundMost'. -/
def boundMostUptoCard : Claim7 := { stood := { row := boundMostUptoRow, standIns := [], harness := (true, "9a6b4a9cdd17fd4b220fe12613982cb83ca4a450f7e35cdcd693d0ac13a82659"), looks := false }, kinds := [], alts := [], laidByText := true, laidKinds := [.data, .listed, .data, .pinned, .pinned], laidTests := true, laidLooks := .later }
def BoundMostUptoCardSaid : Prop := Claim7.holds Tryz.pinned (.plain (OpenSpec.upto boundMostSpec)) boundMostUptoCard

/-- THE SECOND FORM's CARD OF 'jointerlaw20.BoundFilter'. -/
def boundFilterUptoCard : Claim7 := { stood := { row := boundFilterUptoRow, standIns := [], harness := (true, "9a6b4a9cdd17fd4b220fe12613982cb83ca4a450f7e35cdcd693d0ac13a82659"), looks := false }, kinds := [], alts := [], laidByText := true, laidKinds := [.data, .listed, .data, .pinned, .pinned], laidTests := true, laidLooks := .later }
def BoundFilterUptoCardSaid : Prop := Claim7.holds Tryz.pinned (.plain (OpenSpec.upto boundFilterSpec)) boundFilterUptoCard

/-- THE SECOND FORM's CARD OF 'jointerlaw20.BoundJoin'. -/
def boundJoinUptoCard : Claim7 := { stood := { row := boundJoinUptoRow, standIns := [], harness := (true, "9a6b4a9cdd17fd4b220fe12613982cb83ca4a450f7e35cdcd693d0ac13a82659"), looks := false }, kinds := [], alts := [], laidByText := true, laidKinds := [.data, .listed, .data, .pinned, .pinned], laidTests := true, laidLooks := .later }
def BoundJoinUptoCardSaid : Prop := Claim7.holds Tryz.pinned (.plain (OpenSpec.upto boundJoinSpec)) boundJoinUptoCard

/-- THE SECOND FORM's CARD OF 'jointerlaw20.BoundPlan'. -/
def boundPlanUptoCard : Claim7 := { stood := { row := boundPlanUptoRow, standIns := [], harness := (true, "9a6b4a9cdd17fd4b220fe12613982cb83ca4a450f7e35cdcd693d0ac13a82659"), looks := false }, kinds := [], alts := [], laidByText := true, laidKinds := [.data, .listed, .data, .pinned, .pinned], laidTests := true, laidLooks := .later }
def BoundPlanUptoCardSaid : Prop := Claim7.holds Tryz.pinned (.plain (OpenSpec.upto boundPlanSpec)) boundPlanUptoCard

/-- THE SECOND FORM's CARD OF 'jointerlaw20.BoundMemory'. -/
def boundMemoryUptoCard : Claim7 := { stood := { row := boundMemoryUptoRow, standIns := [], harness := (true, "9a6b4a9cdd17fd4b220fe12613982cb83ca4a450f7e35cdcd693d0ac13a82659"), looks := false }, kinds := [], alts := [], laidByText := true, laidKinds := [.data, .listed, .data, .pinned, .pinned], laidTests := true, laidLooks := .later }
def BoundMemoryUptoCardSaid : Prop := Claim7.holds Tryz.pinned (.plain (OpenSpec.upto boundMemorySpec)) boundMemoryUptoCard

/-- THE SECOND FORM's CARD OF 'jointerlaw20.BoundFilterHolds'. -/
def boundFilterHoldsUptoCard : Claim7 := { stood := { row := boundFilterHoldsUptoRow, standIns := [], harness := (true, "9a6b4a9cdd17fd4b220fe12613982cb83ca4a450f7e35cdcd693d0ac13a82659"), looks := false }, kinds := [], alts := [], laidByText := true, laidKinds := [.data, .listed, .data, .pinned, .pinned], laidTests := true, laidLooks := .later }
def BoundFilterHoldsUptoCardSaid : Prop := Claim7.holds Tryz.pinned (.plain (OpenSpec.upto boundFilterHoldsSpec)) boundFilterHoldsUptoCard

/-- THE SECOND FORM's CARD OF 'jointerlaw20.BoundJoinHolds'. -/
def boundJoinHoldsUptoCard : Claim7 := { stood := { row := boundJoinHoldsUptoRow, standIns := [], harness := (true, "9a6b4a9cdd17fd4b220fe12613982cb83ca4a450f7e35cdcd693d0ac13a82659"), looks := false }, kinds := [], alts := [], laidByText := true, laidKinds := [.data, .listed, .data, .pinned, .pinned], laidTests := true, laidLooks := .later }
def BoundJoinHoldsUptoCardSaid : Prop := Claim7.holds Tryz.pinned (.plain (OpenSpec.upto boundJoinHoldsSpec)) boundJoinHoldsUptoCard

/-- THE SECOND FORM's CARD OF 'jointerlaw20.BoundPlanHolds'. -/
def boundPlanHoldsUptoCard : Claim7 := { stood := { row := boundPlanHoldsUptoRow, standIns := [], harness := (true, "9a6b4a9cdd17fd4b220fe12613982cb83ca4a450f7e35cdcd693d0ac13a82659"), looks := false }, kinds := [], alts := [], laidByText := true, laidKinds := [.data, .listed, .data, .pinned, .pinned], laidTests := true, laidLooks := .later }
def BoundPlanHoldsUptoCardSaid : Prop := Claim7.holds Tryz.pinned (.plain (OpenSpec.upto boundPlanHoldsSpec)) boundPlanHoldsUptoCard

/-- THE SECOND FORM's CARD OF 'jointerlaw20.BoundGrows'. -/
def boundGrowsUptoCard : Claim7 := { stood := { row := boundGrowsUptoRow, standIns := [], harness := (true, "9a6b4a9cdd17fd4b220fe12613982cb83ca4a450f7e35cdcd693d0ac13a82659"), looks := false }, kinds := [], alts := [], laidByText := true, laidKinds := [.data, .listed, .data, .pinned, .pinned], laidTests := true, laidLooks := .later }
def BoundGrowsUptoCardSaid : Prop := Claim7.holds Tryz.pinned (.plain (OpenSpec.upto boundGrowsSpec)) boundGrowsUptoCard
end Rows
end Go.Proofs.YtbmkfjmlepjpfaaGreatDoor
