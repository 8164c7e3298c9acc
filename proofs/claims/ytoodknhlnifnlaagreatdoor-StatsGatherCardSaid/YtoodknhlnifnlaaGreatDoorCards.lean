/-
  DERIVED. GIVEN WITH THE SEED: THE CARDS: each row of YtoodknhlnifnlaaGreatDoorRows.lean that lists a variable, with what it lists TIED to the program's text (the seventh form; the later family's looks); each row that meets fmt, with fmt's text TOLD by the authors' own Lean function (tested against real Go, not proved from fmt's source: count such statements apart). THE CARD IS WHAT COUNTS. Prove the row's statement (the work); the ties are given (YtoodknhlnifnlaaGreatDoorTie.lean); close each card by the builder's one call (the guide's Derived/Test/ToyasCard.lean, 'card_holds'). Laid BY PROGRAM, IN A SANDBOX (cutbox-door.mjs). By AI agents, Wed Nov 11 2026. No macro, syntax, notation, axiom, sorry.
-/
import Derived.Test.YtoodknhlnifnlaaGreatDoorRows
import GoSem.ClaimSeven
namespace Go.Proofs.YtoodknhlnifnlaaGreatDoor
namespace Rows

/-- THE TIED CARD OF 'jointerlaw19.StatsFit'. -/
def statsFitCard : Claim7 := { stood := { row := statsFitRow, standIns := [], harness := (true, "a9467688378358a897bb7742728c247f51a61329a04ec588efb0ad2ec4afcec0"), looks := false }, kinds := [], alts := [], laidByText := true, laidKinds := [.data, .listed, .data, .pinned, .pinned], laidTests := true, laidLooks := .later }
def StatsFitCardSaid : Prop := Claim7.holds Tryz.pinned (.plain (OpenSpec.ofChange statsFitSpec)) statsFitCard

/-- THE TIED CARD OF 'jointerlaw19.StatsOf'. -/
def statsOfCard : Claim7 := { stood := { row := statsOfRow, standIns := [], harness := (true, "a9467688378358a897bb7742728c247f51a61329a04ec588efb0ad2ec4afcec0"), looks := false }, kinds := [], alts := [], laidByText := true, laidKinds := [.data, .listed, .data, .pinned, .pinned], laidTests := true, laidLooks := .later }
def StatsOfCardSaid : Prop := Claim7.holds Tryz.pinned (.plain (OpenSpec.ofChange statsOfSpec)) statsOfCard

/-- THE TIED CARD OF 'jointerlaw19.StatsNormal'. -/
def statsNormalCard : Claim7 := { stood := { row := statsNormalRow, standIns := [], harness := (true, "a9467688378358a897bb7742728c247f51a61329a04ec588efb0ad2ec4afcec0"), looks := false }, kinds := [], alts := [], laidByText := true, laidKinds := [.data, .listed, .data, .pinned, .pinned], laidTests := true, laidLooks := .later }
def StatsNormalCardSaid : Prop := Claim7.holds Tryz.pinned (.plain (OpenSpec.ofChange statsNormalSpec)) statsNormalCard

/-- THE TIED CARD OF 'jointerlaw19.StatsPairs'. -/
def statsPairsCard : Claim7 := { stood := { row := statsPairsRow, standIns := [], harness := (true, "a9467688378358a897bb7742728c247f51a61329a04ec588efb0ad2ec4afcec0"), looks := false }, kinds := [], alts := [], laidByText := true, laidKinds := [.data, .listed, .data, .pinned, .pinned], laidTests := true, laidLooks := .later }
def StatsPairsCardSaid : Prop := Claim7.holds Tryz.pinned (.plain (OpenSpec.ofChange statsPairsSpec)) statsPairsCard

/-- THE TIED CARD OF 'jointerlaw19.StatsCheck'. -/
def statsCheckCard : Claim7 := { stood := { row := statsCheckRow, standIns := [], harness := (true, "a9467688378358a897bb7742728c247f51a61329a04ec588efb0ad2ec4afcec0"), looks := false }, kinds := [], alts := [], laidByText := true, laidKinds := [.data, .listed, .data, .pinned, .pinned], laidTests := true, laidLooks := .later }
def StatsCheckCardSaid : Prop := Claim7.holds Tryz.pinned (.plain (OpenSpec.ofChange statsCheckSpec)) statsCheckCard

/-- THE TIED CARD OF 'jointerlaw19.StatsGather'. -/
def statsGatherCard : Claim7 := { stood := { row := statsGatherRow, standIns := [], harness := (true, "a9467688378358a897bb7742728c247f51a61329a04ec588efb0ad2ec4afcec0"), looks := false }, kinds := [], alts := [], laidByText := true, laidKinds := [.data, .listed, .data, .pinned, .pinned], laidTests := true, laidLooks := .later }
def StatsGatherCardSaid : Prop := Claim7.holds Tryz.pinned (.plain (OpenSpec.ofChange statsGatherSpec)) statsGatherCard

/-- THE TIED CARD OF 'jointerlaw19.StatsTight'. -/
def statsTightCard : Claim7 := { stood := { row := statsTightRow, standIns := [], harness := (true, "a9467688378358a897bb7742728c247f51a61329a04ec588efb0ad2ec4afcec0"), looks := false }, kinds := [], alts := [], laidByText := true, laidKinds := [.data, .listed, .data, .pinned, .pinned], laidTests := true, laidLooks := .later }
def StatsTightCardSaid : Prop := Claim7.holds Tryz.pinned (.plain (OpenSpec.ofChange statsTightSpec)) statsTightCard

/-- THE SECOND FORM's CARD OF 'jointerlaw19.StatsFit'. -/
def statsFitUptoCard : Claim7 := { stood := { row := statsFitUptoRow, standIns := [], harness := (true, "a9467688378358a897bb7742728c247f51a61329a04ec588efb0ad2ec4afcec0"), looks := false }, kinds := [], alts := [], laidByText := true, laidKinds := [.data, .listed, .data, .pinned, .pinned], laidTests := true, laidLooks := .later }
def StatsFitUptoCardSaid : Prop := Claim7.holds Tryz.pinned (.plain (OpenSpec.upto statsFitSpec)) statsFitUptoCard

/-- THE SECOND FORM's CARD OF 'jointerlaw19.StatsOf'. -/
def statsOfUptoCard : Claim7 := { stood := { row := statsOfUptoRow, standIns := [], harness := (true, "a9467688378358a897bb7742728c247f51a61329a04ec588efb0ad2ec4afcec0"), looks := false }, kinds := [], alts := [], laidByText := true, laidKinds := [.data, .listed, .data, .pinned, .pinned], laidTests := true, laidLooks := .later }
def StatsOfUptoCardSaid : Prop := Claim7.holds Tryz.pinned (.plain (OpenSpec.upto statsOfSpec)) statsOfUptoCard

/-- THE SECOND FORM's CARD OF 'jointerlaw19.StatsNormal'. -/
def statsNormalUptoCard : Claim7 := { stood := { row := statsNormalUptoRow, standIns := [], harness := (true, "a9467688378358a897bb7742728c247f51a61329a04ec588efb0ad2ec4afcec0"), looks := false }, kinds := [], alts := [], laidByText := true, laidKinds := [.data, .listed, .data, .pinned, .pinned], laidTests := true, laidLooks := .later }
def StatsNormalUptoCardSaid : Prop := Claim7.holds Tryz.pinned (.plain (OpenSpec.upto statsNormalSpec)) statsNormalUptoCard

/-- THE SECOND FORM's CARD OF 'jointerlaw19.StatsPairs'. -/
def statsPairsUptoCard : Claim7 := { stood := { row := statsPairsUptoRow, standIns := [], harness := (true, "a9467688378358a897bb7742728c247f51a61329a04ec588efb0ad2ec4afcec0"), looks := false }, kinds := [], alts := [], laidByText := true, laidKinds := [.data, .listed, .data, .pinned, .pinned], laidTests := true, laidLooks := .later }
def StatsPairsUptoCardSaid : Prop := Claim7.holds Tryz.pinned (.plain (OpenSpec.upto statsPairsSpec)) statsPairsUptoCard

/-- THE SECOND FORM's CARD OF 'jointerlaw19.StatsCheck'. -/
def statsCheckUptoCard : Claim7 := { stood := { row := statsCheckUptoRow, standIns := [], harness := (true, "a9467688378358a897bb7742728c247f51a61329a04ec588efb0ad2ec4afcec0"), looks := false }, kinds := [], alts := [], laidByText := true, laidKinds := [.data, .listed, .data, .pinned, .pinned], laidTests := true, laidLooks := .later }
def StatsCheckUptoCardSaid : Prop := Claim7.holds Tryz.pinned (.plain (OpenSpec.upto statsCheckSpec)) statsCheckUptoCard

/-- THE SECOND FORM's CARD OF 'jointerlaw19.StatsGather'. -/
def statsGatherUptoCard : Claim7 := { stood := { row := statsGatherUptoRow, standIns := [], harness := (true, "a9467688378358a897bb7742728c247f51a61329a04ec588efb0ad2ec4afcec0"), looks := false }, kinds := [], alts := [], laidByText := true, laidKinds := [.data, .listed, .data, .pinned, .pinned], laidTests := true, laidLooks := .later }
def StatsGatherUptoCardSaid : Prop := Claim7.holds Tryz.pinned (.plain (OpenSpec.upto statsGatherSpec)) statsGatherUptoCard

/-- THE SECOND FORM's CARD OF 'jointerlaw19.StatsTight'. -/
def statsTightUptoCard : Claim7 := { stood := { row := statsTightUptoRow, standIns := [], harness := (true, "a9467688378358a897bb7742728c247f51a61329a04ec588efb0ad2ec4afcec0"), looks := false }, kinds := [], alts := [], laidByText := true, laidKinds := [.data, .listed, .data, .pinned, .pinned], laidTests := true, laidLooks := .later }
def StatsTightUptoCardSaid : Prop := Claim7.holds Tryz.pinned (.plain (OpenSpec.upto statsTightSpec)) statsTightUptoCard
end Rows
end Go.Proofs.YtoodknhlnifnlaaGreatDoor
