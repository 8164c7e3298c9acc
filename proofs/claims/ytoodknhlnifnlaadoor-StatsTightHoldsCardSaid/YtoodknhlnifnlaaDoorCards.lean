/-
  DERIVED. GIVEN WITH THE SEED: THE CARDS: each row of YtoodknhlnifnlaaDoorRows.lean that lists a variable, with what it lists TIED to the program's text (the seventh form; the later family's looks); each row that meets fmt, with fmt's text TOLD by the authors' own Lean function (tested against real Go, not proved from fmt's source: count such statements apart). THE CARD IS WHAT COUNTS. Prove the row's statement (the work); the ties are given (YtoodknhlnifnlaaDoorTie.lean); close each card by the builder's one call (the guide's Derived/Test/ToyasCard.lean, 'card_holds'). Laid BY PROGRAM, IN A SANDBOX (cutbox-door.mjs). By AI agents, Wed Nov 11 2026. No macro, syntax, notation, axiom, sorry.
-/
import Derived.Test.YtoodknhlnifnlaaDoorRows
import GoSem.ClaimSeven
namespace Go.Proofs.YtoodknhlnifnlaaDoor
namespace Rows

/-- THE TIED CARD OF 'jointerlaw19.StatsExact'. -/
def statsExactCard : Claim7 := { stood := { row := statsExactRow, standIns := [], harness := (true, "55627c9a5bf01f42cb670ef47151a7b0197d5d4202405d4db8172380dde6e3b9"), looks := false }, kinds := [], alts := [], laidByText := true, laidKinds := [.data, .listed, .data, .pinned, .pinned], laidTests := true, laidLooks := .later }
def StatsExactCardSaid : Prop := Claim7.holds Tryd.pinned (.plain (OpenSpec.ofChange statsExactSpec)) statsExactCard

/-- THE TIED CARD OF 'jointerlaw19.StatsNormalHolds'. -/
def statsNormalHoldsCard : Claim7 := { stood := { row := statsNormalHoldsRow, standIns := [], harness := (true, "55627c9a5bf01f42cb670ef47151a7b0197d5d4202405d4db8172380dde6e3b9"), looks := false }, kinds := [], alts := [], laidByText := true, laidKinds := [.data, .listed, .data, .pinned, .pinned], laidTests := true, laidLooks := .later }
def StatsNormalHoldsCardSaid : Prop := Claim7.holds Tryd.pinned (.plain (OpenSpec.ofChange statsNormalHoldsSpec)) statsNormalHoldsCard

/-- THE TIED CARD OF 'jointerlaw19.StatsPairsHold'. -/
def statsPairsHoldCard : Claim7 := { stood := { row := statsPairsHoldRow, standIns := [], harness := (true, "55627c9a5bf01f42cb670ef47151a7b0197d5d4202405d4db8172380dde6e3b9"), looks := false }, kinds := [], alts := [], laidByText := true, laidKinds := [.data, .listed, .data, .pinned, .pinned], laidTests := true, laidLooks := .later }
def StatsPairsHoldCardSaid : Prop := Claim7.holds Tryd.pinned (.plain (OpenSpec.ofChange statsPairsHoldSpec)) statsPairsHoldCard

/-- THE TIED CARD OF 'jointerlaw19.StatsTightHolds'. -/
def statsTightHoldsCard : Claim7 := { stood := { row := statsTightHoldsRow, standIns := [], harness := (true, "55627c9a5bf01f42cb670ef47151a7b0197d5d4202405d4db8172380dde6e3b9"), looks := false }, kinds := [], alts := [], laidByText := true, laidKinds := [.data, .listed, .data, .pinned, .pinned], laidTests := true, laidLooks := .later }
def StatsTightHoldsCardSaid : Prop := Claim7.holds Tryd.pinned (.plain (OpenSpec.ofChange statsTightHoldsSpec)) statsTightHoldsCard

/-- THE SECOND FORM's CARD OF 'jointerlaw19.StatsExact'. -/
def statsExactUptoCard : Claim7 := { stood := { row := statsExactUptoRow, standIns := [], harness := (true, "55627c9a5bf01f42cb670ef47151a7b0197d5d4202405d4db8172380dde6e3b9"), looks := false }, kinds := [], alts := [], laidByText := true, laidKinds := [.data, .listed, .data, .pinned, .pinned], laidTests := true, laidLooks := .later }
def StatsExactUptoCardSaid : Prop := Claim7.holds Tryd.pinned (.plain (OpenSpec.upto statsExactSpec)) statsExactUptoCard

/-- THE SECOND FORM's CARD OF 'jointerlaw19.StatsNormalHolds'. -/
def statsNormalHoldsUptoCard : Claim7 := { stood := { row := statsNormalHoldsUptoRow, standIns := [], harness := (true, "55627c9a5bf01f42cb670ef47151a7b0197d5d4202405d4db8172380dde6e3b9"), looks := false }, kinds := [], alts := [], laidByText := true, laidKinds := [.data, .listed, .data, .pinned, .pinned], laidTests := true, laidLooks := .later }
def StatsNormalHoldsUptoCardSaid : Prop := Claim7.holds Tryd.pinned (.plain (OpenSpec.upto statsNormalHoldsSpec)) statsNormalHoldsUptoCard

/-- THE SECOND FORM's CARD OF 'jointerlaw19.StatsPairsHold'. -/
def statsPairsHoldUptoCard : Claim7 := { stood := { row := statsPairsHoldUptoRow, standIns := [], harness := (true, "55627c9a5bf01f42cb670ef47151a7b0197d5d4202405d4db8172380dde6e3b9"), looks := false }, kinds := [], alts := [], laidByText := true, laidKinds := [.data, .listed, .data, .pinned, .pinned], laidTests := true, laidLooks := .later }
def StatsPairsHoldUptoCardSaid : Prop := Claim7.holds Tryd.pinned (.plain (OpenSpec.upto statsPairsHoldSpec)) statsPairsHoldUptoCard

/-- THE SECOND FORM's CARD OF 'jointerlaw19.StatsTightHolds'. -/
def statsTightHoldsUptoCard : Claim7 := { stood := { row := statsTightHoldsUptoRow, standIns := [], harness := (true, "55627c9a5bf01f42cb670ef47151a7b0197d5d4202405d4db8172380dde6e3b9"), looks := false }, kinds := [], alts := [], laidByText := true, laidKinds := [.data, .listed, .data, .pinned, .pinned], laidTests := true, laidLooks := .later }
def StatsTightHoldsUptoCardSaid : Prop := Claim7.holds Tryd.pinned (.plain (OpenSpec.upto statsTightHoldsSpec)) statsTightHoldsUptoCard
end Rows
end Go.Proofs.YtoodknhlnifnlaaDoor
