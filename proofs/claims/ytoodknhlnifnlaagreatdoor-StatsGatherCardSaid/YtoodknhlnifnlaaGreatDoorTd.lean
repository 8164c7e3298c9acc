/- The arguments' types: data. -/
import Derived.Test.YtoodknhlnifnlaaGreatDoorTc
import Derived.Test.YtoodknhlnifnlaaGreatDoorVd
set_option linter.all false
set_option linter.unusedVariables false
set_option linter.unusedSimpArgs false
set_option maxRecDepth 100000
namespace Go.Proofs.YtoodknhlnifnlaaGreatDoor
open Go.RowKit
abbrev tdData : TD := .sl 24 tdRows
theorem is_data {U : Nat} {x : X} (h : IsTD U tdData x) : ∃ d : List (List (List Val)), x = .sl false (d.map dataX) ∧ LenOk U 24 d.length ∧ dataSmall d := by
  obtain ⟨l, r, o, c⟩ := is_list (p := fun rows => rowsOk rows) (fun y hy => by
    obtain ⟨rows, r, h1, h2⟩ := is_rows hy
    exact ⟨rows, r, rows_ok h1 h2⟩) h
  exact ⟨l, r, o, o.2.2, c⟩
end Go.Proofs.YtoodknhlnifnlaaGreatDoor
