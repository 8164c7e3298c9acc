/- slices.Clone of an empty slice, nil or not. -/
import Derived.WalkKit
import Derived.WalkSpells
import Derived.WalkLawsBesides
import Derived.Maps.AppendAt
import Derived.Below
import Derived.Test.YtoodknhlnifnlaaGreatDoorProg
set_option linter.all false
set_option linter.unusedVariables false
set_option linter.unusedSimpArgs false
namespace Go.Proofs.YtoodknhlnifnlaaGreatDoor
open Go.RowKit
set_option maxHeartbeats 1000000 in
theorem clone_nil (c : Nat) (w : World) : Calls Tryz.prog 74 #[.slice none 0 c] w fun e w' => (∃ b, e = .returned (.slice b 0 0)) ∧ Below w.heap.size w w' := by
  have h1 := fun w a n c n' c' => Lib.run_eql_slice_nil (P := Tryz.prog) w 23 61 a n c n' c' Tryz.underlying23
  go_enter Tryz.func74, Tryz.ntmps74
  go_wp2
  go_ret
  exact ⟨⟨_, rfl⟩, Below.refl _ _⟩
set_option maxHeartbeats 1000000 in
theorem clone_empty (a : Addr) (c : Nat) (w : World) : Calls Tryz.prog 74 #[.slice (some a) 0 c] w fun e w' => (∃ b, e = .returned (.slice b 0 0)) ∧ Below w.heap.size w w' := by
  have h1 := fun w a n c n' c' => Lib.run_eql_slice_nil (P := Tryz.prog) w 23 61 a n c n' c' Tryz.underlying23
  go_enter Tryz.func74, Tryz.ntmps74
  go_wp2
  go_ret
  exact ⟨⟨_, rfl⟩, (Below.refl _ _).alloc (Nat.le_refl _) _⟩
end Go.Proofs.YtoodknhlnifnlaaGreatDoor
