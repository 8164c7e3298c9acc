/- The engine, part Gl: the package-level variables that are read, and what they hold. -/
import Derived.Tactics
import Derived.Below
set_option linter.all false
namespace Go.Proofs.YtoodknhlnifnlaaGreatDoor
open Go.RowKit

/-- strings.asciiSpace. -/
def asciiTab : List Value := (List.range 256).map fun i => .int .u8 (if i = 9 ∨ i = 10 ∨ i = 11 ∨ i = 12 ∨ i = 13 ∨ i = 32 then 1 else 0)
/-- What the package-level variables hold. -/
def GOK (w : World) : Prop := 0 < w.heap.size ∧ ∀ (i : Nat) v, asciiTab[i]? = some v → w.cell? ⟨0, i, none⟩ = some v
theorem GOK.below {w w' : World} {n : Nat} (h : GOK w) (hn : 0 < n) (hb : Below n w w') : GOK w' :=
  ⟨Nat.lt_of_lt_of_le h.1 hb.size, fun i v hi => by rw [hb.cell (p := ⟨0, i, none⟩) hn]; exact h.2 i v hi⟩
end Go.Proofs.YtoodknhlnifnlaaGreatDoor
