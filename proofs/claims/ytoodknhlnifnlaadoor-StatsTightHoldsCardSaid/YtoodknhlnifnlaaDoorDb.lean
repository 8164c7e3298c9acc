/- The contract of spoil: what it writes is in the description that it is handed, or its own. -/
import Derived.Test.YtoodknhlnifnlaaDoorDa
set_option linter.all false
set_option linter.unusedVariables false
set_option linter.unusedSimpArgs false
set_option maxRecDepth 100000
namespace Go.Proofs.YtoodknhlnifnlaaDoor
open Go.RowKit
/-- Variables with names outside two regions are as they were. -/
def Fr2 (lo hi lo' hi' : Nat) (s s' : Sto) : Prop := ∀ o, (o < lo ∨ hi ≤ o) → (o < lo' ∨ hi' ≤ o) → s' o = s o
theorem Fr2.newO {lo hi lo' hi' : Nat} {s s' : Sto} (h : Fr2 lo hi lo' hi' s s') {o : Nat} (b : Ob) (ho : (lo ≤ o ∧ o < hi) ∨ (lo' ≤ o ∧ o < hi')) : Fr2 lo hi lo' hi' s (newO s' o b) :=
  fun q h1 h2 => by rw [newO_app, if_neg (by omega)]; exact h q h1 h2
theorem Fr2.setO {lo hi lo' hi' : Nat} {s s' : Sto} (h : Fr2 lo hi lo' hi' s s') {o : Nat} (b : Ob) (ho : (lo ≤ o ∧ o < hi) ∨ (lo' ≤ o ∧ o < hi')) : Fr2 lo hi lo' hi' s (setO s' o b) :=
  fun q h1 h2 => by rw [setO_app, if_neg (by omega)]; exact h q h1 h2
theorem wrap0 : IntKind.i64.wrap 0 = 0 := by decide
end Go.Proofs.YtoodknhlnifnlaaDoor
