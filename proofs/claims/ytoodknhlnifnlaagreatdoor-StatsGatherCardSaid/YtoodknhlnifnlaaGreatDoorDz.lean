/- Where a call leaves the variables alone; slices of a call's own. -/
import Derived.Test.YtoodknhlnifnlaaGreatDoorCs
set_option linter.all false
set_option linter.unusedVariables false
set_option linter.unusedSimpArgs false
set_option maxRecDepth 100000
namespace Go.Proofs.YtoodknhlnifnlaaGreatDoor
open Go.RowKit
structure Fr (lo hi : Nat) (s s' : Sto) : Prop where
  out : ∀ o, (o < lo ∨ hi ≤ o) → s' o = s o
theorem Fr.refl (lo hi : Nat) (s : Sto) : Fr lo hi s s := ⟨fun _ _ => rfl⟩
theorem Fr.trans {lo hi : Nat} {a b c : Sto} (h : Fr lo hi a b) (k : Fr lo hi b c) : Fr lo hi a c := ⟨fun o ho => (k.out o ho).trans (h.out o ho)⟩
theorem Fr.newO {lo hi : Nat} {s s' : Sto} (h : Fr lo hi s s') {o : Nat} (b : Ob) (ho : lo ≤ o ∧ o < hi) : Fr lo hi s (newO s' o b) :=
  ⟨fun q hq => by rw [newO_app, if_neg (by omega)]; exact h.out q hq⟩
theorem Fr.setO {lo hi : Nat} {s s' : Sto} (h : Fr lo hi s s') {o : Nat} (b : Ob) (ho : lo ≤ o ∧ o < hi) : Fr lo hi s (setO s' o b) :=
  ⟨fun q hq => by rw [setO_app, if_neg (by omega)]; exact h.out q hq⟩
/-- A slice of this call's own. -/
def SlAt (s : Sto) (lo hi k : Nat) (x : X) (es : List X) : Prop := (es = [] ∧ x = .nil) ∨ (es ≠ [] ∧ ∃ o g n, x = .ref o g k 0 es.length ∧ s o = ⟨g, true, some (.row k es), n⟩ ∧ lo ≤ o ∧ o < hi)
theorem SlAt.one {s : Sto} {lo hi k : Nat} {x : X} {es : List X} (h : SlAt s lo hi k x es) : x.one = true ∧ x.cells = [x] := by
  rcases h with ⟨_, rfl⟩ | ⟨_, o, g, n, rfl, _⟩ <;> exact ⟨rfl, rfl⟩
theorem SlAt.dpn {s : Sto} {lo hi k : Nat} {x : X} {es : List X} (h : SlAt s lo hi k x es) (hd : deepL es = true) : dpn s x = some (.sl true es) := by
  rcases h with ⟨rfl, rfl⟩ | ⟨_, o, g, n, rfl, h, _⟩
  · rfl
  · rw [dpn_ref, h]; simp [hd]
theorem SlAt.fr {s s' : Sto} {lo hi lo' hi' k : Nat} {x : X} {es : List X} (h : SlAt s lo hi k x es) (hf : Fr lo' hi' s s') (hd : hi ≤ lo' ∨ hi' ≤ lo) : SlAt s' lo hi k x es := by
  rcases h with ⟨rfl, rfl⟩ | ⟨h0, o, g, n, rfl, h, h1, h2⟩
  · exact .inl ⟨rfl, rfl⟩
  · exact .inr ⟨h0, o, g, n, rfl, by rw [hf.out o (by omega)]; exact h, h1, h2⟩
theorem wpR_ex1 {oc : Option (X × Sto)} {P : X × Sto → Prop} {d : Option Nat} {l : List GOp} {its : List It} {e : Env} {Q : Env → Sto → Prop} (h : ∃ r, oc = some r ∧ P r)
    (k : ∀ r, P r → wpR T (some r) d l its e Q) : wpR T oc d l its e Q := by
  obtain ⟨r, rfl, hr⟩ := h
  exact k r hr
end Go.Proofs.YtoodknhlnifnlaaGreatDoor
