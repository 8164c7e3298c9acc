/- A result whose descriptions have names of their own. -/
import Derived.Test.YtoodknhlnifnlaaGreatDoorDz
set_option linter.all false
set_option linter.unusedVariables false
set_option linter.unusedSimpArgs false
set_option maxRecDepth 100000
namespace Go.Proofs.YtoodknhlnifnlaaGreatDoor
open Go.RowKit
/-- Descriptions in a row, each with a slice under a name of its own. -/
structure Nest (w : Sto) (Z : List TS) (xs : List X) : Prop where
  len : xs.length = Z.length
  get : ∀ (j : Nat) (h : j < Z.length) (h' : j < xs.length), ∃ y, xs[j] = .agg [i6 Z[j].low, i6 Z[j].rows, y] ∧ SlAt w (3000000 + j) (3000000 + j + 1) 5 y (Z[j].cols.map Col.enc)
theorem Nest.nil (w : Sto) : Nest w [] [] := ⟨rfl, fun j h => by simp at h⟩
theorem SlAt.keep {s s' : Sto} {lo hi k : Nat} {x : X} {es : List X} (h : SlAt s lo hi k x es) (hf : ∀ o, lo ≤ o → o < hi → s' o = s o) : SlAt s' lo hi k x es := by
  rcases h with ⟨rfl, rfl⟩ | ⟨h0, o, g, n, rfl, h, h1, h2⟩
  · exact .inl ⟨rfl, rfl⟩
  · exact .inr ⟨h0, o, g, n, rfl, by rw [hf o h1 h2]; exact h, h1, h2⟩
theorem Nest.add {w w' : Sto} {Z : List TS} {xs : List X} (h : Nest w Z xs) (hf : ∀ j, j < Z.length → w' (3000000 + j) = w (3000000 + j)) {z : TS} {y : X} (hy : SlAt w' (3000000 + Z.length) (3000000 + Z.length + 1) 5 y (z.cols.map Col.enc)) :
    Nest w' (Z ++ [z]) (xs ++ [.agg [i6 z.low, i6 z.rows, y]]) := by
  refine ⟨by simp [h.len], fun j h1 h2 => ?_⟩
  by_cases hj : j < Z.length
  · obtain ⟨y', e1, e2⟩ := h.get j hj (by rw [h.len]; exact hj)
    rw [List.getElem_append_left (by rw [h.len]; exact hj), List.getElem_append_left hj]
    refine ⟨y', e1, e2.keep (fun o h3 h4 => ?_)⟩
    obtain rfl : o = 3000000 + j := by omega
    exact hf j hj
  · have hjl : j = Z.length := by simp at h1; omega
    subst hjl
    refine ⟨y, ?_, ?_⟩
    · rw [List.getElem_append_right (by rw [h.len]; omega)]; simp [h.len]
    · simpa using hy
theorem mv_nil {s : Sto} {lo hi d : Nat} {a b : Int} {x : X} {es : List X} (h : SlAt s lo hi 5 x es) (hd : d < lo ∨ hi ≤ d) :
    ∃ y s', renL s d [i6 a, i6 b, x] = some ([i6 a, i6 b, y], s') ∧ SlAt s' d (d + 1) 5 y es ∧ (∀ q, (q < lo ∨ hi ≤ q) → ¬ q = d → s' q = s q) ∧ y.one = true := by
  rcases h with ⟨rfl, rfl⟩ | ⟨h0, o, g, n, rfl, h, h1, h2⟩
  · exact ⟨.nil, s, by simp [deepL], .inl ⟨rfl, rfl⟩, fun _ _ _ => rfl, rfl⟩
  · have hod : ¬ o = d := by omega
    refine ⟨.ref d ((s d).g + 1) 5 0 es.length, mvO s o d (.row 5 es), by simp [h, hod, deepL], .inr ⟨h0, d, (s d).g + 1, (s d).n + 1, rfl, ?_, by omega, by omega⟩, ?_, rfl⟩
    · rw [mvO_app, if_neg (Ne.symm hod), if_pos rfl]
    · intro q h3 h4
      rw [mvO_app, if_neg (by omega), if_neg h4]
theorem SlAt.isRef {s : Sto} {lo hi k : Nat} {x : X} {es : List X} (h : SlAt s lo hi k x es) : x.isRef = true := by
  rcases h with ⟨_, rfl⟩ | ⟨_, o, g, n, rfl, _⟩ <;> rfl
/-- A result whose descriptions have names of their own. -/
def NestX (q : Nat) (w : Sto) (x : X) (Z : List TS) : Prop := (Z = [] ∧ x = .nil) ∨ (Z ≠ [] ∧ ∃ g xs n, x = .ref q g 3 0 Z.length ∧ w q = ⟨g, true, some (.row 3 xs), n⟩ ∧ Nest w Z xs)
theorem dpE_nest {w : Sto} : ∀ {xs : List X} {Z : List TS}, xs.length = Z.length → (∀ (j : Nat) (h : j < Z.length) (h' : j < xs.length), ∃ y, xs[j] = .agg [i6 Z[j].low, i6 Z[j].rows, y] ∧ dpn w y = some (.sl true (Z[j].cols.map Col.enc))) →
    dpE w xs = some (Z.map (TS.enc true))
  | [], [], _, _ => rfl
  | [], z :: Z, hl, _ => by simp at hl
  | x :: xs, [], hl, _ => by simp at hl
  | x :: xs, z :: Z, hl, h => by
    obtain ⟨y, hy, hd⟩ := h 0 (by simp) (by simp)
    have ih := dpE_nest (w := w) (xs := xs) (Z := Z) (by simpa using hl) (fun j h1 h2 => h (j + 1) (Nat.succ_lt_succ h1) (Nat.succ_lt_succ h2))
    simp only [List.getElem_cons_zero] at hy hd
    subst hy
    have d1 : ∀ n, dpn w (i6 n) = some (i6 n) := fun _ => rfl
    simp only [dpE, dpL, d1, hd, ih, List.map_cons]
theorem NestX.dp {q : Nat} {w : Sto} {x : X} {Z : List TS} (h : NestX q w x Z) : dpGm w x = some (.sl true (Z.map (TS.enc true))) := by
  rcases h with ⟨rfl, rfl⟩ | ⟨h0, g, xs, n, rfl, hw, hn⟩
  · rfl
  · have := dpE_nest (w := w) hn.len (fun j h1 h2 => by
      obtain ⟨y, e1, e2⟩ := hn.get j h1 h2
      exact ⟨y, e1, e2.dpn (deepL_map (by simp) _)⟩)
    rw [dpGm_ref, hw]
    simp [hn.len, this]
    have ht : xs.take Z.length = xs := List.take_of_length_le (by rw [hn.len]; omega)
    rw [ht, this]; rfl
end Go.Proofs.YtoodknhlnifnlaaGreatDoor
