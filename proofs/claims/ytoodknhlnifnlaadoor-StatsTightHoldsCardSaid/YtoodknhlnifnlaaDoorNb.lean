/- Normalising once, all columns: the reference. -/
import Derived.Test.YtoodknhlnifnlaaDoorNa
set_option linter.all false
set_option linter.unusedVariables false
set_option linter.unusedSimpArgs false
set_option maxRecDepth 100000
namespace Go.Proofs.YtoodknhlnifnlaaDoor
open Go.RowKit
def onceC (ks : List Int) (t : TS) : List Col := List.zipWith (fun k c => ncol k c t.rows) ks t.cols
def rowsF (r : Int) (l : List Col) : Int := l.foldl (fun r c => min r (valC c)) r
def onceT (ks : List Int) (t : TS) : TS := ⟨t.low, rowsF t.rows (onceC ks t), onceC ks t⟩
noncomputable def chB (t u : TS) : Bool := @decide (t ≠ u) (Classical.propDecidable _)
theorem chB_false {t u : TS} : chB t u = false ↔ t = u := by unfold chB; simp
theorem rowsF_snoc (r : Int) (l : List Col) (c : Col) : rowsF r (l ++ [c]) = min (rowsF r l) (valC c) := by simp [rowsF]
theorem zip_take {α β γ : Type} (f : α → β → γ) {l : List α} {m : List β} {i : Nat} (h : i < l.length) (h' : i < m.length) : (List.zipWith f l m).take (i + 1) = (List.zipWith f l m).take i ++ [f l[i] m[i]] := by
  rw [List.take_add_one]; simp [List.getElem?_zipWith, h, h']
theorem col_cmp (a b : Col) : ∃ q, (!decide (a.nulls = b.nulls) || (!decide (a.distinct = b.distinct) || (!decide (a.degree = b.degree) || (!decide (a.lo = b.lo) || !decide (a.hi = b.hi))))) = q ∧ Hd (q = false ↔ a = b) := by
  refine ⟨_, rfl, ⟨?_⟩⟩
  cases a; cases b
  simp
theorem ts_eq {l r : Int} {C : List Col} {t : TS} (hl : l = t.low) : (TS.mk l r C = t) ↔ (C = t.cols ∧ r = t.rows) := by
  cases t; subst hl; simp; exact ⟨fun h => ⟨h.2, h.1⟩, fun h => ⟨h.2, h.1⟩⟩
theorem bool_or {B b q : Bool} (h : B = false ↔ (b = false ∧ q = false)) : B = (b || q) := by
  cases b <;> cases q <;> cases B <;> simp at h <;> rfl
end Go.Proofs.YtoodknhlnifnlaaDoor
