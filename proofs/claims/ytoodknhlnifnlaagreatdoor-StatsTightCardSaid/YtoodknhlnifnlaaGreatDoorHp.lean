/- What it takes to fit. -/
import Derived.Test.YtoodknhlnifnlaaGreatDoorCb
set_option linter.all false
set_option linter.unusedVariables false
set_option linter.unusedSimpArgs false
set_option maxRecDepth 100000
namespace Go.Proofs.YtoodknhlnifnlaaGreatDoor
open Go.RowKit
theorem colsB_iff : ∀ {ks : List Int} {cs : List Col}, colsB ks cs = true ↔ ∀ (i : Nat) (h : i < ks.length) (h' : i < cs.length), colB ks[i] cs[i] = true
  | [], cs => by simp [colsB]
  | k :: ks, [] => by simp [colsB]
  | k :: ks, c :: cs => by
    rw [colsB, Bool.and_eq_true, colsB_iff]
    constructor
    · rintro ⟨h0, hr⟩ i h h'
      cases i with
      | zero => simpa using h0
      | succ i => simpa using hr i (by simpa using h) (by simpa using h')
    · intro hall
      exact ⟨hall 0 (by simp) (by simp), fun i h h' => hall (i + 1) (by simpa using h) (by simpa using h')⟩
theorem fitsB_iff {ks : List Int} {t : TS} : fitsB ks t = true ↔ kindsB ks = true ∧ t.cols.length = ks.length ∧ numB t.low = true ∧ numB t.rows = true ∧ ∀ (i : Nat) (h : i < ks.length) (h' : i < t.cols.length), colB ks[i] t.cols[i] = true := by
  simp only [fitsB, Bool.and_eq_true, decide_eq_true_eq, colsB_iff]
theorem numB_iff {n : Int} : numB n = true ↔ 0 ≤ n ∧ n ≤ 4611686018427387904 := by simp [numB]
theorem colB_iff {k : Int} {c : Col} : colB k c = true ↔ (0 ≤ c.nulls ∧ c.nulls ≤ 4611686018427387904) ∧ (0 ≤ c.distinct ∧ c.distinct ≤ 4611686018427387904) ∧ (0 ≤ c.degree ∧ c.degree ≤ 4611686018427387904) ∧ (k = 1 ∨ (c.lo = 0 ∧ c.hi = 0)) := by
  simp only [colB, Bool.and_eq_true, Bool.or_eq_true, decide_eq_true_eq, numB_iff]
end Go.Proofs.YtoodknhlnifnlaaGreatDoor
