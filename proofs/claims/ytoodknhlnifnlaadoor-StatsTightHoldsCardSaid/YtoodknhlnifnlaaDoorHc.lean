/- Plain laws: the exact description of rows. -/
import Derived.Test.YtoodknhlnifnlaaDoorHa
set_option linter.all false
set_option linter.unusedVariables false
set_option linter.unusedSimpArgs false
namespace Go.Proofs.YtoodknhlnifnlaaDoor
def exactT (ks : List Int) (rows : List (List Val)) : TS := ⟨rows.length, rows.length, colsS ks rows⟩
theorem ofS_exact {ks : List Int} {rows : List (List Val)} (h : fitRowsB ks rows = true) : ofS ks rows = exactT ks rows := by unfold ofS exactT; rw [if_pos h]
theorem colsS_get {ks : List Int} {rows : List (List Val)} {i : Nat} (h : i < (colsS ks rows).length) (h' : i < ks.length) : (colsS ks rows)[i] = colS ks[i] (colV rows i) := by simp [colsS, h']
theorem colS_bounds (k : Int) (vs : List Val) : 0 ≤ (colS k vs).nulls ∧ (colS k vs).nulls ≤ vs.length ∧ 0 ≤ (colS k vs).distinct ∧ (colS k vs).distinct ≤ vs.length ∧ 0 ≤ (colS k vs).degree ∧ (colS k vs).degree ≤ vs.length ∧ (¬ k = 1 → (colS k vs).lo = 0 ∧ (colS k vs).hi = 0) := by
  have h1 : vs.countP (fun v => decide (v.kind = 0)) ≤ vs.length := List.countP_le_length
  have h2 := firsts_len (keys vs)
  have h3 := keys_len vs
  have h4 := deg_le (keys vs)
  refine ⟨?_, ?_, ?_, ?_, ?_, ?_, fun hk => ?_⟩ <;> simp only [colS]
  · omega
  · omega
  · omega
  · omega
  · omega
  · omega
  · simp [hk]
theorem exact_fits {ks : List Int} {rows : List (List Val)} (hk : kindsB ks = true) (hn : rows.length ≤ 4611686018427387904) : fitsB ks (exactT ks rows) = true := by
  rw [fitsB_iff]
  refine ⟨hk, colsS_len ks rows, numB_iff.2 ⟨by show (0 : Int) ≤ (rows.length : Int); omega, by show (rows.length : Int) ≤ _; omega⟩, numB_iff.2 ⟨by show (0 : Int) ≤ (rows.length : Int); omega, by show (rows.length : Int) ≤ _; omega⟩, fun i h h' => ?_⟩
  have hb := colS_bounds ks[i] (colV rows i)
  rw [colV_len] at hb
  show colB ks[i] ((colsS ks rows)[i]'h') = true
  rw [colsS_get h' h, colB_iff]
  obtain ⟨b1, b2, b3, b4, b5, b6, b7⟩ := hb
  refine ⟨⟨b1, by omega⟩, ⟨b3, by omega⟩, ⟨b5, by omega⟩, ?_⟩
  by_cases h1 : ks[i] = 1
  · exact .inl h1
  · exact .inr (b7 h1)
theorem holdC_self (k : Int) (c : Col) : holdC k c c = true := by rw [holdC_iff]; omega
theorem fitRows_kinds {ks : List Int} {rows : List (List Val)} (h : fitRowsB ks rows = true) : kindsB ks = true := by
  simp only [fitRowsB, Bool.and_eq_true] at h; exact h.1
theorem exact_holds {ks : List Int} {rows : List (List Val)} (h : fitRowsB ks rows = true) (hn : rows.length ≤ 4611686018427387904) : holdsB ks (exactT ks rows) rows = true := by
  rw [holdsB_iff]
  refine ⟨exact_fits (fitRows_kinds h) hn, h, Int.le_refl _, Int.le_refl _, fun i h h' => ?_⟩
  show holdC ks[i] ((colsS ks rows)[i]'h') _ = true
  rw [colsS_get h' h]
  exact holdC_self _ _
/-- A description allows what an exact one says. -/
def lessL : List Int → List Col → List Col → Bool
  | k :: ks, x :: xs, c :: cs => holdC k c x && lessL ks xs cs
  | _, _, _ => true
def lessB (ks : List Int) (x t : TS) : Bool := decide (t.low ≤ x.low) && (decide (x.rows ≤ t.rows) && lessL ks x.cols t.cols)
theorem lessL_iff : ∀ {ks : List Int} {xs cs : List Col}, lessL ks xs cs = true ↔ ∀ (i : Nat) (h : i < ks.length) (h1 : i < xs.length) (h2 : i < cs.length), holdC ks[i] cs[i] xs[i] = true
  | [], _, _ => by simp [lessL]
  | k :: ks, [], _ => by simp [lessL]
  | k :: ks, x :: xs, [] => by simp [lessL]
  | k :: ks, x :: xs, c :: cs => by
    rw [lessL, Bool.and_eq_true, lessL_iff]
    constructor
    · rintro ⟨h0, hr⟩ i h h1 h2
      cases i with
      | zero => exact h0
      | succ i => exact hr i (by simpa using h) (by simpa using h1) (by simpa using h2)
    · intro hall
      exact ⟨hall 0 (by simp) (by simp) (by simp), fun i h h1 h2 => hall (i + 1) (by simpa using h) (by simpa using h1) (by simpa using h2)⟩
theorem holds_less {ks : List Int} {t : TS} {rows : List (List Val)} (ht : fitsB ks t = true) (h : fitRowsB ks rows = true) : holdsB ks t rows = lessB ks (exactT ks rows) t := by
  have hl := fits_len ht
  rw [Bool.eq_iff_iff, holdsB_iff]
  simp only [lessB, Bool.and_eq_true, decide_eq_true_eq, lessL_iff]
  constructor
  · rintro ⟨_, _, h3, h4, h5⟩
    refine ⟨h3, h4, fun i h h1 h2 => ?_⟩
    show holdC ks[i] t.cols[i] ((colsS ks rows)[i]'h1) = true
    rw [colsS_get h1 h]
    exact h5 i h h2
  · rintro ⟨h3, h4, h5⟩
    refine ⟨ht, h, h3, h4, fun i h h2 => ?_⟩
    have h1 : i < (colsS ks rows).length := by rw [colsS_len]; exact h
    have := h5 i h h1 h2
    rw [show (exactT ks rows).cols[i]'h1 = (colsS ks rows)[i]'h1 from rfl, colsS_get h1 h] at this
    exact this
end Go.Proofs.YtoodknhlnifnlaaDoor
