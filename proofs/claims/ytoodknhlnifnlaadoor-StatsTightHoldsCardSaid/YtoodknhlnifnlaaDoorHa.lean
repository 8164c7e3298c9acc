/- Plain laws: for which rows a description holds that is made of two. -/
import Derived.Test.YtoodknhlnifnlaaDoorDe
set_option linter.all false
set_option linter.unusedVariables false
set_option linter.unusedSimpArgs false
namespace Go.Proofs.YtoodknhlnifnlaaDoor
theorem holdL_iff {rows : List (List Val)} : ∀ {ks : List Int} {cs : List Col} {j : Nat}, holdL rows ks cs j = true ↔ ∀ (i : Nat) (h : i < ks.length) (h' : i < cs.length), holdC ks[i] cs[i] (colS ks[i] (colV rows (j + i))) = true
  | [], cs, j => by simp [holdL]
  | k :: ks, [], j => by simp [holdL]
  | k :: ks, c :: cs, j => by
    rw [holdL, Bool.and_eq_true, holdL_iff]
    constructor
    · rintro ⟨h0, hr⟩ i h h'
      cases i with
      | zero => simpa using h0
      | succ i =>
        have := hr i (by simpa using h) (by simpa using h')
        rw [show j + 1 + i = j + (i + 1) by omega] at this
        simpa using this
    · intro hall
      refine ⟨hall 0 (by simp) (by simp), fun i h h' => ?_⟩
      have := hall (i + 1) (by simpa using h) (by simpa using h')
      rw [show j + (i + 1) = j + 1 + i by omega] at this
      simpa using this
theorem colsB_iff : ∀ {ks : List Int} {cs : List Col}, colsB ks cs = true ↔ ∀ (i : Nat) (h : i < ks.length) (h' : i < cs.length), colB ks[i] cs[i] = true
  | [], cs => by simp [colsB]
  | k :: ks, [] => by simp [colsB]
  | k :: ks, c :: cs => by
    rw [colsB, Bool.and_eq_true, colsB_iff]
    constructor
    · rintro ⟨h0, hr⟩ i h h'
      cases i with
      | zero => simpa using h0
      | succ i => simpa using hr i (by simpa using h) (by simpa using h')
    · intro hall
      exact ⟨hall 0 (by simp) (by simp), fun i h h' => hall (i + 1) (by simpa using h) (by simpa using h')⟩
theorem fitsB_iff {ks : List Int} {t : TS} : fitsB ks t = true ↔ kindsB ks = true ∧ t.cols.length = ks.length ∧ numB t.low = true ∧ numB t.rows = true ∧ ∀ (i : Nat) (h : i < ks.length) (h' : i < t.cols.length), colB ks[i] t.cols[i] = true := by
  simp only [fitsB, Bool.and_eq_true, decide_eq_true_eq, colsB_iff]
theorem holdsB_iff {ks : List Int} {t : TS} {rows : List (List Val)} : holdsB ks t rows = true ↔ fitsB ks t = true ∧ fitRowsB ks rows = true ∧ t.low ≤ rows.length ∧ (rows.length : Int) ≤ t.rows ∧
    ∀ (i : Nat) (h : i < ks.length) (h' : i < t.cols.length), holdC ks[i] t.cols[i] (colS ks[i] (colV rows i)) = true := by
  simp only [holdsB, Bool.and_eq_true, decide_eq_true_eq, holdL_iff, Nat.zero_add]
theorem mixT_get {lo hi : Int → Int → Int} {a b : TS} {i : Nat} (h : i < (mixT lo hi a b).cols.length) (h1 : i < a.cols.length) (h2 : i < b.cols.length) : (mixT lo hi a b).cols[i] = mixC lo hi a.cols[i] b.cols[i] := by simp [mixT]
theorem numB_max {a b : Int} (h : numB a = true) (k : numB b = true) : numB (max a b) = true := by simp [numB] at *; omega
theorem numB_min {a b : Int} (h : numB a = true) (k : numB b = true) : numB (min a b) = true := by simp [numB] at *; omega
theorem numB_iff {n : Int} : numB n = true ↔ 0 ≤ n ∧ n ≤ 4611686018427387904 := by simp [numB]
theorem colB_iff {k : Int} {c : Col} : colB k c = true ↔ (0 ≤ c.nulls ∧ c.nulls ≤ 4611686018427387904) ∧ (0 ≤ c.distinct ∧ c.distinct ≤ 4611686018427387904) ∧ (0 ≤ c.degree ∧ c.degree ≤ 4611686018427387904) ∧ (k = 1 ∨ (c.lo = 0 ∧ c.hi = 0)) := by
  simp only [colB, Bool.and_eq_true, Bool.or_eq_true, decide_eq_true_eq, numB_iff]
theorem colB_mix {k : Int} {x y : Col} (hx : colB k x = true) (hy : colB k y = true) : colB k (mixC max min x y) = true ∧ colB k (mixC min max x y) = true := by
  rw [colB_iff] at hx hy
  obtain ⟨h1, h2, h3, h4⟩ := hx
  obtain ⟨k1, k2, k3, k4⟩ := hy
  constructor
  · rw [colB_iff]
    simp only [mixC]
    exact ⟨by omega, by omega, by omega, by omega⟩
  · rw [colB_iff]
    simp only [mixC]
    exact ⟨by omega, by omega, by omega, by omega⟩
theorem fits_mix {ks : List Int} {a b : TS} (ha : fitsB ks a = true) (hb : fitsB ks b = true) : fitsB ks (mixT max min a b) = true ∧ fitsB ks (mixT min max a b) = true := by
  rw [fitsB_iff] at ha hb
  obtain ⟨k1, a2, a3, a4, a5⟩ := ha
  obtain ⟨_, b2, b3, b4, b5⟩ := hb
  constructor
  · rw [fitsB_iff]
    refine ⟨k1, by simp only [mixT, List.length_zipWith]; omega, numB_max a3 b3, numB_min a4 b4, fun i h h' => ?_⟩
    rw [mixT_get h' (by omega) (by omega)]
    exact (colB_mix (a5 i h (by omega)) (b5 i h (by omega))).1
  · rw [fitsB_iff]
    refine ⟨k1, by simp only [mixT, List.length_zipWith]; omega, numB_min a3 b3, numB_max a4 b4, fun i h h' => ?_⟩
    rw [mixT_get h' (by omega) (by omega)]
    exact (colB_mix (a5 i h (by omega)) (b5 i h (by omega))).2
theorem holdC_iff {k : Int} {c x : Col} : holdC k c x = true ↔ x.nulls ≤ c.nulls ∧ x.distinct ≤ c.distinct ∧ x.degree ≤ c.degree ∧ (¬ k = 1 ∨ x.distinct ≤ 0 ∨ (c.lo ≤ x.lo ∧ x.hi ≤ c.hi)) := by
  simp only [holdC, Bool.and_eq_true, Bool.or_eq_true, decide_eq_true_eq, Bool.not_eq_true', decide_eq_false_iff_not]
theorem holdC_both {k : Int} {x y s : Col} : holdC k (mixC max min x y) s = true ↔ holdC k x s = true ∧ holdC k y s = true := by
  rw [holdC_iff, holdC_iff, holdC_iff]
  simp only [mixC]
  omega
theorem holdC_either {k : Int} {x y s : Col} (h : holdC k x s = true ∨ holdC k y s = true) : holdC k (mixC min max x y) s = true := by
  rw [holdC_iff, holdC_iff] at h
  rw [holdC_iff]
  simp only [mixC]
  omega
theorem holds_both {ks : List Int} {a b : TS} {rows : List (List Val)} (ha : fitsB ks a = true) (hb : fitsB ks b = true) : holdsB ks (mixT max min a b) rows = (holdsB ks a rows && holdsB ks b rows) := by
  have hla := fits_len ha
  have hlb := fits_len hb
  have hlm := fits_len (fits_mix ha hb).1
  rw [Bool.eq_iff_iff, Bool.and_eq_true, holdsB_iff, holdsB_iff, holdsB_iff]
  constructor
  · rintro ⟨_, h2, h3, h4, h5⟩
    have e3 : max a.low b.low ≤ rows.length := h3
    have e4 : (rows.length : Int) ≤ min a.rows b.rows := h4
    have h6 : ∀ (i : Nat) (h : i < ks.length), holdC ks[i] (a.cols[i]'(by omega)) (colS ks[i] (colV rows i)) = true ∧ holdC ks[i] (b.cols[i]'(by omega)) (colS ks[i] (colV rows i)) = true := by
      intro i h
      have := h5 i h (by omega)
      rw [mixT_get (by omega) (by omega) (by omega), holdC_both] at this
      exact this
    exact ⟨⟨ha, h2, by omega, by omega, fun i h _ => (h6 i h).1⟩, ⟨hb, h2, by omega, by omega, fun i h _ => (h6 i h).2⟩⟩
  · rintro ⟨⟨_, h2, h3, h4, h5⟩, ⟨_, _, k3, k4, k5⟩⟩
    refine ⟨(fits_mix ha hb).1, h2, by show max a.low b.low ≤ _; omega, by show _ ≤ min a.rows b.rows; omega, fun i h h' => ?_⟩
    rw [mixT_get h' (by omega) (by omega), holdC_both]
    exact ⟨h5 i h (by omega), k5 i h (by omega)⟩
theorem holds_either {ks : List Int} {a b : TS} {rows : List (List Val)} (ha : fitsB ks a = true) (hb : fitsB ks b = true) (h : holdsB ks a rows = true ∨ holdsB ks b rows = true) : holdsB ks (mixT min max a b) rows = true := by
  have hla := fits_len ha
  have hlb := fits_len hb
  have hlm := fits_len (fits_mix ha hb).2
  rw [holdsB_iff, holdsB_iff] at h
  rw [holdsB_iff]
  have h2 : fitRowsB ks rows = true := by rcases h with h | h <;> exact h.2.1
  refine ⟨(fits_mix ha hb).2, h2, ?_, ?_, fun i h' h'' => ?_⟩
  · show min a.low b.low ≤ _
    rcases h with h | h <;> (have := h.2.2.1; omega)
  · show _ ≤ max a.rows b.rows
    rcases h with h | h <;> (have := h.2.2.2.1; omega)
  · rw [mixT_get h'' (by omega) (by omega)]
    apply holdC_either
    rcases h with h | h
    · exact .inl (h.2.2.2.2 i h' (by omega))
    · exact .inr (h.2.2.2.2 i h' (by omega))
end Go.Proofs.YtoodknhlnifnlaaDoor
