/- Plain law (begun): how many different integers lie between two. -/
import Derived.Test.YtoodknhlnifnlaaDoorHc
set_option linter.all false
set_option linter.unusedVariables false
set_option linter.unusedSimpArgs false
namespace Go.Proofs.YtoodknhlnifnlaaDoor
theorem pigeon : ∀ (n : Nat) (lo : Int) (l : List Int), l.Nodup → (∀ x ∈ l, lo ≤ x ∧ x < lo + n) → l.length ≤ n
  | 0, lo, l, _, h => by
    cases l with
    | nil => simp
    | cons x l => have := h x (by simp); omega
  | n + 1, lo, l, hn, h => by
    by_cases hm : lo + n ∈ l
    · have h1 := pigeon n lo (l.erase (lo + n)) (hn.erase _) (fun x hx => by
        have hx' := (hn.mem_erase_iff).1 hx
        have := h x hx'.2
        have := hx'.1
        omega)
      rw [List.length_erase_of_mem hm] at h1
      omega
    · have h1 := pigeon n lo l hn (fun x hx => by
        have := h x hx
        have : ¬ x = lo + n := fun e => hm (e ▸ hx)
        omega)
      omega
theorem cover_len {α : Type} [BEq α] [LawfulBEq α] (d : Nat) : ∀ (fs l : List α), (∀ x ∈ l, x ∈ fs) → (∀ k, l.count k ≤ d) → l.length ≤ fs.length * d
  | [], l, h, _ => by
    cases l with
    | nil => simp
    | cons x l => exact absurd (h x (by simp)) (by simp)
  | f :: fs, l, h, k => by
    have h1 := cover_len d fs (l.filter fun x => !(x == f)) (fun x hx => by
      have hx' := List.mem_filter.1 hx
      rcases List.mem_cons.1 (h x hx'.1) with rfl | hm
      · simp at hx'
      · exact hm) (fun y => Nat.le_trans (List.Sublist.count_le _ List.filter_sublist) (k y))
    have h2 : l.length = l.count f + (l.filter fun x => !(x == f)).length := by
      clear h1 h k
      induction l with
      | nil => simp
      | cons x l ih =>
        by_cases hx : x == f
        · simp [List.count_cons, hx]; omega
        · simp [List.count_cons, hx]; omega
    have h3 := k f
    rw [List.length_cons, Nat.succ_mul]
    omega
theorem keys_nulls (vs : List Val) : vs.length = vs.countP (fun v => decide (v.kind = 0)) + (keys vs).length := by
  have h : (keys vs).length = vs.countP (fun v => !decide (v.kind = 0)) := by simp [keys, nz, List.countP_eq_length_filter]
  rw [h]
  induction vs with
  | nil => simp
  | cons v vs ih =>
    have ih' := ih (by simp [keys, nz, List.countP_eq_length_filter])
    by_cases hk : v.kind = 0
    · simp [List.countP_cons, hk] at *; omega
    · simp [List.countP_cons, hk] at *; omega
theorem rows_le (k : Int) (vs : List Val) : (vs.length : Int) ≤ (colS k vs).nulls + (colS k vs).distinct * (colS k vs).degree := by
  have h1 := keys_nulls vs
  have h2 := cover_len (deg (keys vs)) (firsts (keys vs)) (keys vs) (fun x hx => (mem_firsts _ _).2 hx) (fun y => by
    by_cases hy : y ∈ keys vs
    · exact (maxL_le.1 (Nat.le_refl (deg (keys vs)))) _ (List.mem_map.2 ⟨y, hy, rfl⟩)
    · rw [List.count_eq_zero_of_not_mem hy]; exact Nat.zero_le _)
  show (vs.length : Int) ≤ ((vs.countP fun v => decide (v.kind = 0) : Nat) : Int) + ((firsts (keys vs)).length : Int) * (deg (keys vs) : Int)
  rw [← Int.natCast_mul]
  omega
theorem zero_iff (k : Int) (vs : List Val) : ((colS k vs).distinct = 0 ↔ keys vs = []) ∧ ((colS k vs).degree = 0 ↔ keys vs = []) := by
  constructor
  · show (((firsts (keys vs)).length : Nat) : Int) = 0 ↔ _
    constructor
    · intro h
      have h0 : firsts (keys vs) = [] := List.eq_nil_of_length_eq_zero (by omega)
      cases hk : keys vs with
      | nil => rfl
      | cons x l =>
        have : x ∈ firsts (keys vs) := (mem_firsts _ _).2 (by rw [hk]; simp)
        rw [h0] at this; simp at this
    · intro h; rw [h]; rfl
  · show ((deg (keys vs) : Nat) : Int) = 0 ↔ _
    constructor
    · intro h
      cases hk : keys vs with
      | nil => rfl
      | cons x l =>
        have h1 := (maxL_le.1 (Nat.le_refl (deg (keys vs)))) _ (List.mem_map.2 ⟨x, by rw [hk]; simp, rfl⟩)
        have h2 : 0 < (keys vs).count x := List.count_pos_iff.2 (by rw [hk]; simp)
        omega
    · intro h; rw [h]; rfl
end Go.Proofs.YtoodknhlnifnlaaDoor
