/- Contracts: copies, equality of descriptions. -/
import Derived.Test.YtoodknhlnifnlaaGreatDoorCb
set_option linter.all false
set_option linter.unusedVariables false
set_option linter.unusedSimpArgs false
set_option maxRecDepth 100000
namespace Go.Proofs.YtoodknhlnifnlaaGreatDoor
open Go.RowKit
theorem fits_len {ks : List Int} {t : TS} (h : fitsB ks t = true) : t.cols.length = ks.length := by
  simp only [fitsB, Bool.and_eq_true, decide_eq_true_eq] at h; exact h.2.1
theorem okE_col (l : List Col) : okE 5 (l.map Col.enc) = true := by simp [okE]
def Col.same (a b : Col) : Bool := decide (a.nulls = b.nulls) && (decide (a.distinct = b.distinct) && (decide (a.degree = b.degree) && (decide (a.lo = b.lo) && decide (a.hi = b.hi))))
def sameL : List Col → List Col → Bool
  | a :: l, b :: m => a.same b && sameL l m
  | _, _ => true
def TS.same (a b : TS) : Bool := decide (a.low = b.low) && (decide (a.rows = b.rows) && (decide (a.cols.length = b.cols.length) && sameL a.cols b.cols))
theorem sameL_drop {l m : List Col} {i : Nat} (h : i < l.length) (h' : i < m.length) : sameL (l.drop i) (m.drop i) = (l[i].same m[i] && sameL (l.drop (i + 1)) (m.drop (i + 1))) := by
  rw [List.drop_eq_getElem_cons h, List.drop_eq_getElem_cons h', sameL]
theorem sameL_end {l m : List Col} {i : Nat} (h : l.length ≤ i) : sameL (l.drop i) (m.drop i) = true := by
  rw [List.drop_eq_nil_of_le h, sameL]; simp
theorem Col.same_refl (a : Col) : a.same a = true := by simp [Col.same]
theorem sameL_refl : ∀ l : List Col, sameL l l = true
  | [] => rfl
  | a :: l => by simp [sameL, Col.same_refl, sameL_refl l]
theorem TS.same_refl (a : TS) : a.same a = true := by simp [TS.same, sameL_refl]
theorem c_jointerlaw19_Same (a b : TS) (hl : a.cols.length ≤ 9223372036854775807) : call T n_jointerlaw19_Same [a.enc false, b.enc false] = some (.v (.bool (a.same b))) := by
  refine go_jointerlaw19_Same (by simp) ?_
  generalize hR : a.same b = R; replace hR := Hd.mk hR
  simp
  refine wpG_split (fun a1 => ?_) (fun a1 => ?_) <;> (have a1' := a1; try simp at a1') <;> (try simp [*])
  · rw [← hR.out]; simp [TS.same, a1']
  refine wpG_split (fun a2 => ?_) (fun a2 => ?_) <;> (have a2' := a2; try simp at a2') <;> (try simp [*])
  · rw [← hR.out]; simp [TS.same, a2']
  refine wpC_split (fun a3 => ?_) (fun a3 => ?_) <;> (have a3' := a3; try simp at a3') <;> (try simp [*])
  · rw [← hR.out]; simp [TS.same, a3']
  replace hR : Hd (R = sameL (a.cols.drop 0) (b.cols.drop 0)) := ⟨by rw [← hR.out]; simp [TS.same, a1', a2', a3']⟩
  refine wp_rounds (σ := Nat) (fun i e s => e 2 = .ptr 2 1 0 ∧ e 3 = .ptr 3 1 0 ∧ e 5 = i6 i ∧ (∃ n, s 2 = ⟨1, true, some (.box (a.enc false)), n⟩) ∧ (∃ n, s 3 = ⟨1, true, some (.box (b.enc false)), n⟩) ∧ i ≤ a.cols.length ∧ Hd (R = sameL (a.cols.drop i) (b.cols.drop i))) (fun i => a.cols.length - i) ?_ 0 _ _ ⟨rfl, rfl, rfl, ⟨_, rfl⟩, ⟨_, rfl⟩, by omega, hR⟩
  clear hR
  rintro i e s ⟨e2, e3, e5, ⟨n2, s2⟩, ⟨n3, s3⟩, hi, hA⟩ ih
  simp [e2, e3, e5, s2, s3]
  refine wpC_split (fun h => ?_) (fun h => ?_) <;> (have h' := h; try simp at h') <;> (try simp [*])
  · have hic : i < b.cols.length := by omega
    replace hA := Hd.mk (hA.out.trans (sameL_drop h' hic))
    have hia : i < a.cols.length := by omega
    have ga : a.cols[i]? = some a.cols[i] := List.getElem?_eq_getElem hia
    have gb : b.cols[i]? = some b.cols[i] := List.getElem?_eq_getElem hic
    simp [hic, ga, gb, e2, e3, e5, s2, s3]
    refine wpC_split (fun g => ?_) (fun g => ?_) <;> (have g' := g; try simp at g') <;> (try simp [*])
    · rw [hA.out]
      have : a.cols[i].same b.cols[i] = false := by
        rw [← Bool.not_eq_true]; simp only [Col.same, Bool.and_eq_true, decide_eq_true_eq]; omega
      simp [this]
    · refine ih.out (i + 1) _ _ ?_ (by omega)
      exact ⟨by simp [e2], by simp [e3], by simp [e5, wrap_succ hia hl], ⟨n2, by simp [s2]⟩, ⟨n3, by simp [s3]⟩, hia, ⟨by rw [hA.out]; simp [Col.same, g']⟩⟩
  · rw [hA.out]; exact sameL_end (by omega)
end Go.Proofs.YtoodknhlnifnlaaGreatDoor
