/- Contracts: Holds, copies, equality. -/
import Derived.Test.YtoodknhlnifnlaaGreatDoorCc
import Derived.Test.YtoodknhlnifnlaaGreatDoorCs
set_option linter.all false
set_option linter.unusedVariables false
set_option linter.unusedSimpArgs false
set_option maxRecDepth 100000
namespace Go.Proofs.YtoodknhlnifnlaaGreatDoor
open Go.RowKit
def holdC (k : Int) (c x : Col) : Bool := decide (x.nulls ≤ c.nulls) && (decide (x.distinct ≤ c.distinct) && (decide (x.degree ≤ c.degree) && (!decide (k = 1) || (decide (x.distinct ≤ 0) || (decide (c.lo ≤ x.lo) && decide (x.hi ≤ c.hi))))))
def holdL (rows : List (List Val)) : List Int → List Col → Nat → Bool
  | k :: ks, c :: cs, j => holdC k c (colS k (colV rows j)) && holdL rows ks cs (j + 1)
  | _, _, _ => true
def holdsB (ks : List Int) (t : TS) (rows : List (List Val)) : Bool := fitsB ks t && (fitRowsB ks rows && (decide (t.low ≤ rows.length) && (decide ((rows.length : Int) ≤ t.rows) && holdL rows ks t.cols 0)))
theorem holdL_drop {rows : List (List Val)} {ks : List Int} {cs : List Col} {i : Nat} (h : i < ks.length) (h' : i < cs.length) : holdL rows (ks.drop i) (cs.drop i) i = (holdC ks[i] cs[i] (colS ks[i] (colV rows i)) && holdL rows (ks.drop (i + 1)) (cs.drop (i + 1)) (i + 1)) := by
  rw [List.drop_eq_getElem_cons h, List.drop_eq_getElem_cons h', holdL]
theorem holdL_end {rows : List (List Val)} {ks : List Int} {cs : List Col} {i : Nat} (h : ks.length ≤ i) : holdL rows (ks.drop i) (cs.drop i) i = true := by
  rw [List.drop_eq_nil_of_le h, holdL]; simp
theorem fitRows_len {ks : List Int} {rows : List (List Val)} (h : fitRowsB ks rows = true) : ∀ r ∈ rows, r.length = ks.length := by
  simp only [fitRowsB, Bool.and_eq_true, List.all_eq_true, rowB, decide_eq_true_eq] at h
  exact fun r hr => (h.2 r hr).1
theorem cellsB_valid : ∀ {ks : List Int} {r : List Val}, cellsB ks r = true → r.length = ks.length → ∀ v ∈ r, v.valid = true
  | [], r, _, hl, v, hv => by cases r <;> simp at hl; cases hv
  | k :: ks, [], _, hl, v, hv => by cases hv
  | k :: ks, u :: r, h, hl, v, hv => by
    simp only [cellsB, cellB, Bool.and_eq_true] at h
    rcases List.mem_cons.1 hv with rfl | hv
    · exact h.1.1
    · exact cellsB_valid h.2 (by simpa using hl) v hv
theorem fitRows_valid {ks : List Int} {rows : List (List Val)} (h : fitRowsB ks rows = true) : ∀ r ∈ rows, ∀ v ∈ r, v.valid = true := by
  have hl := fitRows_len h
  simp only [fitRowsB, Bool.and_eq_true, List.all_eq_true, rowB] at h
  exact fun r hr v hv => cellsB_valid (h.2 r hr).2 (hl r hr) v hv
set_option maxHeartbeats 2000000 in
theorem c_stats_Holds (ks : List Int) (t : TS) (rows : List (List Val)) (hl : ks.length ≤ 9223372036854775807) (ho : rowsOk rows) : call T n_stats_Holds [.sl false (ks.map u8), t.enc false, .sl false (rows.map rowX)] = some (.v (.bool (holdsB ks t rows))) := by
  refine go_stats_Holds (by simp) ?_
  generalize hR : holdsB ks t rows = R; replace hR := Hd.mk hR
  have f1 := c_stats_Fits ks t hl
  have f2 := c_stats_fitRows ks rows hl ho
  simp [f1]
  refine wpG_split (fun a1 => ?_) (fun a1 => ?_) <;> (have a1' := a1; try simp at a1') <;> (try simp [*])
  · rw [← hR.out]; simp [holdsB, a1']
  refine wpC_split (fun a2 => ?_) (fun a2 => ?_) <;> (have a2' := a2; try simp at a2') <;> (try simp [*])
  · rw [← hR.out]; simp [holdsB, a2']
  refine wpG_split (fun a3 => ?_) (fun a3 => ?_) <;> (have a3' := a3; try simp at a3') <;> (try simp [*])
  · rw [← hR.out]; simp [holdsB, show ¬ t.low ≤ (rows.length : Int) by omega]
  refine wpC_split (fun a4 => ?_) (fun a4 => ?_) <;> (have a4' := a4; try simp at a4') <;> (try simp [*])
  · rw [← hR.out]; simp [holdsB, show ¬ (rows.length : Int) ≤ t.rows by omega]
  replace hR : Hd (R = holdL rows (ks.drop 0) (t.cols.drop 0) 0) := ⟨by rw [← hR.out]; simp [holdsB, a1', a2', a3', a4']⟩
  have hlen := fits_len a1'
  have hrl := fitRows_len a2'
  refine wp_rounds (σ := Nat) (fun i e s => e 0 = .sl false (ks.map u8) ∧ e 2 = .sl false (rows.map rowX) ∧ e 33 = .sl false (t.cols.map Col.enc) ∧ e 34 = i6 ks.length ∧ e 35 = i6 i ∧ i ≤ ks.length ∧ Hd (R = holdL rows (ks.drop i) (t.cols.drop i) i)) (fun i => ks.length - i) ?_ 0 _ _ ⟨rfl, rfl, rfl, by simp [hlen], rfl, by omega, hR⟩
  clear hR f1 f2 a1 a2 a3 a4 a1' a2' a3' a4'
  rintro i e s ⟨e0, e2, e33, e34, e35, hi, hA⟩ ih
  simp [e0, e2, e33, e34, e35]
  refine wpC_split (fun h => ?_) (fun h => ?_) <;> (have h' := h; try simp at h') <;> (try simp [*])
  · have hic : i < t.cols.length := by omega
    have hcol := c_stats_column ks[i] rows i ho (fun r hr => by rw [hrl r hr]; exact h')
    replace hA := Hd.mk (hA.out.trans (holdL_drop h' hic))
    generalize hx : colS ks[i] (colV rows i) = x at hcol hA
    simp [hcol]
    have next : holdC ks[i] t.cols[i] x = true → ∀ e' s', e' 0 = .sl false (ks.map u8) → e' 2 = .sl false (rows.map rowX) → e' 33 = .sl false (t.cols.map Col.enc) → e' 34 = i6 ks.length → e' 35 = i6 ((i + 1 : Nat) : Int) → wp T [.lp stats_Holds_l1, .bl 0, .code ((IC.ops stats_Holds_r14).seq IC.ret)] e' s' (fun e s => dpC s (e 6) = some (.v (.bool R))) := by
      intro hc e' s' x0 x2 x33 x34 x35
      exact ih.out (i + 1) _ _ ⟨x0, x2, x33, x34, x35, h', ⟨by rw [hA.out, hc, Bool.true_and]⟩⟩ (by omega)
    replace next := Hd.mk next
    refine wpG_split (fun b1 => ?_) (fun b1 => ?_) <;> (have b1' := b1; try simp at b1') <;> (try simp [*])
    · rw [hA.out]; simp [holdC, show ¬ x.nulls ≤ t.cols[i].nulls by omega]
    refine wpG_split (fun b2 => ?_) (fun b2 => ?_) <;> (have b2' := b2; try simp at b2') <;> (try simp [*])
    · rw [hA.out]; simp [holdC, show ¬ x.distinct ≤ t.cols[i].distinct by omega]
    refine wpC_split (fun b3 => ?_) (fun b3 => ?_) <;> (have b3' := b3; try simp at b3') <;> (try simp [*])
    · rw [hA.out]; simp [holdC, show ¬ x.degree ≤ t.cols[i].degree by omega]
    refine wpG_split (fun b4 => ?_) (fun b4 => ?_) <;> (try simp [*])
    · have k4 := Hd.mk (of_decide_eq_true b4)
      refine wpG_split (fun b5 => ?_) (fun b5 => ?_) <;> (have b5' := b5; try simp at b5') <;> (try simp [*])
      · refine wpG_split (fun b6 => ?_) (fun b6 => ?_) <;> (have b6' := b6; try simp at b6') <;> (try simp [*])
        · rw [hA.out]; simp [holdC, k4.out, show ¬ x.distinct ≤ 0 by omega, show ¬ t.cols[i].lo ≤ x.lo by omega]
        · refine wpC_split (fun b7 => ?_) (fun b7 => ?_) <;> (have b7' := b7; try simp at b7') <;> (try simp [*])
          · rw [hA.out]; simp [holdC, k4.out, show ¬ x.distinct ≤ 0 by omega, show ¬ x.hi ≤ t.cols[i].hi by omega]
          · exact next.out (by simp [holdC, b1', b2', b3', b6', b7']) _ _ (by simp [e0]) (by simp [e2]) (by simp [e33]) (by simp [e34]) (by simp [wrap_succ h' hl])
      · exact next.out (by simp [holdC, b1', b2', b3', b5']) _ _ (by simp [e0]) (by simp [e2]) (by simp [e33]) (by simp [e34]) (by simp [wrap_succ h' hl])
    · have k4 := Hd.mk (of_decide_eq_false b4)
      exact next.out (by simp [holdC, b1', b2', b3', k4.out]) _ _ (by simp [e0]) (by simp [e2]) (by simp [e33]) (by simp [e34]) (by simp [wrap_succ h' hl])
  · rw [hA.out]; exact holdL_end h'
end Go.Proofs.YtoodknhlnifnlaaGreatDoor
