/- The law StatsPairsHold, in the engine's form (seat D's table). -/
import Derived.Test.YtoodknhlnifnlaaDoorHa
import Derived.Test.YtoodknhlnifnlaaDoorAw
set_option linter.all false
set_option linter.unusedVariables false
set_option linter.unusedSimpArgs false
set_option maxRecDepth 100000
namespace Go.Proofs.YtoodknhlnifnlaaDoor
open Go.RowKit
theorem c_stats_Either (ks : List Int) (a b : TS) (hl : ks.length ≤ 9223372036854775807) (ha : a.cols.length ≤ 3518437208883) :
    call T n_stats_Either [.sl false (ks.map u8), .agg [i6 a.low, i6 a.rows, .sl false (a.cols.map Col.enc)], .agg [i6 b.low, i6 b.rows, .sl false (b.cols.map Col.enc)]] = some (.tup [(pairT min max ks a b).enc true, i6 (pairE ks a b)]) :=
  go_stats_Either (by simp) (wp_mono (w_stats_Either ks a b hl ha s0) (fun e s' h => h.pure))
theorem c_stats_Both (ks : List Int) (a b : TS) (hl : ks.length ≤ 9223372036854775807) (ha : a.cols.length ≤ 3518437208883) :
    call T n_stats_Both [.sl false (ks.map u8), .agg [i6 a.low, i6 a.rows, .sl false (a.cols.map Col.enc)], .agg [i6 b.low, i6 b.rows, .sl false (b.cols.map Col.enc)]] = some (.tup [(pairT max min ks a b).enc true, i6 (pairE ks a b)]) :=
  go_stats_Both (by simp) (wp_mono (w_stats_Both ks a b hl ha s0) (fun e s' h => h.pure))
set_option maxHeartbeats 1000000 in
theorem c_StatsPairsHold (ks : List Int) (a b : TS) (rows : List (List Val)) (hl : ks.length ≤ 9223372036854775807) (ha : a.cols.length ≤ 3518437208883) (ho : rowsOk rows) :
    call T n_jointerlaw19_StatsPairsHold [.sl false (ks.map u8), a.enc false, b.enc false, .sl false (rows.map rowX)] = some (.v (.bool true)) := by
  refine go_jointerlaw19_StatsPairsHold (by simp) ?_
  have p1 := c_stats_Either ks a b hl ha
  have p2 := c_stats_Both ks a b hl ha
  have ff : ∀ t : TS, call T n_stats_Fits [.sl false (ks.map u8), .agg [i6 t.low, i6 t.rows, .sl false (t.cols.map Col.enc)]] = some (.v (.bool (fitsB ks t))) := fun t => c_stats_Fits ks t hl
  have hh : ∀ t : TS, call T n_stats_Holds [.sl false (ks.map u8), .agg [i6 t.low, i6 t.rows, .sl false (t.cols.map Col.enc)], .sl false (rows.map rowX)] = some (.v (.bool (holdsB ks t rows))) := fun t => c_stats_Holds ks t rows hl ho
  have h7 := c_awake
  have e0 : pairE ks a b = 0 → fitsB ks a = true ∧ fitsB ks b = true := by
    intro h
    cases hk : kindsB ks <;> cases ha : fitsB ks a <;> cases hb : fitsB ks b <;> simp [faultE, hk, ha, hb] at h <;> simp
  have e1 : ¬ pairE ks a b = 0 → fitsB ks a = false ∨ fitsB ks b = false := by
    intro h
    cases ha : fitsB ks a <;> cases hb : fitsB ks b <;> simp
    have hk : kindsB ks = true := (fitsB_iff.1 ha).1
    simp [faultE, hk, ha, hb] at h
  have g1 : pairE ks a b = 0 → pairT min max ks a b = mixT min max a b := fun h => if_pos h
  have g2 : pairE ks a b = 0 → pairT max min ks a b = mixT max min a b := fun h => if_pos h
  have k1 : fitsB ks a = true → fitsB ks b = true → holdsB ks (mixT max min a b) rows = (holdsB ks a rows && holdsB ks b rows) := fun h h' => holds_both h h'
  have k2 : fitsB ks a = true → fitsB ks b = true → (holdsB ks a rows = true ∨ holdsB ks b rows = true) → holdsB ks (mixT min max a b) rows = true := fun h h' => holds_either h h'
  generalize pairE ks a b = E at *
  generalize pairT min max ks a b = t at *
  generalize pairT max min ks a b = u at *
  by_cases hE : E = 0
  · subst hE
    obtain rfl := g1 rfl
    obtain rfl := g2 rfl
    obtain ⟨f1, f2⟩ := e0 rfl
    replace k1 := k1 f1 f2
    replace k2 := k2 f1 f2
    clear g1 g2 e0 e1
    generalize mixT min max a b = t at *
    generalize mixT max min a b = u at *
    cases hx : holdsB ks a rows
    · cases hy : holdsB ks b rows
      · rw [hx, hy] at k1
        simp at k1
        simp [p1, p2, hh, ff, h7, hx, hy, k1]
      · rw [hx, hy] at k1
        simp at k1
        have k3 := k2 (.inr hy)
        simp [p1, p2, hh, ff, h7, hx, hy, k1, k3]
    · cases hy : holdsB ks b rows
      · rw [hx, hy] at k1
        simp at k1
        have k3 := k2 (.inl hx)
        simp [p1, p2, hh, ff, h7, hx, hy, k1, k3]
      · rw [hx, hy] at k1
        simp at k1
        have k3 := k2 (.inl hx)
        simp [p1, p2, hh, ff, h7, hx, hy, k1, k3]
  · clear k1 k2 g1 g2 e0
    rcases e1 hE with h | h
    · simp [p1, p2, hE, ff, h, h7]
    · cases hq : fitsB ks a <;> simp [p1, p2, hE, ff, h, hq, h7]
end Go.Proofs.YtoodknhlnifnlaaDoor
