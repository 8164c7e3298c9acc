/- The law StatsFit, in the engine's form. -/
import Derived.Test.YtoodknhlnifnlaaGreatDoorCe
import Derived.Test.YtoodknhlnifnlaaGreatDoorAw
set_option linter.all false
set_option linter.unusedVariables false
set_option linter.unusedSimpArgs false
set_option maxRecDepth 100000
namespace Go.Proofs.YtoodknhlnifnlaaGreatDoor
open Go.RowKit
set_option maxHeartbeats 400000 in
theorem c_StatsFit (ks : List Int) (t : TS) (rows : List (List Val)) (hl : ks.length ≤ 9223372036854775807) (hc : t.cols.length ≤ 3518437208883) (ho : rowsOk rows) :
    call T n_jointerlaw19_StatsFit [.sl false (ks.map u8), t.enc false, .sl false (rows.map rowX)] = some (.v (.bool true)) := by
  refine go_jointerlaw19_StatsFit (by simp) ?_
  have h1 := c_jointerlaw19_copied t hc
  have h2 := c_jointerref19_Fits ks t hl
  have h3 := c_jointerref19_Holds ks t rows hl ho
  have h4 := c_stats_Fits ks t hl
  have h5 := c_stats_Holds ks t rows hl ho
  have h6 := c_jointerlaw19_Same t t (by omega)
  have h7 := c_awake
  rw [TS.same_refl] at h6
  simp [h1, h2, h3, h4, h5, h6, h7]
end Go.Proofs.YtoodknhlnifnlaaGreatDoor
