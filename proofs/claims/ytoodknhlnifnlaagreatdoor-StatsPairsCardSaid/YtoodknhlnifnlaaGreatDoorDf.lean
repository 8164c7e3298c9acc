/- The law StatsPairs, in the engine's form. -/
import Derived.Test.YtoodknhlnifnlaaGreatDoorDe
import Derived.Test.YtoodknhlnifnlaaGreatDoorAw
set_option linter.all false
set_option linter.unusedVariables false
set_option linter.unusedSimpArgs false
set_option maxRecDepth 100000
namespace Go.Proofs.YtoodknhlnifnlaaGreatDoor
open Go.RowKit
theorem pairT_len (lo hi : Int → Int → Int) (ks : List Int) (a b : TS) : (pairT lo hi ks a b).cols.length ≤ a.cols.length := by
  unfold pairT; split
  · simp only [mixT, List.length_zipWith]; omega
  · simp
set_option maxHeartbeats 1000000 in
theorem c_StatsPairs (ks : List Int) (a b : TS) (hl : ks.length ≤ 9223372036854775807) (ha : a.cols.length ≤ 3518437208882) (hb : b.cols.length ≤ 3518437208882) :
    call T n_jointerlaw19_StatsPairs [.sl false (ks.map u8), a.enc false, b.enc false] = some (.v (.bool true)) := by
  refine go_jointerlaw19_StatsPairs (by simp) ?_
  have ca : call T n_jointerlaw19_copied [.agg [i6 a.low, i6 a.rows, .sl false (a.cols.map Col.enc)]] = some (a.enc true) := c_jointerlaw19_copied a (by omega)
  have cb : call T n_jointerlaw19_copied [.agg [i6 b.low, i6 b.rows, .sl false (b.cols.map Col.enc)]] = some (b.enc true) := c_jointerlaw19_copied b (by omega)
  have r1 := c_jointerref19_Either ks a b hl (by omega)
  have r2 := c_jointerref19_Both ks a b hl (by omega)
  have i1 := i_stats_Either ks a b hl (by omega)
  have i2 := i_stats_Both ks a b hl (by omega)
  have l1 := pairT_len min max ks a b
  have l2 := pairT_len max min ks a b
  have sm : ∀ t : TS, t.cols.length ≤ a.cols.length → call T n_jointerlaw19_Same [.agg [i6 t.low, i6 t.rows, .sl false (t.cols.map Col.enc)], .agg [i6 t.low, i6 t.rows, .sl false (t.cols.map Col.enc)]] = some (.v (.bool true)) := by
    intro t ht
    have h6 := c_jointerlaw19_Same t t (by omega)
    rw [TS.same_refl] at h6; exact h6
  have s1 := sm _ l1
  have s2 := sm _ l2
  have s3 := sm a (by omega)
  have s4 : call T n_jointerlaw19_Same [.agg [i6 b.low, i6 b.rows, .sl false (b.cols.map Col.enc)], .agg [i6 b.low, i6 b.rows, .sl false (b.cols.map Col.enc)]] = some (.v (.bool true)) := by
    have h6 := c_jointerlaw19_Same b b (by omega)
    rw [TS.same_refl] at h6; exact h6
  have h7 := c_awake
  generalize pairT min max ks a b = t at *
  generalize pairT max min ks a b = u at *
  generalize pairE ks a b = R at *
  clear sm
  simp [ca, cb, r1]
  refine wpR_ex1 (i1 _) ?_
  rintro ⟨r, w1⟩ ⟨hF, x, rfl, hx⟩
  have k4 : w1 4 = _ := hF.out 4 (by omega)
  simp at k4
  have k5 : w1 5 = _ := hF.out 5 (by omega)
  simp at k5
  have k7 : w1 7 = _ := hF.out 7 (by omega)
  simp at k7
  have k8 : w1 8 = _ := hF.out 8 (by omega)
  simp at k8
  have k9 : w1 9 = _ := hF.out 9 (by omega)
  simp at k9
  have hx1 : ∀ b c, SlAt (setO (newO w1 11 b) 11 c) 7000 10000 5 x (t.cols.map Col.enc) := fun b c => hx.fr (((Fr.refl 11 12 w1).newO b (by omega)).setO c (by omega)) (by omega)
  simp [k9, hx.one.1, hx.one.2, (hx1 _ _).dpn, s1]
  refine wpR_ex1 (i_spoil 7000 10000 t.low t.rows x t.cols (by omega) _ (hx1 _ _) (by omega)) ?_
  rintro ⟨r, w2⟩ ⟨rfl, hF2⟩
  have m4 : w2 4 = _ := hF2 4 (by omega) (by omega)
  simp [k4] at m4
  have m5 : w2 5 = _ := hF2 5 (by omega) (by omega)
  simp [k5] at m5
  have m7 : w2 7 = _ := hF2 7 (by omega) (by omega)
  simp [k7] at m7
  have m8 : w2 8 = _ := hF2 8 (by omega) (by omega)
  simp [k8] at m8
  have m9 : w2 9 = _ := hF2 9 (by omega) (by omega)
  simp [k9] at m9
  have m11 : w2 11 = _ := hF2 11 (by omega) (by omega)
  simp at m11
  simp [m4, m5, m9, r2]
  refine wpR_ex1 (i2 _) ?_
  rintro ⟨r, w3⟩ ⟨hF3, y, rfl, hy⟩
  have n4 : w3 4 = _ := hF3.out 4 (by omega)
  simp [m4] at n4
  have n5 : w3 5 = _ := hF3.out 5 (by omega)
  simp [m5] at n5
  have n7 : w3 7 = _ := hF3.out 7 (by omega)
  simp [m7] at n7
  have n8 : w3 8 = _ := hF3.out 8 (by omega)
  simp [m8] at n8
  have n9 : w3 9 = _ := hF3.out 9 (by omega)
  simp [m9] at n9
  have n11 : w3 11 = _ := hF3.out 11 (by omega)
  simp [m11] at n11
  have hy1 : ∀ c, SlAt (setO w3 11 c) 7000 10000 5 y (u.cols.map Col.enc) := fun c => hy.fr ((Fr.refl 11 12 w3).setO c (by omega)) (by omega)
  simp [n9, n11, hy.one.1, hy.one.2, (hy1 _).dpn, s2]
  refine wpR_ex1 (i_spoil 7000 10000 u.low u.rows y u.cols (by omega) _ (hy1 _) (by omega)) ?_
  rintro ⟨r, w4⟩ ⟨rfl, hF4⟩
  have o4 : w4 4 = _ := hF4 4 (by omega) (by omega)
  simp [n4] at o4
  have o5 : w4 5 = _ := hF4 5 (by omega) (by omega)
  simp [n5] at o5
  have o7 : w4 7 = _ := hF4 7 (by omega) (by omega)
  simp [n7] at o7
  have o8 : w4 8 = _ := hF4 8 (by omega) (by omega)
  simp [n8] at o8
  simp [o4, o5, o7, o8, s3, s4, h7]
end Go.Proofs.YtoodknhlnifnlaaGreatDoor
