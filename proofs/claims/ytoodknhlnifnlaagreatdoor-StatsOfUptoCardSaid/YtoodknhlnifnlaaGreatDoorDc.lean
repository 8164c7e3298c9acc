/- The law StatsOf, in the engine's form. -/
import Derived.Test.YtoodknhlnifnlaaGreatDoorDb
import Derived.Test.YtoodknhlnifnlaaGreatDoorAw
set_option linter.all false
set_option linter.unusedVariables false
set_option linter.unusedSimpArgs false
set_option maxRecDepth 100000
namespace Go.Proofs.YtoodknhlnifnlaaGreatDoor
open Go.RowKit
theorem wpR_ex {oc : Option (X × Sto)} {P : X × Sto → Prop} {d : Option Nat} {l : List GOp} {its : List It} {e : Env} {Q : Env → Sto → Prop} (h : ∃ r, oc = some r ∧ P r)
    (k : ∀ r, P r → wpR T (some r) d l its e Q) : wpR T oc d l its e Q := by
  obtain ⟨r, rfl, hr⟩ := h
  exact k r hr
set_option maxHeartbeats 400000 in
theorem c_StatsOf (ks : List Int) (rows : List (List Val)) (hl : ks.length ≤ 3518437208882) (ho : rowsOk rows) :
    call T n_jointerlaw19_StatsOf [.sl false (ks.map u8), .sl false (rows.map rowX)] = some (.v (.bool true)) := by
  refine go_jointerlaw19_StatsOf (by simp) ?_
  have h1 := c_jointerref19_Of ks rows (by omega) ho
  have hlc : (ofS ks rows).cols.length ≤ 3518437208882 := by
    unfold ofS; split
    · simp only [colsS_len]; exact hl
    · simp
  have h6 := c_jointerlaw19_Same (ofS ks rows) (ofS ks rows) (by omega)
  have h7 := c_awake
  rw [TS.same_refl] at h6
  generalize ht : ofS ks rows = t at *
  have i1 := i_stats_Of ks rows (by omega) ho
  rw [ht] at i1
  simp [h1]
  refine wpR_ex (i1 _) ?_
  rintro ⟨r, s1⟩ ⟨hF, x, rfl, hx⟩
  have hs5 : s1 5 = _ := hF.out 5 (by omega)
  simp at hs5
  have hx7 : ∀ b c, SlAt (setO (newO s1 7 b) 7 c) 5000 6000 5 x (t.cols.map Col.enc) := fun b c => hx.fr (((Fr.refl 7 8 s1).newO b (by omega)).setO c (by omega)) (by omega)
  simp [hs5, hx.one.1, hx.one.2, (hx7 _ _).dpn, h6]
  refine wpR_ex (i_spoil 5000 6000 t.low t.rows x t.cols hlc _ (hx7 _ _) (by omega)) ?_
  rintro ⟨r, s2⟩ ⟨rfl, hF2⟩
  have ht5 : s2 5 = _ := hF2 5 (by omega) (by omega)
  simp [hs5] at ht5
  simp
  refine wpR_ex (i1 _) ?_
  rintro ⟨r, s3⟩ ⟨hF3, x3, rfl, hx3⟩
  have hu5 : s3 5 = _ := hF3.out 5 (by omega)
  simp [ht5] at hu5
  have hx9 : ∀ b c, SlAt (setO (newO s3 9 b) 9 c) 5000 6000 5 x3 (t.cols.map Col.enc) := fun b c => hx3.fr (((Fr.refl 9 10 s3).newO b (by omega)).setO c (by omega)) (by omega)
  simp [hu5, hx3.one.1, hx3.one.2, (hx9 _ _).dpn, h6, h7]
end Go.Proofs.YtoodknhlnifnlaaGreatDoor
