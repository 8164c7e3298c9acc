/- Normalising without columns: the code. -/
import Derived.Test.YtoodknhlnifnlaaGreatDoorNe
set_option linter.all false
set_option linter.unusedVariables false
set_option linter.unusedSimpArgs false
set_option maxRecDepth 100000
namespace Go.Proofs.YtoodknhlnifnlaaGreatDoor
open Go.RowKit
theorem normT_nil {ks : List Int} {t : TS} (hok : okT ks t) (h0 : t.cols = []) : normT ks t = t :=
  normT_of ((Way.start hok).fin (fun i h h' => by rw [h0] at h'; simp at h'))
theorem w_stats_normal0 {fl : Bool} (ks : List Int) (t : TS) (hok : okT ks t) (h0 : t.cols = []) (s : Sto) :
    wp T [.code B_stats_normal] (ini [.sl fl (ks.map u8), .agg [i6 t.low, i6 t.rows, .nil]]) s (OutN 4005 s (normT ks t)) := by
  rw [normT_nil hok h0]
  simp
  refine wp_rounds (σ := Unit) (fun n e s' => e 3 = .ptr 2003 ((s 2003).g + 1) 0 ∧ (∃ m, s' 2003 = ⟨(s 2003).g + 1, true, some (.box (.agg [i6 t.low, i6 t.rows, .nil])), m⟩) ∧ e 4 = .ptr 2004 ((s 2004).g + 1) 0 ∧ (∃ m, s' 2004 = ⟨(s 2004).g + 1, true, some (.box (.agg [i6 0, i6 0, .nil])), m⟩) ∧ Fr2 2000 3000 4005 4006 s s') (fun _ => 0) ?_ () _ _
    ⟨by simp, ⟨_, by simp; rfl⟩, by simp, ⟨_, by simp; rfl⟩, (Fr2.newO (fun _ _ _ => rfl) _ (by omega)).newO _ (by omega)⟩
  rintro _ e s' ⟨e3, ⟨m3, s3⟩, e4, ⟨m4, s4⟩, hF⟩ ih
  simp [e3, s3]
  refine wp_rounds (σ := Unit) (fun n e s'' => e 3 = .ptr 2003 ((s 2003).g + 1) 0 ∧ e 4 = .ptr 2004 ((s 2004).g + 1) 0 ∧ e 11 = i6 0 ∧ e 12 = i6 0 ∧ s'' = s') (fun _ => 0) ?_ () _ _
    ⟨by simp [e3], by simp [e4], by simp, by simp, rfl⟩
  rintro _ e' s'' ⟨e3, e4, e11, e12, rfl⟩ ih2
  simp [e3, e4, e11, e12, s3, s4]
  refine ⟨.agg [i6 t.low, i6 t.rows, .nil], by simp [resI, resIL, resIX, e4, s4], hF.setO _ (by omega), .nil, rfl, .inl ⟨by rw [h0]; rfl, rfl⟩⟩
end Go.Proofs.YtoodknhlnifnlaaGreatDoor
