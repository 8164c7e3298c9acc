/- The reference's Normal: contracts. -/
import Derived.Test.YtoodknhlnifnlaaDoorNc
import Derived.Test.YtoodknhlnifnlaaDoorDe
set_option linter.all false
set_option linter.unusedVariables false
set_option linter.unusedSimpArgs false
set_option maxRecDepth 100000
namespace Go.Proofs.YtoodknhlnifnlaaDoor
open Go.RowKit
theorem colsB_ok : ∀ {ks : List Int} {cs : List Col}, cs.length = ks.length → colsB ks cs = true → (∀ c ∈ cs, loOk c) → ∀ c ∈ cs, cok c
  | [], [], _, _, _ => by simp
  | k :: ks, c :: cs, hl, hc, hi => by
    simp only [colsB, Bool.and_eq_true] at hc
    intro d hd
    rcases List.mem_cons.1 hd with rfl | hd
    · have h1 := hc.1
      simp [colB, numB] at h1
      exact ⟨by omega, by omega, by omega, hi d (by simp)⟩
    · exact colsB_ok (by simpa using hl) hc.2 (fun c hc => hi c (by simp [hc])) d hd
theorem okT_of {ks : List Int} {t : TS} (h : fitsB ks t = true) (hi : ∀ c ∈ t.cols, loOk c) : okT ks t := by
  have hl := fits_len h
  simp only [fitsB, Bool.and_eq_true] at h
  obtain ⟨_, _, _, hr, hc⟩ := h
  exact ⟨hl.symm, by simp [numB] at hr; omega, colsB_ok hl hc hi⟩
noncomputable def nrmT (ks : List Int) (t : TS) : TS := if faultE ks [t] = 0 then normT ks t else ⟨0, 0, []⟩
end Go.Proofs.YtoodknhlnifnlaaDoor
