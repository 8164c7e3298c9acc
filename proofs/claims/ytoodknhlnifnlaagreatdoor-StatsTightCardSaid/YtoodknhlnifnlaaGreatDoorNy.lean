/- The reference's normalising; what a description that fits is. -/
import Derived.Test.YtoodknhlnifnlaaGreatDoorNc
import Derived.Test.YtoodknhlnifnlaaGreatDoorCs
set_option linter.all false
set_option linter.unusedVariables false
set_option linter.unusedSimpArgs false
set_option maxRecDepth 100000
namespace Go.Proofs.YtoodknhlnifnlaaGreatDoor
open Go.RowKit
set_option maxHeartbeats 1000000 in
theorem c_jointerref19_Normalised (ks : List Int) (t : TS) (hl : t.cols.length ≤ 3518437208883) (hok : okT ks t) :
    call T n_jointerref19_Normalised [.sl false (ks.map u8), .agg [i6 t.low, i6 t.rows, .sl false (t.cols.map Col.enc)]] = some ((normT ks t).enc true) := by
  refine go_jointerref19_Normalised (by simp) ?_
  have hkl := hok.len
  generalize hR : normT ks t = R
  replace hR := Hd.mk hR
  have hw : Hd (Way ks t t) := ⟨Way.start hok⟩
  simp
  refine wp_rounds (σ := TS × Bool × Bool) (fun x e s => e 0 = .sl false (ks.map u8) ∧ e 3 = .ptr 3 1 0 ∧ e 4 = .ptr 4 1 0 ∧ e 5 = .v (.bool x.2.1) ∧ (∃ n, s 3 = ⟨1, true, some (.box (.agg [i6 x.1.low, i6 x.1.rows, .sl x.2.2 (x.1.cols.map Col.enc)])), n⟩) ∧ (∃ n, s 4 = ⟨1, true, some (.box (.agg [i6 0, i6 0, .nil])), n⟩) ∧
      Hd (Way ks t x.1 ∧ (x.2.1 = false → Fx ks x.1 ∧ x.2.2 = true))) (fun x => mT x.1 + x.2.1.toNat) ?_ (t, true, false) _ _
    ⟨by simp, by simp, by simp, by simp, ⟨_, by simp; rfl⟩, ⟨_, by simp; rfl⟩, ⟨hw.out, by simp⟩⟩
  rintro ⟨n, b, f⟩ e s ⟨e0, e3, e4, e5, ⟨n3, s3⟩, ⟨n4, s4⟩, hx⟩ ih
  simp at e5 s3 hx
  cases b
  · simp [e0, e3, e4, e5, s3, s4]
    have hn : R = n := hR.out.symm.trans (normT_of (hx.out.1.fin (hx.out.2 rfl).1))
    rw [hn]
    exact ⟨rfl, rfl, (hx.out.2 rfl).2, rfl⟩
  · have ho := c_jointerref19_Once ks n hx.out.1.ok.len (by have := hx.out.1.ok.len; omega) hx.out.1.ok.rows hx.out.1.ok.cols
    have hwo : Hd (Way ks t (onceT ks n)) := ⟨hx.out.1.once⟩
    have hch : Hd (chB (onceT ks n) n = false ↔ onceT ks n = n) := ⟨chB_false⟩
    have hfx : Hd (onceT ks n = n → Fx ks n) := ⟨fun h => once_fx hx.out.1.ok h⟩
    have hlt : Hd (¬ onceT ks n = n → mT (onceT ks n) < mT n) := ⟨fun h => mT_lt (once_le hx.out.1.ok) (once_ok hx.out.1.ok) h⟩
    generalize chB (onceT ks n) n = c at *
    generalize onceT ks n = m at *
    simp [e0, e3, e4, e5, s3, s4, ho]
    refine ih.out (m, c, true) _ _ ⟨by simp [e0], by simp [e3], by simp [e4], by simp, ⟨_, by simp [s3]; rfl⟩, ⟨_, by simp [s4]; rfl⟩, ⟨hwo.out, fun h => ?_⟩⟩ ?_
    · have e := hch.out.1 h
      have := hfx.out e
      rw [e]; exact ⟨this, rfl⟩
    · show mT m + c.toNat < mT n + 1
      cases c
      · rw [hch.out.1 rfl]; exact Nat.lt_succ_self _
      · have : ¬ m = n := fun h => by have := hch.out.2 h; simp at this
        have := hlt.out this
        show mT m + 1 < _; omega
theorem colsB_ok : ∀ {ks : List Int} {cs : List Col}, cs.length = ks.length → colsB ks cs = true → (∀ c ∈ cs, loOk c) → ∀ c ∈ cs, cok c
  | [], [], _, _, _ => by simp
  | k :: ks, c :: cs, hl, hc, hi => by
    simp only [colsB, Bool.and_eq_true] at hc
    intro d hd
    rcases List.mem_cons.1 hd with rfl | hd
    · have h1 := hc.1
      simp [colB, numB] at h1
      exact ⟨by omega, by omega, by omega, hi d (by simp)⟩
    · exact colsB_ok (by simpa using hl) hc.2 (fun c hc => hi c (by simp [hc])) d hd
theorem okT_of {ks : List Int} {t : TS} (h : fitsB ks t = true) (hi : ∀ c ∈ t.cols, loOk c) : okT ks t := by
  have hl := fits_len h
  simp only [fitsB, Bool.and_eq_true] at h
  obtain ⟨_, _, _, hr, hc⟩ := h
  exact ⟨hl.symm, by simp [numB] at hr; omega, colsB_ok hl hc hi⟩
end Go.Proofs.YtoodknhlnifnlaaGreatDoor
