/- The law StatsExact, in the engine's form (seat D's table). -/
import Derived.Test.YtoodknhlnifnlaaDoorHc
import Derived.Test.YtoodknhlnifnlaaDoorAw
set_option linter.all false
set_option linter.unusedVariables false
set_option linter.unusedSimpArgs false
set_option maxRecDepth 100000
namespace Go.Proofs.YtoodknhlnifnlaaDoor
open Go.RowKit
theorem lessL_drop {ks : List Int} {xs cs : List Col} {i : Nat} (h : i < ks.length) (h1 : i < xs.length) (h2 : i < cs.length) : lessL (ks.drop i) (xs.drop i) (cs.drop i) = (holdC ks[i] cs[i] xs[i] && lessL (ks.drop (i + 1)) (xs.drop (i + 1)) (cs.drop (i + 1))) := by
  rw [List.drop_eq_getElem_cons h, List.drop_eq_getElem_cons h1, List.drop_eq_getElem_cons h2, lessL]
set_option maxHeartbeats 1000000 in
theorem c_less (ks : List Int) (x t : TS) (hl : ks.length ≤ 9223372036854775807) (hx : x.cols.length = ks.length) (ht : t.cols.length = ks.length) :
    call T n_jointerlaw19_less [.sl false (ks.map u8), .agg [i6 x.low, i6 x.rows, .sl false (x.cols.map Col.enc)], .agg [i6 t.low, i6 t.rows, .sl false (t.cols.map Col.enc)]] = some (.v (.bool (lessB ks x t))) := by
  refine go_jointerlaw19_less (by simp) ?_
  generalize hR : lessB ks x t = R; replace hR := Hd.mk hR
  simp
  refine wpG_split (fun a1 => ?_) (fun a1 => ?_) <;> (have a1' := a1; try simp at a1') <;> (try simp [*])
  · rw [← hR.out]; simp [lessB, show ¬ t.low ≤ x.low by omega]
  refine wpG_split (fun a2 => ?_) (fun a2 => ?_) <;> (have a2' := a2; try simp at a2') <;> (try simp [*])
  · rw [← hR.out]; simp [lessB, show ¬ x.rows ≤ t.rows by omega]
  have hL : Hd (R = lessL ks x.cols t.cols) := ⟨by rw [← hR.out]; simp [lessB, show t.low ≤ x.low by omega, show x.rows ≤ t.rows by omega]⟩
  clear hR
  refine wp_rounds (σ := Nat) (fun i e s => e 0 = .sl false (ks.map u8) ∧ e 4 = .ptr 4 1 0 ∧ e 5 = .ptr 5 1 0 ∧ (∃ n, s 4 = ⟨1, true, some (.box (.agg [i6 x.low, i6 x.rows, .sl false (x.cols.map Col.enc)])), n⟩) ∧ (∃ n, s 5 = ⟨1, true, some (.box (.agg [i6 t.low, i6 t.rows, .sl false (t.cols.map Col.enc)])), n⟩) ∧
      e 7 = i6 i ∧ i ≤ ks.length ∧ Hd (R = lessL (ks.drop i) (x.cols.drop i) (t.cols.drop i))) (fun i => ks.length - i) ?_ 0 _ _
    ⟨by simp, by simp, by simp, ⟨_, by simp; rfl⟩, ⟨_, by simp; rfl⟩, by simp, by omega, ⟨by simpa using hL.out⟩⟩
  rintro i e s ⟨e0, e4, e5, ⟨n4, s4⟩, ⟨n5, s5⟩, e7, hi, hA⟩ ih
  simp [e0, e7]
  refine wpC_split (fun q => ?_) (fun q => ?_) <;> (have q' := q; try simp at q') <;> (try simp [*])
  · have h1 : i < x.cols.length := by omega
    have h2 : i < t.cols.length := by omega
    replace hA := Hd.mk (hA.out.trans (lessL_drop q' h1 h2))
    have hF : Hd (¬ holdC ks[i] t.cols[i] x.cols[i] = true → R = false) := ⟨fun h => by rw [hA.out]; simp [h]⟩
    have hT : Hd (holdC ks[i] t.cols[i] x.cols[i] = true → R = lessL (ks.drop (i + 1)) (x.cols.drop (i + 1)) (t.cols.drop (i + 1))) := ⟨fun h => by rw [hA.out, h]; simp⟩
    clear hA
    refine wpG_split (fun b1 => ?_) (fun b1 => ?_) <;> (have b1' := b1; try simp at b1') <;> (try simp [*])
    · have e : R = false := hF.out (by rw [holdC_iff]; omega)
      simp [e]
    refine wpG_split (fun b2 => ?_) (fun b2 => ?_) <;> (have b2' := b2; try simp at b2') <;> (try simp [*])
    · have e : R = false := hF.out (by rw [holdC_iff]; omega)
      simp [e]
    refine wpC_split (fun b3 => ?_) (fun b3 => ?_) <;> (have b3' := b3; try simp at b3') <;> (try simp [*])
    · have e : R = false := hF.out (by rw [holdC_iff]; omega)
      simp [e]
    refine wpG_split (fun b4 => ?_) (fun b4 => ?_) <;> (have b4' := b4; try simp at b4') <;> (try simp [*])
    · refine wpG_split (fun b5 => ?_) (fun b5 => ?_) <;> (have b5' := b5; try simp at b5') <;> (try simp [*])
      · refine wpG_split (fun b6 => ?_) (fun b6 => ?_) <;> (have b6' := b6; try simp at b6') <;> (try simp [*])
        · have e : R = false := hF.out (by rw [holdC_iff]; omega)
          simp [e]
        refine wpC_split (fun b7 => ?_) (fun b7 => ?_) <;> (have b7' := b7; try simp at b7') <;> (try simp [*])
        · have e : R = false := hF.out (by rw [holdC_iff]; omega)
          simp [e]
        · have hR2 := hT.out (by rw [holdC_iff]; omega)
          refine ih.out (i + 1) _ _ ?_ (by omega)
          exact ⟨by simp [e0], by simp [e4], by simp [e5], so_mk (by simp [s4]) (by simp [s4]) (by simp [s4]), so_mk (by simp [s5]) (by simp [s5]) (by simp [s5]), by simp [wrap_succ q' hl], q', ⟨hR2⟩⟩
      · have hR2 := hT.out (by rw [holdC_iff]; omega)
        refine ih.out (i + 1) _ _ ?_ (by omega)
        exact ⟨by simp [e0], by simp [e4], by simp [e5], so_mk (by simp [s4]) (by simp [s4]) (by simp [s4]), so_mk (by simp [s5]) (by simp [s5]) (by simp [s5]), by simp [wrap_succ q' hl], q', ⟨hR2⟩⟩
    · have hR2 := hT.out (by rw [holdC_iff]; omega)
      refine ih.out (i + 1) _ _ ?_ (by omega)
      exact ⟨by simp [e0], by simp [e4], by simp [e5], so_mk (by simp [s4]) (by simp [s4]) (by simp [s4]), so_mk (by simp [s5]) (by simp [s5]) (by simp [s5]), by simp [wrap_succ q' hl], q', ⟨hR2⟩⟩
  · rw [hA.out, List.drop_eq_nil_of_le q']; simp [lessL]
set_option maxHeartbeats 1000000 in
theorem c_StatsExact (ks : List Int) (t : TS) (rows : List (List Val)) (hl : ks.length ≤ 3518437208882) (hn : rows.length ≤ 4611686018427387904) (ho : rowsOk rows) :
    call T n_jointerlaw19_StatsExact [.sl false (ks.map u8), t.enc false, .sl false (rows.map rowX)] = some (.v (.bool true)) := by
  have hl' : ks.length ≤ 9223372036854775807 := by omega
  refine go_jointerlaw19_StatsExact (by simp) ?_
  have po := c_stats_Of ks rows (by omega) ho
  have ff : ∀ t : TS, call T n_stats_Fits [.sl false (ks.map u8), .agg [i6 t.low, i6 t.rows, .sl false (t.cols.map Col.enc)]] = some (.v (.bool (fitsB ks t))) := fun t => c_stats_Fits ks t hl'
  have hh : ∀ t : TS, call T n_stats_Holds [.sl false (ks.map u8), .agg [i6 t.low, i6 t.rows, .sl false (t.cols.map Col.enc)], .sl false (rows.map rowX)] = some (.v (.bool (holdsB ks t rows))) := fun t => c_stats_Holds ks t rows hl' ho
  have h7 := c_awake
  cases hf : fitRowsB ks rows
  · have hE : ofE ks rows = 1 := by simp [ofE, hf]
    have hh0 : holdsB ks t rows = false := by simp [holdsB, hf]
    rw [hE] at po
    generalize ofS ks rows = u at *
    simp [po, hh, hh0, h7]
  · have hE : ofE ks rows = 0 := by simp [ofE, hf]
    have hx := ofS_exact hf
    have x1 := exact_fits (ks := ks) (rows := rows) (fitRows_kinds hf) hn
    have x2 := exact_holds hf hn
    have xr : (exactT ks rows).rows = rows.length := rfl
    rw [hE, hx] at po
    have cl : fitsB ks t = true → call T n_jointerlaw19_less [.sl false (ks.map u8), .agg [i6 (exactT ks rows).low, i6 (exactT ks rows).rows, .sl false ((exactT ks rows).cols.map Col.enc)], .agg [i6 t.low, i6 t.rows, .sl false (t.cols.map Col.enc)]] = some (.v (.bool (lessB ks (exactT ks rows) t))) :=
      fun h => c_less ks (exactT ks rows) t hl' (fits_len x1) (fits_len h)
    have eq : fitsB ks t = true → holdsB ks t rows = lessB ks (exactT ks rows) t := fun h => holds_less h hf
    have eq0 : fitsB ks t = false → holdsB ks t rows = false := fun h => by simp [holdsB, h]
    have fu := ff (exactT ks rows)
    have hu := hh (exactT ks rows)
    rw [x1, xr] at fu
    rw [x2, xr] at hu
    rw [xr] at cl
    clear hx
    generalize exactT ks rows = u at *
    cases ht : fitsB ks t
    · simp [po, fu, hu, ff, hh, xr, ht, eq0 ht, h7]
    · simp [po, fu, hu, ff, hh, xr, ht, eq ht, cl ht, h7]
end Go.Proofs.YtoodknhlnifnlaaDoor
