/- The law StatsTightHolds, in the engine's form (seat D's table). -/
import Derived.Test.YtoodknhlnifnlaaDoorHm
set_option linter.all false
set_option linter.unusedVariables false
set_option linter.unusedSimpArgs false
set_option maxRecDepth 100000
namespace Go.Proofs.YtoodknhlnifnlaaDoor
open Go.RowKit
theorem DataOK.at {s : List TabD} {d : List (List (List Val))} (h : DataOK s d) {i : Nat} (hi : i < s.length) (hd : i < d.length) : RowsOK s[i] d[i] := by
  have et : tabOf s (i : Int) = s[i] := by simp [tabOf, hi]
  have h1 := h.rows i hd
  have h2 := h.keys i hd
  rw [et] at h1 h2
  exact ⟨h1.1, h1.2, h2⟩
theorem SchemeOK.cols {s : List TabD} (h : SchemeOK s) {i : Nat} (hi : i < s.length) : ∀ c ∈ s[i].cols, ColOK c := (h.2.2 i hi).2.2.2.2.2.2.1
theorem tightT_holds {t : TabD} {d : TS} {rows : List (List Val)} (h : RowsOK t rows) (h6 : ∀ c ∈ t.cols, c.in64) (hk : KeysIn t) (hf : fitsB (kindsT t) d = true) (hi : ∀ c ∈ d.cols, loOk c) :
    holdsB (kindsT t) (tightT t d) rows = holdsB (kindsT t) d rows := by
  have hl := fits_len hf
  rw [kindsT_len] at hl
  have hok := okT_of hf hi
  have hu := tightU_ok hl hok.cols hok.rows h6
  exact (norm_holds (tightU_fits hf) (fun c hc => (hu.cols c hc).2.2.2)).trans (tightU_holds h h6 hk hf)
theorem tightT_fits {t : TabD} {d : TS} (h6 : ∀ c ∈ t.cols, c.in64) (hf : fitsB (kindsT t) d = true) (hi : ∀ c ∈ d.cols, loOk c) : fitsB (kindsT t) (tightT t d) = true := by
  have hl := fits_len hf
  rw [kindsT_len] at hl
  have hok := okT_of hf hi
  have hu := tightU_ok hl hok.cols hok.rows h6
  exact norm_fits (tightU_fits hf) (fun c hc => (hu.cols c hc).2.2.2)
theorem defD_fits {t : TabD} (hc : ∀ c ∈ t.cols, ColOK c) : fitsB (kindsT t) (defD t) = true := by
  rw [fitsB_iff]
  refine ⟨kindsT_ok hc, by simp [defD], by simp [defD, numB], by simp [defD, numB], fun i h h' => ?_⟩
  have hi : i < t.cols.length := by simpa using h
  have hk : (kindsT t)[i] = t.cols[i].kind := by simp [kindsT]
  have hd : (defD t).cols[i] = defC t.cols[i] := by simp [defD]
  rw [hk, hd, colB_iff]
  refine ⟨by simp [defC], by simp [defC], by simp [defC], ?_⟩
  by_cases hk1 : t.cols[i].kind = 1
  · exact .inl hk1
  · exact .inr (by simp [defC, hk1])
theorem defD_holds {t : TabD} {rows : List (List Val)} (h : RowsOK t rows) (h6 : ∀ c ∈ t.cols, c.in64) (hc : ∀ c ∈ t.cols, ColOK c) : holdsB (kindsT t) (defD t) rows = true := by
  rw [holdsB_iff]
  have hlen := h.len
  refine ⟨defD_fits hc, h.rows hc, by simp [defD], by simp only [defD]; omega, fun i h1 h2 => ?_⟩
  have hi : i < t.cols.length := by simpa using h1
  have hk : (kindsT t)[i] = t.cols[i].kind := by simp [kindsT]
  have hd : (defD t).cols[i] = defC t.cols[i] := by simp [defD]
  rw [hk, hd, holdC_iff]
  have hb := colS_bounds t.cols[i].kind (colV rows i)
  rw [colV_len] at hb
  refine ⟨by simp only [defC]; omega, by simp only [defC]; omega, by simp only [defC]; omega, ?_⟩
  by_cases hk1 : t.cols[i].kind = 1
  · by_cases hx : (colS t.cols[i].kind (colV rows i)).distinct ≤ 0
    · exact .inr (.inl hx)
    · rw [hk1] at hx ⊢
      have := h.range h6 hi hk1 (by omega)
      have hc6 := h6 _ (List.getElem_mem hi)
      refine .inr (.inr ?_)
      have h3 := hc6.1.1
      have h4 := hc6.2.2
      simp only [defC, hk1, if_true]
      omega
  · exact .inl hk1
theorem zip_getD {α β γ : Type} {f : α → β → γ} {l : List α} {m : List β} {i : Nat} (h : i < (List.zipWith f l m).length) (h1 : i < l.length) (h2 : i < m.length) : (List.zipWith f l m)[i] = f l[i] m[i] := by simp
theorem valid_gath {s : List TabD} {d : List (List (List Val))} (h : DataOK s d) : ValidP s (gathR s d) d := by
  have e : gathR s d = List.zipWith (fun t rows => ofS (kindsT t) rows) s d := if_pos h
  have hl := h.len
  have get : ∀ (i : Nat) (h1 : i < s.length) (h2 : i < (gathR s d).length) (h3 : i < d.length), (gathR s d)[i] = exactT (kindsT s[i]) d[i] := by
    intro i h1 h2 h3
    have h0 := ofS_exact ((h.at h1 h3).rows (h.sch.cols h1))
    simp only [e] at h2 ⊢
    rw [zip_getD h2 h1 h3]
    exact h0
  have hlen : (gathR s d).length = s.length := by rw [e, List.length_zipWith]; omega
  have hst : StatsOK s (gathR s d) := fun i h1 h2 => by
    have h3 : i < d.length := by omega
    rw [get i h1 h2 h3]
    exact exact_fits (kindsT_ok (h.sch.cols h1)) (by have := (h.at h1 h3).len; omega)
  refine ⟨by simp [checkE, h.sch, hlen, hst], h, fun i h1 h2 h3 => ?_⟩
  rw [get i h1 h2 h3]
  exact exact_holds ((h.at h1 h3).rows (h.sch.cols h1)) (by have := (h.at h1 h3).len; omega)
theorem valid_def {s : List TabD} {d : List (List (List Val))} (h : DataOK s d) (h6 : ∀ t ∈ s, ∀ c ∈ t.cols, c.in64) : ValidP s (defR s) d := by
  have e : defR s = s.map (fun t => tightT t (defD t)) := if_pos h.sch
  have hl := h.len
  have get : ∀ (i : Nat) (h1 : i < s.length) (h2 : i < (defR s).length), (defR s)[i] = tightT s[i] (defD s[i]) := by
    intro i h1 h2
    simp only [e] at h2 ⊢
    simp
  have hlen : (defR s).length = s.length := by rw [e, List.length_map]
  have lo : ∀ (t : TabD), ∀ c ∈ (defD t).cols, loOk c := fun t c hc => by
    obtain ⟨a, _, rfl⟩ := List.mem_map.1 hc; exact (defC_ok a).2.2.2
  have hst : StatsOK s (defR s) := fun i h1 h2 => by
    rw [get i h1 h2]
    exact tightT_fits (h6 _ (List.getElem_mem h1)) (defD_fits (h.sch.cols h1)) (lo _)
  refine ⟨by simp [checkE, h.sch, hlen, hst], h, fun i h1 h2 h3 => ?_⟩
  rw [get i h1 h2, tightT_holds (h.at h1 h3) (h6 _ (List.getElem_mem h1)) (h.sch.2.2 i h1).keys (defD_fits (h.sch.cols h1)) (lo _)]
  exact defD_holds (h.at h1 h3) (h6 _ (List.getElem_mem h1)) (h.sch.cols h1)
theorem valid_tight {s : List TabD} {st : List TS} {d : List (List (List Val))} (h : DataOK s d) (hc : checkE s st = 0) (h6 : ∀ t ∈ s, ∀ c ∈ t.cols, c.in64) (hi : ∀ t ∈ st, ∀ c ∈ t.cols, loOk c) :
    checkE s (tightR s st) = 0 ∧ (ValidP s (tightR s st) d ↔ ValidP s st d) := by
  have e : tightR s st = List.zipWith tightT s st := if_pos hc
  obtain ⟨hs, hl, hf⟩ := checkE_ok hc
  have hld := h.len
  have get : ∀ (i : Nat) (h1 : i < s.length) (h2 : i < (tightR s st).length) (h3 : i < st.length), (tightR s st)[i] = tightT s[i] st[i] := by
    intro i h1 h2 h3
    simp only [e] at h2 ⊢
    rw [zip_getD h2 h1 h3]
  have hlen : (tightR s st).length = s.length := by rw [e, List.length_zipWith]; omega
  have hst : StatsOK s (tightR s st) := fun i h1 h2 => by
    have h3 : i < st.length := by omega
    rw [get i h1 h2 h3]
    exact tightT_fits (h6 _ (List.getElem_mem h1)) (hf i h1 h3) (hi _ (List.getElem_mem h3))
  have hck : checkE s (tightR s st) = 0 := by simp [checkE, hs, hlen, hst]
  have hold : ∀ (i : Nat) (h1 : i < s.length) (h2 : i < (tightR s st).length) (h3 : i < st.length) (h4 : i < d.length), holdsB (kindsT s[i]) (tightR s st)[i] d[i] = holdsB (kindsT s[i]) st[i] d[i] := by
    intro i h1 h2 h3 h4
    rw [get i h1 h2 h3]
    exact tightT_holds (h.at h1 h4) (h6 _ (List.getElem_mem h1)) (hs.2.2 i h1).keys (hf i h1 h3) (hi _ (List.getElem_mem h3))
  refine ⟨hck, fun hv => ⟨hc, h, fun i h1 h2 h3 => ?_⟩, fun hv => ⟨hck, h, fun i h1 h2 h3 => ?_⟩⟩
  · rw [← hold i h1 (by omega) h2 h3]; exact hv.2.2 i h1 (by omega) h3
  · rw [hold i h1 h2 (by omega) h3]; exact hv.2.2 i h1 (by omega) h3
set_option maxHeartbeats 2000000 in
theorem c_StatsTightHolds (s : List TabD) (st : List TS) (d : List (List (List Val))) (hs : schemeSmall s) (h6 : ∀ t ∈ s, ∀ c ∈ t.cols, c.in64) (hi : ∀ t ∈ st, ∀ c ∈ t.cols, loOk c) (hd : dataSmall d) :
    call T n_jointerlaw19_StatsTightHolds [.sl false (s.map TabD.enc), .sl false (st.map (TS.enc false)), .sl false (d.map dataX)] = some (.v (.bool true)) := by
  refine go_jointerlaw19_StatsTightHolds (by simp) ?_
  have f1 := c_stats_Gather s d hs hd
  have f2 := c_stats_Valid s (gathR s d) d hs hd
  have f3 := c_stats_Default s hs h6
  have f4 := c_stats_Valid s (defR s) d hs hd
  have f5 := c_stats_Tight s st hs h6 hi
  have f6 := c_stats_Valid s st d hs hd
  have f7 := c_stats_Valid s (tightR s st) d hs hd
  have f8 := c_stats_Check s st hs
  have h7 := c_awake
  by_cases h : DataOK s d
  · have g1 : gathE s d = 0 := if_pos h
    have g2 := valid_gath h
    have g3 : defE s = 0 := if_pos h.sch
    have g4 := valid_def h h6
    have v0 : ∀ t, checkE s t = 0 → validE s t d = 0 := fun t ht => by simp [validE, ht, h]
    rw [bP_iff.2 g2, v0 _ g2.1] at f2
    rw [bP_iff.2 g4, v0 _ g4.1] at f4
    rw [g1] at f1
    rw [g3] at f3
    by_cases hc : checkE s st = 0
    · have ht := valid_tight h hc h6 hi
      rw [v0 _ ht.1, bP_congr ht.2] at f7
      rw [v0 _ hc] at f6
      rw [hc] at f5 f8
      clear g2 g4 v0 ht hs h6 hi hd
      generalize gathR s d = ga at *
      generalize defR s = de at *
      generalize tightR s st = ti at *
      generalize bP (ValidP s st d) = b at *
      simp [f1, f2, f3, f4, f5, f6, f7, f8, h7]
    · clear g2 g4 v0 hs h6 hi hd f6 f7
      generalize checkE s st = c at *
      generalize gathR s d = ga at *
      generalize defR s = de at *
      generalize tightR s st = ti at *
      simp [f1, f2, f3, f4, f5, f8, h7, hc]
  · have g1 : gathE s d = 1 := if_neg h
    rw [g1] at f1
    simp [f1, h7]
end Go.Proofs.YtoodknhlnifnlaaDoor
