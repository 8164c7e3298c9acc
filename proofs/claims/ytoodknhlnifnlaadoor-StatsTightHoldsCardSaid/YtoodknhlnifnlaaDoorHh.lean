/- The law StatsNormalHolds, in the engine's form (seat D's table). -/
import Derived.Test.YtoodknhlnifnlaaDoorHg
import Derived.Test.YtoodknhlnifnlaaDoorNf
import Derived.Test.YtoodknhlnifnlaaDoorAw
set_option linter.all false
set_option linter.unusedVariables false
set_option linter.unusedSimpArgs false
set_option maxRecDepth 100000
namespace Go.Proofs.YtoodknhlnifnlaaDoor
open Go.RowKit
theorem pureN {e : Env} {s : Sto} {p q lo hi : Nat} {a b c : Int} {x : X} {es : List X} (h : resI e s [.cell p 3 true, .tmp q] = some (.tup [.agg [i6 a, i6 b, x], i6 c])) (hx : SlAt s lo hi 5 x es) :
    resT e s [.cell p 3 true, .tmp q] = some (.tup [.agg [i6 a, i6 b, .sl true es], i6 c]) := by
  have h1 : ldX s (e p) 3 true = some (.agg [i6 a, i6 b, x]) ∧ e q = i6 c := by
    simp only [resI, resIL, resIX] at h
    cases hl : ldX s (e p) 3 true with
    | none => simp [hl] at h
    | some y => simp [hl] at h; exact ⟨by rw [h.1], h.2⟩
  have d1 : ∀ n, dpn s (i6 n) = some (i6 n) := fun _ => rfl
  have d2 : ∀ n, dpC s (i6 n) = some (i6 n) := fun _ => rfl
  simp only [resT, resL, resX, h1.1, h1.2, dpC, dpL, hx.dpn, d1, d2]
theorem c_stats_Normal (ks : List Int) (t : TS) (hl : t.cols.length ≤ 3518437208883) (hkl : ks.length ≤ 9223372036854775807) (hi : ∀ c ∈ t.cols, loOk c) :
    call T n_stats_Normal [.sl false (ks.map u8), .agg [i6 t.low, i6 t.rows, .sl false (t.cols.map Col.enc)]] = some (.tup [(nrmT ks t).enc true, i6 (faultE ks [t])]) :=
  go_stats_Normal (by simp) (wp_mono (w_stats_Normal ks t hl hkl hi s0) (by
    rintro e s' ⟨r, hr, _, x, rfl, hx⟩
    exact pureN hr hx))
set_option maxHeartbeats 2000000 in
theorem c_StatsNormalHolds (ks : List Int) (t : TS) (rows : List (List Val)) (hkl : ks.length ≤ 9223372036854775807) (hl : t.cols.length ≤ 3518437208882) (hi : ∀ c ∈ t.cols, loOk c) (ho : rowsOk rows) :
    call T n_jointerlaw19_StatsNormalHolds [.sl false (ks.map u8), t.enc false, .sl false (rows.map rowX)] = some (.v (.bool true)) := by
  refine go_jointerlaw19_StatsNormalHolds (by simp) ?_
  have po := c_stats_Normal ks t (by omega) hkl hi
  have ff : ∀ t : TS, call T n_stats_Fits [.sl false (ks.map u8), .agg [i6 t.low, i6 t.rows, .sl false (t.cols.map Col.enc)]] = some (.v (.bool (fitsB ks t))) := fun t => c_stats_Fits ks t hkl
  have hh : ∀ t : TS, call T n_stats_Holds [.sl false (ks.map u8), .agg [i6 t.low, i6 t.rows, .sl false (t.cols.map Col.enc)], .sl false (rows.map rowX)] = some (.v (.bool (holdsB ks t rows))) := fun t => c_stats_Holds ks t rows hkl ho
  have h7 := c_awake
  cases hf : fitsB ks t
  · have hE : ¬ faultE ks [t] = 0 := by
      cases hk : kindsB ks <;> simp [faultE, hk, hf]
    have hh0 : holdsB ks t rows = false := by simp [holdsB, hf]
    generalize faultE ks [t] = E at *
    generalize nrmT ks t = u at *
    simp [po, ff, hh, hh0, hf, h7, hE]
  · have hk : kindsB ks = true := by
      simp only [fitsB, Bool.and_eq_true] at hf; exact hf.1
    have hE : faultE ks [t] = 0 := by simp [faultE, hk, hf]
    have hok := okT_of hf hi
    have hg := normT_gr hok
    have e0 : nrmT ks t = normT ks t := if_pos hE
    rw [hE, e0] at po
    have nf := norm_fits hf hi
    have nh := norm_holds (rows := rows) hf hi
    have ni := norm_idem hok
    have nn := fun i h => norm_nulls (t := t) hok (i := i) h
    have hlow := hg.le.low
    have hrow := hg.le.rows
    have hlen := hg.le.cols.len
    have hget := fun i h1 h2 => hg.le.cols.get i h1 h2
    have hin : ∀ c ∈ (normT ks t).cols, loOk c := fun c hc => (hg.ok.cols c hc).2.2.2
    have pn := c_stats_Normal ks (normT ks t) (by omega) hkl hin
    have hE2 : faultE ks [normT ks t] = 0 := by simp [faultE, hk, nf]
    have e2 : nrmT ks (normT ks t) = normT ks t := (if_pos hE2).trans ni
    rw [hE2, e2] at pn
    have sm : call T n_jointerlaw19_Same [.agg [i6 (normT ks t).low, i6 (normT ks t).rows, .sl false ((normT ks t).cols.map Col.enc)], .agg [i6 (normT ks t).low, i6 (normT ks t).rows, .sl false ((normT ks t).cols.map Col.enc)]] = some (.v (.bool true)) := by
      have h6 := c_jointerlaw19_Same (normT ks t) (normT ks t) (by omega)
      rw [TS.same_refl] at h6; exact h6
    clear ni e0 e2 hg
    generalize normT ks t = n at *
    have fn := ff n
    have hn := hh n
    have ht := hh t
    rw [hlow] at pn sm fn hn
    rw [nf] at fn
    rw [nh] at hn
    clear ff hh
    simp [po, pn, sm, fn, hlow, show ¬ t.rows < n.rows by omega]
    have hcs : Hd (∀ (i : Nat) (h1 : i < n.cols.length) (h2 : i < t.cols.length), (n.cols[i].nulls ≤ t.cols[i].nulls ∧ n.cols[i].nulls ≤ n.rows) ∧ n.cols[i].distinct ≤ t.cols[i].distinct ∧ n.cols[i].degree ≤ t.cols[i].degree) :=
      ⟨fun i h1 h2 => by obtain ⟨a, b, c, _⟩ := hget i h1 h2; exact ⟨⟨a, nn i h1⟩, b, c⟩⟩
    clear hget nn hin
    refine wp_rounds (σ := Nat) (fun i e s => e 0 = .sl false (ks.map u8) ∧ e 2 = .sl false (rows.map rowX) ∧ e 4 = .ptr 4 1 0 ∧ e 7 = .ptr 7 1 0 ∧ (∃ m, s 4 = ⟨1, true, some (.box (.agg [i6 t.low, i6 t.rows, .sl false (t.cols.map Col.enc)])), m⟩) ∧ (∃ f m, s 7 = ⟨1, true, some (.box (.agg [i6 t.low, i6 n.rows, .sl f (n.cols.map Col.enc)])), m⟩) ∧
        e 11 = i6 i ∧ i ≤ n.cols.length) (fun i => n.cols.length - i) ?_ 0 _ _
      ⟨by simp, by simp, by simp, by simp, ⟨_, by simp; rfl⟩, ⟨_, _, by simp; exact ⟨rfl, rfl⟩⟩, by simp, by omega⟩
    rintro i e s ⟨e0, e2, e4, e7, ⟨m4, s4⟩, ⟨f, m7, s7⟩, e11, hi⟩ ih
    simp [e0, e2, e4, e7, e11, s4, s7]
    refine wpC_split (fun q => ?_) (fun q => ?_) <;> (have q' := q; try simp at q') <;> (try simp [*])
    · have h2 : i < t.cols.length := by omega
      obtain ⟨⟨a1, a2⟩, a3, a4⟩ := hcs.out i q' h2
      have ga : n.cols[i]? = some n.cols[i] := List.getElem?_eq_getElem q'
      have gb : t.cols[i]? = some t.cols[i] := List.getElem?_eq_getElem h2
      have hq : i < t.cols.length := h2
      have b1 : ¬ min t.cols[i].nulls n.rows < n.cols[i].nulls := by omega
      simp [hq, q', ga, gb, e0, e2, e4, e7, e11, s4, s7, b1, show ¬ t.cols[i].distinct < n.cols[i].distinct by omega, show ¬ t.cols[i].degree < n.cols[i].degree by omega]
      refine ih.out (i + 1) _ _ ?_ (by omega)
      exact ⟨by simp [e0], by simp [e2], by simp [e4], by simp [e7], ⟨m4, by simp [s4]⟩, ⟨f, m7, by simp [s7]⟩, by simp [e11, wrap_succ q' (by omega : n.cols.length ≤ 9223372036854775807)], by omega⟩
end Go.Proofs.YtoodknhlnifnlaaDoor
