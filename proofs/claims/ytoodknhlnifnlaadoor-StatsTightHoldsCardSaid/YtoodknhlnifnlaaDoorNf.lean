/- Normal, and the law StatsNormal, in the engine's form. -/
import Derived.Test.YtoodknhlnifnlaaDoorNe
import Derived.Test.YtoodknhlnifnlaaDoorAw
set_option linter.all false
set_option linter.unusedVariables false
set_option linter.unusedSimpArgs false
set_option maxRecDepth 100000
namespace Go.Proofs.YtoodknhlnifnlaaDoor
open Go.RowKit
theorem normT_nil {ks : List Int} {t : TS} (hok : okT ks t) (h0 : t.cols = []) : normT ks t = t :=
  normT_of ((Way.start hok).fin (fun i h h' => by rw [h0] at h'; simp at h'))
theorem w_stats_normal0 {fl : Bool} (ks : List Int) (t : TS) (hok : okT ks t) (h0 : t.cols = []) (s : Sto) :
    wp T [.code B_stats_normal] (ini [.sl fl (ks.map u8), .agg [i6 t.low, i6 t.rows, .nil]]) s (OutN 4005 s (normT ks t)) := by
  rw [normT_nil hok h0]
  simp
  refine wp_rounds (σ := Unit) (fun n e s' => e 3 = .ptr 2003 ((s 2003).g + 1) 0 ∧ (∃ m, s' 2003 = ⟨(s 2003).g + 1, true, some (.box (.agg [i6 t.low, i6 t.rows, .nil])), m⟩) ∧ e 4 = .ptr 2004 ((s 2004).g + 1) 0 ∧ (∃ m, s' 2004 = ⟨(s 2004).g + 1, true, some (.box (.agg [i6 0, i6 0, .nil])), m⟩) ∧ Fr2 2000 3000 4005 4006 s s') (fun _ => 0) ?_ () _ _
    ⟨by simp, ⟨_, by simp; rfl⟩, by simp, ⟨_, by simp; rfl⟩, (Fr2.newO (fun _ _ _ => rfl) _ (by omega)).newO _ (by omega)⟩
  rintro _ e s' ⟨e3, ⟨m3, s3⟩, e4, ⟨m4, s4⟩, hF⟩ ih
  simp [e3, s3]
  refine wp_rounds (σ := Unit) (fun n e s'' => e 3 = .ptr 2003 ((s 2003).g + 1) 0 ∧ e 4 = .ptr 2004 ((s 2004).g + 1) 0 ∧ e 11 = i6 0 ∧ e 12 = i6 0 ∧ s'' = s') (fun _ => 0) ?_ () _ _
    ⟨by simp [e3], by simp [e4], by simp, by simp, rfl⟩
  rintro _ e' s'' ⟨e3, e4, e11, e12, rfl⟩ ih2
  simp [e3, e4, e11, e12, s3, s4]
  refine ⟨.agg [i6 t.low, i6 t.rows, .nil], by simp [resI, resIL, resIX, e4, s4], hF.setO _ (by omega), .nil, rfl, .inl ⟨by rw [h0]; rfl, rfl⟩⟩
theorem i_stats_normal (ks : List Int) (t : TS) (hok : okT ks t) (hl : t.cols.length ≤ 3518437208883) (x : X) (s : Sto) (hx : SlAt s 4005 4006 5 x (t.cols.map Col.enc)) :
    ∃ r, callI (run T) T n_stats_normal [.sl false (ks.map u8), .agg [i6 t.low, i6 t.rows, x]] s = some r ∧ Fr2 2000 3000 4005 4006 s r.2 ∧ ∃ x, r.1 = .agg [i6 (normT ks t).low, i6 (normT ks t).rows, x] ∧ SlAt r.2 4005 4006 5 x ((normT ks t).cols.map Col.enc) := by
  refine callI_wp (nt := 121) (res := [.cell 4 3 true]) (body := B_stats_normal) (P := fun r => Fr2 2000 3000 4005 4006 s r.2 ∧ ∃ x, r.1 = .agg [i6 (normT ks t).low, i6 (normT ks t).rows, x] ∧ SlAt r.2 4005 4006 5 x ((normT ks t).cols.map Col.enc)) (by kernel_rfl) (by simp) ?_
  rcases hx with ⟨h0, rfl⟩ | ⟨h0, o, g, n, rfl, hs, h1, h2⟩
  · exact w_stats_normal0 (fl := false) ks t hok (by simpa using h0) s
  · obtain rfl : o = 4005 := by omega
    have := w_stats_normal (fl := false) ks t hok hl (by rcases Nat.eq_zero_or_pos t.cols.length with h | h; exact absurd (by rw [List.eq_nil_of_length_eq_zero h]; rfl) h0; exact h) 4005 g n (by omega) s hs
    rw [List.length_map]
    exact this
theorem Fr2.fr {lo hi lo' hi' a b : Nat} {s s' : Sto} (h : Fr2 lo hi lo' hi' s s') (h1 : a ≤ lo) (h2 : hi ≤ b) (h3 : a ≤ lo') (h4 : hi' ≤ b) : Fr a b s s' := ⟨fun o ho => h o (by omega) (by omega)⟩
theorem w_stats_Normal (ks : List Int) (t : TS) (hl : t.cols.length ≤ 3518437208883) (hkl : ks.length ≤ 9223372036854775807) (hi : ∀ c ∈ t.cols, loOk c) (s : Sto) :
    wp T [.code B_stats_Normal] (ini [.sl false (ks.map u8), t.enc false]) s (fun e s' => ∃ r, resI e s' [.cell 4 3 true, .tmp 5] = some r ∧ Fr 1000 7000 s s' ∧ ∃ x, r = .tup [.agg [i6 (nrmT ks t).low, i6 (nrmT ks t).rows, x], i6 (faultE ks [t])] ∧ SlAt s' 4005 4006 5 x ((nrmT ks t).cols.map Col.enc)) := by
  have f1 : call T n_stats_fault [.sl false (ks.map u8), .sl false [.agg [i6 t.low, i6 t.rows, .sl false (t.cols.map Col.enc)]]] = some (i6 (faultE ks [t])) := c_stats_fault1 ks t hkl
  have hok : faultE ks [t] = 0 → okT ks t := by
    intro h
    refine okT_of ?_ hi
    cases hk : kindsB ks <;> cases ha : fitsB ks t <;> simp [faultE, hk, ha] at h <;> rfl
  have g1 : ¬ faultE ks [t] = 0 → nrmT ks t = ⟨0, 0, []⟩ := fun h => if_neg h
  have g2 : faultE ks [t] = 0 → nrmT ks t = normT ks t := fun h => if_pos h
  generalize faultE ks [t] = E at *
  generalize nrmT ks t = N at *
  simp [f1]
  refine wpC_split (fun h => ?_) (fun h => ?_) <;> (try simp [*])
  · simp at h
    obtain rfl := g1 h
    refine ⟨.tup [.agg [i6 0, i6 0, .nil], i6 E], by simp [resI, resIL, resIX], ?_, .nil, rfl, .inl ⟨rfl, rfl⟩⟩
    repeat (first | exact Fr.refl _ _ _ | refine Fr.setO ?_ _ (by omega) | refine Fr.newO ?_ _ (by omega))
  · simp at h
    subst h
    obtain rfl := g2 rfl
    refine wpR_ex1 (i_stats_clone t hl _) ?_
    rintro ⟨r, s1⟩ ⟨hF1, x, rfl, hx⟩
    have h4 : s1 6004 = _ := hF1 6004 (by omega) (by omega)
    simp at h4
    simp
    refine wpR_ex1 (i_stats_normal ks t (hok rfl) hl x _ hx) ?_
    rintro ⟨r, s2⟩ ⟨hF2, y, rfl, hy⟩
    have k4 : s2 6004 = _ := hF2 6004 (by omega) (by omega)
    simp [h4] at k4
    simp [k4, hy.one.1, hy.one.2]
    refine ⟨.tup [.agg [i6 (normT ks t).low, i6 (normT ks t).rows, y], i6 0], by simp [resI, resIL, resIX, k4], ?_, y, rfl, hy.fr ((Fr.refl 6004 6005 s2).setO _ (by omega)) (by omega)⟩
    refine Fr.setO (Fr.trans (Fr.trans ?_ (hF1.fr (by omega) (by omega) (by omega) (by omega))) (hF2.fr (by omega) (by omega) (by omega) (by omega))) _ (by omega)
    repeat (first | exact Fr.refl _ _ _ | refine Fr.setO ?_ _ (by omega) | refine Fr.newO ?_ _ (by omega))
theorem i_stats_Normal (ks : List Int) (t : TS) (hl : t.cols.length ≤ 3518437208883) (hkl : ks.length ≤ 9223372036854775807) (hi : ∀ c ∈ t.cols, loOk c) (s : Sto) :
    ∃ r, callI (run T) T n_stats_Normal [.sl false (ks.map u8), .agg [i6 t.low, i6 t.rows, .sl false (t.cols.map Col.enc)]] s = some r ∧ Fr 1000 7000 s r.2 ∧ ∃ x, r.1 = .tup [.agg [i6 (nrmT ks t).low, i6 (nrmT ks t).rows, x], i6 (faultE ks [t])] ∧ SlAt r.2 4005 4006 5 x ((nrmT ks t).cols.map Col.enc) :=
  callI_wp (nt := 19) (res := [.cell 4 3 true, .tmp 5]) (body := B_stats_Normal) (P := fun r => Fr 1000 7000 s r.2 ∧ ∃ x, r.1 = .tup [.agg [i6 (nrmT ks t).low, i6 (nrmT ks t).rows, x], i6 (faultE ks [t])] ∧ SlAt r.2 4005 4006 5 x ((nrmT ks t).cols.map Col.enc)) (by kernel_rfl) (by simp) (w_stats_Normal ks t hl hkl hi s)
theorem nrmT_len (ks : List Int) (t : TS) (hi : ∀ c ∈ t.cols, loOk c) : (nrmT ks t).cols.length ≤ t.cols.length := by
  unfold nrmT; split
  · rename_i h
    have hok : okT ks t := by
      refine okT_of ?_ hi
      cases hk : kindsB ks <;> cases ha : fitsB ks t <;> simp [faultE, hk, ha] at h <;> rfl
    have := (normT_gr hok).ok.len
    have := hok.len
    omega
  · simp
end Go.Proofs.YtoodknhlnifnlaaDoor
