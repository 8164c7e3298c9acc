/- Contracts of functions whose results are written on: the store beside. -/
import Derived.Test.YtoodknhlnifnlaaGreatDoorCe
import Derived.Test.YtoodknhlnifnlaaGreatDoorDz
set_option linter.all false
set_option linter.unusedVariables false
set_option linter.unusedSimpArgs false
set_option maxRecDepth 100000
namespace Go.Proofs.YtoodknhlnifnlaaGreatDoor
open Go.RowKit
/-- The exact descriptions of some columns. -/
def colsS (ks : List Int) (rows : List (List Val)) : List Col := (List.range ks.length).map fun j => colS (ks.getD j 0) (colV rows j)
theorem colsS_len (ks : List Int) (rows : List (List Val)) : (colsS ks rows).length = ks.length := by simp [colsS]
theorem colsS_take {ks : List Int} {rows : List (List Val)} {i : Nat} (h : i < ks.length) : (colsS ks rows).take (i + 1) = (colsS ks rows).take i ++ [colS ks[i] (colV rows i)] := by
  rw [List.take_add_one]
  congr 1
  simp [colsS, h]
def ofS (ks : List Int) (rows : List (List Val)) : TS := if fitRowsB ks rows then ⟨rows.length, rows.length, colsS ks rows⟩ else ⟨0, 0, []⟩
def ofE (ks : List Int) (rows : List (List Val)) : Int := if fitRowsB ks rows then 0 else 1
/-- The way out of a function that hands back a description and an error. -/
def OutTS (lo hi : Nat) (s : Sto) (t : TS) (err : Int) (p q : Nat) (e' : Env) (s' : Sto) : Prop :=
  Fr lo hi s s' ∧ ∃ o g n x, e' p = .ptr o g 0 ∧ s' o = ⟨g, true, some (.box (.agg [i6 t.low, i6 t.rows, x])), n⟩ ∧ SlAt s' lo hi 5 x (t.cols.map Col.enc) ∧ e' q = i6 err
theorem OutTS.pure {lo hi : Nat} {s : Sto} {t : TS} {err : Int} {p q : Nat} {e : Env} {s' : Sto} (h : OutTS lo hi s t err p q e s') : resT e s' [.cell p 3 true, .tmp q] = some (.tup [t.enc true, i6 err]) := by
  obtain ⟨_, o, g, n, x, h1, h2, h3, h4⟩ := h
  simp [h1, h2, h4, h3.dpn (by simp)]
theorem OutTS.inl {lo hi : Nat} {s : Sto} {t : TS} {err : Int} {p q : Nat} {e : Env} {s' : Sto} (h : OutTS lo hi s t err p q e s') : ∃ r, resI e s' [.cell p 3 true, .tmp q] = some r ∧ Fr lo hi s s' ∧ ∃ x, r = .tup [.agg [i6 t.low, i6 t.rows, x], i6 err] ∧ SlAt s' lo hi 5 x (t.cols.map Col.enc) := by
  obtain ⟨h0, o, g, n, x, h1, h2, h3, h4⟩ := h
  exact ⟨.tup [.agg [i6 t.low, i6 t.rows, x], i6 err], by simp [resI, resIL, resIX, h1, h2, h4], h0, x, rfl, h3⟩
set_option maxHeartbeats 1000000 in
theorem w_stats_Of (ks : List Int) (rows : List (List Val)) (hl : ks.length ≤ 3518437208883) (ho : rowsOk rows) (s : Sto) :
    wp T [.code B_stats_Of] (ini [.sl false (ks.map u8), .sl false (rows.map rowX)]) s (OutTS 5000 6000 s (ofS ks rows) (ofE ks rows) 4 5) := by
  have hl' : ks.length ≤ 9223372036854775807 := by omega
  have f1 := c_stats_fitRows ks rows hl' ho
  simp [f1]
  refine wpC_split (fun h1 => ?_) (fun h1 => ?_) <;> (have h1' := h1; try simp at h1') <;> (try simp [*])
  · refine ⟨?_, 5004, (s 5004).g + 1, _, .nil, by simp, by simp [ofS, h1']; rfl, .inl ⟨by simp [ofS, h1'], rfl⟩, by simp [ofE, h1']⟩
    exact ((Fr.refl _ _ s).newO _ (by omega)).setO _ (by omega)
  have hrl := fitRows_len h1'
  refine wp_rounds (σ := Nat) (fun i e s' => e 1 = .sl false (rows.map rowX) ∧ e 4 = .ptr 5004 ((s 5004).g + 1) 0 ∧ (∃ g n x, e 6 = .ptr 5006 g 0 ∧ s' 5006 = ⟨g, true, some (.box (.agg [i6 rows.length, i6 rows.length, x])), n⟩ ∧
      ((i = 0 ∧ x = .nil) ∨ (0 < i ∧ ∃ g' n', x = .ref 5033 g' 5 0 i ∧ s' 5033 = ⟨g', true, some (.row 5 (((colsS ks rows).take i).map Col.enc)), n'⟩))) ∧
      (∃ n, s' 5004 = ⟨(s 5004).g + 1, true, some (.box (.agg [i6 0, i6 0, .nil])), n⟩) ∧ e 19 = .sl false (ks.map u8) ∧ e 20 = i6 ks.length ∧ e 21 = i6 i ∧ i ≤ ks.length ∧ Fr 5000 6000 s s') (fun i => ks.length - i) ?_ 0 _ _
    ⟨rfl, rfl, ⟨(s 5006).g + 1, _, .nil, by simp, by simp; rfl, .inl ⟨rfl, rfl⟩⟩, ⟨_, by simp; rfl⟩, by simp, by simp, by simp, by omega, ((((Fr.refl _ _ s).newO _ (by omega)).newO _ (by omega)).setO _ (by omega))⟩
  rintro i e s' ⟨e1, e4, ⟨g6, n6, x, e6, s6, hx⟩, ⟨n4, s4⟩, e19, e20, e21, hi, hF⟩ ih
  simp [e1, e4, e6, e19, e20, e21, s6, s4]
  refine wpC_split (fun h => ?_) (fun h => ?_) <;> (have h' := h; try simp at h') <;> (try simp [*])
  · have hcol := c_stats_column ks[i] rows i ho (fun r hr => by rw [hrl r hr]; exact h')
    have hok : okE 5 [(colS ks[i] (colV rows i)).enc] = true := by simp [okE]
    have next : ∀ e' s2, e' 1 = .sl false (rows.map rowX) → e' 4 = .ptr 5004 ((s 5004).g + 1) 0 → e' 6 = .ptr 5006 g6 0 → (∃ n, s2 5006 = ⟨g6, true, some (.box (.agg [i6 rows.length, i6 rows.length, .ref 5033 (s2 5033).g 5 0 (i + 1)])), n⟩) →
        (∃ n, s2 5033 = ⟨(s2 5033).g, true, some (.row 5 (((colsS ks rows).take i).map Col.enc ++ [(colS ks[i] (colV rows i)).enc])), n⟩) → (∃ n, s2 5004 = ⟨(s 5004).g + 1, true, some (.box (.agg [i6 0, i6 0, .nil])), n⟩) → e' 19 = .sl false (ks.map u8) → e' 20 = i6 ks.length → e' 21 = i6 ((i + 1 : Nat) : Int) → Fr 5000 6000 s s2 →
        wp T [.lp stats_Of_l1, .bl 0, .code ((IC.ops stats_Of_r9).seq IC.ret)] e' s2 (OutTS 5000 6000 s (ofS ks rows) (ofE ks rows) 4 5) := by
      intro e' s2 x1 x4 x6 ⟨n, y6⟩ ⟨m, y33⟩ y4 x19 x20 x21 hF2
      refine ih.out (i + 1) _ _ ⟨x1, x4, ⟨g6, n, _, x6, y6, .inr ⟨by omega, _, m, rfl, ?_⟩⟩, y4, x19, x20, x21, h', hF2⟩ (by omega)
      rw [colsS_take h', List.map_append, List.map_cons, List.map_nil]; exact y33
    replace next := Hd.mk next
    rcases hx with ⟨hi0, rfl⟩ | ⟨hi0, g', n', rfl, s33⟩
    · have ht0 : (colsS ks rows).take i = [] := by rw [hi0]; rfl
      simp [hcol, e1, e4, e6, e19, e20, e21, s6, s4, -okE, hok]
      refine next.out _ _ (by simp [e1]) (by simp [e4]) (by simp [e6]) (so_mk (by simp [s6]) (by simp [s6]) (by simp [s6, hi0])) (so_mk (by simp) (by simp) (by simp [ht0])) (so_mk (by simp [s4]) (by simp [s4]) (by simp [s4])) (by simp [e19]) (by simp [e20]) (by simp [wrap_succ h' hl']) ?_
      exact (hF.newO _ (by omega)).setO _ (by omega)
    · have hlen : (((colsS ks rows).take i).map Col.enc).length = i := by rw [List.length_map, List.length_take, colsS_len]; omega
      simp [hcol, e1, e4, e6, e19, e20, e21, s6, s4, s33, -okE, hok]
      rw [if_pos ⟨by rw [colsS_len]; omega, by omega⟩]
      simp [e1, e4, e6, e19, e20, e21, s6, s4, s33]
      refine next.out _ _ (by simp [e1]) (by simp [e4]) (by simp [e6]) (so_mk (by simp [s6]) (by simp [s6]) (by simp [s6, s33])) (so_mk (by simp) (by simp) (by simp [Col.enc, List.map_take])) (so_mk (by simp [s4]) (by simp [s4]) (by simp [s4])) (by simp [e19]) (by simp [e20]) (by simp [wrap_succ h' hl']) ?_
      exact (hF.newO _ (by omega)).setO _ (by omega)
  · have hie : i = ks.length := by omega
    subst hie
    have htk : (colsS ks rows).take ks.length = colsS ks rows := List.take_of_length_le (by rw [colsS_len]; omega)
    rw [htk] at hx
    have hone : x.one = true := by rcases hx with ⟨_, rfl⟩ | ⟨_, g', n', rfl, _⟩ <;> rfl
    simp [hone, e1, e4, e6, e19, e20, e21, s6, s4]
    refine ⟨hF.setO _ (by omega), 5004, (s 5004).g + 1, n4 + 1, x, by simp [e4], by simp [s4, ofS, h1'], ?_, by simp [ofE, h1']⟩
    rcases hx with ⟨h0, rfl⟩ | ⟨h0, g', n', rfl, s33⟩
    · exact .inl ⟨by simp [ofS, h1', colsS, h0], rfl⟩
    · refine .inr ⟨?_, 5033, g', n', by simp [ofS, h1', colsS_len], by simp [s33, ofS, h1'], by omega, by omega⟩
      intro hc
      have := congrArg List.length hc
      simp [ofS, h1', colsS_len] at this; simp [this] at h0
theorem i_stats_Of (ks : List Int) (rows : List (List Val)) (hl : ks.length ≤ 3518437208883) (ho : rowsOk rows) (s : Sto) :
    ∃ r, callI (run T) T n_stats_Of [.sl false (ks.map u8), .sl false (rows.map rowX)] s = some r ∧ Fr 5000 6000 s r.2 ∧ ∃ x, r.1 = .tup [.agg [i6 (ofS ks rows).low, i6 (ofS ks rows).rows, x], i6 (ofE ks rows)] ∧ SlAt r.2 5000 6000 5 x ((ofS ks rows).cols.map Col.enc) :=
  callI_wp (nt := 37) (res := [.cell 4 3 true, .tmp 5]) (body := B_stats_Of) (P := fun r => Fr 5000 6000 s r.2 ∧ ∃ x, r.1 = .tup [.agg [i6 (ofS ks rows).low, i6 (ofS ks rows).rows, x], i6 (ofE ks rows)] ∧ SlAt r.2 5000 6000 5 x ((ofS ks rows).cols.map Col.enc)) (by kernel_rfl) (by simp) (wp_mono (w_stats_Of ks rows hl ho s) (fun e s' h => h.inl))
theorem c_stats_Of (ks : List Int) (rows : List (List Val)) (hl : ks.length ≤ 3518437208883) (ho : rowsOk rows) :
    call T n_stats_Of [.sl false (ks.map u8), .sl false (rows.map rowX)] = some (.tup [(ofS ks rows).enc true, i6 (ofE ks rows)]) :=
  go_stats_Of (by simp) (wp_mono (w_stats_Of ks rows hl ho s0) (fun e s' h => h.pure))
set_option maxHeartbeats 1000000 in
theorem w_jointerref19_Of (ks : List Int) (rows : List (List Val)) (hl : ks.length ≤ 3518437208883) (ho : rowsOk rows) (s : Sto) :
    wp T [.code B_jointerref19_Of] (ini [.sl false (ks.map u8), .sl false (rows.map rowX)]) s (OutTS 0 1000 s (ofS ks rows) (ofE ks rows) 4 5) := by
  have hl' : ks.length ≤ 9223372036854775807 := by omega
  have f1 := c_jointerref19_FitRows ks rows hl' ho
  simp [f1]
  refine wpC_split (fun h1 => ?_) (fun h1 => ?_) <;> (have h1' := h1; try simp at h1') <;> (try simp [*])
  · refine ⟨?_, 4, (s 4).g + 1, _, .nil, by simp, by simp [ofS, h1']; rfl, .inl ⟨by simp [ofS, h1'], rfl⟩, by simp [ofE, h1']⟩
    exact ((Fr.refl _ _ s).newO _ (by omega)).setO _ (by omega)
  have hrl := fitRows_len h1'
  refine wp_rounds (σ := Nat) (fun i e s' => e 1 = .sl false (rows.map rowX) ∧ e 0 = .sl false (ks.map u8) ∧ e 4 = .ptr 4 ((s 4).g + 1) 0 ∧ (∃ g n x, e 6 = .ptr 6 g 0 ∧ s' 6 = ⟨g, true, some (.box (.agg [i6 rows.length, i6 rows.length, x])), n⟩ ∧
      ((i = 0 ∧ x = .nil) ∨ (0 < i ∧ ∃ g' n', x = .ref 34 g' 5 0 i ∧ s' 34 = ⟨g', true, some (.row 5 (((colsS ks rows).take i).map Col.enc)), n'⟩))) ∧
      (∃ n, s' 4 = ⟨(s 4).g + 1, true, some (.box (.agg [i6 0, i6 0, .nil])), n⟩) ∧ e 7 = i6 i ∧ i ≤ ks.length ∧ Fr 0 1000 s s') (fun i => ks.length - i) ?_ 0 _ _
    ⟨rfl, rfl, rfl, ⟨(s 6).g + 1, _, .nil, by simp, by simp; rfl, .inl ⟨rfl, rfl⟩⟩, ⟨_, by simp; rfl⟩, by simp, by omega, ((((Fr.refl _ _ s).newO _ (by omega)).newO _ (by omega)).setO _ (by omega))⟩
  rintro i e s' ⟨e1, e0, e4, ⟨g6, n6, x, e6, s6, hx⟩, ⟨n4, s4⟩, e7, hi, hF⟩ ih
  simp [e1, e4, e6, e0, e7, s6, s4]
  refine wpC_split (fun h => ?_) (fun h => ?_) <;> (have h' := h; try simp at h') <;> (try simp [*])
  · have hcol := c_jointerref19_Column ks[i] rows i ho (fun r hr => by rw [hrl r hr]; exact h') (fitRows_valid h1')
    have hok : okE 5 [(colS ks[i] (colV rows i)).enc] = true := by simp [okE]
    have next : ∀ e' s2, e' 1 = .sl false (rows.map rowX) → e' 4 = .ptr 4 ((s 4).g + 1) 0 → e' 6 = .ptr 6 g6 0 → (∃ n, s2 6 = ⟨g6, true, some (.box (.agg [i6 rows.length, i6 rows.length, .ref 34 (s2 34).g 5 0 (i + 1)])), n⟩) →
        (∃ n, s2 34 = ⟨(s2 34).g, true, some (.row 5 (((colsS ks rows).take i).map Col.enc ++ [(colS ks[i] (colV rows i)).enc])), n⟩) → (∃ n, s2 4 = ⟨(s 4).g + 1, true, some (.box (.agg [i6 0, i6 0, .nil])), n⟩) → e' 0 = .sl false (ks.map u8) → e' 7 = i6 ((i + 1 : Nat) : Int) → Fr 0 1000 s s2 →
        wp T [.lp jointerref19_Of_l1, .bl 0, .code ((IC.ops jointerref19_Of_r8).seq IC.ret)] e' s2 (OutTS 0 1000 s (ofS ks rows) (ofE ks rows) 4 5) := by
      intro e' s2 x1 x4 x6 ⟨n, y6⟩ ⟨m, y33⟩ y4 x0 x7 hF2
      refine ih.out (i + 1) _ _ ⟨x1, x0, x4, ⟨g6, n, _, x6, y6, .inr ⟨by omega, _, m, rfl, ?_⟩⟩, y4, x7, h', hF2⟩ (by omega)
      rw [colsS_take h', List.map_append, List.map_cons, List.map_nil]; exact y33
    replace next := Hd.mk next
    rcases hx with ⟨hi0, rfl⟩ | ⟨hi0, g', n', rfl, s33⟩
    · have ht0 : (colsS ks rows).take i = [] := by rw [hi0]; rfl
      simp [hcol, e1, e4, e6, e0, e7, s6, s4, -okE, hok]
      refine next.out _ _ (by simp [e1]) (by simp [e4]) (by simp [e6]) (so_mk (by simp [s6]) (by simp [s6]) (by simp [s6, hi0])) (so_mk (by simp) (by simp) (by simp [ht0])) (so_mk (by simp [s4]) (by simp [s4]) (by simp [s4])) (by simp [e0]) (by simp [wrap_succ h' hl']) ?_
      exact (hF.newO _ (by omega)).setO _ (by omega)
    · have hlen : (((colsS ks rows).take i).map Col.enc).length = i := by rw [List.length_map, List.length_take, colsS_len]; omega
      simp [hcol, e1, e4, e6, e0, e7, s6, s4, s33, -okE, hok]
      rw [if_pos ⟨by rw [colsS_len]; omega, by omega⟩]
      simp [e1, e4, e6, e0, e7, s6, s4, s33]
      refine next.out _ _ (by simp [e1]) (by simp [e4]) (by simp [e6]) (so_mk (by simp [s6]) (by simp [s6]) (by simp [s6, s33])) (so_mk (by simp) (by simp) (by simp [Col.enc, List.map_take])) (so_mk (by simp [s4]) (by simp [s4]) (by simp [s4])) (by simp [e0]) (by simp [wrap_succ h' hl']) ?_
      exact (hF.newO _ (by omega)).setO _ (by omega)
  · have hie : i = ks.length := by omega
    subst hie
    have htk : (colsS ks rows).take ks.length = colsS ks rows := List.take_of_length_le (by rw [colsS_len]; omega)
    rw [htk] at hx
    have hone : x.one = true := by rcases hx with ⟨_, rfl⟩ | ⟨_, g', n', rfl, _⟩ <;> rfl
    simp [hone, e1, e4, e6, e0, e7, s6, s4]
    refine ⟨hF.setO _ (by omega), 4, (s 4).g + 1, n4 + 1, x, by simp [e4], by simp [s4, ofS, h1'], ?_, by simp [ofE, h1']⟩
    rcases hx with ⟨h0, rfl⟩ | ⟨h0, g', n', rfl, s33⟩
    · exact .inl ⟨by simp [ofS, h1', colsS, h0], rfl⟩
    · refine .inr ⟨?_, 34, g', n', by simp [ofS, h1', colsS_len], by simp [s33, ofS, h1'], by omega, by omega⟩
      intro hc
      have := congrArg List.length hc
      simp [ofS, h1', colsS_len] at this; simp [this] at h0
theorem c_jointerref19_Of (ks : List Int) (rows : List (List Val)) (hl : ks.length ≤ 3518437208883) (ho : rowsOk rows) :
    call T n_jointerref19_Of [.sl false (ks.map u8), .sl false (rows.map rowX)] = some (.tup [(ofS ks rows).enc true, i6 (ofE ks rows)]) :=
  go_jointerref19_Of (by simp) (wp_mono (w_jointerref19_Of ks rows hl ho s0) (fun e s' h => h.pure))
end Go.Proofs.YtoodknhlnifnlaaGreatDoor
