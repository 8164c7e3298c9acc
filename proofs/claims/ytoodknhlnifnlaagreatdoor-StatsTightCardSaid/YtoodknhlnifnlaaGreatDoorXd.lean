/- tight inlined, Default (seat ZD's table). -/
import Derived.Test.YtoodknhlnifnlaaGreatDoorXc
set_option linter.all false
set_option linter.unusedVariables false
set_option linter.unusedSimpArgs false
set_option maxRecDepth 100000
namespace Go.Proofs.YtoodknhlnifnlaaGreatDoor
open Go.RowKit
/-- Where a call of tight leaves the store alone. -/
def FrX (lo hi : Nat) (s s' : Sto) : Prop := ∀ q, (q < 2000 ∨ 4000 ≤ q) → ¬ q = 4005 → (q < lo ∨ hi ≤ q) → s' q = s q
theorem i_tight (t : TabD) (d : TS) (hld : d.cols.length = t.cols.length) (hl : t.cols.length ≤ 8) (hk : KeysIn t) (hkl : t.keys.length ≤ 9223372036854775807) (hok : okT (kindsT t) (tightU t d)) {lo hi : Nat} {x : X} {s : Sto}
    (hx : SlAt s lo hi 5 x (d.cols.map Col.enc)) (hd : hi ≤ 2000 ∨ 4000 ≤ lo) :
    ∃ r, callI (run T) T n_stats_tight [t.enc, .agg [i6 d.low, i6 d.rows, x]] s = some r ∧ FrX lo hi s r.2 ∧ ∃ x', r.1 = .agg [i6 (tightT t d).low, i6 (tightT t d).rows, x'] ∧ SlAt r.2 lo hi 5 x' ((tightT t d).cols.map Col.enc) := by
  refine callI_wp (nt := 103) (res := [.cell 4 3 true]) (body := B_stats_tight) (P := fun r => FrX lo hi s r.2 ∧ ∃ x', r.1 = .agg [i6 (tightT t d).low, i6 (tightT t d).rows, x'] ∧ SlAt r.2 lo hi 5 x' ((tightT t d).cols.map Col.enc)) (by kernel_rfl) (by simp) ?_
  have hlen := (normT_gr hok).ok.len
  rw [kindsT_len] at hlen
  rcases hx with ⟨h0, rfl⟩ | ⟨h0, o, g, n, rfl, hs, h1, h2⟩
  · have hc : d.cols = [] := by simpa using h0
    have hct : t.cols = [] := List.eq_nil_of_length_eq_zero (by rw [← hld, hc]; rfl)
    have hrc : (tightT t d).cols = [] := List.eq_nil_of_length_eq_zero (by show (normT (kindsT t) (tightU t d)).cols.length = 0; rw [← hlen, hct]; rfl)
    refine wp_mono (w_stats_tight0 t d hct hc hk hkl hok s) ?_
    rintro e s' ⟨r, hr, hF, y, rfl, hy⟩
    refine ⟨_, hr, fun q q1 q2 q3 => hF q (by omega) (by omega), y, rfl, ?_⟩
    rw [hrc] at hy ⊢
    rcases hy with ⟨_, rfl⟩ | ⟨hn, _⟩
    · exact .inl ⟨rfl, rfl⟩
    · exact absurd rfl hn
  · have hp : 0 < t.cols.length := by
      rw [← hld]
      rcases Nat.eq_zero_or_pos d.cols.length with h | h
      · exact absurd (by rw [List.eq_nil_of_length_eq_zero h]; rfl) h0
      · exact h
    rw [List.length_map] at *
    refine wp_mono (w_stats_tight t d hld hl hk hkl hp hok o g n (by omega) s hs) ?_
    rintro e s' ⟨r, hr, hF, y, rfl, hy⟩
    refine ⟨_, hr, fun q q1 q2 q3 => hF q (by omega) (by omega), y, rfl, ?_⟩
    rcases hy with ⟨hn, rfl⟩ | ⟨hn, o', g', n', rfl, h3, h4, h5⟩
    · exact .inl ⟨hn, rfl⟩
    · exact .inr ⟨hn, o', g', n', rfl, h3, by omega, by omega⟩
set_option maxHeartbeats 4000000 in
theorem c_stats_Default (s : List TabD) (hs : schemeSmall s) (h6 : ∀ t ∈ s, ∀ c ∈ t.cols, c.in64) :
    call T n_stats_Default [.sl false (s.map TabD.enc)] = some (.tup [.sl true ((defR s).map (TS.enc true)), i6 (defE s)]) := by
  refine go_stats_Default (by simp) ?_
  have f1 := c_scheme_Valid s hs
  have hs1 := hs.1
  have hR0 : ¬ SchemeOK s → defR s = [] ∧ defE s = 1 := fun h => ⟨if_neg h, if_neg h⟩
  have hR1 : SchemeOK s → defR s = s.map (fun t => tightT t (defD t)) ∧ defE s = 0 := fun h => ⟨if_pos h, if_pos h⟩
  generalize defR s = R at *
  generalize defE s = E at *
  replace hR0 := Hd.mk hR0
  replace hR1 := Hd.mk hR1
  replace h6 := Hd.mk h6
  replace hs := Hd.mk hs
  simp [f1]
  refine wpC_split (fun a1 => ?_) (fun a1 => ?_) <;> (have a1' := a1; try simp at a1') <;> (try simp [*])
  · rw [bP_false] at a1'
    obtain ⟨rfl, rfl⟩ := hR0.out a1'
    simp
  rw [bP_iff] at a1'
  obtain ⟨rfl, rfl⟩ := hR1.out a1'
  clear hR0 hR1
  replace a1' := Hd.mk a1'
  have hzl : Hd ((s.map (fun t => tightT t (defD t))).length = s.length) := ⟨by simp⟩
  have hzg : Hd (∀ (i : Nat) (h : i < s.length) (h'' : i < (s.map (fun t => tightT t (defD t))).length), (s.map (fun t => tightT t (defD t)))[i] = tightT s[i] (defD s[i])) := ⟨fun i h h'' => by simp⟩
  generalize s.map (fun t => tightT t (defD t)) = Z at *
  refine wp_rounds (σ := Nat) (fun i e w => ((i = 0 ∧ e 4 = .nil) ∨ (0 < i ∧ ∃ g, e 4 = .ref 46 g 3 0 i ∧ ∃ n, w 46 = ⟨g, true, some (.row 3 ((Z.take i).map (TS.enc true))), n⟩)) ∧ e 14 = .sl false (s.map TabD.enc) ∧ e 15 = i6 s.length ∧ e 16 = i6 i ∧ i ≤ s.length) (fun i => s.length - i) ?_ 0 _ _
    ⟨.inl ⟨rfl, by simp⟩, by simp, by simp, by simp, by omega⟩
  rintro i e w ⟨e4, e14, e15, e16, hi⟩ ih
  have hlen : (Z.take i).length = i := by rw [List.length_take, hzl.out]; omega
  generalize hes : Z.take i = es at e4 hlen
  replace hes := Hd.mk hes
  simp [e14, e15, e16]
  refine wpC_split (fun q => ?_) (fun q => ?_) <;> (have q' := q; try simp at q') <;> (try simp [*])
  · have hs16 : s.length ≤ 16 := a1'.out.1
    have hT2 := a1'.out.2.2 i q'
    have h8 := a1'.out.len q'
    have hz := hzg.out i q' (by rw [hzl.out]; exact q')
    have hdl : (defD s[i]).cols.length = s[i].cols.length := by simp [defD]
    have hu := tightU_ok hdl (fun c hc => by obtain ⟨a, _, rfl⟩ := List.mem_map.1 hc; exact defC_ok a) (by show (0:Int) ≤ 1000; omega) (h6.out _ (List.getElem_mem q'))
    have hki := hT2.keys
    have hkl := (hs.out.2 _ (List.getElem_mem q')).keys.1
    have hti := fun {w : Sto} {x : X} (hx : SlAt w 38 39 5 x ((defD s[i]).cols.map Col.enc)) => i_tight s[i] (defD s[i]) hdl h8 hki hkl hu hx (by omega)
    replace hti : Hd (∀ {w : Sto} {x : X} (hx : SlAt w 38 39 5 x ((s[i].cols.map defC).map Col.enc)), ∃ r, callI (run T) T n_stats_tight [s[i].enc, .agg [i6 0, i6 1000, x]] w = some r ∧ FrX 38 39 w r.2 ∧ ∃ x', r.1 = .agg [i6 (tightT s[i] (defD s[i])).low, i6 (tightT s[i] (defD s[i])).rows, x'] ∧ SlAt r.2 38 39 5 x' ((tightT s[i] (defD s[i])).cols.map Col.enc)) := ⟨hti⟩
    clear hT2 hdl hu hki hkl hs f1
    replace h8 := Hd.mk h8
    generalize tightT s[i] (defD s[i]) = z at *
    generalize s[i] = t at *
    have hw46 : Hd (w 46 = w 46) := ⟨rfl⟩
    refine wp_rounds (σ := Nat) (fun j e' w' => e' 4 = e 4 ∧ w' 46 = w 46 ∧ e' 14 = .sl false (s.map TabD.enc) ∧ e' 15 = i6 s.length ∧ e' 16 = i6 i ∧ (∃ g, e' 6 = .ptr 6 g 0 ∧ ∃ n, w' 6 = ⟨g, true, some (.box t.enc), n⟩) ∧
        (∃ x, SlAt w' 38 39 5 x (((t.cols.map defC).take j).map Col.enc) ∧ ∃ g, e' 7 = .ptr 7 g 0 ∧ ∃ n, w' 7 = ⟨g, true, some (.box (.agg [i6 0, i6 1000, x])), n⟩) ∧ e' 22 = .sl false (t.cols.map ColD.enc) ∧ e' 23 = i6 t.cols.length ∧ e' 24 = i6 j ∧ j ≤ t.cols.length) (fun j => t.cols.length - j) ?_ 0 _ _
      ⟨by simp, by simp, by simp [e14], by simp [e15], by simp [e16], ⟨(w 6).g + 1, by simp, so_mk (by simp) (by simp) (by simp)⟩, ⟨.nil, .inl ⟨by simp, rfl⟩, (w 7).g + 1, by simp, so_mk (by simp) (by simp) (by simp)⟩, by simp, by simp, by simp, by omega⟩
    rintro j e' w' ⟨y4, s46, y14, y15, y16, ⟨g6, y6, n6, s6⟩, ⟨x, hx, g7, y7, n7, s7⟩, y22, y23, y24, hj⟩ jh
    replace e4 := Hd.mk e4
    replace h6 := Hd.mk h6
    have hj8 : t.cols.length ≤ 8 := h8.out
    clear e14 e15 e16 hw46
    replace s46 := Hd.mk s46
    simp [y14, y15, y16, y6, y7, y22, y23, y24, s6, s7]
    refine wpC_split (fun v => ?_) (fun v => ?_) <;> (have v' := v; try simp at v') <;> (try simp [*])
    · have hd1 : (t.cols.map defC).take (j + 1) = (t.cols.map defC).take j ++ [defC t.cols[j]] := by rw [List.take_succ_eq_append_getElem (by simpa using v')]; simp
      have hdl : ((t.cols.map defC).take j).length = j := by rw [List.length_take, List.length_map]; omega
      replace hd1 := Hd.mk hd1
      generalize (t.cols.map defC).take j = D at hx hd1 hdl
      refine wpC_split (fun k => ?_) (fun k => ?_) <;> (have k' := k; try simp at k') <;> (try simp [*])
      · rcases hx with ⟨h0, rfl⟩ | ⟨h0, o, g, n, rfl, hso, ho1, ho2⟩
        · simp [y4, y14, y15, y16, y6, y7, y22, y23, y24, s6, s7]
          have hD : D = [] := by simpa using h0
          have hj0 : j = 0 := by rw [← hdl, hD]; rfl
          subst hD
          subst hj0
          refine jh.out 1 _ _ ⟨by simp [y4], by simp [s46.out], by simp [y14], by simp [y15], by simp [y16], ⟨g6, by simp [y6], (so_mk (by simp [s6]) (by simp [s6]) (by simp [s6]))⟩, ⟨.ref 38 ((w' 38).g + 1) 5 0 1, ?_, g7, by simp [y7], so_mk (by simp [s7]) (by simp [s7]) (by simp [s7, hdl])⟩, by simp [y22], by simp [y23], by simp [y24, show IntKind.i64.wrap 1 = 1 by rw [wrap_in] <;> omega], v'⟩ (by omega)
          rw [show (1 : Nat) = 0 + 1 from rfl, hd1.out]
          exact SlAt.of' (by simp) (by simp) (so_mk (by simp) (by simp) (by simp [defC, k'])) (by omega)
        · obtain rfl : o = 38 := by omega
          simp [y4, y14, y15, y16, y6, y7, y22, y23, y24, s6, s7, hso, show D.length ≤ 3518437208882 by omega]
          refine jh.out (j + 1) _ _ ⟨by simp [y4], by simp [s46.out], by simp [y14], by simp [y15], by simp [y16], ⟨g6, by simp [y6], (so_mk (by simp [s6]) (by simp [s6]) (by simp [s6]))⟩, ⟨.ref 38 (g + 1) 5 0 (j + 1), ?_, g7, by simp [y7], so_mk (by simp [s7]) (by simp [s7]) (by simp [s7, hdl])⟩, by simp [y22], by simp [y23], by simp [y24, wrap_succ v' (by omega : t.cols.length ≤ 9223372036854775807)], v'⟩ (by omega)
          rw [hd1.out]
          exact SlAt.of' (by simp) (by simp [hdl]) (so_mk (by simp [hso]) (by simp) (by simp [defC, k'])) (by omega)
      · rcases hx with ⟨h0, rfl⟩ | ⟨h0, o, g, n, rfl, hso, ho1, ho2⟩
        · simp [y4, y14, y15, y16, y6, y7, y22, y23, y24, s6, s7]
          have hD : D = [] := by simpa using h0
          have hj0 : j = 0 := by rw [← hdl, hD]; rfl
          subst hD
          subst hj0
          refine jh.out 1 _ _ ⟨by simp [y4], by simp [s46.out], by simp [y14], by simp [y15], by simp [y16], ⟨g6, by simp [y6], (so_mk (by simp [s6]) (by simp [s6]) (by simp [s6]))⟩, ⟨.ref 38 ((w' 38).g + 1) 5 0 1, ?_, g7, by simp [y7], so_mk (by simp [s7]) (by simp [s7]) (by simp [s7, hdl])⟩, by simp [y22], by simp [y23], by simp [y24, show IntKind.i64.wrap 1 = 1 by rw [wrap_in] <;> omega], v'⟩ (by omega)
          rw [show (1 : Nat) = 0 + 1 from rfl, hd1.out]
          exact SlAt.of' (by simp) (by simp) (so_mk (by simp) (by simp) (by simp [defC, k'])) (by omega)
        · obtain rfl : o = 38 := by omega
          simp [y4, y14, y15, y16, y6, y7, y22, y23, y24, s6, s7, hso, show D.length ≤ 3518437208882 by omega]
          refine jh.out (j + 1) _ _ ⟨by simp [y4], by simp [s46.out], by simp [y14], by simp [y15], by simp [y16], ⟨g6, by simp [y6], (so_mk (by simp [s6]) (by simp [s6]) (by simp [s6]))⟩, ⟨.ref 38 (g + 1) 5 0 (j + 1), ?_, g7, by simp [y7], so_mk (by simp [s7]) (by simp [s7]) (by simp [s7, hdl])⟩, by simp [y22], by simp [y23], by simp [y24, wrap_succ v' (by omega : t.cols.length ≤ 9223372036854775807)], v'⟩ (by omega)
          rw [hd1.out]
          exact SlAt.of' (by simp) (by simp [hdl]) (so_mk (by simp [hso]) (by simp) (by simp [defC, k'])) (by omega)
    · have hje : j = t.cols.length := by omega
      rw [List.take_of_length_le (by rw [List.length_map]; omega)] at hx
      refine wpR_ex1 (hti.out hx) ?_
      rintro ⟨r, w2⟩ ⟨hF2, x', hr, hx'⟩
      simp only at hr hx' hF2
      subst hr
      have k4 : w2 46 = w' 46 := hF2 46 (by omega) (by omega) (by omega)
      rw [s46.out] at k4
      have hde : deepL (z.cols.map Col.enc) = true := deepL_map (by simp) _
      have hd := hx'.dpn hde
      have ho := hx'.one
      have hnm : nmX x' = [] ∨ nmX x' = [38] := by
        rcases hx' with ⟨_, rfl⟩ | ⟨_, o, g, n, rfl, _, h1, h2⟩
        · exact .inl rfl
        · obtain rfl : o = 38 := by omega
          exact .inr rfl
      clear jh hti hx hF2 hx'
      have hrow : (Z.take (i + 1)).map (TS.enc true) = es.map (TS.enc true) ++ [.agg [i6 z.low, i6 z.rows, .sl true (z.cols.map Col.enc)]] := by
        rw [List.take_succ_eq_append_getElem (by rw [hzl.out]; exact q'), hes.out, List.map_append, List.map_singleton, hz]
      replace hrow := Hd.mk hrow
      clear hz
      generalize z.cols.map Col.enc = es2 at hd hde hrow
      rcases hnm with hnm | hnm <;> rcases e4.out with ⟨h0, e4'⟩ | ⟨h0, g, e4', n, s46'⟩
      · subst h0
        have hE : es = [] := List.eq_nil_of_length_eq_zero hlen
        subst hE
        simp [y14, y15, y16, e4', hd, ho.1, ho.2, hnm, k4, hde]
        refine ih.out 1 _ _ ⟨.inr ⟨by omega, (w 46).g + 1, by simp, ?_⟩, by simp [y14], by simp [y15], by simp [y16, show IntKind.i64.wrap 1 = 1 by rw [wrap_in] <;> omega], q'⟩ (by omega)
        rw [show (1 : Nat) = 0 + 1 from rfl, hrow.out]
        exact so_mk (by simp [k4]) (by simp) (by simp)
      · rw [s46'] at k4
        simp [y14, y15, y16, e4', hd, ho.1, ho.2, hnm, k4, hlen, hde, show i ≤ 3518437208882 by omega]
        refine ih.out (i + 1) _ _ ⟨.inr ⟨by omega, g + 1, by simp, ?_⟩, by simp [y14], by simp [y15], by simp [y16, wrap_succ q' hs1], q'⟩ (by omega)
        rw [hrow.out]
        exact so_mk (by simp [k4]) (by simp) (by simp)
      · subst h0
        have hE : es = [] := List.eq_nil_of_length_eq_zero hlen
        subst hE
        simp [y14, y15, y16, e4', hd, ho.1, ho.2, hnm, k4, hde]
        refine ih.out 1 _ _ ⟨.inr ⟨by omega, (w 46).g + 1, by simp, ?_⟩, by simp [y14], by simp [y15], by simp [y16, show IntKind.i64.wrap 1 = 1 by rw [wrap_in] <;> omega], q'⟩ (by omega)
        rw [show (1 : Nat) = 0 + 1 from rfl, hrow.out]
        exact so_mk (by simp [k4]) (by simp) (by simp)
      · rw [s46'] at k4
        simp [y14, y15, y16, e4', hd, ho.1, ho.2, hnm, k4, hlen, hde, show i ≤ 3518437208882 by omega]
        refine ih.out (i + 1) _ _ ⟨.inr ⟨by omega, g + 1, by simp, ?_⟩, by simp [y14], by simp [y15], by simp [y16, wrap_succ q' hs1], q'⟩ (by omega)
        rw [hrow.out]
        exact so_mk (by simp [k4]) (by simp) (by simp)
  · have hie : i = s.length := by omega
    have he := hes.out
    rw [List.take_of_length_le (by rw [hzl.out]; omega)] at he
    subst he
    rcases e4 with ⟨h0, e4⟩ | ⟨h0, g, e4, n, s46⟩
    · have hz0 : Z = [] := List.eq_nil_of_length_eq_zero (by omega)
      simp [e4, hz0]
    · simp [e4, s46, hlen]
      try (rw [← hlen]; simp)
end Go.Proofs.YtoodknhlnifnlaaGreatDoor
