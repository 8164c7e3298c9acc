/- The reference's Default (seat ZD's table). -/
import Derived.Test.YtoodknhlnifnlaaGreatDoorXb
set_option linter.all false
set_option linter.unusedVariables false
set_option linter.unusedSimpArgs false
set_option maxRecDepth 100000
namespace Go.Proofs.YtoodknhlnifnlaaGreatDoor
open Go.RowKit
theorem def_check {s : List TabD} (h : SchemeOK s) : checkE s (s.map defD) = 0 := by
  have hst : StatsOK s (s.map defD) := fun i h1 h2 => by
    rw [List.getElem_map]
    exact defD_fits ((h.2.2 i h1).2.2.2.2.2.2.1)
  simp [checkE, h, hst]
theorem def_tight {s : List TabD} (h : SchemeOK s) : tightR s (s.map defD) = defR s := by
  have e1 : tightR s (s.map defD) = List.zipWith tightT s (s.map defD) := if_pos (def_check h)
  have e2 : defR s = s.map (fun t => tightT t (defD t)) := if_pos h
  rw [e1, e2]
  exact List.ext_getElem (by simp) (fun i h1 h2 => by simp)
theorem defD_lo (t : TabD) : ∀ c ∈ (defD t).cols, loOk c := fun c hc => by
  obtain ⟨a, _, rfl⟩ := List.mem_map.1 hc; exact (defC_ok a).2.2.2
set_option maxHeartbeats 4000000 in
theorem c_ref19_Default (s : List TabD) (hs : schemeSmall s) (h6 : ∀ t ∈ s, ∀ c ∈ t.cols, c.in64) :
    call T n_jointerref19_Default [.sl false (s.map TabD.enc)] = some (.tup [.sl true ((defR s).map (TS.enc true)), i6 (defE s)]) := by
  refine go_jointerref19_Default (by simp) ?_
  have f1 := c_ref07_Valid s hs
  have hs1 := hs.1
  have f5 := c_ref19_Tight s (s.map defD) hs h6 (fun d hd => by obtain ⟨t, _, rfl⟩ := List.mem_map.1 hd; exact defD_lo t)
  have hR0 : ¬ SchemeOK s → defR s = [] ∧ defE s = 1 := fun h => ⟨if_neg h, if_neg h⟩
  have hR1 : SchemeOK s → tightR s (s.map defD) = defR s ∧ checkE s (s.map defD) = 0 ∧ defE s = 0 := fun h => ⟨def_tight h, def_check h, if_pos h⟩
  generalize tightR s (s.map defD) = Rt at *
  generalize checkE s (s.map defD) = Ct at *
  generalize defR s = R at *
  generalize defE s = E at *
  replace hR0 := Hd.mk hR0
  replace hR1 := Hd.mk hR1
  replace hs := Hd.mk hs
  simp [f1]
  refine wpC_split (fun a1 => ?_) (fun a1 => ?_) <;> (have a1' := a1; try simp at a1') <;> (try simp [*])
  · rw [bP_false] at a1'
    obtain ⟨rfl, rfl⟩ := hR0.out a1'
    simp
  rw [bP_iff] at a1'
  obtain ⟨rfl, rfl, rfl⟩ := hR1.out a1'
  clear hR0 hR1
  replace a1' := Hd.mk a1'
  have hzl : Hd ((s.map defD).length = s.length) := ⟨by simp⟩
  have hzg : Hd (∀ (i : Nat) (h : i < s.length) (h'' : i < (s.map defD).length), (s.map defD)[i] = defD s[i]) := ⟨fun i h h'' => by simp⟩
  generalize s.map defD = Z at *
  refine wp_rounds (σ := Nat) (fun i e w => ((i = 0 ∧ e 4 = .nil) ∨ (0 < i ∧ ∃ g, e 4 = .ref 51 g 3 0 i ∧ ∃ n, w 51 = ⟨g, true, some (.row 3 ((Z.take i).map (TS.enc true))), n⟩)) ∧ e 0 = .sl false (s.map TabD.enc) ∧ e 5 = i6 i ∧ i ≤ s.length) (fun i => s.length - i) ?_ 0 _ _
    ⟨.inl ⟨rfl, by simp⟩, by simp, by simp, by omega⟩
  rintro i e w ⟨e4, e0, e5, hi⟩ ih
  have hlen : (Z.take i).length = i := by rw [List.length_take, hzl.out]; omega
  generalize hes : Z.take i = es at e4 hlen
  replace hes := Hd.mk hes
  simp [e0, e5]
  refine wpC_split (fun q => ?_) (fun q => ?_) <;> (have q' := q; try simp at q') <;> (try simp [*])
  · have hs16 : s.length ≤ 16 := a1'.out.1
    have h8 := a1'.out.len q'
    have hz := hzg.out i q' (by rw [hzl.out]; exact q')
    refine wp_rounds (σ := Nat) (fun j e' w' => e' 4 = e 4 ∧ w' 51 = w 51 ∧ e' 0 = .sl false (s.map TabD.enc) ∧ e' 5 = i6 i ∧
        (∃ x, SlAt w' 46 47 5 x (((s[i].cols.map defC).take j).map Col.enc) ∧ ∃ g, e' 6 = .ptr 6 g 0 ∧ ∃ n, w' 6 = ⟨g, true, some (.box (.agg [i6 0, i6 1000, x])), n⟩) ∧ e' 7 = i6 j ∧ j ≤ s[i].cols.length) (fun j => s[i].cols.length - j) ?_ 0 _ _
      ⟨by simp, by simp, by simp [e0], by simp [e5], ⟨.nil, .inl ⟨by simp, rfl⟩, (w 6).g + 1, by simp, so_mk (by simp) (by simp) (by simp)⟩, by simp, by omega⟩
    rintro j e' w' ⟨y4, s51, y0, y5, ⟨x, hx, g6, y6, n6, s6⟩, y7, hj⟩ jh
    replace e4 := Hd.mk e4
    clear e0 e5
    replace s51 := Hd.mk s51
    replace f5 := Hd.mk f5
    simp [q', y0, y4, y5, y6, y7, s6]
    refine wpC_split (fun v => ?_) (fun v => ?_) <;> (have v' := v; try simp at v') <;> (try simp [*])
    · have hd1 : (s[i].cols.map defC).take (j + 1) = (s[i].cols.map defC).take j ++ [defC s[i].cols[j]] := by rw [List.take_succ_eq_append_getElem (by simpa using v')]; simp
      have hdl : ((s[i].cols.map defC).take j).length = j := by rw [List.length_take, List.length_map]; omega
      replace hd1 := Hd.mk hd1
      generalize (s[i].cols.map defC).take j = D at hx hd1 hdl
      refine wpC_split (fun k => ?_) (fun k => ?_) <;> (have k' := k; try simp at k') <;> (try simp [*])
      · rcases hx with ⟨h0, rfl⟩ | ⟨h0, o, g, n, rfl, hso, ho1, ho2⟩
        · simp [q', y0, y4, y5, y6, y7, s6]
          have hD : D = [] := by simpa using h0
          have hj0 : j = 0 := by rw [← hdl, hD]; rfl
          subst hD
          subst hj0
          refine jh.out 1 _ _ ⟨by simp [y4], by simp [s51.out], by simp [y0], by simp [y5], ⟨.ref 46 ((w' 46).g + 1) 5 0 1, ?_, g6, by simp [y6], so_mk (by simp [s6]) (by simp [s6]) (by simp [s6, hdl])⟩, by simp [y7, show IntKind.i64.wrap 1 = 1 by rw [wrap_in] <;> omega], v'⟩ (by omega)
          rw [show (1 : Nat) = 0 + 1 from rfl, hd1.out]
          exact SlAt.of' (by simp) (by simp) (so_mk (by simp) (by simp) (by simp [defC, k'])) (by omega)
        · obtain rfl : o = 46 := by omega
          simp [q', y0, y4, y5, y6, y7, s6, hso, show D.length ≤ 3518437208882 by omega]
          refine jh.out (j + 1) _ _ ⟨by simp [y4], by simp [s51.out], by simp [y0], by simp [y5], ⟨.ref 46 (g + 1) 5 0 (j + 1), ?_, g6, by simp [y6], so_mk (by simp [s6]) (by simp [s6]) (by simp [s6, hdl])⟩, by simp [y7, wrap_succ v' (by omega : s[i].cols.length ≤ 9223372036854775807)], v'⟩ (by omega)
          rw [hd1.out]
          exact SlAt.of' (by simp) (by simp [hdl]) (so_mk (by simp [hso]) (by simp) (by simp [defC, k'])) (by omega)
      · rcases hx with ⟨h0, rfl⟩ | ⟨h0, o, g, n, rfl, hso, ho1, ho2⟩
        · simp [q', y0, y4, y5, y6, y7, s6]
          have hD : D = [] := by simpa using h0
          have hj0 : j = 0 := by rw [← hdl, hD]; rfl
          subst hD
          subst hj0
          refine jh.out 1 _ _ ⟨by simp [y4], by simp [s51.out], by simp [y0], by simp [y5], ⟨.ref 46 ((w' 46).g + 1) 5 0 1, ?_, g6, by simp [y6], so_mk (by simp [s6]) (by simp [s6]) (by simp [s6, hdl])⟩, by simp [y7, show IntKind.i64.wrap 1 = 1 by rw [wrap_in] <;> omega], v'⟩ (by omega)
          rw [show (1 : Nat) = 0 + 1 from rfl, hd1.out]
          exact SlAt.of' (by simp) (by simp) (so_mk (by simp) (by simp) (by simp [defC, k'])) (by omega)
        · obtain rfl : o = 46 := by omega
          simp [q', y0, y4, y5, y6, y7, s6, hso, show D.length ≤ 3518437208882 by omega]
          refine jh.out (j + 1) _ _ ⟨by simp [y4], by simp [s51.out], by simp [y0], by simp [y5], ⟨.ref 46 (g + 1) 5 0 (j + 1), ?_, g6, by simp [y6], so_mk (by simp [s6]) (by simp [s6]) (by simp [s6, hdl])⟩, by simp [y7, wrap_succ v' (by omega : s[i].cols.length ≤ 9223372036854775807)], v'⟩ (by omega)
          rw [hd1.out]
          exact SlAt.of' (by simp) (by simp [hdl]) (so_mk (by simp [hso]) (by simp) (by simp [defC, k'])) (by omega)
    · rw [List.take_of_length_le (by rw [List.length_map]; omega)] at hx
      have hz' : (Z[i]'(by rw [hzl.out]; exact q')).enc true = .agg [i6 0, i6 1000, .sl true ((s[i].cols.map defC).map Col.enc)] := by rw [hz]; rfl
      have hde : deepL ((s[i].cols.map defC).map Col.enc) = true := deepL_map (by simp) _
      have hd := hx.dpn hde
      have ho := hx.one
      have hnm : nmX x = [] ∨ nmX x = [46] := by
        rcases hx with ⟨_, rfl⟩ | ⟨_, o, g, n, rfl, _, h1, h2⟩
        · exact .inl rfl
        · obtain rfl : o = 46 := by omega
          exact .inr rfl
      have k51 := s51.out
      clear jh hx f5 hz
      generalize (s[i].cols.map defC).map Col.enc = es2 at hz' hd hde
      have hrow : (Z.take (i + 1)).map (TS.enc true) = es.map (TS.enc true) ++ [.agg [i6 0, i6 1000, .sl true es2]] := by
        rw [List.take_succ_eq_append_getElem (by rw [hzl.out]; exact q'), hes.out, List.map_append, List.map_singleton, hz']
      clear hz'
      replace hrow := Hd.mk hrow
      rcases hnm with hnm | hnm <;> rcases e4.out with ⟨h0, e4'⟩ | ⟨h0, g, e4', n, s51'⟩
      · subst h0
        have hE : es = [] := List.eq_nil_of_length_eq_zero hlen
        subst hE
        simp [y0, y4, y5, e4', hd, hnm, k51, hde]
        refine ih.out 1 _ _ ⟨.inr ⟨by omega, (w 51).g + 1, by simp, ?_⟩, by simp [y0], by simp [y5, show IntKind.i64.wrap 1 = 1 by rw [wrap_in] <;> omega], q'⟩ (by omega)
        rw [show (1 : Nat) = 0 + 1 from rfl, hrow.out]
        exact so_mk (by simp [k51]) (by simp) (by simp)
      · rw [s51'] at k51
        simp [y0, y4, y5, e4', hd, hnm, k51, hlen, hde, show i ≤ 3518437208882 by omega]
        refine ih.out (i + 1) _ _ ⟨.inr ⟨by omega, g + 1, by simp, ?_⟩, by simp [y0], by simp [y5, wrap_succ q' hs1], q'⟩ (by omega)
        rw [hrow.out]
        exact so_mk (by simp [k51]) (by simp) (by simp)
      · subst h0
        have hE : es = [] := List.eq_nil_of_length_eq_zero hlen
        subst hE
        simp [y0, y4, y5, e4', hd, hnm, k51, hde]
        refine ih.out 1 _ _ ⟨.inr ⟨by omega, (w 51).g + 1, by simp, ?_⟩, by simp [y0], by simp [y5, show IntKind.i64.wrap 1 = 1 by rw [wrap_in] <;> omega], q'⟩ (by omega)
        rw [show (1 : Nat) = 0 + 1 from rfl, hrow.out]
        exact so_mk (by simp [k51]) (by simp) (by simp)
      · rw [s51'] at k51
        simp [y0, y4, y5, e4', hd, hnm, k51, hlen, hde, show i ≤ 3518437208882 by omega]
        refine ih.out (i + 1) _ _ ⟨.inr ⟨by omega, g + 1, by simp, ?_⟩, by simp [y0], by simp [y5, wrap_succ q' hs1], q'⟩ (by omega)
        rw [hrow.out]
        exact so_mk (by simp [k51]) (by simp) (by simp)
  · have he := hes.out
    rw [List.take_of_length_le (by rw [hzl.out]; omega)] at he
    subst he
    rcases e4 with ⟨h0, e4⟩ | ⟨h0, g, e4, n, s51⟩
    · have hz0 : Z = [] := List.eq_nil_of_length_eq_zero (by omega)
      subst hz0
      simp at f5
      simp [e4, f5]
    · have hl2 : i = Z.length := hlen.symm
      subst hl2
      simp [e4, s51, f5]
end Go.Proofs.YtoodknhlnifnlaaGreatDoor
