/- stats.Tight inlined: a result whose descriptions have names of their own (seat ZD's table). -/
import Derived.Test.YtoodknhlnifnlaaGreatDoorXd
import Derived.Test.YtoodknhlnifnlaaGreatDoorNe
set_option linter.all false
set_option linter.unusedVariables false
set_option linter.unusedSimpArgs false
set_option maxRecDepth 100000
namespace Go.Proofs.YtoodknhlnifnlaaGreatDoor
open Go.RowKit
/-- Descriptions in a row, each with a slice under a name of its own. -/
structure Nest (w : Sto) (Z : List TS) (xs : List X) : Prop where
  len : xs.length = Z.length
  get : ∀ (j : Nat) (h : j < Z.length) (h' : j < xs.length), ∃ y, xs[j] = .agg [i6 Z[j].low, i6 Z[j].rows, y] ∧ SlAt w (3000000 + j) (3000000 + j + 1) 5 y (Z[j].cols.map Col.enc)
theorem Nest.nil (w : Sto) : Nest w [] [] := ⟨rfl, fun j h => by simp at h⟩
theorem SlAt.keep {s s' : Sto} {lo hi k : Nat} {x : X} {es : List X} (h : SlAt s lo hi k x es) (hf : ∀ o, lo ≤ o → o < hi → s' o = s o) : SlAt s' lo hi k x es := by
  rcases h with ⟨rfl, rfl⟩ | ⟨h0, o, g, n, rfl, h, h1, h2⟩
  · exact .inl ⟨rfl, rfl⟩
  · exact .inr ⟨h0, o, g, n, rfl, by rw [hf o h1 h2]; exact h, h1, h2⟩
theorem Nest.add {w w' : Sto} {Z : List TS} {xs : List X} (h : Nest w Z xs) (hf : ∀ j, j < Z.length → w' (3000000 + j) = w (3000000 + j)) {z : TS} {y : X} (hy : SlAt w' (3000000 + Z.length) (3000000 + Z.length + 1) 5 y (z.cols.map Col.enc)) :
    Nest w' (Z ++ [z]) (xs ++ [.agg [i6 z.low, i6 z.rows, y]]) := by
  refine ⟨by simp [h.len], fun j h1 h2 => ?_⟩
  by_cases hj : j < Z.length
  · obtain ⟨y', e1, e2⟩ := h.get j hj (by rw [h.len]; exact hj)
    rw [List.getElem_append_left (by rw [h.len]; exact hj), List.getElem_append_left hj]
    refine ⟨y', e1, e2.keep (fun o h3 h4 => ?_)⟩
    obtain rfl : o = 3000000 + j := by omega
    exact hf j hj
  · have hjl : j = Z.length := by simp at h1; omega
    subst hjl
    refine ⟨y, ?_, ?_⟩
    · rw [List.getElem_append_right (by rw [h.len]; omega)]; simp [h.len]
    · simpa using hy
theorem mv_nil {s : Sto} {lo hi d : Nat} {a b : Int} {x : X} {es : List X} (h : SlAt s lo hi 5 x es) (hd : d < lo ∨ hi ≤ d) :
    ∃ y s', renL s d [i6 a, i6 b, x] = some ([i6 a, i6 b, y], s') ∧ SlAt s' d (d + 1) 5 y es ∧ (∀ q, (q < lo ∨ hi ≤ q) → ¬ q = d → s' q = s q) ∧ y.one = true := by
  rcases h with ⟨rfl, rfl⟩ | ⟨h0, o, g, n, rfl, h, h1, h2⟩
  · exact ⟨.nil, s, by simp [deepL], .inl ⟨rfl, rfl⟩, fun _ _ _ => rfl, rfl⟩
  · have hod : ¬ o = d := by omega
    refine ⟨.ref d ((s d).g + 1) 5 0 es.length, mvO s o d (.row 5 es), by simp [h, hod, deepL], .inr ⟨h0, d, (s d).g + 1, (s d).n + 1, rfl, ?_, by omega, by omega⟩, ?_, rfl⟩
    · rw [mvO_app, if_neg (Ne.symm hod), if_pos rfl]
    · intro q h3 h4
      rw [mvO_app, if_neg (by omega), if_neg h4]
theorem SlAt.isRef {s : Sto} {lo hi k : Nat} {x : X} {es : List X} (h : SlAt s lo hi k x es) : x.isRef = true := by
  rcases h with ⟨_, rfl⟩ | ⟨_, o, g, n, rfl, _⟩ <;> rfl
/-- A result whose descriptions have names of their own. -/
def NestX (w : Sto) (x : X) (Z : List TS) : Prop := (Z = [] ∧ x = .nil) ∨ (Z ≠ [] ∧ ∃ g xs n, x = .ref 11032 g 3 0 Z.length ∧ w 11032 = ⟨g, true, some (.row 3 xs), n⟩ ∧ Nest w Z xs)
set_option maxHeartbeats 4000000 in
theorem w_stats_Tight (s : List TabD) (st : List TS) (hs : schemeSmall s) (h6 : ∀ t ∈ s, ∀ c ∈ t.cols, c.in64) (hst : ∀ d ∈ st, ∀ c ∈ d.cols, loOk c) (w0 : Sto) :
    wp T [.code B_stats_Tight] (ini [.sl false (s.map TabD.enc), .sl false (st.map (TS.enc false))]) w0 (fun e w => ∃ x, resI e w [.nst 4, .tmp 5] = some (.tup [x, i6 (checkE s st)]) ∧ NestX w x (tightR s st)) := by
  have f1 := c_stats_Check s st hs
  have hs1 := hs.1
  have hC := checkE_ok (s := s) (st := st)
  have hR0 : ¬ checkE s st = 0 → tightR s st = [] := fun h => if_neg h
  have hR1 : checkE s st = 0 → tightR s st = List.zipWith tightT s st := fun h => if_pos h
  generalize tightR s st = R at *
  generalize checkE s st = c at *
  replace hR0 := Hd.mk hR0
  replace hR1 := Hd.mk hR1
  replace hC := Hd.mk hC
  replace hst := Hd.mk hst
  replace h6 := Hd.mk h6
  replace hs := Hd.mk hs
  simp [f1]
  refine wpC_split (fun a1 => ?_) (fun a1 => ?_) <;> (have a1' := a1; try simp at a1') <;> (try simp [*])
  · exact ⟨.nil, by simp [resI, resIL, resIX], .inl ⟨hR0.out a1', rfl⟩⟩
  subst a1'
  replace hC := Hd.mk (hC.out rfl)
  obtain rfl := hR1.out rfl
  clear hR0 hR1
  have hl : st.length = s.length := hC.out.2.1
  replace hl := Hd.mk hl
  have hzl : Hd ((List.zipWith tightT s st).length = s.length) := ⟨by rw [List.length_zipWith, hl.out]; omega⟩
  have hzg : Hd (∀ (i : Nat) (h : i < s.length) (h' : i < st.length) (h'' : i < (List.zipWith tightT s st).length), (List.zipWith tightT s st)[i] = tightT s[i] st[i]) := ⟨fun i h h' h'' => by simp⟩
  generalize List.zipWith tightT s st = Z at *
  refine wp_rounds (σ := Nat) (fun i e w => ((i = 0 ∧ e 7 = .nil) ∨ (0 < i ∧ ∃ g xs n, e 7 = .ref 11032 g 3 0 i ∧ w 11032 = ⟨g, true, some (.row 3 xs), n⟩ ∧ Hd (Nest w (Z.take i) xs))) ∧ e 0 = .sl false (s.map TabD.enc) ∧ e 1 = .sl false (st.map (TS.enc false)) ∧ e 16 = .sl false (s.map TabD.enc) ∧ e 17 = i6 s.length ∧ e 18 = i6 i ∧ i ≤ s.length) (fun i => s.length - i) ?_ 0 _ _
    ⟨.inl ⟨rfl, by simp⟩, by simp, by simp, by simp, by simp, by simp, by omega⟩
  rintro i e w ⟨e7, e0, e1, e16, e17, e18, hi⟩ ih
  simp [e0, e1, e16, e17, e18]
  refine wpC_split (fun q => ?_) (fun q => ?_) <;> (have q' := q; try simp at q') <;> (try simp [*])
  · have hs16 : s.length ≤ 16 := hC.out.1.1
    have hit : i < st.length := by rw [hl.out]; exact q'
    have hfit := hC.out.2.2 i q' hit
    have hT2 := hC.out.1.2.2 i q'
    have h8 := hC.out.1.len q'
    have hld : st[i].cols.length = s[i].cols.length := (fits_len hfit).trans (kindsT_len _)
    have hok := okT_of hfit (hst.out _ (List.getElem_mem hit))
    have hu := tightU_ok hld hok.cols hok.rows (h6.out _ (List.getElem_mem q'))
    have hki := hT2.keys
    have hkl := (hs.out.2 _ (List.getElem_mem q')).keys.1
    have hz := hzg.out i q' hit (by rw [hzl.out]; exact q')
    have hcl := fun w => i_stats_clone st[i] (by omega) w
    have hti := fun {w : Sto} {x : X} (hx : SlAt w 4005 4006 5 x (st[i].cols.map Col.enc)) => i_tight s[i] st[i] hld h8 hki hkl hu hx (by omega)
    replace hcl := Hd.mk hcl
    replace hti : Hd (∀ {w : Sto} {x : X} (hx : SlAt w 4005 4006 5 x (st[i].cols.map Col.enc)), ∃ r, callI (run T) T n_stats_tight [s[i].enc, .agg [i6 st[i].low, i6 st[i].rows, x]] w = some r ∧ FrX 4005 4006 w r.2 ∧ ∃ x', r.1 = .agg [i6 (tightT s[i] st[i]).low, i6 (tightT s[i] st[i]).rows, x'] ∧ SlAt r.2 4005 4006 5 x' ((tightT s[i] st[i]).cols.map Col.enc)) := ⟨hti⟩
    clear hT2 hfit hld hok hu hki hkl h8 hC hs
    generalize tightT s[i] st[i] = z at *
    have hid : ¬ 11031 = 3000000 + i := by omega
    rcases e7 with ⟨h0, e7⟩ | ⟨h0, g, xs, n, e7, s32, hne⟩
    · subst h0
      simp [e0, e1, e7, e16, e17, e18, hit]
      refine wpR_ex1 (hcl.out _) ?_
      rintro ⟨r, w1⟩ ⟨hF1, x, rfl, hx⟩
      have k1 : w1 11009 = _ := hF1 11009 (by omega) (by omega)
      simp at k1
      simp [e0, e1, e7, e16, e17, e18, k1]
      refine wpR_ex1 (hti.out hx) ?_
      rintro ⟨r, w2⟩ ⟨hF2, x', hr, hx'⟩
      simp only at hr hx' hF2
      subst hr
      have k3 : w2 11009 = w1 11009 := hF2 11009 (by omega) (by omega) (by omega)
      rw [k1] at k3
      obtain ⟨y, w3, hr3, hy, hf3, hyo⟩ := mv_nil (a := z.low) (b := z.rows) (d := 3000000) hx' (by omega)
      have k5 : w3 11009 = w2 11009 := hf3 11009 (by omega) (by omega)
      rw [k3] at k5
      have hlit : (X.agg [i6 z.low, i6 z.rows, y]).lit = true := by simp [X.lit, X.cells, X.deep, hy.isRef]
      have k6 : w3 11032 = w 11032 := by
        have a1 : w1 11032 = _ := hF1 11032 (by omega) (by omega)
        have a2 : w2 11032 = _ := hF2 11032 (by omega) (by omega) (by omega)
        simp at a1
        rw [hf3 11032 (by omega) (by omega), a2]; exact a1
      simp [e0, e1, e7, e16, e17, e18, k3, hx'.one.1, hr3, k5, k6, hlit]
      refine ih.out 1 _ _ ⟨.inr ⟨by omega, (w 11032).g + 1, [.agg [i6 z.low, i6 z.rows, y]], (w 11032).n + 1, by simp, by simp [k6], ⟨?_⟩⟩, by simp [e0], by simp [e1], by simp [e16], by simp [e17], by simp [show IntKind.i64.wrap 1 = 1 by rw [wrap_in] <;> omega], q'⟩ (by omega)
      rw [List.take_succ_eq_append_getElem (by rw [hzl.out]; exact q'), hz]
      exact Nest.add (Z := []) (xs := []) (Nest.nil w) (fun j hj => by simp at hj) (hy.keep (fun o h1 h2 => by rw [newO_app, if_neg (by omega), newO_app, if_neg (by omega)]))
    · have hidx : True := trivial
      simp [e0, e1, e7, e16, e17, e18, hit, s32]
      refine wpR_ex1 (hcl.out _) ?_
      rintro ⟨r, w1⟩ ⟨hF1, x, rfl, hx⟩
      have k1 : w1 11009 = _ := hF1 11009 (by omega) (by omega)
      simp at k1
      simp [e0, e1, e7, e16, e17, e18, k1]
      refine wpR_ex1 (hti.out hx) ?_
      rintro ⟨r, w2⟩ ⟨hF2, x', hr, hx'⟩
      simp only at hr hx' hF2
      subst hr
      have k3 : w2 11009 = w1 11009 := hF2 11009 (by omega) (by omega) (by omega)
      rw [k1] at k3
      obtain ⟨y, w3, hr3, hy, hf3, hyo⟩ := mv_nil (a := z.low) (b := z.rows) (d := 3000000 + i) hx' (by omega)
      have k5 : w3 11009 = w2 11009 := hf3 11009 (by omega) (by omega)
      rw [k3] at k5
      have hlit : (X.agg [i6 z.low, i6 z.rows, y]).lit = true := by simp [X.lit, X.cells, X.deep, hy.isRef]
      have k6 : w3 11032 = w 11032 := by
        have a1 : w1 11032 = _ := hF1 11032 (by omega) (by omega)
        have a2 : w2 11032 = _ := hF2 11032 (by omega) (by omega) (by omega)
        simp at a1
        rw [hf3 11032 (by omega) (by omega), a2]; exact a1
      rw [s32] at k6
      have hxl : xs.length = i := by rw [hne.out.len, List.length_take, hzl.out]; omega
      simp [e0, e1, e7, e16, e17, e18, k3, hx'.one.1, hr3, k5, k6, hlit, hid, hxl, show i ≤ 3518437208882 by omega]
      refine ih.out (i + 1) _ _ ⟨.inr ⟨by omega, g + 1, xs ++ [.agg [i6 z.low, i6 z.rows, y]], n + 1, by simp, by simp [k6], ⟨?_⟩⟩, by simp [e0], by simp [e1], by simp [e16], by simp [e17], by simp [wrap_succ q' hs1], q'⟩ (by omega)
      rw [List.take_succ_eq_append_getElem (by rw [hzl.out]; exact q'), hz]
      have htl : (Z.take i).length = i := by rw [List.length_take, hzl.out]; omega
      refine Nest.add hne.out (fun j hj => ?_) ?_
      · rw [htl] at hj
        rw [newO_app, if_neg (by omega), newO_app, if_neg (by omega), hf3 _ (by omega) (by omega), hF2 _ (by omega) (by omega) (by omega)]
        have a1 : w1 (3000000 + j) = _ := hF1 (3000000 + j) (by omega) (by omega)
        rw [a1, setO_app, if_neg (by omega), newO_app, if_neg (by omega)]
      · rw [htl]
        exact hy.keep (fun o h1 h2 => by rw [newO_app, if_neg (by omega), newO_app, if_neg (by omega)])
  · have hie : i = Z.length := by rw [hzl.out]; omega
    subst hie
    rcases e7 with ⟨h0, e7⟩ | ⟨h0, g, xs, n, e7, s32, hne⟩
    · have hz0 : Z = [] := List.eq_nil_of_length_eq_zero h0
      simp [e7]
      exact ⟨.nil, by simp [resI, resIL, resIX], .inl ⟨hz0, rfl⟩⟩
    · rw [List.take_length] at hne
      simp [e7]
      refine ⟨.ref 11032 g 3 0 Z.length, by simp [resI, resIL, resIX], .inr ⟨fun h => by rw [h] at h0; simp at h0, g, xs, n, rfl, s32, hne.out⟩⟩
theorem i_stats_Tight (s : List TabD) (st : List TS) (hs : schemeSmall s) (h6 : ∀ t ∈ s, ∀ c ∈ t.cols, c.in64) (hst : ∀ d ∈ st, ∀ c ∈ d.cols, loOk c) (w0 : Sto) :
    ∃ r, callI (run T) T n_stats_Tight [.sl false (s.map TabD.enc), .sl false (st.map (TS.enc false))] w0 = some r ∧ ∃ x, r.1 = .tup [x, i6 (checkE s st)] ∧ NestX r.2 x (tightR s st) := by
  refine callI_wp (nt := 35) (res := [.nst 4, .tmp 5]) (body := B_stats_Tight) (P := fun r => ∃ x, r.1 = .tup [x, i6 (checkE s st)] ∧ NestX r.2 x (tightR s st)) (by kernel_rfl) (by simp) (wp_mono (w_stats_Tight s st hs h6 hst w0) ?_)
  rintro e w ⟨x, hr, hn⟩
  exact ⟨_, hr, x, rfl, hn⟩
end Go.Proofs.YtoodknhlnifnlaaGreatDoor
