/- Gather of both: the reference's contract; the program's, inlined (seat ZD's table). -/
import Derived.Test.YtoodknhlnifnlaaGreatDoorYp
import Derived.Test.YtoodknhlnifnlaaGreatDoorXn
import Derived.Test.YtoodknhlnifnlaaGreatDoorVg
import Derived.Test.YtoodknhlnifnlaaGreatDoorVl
set_option linter.all false
set_option linter.unusedVariables false
set_option linter.unusedSimpArgs false
set_option maxRecDepth 100000
namespace Go.Proofs.YtoodknhlnifnlaaGreatDoor
open Go.RowKit
theorem own_stats_Of (ks : List Int) (rows : List (List Val)) (hl : ks.length ≤ 3518437208883) (ho : rowsOk rows) :
    ownC T [0, 2] n_stats_Of [.sl false (ks.map u8), .sl false (rows.map rowX)] = some (.tup [.agg [i6 (ofS ks rows).low, i6 (ofS ks rows).rows, .nil], i6 (ofE ks rows)], if (ofS ks rows).cols = [] then none else some (5, (ofS ks rows).cols.map Col.enc)) := by
  refine own_wp (nt := 37) (res := [.cell 4 3 true, .tmp 5]) (body := B_stats_Of) (by kernel_rfl) (by simp) (wp_mono (w_stats_Of ks rows hl ho s0) ?_)
  intro e s h
  obtain ⟨r, hr, _, x, rfl, hx⟩ := h.inl
  refine ⟨_, hr, ?_⟩
  generalize ofS ks rows = t at *
  generalize ofE ks rows = err at *
  have d1 : ∀ n, dpn s (i6 n) = some (i6 n) := fun _ => rfl
  have e1 : ownX s [0, 2] (.tup [.agg [i6 t.low, i6 t.rows, x], i6 err]) = some (.tup [.agg [i6 t.low, i6 t.rows, .nil], i6 err], x) := by
    simp [ownX, dpT, dpC, dpL, d1, dpn]
  have e2 : ownN [0, 2] (.tup [.agg [i6 t.low, i6 t.rows, x], i6 err]) = [] := by simp [ownN, nmC, nmX]
  rw [e1, e2]
  rcases hx with ⟨h0, rfl⟩ | ⟨h0, o, g, n, rfl, h, h1, h2⟩
  · have h0 : t.cols = [] := by simpa using h0
    simp [ownR, h0]
  · have h0 : ¬ t.cols = [] := by simpa using h0
    simp [ownR, h, h0, deepL_map]
/-- The exact description of rows, its columns the caller's. -/
theorem callo_Of (ks : List Int) (rows : List (List Val)) (hl : ks.length ≤ 3518437208883) (ho : rowsOk rows) (w : Sto) :
    ∃ r, callOR true [0, 2] 3900000 [] w (ownC T [0, 2] n_stats_Of [.sl false (ks.map u8), .sl false (rows.map rowX)]) = some r ∧
      (∃ x, r.1 = .tup [.agg [i6 (ofS ks rows).low, i6 (ofS ks rows).rows, x], i6 (ofE ks rows)] ∧ SlAt r.2 3900000 3900001 5 x ((ofS ks rows).cols.map Col.enc)) ∧ ∀ q, ¬ q = 3900000 → r.2 q = w q := by
  rw [own_stats_Of ks rows hl ho]
  generalize ofS ks rows = t at *
  by_cases h0 : t.cols = []
  · rw [if_pos h0]
    exact ⟨(.tup [.agg [i6 t.low, i6 t.rows, .nil], i6 (ofE ks rows)], frz w []), by simp [plug], ⟨.nil, rfl, .inl ⟨by simp [h0], rfl⟩⟩, fun q _ => by simp⟩
  · rw [if_neg h0]
    refine ⟨(.tup [.agg [i6 t.low, i6 t.rows, .ref 3900000 ((w 3900000).g + 1) 5 0 t.cols.length], i6 (ofE ks rows)], newO (frz w []) 3900000 (.row 5 (t.cols.map Col.enc))), by simp [plug], ⟨_, rfl, .inr ⟨by simpa using h0, 3900000, (w 3900000).g + 1, (w 3900000).n + 1, by simp, by simp, by omega, by omega⟩⟩, fun q hq => by simp [hq]⟩
set_option maxHeartbeats 2000000 in
theorem c_ref19_Gather (s : List TabD) (d : List (List (List Val))) (hs : schemeSmall s) (hd : dataSmall d) :
    call T n_jointerref19_Gather [.sl false (s.map TabD.enc), .sl false (d.map dataX)] = some (.tup [.sl true ((gathR s d).map (TS.enc true)), i6 (gathE s d)]) := by
  refine go_jointerref19_Gather (by simp) ?_
  have f0 := c_ref07_Valid s hs
  have f1 := c_ref07_ValidData s d hs hd
  have hs1 := hs.1
  have hR0 : ¬ DataOK s d → gathR s d = [] ∧ gathE s d = 1 := fun h => ⟨if_neg h, if_neg h⟩
  have hR1 : DataOK s d → gathR s d = List.zipWith (fun t rows => ofS (kindsT t) rows) s d ∧ gathE s d = 0 := fun h => ⟨if_pos h, if_pos h⟩
  generalize gathR s d = R at *
  generalize gathE s d = E at *
  replace hR0 := Hd.mk hR0
  replace hR1 := Hd.mk hR1
  replace hs := Hd.mk hs
  replace hd := Hd.mk hd
  obtain ⟨b0, hb0⟩ : ∃ b, b = bP (SchemeOK s) := ⟨_, rfl⟩
  obtain ⟨b1, hb1⟩ : ∃ b, b = bP (DataOK s d) := ⟨_, rfl⟩
  rw [← hb0] at f0
  rw [← hb1] at f1
  have hbb : b1 = true → b0 = true := by
    intro h
    rw [hb1, bP_iff] at h
    rw [hb0, bP_iff]
    exact h.sch
  replace hb0 := Hd.mk hb0
  replace hb1 := Hd.mk hb1
  cases b1 with
  | false =>
    obtain ⟨rfl, rfl⟩ := hR0.out (by rw [← bP_false]; exact hb1.out.symm)
    cases b0 <;> simp [f0, f1]
  | true =>
  have a1' := bP_iff.1 hb1.out.symm
  obtain rfl := hbb rfl
  obtain ⟨rfl, rfl⟩ := hR1.out a1'
  clear hR0 hR1 hbb hb0 hb1
  replace a1' := Hd.mk a1'
  have hl : Hd (d.length = s.length) := ⟨a1'.out.len⟩
  have hzl : Hd ((List.zipWith (fun t rows => ofS (kindsT t) rows) s d).length = s.length) := ⟨by rw [List.length_zipWith, hl.out]; omega⟩
  have hzg : Hd (∀ (i : Nat) (h : i < s.length) (h' : i < d.length) (h'' : i < (List.zipWith (fun t rows => ofS (kindsT t) rows) s d).length), (List.zipWith (fun t rows => ofS (kindsT t) rows) s d)[i] = ofS (kindsT s[i]) d[i]) := ⟨fun i h h' h'' => by simp⟩
  generalize List.zipWith (fun t rows => ofS (kindsT t) rows) s d = Z at *
  simp [f0, f1]
  refine wp_rounds (σ := Nat) (fun i e w => ((i = 0 ∧ e 6 = .nil) ∨ (0 < i ∧ ∃ g, e 6 = .ref 41 g 3 0 i ∧ ∃ n, w 41 = ⟨g, true, some (.row 3 ((Z.take i).map (TS.enc true))), n⟩)) ∧ e 0 = .sl false (s.map TabD.enc) ∧ e 1 = .sl false (d.map dataX) ∧ e 7 = i6 i ∧ i ≤ s.length) (fun i => s.length - i) ?_ 0 _ _
    ⟨.inl ⟨rfl, by simp⟩, by simp, by simp, by simp, by omega⟩
  rintro i e w ⟨e6, e0, e1, e7, hi⟩ ih
  have hlen : (Z.take i).length = i := by rw [List.length_take, hzl.out]; omega
  generalize hes : Z.take i = es at e6 hlen
  replace hes := Hd.mk hes
  simp [e0, e1, e7]
  refine wpC_split (fun q => ?_) (fun q => ?_) <;> (have q' := q; try simp at q') <;> (try simp [*])
  · have hs16 : s.length ≤ 16 := a1'.out.sch.1
    have hid : i < d.length := by rw [hl.out]; exact q'
    have h8 := a1'.out.sch.len q'
    have hz := hzg.out i q' hid (by rw [hzl.out]; exact q')
    have g2 := c_ref19_TableKinds s[i] (by omega)
    have g3 := c_jointerref19_Of (kindsT s[i]) d[i] (by simp; omega) (hd.out.2 _ (List.getElem_mem hid))
    rw [kindsT_u8] at g3
    generalize ofS (kindsT s[i]) d[i] = z at *
    rcases e6 with ⟨h0, e6⟩ | ⟨h0, g, e6, n, s41⟩
    · subst h0
      simp [hid, g2, g3, e0, e1, e7, e6]
      refine ih.out 1 _ _ ⟨.inr ⟨by omega, (w 41).g + 1, by simp, ?_⟩, by simp [e0], by simp [e1], by simp [e7, show IntKind.i64.wrap 1 = 1 by rw [wrap_in] <;> omega], q'⟩ (by omega)
      rw [List.take_succ_eq_append_getElem (by rw [hzl.out]; exact q'), hz]
      exact so_mk (by simp) (by simp) (by simp)
    · simp [hid, g2, g3, e0, e1, e7, e6, s41, hlen, show i ≤ 3518437208882 by omega]
      refine ih.out (i + 1) _ _ ⟨.inr ⟨by omega, g + 1, by simp, ?_⟩, by simp [e0], by simp [e1], by simp [e7, wrap_succ q' hs1], q'⟩ (by omega)
      rw [List.take_succ_eq_append_getElem (by rw [hzl.out]; exact q'), hz, hes.out]
      exact so_mk (by simp [s41]) (by simp) (by simp)
  · have hie : i = s.length := by omega
    have he := hes.out
    rw [List.take_of_length_le (by rw [hzl.out]; omega)] at he
    subst he
    rcases e6 with ⟨h0, e6⟩ | ⟨h0, g, e6, n, s41⟩
    · have hz0 : Z = [] := List.eq_nil_of_length_eq_zero (by omega)
      simp [e6, hz0]
    · simp [e6, s41, hlen]
      try (rw [← hlen]; simp)
set_option maxHeartbeats 4000000 in
theorem w_stats_Gather (s : List TabD) (d : List (List (List Val))) (hs : schemeSmall s) (hd : dataSmall d) (w0 : Sto) :
    wp T [.code B_stats_Gather] (ini [.sl false (s.map TabD.enc), .sl false (d.map dataX)]) w0 (fun e w => ∃ x, resI e w [.nst 4, .tmp 5] = some (.tup [x, i6 (gathE s d)]) ∧ NestX 12035 w x (gathR s d)) := by
  have f1 := c_scheme_ValidData s d hs hd
  have hs1 := hs.1
  have hR0 : ¬ DataOK s d → gathR s d = [] ∧ gathE s d = 1 := fun h => ⟨if_neg h, if_neg h⟩
  have hR1 : DataOK s d → gathR s d = List.zipWith (fun t rows => ofS (kindsT t) rows) s d ∧ gathE s d = 0 := fun h => ⟨if_pos h, if_pos h⟩
  generalize gathR s d = R at *
  generalize gathE s d = E at *
  replace hR0 := Hd.mk hR0
  replace hR1 := Hd.mk hR1
  replace hs := Hd.mk hs
  replace hd := Hd.mk hd
  simp [f1]
  refine wpC_split (fun a1 => ?_) (fun a1 => ?_) <;> (have a1' := a1; try simp at a1') <;> (try simp [*])
  · rw [bP_false] at a1'
    obtain ⟨rfl, rfl⟩ := hR0.out a1'
    exact ⟨.nil, by simp [resI, resIL, resIX], .inl ⟨rfl, rfl⟩⟩
  rw [bP_iff] at a1'
  obtain ⟨rfl, rfl⟩ := hR1.out a1'
  clear hR0 hR1
  replace a1' := Hd.mk a1'
  have hl : Hd (d.length = s.length) := ⟨a1'.out.len⟩
  have hzl : Hd ((List.zipWith (fun t rows => ofS (kindsT t) rows) s d).length = s.length) := ⟨by rw [List.length_zipWith, hl.out]; omega⟩
  have hzg : Hd (∀ (i : Nat) (h : i < s.length) (h' : i < d.length) (h'' : i < (List.zipWith (fun t rows => ofS (kindsT t) rows) s d).length), (List.zipWith (fun t rows => ofS (kindsT t) rows) s d)[i] = ofS (kindsT s[i]) d[i]) := ⟨fun i h h' h'' => by simp⟩
  generalize List.zipWith (fun t rows => ofS (kindsT t) rows) s d = Z at *
  refine wp_rounds (σ := Nat) (fun i e w => ((i = 0 ∧ e 6 = .nil) ∨ (0 < i ∧ ∃ g xs n, e 6 = .ref 12035 g 3 0 i ∧ w 12035 = ⟨g, true, some (.row 3 xs), n⟩ ∧ Hd (Nest w (Z.take i) xs))) ∧ e 1 = .sl false (d.map dataX) ∧ e 15 = .sl false (s.map TabD.enc) ∧ e 16 = i6 s.length ∧ e 17 = i6 i ∧ i ≤ s.length) (fun i => s.length - i) ?_ 0 _ _
    ⟨.inl ⟨rfl, by simp⟩, by simp, by simp, by simp, by simp, by omega⟩
  rintro i e w ⟨e6, e1, e15, e16, e17, hi⟩ ih
  simp [e1, e15, e16, e17]
  refine wpC_split (fun q => ?_) (fun q => ?_) <;> (have q' := q; try simp at q') <;> (try simp [*])
  · have hs16 : s.length ≤ 16 := a1'.out.sch.1
    have hid : i < d.length := by rw [hl.out]; exact q'
    have h8 := a1'.out.sch.len q'
    have hz := hzg.out i q' hid (by rw [hzl.out]; exact q')
    have g2 := c_stats_kindsOf s[i] (by omega)
    have g3 := fun w => callo_Of (kindsT s[i]) d[i] (by simp; omega) (hd.out.2 _ (List.getElem_mem hid)) w
    rw [kindsT_u8] at g3
    generalize ofS (kindsT s[i]) d[i] = z at *
    generalize ofE (kindsT s[i]) d[i] = err at *
    replace g3 := Hd.mk g3
    have hidx : ¬ 12034 = 3000000 + i := by omega
    simp [hid, g2, e1, e15, e16, e17]
    refine wpR_ex1 (g3.out _) ?_
    rintro ⟨r, w1⟩ ⟨⟨x, hr, hx⟩, hF1⟩
    simp only at hr hx hF1
    subst hr
    have k8 : w1 12008 = _ := hF1 12008 (by omega)
    have k6 : w1 12035 = _ := hF1 12035 (by omega)
    have k9 : w1 12009 = _ := hF1 12009 (by omega)
    simp at k8 k6 k9
    obtain ⟨y, w3, hr3, hy, hf3, hyo⟩ := mv_nil (a := z.low) (b := z.rows) (d := 3000000 + i) (s := setO (newO w1 12009 (.box (.agg [i6 0, i6 0, .nil]))) 12009 (.box (.agg [i6 z.low, i6 z.rows, x]))) (hx.keep (fun o h1 h2 => by rw [setO_app, if_neg (by omega), newO_app, if_neg (by omega)])) (by omega)
    have hlit : (X.agg [i6 z.low, i6 z.rows, y]).lit = true := by simp [X.lit, X.cells, X.deep, hy.isRef]
    have m6 : w3 12035 = w1 12035 := by rw [hf3 12035 (by omega) (by omega), setO_app, if_neg (by omega), newO_app, if_neg (by omega)]
    rw [k6] at m6
    rcases e6 with ⟨h0, e6⟩ | ⟨h0, g, xs, n, e6, s35, hne⟩
    · subst h0
      simp [e1, e15, e16, e17, e6, k8, k9, hx.one.1, hr3, m6, hlit]
      refine ih.out 1 _ _ ⟨.inr ⟨by omega, (w 12035).g + 1, [.agg [i6 z.low, i6 z.rows, y]], (w 12035).n + 1, by simp, by simp [m6], ⟨?_⟩⟩, by simp [e1], by simp [e15], by simp [e16], by simp [show IntKind.i64.wrap 1 = 1 by rw [wrap_in] <;> omega], q'⟩ (by omega)
      rw [List.take_succ_eq_append_getElem (by rw [hzl.out]; exact q'), hz]
      exact Nest.add (Z := []) (xs := []) (Nest.nil w) (fun j hj => by simp at hj) (hy.keep (fun o h1 h2 => by rw [newO_app, if_neg (by omega), newO_app, if_neg (by omega)]))
    · have hxl : xs.length = i := by rw [hne.out.len, List.length_take, hzl.out]; omega
      rw [s35] at m6
      simp [e1, e15, e16, e17, e6, k8, k9, k6, s35, hx.one.1, hr3, m6, hlit, hidx, hxl, show i ≤ 3518437208882 by omega]
      refine ih.out (i + 1) _ _ ⟨.inr ⟨by omega, g + 1, xs ++ [.agg [i6 z.low, i6 z.rows, y]], n + 1, by simp, by simp [m6], ⟨?_⟩⟩, by simp [e1], by simp [e15], by simp [e16], by simp [wrap_succ q' hs1], q'⟩ (by omega)
      rw [List.take_succ_eq_append_getElem (by rw [hzl.out]; exact q'), hz]
      have htl : (Z.take i).length = i := by rw [List.length_take, hzl.out]; omega
      refine Nest.add hne.out (fun j hj => ?_) ?_
      · rw [htl] at hj
        rw [newO_app, if_neg (by omega), newO_app, if_neg (by omega), hf3 _ (by omega) (by omega)]
        rw [setO_app, if_neg (by omega), newO_app, if_neg (by omega)]
        have a1 : w1 (3000000 + j) = _ := hF1 (3000000 + j) (by omega)
        rw [a1, setO_app, if_neg (by omega), newO_app, if_neg (by omega)]
      · rw [htl]
        exact hy.keep (fun o h1 h2 => by rw [newO_app, if_neg (by omega), newO_app, if_neg (by omega)])
  · have hie : i = Z.length := by rw [hzl.out]; omega
    subst hie
    rcases e6 with ⟨h0, e6⟩ | ⟨h0, g, xs, n, e6, s35, hne⟩
    · have hz0 : Z = [] := List.eq_nil_of_length_eq_zero h0
      simp [e6]
      exact ⟨.nil, by simp [resI, resIL, resIX], .inl ⟨hz0, rfl⟩⟩
    · rw [List.take_length] at hne
      simp [e6]
      refine ⟨.ref 12035 g 3 0 Z.length, by simp [resI, resIL, resIX], .inr ⟨fun h => by rw [h] at h0; simp at h0, g, xs, n, rfl, s35, hne.out⟩⟩
theorem i_stats_Gather (s : List TabD) (d : List (List (List Val))) (hs : schemeSmall s) (hd : dataSmall d) (w0 : Sto) :
    ∃ r, callI (run T) T n_stats_Gather [.sl false (s.map TabD.enc), .sl false (d.map dataX)] w0 = some r ∧ ∃ x, r.1 = .tup [x, i6 (gathE s d)] ∧ NestX 12035 r.2 x (gathR s d) := by
  refine callI_wp (nt := 38) (res := [.nst 4, .tmp 5]) (body := B_stats_Gather) (P := fun r => ∃ x, r.1 = .tup [x, i6 (gathE s d)] ∧ NestX 12035 r.2 x (gathR s d)) (by kernel_rfl) (by simp) (wp_mono (w_stats_Gather s d hs hd w0) ?_)
  rintro e w ⟨x, hr, hn⟩
  exact ⟨_, hr, x, rfl, hn⟩
end Go.Proofs.YtoodknhlnifnlaaGreatDoor
