/- Normalising column by column: the code. -/
import Derived.Test.YtoodknhlnifnlaaGreatDoorNy
set_option linter.all false
set_option linter.unusedVariables false
set_option linter.unusedSimpArgs false
set_option maxRecDepth 100000
namespace Go.Proofs.YtoodknhlnifnlaaGreatDoor
open Go.RowKit
theorem T_clone : T n_slices_Clone__api_ColumnStat_api_ColumnStat = some (.extI cloneF) := by kernel_rfl
theorem i_clone_nil (f : Bool) (s : Sto) : callI (run T) T n_slices_Clone__api_ColumnStat_api_ColumnStat [.sl f []] s = some (.nil, s) := by simp only [callI, T_clone]; rfl
theorem i_clone_cons (f : Bool) (c : Col) (cs : List Col) (s : Sto) (h : (c :: cs).length ≤ 3518437208883) : callI (run T) T n_slices_Clone__api_ColumnStat_api_ColumnStat [.sl f ((c :: cs).map Col.enc)] s = some (.ref 4005 ((s 4005).g + 2) 5 0 (cs.length + 1), newO (newO s 4005 (.row 5 [])) 4005 (.row 5 ((c :: cs).map Col.enc))) := by
  simp only [callI, T_clone, List.map_cons, cloneF]
  rw [if_pos]
  · simp
  · refine ⟨?_, by simpa using h⟩
    simp
theorem w_stats_clone (t : TS) (hl : t.cols.length ≤ 3518437208883) (s : Sto) : wp T [.code B_stats_clone] (ini [t.enc false]) s (fun e s' => ∃ r, resI e s' [.cell 2 3 true] = some r ∧ Fr2 1000 2000 4005 4006 s s' ∧ ∃ x, r = .agg [i6 t.low, i6 t.rows, x] ∧ SlAt s' 4005 4006 5 x (t.cols.map Col.enc)) := by
  obtain ⟨low, rows, cols⟩ := t
  cases cols with
  | nil =>
    simp [i_clone_nil]
    refine ⟨.agg [i6 low, i6 rows, .nil], by simp [resI, resIL, resIX], ?_, .nil, rfl, .inl ⟨rfl, rfl⟩⟩
    exact (((Fr2.newO (fun _ _ _ => rfl) _ (by omega)).newO _ (by omega)).setO _ (by omega)).setO _ (by omega)
  | cons c cs =>
    have hc := fun s => i_clone_cons false c cs s hl
    simp only [List.map_cons] at hc
    simp [hc]
    refine ⟨.agg [i6 low, i6 rows, .ref 4005 ((s 4005).g + 2) 5 0 (cs.length + 1)], by simp [resI, resIL, resIX], ?_, .ref 4005 ((s 4005).g + 2) 5 0 (cs.length + 1), rfl, .inr ⟨by simp, 4005, (s 4005).g + 2, _, by simp, by simp; rfl, by omega, by omega⟩⟩
    exact (((((Fr2.newO (fun _ _ _ => rfl) _ (by omega)).newO _ (by omega)).newO _ (by omega)).newO _ (by omega)).setO _ (by omega)).setO _ (by omega)
theorem i_stats_clone (t : TS) (hl : t.cols.length ≤ 3518437208883) (s : Sto) : ∃ r, callI (run T) T n_stats_clone [.agg [i6 t.low, i6 t.rows, .sl false (t.cols.map Col.enc)]] s = some r ∧ Fr2 1000 2000 4005 4006 s r.2 ∧ ∃ x, r.1 = .agg [i6 t.low, i6 t.rows, x] ∧ SlAt r.2 4005 4006 5 x (t.cols.map Col.enc) :=
  callI_wp (nt := 8) (res := [.cell 2 3 true]) (body := B_stats_clone) (P := fun r => Fr2 1000 2000 4005 4006 s r.2 ∧ ∃ x, r.1 = .agg [i6 t.low, i6 t.rows, x] ∧ SlAt r.2 4005 4006 5 x (t.cols.map Col.enc)) (by kernel_rfl) (by simp) (w_stats_clone t hl s)
/-- The way out of normal. -/
def OutN (o : Nat) (s : Sto) (t : TS) (e : Env) (s' : Sto) : Prop := ∃ r, resI e s' [.cell 4 3 true] = some r ∧ Fr2 2000 3000 o (o + 1) s s' ∧ ∃ x, r = .agg [i6 t.low, i6 t.rows, x] ∧ SlAt s' o (o + 1) 5 x (t.cols.map Col.enc)
set_option maxHeartbeats 4000000 in
theorem w_stats_normal {fl : Bool} (ks : List Int) (t : TS) (hok : okT ks t) (hl : t.cols.length ≤ 3518437208883) (h0 : 0 < t.cols.length) (o g n0 : Nat) (ho : o < 2000 ∨ 3000 ≤ o) (s : Sto) (hs : s o = ⟨g, true, some (.row 5 (t.cols.map Col.enc)), n0⟩) :
    wp T [.code B_stats_normal] (ini [.sl fl (ks.map u8), .agg [i6 t.low, i6 t.rows, .ref o g 5 0 t.cols.length]]) s (OutN o s (normT ks t)) := by
  have hl' : t.cols.length ≤ 9223372036854775807 := by omega
  have hkl : Hd (ks.length = t.cols.length) := ⟨hok.len⟩
  have q1 : ¬ o = 2003 := by omega
  have q2 : ¬ 2003 = o := by omega
  have q3 : ¬ o = 2004 := by omega
  have q4 : ¬ 2004 = o := by omega
  have q5 : ¬ o = 2007 := by omega
  have q6 : ¬ 2007 = o := by omega
  generalize hR : normT ks t = R
  replace hR := Hd.mk hR
  have hw : Hd (Way ks t t) := ⟨Way.start hok⟩
  simp
  refine wp_rounds (σ := TS) (fun n e s' => e 0 = .sl fl (ks.map u8) ∧ (∃ g', e 3 = .ptr 2003 g' 0 ∧ ∃ m, s' 2003 = ⟨g', true, some (.box (.agg [i6 n.low, i6 n.rows, .ref o g 5 0 n.cols.length])), m⟩) ∧ (∃ g', e 4 = .ptr 2004 g' 0 ∧ ∃ m, s' 2004 = ⟨g', true, some (.box (.agg [i6 0, i6 0, .nil])), m⟩) ∧
      (∃ m, s' o = ⟨g, true, some (.row 5 (n.cols.map Col.enc)), m⟩) ∧ Hd (Way ks t n) ∧ Fr2 2000 3000 o (o + 1) s s') (fun n => mT n) ?_ t _ _
    ⟨by simp, ⟨(s 2003).g + 1, by simp, _, by simp; rfl⟩, ⟨(s 2004).g + 1, by simp, _, by simp; rfl⟩, ⟨_, by simp [q1, q2, q3, q4, hs]; rfl⟩, hw, (Fr2.newO (fun _ _ _ => rfl) _ (by omega)).newO _ (by omega)⟩
  rintro n e s' ⟨e0, ⟨g3, e3, m3, s3⟩, ⟨g4, e4, m4, s4⟩, ⟨mo, so⟩, hway, hF⟩ ih
  have hnk : Hd (ks.length = n.cols.length) := ⟨hway.out.ok.len⟩
  have hnl : Hd (n.cols.length = t.cols.length) := ⟨by have := hway.out.ok.len; have := hkl.out; omega⟩
  clear hw
  simp [e3, s3, so]
  refine wp_rounds (σ := Nat) (fun i e s'' => e 0 = .sl fl (ks.map u8) ∧ e 3 = .ptr 2003 g3 0 ∧ (∃ m, s'' 2003 = ⟨g3, true, some (.box (.agg [i6 n.low, i6 n.rows, .ref o g 5 0 n.cols.length])), m⟩) ∧ e 4 = .ptr 2004 g4 0 ∧ (∃ m, s'' 2004 = ⟨g4, true, some (.box (.agg [i6 0, i6 0, .nil])), m⟩) ∧
      (∃ m, s'' o = ⟨g, true, some (.row 5 (n.cols.map Col.enc)), m⟩) ∧ e 10 = .ref o g 5 0 n.cols.length ∧ e 11 = i6 n.cols.length ∧ e 12 = i6 i ∧ i ≤ n.cols.length ∧ Fr2 2000 3000 o (o + 1) s s'' ∧
      Hd (∀ (j : Nat) (h : j < ks.length) (h' : j < n.cols.length), j < i → ncol ks[j] n.cols[j] n.rows = n.cols[j] ∧ n.rows ≤ valC n.cols[j])) (fun i => n.cols.length - i) ?_ 0 _ _
    ⟨by simp [e0], by simp [e3], ⟨m3, s3⟩, by simp [e4], ⟨m4, s4⟩, ⟨mo, so⟩, by simp, by simp, by simp, by omega, hF, ⟨fun j _ _ h => by omega⟩⟩
  clear e0 e3 s3 e4 s4 so hF
  clear mo m4 m3 e s'
  rintro i e s' ⟨e0, e3, ⟨m3, s3⟩, e4, ⟨m4, s4⟩, ⟨mo, so⟩, e10, e11, e12, hi', hF, hfx⟩ ih2
  simp [e11, e12]
  refine wpC_split (fun q => ?_) (fun q => ?_) <;> (have q' := q; try simp at q') <;> (try simp [*])
  · have hik : i < ks.length := by have := hnk.out; omega
    have hco := hway.out.ok.cols _ (List.getElem_mem q')
    have hcn : ∀ a b d, call T n_stats_count [u8 ks[i], .agg [i6 a, i6 b, i6 d, i6 n.cols[i].lo, i6 n.cols[i].hi]] = some (i6 (countN ks[i] n.cols[i])) := fun a b d => c_stats_count ks[i] ⟨a, b, d, n.cols[i].lo, n.cols[i].hi⟩ hco.2.2.2
    replace hco := Hd.mk hco
    have fin : ∀ e' s2, e' 0 = .sl fl (ks.map u8) → e' 3 = .ptr 2003 g3 0 → (∃ m, s2 2003 = ⟨g3, true, some (.box (.agg [i6 n.low, i6 n.rows, .ref o g 5 0 n.cols.length])), m⟩) → e' 4 = .ptr 2004 g4 0 → (∃ m, s2 2004 = ⟨g4, true, some (.box (.agg [i6 0, i6 0, .nil])), m⟩) →
        (∃ m, s2 o = ⟨g, true, some (.row 5 ((n.cols.map Col.enc).set i (ncol ks[i] n.cols[i] n.rows).enc)), m⟩) → e' 10 = .ref o g 5 0 n.cols.length → e' 11 = i6 n.cols.length → e' 12 = i6 i → e' 6 = .ep o g 5 i 0 → (∃ g7, e' 7 = .ptr 2007 g7 0 ∧ ∃ m, s2 2007 = ⟨g7, true, some (.box n.cols[i].enc), m⟩) → Fr2 2000 3000 o (o + 1) s s2 →
        wp T [It.code ((IC.dops [] [] stats_normal_r13 stats_normal_r13t).seq ((IC.dops [] [] stats_normal_r14 stats_normal_r14t).seq (IC.cond (Ar.t 116) ((IC.ops stats_normal_r15).seq (IC.exit 1)) IC.skip))),
          It.bl 3, It.code (IC.ops stats_normal_r16), It.lp stats_normal_l2, It.bl 2, It.code ((IC.ops stats_normal_r17).seq IC.ret), It.bl 1, It.lp stats_normal_l1, It.bl 0] e' s2 (OutN o s R) := by
      intro e' s2 y0 y3 ⟨m3, z3⟩ y4 ⟨m4, z4⟩ ⟨mo, zo⟩ y10 y11 y12 y6 ⟨g7, y7, m7, z7⟩ hF2
      have hst : Hd (Way ks t (stepT ks n i ks[i] n.cols[i])) := ⟨hway.out.step hik q'⟩
      have hlt : Hd (¬ stepT ks n i ks[i] n.cols[i] = n → mT (stepT ks n i ks[i] n.cols[i]) < mT n) := ⟨fun h => mT_lt (step_le hway.out.ok hik q') (step_ok hway.out.ok hik q') h⟩
      have hne : Hd (¬ (ncol ks[i] n.cols[i] n.rows = n.cols[i] ∧ min n.rows (valC (ncol ks[i] n.cols[i] n.rows)) = n.rows) → ¬ stepT ks n i ks[i] n.cols[i] = n) := ⟨step_ne hik q'⟩
      have hsc : Hd (stepT ks n i ks[i] n.cols[i] = ⟨n.low, min n.rows (valC (ncol ks[i] n.cols[i] n.rows)), n.cols.set i (ncol ks[i] n.cols[i] n.rows)⟩) := ⟨rfl⟩
      have hnc : Hd (∀ (j : Nat) (h : j < ks.length) (h' : j < n.cols.length), j = i → ncol ks[j] n.cols[j] n.rows = ncol ks[i] n.cols[i] n.rows) := ⟨fun j h h' e => by subst e; rfl⟩
      generalize ncol ks[i] n.cols[i] n.rows = z at *
      generalize stepT ks n i ks[i] n.cols[i] = w at *
      obtain ⟨b, hb1, hb2⟩ := col_cmp z n.cols[i]
      have f2 := c_value_Times z.distinct z.degree
      have f3 : call T n_value_Plus [i6 (timesN z.distinct z.degree), i6 z.nulls] = some (i6 (valC z)) := c_value_Plus _ _
      have hz : ((n.cols.map Col.enc).set i z.enc)[i]? = some z.enc := by simp [q']
      simp [y0, y3, y4, y6, y7, y10, y11, y12, z3, z4, zo, z7, f2, f3, hz, q1, q2, q3, q4, q5, q6, hb1]
      have up : ∀ e3' s3', e3' 0 = .sl fl (ks.map u8) → e3' 3 = .ptr 2003 g3 0 → (∃ m, s3' 2003 = ⟨g3, true, some (.box (.agg [i6 n.low, i6 (min n.rows (valC z)), .ref o g 5 0 n.cols.length])), m⟩) → e3' 4 = .ptr 2004 g4 0 → (∃ m, s3' 2004 = ⟨g4, true, some (.box (.agg [i6 0, i6 0, .nil])), m⟩) →
          (∃ m, s3' o = ⟨g, true, some (.row 5 ((n.cols.map Col.enc).set i z.enc)), m⟩) → Fr2 2000 3000 o (o + 1) s s3' → ¬ (z = n.cols[i] ∧ min n.rows (valC z) = n.rows) → wp T [It.lp stats_normal_l1, It.bl 0] e3' s3' (OutN o s R) := by
        intro e3' s3' x0 x3 ⟨p3, u3⟩ x4 ⟨p4, u4⟩ ⟨po, uo⟩ hF3 hn
        have hlt' := hlt.out (hne.out hn)
        have hst' := hst.out
        rw [hsc.out] at hlt' hst'
        refine ih.out ⟨n.low, min n.rows (valC z), n.cols.set i z⟩ _ _ ⟨x0, ⟨g3, x3, p3, by rw [u3]; simp⟩, ⟨g4, x4, p4, u4⟩, ⟨po, by rw [uo]; simp [List.map_set]⟩, ⟨hst'⟩, hF3⟩ hlt'
      replace up := Hd.mk up
      have hb2' := hb2.out
      replace hb2 := Hd.mk hb2'
      clear hb2'
      cases b
      · simp [y0, y3, y4, y6, y7, y10, y11, y12, z3, z4, zo, z7, q1, q2, q3, q4, q5, q6]
        refine wpC_split (fun r => ?_) (fun r => ?_) <;> (have r' := r; try simp at r') <;> (try simp [*])
        · exact up.out _ _ (by simp [y0]) (by simp [y3]) (so_mk (by simp [z3]) (by simp [z3]) (by simp [z3])) (by simp [y4]) (so_mk (by simp [z4]) (by simp [z4]) (by simp [z4])) (so_mk (by simp [zo, q1, q2]) (by simp [zo, q1, q2]) (by simp [zo, q1, q2])) (hF2.setO _ (by omega)) (fun h => by have := h.2; omega)
        · have hzc := hb2.out.1 rfl
          refine ih2.out (i + 1) _ _ ⟨by simp [y0], by simp [y3], ⟨m3, z3⟩, by simp [y4], ⟨m4, z4⟩, ⟨mo, ?_⟩, by simp [y10], by simp [y11], by simp [wrap_succ q' (show n.cols.length ≤ 9223372036854775807 by have := hnl.out; omega)], q', hF2, ⟨?_⟩⟩ (by omega)
          · rw [zo, hzc, ← List.map_set, set_self' q']
          · intro j h h' hj
            by_cases hji : j = i
            · have := hnc.out j h h' hji
              subst hji
              exact ⟨this.trans hzc, by rw [← hzc]; omega⟩
            · exact hfx.out j h h' (by omega)
      · simp [y0, y3, y4, y6, y7, y10, y11, y12, z3, z4, zo, z7, q1, q2, q3, q4, q5, q6]
        exact up.out _ _ (by simp [y0]) (by simp [y3]) (so_mk (by simp [z3]) (by simp [z3]) (by simp [z3])) (by simp [y4]) (so_mk (by simp [z4]) (by simp [z4]) (by simp [z4])) (so_mk (by simp [zo, q1, q2]) (by simp [zo, q1, q2]) (by simp [zo, q1, q2])) (hF2.setO _ (by omega)) (fun h => by have := hb2.out.2 h.1; simp at this)
    replace fin := Hd.mk fin
    simp [e0, e3, e10, e12, s3, so, q', hik, q1, q2, q3, q4, q5, q6, hcn]
    generalize It.code ((IC.dops [] [] stats_normal_r13 stats_normal_r13t).seq ((IC.dops [] [] stats_normal_r14 stats_normal_r14t).seq (IC.cond (Ar.t 116) ((IC.ops stats_normal_r15).seq (IC.exit 1)) IC.skip))) = K at fin ⊢
    refine wpG_split (fun h1 => ?_) (fun h1 => ?_) <;> (have h1' := h1; try simp at h1') <;> (try simp [*])
    · refine wpC_split (fun k => ?_) (fun k => ?_) <;> (have k' := k; try simp at k') <;> (try simp [*])
      · have hz := ncol_z (kind := ks[i]) (c := n.cols[i]) (r := n.rows) (.inl h1')
        rw [if_pos k', if_pos k', k'] at hz
        refine fin.out _ _ (by simp [e0]) (by simp [e3]) (so_mk (by simp [s3, q1, q2]) (by simp [s3, q1, q2]) (by simp [s3, q1, q2])) (by simp [e4]) (so_mk (by simp [s4, q3, q4]) (by simp [s4, q3, q4]) (by simp [s4, q3, q4])) (so_mk (by simp [so, q5, q6]) (by simp [so, q5, q6]) (by simp [so, q5, q6, hz, k'])) (by simp [e10]) (by simp [e11]) (by simp [e12]) (by simp) ⟨(s' 2007).g + 1, by simp, so_mk (by simp [q5, q6]) (by simp [q5, q6]) (by simp [q5, q6])⟩ ?_
        repeat (first | exact hF | refine Fr2.setO ?_ _ (by omega) | refine Fr2.newO ?_ _ (by omega))
      · have hz := ncol_z (kind := ks[i]) (c := n.cols[i]) (r := n.rows) (.inl h1')
        refine fin.out _ _ (by simp [e0]) (by simp [e3]) (so_mk (by simp [s3, q1, q2]) (by simp [s3, q1, q2]) (by simp [s3, q1, q2])) (by simp [e4]) (so_mk (by simp [s4, q3, q4]) (by simp [s4, q3, q4]) (by simp [s4, q3, q4])) (so_mk (by simp [so, q5, q6]) (by simp [so, q5, q6]) (by simp [so, q5, q6, hz, k'])) (by simp [e10]) (by simp [e11]) (by simp [e12]) (by simp) ⟨(s' 2007).g + 1, by simp, so_mk (by simp [q5, q6]) (by simp [q5, q6]) (by simp [q5, q6])⟩ ?_
        repeat (first | exact hF | refine Fr2.setO ?_ _ (by omega) | refine Fr2.newO ?_ _ (by omega))
    refine wpC_split (fun h2 => ?_) (fun h2 => ?_) <;> (have h2' := h2; try simp at h2') <;> (try simp [*])
    · refine wpC_split (fun k => ?_) (fun k => ?_) <;> (have k' := k; try simp at k') <;> (try simp [*])
      · have hz := ncol_z (kind := ks[i]) (c := n.cols[i]) (r := n.rows) (.inr h2')
        rw [if_pos k', if_pos k', k'] at hz
        refine fin.out _ _ (by simp [e0]) (by simp [e3]) (so_mk (by simp [s3, q1, q2]) (by simp [s3, q1, q2]) (by simp [s3, q1, q2])) (by simp [e4]) (so_mk (by simp [s4, q3, q4]) (by simp [s4, q3, q4]) (by simp [s4, q3, q4])) (so_mk (by simp [so, q5, q6]) (by simp [so, q5, q6]) (by simp [so, q5, q6, hz, k'])) (by simp [e10]) (by simp [e11]) (by simp [e12]) (by simp) ⟨(s' 2007).g + 1, by simp, so_mk (by simp [q5, q6]) (by simp [q5, q6]) (by simp [q5, q6])⟩ ?_
        repeat (first | exact hF | refine Fr2.setO ?_ _ (by omega) | refine Fr2.newO ?_ _ (by omega))
      · have hz := ncol_z (kind := ks[i]) (c := n.cols[i]) (r := n.rows) (.inr h2')
        refine fin.out _ _ (by simp [e0]) (by simp [e3]) (so_mk (by simp [s3, q1, q2]) (by simp [s3, q1, q2]) (by simp [s3, q1, q2])) (by simp [e4]) (so_mk (by simp [s4, q3, q4]) (by simp [s4, q3, q4]) (by simp [s4, q3, q4])) (so_mk (by simp [so, q5, q6]) (by simp [so, q5, q6]) (by simp [so, q5, q6, hz, k'])) (by simp [e10]) (by simp [e11]) (by simp [e12]) (by simp) ⟨(s' 2007).g + 1, by simp, so_mk (by simp [q5, q6]) (by simp [q5, q6]) (by simp [q5, q6])⟩ ?_
        repeat (first | exact hF | refine Fr2.setO ?_ _ (by omega) | refine Fr2.newO ?_ _ (by omega))
    · have hz := ncol_n (kind := ks[i]) (c := n.cols[i]) (r := n.rows) h1' h2'
      refine fin.out _ _ (by simp [e0]) (by simp [e3]) (so_mk (by simp [s3, q1, q2]) (by simp [s3, q1, q2]) (by simp [s3, q1, q2])) (by simp [e4]) (so_mk (by simp [s4, q3, q4]) (by simp [s4, q3, q4]) (by simp [s4, q3, q4])) (so_mk (by simp [so, q5, q6]) (by simp [so, q5, q6]) (by simp [so, q5, q6, hz])) (by simp [e10]) (by simp [e11]) (by simp [e12]) (by simp) ⟨(s' 2007).g + 1, by simp, so_mk (by simp [q5, q6]) (by simp [q5, q6]) (by simp [q5, q6])⟩ ?_
      repeat (first | exact hF | refine Fr2.setO ?_ _ (by omega) | refine Fr2.newO ?_ _ (by omega))
  · have hie : i = n.cols.length := by omega
    subst hie
    have hgr : Gr ks t n := hway.out.fin (fun j h h' => hfx.out j h h' h')
    have hRn : R = n := hR.out.symm.trans (normT_of hgr)
    subst hRn
    refine ⟨.agg [i6 R.low, i6 R.rows, .ref o g 5 0 R.cols.length], by simp [resI, resIL, resIX, e4, s4], hF.setO _ (by omega), .ref o g 5 0 R.cols.length, rfl, ?_⟩
    refine .inr ⟨?_, o, g, mo, by simp, by simp [so, q3, q4], by omega, by omega⟩
    intro hc
    have hh := hnl.out
    have := congrArg List.length hc
    simp only [List.length_map, List.length_nil] at this
    omega
end Go.Proofs.YtoodknhlnifnlaaGreatDoor
