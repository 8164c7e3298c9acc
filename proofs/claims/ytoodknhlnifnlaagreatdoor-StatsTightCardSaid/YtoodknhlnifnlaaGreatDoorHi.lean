/- What the scheme says of a table's description: the code of tight (seat D's table). -/
import Derived.Test.YtoodknhlnifnlaaGreatDoorNz
import Derived.Test.YtoodknhlnifnlaaGreatDoorVj
set_option linter.all false
set_option linter.unusedVariables false
set_option linter.unusedSimpArgs false
set_option maxRecDepth 100000
namespace Go.Proofs.YtoodknhlnifnlaaGreatDoor
open Go.RowKit
def tightC (a : ColD) (c : Col) : Col := ⟨if a.nn = true then 0 else c.nulls, if a.kind = 2 ∧ a.hi = 0 then min c.distinct 1 else c.distinct, c.degree, if a.kind = 1 then max c.lo a.lo else c.lo, if a.kind = 1 then min c.hi a.hi else c.hi⟩
def oneC (c : Col) : Col := ⟨c.nulls, c.distinct, min c.degree 1, c.lo, c.hi⟩
def keyC (cols : List Col) (key : List Int) : List Col := if key.length = 1 then cols.modify (key.headD 0).toNat oneC else cols
def tightU (t : TabD) (d : TS) : TS := ⟨d.low, min d.rows 1000, t.keys.foldl keyC (List.zipWith tightC t.cols d.cols)⟩
noncomputable def tightT (t : TabD) (d : TS) : TS := normT (kindsT t) (tightU t d)
theorem keyC_len (cols : List Col) (key : List Int) : (keyC cols key).length = cols.length := by unfold keyC; split <;> simp
theorem keysC_len : ∀ (keys : List (List Int)) (cols : List Col), (keys.foldl keyC cols).length = cols.length
  | [], _ => rfl
  | k :: keys, cols => by rw [List.foldl_cons, keysC_len keys, keyC_len]
/-- Where the walk over the columns stands. -/
theorem mix_step {α : Type} {z l : List α} (hz : z.length = l.length) : ∃ W : Nat → List α, W 0 = l ∧ W l.length = z ∧ (∀ i, (W i).length = l.length) ∧ (∀ (i : Nat) (h : i < l.length) (h' : i < (W i).length), (W i)[i] = l[i]) ∧ (∀ (i : Nat) (h : i < l.length) (h' : i < z.length), (W i).set i z[i] = W (i + 1)) := by
  refine ⟨fun i => z.take i ++ l.drop i, by simp, by simp [← hz], fun i => by simp; omega, fun i h h' => ?_, fun i h h' => ?_⟩
  · rw [List.getElem_append_right (by simp; omega)]
    simp [show i - min i z.length = 0 by omega]
  · have hd : l.drop i = l[i] :: l.drop (i + 1) := List.drop_eq_getElem_cons h
    show (z.take i ++ l.drop i).set i z[i] = z.take (i + 1) ++ l.drop (i + 1)
    have e : i - (z.take i).length = 0 := by simp; omega
    rw [hd, List.set_append_right _ _ (by simp; omega), List.take_succ_eq_append_getElem h', e, List.set_cons_zero, List.append_assoc]
    rfl
theorem i_normal_at {fl : Bool} (ks : List Int) (t : TS) (hok : okT ks t) (hl : t.cols.length ≤ 3518437208883) (h0 : 0 < t.cols.length) (o g n : Nat) (ho : o < 2000 ∨ 3000 ≤ o) (s : Sto) (hs : s o = ⟨g, true, some (.row 5 (t.cols.map Col.enc)), n⟩) :
    ∃ r, callI (run T) T n_stats_normal [.sl fl (ks.map u8), .agg [i6 t.low, i6 t.rows, .ref o g 5 0 t.cols.length]] s = some r ∧ Fr2 2000 3000 o (o + 1) s r.2 ∧ ∃ x, r.1 = .agg [i6 (normT ks t).low, i6 (normT ks t).rows, x] ∧ SlAt r.2 o (o + 1) 5 x ((normT ks t).cols.map Col.enc) :=
  callI_wp (nt := 121) (res := [.cell 4 3 true]) (body := B_stats_normal) (P := fun r => Fr2 2000 3000 o (o + 1) s r.2 ∧ ∃ x, r.1 = .agg [i6 (normT ks t).low, i6 (normT ks t).rows, x] ∧ SlAt r.2 o (o + 1) 5 x ((normT ks t).cols.map Col.enc)) (by kernel_rfl) (by simp) (w_stats_normal ks t hok hl h0 o g n ho s hs)
/-- The way out of tight. -/
def OutT (o : Nat) (s : Sto) (t : TS) (e : Env) (s' : Sto) : Prop := ∃ r, resI e s' [.cell 4 3 true] = some r ∧ Fr2 2000 4000 o (o + 1) s s' ∧ ∃ x, r = .agg [i6 t.low, i6 t.rows, x] ∧ SlAt s' o (o + 1) 5 x (t.cols.map Col.enc)
set_option maxHeartbeats 4000000 in
theorem w_stats_tight (t : TabD) (d : TS) (hld : d.cols.length = t.cols.length) (hl : t.cols.length ≤ 8) (hk : KeysIn t) (hkl : t.keys.length ≤ 9223372036854775807) (h0 : 0 < t.cols.length) (hok : okT (kindsT t) (tightU t d)) (o g n0 : Nat) (ho : o < 2000 ∨ 4000 ≤ o) (s : Sto) (hs : s o = ⟨g, true, some (.row 5 (d.cols.map Col.enc)), n0⟩) :
    wp T [.code B_stats_tight] (ini [t.enc, .agg [i6 d.low, i6 d.rows, .ref o g 5 0 d.cols.length]]) s (OutT o s (tightT t d)) := by
  have q1 : ¬ o = 3002 := by omega
  have q2 : ¬ 3002 = o := by omega
  have q3 : ¬ o = 3003 := by omega
  have q4 : ¬ 3003 = o := by omega
  have q5 : ¬ o = 3004 := by omega
  have q6 : ¬ 3004 = o := by omega
  have q7 : ¬ o = 3006 := by omega
  have q8 : ¬ 3006 = o := by omega
  have hR : Hd (tightT t d = normT (kindsT t) (tightU t d)) := ⟨rfl⟩
  have hU : Hd (tightU t d = ⟨d.low, min d.rows 1000, t.keys.foldl keyC (List.zipWith tightC t.cols d.cols)⟩) := ⟨rfl⟩
  generalize tightT t d = R at *
  generalize tightU t d = U at *
  have hzl : (List.zipWith tightC t.cols d.cols).length = d.cols.length := by simp; omega
  obtain ⟨W, hW0, hWn, hWl, hWg, hWs⟩ := mix_step hzl
  replace hWs : Hd (∀ (i : Nat) (h : i < d.cols.length) (h' : i < t.cols.length), (W i).set i (tightC t.cols[i] d.cols[i]) = W (i + 1)) := ⟨fun i h h' => by rw [← hWs i h (by omega)]; simp⟩
  replace hWg := Hd.mk hWg
  replace hWn := Hd.mk hWn
  replace hld := Hd.mk hld
  simp
  refine wp_rounds (σ := Nat) (fun i e s' => (∃ g', e 2 = .ptr 3002 g' 0 ∧ ∃ m, s' 3002 = ⟨g', true, some (.box t.enc), m⟩) ∧ (∃ g', e 3 = .ptr 3003 g' 0 ∧ ∃ m, s' 3003 = ⟨g', true, some (.box (.agg [i6 d.low, i6 (min d.rows 1000), .ref o g 5 0 d.cols.length])), m⟩) ∧ (∃ g', e 4 = .ptr 3004 g' 0 ∧ ∃ m, s' 3004 = ⟨g', true, some (.box (.agg [i6 0, i6 0, .nil])), m⟩) ∧
      e 16 = .sl false (t.cols.map ColD.enc) ∧ e 17 = i6 t.cols.length ∧ e 18 = i6 i ∧ i ≤ t.cols.length ∧ (∃ m, s' o = ⟨g, true, some (.row 5 ((W i).map Col.enc)), m⟩) ∧ Fr2 2000 4000 o (o + 1) s s') (fun i => t.cols.length - i) ?_ 0 _ _
    ⟨⟨(s 3002).g + 1, by simp, _, by simp; rfl⟩, ⟨(s 3003).g + 1, by simp, _, by simp; rfl⟩, ⟨(s 3004).g + 1, by simp, _, by simp; rfl⟩, by simp, by simp, by simp, by omega, ⟨_, by simp [q1, q2, q3, q4, q5, q6, hs, hW0]; rfl⟩, (((Fr2.newO (fun _ _ _ => rfl) _ (by omega)).newO _ (by omega)).newO _ (by omega)).setO _ (by omega)⟩
  rintro i e s' ⟨⟨g2, e2, m2, s2⟩, ⟨g3, e3, m3, s3⟩, ⟨g4, e4, m4, s4⟩, e16, e17, e18, hi, ⟨mo, so⟩, hF⟩ ih
  simp [e16, e17, e18]
  refine wpC_split (fun q => ?_) (fun q => ?_) <;> (have q' := q; try simp at q') <;> (try simp [*])
  · have hid : i < d.cols.length := by rw [hld.out]; exact q'
    have hiw : i < (W i).length := by rw [hWl]; exact hid
    have hnx := hWs.out i hid q'
    have hwi := hWg.out i hid hiw
    replace hWl := Hd.mk hWl
    have fin : ∀ e' s2, (∃ m, s2 3002 = ⟨g2, true, some (.box t.enc), m⟩) → e' 2 = .ptr 3002 g2 0 → e' 3 = .ptr 3003 g3 0 → (∃ m, s2 3003 = ⟨g3, true, some (.box (.agg [i6 d.low, i6 (min d.rows 1000), .ref o g 5 0 d.cols.length])), m⟩) → e' 4 = .ptr 3004 g4 0 → (∃ m, s2 3004 = ⟨g4, true, some (.box (.agg [i6 0, i6 0, .nil])), m⟩) →
        e' 16 = .sl false (t.cols.map ColD.enc) → e' 17 = i6 t.cols.length → e' 18 = i6 ((i + 1 : Nat) : Int) → (∃ m, s2 o = ⟨g, true, some (.row 5 (((W i).map Col.enc).set i (tightC t.cols[i] d.cols[i]).enc)), m⟩) → Fr2 2000 4000 o (o + 1) s s2 →
        wp T [It.lp stats_tight_l1, It.bl 0, It.code (((IC.ops stats_tight_r13).seq (IC.block 3 stats_tight_l2.loop)).seq ((IC.dops [] [] stats_tight_r20 stats_tight_r20t).seq IC.ret))] e' s2 (OutT o s R) := by
      intro e' s2' y2 z2 z3 y3 z4 y4 y16 y17 y18 ⟨m, yo⟩ hF2
      refine ih.out (i + 1) _ _ ⟨⟨g2, z2, y2⟩, ⟨g3, z3, y3⟩, ⟨g4, z4, y4⟩, y16, y17, y18, q', ⟨m, ?_⟩, hF2⟩ (by omega)
      rw [yo, ← hnx, List.map_set]
    replace fin := Hd.mk fin
    have hn8 : t.cols.length ≤ 9223372036854775807 := by omega
    clear hnx ih
    replace hF := Hd.mk hF
    have hql : i < ((W i).map Col.enc).length := by simpa using hiw
    have hz : ((W i).map Col.enc)[i] = (d.cols[i]).enc := by simp [hiw, hwi]
    clear hwi
    generalize d.cols[i] = c at hz fin
    generalize (W i).map Col.enc = Q at so hql hz fin
    generalize t.cols[i] = a at fin ⊢
    obtain ⟨nm, kd, nn, lo, hi'⟩ := a
    have hzz := List.set_getElem_self hql
    rw [hz] at hzz
    simp only [Col.enc] at hzz
    replace hzz := Hd.mk hzz
    clear hWg hWn hWs hR hU
    simp [hid, e2, e3, e4, e16, e17, e18, s2, s3, s4, so, hz, q1, q2, q3, q4, q5, q6, q7, q8]
    cases nn
    · simp [hid, e2, e3, e4, e16, e17, e18, s2, s3, s4, so, hz, hql, q1, q2, q3, q4, q5, q6, q7, q8]
      refine wpC_split (fun k1 => ?_) (fun k1 => ?_) <;> (have k1' := k1; try simp at k1') <;> (try simp [*])
      · try simp [hid, e2, e3, e4, e16, e17, e18, s2, s3, s4, so, hz, hql, q1, q2, q3, q4, q5, q6, q7, q8]
        refine fin.out _ _ (so_mk (by simp [s2, q1, q2, q3, q4, q5, q6, q7, q8]) (by simp [s2, q1, q2, q3, q4, q5, q6, q7, q8]) (by simp [s2, q1, q2, q3, q4, q5, q6, q7, q8])) (by simp [e2]) (by simp [e3]) (so_mk (by simp [s3, q1, q2, q3, q4, q5, q6, q7, q8]) (by simp [s3, q1, q2, q3, q4, q5, q6, q7, q8]) (by simp [s3, q1, q2, q3, q4, q5, q6, q7, q8])) (by simp [e4]) (so_mk (by simp [s4, q1, q2, q3, q4, q5, q6, q7, q8]) (by simp [s4, q1, q2, q3, q4, q5, q6, q7, q8]) (by simp [s4, q1, q2, q3, q4, q5, q6, q7, q8])) (by simp [e16]) (by simp [e17]) (by simp [e18, wrap_succ q' hn8]) (so_mk (by simp [so, q1, q2, q3, q4, q5, q6, q7, q8]) (by simp [so, q1, q2, q3, q4, q5, q6, q7, q8]) (by simp [so, tightC, Col.enc, hz, hzz.out, k1', hql, q1, q2, q3, q4, q5, q6, q7, q8])) ?_
        repeat (first | exact hF.out | refine Fr2.setO ?_ _ (by omega) | refine Fr2.newO ?_ _ (by omega))
      · by_cases k2 : kd = 2 ∧ hi' = 0
        · obtain ⟨k2, k3⟩ := k2
          subst k2
          subst k3
          simp [hid, e2, e3, e4, e16, e17, e18, s2, s3, s4, so, hz, hql, q1, q2, q3, q4, q5, q6, q7, q8]
          refine fin.out _ _ (so_mk (by simp [s2, q1, q2, q3, q4, q5, q6, q7, q8]) (by simp [s2, q1, q2, q3, q4, q5, q6, q7, q8]) (by simp [s2, q1, q2, q3, q4, q5, q6, q7, q8])) (by simp [e2]) (by simp [e3]) (so_mk (by simp [s3, q1, q2, q3, q4, q5, q6, q7, q8]) (by simp [s3, q1, q2, q3, q4, q5, q6, q7, q8]) (by simp [s3, q1, q2, q3, q4, q5, q6, q7, q8])) (by simp [e4]) (so_mk (by simp [s4, q1, q2, q3, q4, q5, q6, q7, q8]) (by simp [s4, q1, q2, q3, q4, q5, q6, q7, q8]) (by simp [s4, q1, q2, q3, q4, q5, q6, q7, q8])) (by simp [e16]) (by simp [e17]) (by simp [e18, wrap_succ q' hn8]) (so_mk (by simp [so, q1, q2, q3, q4, q5, q6, q7, q8]) (by simp [so, q1, q2, q3, q4, q5, q6, q7, q8]) (by simp [so, tightC, Col.enc, hz, hzz.out, hql, q1, q2, q3, q4, q5, q6, q7, q8])) ?_
          repeat (first | exact hF.out | refine Fr2.setO ?_ _ (by omega) | refine Fr2.newO ?_ _ (by omega))
        · by_cases k3 : kd = 2
          · have k4 : ¬ hi' = 0 := fun h => k2 ⟨k3, h⟩
            simp [k3, k4, hid, e2, e3, e4, e16, e17, e18, s2, s3, s4, so, hz, hql, q1, q2, q3, q4, q5, q6, q7, q8]
            refine fin.out _ _ (so_mk (by simp [s2, q1, q2, q3, q4, q5, q6, q7, q8]) (by simp [s2, q1, q2, q3, q4, q5, q6, q7, q8]) (by simp [s2, q1, q2, q3, q4, q5, q6, q7, q8])) (by simp [e2]) (by simp [e3]) (so_mk (by simp [s3, q1, q2, q3, q4, q5, q6, q7, q8]) (by simp [s3, q1, q2, q3, q4, q5, q6, q7, q8]) (by simp [s3, q1, q2, q3, q4, q5, q6, q7, q8])) (by simp [e4]) (so_mk (by simp [s4, q1, q2, q3, q4, q5, q6, q7, q8]) (by simp [s4, q1, q2, q3, q4, q5, q6, q7, q8]) (by simp [s4, q1, q2, q3, q4, q5, q6, q7, q8])) (by simp [e16]) (by simp [e17]) (by simp [e18, wrap_succ q' hn8]) (so_mk (by simp [so, q1, q2, q3, q4, q5, q6, q7, q8]) (by simp [so, q1, q2, q3, q4, q5, q6, q7, q8]) (by simp [so, tightC, Col.enc, hz, hzz.out, k3, k4, hql, q1, q2, q3, q4, q5, q6, q7, q8])) ?_
            repeat (first | exact hF.out | refine Fr2.setO ?_ _ (by omega) | refine Fr2.newO ?_ _ (by omega))
          · simp [k3, hid, e2, e3, e4, e16, e17, e18, s2, s3, s4, so, hz, hql, q1, q2, q3, q4, q5, q6, q7, q8]
            refine fin.out _ _ (so_mk (by simp [s2, q1, q2, q3, q4, q5, q6, q7, q8]) (by simp [s2, q1, q2, q3, q4, q5, q6, q7, q8]) (by simp [s2, q1, q2, q3, q4, q5, q6, q7, q8])) (by simp [e2]) (by simp [e3]) (so_mk (by simp [s3, q1, q2, q3, q4, q5, q6, q7, q8]) (by simp [s3, q1, q2, q3, q4, q5, q6, q7, q8]) (by simp [s3, q1, q2, q3, q4, q5, q6, q7, q8])) (by simp [e4]) (so_mk (by simp [s4, q1, q2, q3, q4, q5, q6, q7, q8]) (by simp [s4, q1, q2, q3, q4, q5, q6, q7, q8]) (by simp [s4, q1, q2, q3, q4, q5, q6, q7, q8])) (by simp [e16]) (by simp [e17]) (by simp [e18, wrap_succ q' hn8]) (so_mk (by simp [so, q1, q2, q3, q4, q5, q6, q7, q8]) (by simp [so, q1, q2, q3, q4, q5, q6, q7, q8]) (by simp [so, tightC, Col.enc, hz, hzz.out, k1', k3, hql, q1, q2, q3, q4, q5, q6, q7, q8])) ?_
            repeat (first | exact hF.out | refine Fr2.setO ?_ _ (by omega) | refine Fr2.newO ?_ _ (by omega))
    · simp [hid, e2, e3, e4, e16, e17, e18, s2, s3, s4, so, hz, hql, q1, q2, q3, q4, q5, q6, q7, q8]
      refine wpC_split (fun k1 => ?_) (fun k1 => ?_) <;> (have k1' := k1; try simp at k1') <;> (try simp [*])
      · try simp [hid, e2, e3, e4, e16, e17, e18, s2, s3, s4, so, hz, hql, q1, q2, q3, q4, q5, q6, q7, q8]
        refine fin.out _ _ (so_mk (by simp [s2, q1, q2, q3, q4, q5, q6, q7, q8]) (by simp [s2, q1, q2, q3, q4, q5, q6, q7, q8]) (by simp [s2, q1, q2, q3, q4, q5, q6, q7, q8])) (by simp [e2]) (by simp [e3]) (so_mk (by simp [s3, q1, q2, q3, q4, q5, q6, q7, q8]) (by simp [s3, q1, q2, q3, q4, q5, q6, q7, q8]) (by simp [s3, q1, q2, q3, q4, q5, q6, q7, q8])) (by simp [e4]) (so_mk (by simp [s4, q1, q2, q3, q4, q5, q6, q7, q8]) (by simp [s4, q1, q2, q3, q4, q5, q6, q7, q8]) (by simp [s4, q1, q2, q3, q4, q5, q6, q7, q8])) (by simp [e16]) (by simp [e17]) (by simp [e18, wrap_succ q' hn8]) (so_mk (by simp [so, q1, q2, q3, q4, q5, q6, q7, q8]) (by simp [so, q1, q2, q3, q4, q5, q6, q7, q8]) (by simp [so, tightC, Col.enc, hz, hzz.out, k1', hql, q1, q2, q3, q4, q5, q6, q7, q8])) ?_
        repeat (first | exact hF.out | refine Fr2.setO ?_ _ (by omega) | refine Fr2.newO ?_ _ (by omega))
      · by_cases k2 : kd = 2 ∧ hi' = 0
        · obtain ⟨k2, k3⟩ := k2
          subst k2
          subst k3
          simp [hid, e2, e3, e4, e16, e17, e18, s2, s3, s4, so, hz, hql, q1, q2, q3, q4, q5, q6, q7, q8]
          refine fin.out _ _ (so_mk (by simp [s2, q1, q2, q3, q4, q5, q6, q7, q8]) (by simp [s2, q1, q2, q3, q4, q5, q6, q7, q8]) (by simp [s2, q1, q2, q3, q4, q5, q6, q7, q8])) (by simp [e2]) (by simp [e3]) (so_mk (by simp [s3, q1, q2, q3, q4, q5, q6, q7, q8]) (by simp [s3, q1, q2, q3, q4, q5, q6, q7, q8]) (by simp [s3, q1, q2, q3, q4, q5, q6, q7, q8])) (by simp [e4]) (so_mk (by simp [s4, q1, q2, q3, q4, q5, q6, q7, q8]) (by simp [s4, q1, q2, q3, q4, q5, q6, q7, q8]) (by simp [s4, q1, q2, q3, q4, q5, q6, q7, q8])) (by simp [e16]) (by simp [e17]) (by simp [e18, wrap_succ q' hn8]) (so_mk (by simp [so, q1, q2, q3, q4, q5, q6, q7, q8]) (by simp [so, q1, q2, q3, q4, q5, q6, q7, q8]) (by simp [so, tightC, Col.enc, hz, hzz.out, hql, q1, q2, q3, q4, q5, q6, q7, q8])) ?_
          repeat (first | exact hF.out | refine Fr2.setO ?_ _ (by omega) | refine Fr2.newO ?_ _ (by omega))
        · by_cases k3 : kd = 2
          · have k4 : ¬ hi' = 0 := fun h => k2 ⟨k3, h⟩
            simp [k3, k4, hid, e2, e3, e4, e16, e17, e18, s2, s3, s4, so, hz, hql, q1, q2, q3, q4, q5, q6, q7, q8]
            refine fin.out _ _ (so_mk (by simp [s2, q1, q2, q3, q4, q5, q6, q7, q8]) (by simp [s2, q1, q2, q3, q4, q5, q6, q7, q8]) (by simp [s2, q1, q2, q3, q4, q5, q6, q7, q8])) (by simp [e2]) (by simp [e3]) (so_mk (by simp [s3, q1, q2, q3, q4, q5, q6, q7, q8]) (by simp [s3, q1, q2, q3, q4, q5, q6, q7, q8]) (by simp [s3, q1, q2, q3, q4, q5, q6, q7, q8])) (by simp [e4]) (so_mk (by simp [s4, q1, q2, q3, q4, q5, q6, q7, q8]) (by simp [s4, q1, q2, q3, q4, q5, q6, q7, q8]) (by simp [s4, q1, q2, q3, q4, q5, q6, q7, q8])) (by simp [e16]) (by simp [e17]) (by simp [e18, wrap_succ q' hn8]) (so_mk (by simp [so, q1, q2, q3, q4, q5, q6, q7, q8]) (by simp [so, q1, q2, q3, q4, q5, q6, q7, q8]) (by simp [so, tightC, Col.enc, hz, hzz.out, k3, k4, hql, q1, q2, q3, q4, q5, q6, q7, q8])) ?_
            repeat (first | exact hF.out | refine Fr2.setO ?_ _ (by omega) | refine Fr2.newO ?_ _ (by omega))
          · simp [k3, hid, e2, e3, e4, e16, e17, e18, s2, s3, s4, so, hz, hql, q1, q2, q3, q4, q5, q6, q7, q8]
            refine fin.out _ _ (so_mk (by simp [s2, q1, q2, q3, q4, q5, q6, q7, q8]) (by simp [s2, q1, q2, q3, q4, q5, q6, q7, q8]) (by simp [s2, q1, q2, q3, q4, q5, q6, q7, q8])) (by simp [e2]) (by simp [e3]) (so_mk (by simp [s3, q1, q2, q3, q4, q5, q6, q7, q8]) (by simp [s3, q1, q2, q3, q4, q5, q6, q7, q8]) (by simp [s3, q1, q2, q3, q4, q5, q6, q7, q8])) (by simp [e4]) (so_mk (by simp [s4, q1, q2, q3, q4, q5, q6, q7, q8]) (by simp [s4, q1, q2, q3, q4, q5, q6, q7, q8]) (by simp [s4, q1, q2, q3, q4, q5, q6, q7, q8])) (by simp [e16]) (by simp [e17]) (by simp [e18, wrap_succ q' hn8]) (so_mk (by simp [so, q1, q2, q3, q4, q5, q6, q7, q8]) (by simp [so, q1, q2, q3, q4, q5, q6, q7, q8]) (by simp [so, tightC, Col.enc, hz, hzz.out, k1', k3, hql, q1, q2, q3, q4, q5, q6, q7, q8])) ?_
            repeat (first | exact hF.out | refine Fr2.setO ?_ _ (by omega) | refine Fr2.newO ?_ _ (by omega))
  · have hie : i = t.cols.length := by omega
    have hzo : (W i) = List.zipWith tightC t.cols d.cols := by rw [hie, ← hld.out]; exact hWn.out
    rw [hzo] at so
    clear hzo ih hWs hWg hWn hWl hW0
    generalize List.zipWith tightC t.cols d.cols = Z at *
    have hq : 0 < d.cols.length := by rw [hld.out]; exact h0
    replace hq := Hd.mk hq
    replace hk := Hd.mk hk
    replace hzl := Hd.mk hzl
    clear hs hi q
    refine wp_rounds (σ := Nat) (fun i e s' => (e 2 = .ptr 3002 g2 0 ∧ ∃ m, s' 3002 = ⟨g2, true, some (.box t.enc), m⟩) ∧ (e 3 = .ptr 3003 g3 0 ∧ ∃ m, s' 3003 = ⟨g3, true, some (.box (.agg [i6 d.low, i6 (min d.rows 1000), .ref o g 5 0 d.cols.length])), m⟩) ∧ (e 4 = .ptr 3004 g4 0 ∧ ∃ m, s' 3004 = ⟨g4, true, some (.box (.agg [i6 0, i6 0, .nil])), m⟩) ∧
        e 75 = .sl false (t.keys.map keyX) ∧ e 76 = i6 t.keys.length ∧ e 77 = i6 i ∧ i ≤ t.keys.length ∧ (∃ m, s' o = ⟨g, true, some (.row 5 (((t.keys.take i).foldl keyC Z).map Col.enc)), m⟩) ∧ Fr2 2000 4000 o (o + 1) s s') (fun i => t.keys.length - i) ?_ 0 _ _
      ⟨⟨by simp [e2], m2, s2⟩, ⟨by simp [e3], m3, s3⟩, ⟨by simp [e4], m4, s4⟩, by simp, by simp, by simp, by omega, ⟨_, by simp [so]; rfl⟩, hF⟩
    clear e2 e3 e4 e16 e17 e18 s2 s3 s4 so hF
    clear q' hie i e s' m2 m3 m4 mo
    rintro i e s' ⟨⟨e2, m2, s2⟩, ⟨e3, m3, s3⟩, ⟨e4, m4, s4⟩, e75, e76, e77, hi, ⟨mo, so⟩, hF⟩ ih
    simp [e75, e76, e77]
    refine wpC_split (fun q => ?_) (fun q => ?_) <;> (have q' := q; try simp at q') <;> (try simp [*])
    · have hkk : ∀ c ∈ t.keys[i], 0 ≤ c ∧ c < (t.cols.length : Int) := hk.out _ (List.getElem_mem q')
      have hnx : (t.keys.take (i + 1)).foldl keyC Z = keyC ((t.keys.take i).foldl keyC Z) t.keys[i] := by rw [List.take_succ_eq_append_getElem q', List.foldl_append]; rfl
      have hvl : ((t.keys.take i).foldl keyC Z).length = d.cols.length := by rw [keysC_len]; exact hzl.out
      have fin : ∀ e' s2', (∃ m, s2' 3002 = ⟨g2, true, some (.box t.enc), m⟩) → e' 2 = .ptr 3002 g2 0 → e' 3 = .ptr 3003 g3 0 → (∃ m, s2' 3003 = ⟨g3, true, some (.box (.agg [i6 d.low, i6 (min d.rows 1000), .ref o g 5 0 d.cols.length])), m⟩) → e' 4 = .ptr 3004 g4 0 → (∃ m, s2' 3004 = ⟨g4, true, some (.box (.agg [i6 0, i6 0, .nil])), m⟩) →
          e' 75 = .sl false (t.keys.map keyX) → e' 76 = i6 t.keys.length → e' 77 = i6 ((i + 1 : Nat) : Int) → (∃ m, s2' o = ⟨g, true, some (.row 5 ((keyC ((t.keys.take i).foldl keyC Z) t.keys[i]).map Col.enc)), m⟩) → Fr2 2000 4000 o (o + 1) s s2' →
          wp T [It.lp stats_tight_l2, It.bl 3, It.code ((IC.dops [] [] stats_tight_r20 stats_tight_r20t).seq IC.ret)] e' s2' (OutT o s R) := by
        intro e' s2' y2 z2 z3 y3 z4 y4 y75 y76 y77 ⟨m, yo⟩ hF2
        exact ih.out (i + 1) _ _ ⟨⟨z2, y2⟩, ⟨z3, y3⟩, ⟨z4, y4⟩, y75, y76, y77, q', ⟨m, by rw [yo, hnx]⟩, hF2⟩ (by omega)
      replace fin := Hd.mk fin
      clear ih hnx
      replace hF := Hd.mk hF
      replace hkk := Hd.mk hkk
      replace hvl := Hd.mk hvl
      generalize (t.keys.take i).foldl keyC Z = V at so fin hvl
      generalize t.keys[i] = key at fin hkk ⊢
      by_cases hk1 : key.length = 1
      · obtain ⟨k, rfl⟩ := List.length_eq_one_iff.1 hk1
        have hkm := hkk.out k (by simp)
        obtain ⟨m, rfl⟩ : ∃ m : Nat, k = m := ⟨k.toNat, by omega⟩
        have hmd : m < d.cols.length := by rw [hld.out]; omega
        have hmv : m < V.length := by rw [hvl.out]; exact hmd
        have hkc : keyC V [(m : Int)] = V.set m (oneC V[m]) := by
          show V.modify m oneC = _
          refine List.ext_getElem (by simp) (fun n h1 h2 => ?_)
          rw [List.getElem_modify, List.getElem_set]
          split
          · rename_i h; subst h; rfl
          · rfl
        rw [hkc] at fin
        have hz : (V.map Col.enc)[m]? = some V[m].enc := by simp [hmv]
        clear hk1 hkm hkc
        simp [hmd, hmv, e2, e3, e4, e75, e76, e77, s2, s3, s4, so, q1, q2, q3, q4, q5, q6, q7, q8]
        refine fin.out _ _ (so_mk (by simp [s2, q1, q2, q3, q4, q5, q6, q7, q8]) (by simp [s2, q1, q2, q3, q4, q5, q6, q7, q8]) (by simp [s2, q1, q2, q3, q4, q5, q6, q7, q8])) (by simp [e2]) (by simp [e3]) (so_mk (by simp [s3, q1, q2, q3, q4, q5, q6, q7, q8]) (by simp [s3, q1, q2, q3, q4, q5, q6, q7, q8]) (by simp [s3, q1, q2, q3, q4, q5, q6, q7, q8])) (by simp [e4]) (so_mk (by simp [s4, q1, q2, q3, q4, q5, q6, q7, q8]) (by simp [s4, q1, q2, q3, q4, q5, q6, q7, q8]) (by simp [s4, q1, q2, q3, q4, q5, q6, q7, q8])) (by simp [e75]) (by simp [e76]) (by simp [e77, wrap_succ q' hkl]) (so_mk (by simp [so, q1, q2, q3, q4, q5, q6, q7, q8]) (by simp [so, q1, q2, q3, q4, q5, q6, q7, q8]) (by simp [so, oneC, hmv, List.map_set, q1, q2, q3, q4, q5, q6, q7, q8])) ?_
        repeat (first | exact hF.out | refine Fr2.setO ?_ _ (by omega) | refine Fr2.newO ?_ _ (by omega))
      · have hkc : keyC V key = V := by unfold keyC; rw [if_neg hk1]
        rw [hkc] at fin
        have hk2 : ¬ (key.length : Int) = 1 := by omega
        clear hkc
        simp [hk1, hk2, e77]
        refine fin.out _ _ (so_mk (by simp [s2, q1, q2, q3, q4, q5, q6, q7, q8]) (by simp [s2, q1, q2, q3, q4, q5, q6, q7, q8]) (by simp [s2, q1, q2, q3, q4, q5, q6, q7, q8])) (by simp [e2]) (by simp [e3]) (so_mk (by simp [s3, q1, q2, q3, q4, q5, q6, q7, q8]) (by simp [s3, q1, q2, q3, q4, q5, q6, q7, q8]) (by simp [s3, q1, q2, q3, q4, q5, q6, q7, q8])) (by simp [e4]) (so_mk (by simp [s4, q1, q2, q3, q4, q5, q6, q7, q8]) (by simp [s4, q1, q2, q3, q4, q5, q6, q7, q8]) (by simp [s4, q1, q2, q3, q4, q5, q6, q7, q8])) (by simp [e75]) (by simp [e76]) (by simp [e77, wrap_succ q' hkl]) (so_mk (by simp [so, q1, q2, q3, q4, q5, q6, q7, q8]) (by simp [so, q1, q2, q3, q4, q5, q6, q7, q8]) (by simp [so, q1, q2, q3, q4, q5, q6, q7, q8])) ?_
        repeat (first | exact hF.out | refine Fr2.setO ?_ _ (by omega) | refine Fr2.newO ?_ _ (by omega))
    · have hie : i = t.keys.length := by omega
      subst hie
      rw [List.take_length] at so
      have hu := hU.out
      have hul : U.cols.length = d.cols.length := by rw [hu]; exact (keysC_len _ _).trans hzl.out
      have hu1 : U.low = d.low := by rw [hu]
      have hu2 : U.rows = min d.rows 1000 := by rw [hu]
      have hu3 : t.keys.foldl keyC Z = U.cols := by rw [hu]
      rw [hu3] at so
      have hkn := i_normal_at (fl := true) (kindsT t) U hok (by rw [hul, hld.out]; omega) (by rw [hul]; exact hq.out) o g mo (by omega) s' so
      have hko := c_stats_kindsOf t (by omega)
      rw [hu1, hu2, hul, kindsT_u8] at hkn
      rw [← hR.out] at hkn
      simp [hko, e2, e3, e4, s2, s3, s4, so]
      refine wpR_ex1 hkn ?_
      rintro ⟨r, s1⟩ ⟨hF1, x, rfl, hx⟩
      have h4 : s1 3004 = _ := hF1 3004 (by omega) (by omega)
      rw [s4] at h4
      simp [hx.one.1, hx.one.2, h4, e4]
      refine ⟨.agg [i6 R.low, i6 R.rows, x], by simp [resI, resIL, resIX, h4, e4], ?_, x, rfl, ?_⟩
      · intro q h5 h6
        rw [setO_app, if_neg (by omega), show s1 q = s' q from hF1 q (by omega) (by omega)]
        exact hF q h5 h6
      · exact hx.fr ((Fr.refl 3004 3005 s1).setO _ (by omega)) (by omega)
theorem tightU_nil {t : TabD} {d : TS} (hc : t.cols = []) (hk : KeysIn t) : (tightU t d).cols = [] := by
  have h := keysC_len t.keys (List.zipWith tightC t.cols d.cols)
  rw [hc] at h
  exact List.eq_nil_of_length_eq_zero (by show (t.keys.foldl keyC (List.zipWith tightC t.cols d.cols)).length = 0; rw [hc, h]; rfl)
set_option maxHeartbeats 2000000 in
theorem i_normal0 {fl : Bool} (ks : List Int) (t : TS) (hok : okT ks t) (h0 : t.cols = []) (s : Sto) :
    ∃ r, callI (run T) T n_stats_normal [.sl fl (ks.map u8), .agg [i6 t.low, i6 t.rows, .nil]] s = some r ∧ Fr2 2000 3000 4005 4006 s r.2 ∧ ∃ x, r.1 = .agg [i6 (normT ks t).low, i6 (normT ks t).rows, x] ∧ SlAt r.2 4005 4006 5 x ((normT ks t).cols.map Col.enc) :=
  callI_wp (nt := 121) (res := [.cell 4 3 true]) (body := B_stats_normal) (P := fun r => Fr2 2000 3000 4005 4006 s r.2 ∧ ∃ x, r.1 = .agg [i6 (normT ks t).low, i6 (normT ks t).rows, x] ∧ SlAt r.2 4005 4006 5 x ((normT ks t).cols.map Col.enc)) (by kernel_rfl) (by simp) (w_stats_normal0 ks t hok h0 s)
set_option maxHeartbeats 2000000 in
theorem w_stats_tight0 (t : TabD) (d : TS) (hc : t.cols = []) (hdc : d.cols = []) (hk : KeysIn t) (hkl : t.keys.length ≤ 9223372036854775807) (hok : okT (kindsT t) (tightU t d)) (s : Sto) :
    wp T [.code B_stats_tight] (ini [t.enc, .agg [i6 d.low, i6 d.rows, .nil]]) s (OutT 4005 s (tightT t d)) := by
  have hun := tightU_nil (d := d) hc hk
  have hno : ∀ k ∈ t.keys, ¬ k.length = 1 := by
    intro k hm h
    obtain ⟨c, rfl⟩ := List.length_eq_one_iff.1 h
    have := hk _ hm c (by simp)
    rw [hc] at this; simp at this; omega
  have hkn := fun s => i_normal0 (fl := true) (kindsT t) (tightU t d) hok hun s
  have hko := c_stats_kindsOf t (by rw [hc]; simp)
  rw [kindsT_u8] at hkn
  replace hkn : Hd (∀ (s : Sto), ∃ r, callI (run T) T n_stats_normal [.sl true (t.cols.map fun c => u8 c.kind), .agg [i6 d.low, i6 (min d.rows 1000), .nil]] s = some r ∧ Fr2 2000 3000 4005 4006 s r.2 ∧ ∃ x, r.1 = .agg [i6 (tightT t d).low, i6 (tightT t d).rows, x] ∧ SlAt r.2 4005 4006 5 x ((tightT t d).cols.map Col.enc)) := ⟨hkn⟩
  generalize tightT t d = R at *
  obtain ⟨nm, cs, keys, refs, idx⟩ := t
  simp only at hc
  subst hc
  replace hno := Hd.mk hno
  simp only at hkl hno
  have hkn' := hkn.out
  simp only [List.map_nil] at hkn'
  simp only [TabD.enc, List.map_nil] at hko
  replace hkn := Hd.mk hkn'
  clear hkn'
  clear hok hk hun
  simp
  refine wp_rounds (σ := Unit) (fun i e s' => (∃ g', e 2 = .ptr 3002 g' 0 ∧ ∃ m, s' 3002 = ⟨g', true, some (.box (TabD.enc ⟨nm, [], keys, refs, idx⟩)), m⟩) ∧ (∃ g', e 3 = .ptr 3003 g' 0 ∧ ∃ m, s' 3003 = ⟨g', true, some (.box (.agg [i6 d.low, i6 (min d.rows 1000), .nil])), m⟩) ∧ (∃ g', e 4 = .ptr 3004 g' 0 ∧ ∃ m, s' 3004 = ⟨g', true, some (.box (.agg [i6 0, i6 0, .nil])), m⟩) ∧
      e 17 = i6 0 ∧ e 18 = i6 0 ∧ Fr2 2000 4000 4005 4006 s s') (fun _ => 0) ?_ () _ _
    ⟨⟨(s 3002).g + 1, by simp, _, by simp; rfl⟩, ⟨(s 3003).g + 1, by simp, _, by simp; rfl⟩, ⟨(s 3004).g + 1, by simp, _, by simp; rfl⟩, by simp, by simp, (((Fr2.newO (fun _ _ _ => rfl) _ (by omega)).newO _ (by omega)).newO _ (by omega)).setO _ (by omega)⟩
  rintro _ e s' ⟨⟨g2, e2, m2, s2⟩, ⟨g3, e3, m3, s3⟩, ⟨g4, e4, m4, s4⟩, e17, e18, hF⟩ ih
  simp [e17, e18, e2, e3, e4, s2, s3, s4]
  clear ih
  replace hF := Hd.mk hF
  refine wp_rounds (σ := Nat) (fun i e s'' => e 2 = .ptr 3002 g2 0 ∧ e 3 = .ptr 3003 g3 0 ∧ e 4 = .ptr 3004 g4 0 ∧ s'' = s' ∧ e 75 = .sl false (keys.map keyX) ∧ e 76 = i6 keys.length ∧ e 77 = i6 i ∧ i ≤ keys.length) (fun i => keys.length - i) ?_ 0 _ _
    ⟨by simp [e2], by simp [e3], by simp [e4], rfl, by simp, by simp, by simp, by omega⟩
  clear e2 e3 e4 e17 e18 e
  rintro i e s'' ⟨e2, e3, e4, rfl, e75, e76, e77, hi⟩ ih
  simp [e75, e76, e77]
  refine wpC_split (fun q => ?_) (fun q => ?_) <;> (have q' := q; try simp at q') <;> (try simp [*])
  · have h1 := hno.out _ (List.getElem_mem q')
    generalize keys[i] = key at h1 ⊢
    have hk2 : ¬ (key.length : Int) = 1 := by omega
    try simp [h1, hk2, e77]
    exact ih.out (i + 1) _ _ ⟨by simp [e2], by simp [e3], by simp [e4], rfl, by simp [e75], by simp [e76], by simp [wrap_succ q' hkl], q'⟩ (by omega)
  · try simp [hko, e2, e3, e4, s2, s3, s4]
    refine wpR_ex1 (hkn.out _) ?_
    rintro ⟨r, s1⟩ ⟨hF1, x, rfl, hx⟩
    have h4 : s1 3004 = _ := hF1 3004 (by omega) (by omega)
    rw [s4] at h4
    simp [hx.one.1, hx.one.2, h4, e4]
    refine ⟨.agg [i6 R.low, i6 R.rows, x], by simp [resI, resIL, resIX, h4, e4], ?_, x, rfl, ?_⟩
    · intro q h5 h6
      rw [setO_app, if_neg (by omega), show s1 q = _ from hF1 q (by omega) (by omega)]
      exact hF.out q h5 h6
    · exact hx.fr ((Fr.refl 3004 3005 s1).setO _ (by omega)) (by omega)
end Go.Proofs.YtoodknhlnifnlaaGreatDoor
