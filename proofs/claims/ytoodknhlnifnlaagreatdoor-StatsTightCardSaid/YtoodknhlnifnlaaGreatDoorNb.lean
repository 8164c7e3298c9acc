/- Normalising once, all columns: the reference. -/
import Derived.Test.YtoodknhlnifnlaaGreatDoorNa
set_option linter.all false
set_option linter.unusedVariables false
set_option linter.unusedSimpArgs false
set_option maxRecDepth 100000
namespace Go.Proofs.YtoodknhlnifnlaaGreatDoor
open Go.RowKit
def onceC (ks : List Int) (t : TS) : List Col := List.zipWith (fun k c => ncol k c t.rows) ks t.cols
def rowsF (r : Int) (l : List Col) : Int := l.foldl (fun r c => min r (valC c)) r
def onceT (ks : List Int) (t : TS) : TS := ⟨t.low, rowsF t.rows (onceC ks t), onceC ks t⟩
noncomputable def chB (t u : TS) : Bool := @decide (t ≠ u) (Classical.propDecidable _)
theorem chB_false {t u : TS} : chB t u = false ↔ t = u := by unfold chB; simp
theorem rowsF_snoc (r : Int) (l : List Col) (c : Col) : rowsF r (l ++ [c]) = min (rowsF r l) (valC c) := by simp [rowsF]
theorem zip_take {α β γ : Type} (f : α → β → γ) {l : List α} {m : List β} {i : Nat} (h : i < l.length) (h' : i < m.length) : (List.zipWith f l m).take (i + 1) = (List.zipWith f l m).take i ++ [f l[i] m[i]] := by
  rw [List.take_add_one]; simp [List.getElem?_zipWith, h, h']
theorem col_cmp (a b : Col) : ∃ q, (!decide (a.nulls = b.nulls) || (!decide (a.distinct = b.distinct) || (!decide (a.degree = b.degree) || (!decide (a.lo = b.lo) || !decide (a.hi = b.hi))))) = q ∧ Hd (q = false ↔ a = b) := by
  refine ⟨_, rfl, ⟨?_⟩⟩
  cases a; cases b
  simp
theorem ts_eq {l r : Int} {C : List Col} {t : TS} (hl : l = t.low) : (TS.mk l r C = t) ↔ (C = t.cols ∧ r = t.rows) := by
  cases t; subst hl; simp; exact ⟨fun h => ⟨h.2, h.1⟩, fun h => ⟨h.2, h.1⟩⟩
theorem bool_or {B b q : Bool} (h : B = false ↔ (b = false ∧ q = false)) : B = (b || q) := by
  cases b <;> cases q <;> cases B <;> simp at h <;> rfl
set_option maxHeartbeats 2000000 in
theorem c_jointerref19_Once (ks : List Int) (t : TS) (hk : ks.length = t.cols.length) (hl : t.cols.length ≤ 3518437208883) (hr : 0 ≤ t.rows) (hc : ∀ c ∈ t.cols, cok c) :
    call T n_jointerref19_Once [.sl false (ks.map u8), .agg [i6 t.low, i6 t.rows, .sl false (t.cols.map Col.enc)]] = some (.tup [(onceT ks t).enc true, .v (.bool (chB (onceT ks t) t))]) := by
  refine go_jointerref19_Once (by simp) ?_
  have hl' : t.cols.length ≤ 9223372036854775807 := by omega
  generalize hb : chB (onceT ks t) t = B
  have hC : Hd (onceC ks t = List.zipWith (fun k c => ncol k c t.rows) ks t.cols) := ⟨rfl⟩
  have ho : Hd (onceT ks t = ⟨t.low, rowsF t.rows (onceC ks t), onceC ks t⟩) := ⟨rfl⟩
  replace hb := Hd.mk hb
  generalize onceT ks t = u at *
  generalize onceC ks t = C at *
  have hCl : C.length = t.cols.length := by rw [hC.out, List.length_zipWith]; omega
  simp
  refine wp_rounds (σ := Nat) (fun i e s' => e 0 = .sl false (ks.map u8) ∧ e 3 = .ptr 3 1 0 ∧ e 4 = .ptr 4 1 0 ∧ (∃ g n x, e 6 = .ptr 6 g 0 ∧ s' 6 = ⟨g, true, some (.box (.agg [i6 t.low, i6 (rowsF t.rows (C.take i)), x])), n⟩ ∧
        ((i = 0 ∧ x = .nil) ∨ (0 < i ∧ ∃ g' n', x = .ref 44 g' 5 0 i ∧ s' 44 = ⟨g', true, some (.row 5 ((C.take i).map Col.enc)), n'⟩))) ∧
        (∃ n, s' 3 = ⟨1, true, some (.box (t.enc false)), n⟩) ∧ (∃ n, s' 4 = ⟨1, true, some (.box (.agg [i6 0, i6 0, .nil])), n⟩) ∧ (∃ b, e 7 = .v (.bool b) ∧ Hd (b = false ↔ C.take i = t.cols.take i)) ∧ e 8 = i6 i ∧ i ≤ t.cols.length) (fun i => t.cols.length - i) ?_ 0 _ _
      ⟨by simp, by simp, by simp, ⟨1, _, .nil, by simp, by simp; exact ⟨rfl, rfl⟩, .inl ⟨rfl, rfl⟩⟩, ⟨_, by simp; rfl⟩, ⟨_, by simp; rfl⟩, ⟨false, by simp, Hd.mk (by simp)⟩, by simp, by omega⟩
  rintro i e s' ⟨e0, e3, e4, ⟨g6, n6, x, e6, s6, hx⟩, ⟨n3, s3⟩, ⟨n4, s4⟩, ⟨b, e7, hbb⟩, e8, hi'⟩ ih
  simp [e0, e8, hk]
  refine wpC_split (fun q => ?_) (fun q => ?_) <;> (have q' := q; try simp at q') <;> (try simp [*])
  · have hk' : i < ks.length := by omega
    have hmc : C.take (i + 1) = C.take i ++ [ncol ks[i] t.cols[i] t.rows] := by rw [hC.out]; exact zip_take _ hk' q'
    have f1 := c_jointerref19_normalColumn ks[i] t.cols[i] t.rows (hc _ (List.getElem_mem q')) hr
    generalize ncol ks[i] t.cols[i] t.rows = z at *
    have hzz : (C.take i ++ [z] = t.cols.take i ++ [t.cols[i]]) ↔ (C.take i = t.cols.take i ∧ z = t.cols[i]) := by
      constructor
      · intro h; have := List.append_inj' h rfl; exact ⟨this.1, by simpa using this.2⟩
      · rintro ⟨h1, h2⟩; rw [h1, h2]
    have htc : t.cols.take (i + 1) = t.cols.take i ++ [t.cols[i]] := by rw [List.take_add_one]; simp [q']
    have fin : ∀ e' s2 b', e' 0 = .sl false (ks.map u8) → e' 3 = .ptr 3 1 0 → e' 4 = .ptr 4 1 0 → e' 6 = .ptr 6 g6 0 →
        (∃ n, s2 6 = ⟨g6, true, some (.box (.agg [i6 t.low, i6 (min (rowsF t.rows (C.take i)) (valC z)), .ref 44 (s2 44).g 5 0 (i + 1)])), n⟩) →
        (∃ n, s2 44 = ⟨(s2 44).g, true, some (.row 5 ((C.take i).map Col.enc ++ [z.enc])), n⟩) → (∃ n, s2 3 = ⟨1, true, some (.box (t.enc false)), n⟩) → (∃ n, s2 4 = ⟨1, true, some (.box (.agg [i6 0, i6 0, .nil])), n⟩) →
        e' 7 = .v (.bool b') → (b' = false ↔ (b = false ∧ z = t.cols[i])) → e' 8 = i6 ((i + 1 : Nat) : Int) →
        wp T [.lp jointerref19_Once_l1, .bl 0, .code ((IC.dops [3, 6, 61, 63] [] jointerref19_Once_r11 jointerref19_Once_r11t).seq IC.ret)] e' s2 (fun e s => resT e s [.cell 4 3 true, .tmp 5] = some (.tup [u.enc true, .v (.bool B)])) := by
      intro e' s2 b' y0 y3 y4 y6 ⟨n, z6⟩ ⟨m, z44⟩ z3 z4 y7 hb' y8
      refine ih.out (i + 1) _ _ ⟨y0, y3, y4, ⟨g6, n, _, y6, by rw [hmc, rowsF_snoc]; exact z6, .inr ⟨by omega, _, m, rfl, ?_⟩⟩, z3, z4, ⟨b', y7, Hd.mk ?_⟩, y8, q'⟩ (by omega)
      · rw [hmc, List.map_append, List.map_cons, List.map_nil]; exact z44
      · rw [hmc, htc, hzz, hb', hbb.out]
    replace fin := Hd.mk fin
    clear hzz
    simp [f1, e3, e4, e6, e7, e8, s3, s4, s6, q', hk']
    obtain ⟨q, hq1, hq2⟩ := col_cmp z t.cols[i]
    simp only [hq1]
    have f2 := c_jointerref01_Times z.distinct z.degree
    have f3 : call T n_jointerref01_Plus [i6 (timesN z.distinct z.degree), i6 z.nulls] = some (i6 (valC z)) := c_jointerref01_Plus _ _
    rcases hx with ⟨hi0, rfl⟩ | ⟨hi0, g', n', rfl, s44⟩
    · have ht0 : C.take i = [] := by rw [hi0]; rfl
      cases q
      · simp [e0, e3, e4, e6, e7, e8, s3, s4, s6, f2, f3]
        refine fin.out _ _ b (by simp [e0]) (by simp [e3]) (by simp [e4]) (by simp [e6]) (so_mk (by simp [s6]) (by simp [s6]) (by simp [s6, hi0])) (so_mk (by simp) (by simp) (by simp [ht0])) (so_mk (by simp [s3]) (by simp [s3]) (by simp [s3])) (so_mk (by simp [s4]) (by simp [s4]) (by simp [s4])) (by simp [e7]) ⟨fun h => ⟨h, hq2.out.1 rfl⟩, fun h => h.1⟩ (by simp [wrap_succ q' hl'])
      · simp [e0, e3, e4, e6, e7, e8, s3, s4, s6, f2, f3]
        refine fin.out _ _ true (by simp [e0]) (by simp [e3]) (by simp [e4]) (by simp [e6]) (so_mk (by simp [s6]) (by simp [s6]) (by simp [s6, hi0])) (so_mk (by simp) (by simp) (by simp [ht0])) (so_mk (by simp [s3]) (by simp [s3]) (by simp [s3])) (so_mk (by simp [s4]) (by simp [s4]) (by simp [s4])) (by simp [e7]) ⟨fun h => by simp at h, fun h => by have := hq2.out.2 h.2; simp at this⟩ (by simp [wrap_succ q' hl'])
    · have hmn : i = min i C.length ∧ i ≤ 3518437208882 := ⟨by omega, by omega⟩
      cases q
      · simp [e0, e3, e4, e6, e7, e8, s3, s4, s6, f2, f3, s44]
        rw [if_pos hmn]
        simp [e0, e3, e4, e6, e7, e8, s3, s4, s6, f2, f3, s44]
        refine fin.out _ _ b (by simp [e0]) (by simp [e3]) (by simp [e4]) (by simp [e6]) (so_mk (by simp [s6]) (by simp [s6]) (by simp [s6, s44])) (so_mk (by simp) (by simp) (by simp [List.map_take])) (so_mk (by simp [s3]) (by simp [s3]) (by simp [s3])) (so_mk (by simp [s4]) (by simp [s4]) (by simp [s4])) (by simp [e7]) ⟨fun h => ⟨h, hq2.out.1 rfl⟩, fun h => h.1⟩ (by simp [wrap_succ q' hl'])
      · simp [e0, e3, e4, e6, e7, e8, s3, s4, s6, f2, f3, s44]
        rw [if_pos hmn]
        simp [e0, e3, e4, e6, e7, e8, s3, s4, s6, f2, f3, s44]
        refine fin.out _ _ true (by simp [e0]) (by simp [e3]) (by simp [e4]) (by simp [e6]) (so_mk (by simp [s6]) (by simp [s6]) (by simp [s6, s44])) (so_mk (by simp) (by simp) (by simp [List.map_take])) (so_mk (by simp [s3]) (by simp [s3]) (by simp [s3])) (so_mk (by simp [s4]) (by simp [s4]) (by simp [s4])) (by simp [e7]) ⟨fun h => by simp at h, fun h => by have := hq2.out.2 h.2; simp at this⟩ (by simp [wrap_succ q' hl'])
  · have hie : i = t.cols.length := by omega
    subst hie
    have htk : C.take t.cols.length = C := List.take_of_length_le (by omega)
    have htk2 : t.cols.take t.cols.length = t.cols := List.take_of_length_le (by omega)
    rw [htk] at hx s6
    have hbb' := hbb.out
    rw [htk, htk2] at hbb'
    replace hbb' := Hd.mk hbb'
    clear hbb
    have hone : x.one = true := by rcases hx with ⟨_, rfl⟩ | ⟨_, g', n', rfl, _⟩ <;> rfl
    have hsl : SlAt s' 44 45 5 x (C.map Col.enc) := by
      rcases hx with ⟨h0, rfl⟩ | ⟨h0, g', n', rfl, s44⟩
      · exact .inl ⟨by rw [List.eq_nil_of_length_eq_zero (hCl.trans h0)]; rfl, rfl⟩
      · refine .inr ⟨?_, 44, g', n', by simp [hCl], s44, by omega, by omega⟩
        intro hc
        have := congrArg List.length hc
        simp only [List.length_map, List.length_nil] at this
        omega
    have hsl4 : ∀ c, SlAt (setO s' 4 c) 44 45 5 x (C.map Col.enc) := fun c => hsl.fr ((Fr.refl 4 5 s').setO c (by omega)) (by omega)
    have hB : Hd (B = (b || !decide (rowsF t.rows C = t.rows))) := by
      refine ⟨bool_or ?_⟩
      rw [← hb.out, chB_false, ho.out, ts_eq rfl, hbb'.out]
      simp
    have hu : Hd (u.enc true = .agg [i6 t.low, i6 (rowsF t.rows C), .sl true (C.map Col.enc)]) := ⟨by rw [ho.out]⟩
    rw [htk, hu.out, hB.out]
    clear hB hu hb ho hC
    generalize rowsF t.rows C = rr at *
    cases b
    · simp [hone, e3, e4, e6, s3, s4, s6, (hsl4 _).dpn (by simp)]
    · simp [hone, e3, e4, e6, s3, s4, s6, (hsl4 _).dpn (by simp)]
end Go.Proofs.YtoodknhlnifnlaaGreatDoor
