/- The law StatsTight, in the engine's form. -/
import Derived.Test.YtoodknhlnifnlaaGreatDoorXe
import Derived.Test.YtoodknhlnifnlaaGreatDoorDb
import Derived.Test.YtoodknhlnifnlaaGreatDoorAw
set_option linter.all false
set_option linter.unusedVariables false
set_option linter.unusedSimpArgs false
set_option maxRecDepth 100000
namespace Go.Proofs.YtoodknhlnifnlaaGreatDoor
open Go.RowKit
theorem dpE_nest {w : Sto} : ∀ {xs : List X} {Z : List TS}, xs.length = Z.length → (∀ (j : Nat) (h : j < Z.length) (h' : j < xs.length), ∃ y, xs[j] = .agg [i6 Z[j].low, i6 Z[j].rows, y] ∧ dpn w y = some (.sl true (Z[j].cols.map Col.enc))) →
    dpE w xs = some (Z.map (TS.enc true))
  | [], [], _, _ => rfl
  | [], z :: Z, hl, _ => by simp at hl
  | x :: xs, [], hl, _ => by simp at hl
  | x :: xs, z :: Z, hl, h => by
    obtain ⟨y, hy, hd⟩ := h 0 (by simp) (by simp)
    have ih := dpE_nest (w := w) (xs := xs) (Z := Z) (by simpa using hl) (fun j h1 h2 => h (j + 1) (Nat.succ_lt_succ h1) (Nat.succ_lt_succ h2))
    simp only [List.getElem_cons_zero] at hy hd
    subst hy
    have d1 : ∀ n, dpn w (i6 n) = some (i6 n) := fun _ => rfl
    simp only [dpE, dpL, d1, hd, ih, List.map_cons]
theorem NestX.dp {w : Sto} {x : X} {Z : List TS} (h : NestX w x Z) : dpGm w x = some (.sl true (Z.map (TS.enc true))) := by
  rcases h with ⟨rfl, rfl⟩ | ⟨h0, g, xs, n, rfl, hw, hn⟩
  · rfl
  · have := dpE_nest (w := w) hn.len (fun j h1 h2 => by
      obtain ⟨y, e1, e2⟩ := hn.get j h1 h2
      exact ⟨y, e1, e2.dpn (deepL_map (by simp) _)⟩)
    rw [dpGm_ref, hw]
    simp [hn.len, this]
    have ht : xs.take Z.length = xs := List.take_of_length_le (by rw [hn.len]; omega)
    rw [ht, this]; rfl
theorem tightR_small {s : List TabD} {st : List TS} (h6 : ∀ t ∈ s, ∀ c ∈ t.cols, c.in64) (hst : ∀ d ∈ st, ∀ c ∈ d.cols, loOk c) : (tightR s st).length ≤ 16 ∧ ∀ t ∈ tightR s st, t.cols.length ≤ 8 := by
  by_cases hc : checkE s st = 0
  · obtain ⟨hs, hl, hf⟩ := checkE_ok hc
    have e : tightR s st = List.zipWith tightT s st := if_pos hc
    rw [e]
    refine ⟨by rw [List.length_zipWith]; have := hs.1; omega, fun t ht => ?_⟩
    obtain ⟨i, hi, rfl⟩ := List.getElem_of_mem ht
    rw [List.length_zipWith] at hi
    have h1 : i < s.length := by omega
    have h2 : i < st.length := by omega
    rw [List.getElem_zipWith]
    have hfit := hf i h1 h2
    have hld : st[i].cols.length = s[i].cols.length := (fits_len hfit).trans (kindsT_len _)
    have hok := okT_of hfit (hst _ (List.getElem_mem h2))
    have hu := tightU_ok hld hok.cols hok.rows (h6 _ (List.getElem_mem h1))
    have := (normT_gr hu).ok.len
    rw [kindsT_len] at this
    show (normT (kindsT s[i]) (tightU s[i] st[i])).cols.length ≤ 8
    have h8 := hs.len h1
    omega
  · have e : tightR s st = [] := if_neg hc
    rw [e]; simp
theorem defR_small {s : List TabD} (h6 : ∀ t ∈ s, ∀ c ∈ t.cols, c.in64) : (defR s).length ≤ 16 ∧ ∀ t ∈ defR s, t.cols.length ≤ 8 := by
  by_cases h : SchemeOK s
  · rw [← def_tight h]
    exact tightR_small h6 (fun d hd => by obtain ⟨t, _, rfl⟩ := List.mem_map.1 hd; exact defD_lo t)
  · have e : defR s = [] := if_neg h
    rw [e]; simp
set_option maxHeartbeats 4000000 in
theorem c_StatsTight (s : List TabD) (st : List TS) (hs : schemeSmall s) (h6 : ∀ t ∈ s, ∀ c ∈ t.cols, c.in64) (hst : ∀ d ∈ st, ∀ c ∈ d.cols, loOk c) (hl : st.length ≤ 3518437208883) (hc : ∀ t ∈ st, t.cols.length ≤ 3518437208883) :
    call T n_jointerlaw19_StatsTight [.sl false (s.map TabD.enc), .sl false (st.map (TS.enc false))] = some (.v (.bool true)) := by
  refine go_jointerlaw19_StatsTight (by simp) ?_
  have h1 := c_law19_copies st hl hc
  have h2 := c_ref19_Tight s st hs h6 hst
  have h3 := fun w => i_stats_Tight s st hs h6 hst w
  have ts := tightR_small (s := s) (st := st) h6 hst
  have ds := defR_small (s := s) h6
  have h4 := c_law19_SameStats (tightR s st) (by omega) (fun t ht => by have := ts.2 t ht; omega)
  have h5 := c_ref19_Default s hs h6
  have h7 := c_stats_Default s hs h6
  have h8 := c_law19_SameStats (defR s) (by omega) (fun t ht => by have := ds.2 t ht; omega)
  have h9 := c_law19_SameStats st (by omega) (fun t ht => by have := hc t ht; omega)
  have ha := c_awake
  have hz16 := ts.1
  have hz8 := Hd.mk ts.2
  clear ts ds hs h6 hst hc
  generalize tightR s st = Z at *
  generalize defR s = D at *
  generalize checkE s st = c at *
  generalize defE s = E at *
  replace h3 := Hd.mk h3
  simp [h1, h2]
  refine wpR_ex1 (h3.out _) ?_
  rintro ⟨r, w⟩ ⟨x, hr, hn⟩
  simp only at hr hn
  subst hr
  have hdp := hn.dp
  simp [hdp, h4]
  refine wp_rounds (σ := Nat) (fun i e w' => e 0 = .sl false (s.map TabD.enc) ∧ e 1 = .sl false (st.map (TS.enc false)) ∧ e 5 = .sl true (st.map (TS.enc true)) ∧ e 8 = x ∧ e 10 = i6 i ∧ i ≤ Z.length ∧
      Hd ((Z = [] ∧ x = .nil) ∨ (Z ≠ [] ∧ ∃ g xs n, x = .ref 11032 g 3 0 Z.length ∧ w' 11032 = ⟨g, true, some (.row 3 xs), n⟩ ∧ xs.length = Z.length ∧ ∀ (j : Nat) (h : j < Z.length) (h' : j < xs.length), i ≤ j → ∃ y, xs[j] = .agg [i6 Z[j].low, i6 Z[j].rows, y] ∧ SlAt w' (3000000 + j) (3000000 + j + 1) 5 y (Z[j].cols.map Col.enc)))) (fun i => Z.length - i) ?_ 0 _ _
    ⟨by simp, by simp, by simp, by simp, by simp, by omega, ⟨by
      rcases hn with ⟨a, b⟩ | ⟨a, g, xs, n, b, c1, d⟩
      · exact .inl ⟨a, b⟩
      · exact .inr ⟨a, g, xs, n, b, c1, d.len, fun j h h' _ => d.get j h h'⟩⟩⟩
  clear hn hdp h3
  rintro i e w' ⟨e0, e1, e5, e8, e10, hi, ⟨hN⟩⟩ ih
  have rest : ∀ (e' : Env) (s' : Sto), e' 0 = .sl false (s.map TabD.enc) → e' 1 = .sl false (st.map (TS.enc false)) → e' 5 = .sl true (st.map (TS.enc true)) →
      wp T [.code ((IC.ops jointerlaw19_StatsTight_r10).seq ((IC.ops jointerlaw19_StatsTight_r11).seq ((IC.ops jointerlaw19_StatsTight_r12).seq IC.ret)))] e' s' (fun e s => dpC s (e 4) = some (.v (.bool true))) := by
    intro e' s' y0 y1 y5
    clear ih
    simp [y0, y1, y5, h5, h7, h8, h9, ha]
  replace rest := Hd.mk rest
  rcases hN with ⟨hz, rfl⟩ | ⟨hz, g, xs, n, rfl, hw, hxl, hget⟩
  · subst hz
    have hi0 : i = 0 := by simpa using hi
    subst hi0
    simp [e0, e1, e5, e8, e10, h5, h7, h8, h9, ha]
  · simp [e8, e10, hw]
    replace hget := Hd.mk hget
    clear rest
    refine wpC_split (fun q => ?_) (fun q => ?_) <;> (have q' := q; try simp at q') <;> (try simp [*])
    · obtain ⟨y, hy, hsl⟩ := hget.out i q' (by omega) (Nat.le_refl _)
      have h8' := hz8.out _ (List.getElem_mem q')
      simp [hy]
      refine wpR_ex1 (i_spoil (3000000 + i) (3000000 + i + 1) Z[i].low Z[i].rows y Z[i].cols (by omega) _ hsl (.inr (by omega))) ?_
      rintro ⟨r, w2⟩ ⟨hr, hF⟩
      simp only at hr hF
      subst hr
      simp [e10]
      refine ih.out (i + 1) _ _ ⟨by simp [e0], by simp [e1], by simp [e5], by simp [e8], by simp [wrap_succ q' (by omega : Z.length ≤ 9223372036854775807)], q', ⟨.inr ⟨hz, g, xs, n, rfl, ?_, hxl, fun j h h' hj => ?_⟩⟩⟩ (by omega)
      · rw [hF 11032 (by omega) (by omega)]; exact hw
      · obtain ⟨y', a1, a2⟩ := hget.out j h h' (by omega)
        refine ⟨y', a1, a2.keep (fun o b1 b2 => hF o (by omega) (by omega))⟩
end Go.Proofs.YtoodknhlnifnlaaGreatDoor
