/- The law StatsGather, in the engine's form. -/
import Derived.Test.YtoodknhlnifnlaaGreatDoorYa
import Derived.Test.YtoodknhlnifnlaaGreatDoorDb
import Derived.Test.YtoodknhlnifnlaaGreatDoorAw
set_option linter.all false
set_option linter.unusedVariables false
set_option linter.unusedSimpArgs false
set_option maxRecDepth 100000
namespace Go.Proofs.YtoodknhlnifnlaaGreatDoor
open Go.RowKit
theorem gathR_small {s : List TabD} {d : List (List (List Val))} : (gathR s d).length ≤ 16 ∧ ∀ t ∈ gathR s d, t.cols.length ≤ 8 := by
  by_cases h : DataOK s d
  · have e : gathR s d = _ := if_pos h
    rw [e]
    refine ⟨by rw [List.length_zipWith]; have := h.sch.1; omega, fun t ht => ?_⟩
    obtain ⟨i, hi, rfl⟩ := List.getElem_of_mem ht
    rw [List.length_zipWith] at hi
    have h1 : i < s.length := by omega
    rw [List.getElem_zipWith]
    have h8 := h.sch.len h1
    unfold ofS
    split
    · simp only [colsS_len, kindsT_len]; exact h8
    · simp
  · have e : gathR s d = [] := if_neg h
    rw [e]; simp
set_option maxHeartbeats 4000000 in
theorem c_StatsGather (s : List TabD) (d : List (List (List Val))) (hs : schemeSmall s) (hd : dataSmall d) :
    call T n_jointerlaw19_StatsGather [.sl false (s.map TabD.enc), .sl false (d.map dataX)] = some (.v (.bool true)) := by
  refine go_jointerlaw19_StatsGather (by simp) ?_
  have h2 := c_ref19_Gather s d hs hd
  have h3 := fun w => i_stats_Gather s d hs hd w
  have ts := gathR_small (s := s) (d := d)
  have h4 := c_law19_SameStats (gathR s d) (by omega) (fun t ht => by have := ts.2 t ht; omega)
  have ha := c_awake
  have hz16 := ts.1
  have hz8 := Hd.mk ts.2
  clear ts hs hd
  generalize gathR s d = Z at *
  generalize gathE s d = E at *
  replace h3 := Hd.mk h3
  simp [h2]
  refine wpR_ex1 (h3.out _) ?_
  rintro ⟨r, w⟩ ⟨x, hr, hn⟩
  simp only at hr hn
  subst hr
  have hdp := hn.dp
  simp [hdp, h4]
  refine wp_rounds (σ := Nat) (fun i e w' => e 0 = .sl false (s.map TabD.enc) ∧ e 1 = .sl false (d.map dataX) ∧ e 5 = .sl true (Z.map (TS.enc true)) ∧ e 7 = x ∧ e 9 = i6 i ∧ i ≤ Z.length ∧
      Hd ((Z = [] ∧ x = .nil) ∨ (Z ≠ [] ∧ ∃ g xs n, x = .ref 12035 g 3 0 Z.length ∧ w' 12035 = ⟨g, true, some (.row 3 xs), n⟩ ∧ xs.length = Z.length ∧ ∀ (j : Nat) (h : j < Z.length) (h' : j < xs.length), i ≤ j → ∃ y, xs[j] = .agg [i6 Z[j].low, i6 Z[j].rows, y] ∧ SlAt w' (3000000 + j) (3000000 + j + 1) 5 y (Z[j].cols.map Col.enc)))) (fun i => Z.length - i) ?_ 0 _ _
    ⟨by simp, by simp, by simp, by simp, by simp, by omega, ⟨by
      rcases hn with ⟨a, b⟩ | ⟨a, g, xs, n, b, c1, d⟩
      · exact .inl ⟨a, b⟩
      · exact .inr ⟨a, g, xs, n, b, c1, d.len, fun j h h' _ => d.get j h h'⟩⟩⟩
  clear hn hdp
  rintro i e w' ⟨e0, e1, e5, e7, e9, hi, ⟨hN⟩⟩ ih
  rcases hN with ⟨hz, rfl⟩ | ⟨hz, g, xs, n, rfl, hw, hxl, hget⟩
  · subst hz
    have hi0 : i = 0 := by simpa using hi
    subst hi0
    simp only [List.map_nil] at h4
    simp [e0, e1, e5, e7, e9]
    refine wpR_ex1 (h3.out _) ?_
    rintro ⟨r, w2⟩ ⟨x2, hr, hn2⟩
    simp only at hr hn2
    subst hr
    have hdp2 := hn2.dp
    simp [e0, e1, e5, hdp2, h4, ha]
  · simp [e7, e9, hw]
    replace hget := Hd.mk hget
    refine wpC_split (fun q => ?_) (fun q => ?_) <;> (have q' := q; try simp at q') <;> (try simp [*])
    · obtain ⟨y, hy, hsl⟩ := hget.out i q' (by omega) (Nat.le_refl _)
      have h8' := hz8.out _ (List.getElem_mem q')
      simp [hy]
      refine wpR_ex1 (i_spoil (3000000 + i) (3000000 + i + 1) Z[i].low Z[i].rows y Z[i].cols (by omega) _ hsl (.inr (by omega))) ?_
      rintro ⟨r, w2⟩ ⟨hr, hF⟩
      simp only at hr hF
      subst hr
      simp [e9]
      refine ih.out (i + 1) _ _ ⟨by simp [e0], by simp [e1], by simp [e5], by simp [e7], by simp [wrap_succ q' (by omega : Z.length ≤ 9223372036854775807)], q', ⟨.inr ⟨hz, g, xs, n, rfl, ?_, hxl, fun j h h' hj => ?_⟩⟩⟩ (by omega)
      · rw [hF 12035 (by omega) (by omega)]; exact hw
      · obtain ⟨y', a1, a2⟩ := hget.out j h h' (by omega)
        refine ⟨y', a1, a2.keep (fun o b1 b2 => hF o (by omega) (by omega))⟩
    · refine wpR_ex1 (h3.out _) ?_
      rintro ⟨r, w2⟩ ⟨x2, hr, hn2⟩
      simp only at hr hn2
      subst hr
      have hdp2 := hn2.dp
      simp [e0, e1, e5, hdp2, h4, ha]
end Go.Proofs.YtoodknhlnifnlaaGreatDoor
