/- The reference's Check; copies and equality of statistics. -/
import Derived.Test.YtoodknhlnifnlaaGreatDoorVf
import Derived.Test.YtoodknhlnifnlaaGreatDoorVj
set_option linter.all false
set_option linter.unusedVariables false
set_option linter.unusedSimpArgs false
set_option maxRecDepth 100000
namespace Go.Proofs.YtoodknhlnifnlaaGreatDoor
open Go.RowKit
set_option maxHeartbeats 1000000 in
theorem c_ref19_TableKinds (t : TabD) (hl : t.cols.length ≤ 140737488355328) : call T n_jointerref19_TableKinds [t.enc] = some (.sl true (t.cols.map fun c => u8 c.kind)) := by
  refine go_jointerref19_TableKinds (by simp) ?_
  simp
  refine wp_rounds (σ := Nat) (fun i e s => ((i = 0 ∧ e 3 = .nil) ∨ (0 < i ∧ ∃ g, e 3 = .ref 20 g 1 0 i ∧ ∃ n, s 20 = ⟨g, true, some (.row 1 ((t.cols.take i).map fun c => u8 c.kind)), n⟩)) ∧ e 1 = .ptr 1 1 0 ∧ (∃ n, s 1 = ⟨1, true, some (.box t.enc), n⟩) ∧ e 4 = i6 i ∧ i ≤ t.cols.length) (fun i => t.cols.length - i) ?_ 0 _ _
    ⟨.inl ⟨rfl, by simp⟩, by simp, ⟨_, by simp; rfl⟩, by simp, by omega⟩
  rintro i e s ⟨e3, e1, ⟨n1, s1⟩, e4, hi⟩ ih
  have hlen : (t.cols.take i).length = i := by rw [List.length_take]; omega
  generalize hes : t.cols.take i = es at e3 hlen
  replace hes := Hd.mk hes
  rcases e3 with ⟨h0, e3⟩ | ⟨h0, g, e3, n, s20⟩
  · subst h0
    simp [e3, e1, s1, e4]
    refine wpC_split (fun q => ?_) (fun q => ?_) <;> (have q' := q; try simp at q') <;> (try simp [*])
    · have he : t.cols.take 1 = [t.cols[0]] := by rw [List.take_succ_eq_append_getElem q']; simp
      try simp [e1, s1, e4]
      refine ih.out 1 _ _ ⟨.inr ⟨by omega, (s 20).g + 1, by simp, ?_⟩, by simp [e1], so_mk (by simp [s1]) (by simp [s1]) (by simp [s1]), by simp [show IntKind.i64.wrap 1 = 1 by rw [wrap_in] <;> omega], q'⟩ (by omega)
      rw [he]
      exact so_mk (by simp) (by simp) (by simp)
  · simp [e3, e1, s1, e4, s20]
    refine wpC_split (fun q => ?_) (fun q => ?_) <;> (have q' := q; try simp at q') <;> (try simp [*])
    · simp [show i ≤ 140737488355327 by omega, e4, e1, s1]
      refine ih.out (i + 1) _ _ ⟨.inr ⟨by omega, g + 1, by simp, ?_⟩, by simp [e1], so_mk (by simp [s1]) (by simp [s1]) (by simp [s1]), by simp [wrap_succ q' (by omega : t.cols.length ≤ 9223372036854775807)], q'⟩ (by omega)
      rw [List.take_succ_eq_append_getElem q', hes.out]
      exact so_mk (by simp [s20]) (by simp [s20]) (by simp [s20])
    · have he := hes.out
      rw [List.take_of_length_le q'] at he
      rw [← hlen, he]; simp
@[simp] theorem okE_ts (f : Bool) (l : List TS) : okE 3 (l.map (TS.enc f)) = true := by simp [okE]
set_option maxHeartbeats 1000000 in
theorem c_law19_SameStats (st : List TS) (hl : st.length ≤ 9223372036854775807) (hc : ∀ t ∈ st, t.cols.length ≤ 9223372036854775807) : call T n_jointerlaw19_SameStats [.sl false (st.map (TS.enc false)), .sl false (st.map (TS.enc false))] = some (.v (.bool true)) := by
  refine go_jointerlaw19_SameStats (by simp) ?_
  replace hc := Hd.mk hc
  simp
  refine wp_rounds (σ := Nat) (fun i e s => e 0 = .sl false (st.map (TS.enc false)) ∧ e 1 = .sl false (st.map (TS.enc false)) ∧ e 5 = i6 i ∧ i ≤ st.length) (fun i => st.length - i) ?_ 0 _ _
    ⟨by simp, by simp, by simp, by omega⟩
  rintro i e s ⟨e0, e1, e5, hi⟩ ih
  simp [e0, e1, e5]
  refine wpC_split (fun q => ?_) (fun q => ?_) <;> (have q' := q; try simp at q') <;> (try simp [*])
  · have f1 := c_jointerlaw19_Same st[i] st[i] (hc.out _ (List.getElem_mem q'))
    rw [TS.same_refl] at f1
    simp [f1, e0, e1, e5]
    exact ih.out (i + 1) _ _ ⟨by simp [e0], by simp [e1], by simp [wrap_succ q' hl], q'⟩ (by omega)
end Go.Proofs.YtoodknhlnifnlaaGreatDoor
