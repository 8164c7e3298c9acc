/- The reference's Check; copies and equality of statistics. -/
import Derived.Test.YtoodknhlnifnlaaGreatDoorVf
import Derived.Test.YtoodknhlnifnlaaGreatDoorVj
set_option linter.all false
set_option linter.unusedVariables false
set_option linter.unusedSimpArgs false
set_option maxRecDepth 100000
namespace Go.Proofs.YtoodknhlnifnlaaGreatDoor
open Go.RowKit
set_option maxHeartbeats 1000000 in
theorem c_ref19_TableKinds (t : TabD) (hl : t.cols.length ≤ 140737488355328) : call T n_jointerref19_TableKinds [t.enc] = some (.sl true (t.cols.map fun c => u8 c.kind)) := by
  refine go_jointerref19_TableKinds (by simp) ?_
  simp
  refine wp_rounds (σ := Nat) (fun i e s => ((i = 0 ∧ e 3 = .nil) ∨ (0 < i ∧ ∃ g, e 3 = .ref 20 g 1 0 i ∧ ∃ n, s 20 = ⟨g, true, some (.row 1 ((t.cols.take i).map fun c => u8 c.kind)), n⟩)) ∧ e 1 = .ptr 1 1 0 ∧ (∃ n, s 1 = ⟨1, true, some (.box t.enc), n⟩) ∧ e 4 = i6 i ∧ i ≤ t.cols.length) (fun i => t.cols.length - i) ?_ 0 _ _
    ⟨.inl ⟨rfl, by simp⟩, by simp, ⟨_, by simp; rfl⟩, by simp, by omega⟩
  rintro i e s ⟨e3, e1, ⟨n1, s1⟩, e4, hi⟩ ih
  have hlen : (t.cols.take i).length = i := by rw [List.length_take]; omega
  generalize hes : t.cols.take i = es at e3 hlen
  replace hes := Hd.mk hes
  rcases e3 with ⟨h0, e3⟩ | ⟨h0, g, e3, n, s20⟩
  · subst h0
    simp [e3, e1, s1, e4]
    refine wpC_split (fun q => ?_) (fun q => ?_) <;> (have q' := q; try simp at q') <;> (try simp [*])
    · have he : t.cols.take 1 = [t.cols[0]] := by rw [List.take_succ_eq_append_getElem q']; simp
      try simp [e1, s1, e4]
      refine ih.out 1 _ _ ⟨.inr ⟨by omega, (s 20).g + 1, by simp, ?_⟩, by simp [e1], so_mk (by simp [s1]) (by simp [s1]) (by simp [s1]), by simp [show IntKind.i64.wrap 1 = 1 by rw [wrap_in] <;> omega], q'⟩ (by omega)
      rw [he]
      exact so_mk (by simp) (by simp) (by simp)
  · simp [e3, e1, s1, e4, s20]
    refine wpC_split (fun q => ?_) (fun q => ?_) <;> (have q' := q; try simp at q') <;> (try simp [*])
    · simp [show i ≤ 140737488355327 by omega, e4, e1, s1]
      refine ih.out (i + 1) _ _ ⟨.inr ⟨by omega, g + 1, by simp, ?_⟩, by simp [e1], so_mk (by simp [s1]) (by simp [s1]) (by simp [s1]), by simp [wrap_succ q' (by omega : t.cols.length ≤ 9223372036854775807)], q'⟩ (by omega)
      rw [List.take_succ_eq_append_getElem q', hes.out]
      exact so_mk (by simp [s20]) (by simp [s20]) (by simp [s20])
    · have he := hes.out
      rw [List.take_of_length_le q'] at he
      rw [← hlen, he]; simp
set_option maxHeartbeats 2000000 in
theorem c_ref19_Check (s : List TabD) (st : List TS) (hs : schemeSmall s) : call T n_jointerref19_Check [.sl false (s.map TabD.enc), .sl false (st.map (TS.enc false))] = some (i6 (checkE s st)) := by
  refine go_jointerref19_Check (by simp) ?_
  have f1 := c_ref07_Valid s hs
  have hs1 := hs.1
  generalize hR : checkE s st = R
  replace hR := Hd.mk hR
  simp [f1]
  refine wpC_split (fun a1 => ?_) (fun a1 => ?_) <;> (have a1' := a1; try simp at a1') <;> (try simp [*])
  · rw [bP_false] at a1'
    rw [← hR.out]; simp [checkE, a1']
  rw [bP_iff] at a1'
  replace a1' := Hd.mk a1'
  refine wpC_split (fun a2 => ?_) (fun a2 => ?_) <;> (have a2' := a2; try simp at a2') <;> (try simp [*])
  · rw [← hR.out]; simp [checkE, a1'.out, a2']
  have hF : Hd (¬ StatsOK s st → 190 = R) := ⟨fun h => by rw [← hR.out]; simp [checkE, a1'.out, h]⟩
  have hT : Hd (StatsOK s st → 0 = R) := ⟨fun h => by rw [← hR.out]; simp [checkE, a1'.out, h, a2']⟩
  clear hR
  replace a2' := Hd.mk a2'
  refine wp_rounds (σ := Nat) (fun i e w => e 0 = .sl false (s.map TabD.enc) ∧ e 1 = .sl false (st.map (TS.enc false)) ∧ e 5 = i6 i ∧ i ≤ s.length ∧
      Hd (∀ n, n < i → ∀ (h : n < s.length), ∀ (h' : n < st.length), fitsB (kindsT s[n]) st[n] = true)) (fun i => s.length - i) ?_ 0 _ _
    ⟨by simp, by simp, by simp, by omega, ⟨no_one⟩⟩
  rintro i e w ⟨e0, e1, e5, hi, hA⟩ ih
  simp [e0, e1, e5]
  refine wpC_split (fun q => ?_) (fun q => ?_) <;> (have q' := q; try simp at q') <;> (try simp [*])
  · have hit : i < st.length := by rw [a2'.out]; exact q'
    have h8 := a1'.out.len q'
    have f2 := c_ref19_TableKinds s[i] (by omega)
    have f3 := c_jointerref19_Fits (kindsT s[i]) st[i] (by simp; omega)
    rw [kindsT_u8] at f3
    have bad : ¬ fitsB (kindsT s[i]) st[i] = true → 190 = R := fun h => hF.out (fun hh => h (hh i q' hit))
    replace bad := Hd.mk bad
    have good : fitsB (kindsT s[i]) st[i] = true → ∀ n, n < i + 1 → ∀ (h : n < s.length), ∀ (h' : n < st.length), fitsB (kindsT s[n]) st[n] = true := fun hc => good_step hA.out (fun _ => fun _ => hc)
    replace good := Hd.mk good
    generalize fitsB (kindsT s[i]) st[i] = E at f3 bad good
    simp [hit, f2, f3, e0, e1, e5]
    refine wpC_split (fun b => ?_) (fun b => ?_) <;> (have b' := b; try simp at b') <;> (try simp [*])
    · exact bad.out (by simp [b'])
    · refine ih.out (i + 1) _ _ ?_ (by omega)
      exact ⟨by simp [e0], by simp [e1], by simp [e5, wrap_succ q' hs1], q', ⟨good.out b'⟩⟩
  · exact hT.out (fun n h h' => hA.out n (by omega) h h')
@[simp] theorem okE_ts (f : Bool) (l : List TS) : okE 3 (l.map (TS.enc f)) = true := by simp [okE]
set_option maxHeartbeats 1000000 in
theorem c_law19_copies (st : List TS) (hl : st.length ≤ 3518437208883) (hc : ∀ t ∈ st, t.cols.length ≤ 3518437208883) : call T n_jointerlaw19_copies [.sl false (st.map (TS.enc false))] = some (.sl true (st.map (TS.enc true))) := by
  refine go_jointerlaw19_copies (by simp) ?_
  replace hc := Hd.mk hc
  simp
  refine wp_rounds (σ := Nat) (fun i e s => ((i = 0 ∧ e 3 = .nil) ∨ (0 < i ∧ ∃ g, e 3 = .ref 18 g 3 0 i ∧ ∃ n, s 18 = ⟨g, true, some (.row 3 ((st.take i).map (TS.enc true))), n⟩)) ∧ e 0 = .sl false (st.map (TS.enc false)) ∧ e 4 = i6 i ∧ i ≤ st.length) (fun i => st.length - i) ?_ 0 _ _
    ⟨.inl ⟨rfl, by simp⟩, by simp, by simp, by omega⟩
  rintro i e s ⟨e3, e0, e4, hi⟩ ih
  have hlen : (st.take i).length = i := by rw [List.length_take]; omega
  generalize hes : st.take i = es at e3 hlen
  replace hes := Hd.mk hes
  rcases e3 with ⟨h0, e3⟩ | ⟨h0, g, e3, n, s18⟩
  · subst h0
    simp [e3, e0, e4]
    refine wpC_split (fun q => ?_) (fun q => ?_) <;> (have q' := q; try simp at q') <;> (try simp [*])
    · have he : st.take 1 = [st[0]] := by rw [List.take_succ_eq_append_getElem q']; simp
      have f1 := c_jointerlaw19_copied st[0] (hc.out _ (List.getElem_mem q'))
      simp [f1, e0, e4, e3]
      refine ih.out 1 _ _ ⟨.inr ⟨by omega, (s 18).g + 1, by simp, ?_⟩, by simp [e0], by simp [show IntKind.i64.wrap 1 = 1 by rw [wrap_in] <;> omega], q'⟩ (by omega)
      rw [he]
      exact so_mk (by simp) (by simp) (by simp)
  · simp [e3, e0, e4, s18]
    refine wpC_split (fun q => ?_) (fun q => ?_) <;> (have q' := q; try simp at q') <;> (try simp [*])
    · have f1 := c_jointerlaw19_copied st[i] (hc.out _ (List.getElem_mem q'))
      simp [f1, show i ≤ 3518437208882 by omega, e3, e0, e4, s18, hlen]
      refine ih.out (i + 1) _ _ ⟨.inr ⟨by omega, g + 1, by simp, ?_⟩, by simp [e0], by simp [wrap_succ q' (by omega : st.length ≤ 9223372036854775807)], q'⟩ (by omega)
      rw [List.take_succ_eq_append_getElem q', hes.out]
      exact so_mk (by simp [s18]) (by simp [s18]) (by simp [s18])
    · have he := hes.out
      rw [List.take_of_length_le q'] at he
      rw [← hlen, he]; simp
set_option maxHeartbeats 1000000 in
theorem c_law19_SameStats (st : List TS) (hl : st.length ≤ 9223372036854775807) (hc : ∀ t ∈ st, t.cols.length ≤ 9223372036854775807) : call T n_jointerlaw19_SameStats [.sl false (st.map (TS.enc false)), .sl false (st.map (TS.enc false))] = some (.v (.bool true)) := by
  refine go_jointerlaw19_SameStats (by simp) ?_
  replace hc := Hd.mk hc
  simp
  refine wp_rounds (σ := Nat) (fun i e s => e 0 = .sl false (st.map (TS.enc false)) ∧ e 1 = .sl false (st.map (TS.enc false)) ∧ e 5 = i6 i ∧ i ≤ st.length) (fun i => st.length - i) ?_ 0 _ _
    ⟨by simp, by simp, by simp, by omega⟩
  rintro i e s ⟨e0, e1, e5, hi⟩ ih
  simp [e0, e1, e5]
  refine wpC_split (fun q => ?_) (fun q => ?_) <;> (have q' := q; try simp at q') <;> (try simp [*])
  · have f1 := c_jointerlaw19_Same st[i] st[i] (hc.out _ (List.getElem_mem q'))
    rw [TS.same_refl] at f1
    simp [f1, e0, e1, e5]
    exact ih.out (i + 1) _ _ ⟨by simp [e0], by simp [e1], by simp [wrap_succ q' hl], q'⟩ (by omega)
end Go.Proofs.YtoodknhlnifnlaaGreatDoor
