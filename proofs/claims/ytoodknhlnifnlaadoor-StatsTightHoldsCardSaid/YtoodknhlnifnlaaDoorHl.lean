/- Gather: the contract; what the laws of the data give (seat D's table). -/
import Derived.Test.YtoodknhlnifnlaaDoorHk
set_option linter.all false
set_option linter.unusedVariables false
set_option linter.unusedSimpArgs false
set_option maxRecDepth 100000
namespace Go.Proofs.YtoodknhlnifnlaaDoor
open Go.RowKit
open Classical in
noncomputable def gathR (s : List TabD) (d : List (List (List Val))) : List TS := if DataOK s d then List.zipWith (fun t rows => ofS (kindsT t) rows) s d else []
open Classical in
noncomputable def gathE (s : List TabD) (d : List (List (List Val))) : Int := if DataOK s d then 0 else 1
set_option maxHeartbeats 2000000 in
theorem c_stats_Gather (s : List TabD) (d : List (List (List Val))) (hs : schemeSmall s) (hd : dataSmall d) :
    call T n_stats_Gather [.sl false (s.map TabD.enc), .sl false (d.map dataX)] = some (.tup [.sl true ((gathR s d).map (TS.enc true)), i6 (gathE s d)]) := by
  refine go_stats_Gather (by simp) ?_
  have f1 := c_scheme_ValidData s d hs hd
  have hs1 := hs.1
  have hR0 : ¬ DataOK s d → gathR s d = [] ∧ gathE s d = 1 := fun h => ⟨if_neg h, if_neg h⟩
  have hR1 : DataOK s d → gathR s d = List.zipWith (fun t rows => ofS (kindsT t) rows) s d ∧ gathE s d = 0 := fun h => ⟨if_pos h, if_pos h⟩
  generalize gathR s d = R at *
  generalize gathE s d = E at *
  replace hR0 := Hd.mk hR0
  replace hR1 := Hd.mk hR1
  replace hs := Hd.mk hs
  replace hd := Hd.mk hd
  simp [f1]
  refine wpC_split (fun a1 => ?_) (fun a1 => ?_) <;> (have a1' := a1; try simp at a1') <;> (try simp [*])
  · rw [bP_false] at a1'
    obtain ⟨rfl, rfl⟩ := hR0.out a1'
    simp
  rw [bP_iff] at a1'
  obtain ⟨rfl, rfl⟩ := hR1.out a1'
  clear hR0 hR1
  replace a1' := Hd.mk a1'
  have hl : Hd (d.length = s.length) := ⟨a1'.out.len⟩
  have hzl : Hd ((List.zipWith (fun t rows => ofS (kindsT t) rows) s d).length = s.length) := ⟨by rw [List.length_zipWith, hl.out]; omega⟩
  have hzg : Hd (∀ (i : Nat) (h : i < s.length) (h' : i < d.length) (h'' : i < (List.zipWith (fun t rows => ofS (kindsT t) rows) s d).length), (List.zipWith (fun t rows => ofS (kindsT t) rows) s d)[i] = ofS (kindsT s[i]) d[i]) := ⟨fun i h h' h'' => by simp⟩
  generalize List.zipWith (fun t rows => ofS (kindsT t) rows) s d = Z at *
  refine wp_rounds (σ := Nat) (fun i e w => ((i = 0 ∧ e 6 = .nil) ∨ (0 < i ∧ ∃ g, e 6 = .ref 35 g 3 0 i ∧ ∃ n, w 35 = ⟨g, true, some (.row 3 ((Z.take i).map (TS.enc true))), n⟩)) ∧ e 1 = .sl false (d.map dataX) ∧ e 15 = .sl false (s.map TabD.enc) ∧ e 16 = i6 s.length ∧ e 17 = i6 i ∧ i ≤ s.length) (fun i => s.length - i) ?_ 0 _ _
    ⟨.inl ⟨rfl, by simp⟩, by simp, by simp, by simp, by simp, by omega⟩
  rintro i e w ⟨e6, e1, e15, e16, e17, hi⟩ ih
  have hlen : (Z.take i).length = i := by rw [List.length_take, hzl.out]; omega
  generalize hes : Z.take i = es at e6 hlen
  replace hes := Hd.mk hes
  simp [e1, e15, e16, e17]
  refine wpC_split (fun q => ?_) (fun q => ?_) <;> (have q' := q; try simp at q') <;> (try simp [*])
  · have hs16 : s.length ≤ 16 := a1'.out.sch.1
    have hid : i < d.length := by rw [hl.out]; exact q'
    have h8 := a1'.out.sch.len q'
    have hz := hzg.out i q' hid (by rw [hzl.out]; exact q')
    have g2 := c_stats_kindsOf s[i] (by omega)
    have g3 := c_stats_Of (kindsT s[i]) d[i] (by simp; omega) (hd.out.2 _ (List.getElem_mem hid))
    rw [kindsT_u8] at g3
    generalize ofS (kindsT s[i]) d[i] = z at *
    rcases e6 with ⟨h0, e6⟩ | ⟨h0, g, e6, n, s35⟩
    · subst h0
      simp [hid, g2, g3, e1, e15, e16, e17, e6]
      refine ih.out 1 _ _ ⟨.inr ⟨by omega, (w 35).g + 1, by simp, ?_⟩, by simp [e1], by simp [e15], by simp [e16], by simp [e17, show IntKind.i64.wrap 1 = 1 by rw [wrap_in] <;> omega], q'⟩ (by omega)
      rw [List.take_succ_eq_append_getElem (by rw [hzl.out]; exact q'), hz]
      exact so_mk (by simp) (by simp) (by simp)
    · simp [hid, g2, g3, e1, e15, e16, e17, e6, s35, hlen, show i ≤ 3518437208882 by omega]
      refine ih.out (i + 1) _ _ ⟨.inr ⟨by omega, g + 1, by simp, ?_⟩, by simp [e1], by simp [e15], by simp [e16], by simp [e17, wrap_succ q' hs1], q'⟩ (by omega)
      rw [List.take_succ_eq_append_getElem (by rw [hzl.out]; exact q'), hz, hes.out]
      exact so_mk (by simp [s35]) (by simp) (by simp)
  · have hie : i = s.length := by omega
    have he := hes.out
    rw [List.take_of_length_le (by rw [hzl.out]; omega)] at he
    subst he
    rcases e6 with ⟨h0, e6⟩ | ⟨h0, g, e6, n, s35⟩
    · have hz0 : Z = [] := List.eq_nil_of_length_eq_zero (by omega)
      simp [e6, hz0]
    · simp [e6, s35, hlen]
      try (rw [← hlen]; simp)
end Go.Proofs.YtoodknhlnifnlaaDoor
