/- The reference's Tight and Default (seat ZD's table). -/
import Derived.Test.YtoodknhlnifnlaaGreatDoorXa
import Derived.Test.YtoodknhlnifnlaaGreatDoorXp
set_option linter.all false
set_option linter.unusedVariables false
set_option linter.unusedSimpArgs false
set_option maxRecDepth 100000
namespace Go.Proofs.YtoodknhlnifnlaaGreatDoor
open Go.RowKit
set_option maxHeartbeats 2000000 in
theorem c_ref19_Tight (s : List TabD) (st : List TS) (hs : schemeSmall s) (h6 : ∀ t ∈ s, ∀ c ∈ t.cols, c.in64) (hst : ∀ d ∈ st, ∀ c ∈ d.cols, loOk c) :
    call T n_jointerref19_Tight [.sl false (s.map TabD.enc), .sl false (st.map (TS.enc false))] = some (.tup [.sl true ((tightR s st).map (TS.enc true)), i6 (checkE s st)]) := by
  refine go_jointerref19_Tight (by simp) ?_
  have f1 := c_ref19_Check s st hs
  have hs1 := hs.1
  have hC := checkE_ok (s := s) (st := st)
  have hR0 : ¬ checkE s st = 0 → tightR s st = [] := fun h => if_neg h
  have hR1 : checkE s st = 0 → tightR s st = List.zipWith tightT s st := fun h => if_pos h
  generalize tightR s st = R at *
  generalize checkE s st = c at *
  replace hR0 := Hd.mk hR0
  replace hR1 := Hd.mk hR1
  replace hC := Hd.mk hC
  replace hst := Hd.mk hst
  replace h6 := Hd.mk h6
  replace hs := Hd.mk hs
  simp [f1]
  refine wpC_split (fun a1 => ?_) (fun a1 => ?_) <;> (have a1' := a1; try simp at a1') <;> (try simp [*])
  · rw [hR0.out a1']
  subst a1'
  replace hC := Hd.mk (hC.out rfl)
  obtain rfl := hR1.out rfl
  clear hR0 hR1
  have hl : st.length = s.length := hC.out.2.1
  replace hl := Hd.mk hl
  have hzl : Hd ((List.zipWith tightT s st).length = s.length) := ⟨by rw [List.length_zipWith, hl.out]; omega⟩
  have hzg : Hd (∀ (i : Nat) (h : i < s.length) (h' : i < st.length) (h'' : i < (List.zipWith tightT s st).length), (List.zipWith tightT s st)[i] = tightT s[i] st[i]) := ⟨fun i h h' h'' => by simp⟩
  generalize List.zipWith tightT s st = Z at *
  refine wp_rounds (σ := Nat) (fun i e w => ((i = 0 ∧ e 7 = .nil) ∨ (0 < i ∧ ∃ g, e 7 = .ref 32 g 3 0 i ∧ ∃ n, w 32 = ⟨g, true, some (.row 3 ((Z.take i).map (TS.enc true))), n⟩)) ∧ e 0 = .sl false (s.map TabD.enc) ∧ e 1 = .sl false (st.map (TS.enc false)) ∧ e 8 = i6 i ∧ i ≤ s.length) (fun i => s.length - i) ?_ 0 _ _
    ⟨.inl ⟨rfl, by simp⟩, by simp, by simp, by simp, by omega⟩
  rintro i e w ⟨e7, e0, e1, e8, hi⟩ ih
  have hlen : (Z.take i).length = i := by rw [List.length_take, hzl.out]; omega
  generalize hes : Z.take i = es at e7 hlen
  replace hes := Hd.mk hes
  simp [e0, e1, e8]
  refine wpC_split (fun q => ?_) (fun q => ?_) <;> (have q' := q; try simp at q') <;> (try simp [*])
  · have hs16 : s.length ≤ 16 := hC.out.1.1
    have hit : i < st.length := by rw [hl.out]; exact q'
    have hfit := hC.out.2.2 i q' hit
    have hT2 := hC.out.1.2.2 i q'
    have h8 := hC.out.1.len q'
    have hld : st[i].cols.length = s[i].cols.length := (fits_len hfit).trans (kindsT_len _)
    have hok := okT_of hfit (hst.out _ (List.getElem_mem hit))
    have hu := tightU_ok hld hok.cols hok.rows (h6.out _ (List.getElem_mem q'))
    have hkl := (hs.out.2 _ (List.getElem_mem q')).keys.1
    have hz := hzg.out i q' hit (by rw [hzl.out]; exact q')
    have f2 := c_ref19_tightTable s[i] st[i] hld h8 hT2.keys hkl hu
    clear hT2 hfit hld hok hu hkl h8 hC hs
    generalize tightT s[i] st[i] = z at *
    rcases e7 with ⟨h0, e7⟩ | ⟨h0, g, e7, n, s32⟩
    · subst h0
      simp [e0, e1, e7, e8, hit, f2]
      refine ih.out 1 _ _ ⟨.inr ⟨by omega, (w 32).g + 1, by simp, ?_⟩, by simp [e0], by simp [e1], by simp [e8, show IntKind.i64.wrap 1 = 1 by rw [wrap_in] <;> omega], q'⟩ (by omega)
      rw [List.take_succ_eq_append_getElem (by rw [hzl.out]; exact q'), hz]
      exact so_mk (by simp) (by simp) (by simp)
    · simp [e0, e1, e7, e8, hit, s32, f2, hlen, show i ≤ 3518437208882 by omega]
      refine ih.out (i + 1) _ _ ⟨.inr ⟨by omega, g + 1, by simp, ?_⟩, by simp [e0], by simp [e1], by simp [e8, wrap_succ q' hs1], q'⟩ (by omega)
      rw [List.take_succ_eq_append_getElem (by rw [hzl.out]; exact q'), hz, hes.out]
      exact so_mk (by simp [s32]) (by simp) (by simp)
  · have hie : i = s.length := by omega
    have he := hes.out
    rw [List.take_of_length_le (by rw [hzl.out]; omega)] at he
    subst he
    rcases e7 with ⟨h0, e7⟩ | ⟨h0, g, e7, n, s32⟩
    · have hz0 : Z = [] := List.eq_nil_of_length_eq_zero (by omega)
      simp [e7, hz0]
    · simp [e7, s32, hlen]
      try (rw [← hlen]; simp)
end Go.Proofs.YtoodknhlnifnlaaGreatDoor
