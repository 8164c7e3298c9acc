/- The kinds of a table; stats.Check. -/
import Derived.Test.YtoodknhlnifnlaaGreatDoorVb
import Derived.Test.YtoodknhlnifnlaaGreatDoorCs
set_option linter.all false
set_option linter.unusedVariables false
set_option linter.unusedSimpArgs false
set_option maxRecDepth 100000
namespace Go.Proofs.YtoodknhlnifnlaaGreatDoor
open Go.RowKit
def kindsT (t : TabD) : List Int := t.cols.map (·.kind)
@[simp] theorem kindsT_len (t : TabD) : (kindsT t).length = t.cols.length := by simp [kindsT]
theorem kindsT_u8 (t : TabD) : (kindsT t).map u8 = t.cols.map fun c => u8 c.kind := by simp [kindsT]
@[simp] theorem deepL_kindC (l : List ColD) : deepL (l.map fun c => u8 c.kind) = true := deepL_map (by simp) l
@[simp] theorem shrL_kindC (l : List ColD) : shrL (l.map fun c => u8 c.kind) = l.map fun c => u8 c.kind := shrL_map (by simp) l
set_option maxHeartbeats 1000000 in
theorem c_stats_kindsOf (t : TabD) (hl : t.cols.length ≤ 140737488355328) : call T n_stats_kindsOf [t.enc] = some (.sl true (t.cols.map fun c => u8 c.kind)) := by
  refine go_stats_kindsOf (by simp) ?_
  simp [show (t.cols.length : Int) ≤ 140737488355328 by omega]
  refine wp_rounds (σ := Nat) (fun i e s => (∃ g, e 3 = .ref 9 g 1 0 i ∧ ∃ n, s 9 = ⟨g, true, some (.row 1 ((t.cols.take i).map fun c => u8 c.kind)), n⟩) ∧ e 11 = .sl false (t.cols.map ColD.enc) ∧ e 12 = i6 t.cols.length ∧ e 13 = i6 i ∧ i ≤ t.cols.length) (fun i => t.cols.length - i) ?_ 0 _ _
    ⟨⟨1, by simp, _, by simp; rfl⟩, by simp, by simp, by simp, by omega⟩
  rintro i e s ⟨⟨g, e3, n, s9⟩, e11, e12, e13, hi⟩ ih
  have hlen : (t.cols.take i).length = i := by rw [List.length_take]; omega
  generalize hes : t.cols.take i = es at s9 hlen
  replace hes := Hd.mk hes
  simp [e3, e11, e12, e13, s9]
  refine wpC_split (fun q => ?_) (fun q => ?_) <;> (have q' := q; try simp at q') <;> (try simp [*])
  · simp [show i ≤ 140737488355327 by omega, e13, e11, e12]
    refine ih.out (i + 1) _ _ ⟨⟨g + 1, by simp, ?_⟩, by simp [e11], by simp [e12], by simp [e13, wrap_succ q' (by omega : t.cols.length ≤ 9223372036854775807)], q'⟩ (by omega)
    rw [List.take_succ_eq_append_getElem q', hes.out]
    exact so_mk (by simp [s9]) (by simp [s9]) (by simp [s9])
  · have he := hes.out
    rw [List.take_of_length_le q'] at he
    rw [← hlen, he]; simp
/-- Statistics that fit the scheme's tables, one for each. -/
def StatsOK (s : List TabD) (st : List TS) : Prop := ∀ (i : Nat) (h : i < s.length) (h' : i < st.length), fitsB (kindsT s[i]) st[i] = true
noncomputable def checkE (s : List TabD) (st : List TS) : Int := open Classical in if SchemeOK s then (if st.length = s.length ∧ StatsOK s st then 0 else 190) else 1
theorem SchemeOK.len {s : List TabD} (h : SchemeOK s) {i : Nat} (hi : i < s.length) : s[i].cols.length ≤ 8 := (h.2.2 i hi).2.1
set_option maxHeartbeats 2000000 in
theorem c_stats_Check (s : List TabD) (st : List TS) (hs : schemeSmall s) : call T n_stats_Check [.sl false (s.map TabD.enc), .sl false (st.map (TS.enc false))] = some (i6 (checkE s st)) := by
  refine go_stats_Check (by simp) ?_
  have f1 := c_scheme_Valid s hs
  have hs1 := hs.1
  generalize hR : checkE s st = R
  replace hR := Hd.mk hR
  simp [f1]
  refine wpC_split (fun a1 => ?_) (fun a1 => ?_) <;> (have a1' := a1; try simp at a1') <;> (try simp [*])
  · rw [bP_false] at a1'
    rw [← hR.out]; simp [checkE, a1']
  rw [bP_iff] at a1'
  replace a1' := Hd.mk a1'
  refine wpC_split (fun a2 => ?_) (fun a2 => ?_) <;> (have a2' := a2; try simp at a2') <;> (try simp [*])
  · rw [← hR.out]; simp [checkE, a1'.out, a2']
  have hF : Hd (¬ StatsOK s st → 190 = R) := ⟨fun h => by rw [← hR.out]; simp [checkE, a1'.out, h]⟩
  have hT : Hd (StatsOK s st → 0 = R) := ⟨fun h => by rw [← hR.out]; simp [checkE, a1'.out, h, a2']⟩
  clear hR
  replace a2' := Hd.mk a2'
  refine wp_rounds (σ := Nat) (fun i e w => e 0 = .sl false (s.map TabD.enc) ∧ e 1 = .sl false (st.map (TS.enc false)) ∧ e 15 = .sl false (s.map TabD.enc) ∧ e 16 = i6 s.length ∧ e 17 = i6 i ∧ i ≤ s.length ∧
      Hd (∀ n, n < i → ∀ (h : n < s.length), ∀ (h' : n < st.length), fitsB (kindsT s[n]) st[n] = true)) (fun i => s.length - i) ?_ 0 _ _
    ⟨by simp, by simp, by simp, by simp, by simp, by omega, ⟨no_one⟩⟩
  rintro i e w ⟨e0, e1, e15, e16, e17, hi, hA⟩ ih
  simp [e0, e1, e15, e16, e17]
  refine wpC_split (fun q => ?_) (fun q => ?_) <;> (have q' := q; try simp at q') <;> (try simp [*])
  · have hit : i < st.length := by rw [a2'.out]; exact q'
    have h8 := a1'.out.len q'
    have f2 := c_stats_kindsOf s[i] (by omega)
    have f3 := c_stats_Fits (kindsT s[i]) st[i] (by simp; omega)
    rw [kindsT_u8] at f3
    have bad : ¬ fitsB (kindsT s[i]) st[i] = true → 190 = R := fun h => hF.out (fun hh => h (hh i q' hit))
    replace bad := Hd.mk bad
    have good : fitsB (kindsT s[i]) st[i] = true → ∀ n, n < i + 1 → ∀ (h : n < s.length), ∀ (h' : n < st.length), fitsB (kindsT s[n]) st[n] = true := fun hc => good_step hA.out (fun _ => fun _ => hc)
    replace good := Hd.mk good
    generalize fitsB (kindsT s[i]) st[i] = E at f3 bad good
    simp [hit, f2, f3, e0, e1, e15, e16, e17]
    refine wpC_split (fun b => ?_) (fun b => ?_) <;> (have b' := b; try simp at b') <;> (try simp [*])
    · exact bad.out (by simp [b'])
    · refine ih.out (i + 1) _ _ ?_ (by omega)
      exact ⟨by simp [e0], by simp [e1], by simp [e15], by simp [e16], by simp [e17, wrap_succ q' hs1], q', ⟨good.out b'⟩⟩
  · exact hT.out (fun n h h' => hA.out n (by omega) h h')
theorem checkE_ok {s : List TabD} {st : List TS} (h : checkE s st = 0) : SchemeOK s ∧ st.length = s.length ∧ StatsOK s st := by
  unfold checkE at h
  split at h
  · split at h
    · rename_i a b; exact ⟨a, b.1, b.2⟩
    · omega
  · omega
end Go.Proofs.YtoodknhlnifnlaaGreatDoor
