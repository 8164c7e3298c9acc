/- The reference's data: contracts. -/
import Derived.Test.YtoodknhlnifnlaaGreatDoorVf
import Derived.Test.YtoodknhlnifnlaaGreatDoorVd
set_option linter.all false
set_option linter.unusedVariables false
set_option linter.unusedSimpArgs false
set_option maxRecDepth 100000
namespace Go.Proofs.YtoodknhlnifnlaaGreatDoor
open Go.RowKit
def inRB (c : ColD) (v : Val) : Bool := if c.kind = 1 then decide (c.lo ≤ v.int) && decide (v.int ≤ c.hi) else if c.kind = 2 then decide ((v.text.size : Int) ≤ c.hi) else true
theorem c_ref07_InRange (c : ColD) (v : Val) : call T n_jointerref07_InRange [c.enc, v.enc] = some (.v (.bool (inRB c v))) := by
  refine go_jointerref07_InRange (by simp) ?_
  simp
  repeat' ((first | refine wpC_split (fun h => ?_) (fun h => ?_) | refine wpG_split (fun h => ?_) (fun h => ?_)) <;> (have h' := h; try simp at h') <;> (try simp [*]))
  all_goals (simp_all [inRB] <;> omega)
theorem c_ref07_Fits (c : ColD) (v : Val) : call T n_jointerref07_Fits [c.enc, v.enc] = some (i6 (fitsE c v)) := by
  refine go_jointerref07_Fits (by simp) ?_
  generalize hR : fitsE c v = R; replace hR := Hd.mk hR
  have f1 := c_jointerref01_Valid v
  have f2 := c_ref07_InRange c v
  simp [f1]
  refine wpG_split (fun a1 => ?_) (fun a1 => ?_) <;> (have a1' := a1; try simp at a1') <;> (try simp [*])
  · rw [← hR.out]; simp [fitsE, a1']
  by_cases a2 : v.kind = 0
  · simp [a2]
    cases hnn : c.nn
    · simp
      rw [← hR.out]; simp [fitsE, a1', a2, hnn]
    · simp
      rw [← hR.out]; simp [fitsE, a1', a2, hnn]
  · simp [a2]
    refine wpC_split (fun a3 => ?_) (fun a3 => ?_) <;> (have a3' := a3; try simp at a3') <;> (try simp [*])
    · rw [← hR.out]; simp [fitsE, a1', a2, a3']
    have h2 : ¬ (v.valid = false ∨ (¬ v.kind = 0 ∧ ¬ v.kind = c.kind)) := by simp [a1', a3']
    replace hR : Hd (R = if (v.kind = 1 ∧ (v.int < c.lo ∨ c.hi < v.int)) ∨ (v.kind = 2 ∧ c.hi < v.text.size) then 75 else 0) := ⟨by
      rw [← hR.out]; unfold fitsE; rw [if_neg h2, if_neg (fun h => a2 h.1)]⟩
    have hin : Hd (R = if inRB c v = true then 0 else 75) := ⟨by
      rw [hR.out]
      unfold inRB
      rw [← a3']
      by_cases b1 : v.kind = 1
      · simp [b1]
        by_cases c1 : c.lo ≤ v.int <;> by_cases c2 : v.int ≤ c.hi <;> simp [c1, c2] <;> omega
      · by_cases b2 : v.kind = 2
        · simp [b2]
          by_cases c1 : (v.text.size : Int) ≤ c.hi <;> simp [c1] <;> omega
        · simp [b1, b2]⟩
    have a2c : ¬ c.kind = 0 := by omega
    have f3 : call T n_jointerref07_InRange [c.enc, .agg [.v (.int .u8 c.kind), .v (.int .i64 v.int), .v (.string v.text)]] = some (.v (.bool (inRB c v))) := by rw [← f2, ← a3']
    simp [a2c, f2, f3]
    refine wpC_split (fun b => ?_) (fun b => ?_) <;> (have b' := b; try simp at b') <;> (try simp [*])
    · rw [hin.out]; simp [b']
    · rw [hin.out]; simp [b']
theorem c_ref07_FitsRow (t : TabD) (r : List Val) (hl : r.length ≤ 9223372036854775807) : call T n_jointerref07_FitsRow [t.enc, rowX r] = some (i6 (fitsRowE t r)) := by
  refine go_jointerref07_FitsRow (by simp) ?_
  generalize hR : fitsRowE t r = R; replace hR := Hd.mk hR
  simp
  refine wpC_split (fun a1 => ?_) (fun a1 => ?_) <;> (have a1' := a1; try simp at a1') <;> (try simp [*])
  · rw [← hR.out]; simp [fitsRowE, a1']
  replace hR : Hd (R = fitsL (t.cols.drop 0) (r.drop 0)) := ⟨by rw [← hR.out]; simp [fitsRowE, a1']⟩
  replace a1' := Hd.mk a1'
  refine wp_rounds (σ := Nat) (fun i e s => e 1 = rowX r ∧ e 2 = .ptr 2 1 0 ∧ (∃ n, s 2 = ⟨1, true, some (.box t.enc), n⟩) ∧ e 5 = i6 i ∧ i ≤ r.length ∧ Hd (R = fitsL (t.cols.drop i) (r.drop i))) (fun i => r.length - i) ?_ 0 _ _ ⟨by simp, by simp, ⟨_, by simp; rfl⟩, by simp, by omega, hR⟩
  clear hR
  rintro i e s ⟨e1, e2, ⟨n2, s2⟩, e5, hi, hA⟩ ih
  simp [e1, e2, s2, e5]
  refine wpC_split (fun q => ?_) (fun q => ?_) <;> (have q' := q; try simp at q') <;> (try simp [*])
  · have hic : i < t.cols.length := by have := a1'.out; omega
    have hf := c_ref07_Fits t.cols[i] r[i]
    replace hA := Hd.mk (hA.out.trans (fitsL_drop hic q'))
    generalize fitsE t.cols[i] r[i] = E at hf hA
    simp [e1, e2, s2, e5, hic, q', hf]
    refine wpC_split (fun b => ?_) (fun b => ?_) <;> (have b' := b; try simp at b') <;> (try simp [*])
    · rw [hA.out]; simp [b']
    · refine ih.out (i + 1) _ _ ?_ (by omega)
      exact ⟨by simp [e1], by simp [e2], ⟨n2, by simp [s2]⟩, by simp [e5, wrap_succ q' hl], q', ⟨by rw [hA.out]; simp [b']⟩⟩
  · rw [hA.out]; exact (fitsL_end (by omega)).symm
theorem c_ref07_Full (row : List Val) (cs : List Int) (hc : ∀ c ∈ cs, 0 ≤ c ∧ c < (row.length : Int)) (hl : cs.length ≤ 9223372036854775807) : call T n_jointerref07_Full [rowX row, keyX cs] = some (.v (.bool (bP (FullR row cs)))) := by
  refine go_jointerref07_Full (by simp) ?_
  obtain ⟨R, hR, hF, hT⟩ := bP_spec (FullR row cs)
  rw [hR]; clear hR
  replace hc := Hd.mk hc
  simp
  refine wp_rounds (σ := Nat) (fun i e s => e 0 = rowX row ∧ e 1 = keyX cs ∧ e 5 = i6 i ∧ i ≤ cs.length ∧ Hd (∀ j, j < i → ∀ (h : j < cs.length), ¬ (cellAt row cs[j]).kind = 0)) (fun i => cs.length - i) ?_ 0 _ _ ⟨by simp, by simp, by simp, by omega, ⟨no_one⟩⟩
  rintro i e s ⟨e0, e1, e5, hi, hA⟩ ih
  simp [e0, e1, e5]
  refine wpC_split (fun q => ?_) (fun q => ?_) <;> (have q' := q; try simp at q') <;> (try simp [*])
  · have hr := hc.out _ (List.getElem_mem q')
    obtain ⟨c, hce⟩ := Int.eq_ofNat_of_zero_le hr.1
    have hcr : c < row.length := by omega
    have hcell : cellAt row cs[i] = row[c] := by rw [hce]; simp [cellAt, hcr]
    have bad : row[c].kind = 0 → R = false := fun h => hF.out (fun hh => hh _ (List.getElem_mem q') (by rw [hcell]; exact h))
    replace bad := Hd.mk bad
    replace hcell := Hd.mk hcell
    simp [hce, hcr, e0, e1, e5]
    refine wpC_split (fun b => ?_) (fun b => ?_) <;> (have b' := b; try simp at b') <;> (try simp [*])
    · exact bad.out b'
    · refine ih.out (i + 1) _ _ ?_ (by omega)
      exact ⟨by simp [e0], by simp [e1], by simp [e5, wrap_succ q' hl], q', ⟨good_step hA.out (fun _ => by rw [hcell.out]; exact b')⟩⟩
  · exact hT.out (fun c hcm => by
      obtain ⟨j, hj, rfl⟩ := List.getElem_of_mem hcm
      exact hA.out j (by omega) hj)
def AlikeP (a : List Val) (cs : List Int) (b : List Val) (os : List Int) : Prop := (valsAt a cs).map Val.key = (valsAt b os).map Val.key
theorem alike_iff {a b : List Val} : ∀ {cs os : List Int}, cs.length = os.length → (AlikeP a cs b os ↔ ∀ (j : Nat) (h : j < cs.length) (h' : j < os.length), (cellAt a cs[j]).key = (cellAt b os[j]).key)
  | [], [], _ => by simp [AlikeP, valsAt]
  | c :: cs, o :: os, hl => by
    have ih := alike_iff (a := a) (b := b) (cs := cs) (os := os) (by simpa using hl)
    have e : AlikeP a (c :: cs) b (o :: os) ↔ (cellAt a c).key = (cellAt b o).key ∧ AlikeP a cs b os := by simp [AlikeP, valsAt]
    rw [e, ih]
    constructor
    · rintro ⟨h0, hr⟩ j h h'
      cases j with
      | zero => exact h0
      | succ j => exact hr j (by simpa using h) (by simpa using h')
    · intro hall
      exact ⟨hall 0 (by simp) (by simp), fun j h h' => by have := hall (j + 1) (by simpa using h) (by simpa using h'); simpa only [List.getElem_cons_succ] using this⟩
  | [], _ :: _, hl => by simp at hl
  | _ :: _, [], hl => by simp at hl
theorem c_ref07_Alike (a : List Val) (cs : List Int) (b : List Val) (os : List Int) (hlen : cs.length = os.length) (ha : ∀ c ∈ cs, 0 ≤ c ∧ c < (a.length : Int)) (hb : ∀ c ∈ os, 0 ≤ c ∧ c < (b.length : Int)) (hl : cs.length ≤ 9223372036854775807) :
    call T n_jointerref07_Alike [rowX a, keyX cs, rowX b, keyX os] = some (.v (.bool (bP (AlikeP a cs b os)))) := by
  refine go_jointerref07_Alike (by simp) ?_
  rw [bP_congr (alike_iff hlen)]
  obtain ⟨R, hR, hF, hT⟩ := bP_spec (∀ (j : Nat) (h : j < cs.length) (h' : j < os.length), (cellAt a cs[j]).key = (cellAt b os[j]).key)
  rw [hR]; clear hR
  replace ha := Hd.mk ha
  replace hb := Hd.mk hb
  simp
  refine wp_rounds (σ := Nat) (fun i e s => e 0 = rowX a ∧ e 1 = keyX cs ∧ e 2 = rowX b ∧ e 3 = keyX os ∧ e 9 = i6 i ∧ i ≤ cs.length ∧ Hd (∀ j, j < i → ∀ (h : j < cs.length) (h' : j < os.length), (cellAt a cs[j]).key = (cellAt b os[j]).key)) (fun i => cs.length - i) ?_ 0 _ _ ⟨by simp, by simp, by simp, by simp, by simp, by omega, ⟨no_one⟩⟩
  rintro i e s ⟨e0, e1, e2, e3, e9, hi, hA⟩ ih
  simp [e0, e1, e2, e3, e9]
  refine wpC_split (fun q => ?_) (fun q => ?_) <;> (have q' := q; try simp at q') <;> (try simp [*])
  · have hio : i < os.length := by omega
    have hra := ha.out _ (List.getElem_mem q')
    have hrb := hb.out _ (List.getElem_mem hio)
    obtain ⟨c, hce⟩ := Int.eq_ofNat_of_zero_le hra.1
    obtain ⟨d, hde⟩ := Int.eq_ofNat_of_zero_le hrb.1
    have hca : c < a.length := by omega
    have hdb : d < b.length := by omega
    have h1 : cellAt a cs[i] = a[c] := by rw [hce]; simp [cellAt, hca]
    have h2 : cellAt b os[i] = b[d] := by rw [hde]; simp [cellAt, hdb]
    have hs := c_jointerref01_Same a[c] b[d]
    rw [same_key] at hs
    have bad : ¬ a[c].key = b[d].key → R = false := fun h => hF.out (fun hh => h (by have := hh i q' hio; rwa [h1, h2] at this))
    replace bad := Hd.mk bad
    have good : a[c].key = b[d].key → ∀ j, j < i + 1 → ∀ (h : j < cs.length) (h' : j < os.length), (cellAt a cs[j]).key = (cellAt b os[j]).key := fun h => good_step hA.out (fun _ _ => by rw [h1, h2]; exact h)
    replace good := Hd.mk good
    clear h1 h2
    simp [hce, hde, hca, hdb, hio, q', hs, e0, e1, e2, e3, e9]
    refine wpC_split (fun x => ?_) (fun x => ?_) <;> (have x' := x; try simp at x') <;> (try simp [*])
    · exact bad.out x'
    · refine ih.out (i + 1) _ _ ?_ (by omega)
      exact ⟨by simp [e0], by simp [e1], by simp [e2], by simp [e3], by simp [e9, wrap_succ q' hl], q', ⟨good.out x'⟩⟩
  · exact hT.out (fun j h h' => hA.out j (by omega) h h')
set_option maxHeartbeats 2000000 in
theorem c_ref07_KeyHolds (rows : List (List Val)) (key : List Int) (hc : ∀ r ∈ rows, ∀ c ∈ key, 0 ≤ c ∧ c < (r.length : Int)) (hl : key.length ≤ 9223372036854775807) (hn : rows.length ≤ 9223372036854775807) :
    call T n_jointerref07_KeyHolds [dataX rows, keyX key] = some (.v (.bool (bP (KeyHolds rows key)))) := by
  refine go_jointerref07_KeyHolds (by simp) ?_
  obtain ⟨R, hR, hF, hT⟩ := bP_spec (KeyHolds rows key)
  rw [hR]; clear hR
  replace hc := Hd.mk hc
  simp
  refine wp_rounds (σ := Nat) (fun i e s => e 0 = dataX rows ∧ e 1 = keyX key ∧ e 5 = i6 i ∧ i ≤ rows.length ∧ Hd (∀ m, m < i → ∀ (hm : m < rows.length), ∀ j (hj : j < rows.length), j < m → FullR rows[m] key → FullR rows[j] key → ¬ AlikeP rows[m] key rows[j] key)) (fun i => rows.length - i) ?_ 0 _ _ ⟨by simp, by simp, by simp, by omega, ⟨no_one⟩⟩
  rintro i e s ⟨e0, e1, e5, hi, hA⟩ ih
  simp [e0, e1, e5]
  refine wpC_split (fun q => ?_) (fun q => ?_) <;> (have q' := q; try simp at q') <;> (try simp [*])
  · have hf := c_ref07_Full rows[i] key (hc.out _ (List.getElem_mem q')) hl
    have ws := wrap_succ q' hn
    simp [q', hf, e0, e1, e5]
    refine wpC_split (fun b => ?_) (fun b => ?_) <;> (have b' := b; try simp at b') <;> (try simp [*])
    · rw [bP_false] at b'
      refine ih.out (i + 1) _ _ ?_ (by omega)
      exact ⟨by simp [e0], by simp [e1], by simp [e5, ws], q', ⟨good_step hA.out (fun _ j hj hji f1 => absurd f1 b')⟩⟩
    rw [bP_iff] at b'
    replace b' := Hd.mk b'
    refine wp_rounds (σ := Nat) (fun j e s => e 0 = dataX rows ∧ e 1 = keyX key ∧ e 5 = i6 i ∧ e 6 = i6 j ∧ j ≤ i ∧ Hd (∀ m, m < j → ∀ (hm : m < rows.length), ¬ AlikeP rows[i] key rows[m] key)) (fun j => i - j) ?_ 0 _ _ ⟨by simp [e0], by simp [e1], by simp [e5], by simp, by omega, ⟨no_one⟩⟩
    clear e0 e1 e5
    rintro j e s ⟨e0, e1, e5, e6, hj, hB⟩ jh
    simp [e0, e1, e5, e6]
    refine wpC_split (fun v => ?_) (fun v => ?_) <;> (have v' := v; try simp at v') <;> (try simp [*])
    · have hjr : j < rows.length := by omega
      have ha := c_ref07_Alike rows[i] key rows[j] key rfl (hc.out _ (List.getElem_mem q')) (hc.out _ (List.getElem_mem hjr)) hl
      simp [q', hjr, ha, e0, e1, e5, e6]
      refine wpC_split (fun x => ?_) (fun x => ?_) <;> (have x' := x; try simp at x') <;> (try simp [*])
      · rw [bP_iff] at x'
        refine hF.out (fun hh => ?_)
        have hfj : FullR rows[j] key := by
          intro c hcm
          obtain ⟨m, hm, rfl⟩ := List.getElem_of_mem hcm
          have := (alike_iff rfl).1 x' m hm hm
          rw [← key_kind this]
          exact b'.out _ (List.getElem_mem hm)
        exact hh i j q' hjr v' b'.out hfj x'
      · rw [bP_false] at x'
        refine jh.out (j + 1) _ _ ?_ (by omega)
        exact ⟨by simp [e0], by simp [e1], by simp [e5], by simp [e6, wrap_succ v' (by omega : i ≤ 9223372036854775807)], by omega, ⟨good_step hB.out (fun _ => x')⟩⟩
    · refine ih.out (i + 1) _ _ ?_ (by omega)
      exact ⟨by simp [e0], by simp [e1], by simp [e5, ws], q', ⟨good_step hA.out (fun _ j hj hji _ _ => hB.out j (by omega) hj)⟩⟩
  · exact hT.out (fun i j hi hj hji f1 f2 => hA.out i (by omega) hi j hj hji f1 f2)
set_option maxHeartbeats 2000000 in
theorem c_ref07_RefHolds (rows : List (List Val)) (cols : List Int) (others : List (List Val)) (key : List Int) (hlen : cols.length = key.length) (hc : ∀ r ∈ rows, ∀ c ∈ cols, 0 ≤ c ∧ c < (r.length : Int)) (hk : ∀ r ∈ others, ∀ c ∈ key, 0 ≤ c ∧ c < (r.length : Int)) (hl : cols.length ≤ 9223372036854775807)
    (hn : rows.length ≤ 9223372036854775807) (ho : others.length ≤ 9223372036854775807) :
    call T n_jointerref07_RefHolds [dataX rows, keyX cols, dataX others, keyX key] = some (.v (.bool (bP (RefHolds rows cols others key)))) := by
  refine go_jointerref07_RefHolds (by simp) ?_
  obtain ⟨R, hR, hF, hT⟩ := bP_spec (RefHolds rows cols others key)
  rw [hR]; clear hR
  replace hc := Hd.mk hc
  replace hk := Hd.mk hk
  replace hlen := Hd.mk hlen
  simp
  refine wp_rounds (σ := Nat) (fun i e s => e 0 = dataX rows ∧ e 1 = keyX cols ∧ e 2 = dataX others ∧ e 3 = keyX key ∧ e 9 = i6 i ∧ i ≤ rows.length ∧ Hd (∀ m, m < i → ∀ (hm : m < rows.length), FullR rows[m] cols → ∃ (j : Nat) (h' : j < others.length), AlikeP rows[m] cols others[j] key)) (fun i => rows.length - i) ?_ 0 _ _ ⟨by simp, by simp, by simp, by simp, by simp, by omega, ⟨no_one⟩⟩
  rintro i e s ⟨e0, e1, e2, e3, e9, hi, hA⟩ ih
  simp [e0, e1, e2, e3, e9]
  refine wpC_split (fun q => ?_) (fun q => ?_) <;> (have q' := q; try simp at q') <;> (try simp [*])
  · have hf := c_ref07_Full rows[i] cols (hc.out _ (List.getElem_mem q')) hl
    have ws := wrap_succ q' hn
    have hfb : Hd (bP (FullR rows[i] cols) = true ↔ FullR rows[i] cols) := ⟨bP_iff⟩
    generalize bP (FullR rows[i] cols) = fb at hf hfb
    simp [q', hf, e0, e1, e2, e3, e9]
    refine wp_rounds (σ := Nat × Bool) (fun x e s => e 0 = dataX rows ∧ e 1 = keyX cols ∧ e 2 = dataX others ∧ e 3 = keyX key ∧ e 9 = i6 i ∧ e 11 = i6 x.1 ∧ e 10 = .v (.bool x.2) ∧ x.1 ≤ others.length ∧ Hd (x.2 = true → FullR rows[i] cols → ∃ (j : Nat) (h' : j < others.length), AlikeP rows[i] cols others[j] key) ∧ Hd (x.2 = false → fb = true ∧ ∀ m, m < x.1 → ∀ (hm : m < others.length), ¬ AlikeP rows[i] cols others[m] key)) (fun x => others.length - x.1) ?_ (0, !fb) _ _
      ⟨by simp [e0], by simp [e1], by simp [e2], by simp [e3], by simp [e9], by simp, by simp, by simp, ⟨fun h hfu => by have := hfb.out.2 hfu; simp [this] at h⟩, ⟨fun h => ⟨by simpa using h, no_one⟩⟩⟩
    clear e0 e1 e2 e3 e9
    rintro ⟨j, is⟩ e s ⟨e0, e1, e2, e3, e9, e11, e10, hj, hB, hC⟩ jh
    simp only at e11 e10 hj hB hC
    cases is
    · simp [e0, e1, e2, e3, e9, e10, e11]
      refine wpG_split (fun v => ?_) (fun v => ?_) <;> (have v' := v; try simp at v') <;> (try simp [*])
      · have ha := c_ref07_Alike rows[i] cols others[j] key hlen.out (hc.out _ (List.getElem_mem q')) (hk.out _ (List.getElem_mem v')) hl
        have hbp : Hd (bP (AlikeP rows[i] cols others[j] key) = true ↔ AlikeP rows[i] cols others[j] key) := ⟨bP_iff⟩
        generalize bP (AlikeP rows[i] cols others[j] key) = ab at ha hbp
        simp [q', v', ha, e0, e1, e2, e3, e9, e10, e11]
        refine jh.out (j + 1, ab) _ _ ?_ (by simp only; omega)
        refine ⟨by simp [e0], by simp [e1], by simp [e2], by simp [e3], by simp [e9], by simp [e11, wrap_succ v' ho], by simp, v', ⟨fun h _ => ⟨j, v', hbp.out.1 h⟩⟩, ⟨fun h => ⟨(hC.out rfl).1, good_step (hC.out rfl).2 (fun _ hal => ?_)⟩⟩⟩
        have := hbp.out.2 hal
        simp only at h
        rw [h] at this; simp at this
      · have hf := hF.out (fun hh => by
          obtain ⟨m, hm, ha⟩ := hh i q' (hfb.out.1 (hC.out rfl).1)
          exact (hC.out rfl).2 m (by omega) hm ha)
        simp [e10, hf]
    · simp [e0, e1, e2, e3, e9, e10, e11]
      refine wpG_split (fun v => ?_) (fun v => ?_) <;> (have v' := v; try simp at v') <;> (try simp [*])
      · refine ih.out (i + 1) _ _ ?_ (by omega)
        exact ⟨by simp [e0], by simp [e1], by simp [e2], by simp [e3], by simp [e9, ws], q', ⟨good_step hA.out (fun _ => hB.out rfl)⟩⟩
      · refine ih.out (i + 1) _ _ ?_ (by omega)
        exact ⟨by simp [e0], by simp [e1], by simp [e2], by simp [e3], by simp [e9, ws], q', ⟨good_step hA.out (fun _ => hB.out rfl)⟩⟩
  · exact hT.out (fun i hi f1 => hA.out i (by omega) hi f1)
set_option maxHeartbeats 2000000 in
theorem c_ref07_keysHold (s : List TabD) (d : List (List (List Val))) (n : Nat) (hn : n < s.length) (hnd : n < d.length) (hc : ∀ k ∈ s[n].keys, ∀ r ∈ d[n], ∀ c ∈ k, 0 ≤ c ∧ c < (r.length : Int)) (hk : s[n].keys.length ≤ 9223372036854775807 ∧ ∀ k ∈ s[n].keys, k.length ≤ 9223372036854775807) (hr : d[n].length ≤ 9223372036854775807) :
    call T n_jointerref07_keysHold [.sl false (s.map TabD.enc), .sl false (d.map dataX), i6 n] = some (.v (.bool (bP (∀ k ∈ s[n].keys, KeyHolds d[n] k)))) := by
  refine go_jointerref07_keysHold (by simp) ?_
  obtain ⟨R, hR, hF, hT⟩ := bP_spec (∀ k ∈ s[n].keys, KeyHolds d[n] k)
  rw [hR]; clear hR
  replace hc := Hd.mk hc
  simp
  refine wp_rounds (σ := Nat) (fun i e w => e 0 = .sl false (s.map TabD.enc) ∧ e 1 = .sl false (d.map dataX) ∧ e 2 = i6 n ∧ e 7 = i6 i ∧ i ≤ s[n].keys.length ∧ Hd (∀ m, m < i → ∀ (hm : m < s[n].keys.length), KeyHolds d[n] s[n].keys[m])) (fun i => s[n].keys.length - i) ?_ 0 _ _ ⟨by simp, by simp, by simp, by simp, by omega, ⟨no_one⟩⟩
  rintro i e w ⟨e0, e1, e2, e7, hi, hA⟩ ih
  simp [hn, e0, e1, e2, e7]
  refine wpC_split (fun q => ?_) (fun q => ?_) <;> (have q' := q; try simp at q') <;> (try simp [*])
  · have hf := c_ref07_KeyHolds d[n] s[n].keys[i] (hc.out _ (List.getElem_mem q')) (hk.2 _ (List.getElem_mem q')) hr
    simp [hn, hnd, q', hf, e0, e1, e2, e7]
    refine wpC_split (fun b => ?_) (fun b => ?_) <;> (have b' := b; try simp at b') <;> (try simp [*])
    · exact hF.out (fun hh => by rw [bP_false] at b'; exact b' (hh _ (List.getElem_mem q')))
    · rw [bP_iff] at b'
      refine ih.out (i + 1) _ _ ?_ (by omega)
      exact ⟨by simp [e0], by simp [e1], by simp [e2], by simp [e7, wrap_succ q' hk.1], q', ⟨good_step hA.out (fun _ => b')⟩⟩
  · exact hT.out (fun k hk => by
      obtain ⟨j, hj, rfl⟩ := List.getElem_of_mem hk
      exact hA.out j (by omega) hj)
set_option maxHeartbeats 4000000 in
theorem c_ref07_refsHold (s : List TabD) (d : List (List (List Val))) (n : Nat) (hn : n < s.length) (hnd : n < d.length) (hg : ∀ r ∈ s[n].refs, RefGo s d n r) (hl : s[n].refs.length ≤ 9223372036854775807) (hd : ∀ rows ∈ d, rows.length ≤ 9223372036854775807) :
    call T n_jointerref07_refsHold [.sl false (s.map TabD.enc), .sl false (d.map dataX), i6 n] = some (.v (.bool (bP (RefsHold s d n)))) := by
  refine go_jointerref07_refsHold (by simp) ?_
  have et : tabOf s n = s[n] := by simp [tabOf, hn]
  have er : rowsOf d n = d[n] := by simp [rowsOf, hnd]
  unfold RefsHold
  rw [et, er]
  obtain ⟨R, hR, hF, hT⟩ := bP_spec (∀ r ∈ s[n].refs, RefHolds d[n] r.cols (rowsOf d r.table) (keyOf s r))
  rw [hR]; clear hR
  replace hg := Hd.mk hg
  replace hd := Hd.mk hd
  simp
  refine wp_rounds (σ := Nat) (fun i e w => e 0 = .sl false (s.map TabD.enc) ∧ e 1 = .sl false (d.map dataX) ∧ e 2 = i6 n ∧ e 7 = i6 i ∧ i ≤ s[n].refs.length ∧
      Hd (∀ m, m < i → ∀ (hm : m < s[n].refs.length), RefHolds d[n] s[n].refs[m].cols (rowsOf d s[n].refs[m].table) (keyOf s s[n].refs[m]))) (fun i => s[n].refs.length - i) ?_ 0 _ _
    ⟨by simp, by simp, by simp, by simp, by omega, ⟨no_one⟩⟩
  rintro i e w ⟨e0, e1, e2, e7, hi, hA⟩ ih
  simp [hn, e0, e1, e2, e7]
  refine wpC_split (fun q => ?_) (fun q => ?_) <;> (have q' := q; try simp at q') <;> (try simp [*])
  · have hgr := hg.out _ (List.getElem_mem q')
    have bad : ¬ RefHolds d[n] s[n].refs[i].cols (rowsOf d s[n].refs[i].table) (keyOf s s[n].refs[i]) → R = false := fun h => hF.out (fun hh => h (hh _ (List.getElem_mem q')))
    replace bad := Hd.mk bad
    have good : RefHolds d[n] s[n].refs[i].cols (rowsOf d s[n].refs[i].table) (keyOf s s[n].refs[i]) → ∀ m, m < i + 1 → ∀ (hm : m < s[n].refs.length), RefHolds d[n] s[n].refs[m].cols (rowsOf d s[n].refs[m].table) (keyOf s s[n].refs[m]) := fun hc => good_step hA.out (fun _ => hc)
    replace good := Hd.mk good
    clear hA
    have hri : s[n].refs[i]? = some s[n].refs[i] := List.getElem?_eq_getElem q'
    generalize hgen : s[n].refs[i] = r at hgr hri bad good
    obtain ⟨⟨t1, t2, t3⟩, ⟨k1, k2⟩, ⟨l1, l2⟩, cc, kc⟩ := hgr
    obtain ⟨cs, tb, ky⟩ := r
    simp only at t1 t2 t3 k1 k2 l1 l2 cc kc bad good
    obtain ⟨a, rfl⟩ := Int.eq_ofNat_of_zero_le t1
    obtain ⟨b, rfl⟩ := Int.eq_ofNat_of_zero_le k1
    have ha : a < s.length := by omega
    have had : a < d.length := by omega
    have ea : tabOf s (a : Int) = s[a] := by simp [tabOf, ha]
    have era : rowsOf d (a : Int) = d[a] := by simp [rowsOf, had]
    rw [ea] at k2
    have hb : b < s[a].keys.length := by omega
    have eb : keyOf s ⟨cs, (a : Int), (b : Int)⟩ = s[a].keys[b] := by simp [keyOf, ea, hb]
    rw [eb] at l1
    rw [eb, era] at kc bad
    rw [er] at cc
    have hf := c_ref07_RefHolds d[n] cs d[a] s[a].keys[b] l1 cc kc (by omega) (hd.out _ (List.getElem_mem hnd)) (hd.out _ (List.getElem_mem had))
    replace cc := Hd.mk cc
    replace kc := Hd.mk kc
    simp [hn, hnd, q', hgen, ha, had, hb, hf, e0, e1, e2, e7]
    refine wpC_split (fun b => ?_) (fun b => ?_) <;> (have b' := b; try simp at b') <;> (try simp [*])
    · exact bad.out (bP_false.1 b')
    · rw [bP_iff] at b'
      refine ih.out (i + 1) _ _ ?_ (by omega)
      exact ⟨by simp [e0], by simp [e1], by simp [e2], by simp [e7, wrap_succ q' hl], q', ⟨good.out (by rw [eb, era]; exact b')⟩⟩
  · exact hT.out (fun k hk => by
      obtain ⟨j, hj, rfl⟩ := List.getElem_of_mem hk
      exact hA.out j (by omega) hj)
set_option maxHeartbeats 8000000 in
theorem c_ref07_ValidData (s : List TabD) (d : List (List (List Val))) (hs : schemeSmall s) (hd : dataSmall d) :
    call T n_jointerref07_ValidData [.sl false (s.map TabD.enc), .sl false (d.map dataX)] = some (.v (.bool (bP (DataOK s d)))) := by
  refine go_jointerref07_ValidData (by simp) ?_
  obtain ⟨R, hR, hF, hT⟩ := bP_spec (DataOK s d)
  rw [hR]; clear hR
  have f1 := c_ref07_Valid s hs
  simp [f1]
  refine wpG_split (fun a1 => ?_) (fun a1 => ?_) <;> (have a1' := a1; try simp at a1') <;> (try simp [*])
  · exact hF.out (fun h => by rw [bP_false] at a1'; exact a1' h.sch)
  rw [bP_iff] at a1'
  refine wpC_split (fun a2 => ?_) (fun a2 => ?_) <;> (have a2' := a2; try simp at a2') <;> (try simp [*])
  · exact hF.out (fun h => a2' h.len)
  have hs1 := hs.1
  replace hs := Hd.mk hs
  replace a2' := Hd.mk a2'
  have hd2 : Hd (∀ rows ∈ d, rowsOk rows) := ⟨hd.2⟩
  replace a1' := Hd.mk a1'
  have hF1 : Hd (¬ (∀ (n : Nat) (h : n < d.length), d[n].length ≤ 1000 ∧ ∀ r ∈ d[n], fitsRowE (tabOf s n) r = 0) → R = false) := ⟨fun h => hF.out (fun hh => h hh.rows)⟩
  refine wp_rounds (σ := Nat) (fun i e w => e 0 = .sl false (s.map TabD.enc) ∧ e 1 = .sl false (d.map dataX) ∧ e 5 = i6 i ∧ i ≤ s.length ∧
      Hd (∀ n, n < i → ∀ (h : n < d.length), d[n].length ≤ 1000 ∧ ∀ r ∈ d[n], fitsRowE (tabOf s n) r = 0)) (fun i => s.length - i) ?_ 0 _ _
    ⟨by simp, by simp, by simp, by omega, ⟨no_one⟩⟩
  rintro i e w ⟨e0, e1, e5, hi, hA⟩ ih
  simp [e0, e1, e5]
  refine wpC_split (fun q => ?_) (fun q => ?_) <;> (have q' := q; try simp at q') <;> (try simp [*])
  · have hid : i < d.length := by rw [a2'.out]; exact q'
    simp [hid, e0, e1, e5]
    refine wpC_split (fun a3 => ?_) (fun a3 => ?_) <;> (have a3' := a3; try simp at a3') <;> (try simp [*])
    · exact hF1.out (fun h => by have := (h i hid).1; omega)
    have hro := hd2.out d[i] (List.getElem_mem hid)
    have et : tabOf s (i : Int) = s[i] := by simp [tabOf, q']
    refine wp_rounds (σ := Nat) (fun j e w => e 0 = .sl false (s.map TabD.enc) ∧ e 1 = .sl false (d.map dataX) ∧ e 5 = i6 i ∧ e 6 = i6 j ∧ j ≤ d[i].length ∧
        Hd (∀ m, m < j → ∀ (h : m < d[i].length), fitsRowE (tabOf s i) d[i][m] = 0)) (fun j => d[i].length - j) ?_ 0 _ _
      ⟨by simp [e0], by simp [e1], by simp [e5], by simp, by omega, ⟨no_one⟩⟩
    clear e0 e1 e5
    rintro j e w ⟨e0, e1, e5, e6, hj, hB⟩ jh
    simp [hid, e0, e1, e5, e6]
    refine wpC_split (fun v => ?_) (fun v => ?_) <;> (have v' := v; try simp at v') <;> (try simp [*])
    · have hrj := hro.2 d[i][j] (List.getElem_mem v')
      have hf := c_ref07_FitsRow s[i] d[i][j] hrj.1
      have bad : ¬ fitsRowE s[i] d[i][j] = 0 → R = false := fun h => hF1.out (fun hh => h (by have := (hh i hid).2 _ (List.getElem_mem v'); rw [et] at this; exact this))
      replace bad := Hd.mk bad
      have good : fitsRowE s[i] d[i][j] = 0 → ∀ m, m < j + 1 → ∀ (h : m < d[i].length), fitsRowE (tabOf s i) d[i][m] = 0 := fun hc => good_step hB.out (fun _ => by rw [et]; exact hc)
      replace good := Hd.mk good
      generalize fitsRowE s[i] d[i][j] = E at hf bad good
      simp [hid, q', v', hf, e0, e1, e5, e6]
      refine wpC_split (fun b => ?_) (fun b => ?_) <;> (have b' := b; try simp at b') <;> (try simp [*])
      · exact bad.out b'
      · refine jh.out (j + 1) _ _ ?_ (by omega)
        exact ⟨by simp [e0], by simp [e1], by simp [e5], by simp [e6, wrap_succ v' hro.1], v', ⟨good.out b'⟩⟩
    · refine ih.out (i + 1) _ _ ?_ (by omega)
      refine ⟨by simp [e0], by simp [e1], by simp [e5, wrap_succ q' hs1], q', ⟨good_step hA.out (fun _ => ⟨by omega, fun r hr => ?_⟩)⟩⟩
      obtain ⟨m, hm, rfl⟩ := List.getElem_of_mem hr
      exact hB.out m (by omega) hm
  have hrows : Hd (∀ (n : Nat) (h : n < d.length), d[n].length ≤ 1000 ∧ ∀ r ∈ d[n], fitsRowE (tabOf s n) r = 0) := ⟨fun n h => hA.out n (by have := a2'.out; omega) h⟩
  have hrl : Hd (∀ (n : Nat) (h : n < d.length), ∀ r ∈ d[n], r.length = (tabOf s n).cols.length) := ⟨fun n h r hr => fitsRow_len ((hrows.out n h).2 r hr)⟩
  clear hA ih hF1
  have hF2 : Hd (∀ (n : Nat) (h : n < d.length), ¬ (∀ k ∈ (tabOf s n).keys, KeyHolds d[n] k) → R = false) := ⟨fun n h hc => hF.out (fun hh => hc (hh.keys n h))⟩
  have hF3 : Hd (∀ (n : Nat) (h : n < d.length), ¬ RefsHold s d n → R = false) := ⟨fun n h hc => hF.out (fun hh => hc (hh.refs n h))⟩
  refine wp_rounds (σ := Nat) (fun i e w => e 0 = .sl false (s.map TabD.enc) ∧ e 1 = .sl false (d.map dataX) ∧ e 8 = i6 i ∧ i ≤ s.length ∧
      Hd (∀ n, n < i → ∀ (h : n < d.length), (∀ k ∈ (tabOf s n).keys, KeyHolds d[n] k) ∧ RefsHold s d n)) (fun i => s.length - i) ?_ 0 _ _
    ⟨by simp [e0], by simp [e1], by simp, by omega, ⟨no_one⟩⟩
  clear e0 e1 e5
  rintro i e w ⟨e0, e1, e8, hi, hA⟩ ih
  simp [e0, e1, e8]
  refine wpC_split (fun q => ?_) (fun q => ?_) <;> (have q' := q; try simp at q') <;> (try simp [*])
  · have hid : i < d.length := by rw [a2'.out]; exact q'
    have et : tabOf s (i : Int) = s[i] := by simp [tabOf, q']
    have hT2 := a1'.out.2.2 i q'
    have hsm := hs.out.2 s[i] (List.getElem_mem q')
    have f2 := c_ref07_keysHold s d i q' hid (fun k hk r hr c hc => by
      have h1 := hrl.out i hid r hr
      rw [et] at h1
      rw [h1]
      exact hT2.keys k hk c hc) hsm.keys (hd2.out _ (List.getElem_mem hid)).1
    have f3 := c_ref07_refsHold s d i q' hid (refGo a1'.out a2'.out hrl.out q') hsm.refs.1 (fun rows hr => (hd2.out rows hr).1)
    have b2 := hF2.out i hid
    have b3 := hF3.out i hid
    rw [et] at b2
    have good : (∀ k ∈ s[i].keys, KeyHolds d[i] k) → RefsHold s d i → ∀ n, n < i + 1 → ∀ (h : n < d.length), (∀ k ∈ (tabOf s n).keys, KeyHolds d[n] k) ∧ RefsHold s d n := fun c1 c2 => good_step hA.out (fun _ => by rw [et]; exact ⟨c1, c2⟩)
    replace good := Hd.mk good
    replace b2 := Hd.mk b2
    replace b3 := Hd.mk b3
    simp [f2, f3, e0, e1, e8]
    refine wpG_split (fun c1 => ?_) (fun c1 => ?_) <;> (have c1' := c1; try simp at c1') <;> (try simp [*])
    · exact b2.out (bP_false.1 c1')
    rw [bP_iff] at c1'
    try simp [f2, f3, e0, e1, e8]
    refine wpC_split (fun c2 => ?_) (fun c2 => ?_) <;> (have c2' := c2; try simp at c2') <;> (try simp [*])
    · exact b3.out (bP_false.1 c2')
    rw [bP_iff] at c2'
    refine ih.out (i + 1) _ _ ?_ (by omega)
    exact ⟨by simp [e0], by simp [e1], by simp [e8, wrap_succ q' hs1], q', ⟨good.out c1' c2'⟩⟩
  · exact hT.out ⟨a1'.out, a2'.out, hrows.out, fun n h => (hA.out n (by have := a2'.out; omega) h).1, fun n h => (hA.out n (by have := a2'.out; omega) h).2⟩
end Go.Proofs.YtoodknhlnifnlaaGreatDoor
