/- The reference's schemes: contracts. -/
import Derived.Test.YtoodknhlnifnlaaGreatDoorVe
set_option linter.all false
set_option linter.unusedVariables false
set_option linter.unusedSimpArgs false
set_option maxRecDepth 100000
namespace Go.Proofs.YtoodknhlnifnlaaGreatDoor
open Go.RowKit
set_option maxHeartbeats 1000000 in
theorem c_ref07_rising (l : List Int) (n : Int) (hl : l.length ≤ 9223372036854775807) : call T n_jointerref07_rising [.sl false (l.map i6), i6 n] = some (.v (.bool (bP (Rising l n)))) := by
  refine go_jointerref07_rising (by simp) ?_
  obtain ⟨R, hR, hF, hT⟩ := bP_spec (Rising l n)
  rw [hR]; clear hR
  simp
  refine wp_rounds (σ := Nat) (fun i e s => e 0 = .sl false (l.map i6) ∧ e 1 = i6 n ∧ e 5 = i6 i ∧ i ≤ l.length ∧ Hd (∀ j, j < i → ∀ (h : j < l.length), 0 ≤ l[j] ∧ l[j] < n ∧ ∀ (h0 : 0 < j), l[j - 1] < l[j])) (fun i => l.length - i) ?_ 0 _ _
    ⟨by simp, by simp, by simp, by omega, ⟨no_one⟩⟩
  rintro i e s ⟨e0, e1, e5, hi, hA⟩ ih
  simp [e0, e1, e5]
  refine wpC_split (fun q => ?_) (fun q => ?_) <;> (have q' := q; try simp at q') <;> (try simp [*])
  · have step : (0 ≤ l[i] ∧ l[i] < n ∧ ∀ (h0 : 0 < i), l[i - 1] < l[i]) → ∀ e' s', e' 0 = .sl false (l.map i6) → e' 1 = i6 n → e' 5 = i6 ((i + 1 : Nat) : Int) → wp T [.lp jointerref07_rising_l1, .bl 0, .code ((IC.ops jointerref07_rising_r6).seq IC.ret)] e' s' (fun e s => dpC s (e 4) = some (.v (.bool R))) :=
      fun hc e' s' x0 x1 x5 => ih.out (i + 1) _ _ ⟨x0, x1, x5, q', ⟨good_step hA.out (fun _ => hc)⟩⟩ (by omega)
    replace step := Hd.mk step
    have bad : ¬ (0 ≤ l[i] ∧ l[i] < n ∧ ∀ (h0 : 0 < i), l[i - 1] < l[i]) → R = false := fun h => hF.out (fun hh => h (hh i q'))
    replace bad := Hd.mk bad
    refine wpG_split (fun b1 => ?_) (fun b1 => ?_) <;> (have b1' := b1; try simp at b1') <;> (try simp [*])
    · exact bad.out (by omega)
    refine wpG_split (fun b2 => ?_) (fun b2 => ?_) <;> (have b2' := b2; try simp at b2') <;> (try simp [*])
    · exact bad.out (by omega)
    refine wpG_split (fun b3 => ?_) (fun b3 => ?_) <;> (have b3' := b3; try simp at b3') <;> (try simp [*])
    · have hp := wrap_pred q' hl b3'
      have hq : i - 1 < l.length := by omega
      simp [hp, hq]
      refine wpC_split (fun b4 => ?_) (fun b4 => ?_) <;> (have b4' := b4; try simp at b4') <;> (try simp [*])
      · exact bad.out (fun h => by have := h.2.2 b3'; omega)
      · exact step.out ⟨by omega, by omega, fun _ => by omega⟩ _ _ (by simp [e0]) (by simp [e1]) (by simp [e5, wrap_succ q' hl])
    · have hw : IntKind.i64.wrap 1 = 1 := by rw [wrap_in] <;> omega
      subst b3'
      exact step.out ⟨by omega, by omega, fun _ => by omega⟩ _ _ (by simp [e0]) (by simp [e1]) (by simp [e5, hw])
  · exact hT.out (fun j h => hA.out j (by omega) h)
set_option maxHeartbeats 1000000 in
theorem c_ref07_ValidColumn (c : ColD) (hc : c.small) : call T n_jointerref07_ValidColumn [c.enc] = some (.v (.bool (bP (ColOK c)))) := by
  refine go_jointerref07_ValidColumn (by simp) ?_
  have hn := c_ref02_IsName c.name hc
  obtain ⟨R, hR, hF, hT⟩ := bP_spec (ColOK c)
  rw [hR]; clear hR
  have hF' : Hd (¬ nameB c.name = true → R = false) := ⟨fun h => hF.out (fun hh => h hh.1)⟩
  have hK : Hd (c.kind = 1 → (c.lo ≤ c.hi → nameB c.name = true → R = true) ∧ (¬ c.lo ≤ c.hi → R = false)) := ⟨fun h => ⟨fun h1 h2 => hT.out ⟨h2, .inl ⟨h, h1⟩⟩, fun h1 => hF.out (fun hh => by have := hh.2; omega)⟩⟩
  have hL : Hd (c.kind = 2 → ((c.lo = 0 ∧ 0 ≤ c.hi ∧ c.hi ≤ 100) → nameB c.name = true → R = true) ∧ (¬ (c.lo = 0 ∧ 0 ≤ c.hi ∧ c.hi ≤ 100) → R = false)) := ⟨fun h => ⟨fun h1 h2 => hT.out ⟨h2, .inr (.inl ⟨h, h1⟩)⟩, fun h1 => hF.out (fun hh => by have := hh.2; omega)⟩⟩
  have hM : Hd (c.kind = 3 → ((c.lo = 0 ∧ c.hi = 0) → nameB c.name = true → R = true) ∧ (¬ (c.lo = 0 ∧ c.hi = 0) → R = false)) := ⟨fun h => ⟨fun h1 h2 => hT.out ⟨h2, .inr (.inr ⟨h, h1⟩)⟩, fun h1 => hF.out (fun hh => by have := hh.2; omega)⟩⟩
  have hN : Hd (¬ c.kind = 1 → ¬ c.kind = 2 → ¬ c.kind = 3 → R = false) := ⟨fun h1 h2 h3 => hF.out (fun hh => by have := hh.2; omega)⟩
  generalize nameB c.name = B at *
  clear hF hT
  simp [hn]
  cases B
  · simp [hF'.out]
  simp
  refine wpC_split (fun k1 => ?_) (fun k1 => ?_) <;> (have k1' := k1; try simp at k1') <;> (try simp [*])
  · by_cases h : c.lo ≤ c.hi
    · simp [h, (hK.out k1').1 h rfl]
    · simp [h, (hK.out k1').2 h]
  refine wpC_split (fun k2 => ?_) (fun k2 => ?_) <;> (have k2' := k2; try simp at k2') <;> (try simp [*])
  · have h1 := (hL.out k2').1
    have h2 := (hL.out k2').2
    by_cases a1 : c.lo = 0 <;> by_cases a2 : 0 ≤ c.hi <;> by_cases a3 : c.hi ≤ 100 <;> simp [a1, a2, a3] at h1 h2 ⊢ <;> simp [h1, h2]
  refine wpC_split (fun k3 => ?_) (fun k3 => ?_) <;> (have k3' := k3; try simp at k3') <;> (try simp [*])
  · have h1 := (hM.out k3').1
    have h2 := (hM.out k3').2
    by_cases a1 : c.lo = 0 <;> by_cases a2 : c.hi = 0 <;> simp [a1, a2] at h1 h2 ⊢ <;> simp [h1, h2]
  · exact hN.out k1' k2' k3'
def ColsOK (cols : List ColD) : Prop := cols.length ≤ 8 ∧ (∀ c ∈ cols, ColOK c) ∧ (cols.map (·.name.toList)).Nodup
set_option maxHeartbeats 2000000 in
theorem c_ref07_validColumns (cols : List ColD) (hc : ∀ c ∈ cols, c.small) : call T n_jointerref07_validColumns [.sl false (cols.map ColD.enc)] = some (.v (.bool (bP (ColsOK cols)))) := by
  refine go_jointerref07_validColumns (by simp) ?_
  obtain ⟨R, hR, hF, hT⟩ := bP_spec (ColsOK cols)
  rw [hR]; clear hR
  replace hc := Hd.mk hc
  simp
  refine wpC_split (fun a1 => ?_) (fun a1 => ?_) <;> (have a1' := a1; try simp at a1') <;> (try simp [*])
  · exact hF.out (fun h => by have := h.1; omega)
  have hl : cols.length ≤ 9223372036854775807 := by omega
  refine wp_rounds (σ := Nat) (fun i e s => e 0 = .sl false (cols.map ColD.enc) ∧ e 3 = i6 i ∧ i ≤ cols.length ∧ Hd (∀ j, j < i → ∀ (h : j < cols.length), ColOK cols[j]) ∧ Hd ((cols.take i).map (·.name.toList)).Nodup) (fun i => cols.length - i) ?_ 0 _ _
    ⟨by simp, by simp, by omega, ⟨no_one⟩, ⟨by simp⟩⟩
  rintro i e s ⟨e0, e3, hi, hA, hB⟩ ih
  simp [e0, e3]
  refine wpC_split (fun q => ?_) (fun q => ?_) <;> (have q' := q; try simp at q') <;> (try simp [*])
  · have hcol := c_ref07_ValidColumn cols[i] (hc.out _ (List.getElem_mem q'))
    simp [hcol, e0, e3]
    refine wpC_split (fun b1 => ?_) (fun b1 => ?_) <;> (have b1' := b1; try simp at b1') <;> (try simp [*])
    · exact hF.out (fun h => by rw [bP_false] at b1'; exact b1' (h.2.1 _ (List.getElem_mem q')))
    rw [bP_iff] at b1'
    replace b1' := Hd.mk b1'
    refine wp_rounds (σ := Nat) (fun j e s => e 0 = .sl false (cols.map ColD.enc) ∧ e 3 = i6 i ∧ e 4 = i6 j ∧ j ≤ i ∧ Hd (∀ m, m < j → ∀ (h : m < cols.length), ¬ cols[m].name.toList = cols[i].name.toList)) (fun j => i - j) ?_ 0 _ _
      ⟨by simp [e0], by simp [e3], by simp, by omega, ⟨no_one⟩⟩
    clear e0 e3
    rintro j e s ⟨e0, e3, e4, hj, hC⟩ jh
    simp [e0, e3, e4]
    refine wpC_split (fun v => ?_) (fun v => ?_) <;> (have v' := v; try simp at v') <;> (try simp [*])
    · have hjc : j < cols.length := by omega
      simp [hjc, q', e0, e3, e4]
      refine wpC_split (fun x => ?_) (fun x => ?_) <;> (have x' := x; try simp at x') <;> (try simp [*])
      · exact hF.out (fun h => nodup_bad (key := fun c : ColD => c.name.toList) q' ⟨cols[j], by rw [List.mem_take_iff_getElem]; exact ⟨j, by omega, rfl⟩, by simpa using x⟩ h.2.2)
      · refine jh.out (j + 1) _ _ ?_ (by omega)
        exact ⟨by simp [e0], by simp [e3], by simp [e4, wrap_succ v' (by omega : i ≤ 9223372036854775807)], by omega, ⟨good_step hC.out (fun _ => by simpa using x)⟩⟩
    · refine ih.out (i + 1) _ _ ?_ (by omega)
      refine ⟨by simp [e0], by simp [e3, wrap_succ q' hl], q', ⟨good_step hA.out (fun _ => b1'.out)⟩, ⟨nodup_step (key := fun c : ColD => c.name.toList) q' hB.out (fun b hb => ?_)⟩⟩
      obtain ⟨m, hm, rfl⟩ := List.getElem_of_mem hb
      rw [List.getElem_take]
      exact hC.out m (by simp at hm; omega) (by simp at hm; omega)
  · refine hT.out ⟨by omega, fun c hcm => ?_, ?_⟩
    · obtain ⟨j, hj, rfl⟩ := List.getElem_of_mem hcm
      exact hA.out j (by omega) hj
    · have := hB.out
      rwa [List.take_of_length_le q'] at this
set_option maxHeartbeats 8000000 in
theorem c_ref07_validRef (s : List TabD) (n : Nat) (r : RefD) (hn : n < s.length) (hb : ∀ b ∈ s.take n, KeysIn b) (hr : r.cols.length ≤ 9223372036854775807) :
    call T n_jointerref07_validRef [.sl false (s.map TabD.enc), i6 n, r.enc] = some (.v (.bool (bP (RefOK (s.take n) s[n] r)))) := by
  refine go_jointerref07_validRef (by simp) ?_
  obtain ⟨R, hR, hF, hT⟩ := bP_spec (RefOK (s.take n) s[n] r)
  rw [hR]; clear hR
  obtain ⟨cs, tb, ky⟩ := r
  simp only at hr
  have hlen : (s.take n).length = n := by simp; omega
  simp
  refine wpG_split (fun a1 => ?_) (fun a1 => ?_) <;> (have a1' := a1; try simp at a1') <;> (try simp [*])
  · exact hF.out (fun h => by have h1 : 0 ≤ tb := h.1; omega)
  refine wpG_split (fun a2 => ?_) (fun a2 => ?_) <;> (have a2' := a2; try simp at a2') <;> (try simp [*])
  · exact hF.out (fun h => by have h1 : tb < (s.take n).length := h.2.1; omega)
  obtain ⟨m, rfl⟩ := Int.eq_ofNat_of_zero_le a1'
  have hmn : m < n := by omega
  have hms : m < s.length := by omega
  have gb : (s.take n)[m]? = some s[m] := by simp [List.getElem?_take, hmn, hms]
  have hkin := hb s[m] (by rw [List.mem_take_iff_getElem]; exact ⟨m, by omega, rfl⟩)
  replace hF : Hd (¬ (0 ≤ ky ∧ ky < s[m].keys.length ∧ cs.Nodup ∧ ∀ k, s[m].keys[ky.toNat]? = some k → k.length = cs.length ∧
    ∀ (i : Nat) (h : i < cs.length), 0 ≤ cs[i] ∧ cs[i] < s[n].cols.length ∧ kindAt s[n].cols cs[i] = kindAt s[m].cols (k.getD i 0)) → R = false) :=
    ⟨fun h => hF.out (fun hh => h (hh.2.2 _ (by simpa using gb)))⟩
  replace hT : Hd ((0 ≤ ky ∧ ky < s[m].keys.length ∧ cs.Nodup ∧ ∀ k, s[m].keys[ky.toNat]? = some k → k.length = cs.length ∧
    ∀ (i : Nat) (h : i < cs.length), 0 ≤ cs[i] ∧ cs[i] < s[n].cols.length ∧ kindAt s[n].cols cs[i] = kindAt s[m].cols (k.getD i 0)) → R = true) :=
    ⟨fun h => hT.out ⟨a1', by show (m : Int) < (s.take n).length; omega, fun b hb => by
      have hb : (s.take n)[m]? = some b := by simpa using hb
      rw [gb] at hb; injection hb with hb; subst hb; exact h⟩⟩
  clear hb gb hlen
  refine wpG_split (fun a3 => ?_) (fun a3 => ?_) <;> (have a3' := a3; try simp at a3') <;> (try simp [*])
  · exact hF.out (fun h => by have h1 : 0 ≤ ky := h.1; omega)
  obtain ⟨k, rfl⟩ := Int.eq_ofNat_of_zero_le a3'
  try simp [hms]
  refine wpC_split (fun a4 => ?_) (fun a4 => ?_) <;> (have a4' := a4; try simp at a4') <;> (try simp [*])
  · exact hF.out (fun h => by have h1 := h.2.1; omega)
  have hmk : k < s[m].keys.length := by omega
  have gk : s[m].keys[k]? = some s[m].keys[k] := List.getElem?_eq_getElem hmk
  have hkc := hkin s[m].keys[k] (List.getElem_mem hmk)
  replace hF : Hd (¬ (cs.Nodup ∧ s[m].keys[k].length = cs.length ∧ ∀ (i : Nat) (h : i < cs.length), 0 ≤ cs[i] ∧ cs[i] < s[n].cols.length ∧ kindAt s[n].cols cs[i] = kindAt s[m].cols (s[m].keys[k].getD i 0)) → R = false) :=
    ⟨fun h => hF.out (fun hh => h ⟨hh.2.2.1, hh.2.2.2 _ (by simpa using gk)⟩)⟩
  replace hT : Hd ((cs.Nodup ∧ s[m].keys[k].length = cs.length ∧ ∀ (i : Nat) (h : i < cs.length), 0 ≤ cs[i] ∧ cs[i] < s[n].cols.length ∧ kindAt s[n].cols cs[i] = kindAt s[m].cols (s[m].keys[k].getD i 0)) → R = true) :=
    ⟨fun h => hT.out ⟨a3', by omega, h.1, fun k hk => by
      rename_i k0
      have hk : s[m].keys[k0]? = some k := by simpa using hk
      rw [gk] at hk; injection hk with hk; subst hk; exact h.2⟩⟩
  clear gk hkin
  try simp [hms, hmk]
  refine wpC_split (fun a6 => ?_) (fun a6 => ?_) <;> (have a6' := a6; try simp at a6') <;> (try simp [*])
  · exact hF.out (fun h => a6' h.2.1.symm)
  replace a6' := Hd.mk a6'
  replace hkc := Hd.mk hkc
  refine wp_rounds (σ := Nat) (fun i e w => e 0 = .sl false (s.map TabD.enc) ∧ e 1 = i6 n ∧ e 5 = .ptr 5 1 0 ∧ (∃ q, w 5 = ⟨1, true, some (.box (RefD.enc ⟨cs, m, k⟩)), q⟩) ∧ e 7 = keyX s[m].keys[k] ∧ e 8 = i6 i ∧ i ≤ cs.length ∧
      Hd (∀ j, j < i → ∀ (h : j < cs.length), 0 ≤ cs[j] ∧ cs[j] < s[n].cols.length ∧ kindAt s[n].cols cs[j] = kindAt s[m].cols (s[m].keys[k].getD j 0)) ∧ Hd (cs.take i).Nodup) (fun i => cs.length - i) ?_ 0 _ _
    ⟨by simp, by simp, by simp, ⟨_, by simp; rfl⟩, by simp [hmk], by simp, by omega, ⟨no_one⟩, ⟨by simp⟩⟩
  rintro i e w ⟨e0, e1, e5, ⟨n5, w5⟩, e7, e8, hi, hA, hB⟩ ih
  simp [e0, e1, e5, w5, e7, e8]
  refine wpC_split (fun q => ?_) (fun q => ?_) <;> (have q' := q; try simp at q') <;> (try simp [*])
  · have hik : i < s[m].keys[k].length := by have := a6'.out; omega
    have hgd : s[m].keys[k].getD i 0 = s[m].keys[k][i] := by simp [hik]
    have bad : ¬ (0 ≤ cs[i] ∧ cs[i] < s[n].cols.length ∧ kindAt s[n].cols cs[i] = kindAt s[m].cols (s[m].keys[k].getD i 0)) → R = false := fun h => hF.out (fun hh => h (hh.2.2 i q'))
    replace bad := Hd.mk bad
    have good : (0 ≤ cs[i] ∧ cs[i] < s[n].cols.length ∧ kindAt s[n].cols cs[i] = kindAt s[m].cols (s[m].keys[k].getD i 0)) → ∀ j, j < i + 1 → ∀ (h : j < cs.length), 0 ≤ cs[j] ∧ cs[j] < s[n].cols.length ∧ kindAt s[n].cols cs[j] = kindAt s[m].cols (s[m].keys[k].getD j 0) := fun hc => good_step hA.out (fun _ => hc)
    replace good := Hd.mk good
    rw [hgd] at bad good
    have hk1 := hkc.out _ (List.getElem_mem hik)
    obtain ⟨d, hd⟩ := Int.eq_ofNat_of_zero_le hk1.1
    have hdl : d < s[m].cols.length := by omega
    try simp [hn, q', e0, e1, e5, w5, e7, e8]
    refine wpG_split (fun b1 => ?_) (fun b1 => ?_) <;> (have b1' := b1; try simp at b1') <;> (try simp [*])
    · exact bad.out (by omega)
    try simp [hn, q', e0, e1, e5, w5, e7, e8]
    refine wpG_split (fun b2 => ?_) (fun b2 => ?_) <;> (have b2' := b2; try simp at b2') <;> (try simp [*])
    · exact bad.out (by omega)
    obtain ⟨c, hc⟩ := Int.eq_ofNat_of_zero_le b1'
    have hcl : c < s[n].cols.length := by omega
    have k1 : kindAt s[n].cols cs[i] = some s[n].cols[c].kind := by rw [hc]; simp [kindAt, hcl]
    have k2 : kindAt s[m].cols s[m].keys[k][i] = some s[m].cols[d].kind := by rw [hd]; simp [kindAt, hdl]
    rw [k1, k2] at bad good
    simp [hc]
    refine wpC_split (fun b3 => ?_) (fun b3 => ?_) <;> (have b3' := b3; try simp at b3') <;> (try simp [*])
    · exact bad.out (fun h => b3' (by have := h.2.2; simp at this; exact this))
    replace good := Hd.mk (good.out ⟨by omega, by omega, by rw [b3']⟩)
    refine wp_rounds (σ := Nat) (fun j e w => e 0 = .sl false (s.map TabD.enc) ∧ e 1 = i6 n ∧ e 5 = .ptr 5 1 0 ∧ (∃ q, w 5 = ⟨1, true, some (.box (RefD.enc ⟨cs, m, k⟩)), q⟩) ∧ e 7 = keyX s[m].keys[k] ∧ e 8 = i6 i ∧ e 9 = i6 j ∧ j ≤ i ∧ Hd (∀ q, q < j → ∀ (h : q < cs.length), ¬ cs[q] = cs[i])) (fun j => i - j) ?_ 0 _ _
      ⟨by simp [e0], by simp [e1], by simp [e5], ⟨n5, by simp [w5]⟩, by simp [e7], by simp [e8], by simp, by omega, ⟨no_one⟩⟩
    replace hc := Hd.mk hc
    clear hA bad e0 e1 e5 w5 e7 e8
    rintro j e w ⟨e0, e1, e5, ⟨n5, w5⟩, e7, e8, e9, hj, hC⟩ jh
    simp [e0, e1, e5, w5, e7, e8, e9]
    refine wpC_split (fun v => ?_) (fun v => ?_) <;> (have v' := v; try simp at v') <;> (try simp [*])
    · have hjc : j < cs.length := by omega
      simp [hjc, q', e0, e1, e5, w5, e7, e8, e9]
      refine wpC_split (fun x => ?_) (fun x => ?_) <;> (have x' := x; try simp at x') <;> (try simp [*])
      · exact hF.out (fun h => nodup_bad' q' ⟨cs[j], by rw [List.mem_take_iff_getElem]; exact ⟨j, by omega, rfl⟩, x'⟩ h.1)
      · refine jh.out (j + 1) _ _ ?_ (by omega)
        exact ⟨by simp [e0], by simp [e1], by simp [e5], ⟨n5, by simp [w5]⟩, by simp [e7], by simp [e8], by simp [e9, wrap_succ v' (by omega : i ≤ 9223372036854775807)], by omega, ⟨good_step hC.out (fun _ => x')⟩⟩
    · refine ih.out (i + 1) _ _ ?_ (by omega)
      refine ⟨by simp [e0], by simp [e1], by simp [e5], ⟨n5, by simp [w5]⟩, by simp [e7], by simp [e8, wrap_succ q' hr], q', good, ⟨nodup_step' q' hB.out (fun b hb => ?_)⟩⟩
      obtain ⟨q, hq, rfl⟩ := List.getElem_of_mem hb
      rw [List.getElem_take]
      exact hC.out q (by simp at hq; omega) (by simp at hq; omega)
  · have := hB.out
    rw [List.take_of_length_le q'] at this
    exact hT.out ⟨this, by have := a6'.out; omega, fun j h => hA.out j (by omega) h⟩
/-- What the reference asks of a table. -/
def TabR (s : List TabD) (n : Nat) (h : n < s.length) : Prop := TabOK (s.take n) s[n] ∧ ∀ (j : Nat) (h' : j < s.length), j < n → ¬ s[j].name.toList = s[n].name.toList
set_option maxHeartbeats 8000000 in
theorem c_ref07_validTable (s : List TabD) (n : Nat) (hn : n < s.length) (hb : ∀ b ∈ s.take n, KeysIn b) (ht : s[n].small) (hl : s.length ≤ 9223372036854775807) :
    call T n_jointerref07_validTable [.sl false (s.map TabD.enc), i6 n] = some (.v (.bool (bP (TabR s n hn)))) := by
  refine go_jointerref07_validTable (by simp) ?_
  obtain ⟨R, hR, hF, hT⟩ := bP_spec (TabR s n hn)
  rw [hR]; clear hR
  have f1 := c_ref02_IsName s[n].name ht.name
  have f2 := c_ref07_validColumns s[n].cols ht.cols.2
  replace ht := Hd.mk ht
  replace hb := Hd.mk hb
  simp [hn, f1]
  refine wpG_split (fun a1 => ?_) (fun a1 => ?_) <;> (have a1' := a1; try simp at a1') <;> (try simp [*])
  · exact hF.out (fun h => by have := h.1.1; rw [this] at a1'; simp at a1')
  try simp [f2]
  refine wpG_split (fun a2 => ?_) (fun a2 => ?_) <;> (have a2' := a2; try simp at a2') <;> (try simp [*])
  · exact hF.out (fun h => by rw [bP_false] at a2'; exact a2' ⟨h.1.2.1, h.1.2.2.2.2.2.2.1, h.1.2.2.2.2.2.1⟩)
  rw [bP_iff] at a2'
  replace a2' := Hd.mk a2'
  refine wpG_split (fun a3 => ?_) (fun a3 => ?_) <;> (have a3' := a3; try simp at a3') <;> (try simp [*])
  · exact hF.out (fun h => by have := h.1.2.2.1; omega)
  refine wpC_split (fun a4 => ?_) (fun a4 => ?_) <;> (have a4' := a4; try simp at a4') <;> (try simp [*])
  · exact hF.out (fun h => by have := h.1.2.2.2.1; omega)
  have hF1 : Hd ((∃ (j : Nat) (h' : j < s.length), j < n ∧ s[j].name.toList = s[n].name.toList) → R = false) := ⟨fun ⟨j, h', h1, h2⟩ => hF.out (fun hh => hh.2 j h' h1 h2)⟩
  have hF2 : Hd (¬ (∀ k ∈ s[n].keys, k ≠ [] ∧ Rising k s[n].cols.length) → R = false) := ⟨fun h => hF.out (fun hh => h hh.1.2.2.2.2.2.2.2.1)⟩
  have hF3 : Hd (¬ (∀ r ∈ s[n].refs, RefOK (s.take n) s[n] r) → R = false) := ⟨fun h => hF.out (fun hh => h hh.1.2.2.2.2.2.2.2.2)⟩
  have hRe : Hd ((∀ (j : Nat) (h' : j < s.length), j < n → ¬ s[j].name.toList = s[n].name.toList) → (∀ k ∈ s[n].keys, k ≠ [] ∧ Rising k s[n].cols.length) → (∀ r ∈ s[n].refs, RefOK (s.take n) s[n] r) → R = bP (Rising s[n].idx s[n].cols.length)) := ⟨fun h1 h2 h3 => by
    cases hr : bP (Rising s[n].idx s[n].cols.length)
    · exact hF.out (fun hh => bP_false.1 hr hh.1.2.2.2.2.1)
    · exact hT.out ⟨⟨a1', a2'.out.1, by omega, by omega, bP_iff.1 hr, a2'.out.2.2, a2'.out.2.1, h2, h3⟩, h1⟩⟩
  clear hF hT a1 a2 a3 a4 a3' a4'
  have hnl : n ≤ 9223372036854775807 := by omega
  refine wp_rounds (σ := Nat) (fun i e w => e 0 = .sl false (s.map TabD.enc) ∧ e 1 = i6 n ∧ e 5 = .ptr 5 1 0 ∧ (∃ q, w 5 = ⟨1, true, some (.box s[n].enc), q⟩) ∧ e 6 = i6 i ∧ i ≤ n ∧ Hd (∀ j, j < i → ∀ (h' : j < s.length), ¬ s[j].name.toList = s[n].name.toList)) (fun i => n - i) ?_ 0 _ _
    ⟨by simp, by simp, by simp, ⟨_, by simp; rfl⟩, by simp, by omega, ⟨no_one⟩⟩
  rintro i e w ⟨e0, e1, e5, ⟨n5, w5⟩, e6, hi, hA⟩ ih
  simp [e0, e1, e5, w5, e6]
  refine wpC_split (fun q => ?_) (fun q => ?_) <;> (have q' := q; try simp at q') <;> (try simp [*])
  · have his : i < s.length := by omega
    simp [his, e0, e1, e5, w5, e6]
    refine wpC_split (fun x => ?_) (fun x => ?_) <;> (have x' := x; try simp at x') <;> (try simp [*])
    · exact hF1.out ⟨i, his, q', by simpa using x⟩
    · refine ih.out (i + 1) _ _ ?_ (by omega)
      exact ⟨by simp [e0], by simp [e1], by simp [e5], ⟨n5, by simp [w5]⟩, by simp [e6, wrap_succ q' hnl], by omega, ⟨good_step hA.out (fun _ => by simpa using x)⟩⟩
  have hnm : Hd (∀ (j : Nat) (h' : j < s.length), j < n → ¬ s[j].name.toList = s[n].name.toList) := ⟨fun j h' hj => hA.out j (by omega) h'⟩
  clear hA ih hF1
  refine wp_rounds (σ := Nat) (fun i e w => e 0 = .sl false (s.map TabD.enc) ∧ e 1 = i6 n ∧ e 5 = .ptr 5 1 0 ∧ (∃ q, w 5 = ⟨1, true, some (.box s[n].enc), q⟩) ∧ e 7 = i6 i ∧ i ≤ s[n].keys.length ∧ Hd (∀ j, j < i → ∀ (h' : j < s[n].keys.length), s[n].keys[j] ≠ [] ∧ Rising s[n].keys[j] s[n].cols.length)) (fun i => s[n].keys.length - i) ?_ 0 _ _
    ⟨by simp [e0], by simp [e1], by simp [e5], ⟨n5, by simp [w5]⟩, by simp, by omega, ⟨no_one⟩⟩
  clear e0 e1 e5 w5 e6
  rintro i e w ⟨e0, e1, e5, ⟨n5, w5⟩, e7, hi, hA⟩ ih
  simp [e0, e1, e5, w5, e7]
  refine wpC_split (fun q => ?_) (fun q => ?_) <;> (have q' := q; try simp at q') <;> (try simp [*])
  · have hc := c_ref07_rising s[n].keys[i] s[n].cols.length (ht.out.keys.2 _ (List.getElem_mem q'))
    try simp [e0, e1, e5, w5, e7, q', hc]
    refine wpG_split (fun b0 => ?_) (fun b0 => ?_) <;> (have b0' := b0; try simp at b0') <;> (try simp [*])
    · exact hF2.out (fun h => (h _ (List.getElem_mem q')).1 (by simpa using b0'))
    try simp [e0, e1, e5, w5, e7, q', hc]
    refine wpC_split (fun b1 => ?_) (fun b1 => ?_) <;> (have b1' := b1; try simp at b1') <;> (try simp [*])
    · exact hF2.out (fun h => by rw [bP_false] at b1'; exact b1' (h _ (List.getElem_mem q')).2)
    · rw [bP_iff] at b1'
      refine ih.out (i + 1) _ _ ?_ (by omega)
      exact ⟨by simp [e0], by simp [e1], by simp [e5], ⟨n5, by simp [w5]⟩, by simp [e7, wrap_succ q' ht.out.keys.1], q', ⟨good_step hA.out (fun _ => ⟨by simpa using b0', b1'⟩)⟩⟩
  have hks : Hd (∀ k ∈ s[n].keys, k ≠ [] ∧ Rising k s[n].cols.length) := ⟨fun k hk => by
    obtain ⟨j, hj, rfl⟩ := List.getElem_of_mem hk
    exact hA.out j (by omega) hj⟩
  clear hA ih hF2
  refine wp_rounds (σ := Nat) (fun i e w => e 0 = .sl false (s.map TabD.enc) ∧ e 1 = i6 n ∧ e 5 = .ptr 5 1 0 ∧ (∃ q, w 5 = ⟨1, true, some (.box s[n].enc), q⟩) ∧ e 8 = i6 i ∧ i ≤ s[n].refs.length ∧ Hd (∀ j, j < i → ∀ (h' : j < s[n].refs.length), RefOK (s.take n) s[n] s[n].refs[j])) (fun i => s[n].refs.length - i) ?_ 0 _ _
    ⟨by simp [e0], by simp [e1], by simp [e5], ⟨n5, by simp [w5]⟩, by simp, by omega, ⟨no_one⟩⟩
  clear e0 e1 e5 w5 e7
  rintro i e w ⟨e0, e1, e5, ⟨n5, w5⟩, e8, hi, hA⟩ ih
  simp [e0, e1, e5, w5, e8]
  refine wpC_split (fun q => ?_) (fun q => ?_) <;> (have q' := q; try simp at q') <;> (try simp [*])
  · have hc := c_ref07_validRef s n s[n].refs[i] hn hb.out (ht.out.refs.2 _ (List.getElem_mem q'))
    try simp [e0, e1, e5, w5, e8, q', hc]
    refine wpC_split (fun b1 => ?_) (fun b1 => ?_) <;> (have b1' := b1; try simp at b1') <;> (try simp [*])
    · exact hF3.out (fun h => by rw [bP_false] at b1'; exact b1' (h _ (List.getElem_mem q')))
    · rw [bP_iff] at b1'
      refine ih.out (i + 1) _ _ ?_ (by omega)
      exact ⟨by simp [e0], by simp [e1], by simp [e5], ⟨n5, by simp [w5]⟩, by simp [e8, wrap_succ q' ht.out.refs.1], q', ⟨good_step hA.out (fun _ => b1')⟩⟩
  have hrs : ∀ r ∈ s[n].refs, RefOK (s.take n) s[n] r := fun k hk => by
    obtain ⟨j, hj, rfl⟩ := List.getElem_of_mem hk
    exact hA.out j (by omega) hj
  rw [hRe.out hnm.out hks.out hrs]
  have hx := c_ref07_rising s[n].idx s[n].cols.length ht.out.idx
  simp [e5, w5, hx]
set_option maxHeartbeats 2000000 in
theorem c_ref07_Valid (s : List TabD) (hs : schemeSmall s) : call T n_jointerref07_Valid [.sl false (s.map TabD.enc)] = some (.v (.bool (bP (SchemeOK s)))) := by
  refine go_jointerref07_Valid (by simp) ?_
  obtain ⟨R, hR, hF, hT⟩ := bP_spec (SchemeOK s)
  rw [hR]; clear hR
  simp
  refine wpC_split (fun a1 => ?_) (fun a1 => ?_) <;> (have a1' := a1; try simp at a1') <;> (try simp [*])
  · exact hF.out (fun h => by have := h.1; omega)
  have hl := hs.1
  replace hs := Hd.mk hs.2
  refine wp_rounds (σ := Nat) (fun i e w => e 0 = .sl false (s.map TabD.enc) ∧ e 3 = i6 i ∧ i ≤ s.length ∧ Hd (∀ j, j < i → ∀ (h : j < s.length), TabOK (s.take j) s[j]) ∧ Hd ((s.take i).map (·.name.toList)).Nodup) (fun i => s.length - i) ?_ 0 _ _
    ⟨by simp, by simp, by omega, ⟨no_one⟩, ⟨by simp⟩⟩
  rintro i e w ⟨e0, e3, hi, hA, hB⟩ ih
  simp [e0, e3]
  refine wpC_split (fun q => ?_) (fun q => ?_) <;> (have q' := q; try simp at q') <;> (try simp [*])
  · have hb : ∀ b ∈ s.take i, KeysIn b := fun b hb => by
      obtain ⟨j, hj, rfl⟩ := List.getElem_of_mem hb
      rw [List.getElem_take]
      exact (hA.out j (by simp at hj; omega) (by simp at hj; omega)).keys
    have hc := c_ref07_validTable s i q' hb (hs.out _ (List.getElem_mem q')) hl
    simp [hc, e0, e3]
    refine wpC_split (fun b1 => ?_) (fun b1 => ?_) <;> (have b1' := b1; try simp at b1') <;> (try simp [*])
    · refine hF.out (fun h => ?_)
      rw [bP_false] at b1'
      refine b1' ⟨h.2.2 i q', fun j h' hj he => ?_⟩
      exact nodup_bad (key := fun t : TabD => t.name.toList) q' ⟨s[j], by rw [List.mem_take_iff_getElem]; exact ⟨j, by omega, rfl⟩, he⟩ h.2.1
    · rw [bP_iff] at b1'
      refine ih.out (i + 1) _ _ ?_ (by omega)
      refine ⟨by simp [e0], by simp [e3, wrap_succ q' hl], q', ⟨good_step hA.out (fun _ => b1'.1)⟩, ⟨nodup_step (key := fun t : TabD => t.name.toList) q' hB.out (fun b hb => ?_)⟩⟩
      obtain ⟨j, hj, rfl⟩ := List.getElem_of_mem hb
      rw [List.getElem_take]
      exact b1'.2 j (by simp at hj; omega) (by simp at hj; omega)
  · have := hB.out
    rw [List.take_of_length_le q'] at this
    exact hT.out ⟨by omega, this, fun n h => hA.out n (by omega) h⟩
end Go.Proofs.YtoodknhlnifnlaaGreatDoor
