/- The reference's tight table (seat ZD's table). -/
import Derived.Test.YtoodknhlnifnlaaGreatDoorHi
import Derived.Test.YtoodknhlnifnlaaGreatDoorVl
set_option linter.all false
set_option linter.unusedVariables false
set_option linter.unusedSimpArgs false
set_option maxRecDepth 100000
namespace Go.Proofs.YtoodknhlnifnlaaGreatDoor
open Go.RowKit
/-- A column is a key alone. -/
def Alone (keys : List (List Int)) (i : Nat) : Prop := ∃ k ∈ keys, k.length = 1 ∧ (k.headD 0).toNat = i
theorem oneC_one (c : Col) : oneC (oneC c) = oneC c := by simp only [oneC]; congr 1; omega
open Classical in
theorem keysC_exact : ∀ (keys : List (List Int)) (cols : List Col) (i : Nat) (h : i < (keys.foldl keyC cols).length) (h' : i < cols.length),
    (keys.foldl keyC cols)[i] = if Alone keys i then oneC cols[i] else cols[i]
  | [], cols, i, h, h' => by rw [if_neg (by rintro ⟨k, hk, _⟩; simp at hk)]; rfl
  | k :: keys, cols, i, h, h' => by
    have hl : i < (keyC cols k).length := by rw [keyC_len]; exact h'
    have ih := keysC_exact keys (keyC cols k) i h hl
    rw [show (List.foldl keyC cols (k :: keys))[i] = _ from ih]
    by_cases h1 : k.length = 1 ∧ (k.headD 0).toNat = i
    · have hb : (keyC cols k)[i] = oneC cols[i] := by simp only [keyC, h1.1, if_pos, List.getElem_modify, h1.2]
      rw [hb, if_pos (show Alone (k :: keys) i from ⟨k, by simp, h1⟩), oneC_one]
      split <;> rfl
    · have hb : (keyC cols k)[i] = cols[i] := by
        by_cases h2 : k.length = 1
        · have h3 : ¬ (k.headD 0).toNat = i := fun q => h1 ⟨h2, q⟩
          simp only [keyC, h2, if_pos, List.getElem_modify, h3, if_false]
        · simp only [keyC, h2, if_false]
      rw [hb]
      by_cases h2 : Alone keys i
      · obtain ⟨q, hq, hq'⟩ := h2
        rw [if_pos ⟨q, hq, hq'⟩, if_pos (show Alone (k :: keys) i from ⟨q, by simp [hq], hq'⟩)]
      · rw [if_neg h2, if_neg]
        rintro ⟨q, hq, hq'⟩
        rcases List.mem_cons.1 hq with rfl | hq
        · exact h1 hq'
        · exact h2 ⟨q, hq, hq'⟩
set_option maxHeartbeats 1000000 in
theorem c_ref19_alone (t : TabD) (i : Nat) (hk : KeysIn t) (hkl : t.keys.length ≤ 9223372036854775807) : call T n_jointerref19_alone [t.enc, i6 i] = some (.v (.bool (bP (Alone t.keys i)))) := by
  refine go_jointerref19_alone (by simp) ?_
  obtain ⟨R, hR, hF, hT⟩ := bP_spec (Alone t.keys i)
  rw [hR]; clear hR
  replace hk := Hd.mk hk
  simp
  refine wp_rounds (σ := Nat) (fun j e s => e 1 = i6 i ∧ e 2 = .ptr 2 1 0 ∧ (∃ n, s 2 = ⟨1, true, some (.box t.enc), n⟩) ∧ e 5 = i6 j ∧ j ≤ t.keys.length ∧
      Hd (∀ m, m < j → ∀ (h : m < t.keys.length), ¬ (t.keys[m].length = 1 ∧ (t.keys[m].headD 0).toNat = i))) (fun j => t.keys.length - j) ?_ 0 _ _
    ⟨by simp, by simp, ⟨_, by simp; rfl⟩, by simp, by omega, ⟨no_one⟩⟩
  rintro j e s ⟨e1, e2, ⟨n2, s2⟩, e5, hj, hA⟩ jh
  simp [e1, e2, s2, e5]
  refine wpC_split (fun q => ?_) (fun q => ?_) <;> (have q' := q; try simp at q') <;> (try simp [*])
  · have hkk : ∀ c ∈ t.keys[j], 0 ≤ c ∧ c < (t.cols.length : Int) := hk.out _ (List.getElem_mem q')
    have good : ¬ (t.keys[j].length = 1 ∧ (t.keys[j].headD 0).toNat = i) → ∀ m, m < j + 1 → ∀ (h : m < t.keys.length), ¬ (t.keys[m].length = 1 ∧ (t.keys[m].headD 0).toNat = i) := fun hc => good_step hA.out (fun _ => hc)
    have found : t.keys[j].length = 1 ∧ (t.keys[j].headD 0).toNat = i → R = true := fun hc => hT.out ⟨_, List.getElem_mem q', hc⟩
    replace good := Hd.mk good
    replace found := Hd.mk found
    replace hkk := Hd.mk hkk
    clear hA
    have hkj : t.keys[j]? = some t.keys[j] := List.getElem?_eq_getElem q'
    generalize hg : t.keys[j] = key at good found hkk hkj
    replace hg := Hd.mk hg
    replace hkj := Hd.mk hkj
    by_cases hk1 : key.length = 1
    · obtain ⟨c, rfl⟩ := List.length_eq_one_iff.1 hk1
      obtain ⟨c1, _⟩ := hkk.out c (by simp)
      obtain ⟨m, rfl⟩ : ∃ m : Nat, c = m := ⟨c.toNat, by omega⟩
      have good' : ¬ m = i → ∀ m, m < j + 1 → ∀ (h : m < t.keys.length), ¬ (t.keys[m].length = 1 ∧ (t.keys[m].headD 0).toNat = i) := fun hc => good.out (fun hh => hc (by simpa using hh.2))
      have found' : m = i → R = true := fun hc => found.out ⟨rfl, by simpa using hc⟩
      replace good' := Hd.mk good'
      replace found' := Hd.mk found'
      clear hk1 c1
      simp [hg.out, e1, e2, s2, e5, q']
      refine wpC_split (fun b => ?_) (fun b => ?_) <;> (have b' := b; try simp at b') <;> (try simp [*])
      · exact found'.out b'
      · exact jh.out (j + 1) _ _ ⟨by simp [e1], by simp [e2], ⟨n2, s2⟩, by simp [e5, wrap_succ q' hkl], q', ⟨good'.out b'⟩⟩ (by omega)
    · have hk2 : ¬ (key.length : Int) = 1 := by omega
      have good' := Hd.mk (good.out (fun hh => hk1 hh.1))
      simp [hk1, hk2, e1, e2, s2, e5]
      exact jh.out (j + 1) _ _ ⟨by simp [e1], by simp [e2], ⟨n2, s2⟩, by simp [e5, wrap_succ q' hkl], q', good'⟩ (by omega)
  · exact hF.out (fun ⟨k, hm, h1⟩ => by
      obtain ⟨m, hm', rfl⟩ := List.getElem_of_mem hm
      exact hA.out m (by omega) hm' h1)
theorem SlAt.of' {s : Sto} {lo hi k o g m : Nat} {es : List X} (h0 : es ≠ []) (hm : m = es.length) (h : ∃ n, s o = ⟨g, true, some (.row k es), n⟩) (h1 : lo ≤ o ∧ o < hi) : SlAt s lo hi k (.ref o g k 0 m) es := by
  obtain ⟨n, h⟩ := h
  subst hm
  exact .inr ⟨h0, o, g, n, rfl, h, h1.1, h1.2⟩
set_option maxHeartbeats 4000000 in
theorem c_ref19_tightTable (t : TabD) (d : TS) (hld : d.cols.length = t.cols.length) (hl : t.cols.length ≤ 8) (hk : KeysIn t) (hkl : t.keys.length ≤ 9223372036854775807) (hok : okT (kindsT t) (tightU t d)) :
    call T n_jointerref19_tightTable [t.enc, .agg [i6 d.low, i6 d.rows, .sl false (d.cols.map Col.enc)]] = some ((tightT t d).enc true) := by
  refine go_jointerref19_tightTable (by simp) ?_
  have hul : (tightU t d).cols.length = t.cols.length := by
    show (t.keys.foldl keyC (List.zipWith tightC t.cols d.cols)).length = _
    rw [keysC_len, List.length_zipWith]; omega
  have hug : Hd (∀ (i : Nat) (h : i < (tightU t d).cols.length) (h1 : i < t.cols.length) (h2 : i < d.cols.length), (tightU t d).cols[i] = if bP (Alone t.keys i) = true then oneC (tightC t.cols[i] d.cols[i]) else tightC t.cols[i] d.cols[i]) := ⟨fun i h h1 h2 => by
    have hz : i < (List.zipWith tightC t.cols d.cols).length := by rw [List.length_zipWith]; omega
    have := keysC_exact t.keys (List.zipWith tightC t.cols d.cols) i h hz
    rw [List.getElem_zipWith] at this
    refine Eq.trans this ?_
    by_cases ha : Alone t.keys i
    · rw [if_pos ha, if_pos (bP_iff.2 ha)]
    · rw [if_neg ha, if_neg (fun hb => ha (bP_iff.1 hb))]⟩
  have hR : Hd (tightT t d = normT (kindsT t) (tightU t d)) := ⟨rfl⟩
  have hlow : (tightU t d).low = d.low := rfl
  have hrow : (tightU t d).rows = min d.rows 1000 := rfl
  generalize tightT t d = R at *
  generalize tightU t d = U at *
  replace hul := Hd.mk hul
  replace hld := Hd.mk hld
  have hal := fun i => c_ref19_alone t i hk hkl
  replace hal := Hd.mk hal
  clear hk
  simp
  refine wp_rounds (σ := Nat) (fun i e s => e 2 = .ptr 2 1 0 ∧ (∃ n, s 2 = ⟨1, true, some (.box t.enc), n⟩) ∧ e 3 = .ptr 3 1 0 ∧ (∃ n, s 3 = ⟨1, true, some (.box (d.enc false)), n⟩) ∧ e 4 = .ptr 4 1 0 ∧ (∃ n, s 4 = ⟨1, true, some (.box (.agg [i6 0, i6 0, .nil])), n⟩) ∧
      (∃ x, SlAt s 91 92 5 x ((U.cols.take i).map Col.enc) ∧ e 5 = .ptr 5 1 0 ∧ ∃ n, s 5 = ⟨1, true, some (.box (.agg [i6 d.low, i6 (min d.rows 1000), x])), n⟩) ∧ e 6 = i6 i ∧ i ≤ t.cols.length) (fun i => t.cols.length - i) ?_ 0 _ _
    ⟨by simp, so_mk (by simp) (by simp) (by simp), by simp, so_mk (by simp) (by simp) (by simp), by simp, so_mk (by simp) (by simp) (by simp), ⟨.nil, .inl ⟨by simp, rfl⟩, by simp, so_mk (by simp) (by simp) (by simp)⟩, by simp, by omega⟩
  rintro i e s ⟨e2, ⟨n2, s2⟩, e3, ⟨n3, s3⟩, e4, ⟨n4, s4⟩, ⟨x, hx, e5, n5, s5⟩, e6, hi⟩ ih
  simp [e2, e3, e4, e5, e6, s2, s3, s4, s5]
  refine wpC_split (fun q => ?_) (fun q => ?_) <;> (have q' := q; try simp at q') <;> (try simp [*])
  · have hid : i < d.cols.length := by rw [hld.out]; exact q'
    have hiu : i < U.cols.length := by rw [hul.out]; exact q'
    have hy := hug.out i hiu q' hid
    have fa := hal.out i
    have hd1 : U.cols.take (i + 1) = U.cols.take i ++ [U.cols[i]] := List.take_succ_eq_append_getElem hiu
    have hdl : (U.cols.take i).length = i := by rw [List.length_take]; omega
    have fin : ∀ (e' : Env) (s' : Sto), e' 2 = .ptr 2 1 0 → (∃ n, s' 2 = ⟨1, true, some (.box t.enc), n⟩) → e' 3 = .ptr 3 1 0 → (∃ n, s' 3 = ⟨1, true, some (.box (d.enc false)), n⟩) → e' 4 = .ptr 4 1 0 → (∃ n, s' 4 = ⟨1, true, some (.box (.agg [i6 0, i6 0, .nil])), n⟩) →
        e' 5 = .ptr 5 1 0 → (∃ n, s' 5 = ⟨1, true, some (.box (.agg [i6 d.low, i6 (min d.rows 1000), x])), n⟩) → s' 91 = s 91 → e' 6 = i6 i → (∃ g, e' 7 = .ptr 7 g 0 ∧ ∃ n, s' 7 = ⟨g, true, some (.box (U.cols[i]).enc), n⟩) →
        wp T [It.code (IC.ops jointerref19_tightTable_r15), It.bl 1, It.code (IC.ops jointerref19_tightTable_r4), It.lp jointerref19_tightTable_l1, It.bl 0, It.code ((IC.dops [] [] jointerref19_tightTable_r16 jointerref19_tightTable_r16t).seq IC.ret)] e' s' (fun e s => (match ldX s (e 4) 3 true with
          | some x => dpC s x
          | none => none) = some (R.enc true)) := by
      intro e' s' y2 ⟨m2, z2⟩ y3 ⟨m3, z3⟩ y4 ⟨m4, z4⟩ y5 ⟨m5, z5⟩ z91 y6 ⟨g7, y7, m7, z7⟩
      have hx' : SlAt s' 91 92 5 x ((U.cols.take i).map Col.enc) := by
        rcases hx with ⟨h0, rfl⟩ | ⟨h0, o, g, n, rfl, h, h1, h2⟩
        · exact .inl ⟨h0, rfl⟩
        · obtain rfl : o = 91 := by omega
          exact .inr ⟨h0, 91, g, n, rfl, by rw [z91]; exact h, h1, h2⟩
      clear hx z91 fa hy
      replace hd1 := Hd.mk hd1
      generalize U.cols.take i = D at hx' hd1 hdl
      generalize U.cols[i] = y at z7 hd1
      rcases hx' with ⟨h0, rfl⟩ | ⟨h0, o, g, n, rfl, h, h1, h2⟩
      · have hD : D = [] := by simpa using h0
        have hi0 : i = 0 := by rw [← hdl, hD]; rfl
        subst hD
        subst hi0
        simp [y2, z2, y3, z3, y4, z4, y5, z5, y6, y7, z7]
        refine ih.out 1 _ _ ⟨by simp [y2], so_mk (by simp [z2]) (by simp [z2]) (by simp [z2]), by simp [y3], so_mk (by simp [z3]) (by simp [z3]) (by simp [z3]), by simp [y4], so_mk (by simp [z4]) (by simp [z4]) (by simp [z4]), ⟨.ref 91 ((s' 91).g + 1) 5 0 1, ?_, by simp [y5], so_mk (by simp [z5]) (by simp [z5]) (by simp [z5])⟩, by simp [y6, show IntKind.i64.wrap 1 = 1 by rw [wrap_in] <;> omega], q'⟩ (by omega)
        rw [show (1 : Nat) = 0 + 1 from rfl, hd1.out]
        exact SlAt.of' (by simp) (by simp) (so_mk (by simp) (by simp) (by simp)) (by omega)
      · obtain rfl : o = 91 := by omega
        simp [y2, z2, y3, z3, y4, z4, y5, z5, y6, y7, z7, h, show D.length ≤ 3518437208882 by omega]
        refine ih.out (i + 1) _ _ ⟨by simp [y2], so_mk (by simp [z2]) (by simp [z2]) (by simp [z2]), by simp [y3], so_mk (by simp [z3]) (by simp [z3]) (by simp [z3]), by simp [y4], so_mk (by simp [z4]) (by simp [z4]) (by simp [z4]), ⟨.ref 91 (g + 1) 5 0 (i + 1), ?_, by simp [y5], so_mk (by simp [z5]) (by simp [z5]) (by simp [z5, hdl])⟩, by simp [y6, wrap_succ q' (by omega : t.cols.length ≤ 9223372036854775807)], q'⟩ (by omega)
        rw [hd1.out]
        exact SlAt.of' (by simp) (by simp [hdl]) (so_mk (by simp [h]) (by simp) (by simp)) (by omega)
    replace fin := Hd.mk fin
    replace hy := Hd.mk hy
    clear ih hx hug hal
    generalize IC.ops jointerref19_tightTable_r15 = K at fin ⊢
    cases hnn : t.cols[i].nn
    · by_cases k1 : t.cols[i].kind = 1
      · cases hA : bP (Alone t.keys i)
        · rw [hA] at fa
          simp [hid, e2, e3, e4, e5, e6, s2, s3, s4, s5, q', fa, hA, hnn, k1]
          exact fin.out _ _ (by simp [e2]) (so_mk (by simp [s2]) (by simp [s2]) (by simp [s2])) (by simp [e3]) (so_mk (by simp [s3]) (by simp [s3]) (by simp [s3])) (by simp [e4]) (so_mk (by simp [s4]) (by simp [s4]) (by simp [s4])) (by simp [e5]) (so_mk (by simp [s5]) (by simp [s5]) (by simp [s5])) (by simp) (by simp [e6]) ⟨_, by simp; rfl, so_mk (by simp) (by simp) (by simp [hy.out, hA, tightC, oneC, hnn, k1])⟩
        · rw [hA] at fa
          simp [hid, e2, e3, e4, e5, e6, s2, s3, s4, s5, q', fa, hA, hnn, k1]
          exact fin.out _ _ (by simp [e2]) (so_mk (by simp [s2]) (by simp [s2]) (by simp [s2])) (by simp [e3]) (so_mk (by simp [s3]) (by simp [s3]) (by simp [s3])) (by simp [e4]) (so_mk (by simp [s4]) (by simp [s4]) (by simp [s4])) (by simp [e5]) (so_mk (by simp [s5]) (by simp [s5]) (by simp [s5])) (by simp) (by simp [e6]) ⟨_, by simp; rfl, so_mk (by simp) (by simp) (by simp [hy.out, hA, tightC, oneC, hnn, k1])⟩
      · by_cases k2 : t.cols[i].kind = 2
        · by_cases k3 : t.cols[i].hi = 0
          · cases hA : bP (Alone t.keys i)
            · rw [hA] at fa
              simp [hid, e2, e3, e4, e5, e6, s2, s3, s4, s5, q', fa, hA, hnn, k2, k3]
              exact fin.out _ _ (by simp [e2]) (so_mk (by simp [s2]) (by simp [s2]) (by simp [s2])) (by simp [e3]) (so_mk (by simp [s3]) (by simp [s3]) (by simp [s3])) (by simp [e4]) (so_mk (by simp [s4]) (by simp [s4]) (by simp [s4])) (by simp [e5]) (so_mk (by simp [s5]) (by simp [s5]) (by simp [s5])) (by simp) (by simp [e6]) ⟨_, by simp; rfl, so_mk (by simp) (by simp) (by simp [hy.out, hA, tightC, oneC, hnn, k2, k3])⟩
            · rw [hA] at fa
              simp [hid, e2, e3, e4, e5, e6, s2, s3, s4, s5, q', fa, hA, hnn, k2, k3]
              exact fin.out _ _ (by simp [e2]) (so_mk (by simp [s2]) (by simp [s2]) (by simp [s2])) (by simp [e3]) (so_mk (by simp [s3]) (by simp [s3]) (by simp [s3])) (by simp [e4]) (so_mk (by simp [s4]) (by simp [s4]) (by simp [s4])) (by simp [e5]) (so_mk (by simp [s5]) (by simp [s5]) (by simp [s5])) (by simp) (by simp [e6]) ⟨_, by simp; rfl, so_mk (by simp) (by simp) (by simp [hy.out, hA, tightC, oneC, hnn, k2, k3])⟩
          · cases hA : bP (Alone t.keys i)
            · rw [hA] at fa
              simp [hid, e2, e3, e4, e5, e6, s2, s3, s4, s5, q', fa, hA, hnn, k2, k3]
              exact fin.out _ _ (by simp [e2]) (so_mk (by simp [s2]) (by simp [s2]) (by simp [s2])) (by simp [e3]) (so_mk (by simp [s3]) (by simp [s3]) (by simp [s3])) (by simp [e4]) (so_mk (by simp [s4]) (by simp [s4]) (by simp [s4])) (by simp [e5]) (so_mk (by simp [s5]) (by simp [s5]) (by simp [s5])) (by simp) (by simp [e6]) ⟨_, by simp; rfl, so_mk (by simp) (by simp) (by simp [hy.out, hA, tightC, oneC, hnn, k2, k3])⟩
            · rw [hA] at fa
              simp [hid, e2, e3, e4, e5, e6, s2, s3, s4, s5, q', fa, hA, hnn, k2, k3]
              exact fin.out _ _ (by simp [e2]) (so_mk (by simp [s2]) (by simp [s2]) (by simp [s2])) (by simp [e3]) (so_mk (by simp [s3]) (by simp [s3]) (by simp [s3])) (by simp [e4]) (so_mk (by simp [s4]) (by simp [s4]) (by simp [s4])) (by simp [e5]) (so_mk (by simp [s5]) (by simp [s5]) (by simp [s5])) (by simp) (by simp [e6]) ⟨_, by simp; rfl, so_mk (by simp) (by simp) (by simp [hy.out, hA, tightC, oneC, hnn, k2, k3])⟩
        · cases hA : bP (Alone t.keys i)
          · rw [hA] at fa
            simp [hid, e2, e3, e4, e5, e6, s2, s3, s4, s5, q', fa, hA, hnn, k1, k2]
            exact fin.out _ _ (by simp [e2]) (so_mk (by simp [s2]) (by simp [s2]) (by simp [s2])) (by simp [e3]) (so_mk (by simp [s3]) (by simp [s3]) (by simp [s3])) (by simp [e4]) (so_mk (by simp [s4]) (by simp [s4]) (by simp [s4])) (by simp [e5]) (so_mk (by simp [s5]) (by simp [s5]) (by simp [s5])) (by simp) (by simp [e6]) ⟨_, by simp; rfl, so_mk (by simp) (by simp) (by simp [hy.out, hA, tightC, oneC, hnn, k1, k2])⟩
          · rw [hA] at fa
            simp [hid, e2, e3, e4, e5, e6, s2, s3, s4, s5, q', fa, hA, hnn, k1, k2]
            exact fin.out _ _ (by simp [e2]) (so_mk (by simp [s2]) (by simp [s2]) (by simp [s2])) (by simp [e3]) (so_mk (by simp [s3]) (by simp [s3]) (by simp [s3])) (by simp [e4]) (so_mk (by simp [s4]) (by simp [s4]) (by simp [s4])) (by simp [e5]) (so_mk (by simp [s5]) (by simp [s5]) (by simp [s5])) (by simp) (by simp [e6]) ⟨_, by simp; rfl, so_mk (by simp) (by simp) (by simp [hy.out, hA, tightC, oneC, hnn, k1, k2])⟩
    · by_cases k1 : t.cols[i].kind = 1
      · cases hA : bP (Alone t.keys i)
        · rw [hA] at fa
          simp [hid, e2, e3, e4, e5, e6, s2, s3, s4, s5, q', fa, hA, hnn, k1]
          exact fin.out _ _ (by simp [e2]) (so_mk (by simp [s2]) (by simp [s2]) (by simp [s2])) (by simp [e3]) (so_mk (by simp [s3]) (by simp [s3]) (by simp [s3])) (by simp [e4]) (so_mk (by simp [s4]) (by simp [s4]) (by simp [s4])) (by simp [e5]) (so_mk (by simp [s5]) (by simp [s5]) (by simp [s5])) (by simp) (by simp [e6]) ⟨_, by simp; rfl, so_mk (by simp) (by simp) (by simp [hy.out, hA, tightC, oneC, hnn, k1])⟩
        · rw [hA] at fa
          simp [hid, e2, e3, e4, e5, e6, s2, s3, s4, s5, q', fa, hA, hnn, k1]
          exact fin.out _ _ (by simp [e2]) (so_mk (by simp [s2]) (by simp [s2]) (by simp [s2])) (by simp [e3]) (so_mk (by simp [s3]) (by simp [s3]) (by simp [s3])) (by simp [e4]) (so_mk (by simp [s4]) (by simp [s4]) (by simp [s4])) (by simp [e5]) (so_mk (by simp [s5]) (by simp [s5]) (by simp [s5])) (by simp) (by simp [e6]) ⟨_, by simp; rfl, so_mk (by simp) (by simp) (by simp [hy.out, hA, tightC, oneC, hnn, k1])⟩
      · by_cases k2 : t.cols[i].kind = 2
        · by_cases k3 : t.cols[i].hi = 0
          · cases hA : bP (Alone t.keys i)
            · rw [hA] at fa
              simp [hid, e2, e3, e4, e5, e6, s2, s3, s4, s5, q', fa, hA, hnn, k2, k3]
              exact fin.out _ _ (by simp [e2]) (so_mk (by simp [s2]) (by simp [s2]) (by simp [s2])) (by simp [e3]) (so_mk (by simp [s3]) (by simp [s3]) (by simp [s3])) (by simp [e4]) (so_mk (by simp [s4]) (by simp [s4]) (by simp [s4])) (by simp [e5]) (so_mk (by simp [s5]) (by simp [s5]) (by simp [s5])) (by simp) (by simp [e6]) ⟨_, by simp; rfl, so_mk (by simp) (by simp) (by simp [hy.out, hA, tightC, oneC, hnn, k2, k3])⟩
            · rw [hA] at fa
              simp [hid, e2, e3, e4, e5, e6, s2, s3, s4, s5, q', fa, hA, hnn, k2, k3]
              exact fin.out _ _ (by simp [e2]) (so_mk (by simp [s2]) (by simp [s2]) (by simp [s2])) (by simp [e3]) (so_mk (by simp [s3]) (by simp [s3]) (by simp [s3])) (by simp [e4]) (so_mk (by simp [s4]) (by simp [s4]) (by simp [s4])) (by simp [e5]) (so_mk (by simp [s5]) (by simp [s5]) (by simp [s5])) (by simp) (by simp [e6]) ⟨_, by simp; rfl, so_mk (by simp) (by simp) (by simp [hy.out, hA, tightC, oneC, hnn, k2, k3])⟩
          · cases hA : bP (Alone t.keys i)
            · rw [hA] at fa
              simp [hid, e2, e3, e4, e5, e6, s2, s3, s4, s5, q', fa, hA, hnn, k2, k3]
              exact fin.out _ _ (by simp [e2]) (so_mk (by simp [s2]) (by simp [s2]) (by simp [s2])) (by simp [e3]) (so_mk (by simp [s3]) (by simp [s3]) (by simp [s3])) (by simp [e4]) (so_mk (by simp [s4]) (by simp [s4]) (by simp [s4])) (by simp [e5]) (so_mk (by simp [s5]) (by simp [s5]) (by simp [s5])) (by simp) (by simp [e6]) ⟨_, by simp; rfl, so_mk (by simp) (by simp) (by simp [hy.out, hA, tightC, oneC, hnn, k2, k3])⟩
            · rw [hA] at fa
              simp [hid, e2, e3, e4, e5, e6, s2, s3, s4, s5, q', fa, hA, hnn, k2, k3]
              exact fin.out _ _ (by simp [e2]) (so_mk (by simp [s2]) (by simp [s2]) (by simp [s2])) (by simp [e3]) (so_mk (by simp [s3]) (by simp [s3]) (by simp [s3])) (by simp [e4]) (so_mk (by simp [s4]) (by simp [s4]) (by simp [s4])) (by simp [e5]) (so_mk (by simp [s5]) (by simp [s5]) (by simp [s5])) (by simp) (by simp [e6]) ⟨_, by simp; rfl, so_mk (by simp) (by simp) (by simp [hy.out, hA, tightC, oneC, hnn, k2, k3])⟩
        · cases hA : bP (Alone t.keys i)
          · rw [hA] at fa
            simp [hid, e2, e3, e4, e5, e6, s2, s3, s4, s5, q', fa, hA, hnn, k1, k2]
            exact fin.out _ _ (by simp [e2]) (so_mk (by simp [s2]) (by simp [s2]) (by simp [s2])) (by simp [e3]) (so_mk (by simp [s3]) (by simp [s3]) (by simp [s3])) (by simp [e4]) (so_mk (by simp [s4]) (by simp [s4]) (by simp [s4])) (by simp [e5]) (so_mk (by simp [s5]) (by simp [s5]) (by simp [s5])) (by simp) (by simp [e6]) ⟨_, by simp; rfl, so_mk (by simp) (by simp) (by simp [hy.out, hA, tightC, oneC, hnn, k1, k2])⟩
          · rw [hA] at fa
            simp [hid, e2, e3, e4, e5, e6, s2, s3, s4, s5, q', fa, hA, hnn, k1, k2]
            exact fin.out _ _ (by simp [e2]) (so_mk (by simp [s2]) (by simp [s2]) (by simp [s2])) (by simp [e3]) (so_mk (by simp [s3]) (by simp [s3]) (by simp [s3])) (by simp [e4]) (so_mk (by simp [s4]) (by simp [s4]) (by simp [s4])) (by simp [e5]) (so_mk (by simp [s5]) (by simp [s5]) (by simp [s5])) (by simp) (by simp [e6]) ⟨_, by simp; rfl, so_mk (by simp) (by simp) (by simp [hy.out, hA, tightC, oneC, hnn, k1, k2])⟩
  · rw [List.take_of_length_le (by rw [hul.out]; omega)] at hx
    have f1 := c_ref19_TableKinds t (by omega)
    have f2 := c_jointerref19_Normalised (kindsT t) U (by rw [hul.out]; omega) hok
    rw [kindsT_u8, hlow, hrow, ← hR.out] at f2
    clear hug hal ih
    rcases hx with ⟨h0, rfl⟩ | ⟨h0, o, g, n, rfl, h, h1, h2⟩
    · have hU : U.cols = [] := by simpa using h0
      rw [hU] at f2
      simp at f2
      simp [f1, f2, e2, e3, e4, e5, s2, s3, s4, s5]
    · obtain rfl : o = 91 := by omega
      simp [f1, f2, e2, e3, e4, e5, s2, s3, s4, s5, h]
end Go.Proofs.YtoodknhlnifnlaaGreatDoor
