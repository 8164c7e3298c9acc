/- The engine, part L: slices that are built, made, written and appended to; variables that are written. -/
import Derived.Test.YtoodknhlnifnlaaGreatDoorK
set_option linter.all false
set_option linter.unusedVariables false
set_option linter.unusedSimpArgs false
namespace Go.Proofs.YtoodknhlnifnlaaGreatDoor
open Go.RowKit
variable {P : Program}
section
variable {w0 : Bs} {sh : Nat → Prop} {nt : Nat} {μ : Nat → Nat} {fr : Nat → Prop} {e : Env} {s : Sto} {a : Act} {w : World}

theorem row_of_flat {C : Cx} {k : Nat} {es : List X} {us : Array Value} (hw : ∀ y ∈ es, y.cells.length = k) (hd : ∀ y ∈ es, y.deep = true) (hk : 0 < k) (hl : es.length ≤ 9223372036854775807) (hr : Rep C (.agg (flat es)) (.agg us))
    {b : Nat} {t : TypeId} (hh : C.w.heap[b]? = some (.cells us t (0, 0))) : ObR C (.row k es) b ∧ us.size = es.length * k := by
  cases hr with
  | agg hlen hone hrc =>
    have hsz : us.size = es.length * k := by rw [← hlen, flat_len hw]
    refine ⟨⟨us, t, hh, by omega, hl, hk, ?_, ?_⟩, hsz⟩
    · intro y hy
      exact ⟨hw y hy, hd y hy, fun c hc => hone c (List.mem_flatMap.2 ⟨y, hy, hc⟩)⟩
    · intro i y j c v hi hj hv
      have hjk : j < k := by have := (List.getElem?_eq_some_iff.1 hj).1; have := hw y (List.mem_of_getElem? hi); omega
      exact hrc _ c v (by rw [flat_get hw hi hjk]; exact hj) hv

theorem zero_flat {C : Cx} {z : X} {v : Value} {k : Nat} (hz : okZ v z = true) (hk : z.cells.length = k) (h0 : 0 < k) (hone : z.cells.all X.one = true) (n : Nat) :
    Rep C (.agg (flat (List.replicate n z))) (.agg ((Array.range (n * k)).map (v.cells[· % v.cells.size]!))) := by
  obtain ⟨h1, h2, h3⟩ := zero_row (C := C) hz hk h0 hone n n (Nat.le_refl _)
  refine .agg (by rw [flat_len h1, h2]; simp) (flat_one (fun y hy => by rw [List.eq_of_mem_replicate hy]; exact hone)) ?_
  intro q c u hc hu
  have hq : q < n * k := by
    have := (List.getElem?_eq_some_iff.1 hc).1
    rw [flat_len h1] at this; simpa using this
  have hi : q / k < n := (Nat.div_lt_iff_lt_mul h0).2 hq
  have hm : q % k < k := Nat.mod_lt _ h0
  have hqe : q = (q / k) * k + q % k := by rw [Nat.mul_comm]; exact (Nat.div_add_mod q k).symm
  have hes : (List.replicate n z)[q / k]? = some z := by simp [hi]
  have := flat_get h1 hes hm
  rw [← hqe, hc] at this
  exact h3 (q / k) z (q % k) c u hes this.symm (by rw [← hqe]; exact hu)

theorem frz_newO {s : Sto} {o : Nat} {ob : Ob} {nm : List Nat} (h : ¬ o ∈ nm) : newO (frz s nm) o ob = frz (newO s o ob) nm := by
  funext q
  unfold newO frz upd
  by_cases hq : q = o
  · subst hq; simp [h]
  · simp [hq]

theorem range0 : Array.range 0 = #[] := rfl
theorem buildSlice_run {t el : TypeId} {k n : Nat} {z : X} (ht : P.underlying t = some (.slice el)) (hs : szB P el k = true) (hz : zeroB P el z = true) (h0 : 0 < k) (hn : n * k ≤ 16777216)
    {parts : Array (Nat × Value)} {us : Array Value} {v : Value} (hv : okZ v z = true) (hzv : (zeroValue el).run P w = .ok v w)
    (hf : Instr.fill (fun i => some (i * k, k)) ((Array.range (n * k)).map (v.cells[· % v.cells.size]!)) parts.toList = some us) :
    (Instr.buildSlice t n parts).run P w = .ok (.slice (some ⟨w.heap.size, 0, none⟩) n n) (w.alloc (.cells us el)) := by
  have hnk : ¬ (16777216 < n * k) := by omega
  by_cases hnz : n * k = 0
  · have hn0 : n = 0 := by
      rcases Nat.mul_eq_zero.1 hnz with h | h
      · exact h
      · omega
    subst hn0
    have hf' : Instr.fill (fun i => some (i * k, k)) #[] parts.toList = some us := by simpa [range0] using hf
    simp [Instr.buildSlice, run_underlying ht, szB_run hs, hf', newRow, range0]
  · simp [Instr.buildSlice, run_underlying ht, szB_run hs, hnk, hnz, hzv, hf, newRow]

theorem bsl_common (h : Inv w0 sh nt μ fr e s a w) {o : Oper} {t : TypeId} {n k : Nat} {z : X} {ps : Array (Nat × Operand)} {qs : List (Nat × Ar)} (ho : o.op = .buildSlice t n ps)
    (hok : okOp P (.buildSlice t n ps) (.bslI k n z qs) = true) {es : List X} {nm : List Nat} (hf : fillE e s k (List.replicate n z) qs = some (es, nm)) :
    ∃ us el, (execOp a.eval o).run P w = .ok (.value (.slice (some ⟨w.heap.size, 0, none⟩) n n)) (w.alloc (.cells us el)) ∧ Rep (cxf μ s w sh fr nm) (.agg (flat es)) (.agg us) ∧
      (∀ y ∈ es, y.cells.length = k) ∧ (∀ y ∈ es, y.deep = true) ∧ es.length = n ∧ 0 < k ∧ n ≤ 16777216 := by
  simp only [okOp, Bool.and_eq_true, decide_eq_true_eq, beq_self_eq_true, and_true] at hok
  obtain ⟨⟨⟨⟨hd, hnk⟩, hps⟩, hzd⟩, hone⟩ := hok
  split at hd
  case h_2 => simp at hd
  rename_i el ht
  simp only [Bool.and_eq_true, decide_eq_true_eq] at hd
  obtain ⟨⟨⟨hs, hz⟩, h0⟩, hzk⟩ := hd
  obtain ⟨v, hv, hzv⟩ := zeroB_run hz w
  have h1 := zero_row (C := cxf μ s w sh fr nm) hzv hzk h0 hone n n (Nat.le_refl _)
  obtain ⟨us, i1, i2, i3, i4, i5⟩ := fillE_run h (l := nm) hps h1.1 (fun y hy => by rw [List.eq_of_mem_replicate hy]; exact hzd) (zero_flat hzv hzk h0 hone n) hf (fun _ h => h)
  refine ⟨us, el, ?_, i2, i3, i4, by simpa using i5, h0, ?_⟩
  · have := buildSlice_run (P := P) (w := w) ht hs hz h0 hnk (parts := ps.map fun (i, x) => (i, a.eval x)) hzv hv (by simpa using i1)
    simp [execOp, ho, this]
  · have : n * 1 ≤ n * k := Nat.mul_le_mul_left n h0
    omega

theorem snd_bslI (h : Inv w0 sh nt μ fr e s a w) {o : Oper} {t : TypeId} {n k : Nat} {z : X} {ps : Array (Nat × Operand)} {qs : List (Nat × Ar)} (ho : o.op = .buildSlice t n ps)
    (hok : okOp P (.buildSlice t n ps) (.bslI k n z qs) = true) {es : List X} (hf : fillE e s k (List.replicate n z) qs = some (es, [])) : OutS P w0 sh nt μ fr e s a w o (.sl true es) := by
  obtain ⟨us, el, hr, hrep, hw, hd, hl, h0, hn⟩ := bsl_common h ho hok hf
  obtain ⟨hI, hle⟩ := h.allocI (.cells us el)
  refine ⟨_, _, _, _, hr, .inl rfl, hI, ?_⟩
  have hrep := hrep.of_nil.mono hle
  obtain ⟨⟨cs, t', hh, hsz, hl', _, hww, hrr⟩, hus⟩ := row_of_flat (b := w.heap.size) (t := el) hw hd h0 (by omega) hrep (heap_new w us el)
  have hcs : cs = us := by
    have := heap_new w us el
    simp only [cxo] at hh
    rw [this] at hh
    injection hh with hh
    injection hh with hh
    exact hh.symm
  subst hcs
  refine Rep.sl (k := k) (fun i j => cs.getD (i * k + j) undef) hl.symm (Nat.le_refl _) (by omega) (.inl (.inr rfl)) hw ?_ ?_ ?_
  · intro i y j c hi hj
    have hjk : j < k := by have := (List.getElem?_eq_some_iff.1 hj).1; have := hw y (List.mem_of_getElem? hi); omega
    have hlt : i * k + j < cs.size := idx_lt ((List.getElem?_eq_some_iff.1 hi).1) hjk hsz
    refine ⟨?_, (hww y (List.mem_of_getElem? hi)).2.2 c (List.mem_of_getElem? hj)⟩
    simp only [cxo, Nat.zero_add]
    rw [cell_of_row _ _ _ _ el (0, 0) (heap_new w _ _)]
    simp [Array.getD_eq_getD_getElem?, Array.getElem?_eq_getElem hlt]
  · intro _ j
    simp only [cxo]
    exact frozen_of_row _ _ _ _ el (heap_new w _ _)
  · intro i y j c hi hj
    have hjk : j < k := by have := (List.getElem?_eq_some_iff.1 hj).1; have := hw y (List.mem_of_getElem? hi); omega
    have hlt : i * k + j < cs.size := idx_lt ((List.getElem?_eq_some_iff.1 hi).1) hjk hsz
    exact hrr i y j c _ hi hj (by simp [Array.getD_eq_getD_getElem?, Array.getElem?_eq_getElem hlt])

theorem snd_bsl (h : Inv w0 sh nt μ fr e s a w) {o : Oper} {t : TypeId} {q n k : Nat} {z : X} {ps : Array (Nat × Operand)} {qs : List (Nat × Ar)} (ho : o.op = .buildSlice t n ps)
    (hok : okOp P (.buildSlice t n ps) (.bslI k n z qs) = true) {es : List X} {nm : List Nat} (hf : fillE e s k (List.replicate n z) qs = some (es, nm)) (hq : ¬ q ∈ nm) :
    Out P w0 sh nt e a w o (.ref q ((s q).g + 1) k 0 n) (frz (newO s q (.row k es)) nm) := by
  obtain ⟨us, el, hr, hrep, hw, hd, hl, h0, hn⟩ := bsl_common h ho hok hf
  obtain ⟨hI, hle⟩ := h.frz nm
  have hI2 := hI.allocO q (.row k es) us el (by
    intro C' hle' hw'
    exact (row_of_flat hw hd h0 (by omega) (hrep.mono hle') (by rw [hw']; exact heap_new w us el)).1)
  rw [frz_newO hq] at hI2
  have hus : us.size = es.length * k := by
    cases hrep with
    | agg hlen _ _ => rw [← hlen, flat_len hw]
  refine ⟨_, _, _, _, _, hr, .inl rfl, hI2, ?_⟩
  have hg : (frz (newO s q (.row k es)) nm q).g = (s q).g + 1 := by unfold frz; split <;> simp [newO, upd_same]
  exact .ref (by omega) (by simp [cxo, hg]) (fun _ => ⟨n, by simp [cxo, upd_same], Nat.le_refl _, us, el, (0, 0), by simp only [cxo, upd_same]; exact heap_new w us el, by rw [hus, hl]; simp⟩) rfl

theorem snd_mks (h : Inv w0 sh nt μ fr e s a w) {o : Oper} {t : TypeId} {q k lim : Nat} {z : X} {x y : Operand} {r1 r2 : Ar} (ho : o.op = .makeSlice t x y)
    (hok : okOp P (.makeSlice t x y) (.mks q k z r1 r2 lim) = true) {l c : Int} (hl : asI (r1.ev e) = some l) (hc : asI (r2.ev e) = some c) (h0 : 0 ≤ l) (hlc : l ≤ c) (hlim : c ≤ (lim : Int)) (hd : z.deep = true) (hone : z.cells.all X.one = true) :
    Out P w0 sh nt e a w o (.ref q ((s q).g + 1) k 0 l.toNat) (newO s q (.row k (List.replicate l.toNat z))) := by
  simp only [okOp, Bool.and_eq_true] at hok
  obtain ⟨⟨hdd, hx⟩, hy⟩ := hok
  split at hdd
  case h_2 => simp at hdd
  rename_i el ht
  simp only [Bool.and_eq_true, decide_eq_true_eq] at hdd
  obtain ⟨⟨⟨⟨hs, hz⟩, hb⟩, hk⟩, hzk⟩ := hdd
  obtain ⟨k1, hk1⟩ := asI_rep (okA_rep h.env hx) hl
  obtain ⟨k2, hk2⟩ := asI_rep (okA_rep h.env hy) hc
  obtain ⟨v, hv, hzv⟩ := zeroB_run hz w
  obtain ⟨c, rfl⟩ := Int.eq_ofNat_of_zero_le (show 0 ≤ c by omega)
  obtain ⟨l, rfl⟩ := Int.eq_ofNat_of_zero_le h0
  unfold byB at hb
  split at hb
  case h_2 => simp at hb
  rename_i i hi
  simp only [Bool.and_eq_true, decide_eq_true_eq] at hb
  obtain ⟨hb1, hb2⟩ := hb
  have hcb : i.bytes * c ≤ 140737488355328 := by
    rw [Nat.mul_comm]
    exact Nat.le_trans (Nat.mul_le_mul_right _ (by omega)) hb2
  have hcs : c ≤ 140737488355328 := by
    have : 1 * c ≤ i.bytes * c := Nat.mul_le_mul_right c hb1
    omega
  have hwr : ∀ m : Nat, m ≤ 140737488355328 → IntKind.i64.wrap (m : Int) = m := by
    intro m hm
    have h1 : (m : Int) % 18446744073709551616 = m := by omega
    have h2 : ¬ (9223372036854775808 ≤ (m : Int)) := by omega
    simp [IntKind.wrap, IntKind.bits, IntKind.signed, h1, h2]
  have hbi : ¬ ((281474976710656 : Int) < (i.bytes : Int) * (c : Int)) := by
    have : ((i.bytes * c : Nat) : Int) ≤ 140737488355328 := by omega
    rw [Int.natCast_mul] at this
    omega
  have hbl : ¬ ((281474976710656 : Int) < (i.bytes : Int) * (l : Int)) := by
    have h2 : i.bytes * l ≤ i.bytes * c := Nat.mul_le_mul_left _ (by omega)
    have : ((i.bytes * l : Nat) : Int) ≤ 140737488355328 := by omega
    rw [Int.natCast_mul] at this
    omega
  have hrow := zero_row (C := cxo μ s w sh fr) hzv hzk hk hone l c (by omega)
  have hrun : (execOp a.eval o).run P w = .ok (.value (.slice (some ⟨w.heap.size, 0, none⟩) l c)) (w.alloc (.cells ((Array.range (c * k)).map (v.cells[· % v.cells.size]!)) el)) := by
    have hlt1 : ¬ ((l : Int) < 0) := by omega
    have hlt2 : ¬ ((c : Int) < 0) := by omega
    have hlt3 : ¬ ((c : Int) < (l : Int)) := by omega
    have hlt4 : ¬ (c < l) := by omega
    by_cases hc0 : c * k = 0
    · have hcz : c = 0 := by
        rcases Nat.mul_eq_zero.1 hc0 with h | h
        · exact h
        · omega
      subst hcz
      have : l = 0 := by omega
      subst this
      have hw0 : IntKind.i64.wrap 0 = 0 := by simpa using hwr 0 (by omega)
      simp [execOp, ho, hk1, hk2, Instr.makeSlice, run_underlying ht, asInt, asIntOf, typeInfo, hi, hw0, szB_run hs, newRow, range0]
    · simp [execOp, ho, hk1, hk2, Instr.makeSlice, run_underlying ht, asInt, asIntOf, typeInfo, hi, hwr l (by omega), hwr c hcs, hbi, hlt1, hlt2, hlt3, hlt4, szB_run hs, hc0, hv, newRow]
  have hI := h.allocO q (.row k (List.replicate l z)) ((Array.range (c * k)).map (v.cells[· % v.cells.size]!)) el (by
    intro C' hle hw'
    refine ⟨_, el, by rw [hw']; exact heap_new w _ _, by simp; exact Nat.mul_le_mul_right k (by omega), by simp; omega, hk, ?_, ?_⟩
    · intro y hy
      rw [List.eq_of_mem_replicate hy]
      exact ⟨hzk, hd, by simpa [List.all_eq_true] using hone⟩
    · exact fun i x j c u hx hc hu => (hrow.2.2 i x j c u hx hc hu).mono hle)
  simp only [Int.toNat_natCast]
  refine ⟨_, _, _, _, _, hrun, .inl rfl, hI, ?_⟩
  exact .ref (by omega) (by simp [cxo, newO, upd_same]) (fun _ => ⟨c, by simp [cxo, upd_same], by omega, _, el, (0, 0), by simp only [cxo, upd_same]; exact heap_new w _ _, by simp⟩) rfl
end
end Go.Proofs.YtoodknhlnifnlaaGreatDoor
