/- Plain law: for valid rows a description with what the scheme says holds just where it does without. -/
import Derived.Test.YtoodknhlnifnlaaDoorHl
set_option linter.all false
set_option linter.unusedVariables false
set_option linter.unusedSimpArgs false
namespace Go.Proofs.YtoodknhlnifnlaaDoor
theorem le_lo : ∀ {vs : List Val} {m : Int}, m ≤ 9223372036854775807 → (∀ v ∈ vs, m ≤ v.int) → m ≤ loV vs := by
  have key : ∀ (l : List Int) (a m : Int), m ≤ a → (∀ x ∈ l, m ≤ x) → m ≤ l.foldl min a := by
    intro l
    induction l with
    | nil => intro a m h _; exact h
    | cons y l ih =>
      intro a m h hl
      exact ih (min a y) m (by have := hl y (by simp); omega) (fun x hx => hl x (by simp [hx]))
  intro vs m h hl
  exact key _ _ _ h (fun x hx => by obtain ⟨v, hv, rfl⟩ := List.mem_map.1 hx; exact hl v hv)
theorem hi_le : ∀ {vs : List Val} {m : Int}, -9223372036854775808 ≤ m → (∀ v ∈ vs, v.int ≤ m) → hiV vs ≤ m := by
  have key : ∀ (l : List Int) (a m : Int), a ≤ m → (∀ x ∈ l, x ≤ m) → l.foldl max a ≤ m := by
    intro l
    induction l with
    | nil => intro a m h _; exact h
    | cons y l ih =>
      intro a m h hl
      exact ih (max a y) m (by have := hl y (by simp); omega) (fun x hx => hl x (by simp [hx]))
  intro vs m h hl
  exact key _ _ _ h (fun x hx => by obtain ⟨v, hv, rfl⟩ := List.mem_map.1 hx; exact hl v hv)
theorem fitsL_get : ∀ {cs : List ColD} {vs : List Val}, fitsL cs vs = 0 → ∀ (i : Nat) (h : i < cs.length) (h' : i < vs.length), fitsE cs[i] vs[i] = 0
  | [], _, _, i, h, _ => by simp at h
  | _ :: _, [], _, i, _, h' => by simp at h'
  | c :: cs, v :: vs, he, i, h, h' => by
    rw [fitsL] at he
    split at he
    · rename_i h0
      cases i with
      | zero => exact h0
      | succ i => simpa using fitsL_get he i (by simpa using h) (by simpa using h')
    · exact absurd he (by assumption)
theorem fitsE_zero {c : ColD} {v : Val} (h : fitsE c v = 0) : v.valid = true ∧ (v.kind = 0 ∨ v.kind = c.kind) ∧ (c.nn = true → ¬ v.kind = 0) ∧ (v.kind = 1 → c.lo ≤ v.int ∧ v.int ≤ c.hi) ∧ (v.kind = 2 → (v.text.size : Int) ≤ c.hi) := by
  unfold fitsE at h
  split at h
  · omega
  · rename_i h1
    split at h
    · omega
    · rename_i h2
      split at h
      · omega
      · rename_i h3
        refine ⟨?_, ?_, fun hn hk => h2 ⟨hk, hn⟩, fun hk => ?_, fun hk => ?_⟩
        · cases hv : v.valid
          · exact absurd (.inl hv) h1
          · rfl
        · by_cases a : v.kind = 0
          · exact .inl a
          · by_cases b : v.kind = c.kind
            · exact .inr b
            · exact absurd (.inr ⟨a, b⟩) h1
        · refine ⟨?_, ?_⟩
          · rcases Int.lt_or_le v.int c.lo with a | a
            · exact absurd (.inl ⟨hk, .inl a⟩) h3
            · exact a
          · rcases Int.lt_or_le c.hi v.int with a | a
            · exact absurd (.inl ⟨hk, .inr a⟩) h3
            · exact a
        · rcases Int.lt_or_le c.hi v.text.size with a | a
          · exact absurd (.inr ⟨hk, a⟩) h3
          · exact a
/-- Rows that are valid for a table. -/
structure RowsOK (t : TabD) (rows : List (List Val)) : Prop where
  len : rows.length ≤ 1000
  fit : ∀ r ∈ rows, fitsRowE t r = 0
  uniq : ∀ k ∈ t.keys, KeyHolds rows k
theorem RowsOK.cell {t : TabD} {rows : List (List Val)} (h : RowsOK t rows) {i : Nat} (hi : i < t.cols.length) : ∀ v ∈ colV rows i, fitsE t.cols[i] v = 0 := by
  intro v hv
  obtain ⟨r, hr, rfl⟩ := List.mem_map.1 hv
  have h1 := h.fit r hr
  have hl := fitsRow_len h1
  have h2 : i < r.length := by omega
  unfold fitsRowE at h1
  rw [if_pos hl] at h1
  rw [List.getD_eq_getElem?_getD, List.getElem?_eq_getElem h2]
  exact fitsL_get h1 i hi h2
theorem cells_of : ∀ {cs : List ColD} {vs : List Val}, fitsL cs vs = 0 → cellsB (cs.map (·.kind)) vs = true
  | [], vs, _ => by cases vs <;> rfl
  | c :: cs, [], _ => rfl
  | c :: cs, v :: vs, h => by
    rw [fitsL] at h
    split at h
    · rename_i h0
      have h1 := fitsE_zero h0
      simp only [List.map_cons, cellsB, cellB, Bool.and_eq_true, Bool.or_eq_true, decide_eq_true_eq]
      exact ⟨⟨h1.1, h1.2.1⟩, cells_of h⟩
    · exact absurd h (by assumption)
theorem kindsT_ok {t : TabD} (h : ∀ c ∈ t.cols, ColOK c) : kindsB (kindsT t) = true := by
  simp only [kindsB, kindsT, List.all_eq_true, List.mem_map, decide_eq_true_eq]
  rintro k ⟨c, hc, rfl⟩
  have := (h c hc).2
  omega
theorem RowsOK.rows {t : TabD} {rows : List (List Val)} (h : RowsOK t rows) (hc : ∀ c ∈ t.cols, ColOK c) : fitRowsB (kindsT t) rows = true := by
  simp only [fitRowsB, Bool.and_eq_true, List.all_eq_true, rowB, decide_eq_true_eq]
  refine ⟨kindsT_ok hc, fun r hr => ?_⟩
  have h1 := h.fit r hr
  have hl := fitsRow_len h1
  unfold fitsRowE at h1
  rw [if_pos hl] at h1
  exact ⟨by rw [hl]; simp, cells_of h1⟩
theorem key_nodup {rows : List (List Val)} {i : Nat} (h : KeyHolds rows [(i : Int)]) (hl : ∀ r ∈ rows, i < r.length) : (keys (colV rows i)).Nodup := by
  have hc : ∀ r ∈ rows, r.getD i v0 = cellAt r (i : Int) := fun r hr => by
    have := hl r hr
    show r.getD i v0 = r.getD i v00
    rw [List.getD_eq_getElem?_getD, List.getD_eq_getElem?_getD, List.getElem?_eq_getElem this]; rfl
  unfold keys nz colV
  refine List.pairwise_map.2 (List.pairwise_filter.2 (List.pairwise_map.2 (List.pairwise_iff_getElem.2 ?_)))
  intro a b ha hb hab ka kb e
  rw [hc _ (List.getElem_mem ha)] at ka e
  rw [hc _ (List.getElem_mem hb)] at kb e
  refine h b a hb ha hab ?_ ?_ ?_
  · intro c hcm
    simp at hcm
    subst hcm
    simpa using kb
  · intro c hcm
    simp at hcm
    subst hcm
    simpa using ka
  · simp [valsAt, e]
theorem deg_one {l : List Key} (h : l.Nodup) : deg l ≤ 1 := by
  rw [deg, maxL_le]
  intro x hx
  obtain ⟨k, _, rfl⟩ := List.mem_map.1 hx
  exact List.nodup_iff_count.1 h k
theorem RowsOK.nulls {t : TabD} {rows : List (List Val)} (h : RowsOK t rows) {i : Nat} (hi : i < t.cols.length) (hn : t.cols[i].nn = true) (k : Int) : (colS k (colV rows i)).nulls = 0 := by
  have : (colV rows i).countP (fun v => decide (v.kind = 0)) = 0 := by
    rw [List.countP_eq_zero]
    intro v hv
    simpa using (fitsE_zero (h.cell hi v hv)).2.2.1 hn
  show (((colV rows i).countP fun v => decide (v.kind = 0) : Nat) : Int) = 0
  rw [this]; rfl
theorem RowsOK.text {t : TabD} {rows : List (List Val)} (h : RowsOK t rows) {i : Nat} (hi : i < t.cols.length) (hk : t.cols[i].kind = 2) (hh : t.cols[i].hi = 0) (k : Int) : (colS k (colV rows i)).distinct ≤ 1 := by
  have := distinct_int (vs := colV rows i) (k := 2) (lo := 0) (n := 1) (fun v hv => by
    have hm := mem_nz.1 hv
    have hf := fitsE_zero (h.cell hi v hm.1)
    have hv2 : v.kind = 2 := (hf.2.1.resolve_left hm.2).trans hk
    have hs := hf.2.2.2.2 hv2
    have hva := hf.1
    unfold Val.valid at hva
    rw [if_neg hm.2, if_neg (by omega), if_pos hv2] at hva
    simp only [Bool.and_eq_true, decide_eq_true_eq] at hva
    refine ⟨hv2, ?_, by omega, by omega⟩
    have h0 : v.text.size = 0 := by omega
    apply List.eq_nil_of_length_eq_zero
    rw [ba_size]; exact h0)
  show (((firsts (keys (colV rows i))).length : Nat) : Int) ≤ 1
  omega
theorem RowsOK.range {t : TabD} {rows : List (List Val)} (h : RowsOK t rows) (h6 : ∀ c ∈ t.cols, c.in64) {i : Nat} (hi : i < t.cols.length) (hk : t.cols[i].kind = 1) (hd : 0 < (colS 1 (colV rows i)).distinct) :
    t.cols[i].lo ≤ (colS 1 (colV rows i)).lo ∧ (colS 1 (colV rows i)).hi ≤ t.cols[i].hi := by
  have h0 : ¬ keys (colV rows i) = [] := fun h => by have := (zero_iff 1 (colV rows i)).1.2 h; omega
  have hne : nz (colV rows i) ≠ [] := fun h => h0 (by rw [keys, h]; rfl)
  have elo : (colS 1 (colV rows i)).lo = loV (nz (colV rows i)) := by simp [colS, hne]
  have ehi : (colS 1 (colV rows i)).hi = hiV (nz (colV rows i)) := by simp [colS, hne]
  have hc := h6 _ (List.getElem_mem hi)
  have hv : ∀ v ∈ nz (colV rows i), t.cols[i].lo ≤ v.int ∧ v.int ≤ t.cols[i].hi := fun v hv => by
    have hm := mem_nz.1 hv
    have hf := fitsE_zero (h.cell hi v hm.1)
    exact hf.2.2.2.1 ((hf.2.1.resolve_left hm.2).trans hk)
  rw [elo, ehi]
  exact ⟨le_lo hc.1.2 (fun v hm => (hv v hm).1), hi_le hc.2.1 (fun v hm => (hv v hm).2)⟩
theorem RowsOK.degree {t : TabD} {rows : List (List Val)} (h : RowsOK t rows) (hk : KeysIn t) {i : Nat} (hi : i < t.cols.length) (hp : ∃ k ∈ t.keys, k.length = 1 ∧ (k.headD 0).toNat = i) (k : Int) : (colS k (colV rows i)).degree ≤ 1 := by
  obtain ⟨key, hm, h1, h2⟩ := hp
  obtain ⟨c, rfl⟩ := List.length_eq_one_iff.1 h1
  have hc := hk _ hm c (by simp)
  simp at h2
  obtain rfl : c = (i : Int) := by omega
  have := deg_one (key_nodup (h.uniq _ hm) (fun r hr => by rw [fitsRow_len (h.fit r hr)]; exact hi))
  show ((deg (keys (colV rows i)) : Nat) : Int) ≤ 1
  omega
theorem keysC_get : ∀ (keys : List (List Int)) (cols : List Col) (i : Nat) (h : i < (keys.foldl keyC cols).length) (h' : i < cols.length),
    (keys.foldl keyC cols)[i] = cols[i] ∨ ((keys.foldl keyC cols)[i] = oneC cols[i] ∧ ∃ k ∈ keys, k.length = 1 ∧ (k.headD 0).toNat = i)
  | [], cols, i, h, h' => .inl rfl
  | k :: keys, cols, i, h, h' => by
    have hl : i < (keyC cols k).length := by rw [keyC_len]; exact h'
    have ih := keysC_get keys (keyC cols k) i h hl
    have hb : (keyC cols k)[i] = cols[i] ∨ ((keyC cols k)[i] = oneC cols[i] ∧ k.length = 1 ∧ (k.headD 0).toNat = i) := by
      by_cases h1 : k.length = 1
      · by_cases h2 : (k.headD 0).toNat = i
        · refine .inr ⟨?_, h1, h2⟩
          simp only [keyC, h1, if_pos, List.getElem_modify, h2]
        · refine .inl ?_
          simp only [keyC, h1, if_pos, List.getElem_modify, h2, if_false]
      · exact .inl (by simp only [keyC, h1, if_false])
    have oo : ∀ c, oneC (oneC c) = oneC c := fun c => by simp only [oneC]; congr 1; omega
    rcases ih with ih | ⟨ih, q, hq, hq'⟩
    · rw [show (List.foldl keyC cols (k :: keys))[i] = _ from ih]
      rcases hb with hb | ⟨hb, h1, h2⟩
      · exact .inl hb
      · exact .inr ⟨hb, k, by simp, h1, h2⟩
    · rw [show (List.foldl keyC cols (k :: keys))[i] = _ from ih]
      rcases hb with hb | ⟨hb, h1, h2⟩
      · exact .inr ⟨by rw [hb], q, by simp [hq], hq'⟩
      · exact .inr ⟨by rw [hb, oo], q, by simp [hq], hq'⟩
theorem tightU_get {t : TabD} {d : TS} {i : Nat} (h : i < (tightU t d).cols.length) (h1 : i < t.cols.length) (h2 : i < d.cols.length) :
    (tightU t d).cols[i] = tightC t.cols[i] d.cols[i] ∨ ((tightU t d).cols[i] = oneC (tightC t.cols[i] d.cols[i]) ∧ ∃ k ∈ t.keys, k.length = 1 ∧ (k.headD 0).toNat = i) := by
  have hz : i < (List.zipWith tightC t.cols d.cols).length := by rw [List.length_zipWith]; omega
  have := keysC_get t.keys (List.zipWith tightC t.cols d.cols) i h hz
  rw [List.getElem_zipWith] at this
  exact this
theorem tightU_fits {t : TabD} {d : TS} (hf : fitsB (kindsT t) d = true) : fitsB (kindsT t) (tightU t d) = true := by
  have hl := fits_len hf
  rw [kindsT_len] at hl
  have hu := tightU_len t d hl
  obtain ⟨f1, f2, f3, f4, f5⟩ := fitsB_iff.1 hf
  rw [fitsB_iff]
  refine ⟨f1, by rw [hu, kindsT_len], f3, ?_, fun i h h' => ?_⟩
  · rw [numB_iff] at f4 ⊢
    show 0 ≤ min d.rows 1000 ∧ min d.rows 1000 ≤ _
    omega
  · have h1 : i < t.cols.length := by rw [← hu]; exact h'
    have h2 : i < d.cols.length := by omega
    have hb := f5 i h h2
    have hk : (kindsT t)[i] = t.cols[i].kind := by simp [kindsT]
    rw [hk] at hb ⊢
    have hc : colB t.cols[i].kind (tightC t.cols[i] d.cols[i]) = true := by
      rw [colB_iff] at hb ⊢
      obtain ⟨b1, b2, b3, b4⟩ := hb
      refine ⟨?_, ?_, b3, ?_⟩
      · simp only [tightC]; split <;> omega
      · simp only [tightC]; split <;> omega
      · rcases b4 with b4 | b4
        · exact .inl b4
        · by_cases hk1 : t.cols[i].kind = 1
          · exact .inl hk1
          · refine .inr ?_
            simp only [tightC, if_neg hk1]; exact b4
    rcases tightU_get h' h1 h2 with e | ⟨e, _⟩
    · rw [e]; exact hc
    · rw [e]
      rw [colB_iff] at hc ⊢
      simp only [oneC]
      omega
theorem tight_holdC {t : TabD} {rows : List (List Val)} (h : RowsOK t rows) (h6 : ∀ c ∈ t.cols, c.in64) (hk : KeysIn t) {i : Nat} (hi : i < t.cols.length) {u y : Col} (hu : colB t.cols[i].kind u = true)
    (hy : y = tightC t.cols[i] u ∨ (y = oneC (tightC t.cols[i] u) ∧ ∃ k ∈ t.keys, k.length = 1 ∧ (k.headD 0).toNat = i)) :
    holdC t.cols[i].kind y (colS t.cols[i].kind (colV rows i)) = holdC t.cols[i].kind u (colS t.cols[i].kind (colV rows i)) := by
  have hb := colS_bounds t.cols[i].kind (colV rows i)
  have e1 := fun hn => h.nulls hi hn t.cols[i].kind
  have e2 := fun hk hh => h.text hi hk hh t.cols[i].kind
  have e3 : t.cols[i].kind = 1 → 0 < (colS t.cols[i].kind (colV rows i)).distinct → t.cols[i].lo ≤ (colS t.cols[i].kind (colV rows i)).lo ∧ (colS t.cols[i].kind (colV rows i)).hi ≤ t.cols[i].hi := by
    intro hk1
    rw [hk1]
    exact h.range h6 hi hk1
  have e4 := fun hp => h.degree hk hi hp t.cols[i].kind
  generalize colS t.cols[i].kind (colV rows i) = x at *
  generalize t.cols[i] = c at *
  rw [colB_iff] at hu
  have base : holdC c.kind (tightC c u) x = holdC c.kind u x := by
    rw [Bool.eq_iff_iff, holdC_iff, holdC_iff]
    simp only [tightC]
    have p1 : x.nulls ≤ (if c.nn = true then 0 else u.nulls) ↔ x.nulls ≤ u.nulls := by
      split
      · have := e1 (by assumption); omega
      · exact Iff.rfl
    have p2 : x.distinct ≤ (if c.kind = 2 ∧ c.hi = 0 then min u.distinct 1 else u.distinct) ↔ x.distinct ≤ u.distinct := by
      split
      · rename_i q; have := e2 q.1 q.2; omega
      · exact Iff.rfl
    rw [p1, p2]
    by_cases hk1 : c.kind = 1
    · simp only [if_pos hk1]
      have := e3 hk1
      constructor
      · rintro ⟨a, b, d, g⟩; refine ⟨a, b, d, ?_⟩; rcases g with g | g | g
        · exact .inl g
        · exact .inr (.inl g)
        · exact .inr (.inr (by omega))
      · rintro ⟨a, b, d, g⟩; refine ⟨a, b, d, ?_⟩; rcases g with g | g | g
        · exact .inl g
        · exact .inr (.inl g)
        · by_cases hx : x.distinct ≤ 0
          · exact .inr (.inl hx)
          · have := this (by omega); exact .inr (.inr (by omega))
    · simp only [if_neg hk1]
  rcases hy with rfl | ⟨rfl, hp⟩
  · exact base
  · rw [← base, Bool.eq_iff_iff, holdC_iff, holdC_iff]
    have := e4 hp
    simp only [oneC]
    have p3 : x.degree ≤ min (tightC c u).degree 1 ↔ x.degree ≤ (tightC c u).degree := by omega
    rw [p3]
theorem tightU_holds {t : TabD} {d : TS} {rows : List (List Val)} (h : RowsOK t rows) (h6 : ∀ c ∈ t.cols, c.in64) (hk : KeysIn t) (hf : fitsB (kindsT t) d = true) :
    holdsB (kindsT t) (tightU t d) rows = holdsB (kindsT t) d rows := by
  have hfu := tightU_fits hf
  have hl := fits_len hf
  rw [kindsT_len] at hl
  have hu := tightU_len t d hl
  obtain ⟨f1, f2, f3, f4, f5⟩ := fitsB_iff.1 hf
  have cols : ∀ (i : Nat) (h1 : i < (kindsT t).length) (h2 : i < (tightU t d).cols.length) (h3 : i < d.cols.length), holdC (kindsT t)[i] (tightU t d).cols[i] (colS (kindsT t)[i] (colV rows i)) = holdC (kindsT t)[i] d.cols[i] (colS (kindsT t)[i] (colV rows i)) := by
    intro i h1 h2 h3
    have hi : i < t.cols.length := by simpa using h1
    have hki : (kindsT t)[i] = t.cols[i].kind := by simp [kindsT]
    have hb := f5 i h1 h3
    rw [hki] at hb ⊢
    exact tight_holdC h h6 hk hi hb (tightU_get h2 hi h3)
  rw [Bool.eq_iff_iff, holdsB_iff, holdsB_iff]
  have hlen := h.len
  have r1 : (tightU t d).rows = min d.rows 1000 := rfl
  have r2 : (tightU t d).low = d.low := rfl
  rw [r1, r2]
  constructor
  · rintro ⟨a, b, c, g, k⟩
    refine ⟨hf, b, c, by omega, fun i h1 h2 => ?_⟩
    rw [← cols i h1 (by omega) h2]; exact k i h1 (by omega)
  · rintro ⟨a, b, c, g, k⟩
    refine ⟨hfu, b, c, by omega, fun i h1 h2 => ?_⟩
    rw [cols i h1 h2 (by omega)]; exact k i h1 (by omega)
end Go.Proofs.YtoodknhlnifnlaaDoor
