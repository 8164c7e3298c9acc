/- Plain law: a description has one greatest normalised one below it, and each way of normalising comes to it. -/
import Derived.Test.YtoodknhlnifnlaaGreatDoorNb
set_option linter.all false
set_option linter.unusedVariables false
set_option linter.unusedSimpArgs false
namespace Go.Proofs.YtoodknhlnifnlaaGreatDoor
/-- A column says no more than another one. -/
def leC (c d : Col) : Prop := c.nulls ≤ d.nulls ∧ c.distinct ≤ d.distinct ∧ c.degree ≤ d.degree ∧ ((c.lo = d.lo ∧ c.hi = d.hi) ∨ (c.lo = 1 ∧ c.hi = 0))
theorem leC.refl (c : Col) : leC c c := ⟨by omega, by omega, by omega, .inl ⟨rfl, rfl⟩⟩
theorem leC.antisymm {c d : Col} (h : leC c d) (k : leC d c) : c = d := by
  obtain ⟨h1, h2, h3, h4⟩ := h
  obtain ⟨k1, k2, k3, k4⟩ := k
  cases c; cases d
  simp only [Col.mk.injEq] at *
  omega
theorem leC.trans {a b c : Col} (h : leC a b) (k : leC b c) : leC a c := by
  obtain ⟨h1, h2, h3, h4⟩ := h
  obtain ⟨k1, k2, k3, k4⟩ := k
  exact ⟨by omega, by omega, by omega, by omega⟩
theorem countN_mono {k : Int} {c d : Col} (h : leC c d) : countN k c ≤ countN k d := by
  obtain ⟨_, _, _, h4⟩ := h
  unfold countN
  split
  · omega
  split
  · omega
  split
  · omega
  · split <;> split <;> omega
theorem ncol_cases (k : Int) (c : Col) (r : Int) :
    (ncol k c r = ⟨min c.nulls r, 0, 0, if k = 1 then 1 else c.lo, if k = 1 then 0 else c.hi⟩ ∧ (min c.distinct (min r (countN k c)) = 0 ∨ min c.degree r = 0)) ∨
    (ncol k c r = ⟨min c.nulls r, min c.distinct (min r (countN k c)), min c.degree r, c.lo, c.hi⟩ ∧ ¬ min c.distinct (min r (countN k c)) = 0 ∧ ¬ min c.degree r = 0) := by
  by_cases h : min c.distinct (min r (countN k c)) = 0 ∨ min c.degree r = 0
  · exact .inl ⟨ncol_z h, h⟩
  · exact .inr ⟨if_neg h, fun q => h (.inl q), fun q => h (.inr q)⟩
theorem ncol_ok {k : Int} {c : Col} {r : Int} (h : cok c) (hr : 0 ≤ r) : cok (ncol k c r) := by
  obtain ⟨h1, h2, h3, ⟨⟨l1, l2⟩, l3, l4⟩⟩ := h
  have hc := countN_nonneg k c
  rcases ncol_cases k c r with ⟨e, _⟩ | ⟨e, _, _⟩ <;> rw [e]
  · refine ⟨by show 0 ≤ min c.nulls r; omega, Int.le_refl _, Int.le_refl _, ⟨?_, ?_⟩, ?_, ?_⟩ <;> (show _ ≤ _; simp only; split <;> omega)
  · exact ⟨by show 0 ≤ min c.nulls r; omega, by show 0 ≤ min c.distinct _; omega, by show 0 ≤ min c.degree r; omega, ⟨l1, l2⟩, l3, l4⟩
theorem ncol_le {k : Int} {c : Col} {r : Int} (h : cok c) (hr : 0 ≤ r) : leC (ncol k c r) c := by
  obtain ⟨h1, h2, h3, _⟩ := h
  rcases ncol_cases k c r with ⟨e, _⟩ | ⟨e, _, _⟩ <;> rw [e]
  · refine ⟨by show min c.nulls r ≤ _; omega, h2, h3, ?_⟩
    by_cases hk : k = 1
    · exact .inr ⟨if_pos hk, if_pos hk⟩
    · exact .inl ⟨if_neg hk, if_neg hk⟩
  · exact ⟨by show min c.nulls r ≤ _; omega, by show min c.distinct _ ≤ _; omega, by show min c.degree r ≤ _; omega, .inl ⟨rfl, rfl⟩⟩
theorem ncol_mono {k : Int} {c d : Col} {r r' : Int} (hc : cok c) (hd : cok d) (hr : 0 ≤ r) (h : leC c d) (hrr : r ≤ r') : leC (ncol k c r) (ncol k d r') := by
  have hm := countN_mono (k := k) h
  have hn := countN_nonneg k c
  obtain ⟨c1, c2, c3, _⟩ := hc
  obtain ⟨d1, d2, d3, _⟩ := hd
  obtain ⟨h1, h2, h3, h4⟩ := h
  rcases ncol_cases k c r with ⟨e, q⟩ | ⟨e, q1, q2⟩ <;> rcases ncol_cases k d r' with ⟨e', q'⟩ | ⟨e', q1', q2'⟩ <;> rw [e, e']
  · refine ⟨by show min c.nulls r ≤ min d.nulls r'; omega, Int.le_refl _, Int.le_refl _, ?_⟩
    by_cases hk : k = 1
    · simp [hk]
    · simpa [hk] using h4
  · refine ⟨by show min c.nulls r ≤ min d.nulls r'; omega, by show 0 ≤ min d.distinct _; omega, by show 0 ≤ min d.degree _; omega, ?_⟩
    by_cases hk : k = 1
    · simp [hk]
    · simpa [hk] using h4
  · exfalso; omega
  · exact ⟨by show min c.nulls r ≤ min d.nulls r'; omega, by show min c.distinct _ ≤ min d.distinct _; omega, by show min c.degree r ≤ min d.degree _; omega, h4⟩
theorem clampN_mono {a b : Int} (h : a ≤ b) : clampN a ≤ clampN b := by unfold clampN; omega
theorem valC_mono {c d : Col} (h : leC c d) : valC c ≤ valC d := by
  obtain ⟨h1, h2, h3, _⟩ := h
  have p1 := clampN_mono h2
  have p2 := clampN_mono h3
  have q1 := clampN_range c.distinct
  have q2 := clampN_range c.degree
  have q3 := clampN_range d.distinct
  have hm : clampN c.distinct * clampN c.degree ≤ clampN d.distinct * clampN d.degree := Int.mul_le_mul p1 p2 q2.1 q3.1
  have ht : timesN c.distinct c.degree ≤ timesN d.distinct d.degree := by unfold timesN; omega
  have r1 := clampN_mono ht
  have r2 := clampN_mono h1
  unfold valC plusN
  omega
theorem valC_nonneg (c : Col) : 0 ≤ valC c := by
  have := clampN_range (timesN c.distinct c.degree)
  have := clampN_range c.nulls
  unfold valC plusN; omega
theorem rowsF_le : ∀ (l : List Col) (r : Int), rowsF r l ≤ r
  | [], r => Int.le_refl _
  | c :: l, r => by
    have := rowsF_le l (min r (valC c))
    show rowsF (min r (valC c)) l ≤ r; omega
theorem rowsF_val : ∀ (l : List Col) (r : Int) (c : Col), c ∈ l → rowsF r l ≤ valC c
  | d :: l, r, c, h => by
    show rowsF (min r (valC d)) l ≤ _
    rcases List.mem_cons.1 h with rfl | h
    · have := rowsF_le l (min r (valC c)); omega
    · exact rowsF_val l _ c h
theorem le_rowsF : ∀ (l : List Col) (r z : Int), z ≤ r → (∀ c ∈ l, z ≤ valC c) → z ≤ rowsF r l
  | [], r, z, h, _ => h
  | d :: l, r, z, h, k => le_rowsF l (min r (valC d)) z (by have := k d (by simp); omega) (fun c hc => k c (by simp [hc]))
def leL : List Col → List Col → Prop
  | [], [] => True
  | c :: l, d :: m => leC c d ∧ leL l m
  | _, _ => False
theorem leL.refl : ∀ l, leL l l
  | [] => trivial
  | c :: l => ⟨leC.refl c, leL.refl l⟩
theorem leL.trans : ∀ {l m n}, leL l m → leL m n → leL l n
  | [], [], [], _, _ => trivial
  | _ :: _, _ :: _, _ :: _, h, k => ⟨h.1.trans k.1, leL.trans h.2 k.2⟩
theorem leL.antisymm : ∀ {l m}, leL l m → leL m l → l = m
  | [], [], _, _ => rfl
  | _ :: _, _ :: _, h, k => by rw [h.1.antisymm k.1, leL.antisymm h.2 k.2]
theorem leL.len : ∀ {l m}, leL l m → l.length = m.length
  | [], [], _ => rfl
  | _ :: _, _ :: _, h => by simp [leL.len h.2]
theorem leL.get : ∀ {l m : List Col} (h : leL l m) (i : Nat) (h1 : i < l.length) (h2 : i < m.length), leC l[i] m[i]
  | _ :: _, _ :: _, h, 0, _, _ => h.1
  | _ :: l, _ :: m, h, i + 1, h1, h2 => leL.get (l := l) (m := m) h.2 i (by simpa using h1) (by simpa using h2)
theorem leL.set : ∀ {l m : List Col} (h : leL l m) (i : Nat) {c d : Col}, leC c d → leL (l.set i c) (m.set i d)
  | [], [], _, _, _, _, _ => trivial
  | _ :: _, _ :: _, h, 0, _, _, k => ⟨k, h.2⟩
  | _ :: l, _ :: m, h, i + 1, _, _, k => ⟨h.1, leL.set (l := l) (m := m) h.2 i k⟩
/-- How much there is to lose. -/
def mC (c : Col) : Nat := c.nulls.toNat + c.distinct.toNat + c.degree.toNat + (if c.lo = 1 ∧ c.hi = 0 then 0 else 1)
theorem mC_le {c d : Col} (h : leC c d) (hc : cok c) : mC c ≤ mC d ∧ (mC c = mC d → c = d) := by
  obtain ⟨h1, h2, h3, h4⟩ := h
  obtain ⟨c1, c2, c3, _⟩ := hc
  cases c; cases d
  simp only [mC, Col.mk.injEq] at *
  split <;> split <;> omega
def mL (l : List Col) : Nat := (l.map mC).sum
theorem mL_le : ∀ {l m}, leL l m → (∀ c ∈ l, cok c) → mL l ≤ mL m ∧ (mL l = mL m → l = m)
  | [], [], _, _ => ⟨Nat.le_refl _, fun _ => rfl⟩
  | c :: l, d :: m, h, k => by
    have h1 := mC_le h.1 (k c (by simp))
    have h2 := mL_le h.2 (fun c hc => k c (by simp [hc]))
    simp only [mL, List.map_cons, List.sum_cons] at *
    refine ⟨by omega, fun e => ?_⟩
    rw [h1.2 (by omega), h2.2 (by omega)]
structure okT (ks : List Int) (t : TS) : Prop where
  len : ks.length = t.cols.length
  rows : 0 ≤ t.rows
  cols : ∀ c ∈ t.cols, cok c
structure leT (t u : TS) : Prop where
  low : t.low = u.low
  rows : t.rows ≤ u.rows
  cols : leL t.cols u.cols
theorem leT.refl (t : TS) : leT t t := ⟨rfl, Int.le_refl _, leL.refl _⟩
theorem leT.trans {a b c : TS} (h : leT a b) (k : leT b c) : leT a c := ⟨h.low.trans k.low, Int.le_trans h.rows k.rows, h.cols.trans k.cols⟩
theorem leT.antisymm {t u : TS} (h : leT t u) (k : leT u t) : t = u := by
  have h1 := h.low; have h2 := Int.le_antisymm h.rows k.rows; have h3 := h.cols.antisymm k.cols
  cases t; cases u
  simp_all
def mT (t : TS) : Nat := t.rows.toNat + mL t.cols
theorem mT_lt {ks : List Int} {t u : TS} (h : leT t u) (ho : okT ks t) (hn : ¬ t = u) : mT t < mT u := by
  have h1 := mL_le h.cols ho.cols
  have h2 := h.rows
  have h3 := ho.rows
  unfold mT
  by_cases he : mL t.cols = mL u.cols
  · have hc := h1.2 he
    by_cases hr : t.rows = u.rows
    · exfalso; apply hn
      have hl := h.low
      cases t; cases u; simp_all
    · omega
  · omega
/-- Normalised. -/
def Fx (ks : List Int) (t : TS) : Prop := ∀ (i : Nat) (h : i < ks.length) (h' : i < t.cols.length), ncol ks[i] t.cols[i] t.rows = t.cols[i] ∧ t.rows ≤ valC t.cols[i]
/-- The greatest normalised one below. -/
structure Gr (ks : List Int) (t n : TS) : Prop where
  ok : okT ks n
  fx : Fx ks n
  le : leT n t
  top : ∀ z, okT ks z → Fx ks z → leT z t → leT z n
theorem Gr.uniq {ks : List Int} {t n m : TS} (h : Gr ks t n) (k : Gr ks t m) : n = m := (k.top n h.ok h.fx h.le).antisymm (h.top m k.ok k.fx k.le)
/-- What still lies between. -/
structure Way (ks : List Int) (t n : TS) : Prop where
  ok : okT ks n
  le : leT n t
  top : ∀ z, okT ks z → Fx ks z → leT z t → leT z n
theorem Way.start {ks : List Int} {t : TS} (h : okT ks t) : Way ks t t := ⟨h, leT.refl t, fun _ _ _ h => h⟩
theorem Way.fin {ks : List Int} {t n : TS} (h : Way ks t n) (f : Fx ks n) : Gr ks t n := ⟨h.ok, f, h.le, h.top⟩
theorem leL_of : ∀ {l m : List Col}, l.length = m.length → (∀ (i : Nat) (h1 : i < l.length) (h2 : i < m.length), leC l[i] m[i]) → leL l m
  | [], [], _, _ => trivial
  | c :: l, d :: m, h, k => ⟨k 0 (by simp) (by simp), leL_of (by simpa using h) (fun i h1 h2 => k (i + 1) (by simpa using h1) (by simpa using h2))⟩
theorem onceC_len {ks : List Int} {t : TS} (h : ks.length = t.cols.length) : (onceC ks t).length = t.cols.length := by unfold onceC; rw [List.length_zipWith]; omega
theorem onceC_get {ks : List Int} {t : TS} {i : Nat} (h1 : i < (onceC ks t).length) (h2 : i < ks.length) (h3 : i < t.cols.length) : (onceC ks t)[i] = ncol ks[i] t.cols[i] t.rows := by simp [onceC]
theorem once_ok {ks : List Int} {t : TS} (h : okT ks t) : okT ks (onceT ks t) := by
  have hl := onceC_len h.len
  refine ⟨h.len.trans hl.symm, ?_, ?_⟩
  · exact le_rowsF _ _ _ h.rows (fun c _ => valC_nonneg c)
  · intro c hc
    obtain ⟨i, hi, rfl⟩ := List.getElem_of_mem (show c ∈ onceC ks t from hc)
    rw [onceC_get hi (by have := h.len; omega) (by omega)]
    exact ncol_ok (h.cols _ (List.getElem_mem _)) h.rows
theorem once_le {ks : List Int} {t : TS} (h : okT ks t) : leT (onceT ks t) t := by
  have hl := onceC_len h.len
  refine ⟨rfl, rowsF_le _ _, leL_of hl ?_⟩
  intro i h1 h2
  have hk : i < ks.length := by have := h.len; omega
  rw [show (onceT ks t).cols[i] = ncol ks[i] t.cols[i] t.rows from onceC_get h1 hk h2]
  exact ncol_le (h.cols _ (List.getElem_mem _)) h.rows
theorem once_top {ks : List Int} {t z : TS} (h : okT ks t) (hz : okT ks z) (hf : Fx ks z) (hle : leT z t) : leT z (onceT ks t) := by
  have hl := onceC_len h.len
  have hzl := hle.cols.len
  have hcol : ∀ (i : Nat) (h1 : i < z.cols.length) (h2 : i < (onceC ks t).length), leC z.cols[i] (onceC ks t)[i] := by
    intro i h1 h2
    have hk : i < ks.length := by have := h.len; omega
    rw [onceC_get h2 hk (by omega), ← (hf i hk h1).1]
    exact ncol_mono (hz.cols _ (List.getElem_mem _)) (h.cols _ (List.getElem_mem _)) hz.rows (hle.cols.get i h1 (by omega)) hle.rows
  refine ⟨hle.low, le_rowsF _ _ _ hle.rows ?_, leL_of (by rw [hzl]; exact hl.symm) hcol⟩
  intro c hc
  obtain ⟨i, hi, rfl⟩ := List.getElem_of_mem hc
  have h1 : i < z.cols.length := by omega
  exact Int.le_trans (hf i (by have := h.len; omega) h1).2 (valC_mono (hcol i h1 hi))
theorem once_fx {ks : List Int} {t : TS} (h : okT ks t) (he : onceT ks t = t) : Fx ks t := by
  intro i h1 h2
  have hl := onceC_len h.len
  have ec : onceC ks t = t.cols := congrArg TS.cols he
  have er : rowsF t.rows (onceC ks t) = t.rows := congrArg TS.rows he
  have e1 : (onceC ks t)[i]'(by omega) = t.cols[i] := by simp only [ec]
  rw [onceC_get (by omega) h1 h2] at e1
  refine ⟨e1, ?_⟩
  have := rowsF_val (onceC ks t) t.rows t.cols[i] (by rw [ec]; exact List.getElem_mem _)
  omega
theorem Way.once {ks : List Int} {t n : TS} (h : Way ks t n) : Way ks t (onceT ks n) :=
  ⟨once_ok h.ok, (once_le h.ok).trans h.le, fun z h1 h2 h3 => once_top h.ok h1 h2 (h.top z h1 h2 h3)⟩
/-- One column normalised. -/
def stepT (ks : List Int) (t : TS) (i : Nat) (k : Int) (c : Col) : TS := ⟨t.low, min t.rows (valC (ncol k c t.rows)), t.cols.set i (ncol k c t.rows)⟩
theorem step_ok {ks : List Int} {t : TS} {i : Nat} (h : okT ks t) (h1 : i < ks.length) (h2 : i < t.cols.length) : okT ks (stepT ks t i ks[i] t.cols[i]) := by
  refine ⟨by simp [stepT, h.len], ?_, ?_⟩
  · have := valC_nonneg (ncol ks[i] t.cols[i] t.rows); have := h.rows
    show 0 ≤ min _ _; omega
  · intro c hc
    rcases List.mem_or_eq_of_mem_set hc with hc | rfl
    · exact h.cols c hc
    · exact ncol_ok (h.cols _ (List.getElem_mem _)) h.rows
theorem set_self' {l : List Col} {i : Nat} (h : i < l.length) : l.set i l[i] = l := List.set_getElem_self h
theorem step_le {ks : List Int} {t : TS} {i : Nat} (h : okT ks t) (h1 : i < ks.length) (h2 : i < t.cols.length) : leT (stepT ks t i ks[i] t.cols[i]) t := by
  refine ⟨rfl, by show min _ _ ≤ _; omega, ?_⟩
  have := (leL.refl t.cols).set i (ncol_le (k := ks[i]) (h.cols _ (List.getElem_mem h2)) h.rows)
  rw [set_self' h2] at this
  exact this
theorem step_top {ks : List Int} {t z : TS} {i : Nat} (h : okT ks t) (h1 : i < ks.length) (h2 : i < t.cols.length) (hz : okT ks z) (hf : Fx ks z) (hle : leT z t) : leT z (stepT ks t i ks[i] t.cols[i]) := by
  have hzl := hle.cols.len
  have h3 : i < z.cols.length := by omega
  have hc : leC z.cols[i] (ncol ks[i] t.cols[i] t.rows) := by
    rw [← (hf i h1 h3).1]
    exact ncol_mono (hz.cols _ (List.getElem_mem _)) (h.cols _ (List.getElem_mem _)) hz.rows (hle.cols.get i h3 h2) hle.rows
  refine ⟨hle.low, ?_, ?_⟩
  · have := valC_mono hc; have := (hf i h1 h3).2; have := hle.rows
    show _ ≤ min _ _; omega
  · have := hle.cols.set i hc
    rw [set_self' h3] at this
    exact this
theorem Way.step {ks : List Int} {t n : TS} (h : Way ks t n) {i : Nat} (h1 : i < ks.length) (h2 : i < n.cols.length) : Way ks t (stepT ks n i ks[i] n.cols[i]) :=
  ⟨step_ok h.ok h1 h2, (step_le h.ok h1 h2).trans h.le, fun z p q r => step_top h.ok h1 h2 p q (h.top z p q r)⟩
theorem step_same {ks : List Int} {t : TS} {i : Nat} (h1 : i < ks.length) (h2 : i < t.cols.length) (hc : ncol ks[i] t.cols[i] t.rows = t.cols[i]) (hr : min t.rows (valC (ncol ks[i] t.cols[i] t.rows)) = t.rows) :
    t.rows ≤ valC t.cols[i] := by rw [hc] at hr; omega
theorem step_ne {ks : List Int} {t : TS} {i : Nat} (h1 : i < ks.length) (h2 : i < t.cols.length) (h : ¬ (ncol ks[i] t.cols[i] t.rows = t.cols[i] ∧ min t.rows (valC (ncol ks[i] t.cols[i] t.rows)) = t.rows)) : ¬ stepT ks t i ks[i] t.cols[i] = t := by
  intro e
  apply h
  have ec : t.cols.set i (ncol ks[i] t.cols[i] t.rows) = t.cols := congrArg TS.cols e
  have er : min t.rows (valC (ncol ks[i] t.cols[i] t.rows)) = t.rows := congrArg TS.rows e
  refine ⟨?_, er⟩
  have : (t.cols.set i (ncol ks[i] t.cols[i] t.rows))[i]'(by simpa using h2) = t.cols[i] := by simp only [ec]
  simpa using this
/-- The description normalised. -/
noncomputable def normT (ks : List Int) (t : TS) : TS := @dite TS (∃ n, Gr ks t n) (Classical.propDecidable _) (fun h => Classical.choose h) (fun _ => t)
theorem normT_of {ks : List Int} {t n : TS} (h : Gr ks t n) : normT ks t = n := by
  have he : ∃ n, Gr ks t n := ⟨n, h⟩
  unfold normT
  rw [dif_pos he]
  exact (Classical.choose_spec he).uniq h
theorem once_run {ks : List Int} {t : TS} : ∀ (m : Nat) (n : TS), mT n ≤ m → Way ks t n → ∃ n, Gr ks t n
  | m, n, hm, h => by
    by_cases he : onceT ks n = n
    · exact ⟨n, h.fin (once_fx h.ok he)⟩
    · have := mT_lt (once_le h.ok) (once_ok h.ok) he
      cases m with
      | zero => omega
      | succ m => exact once_run m _ (by omega) h.once
theorem normT_gr {ks : List Int} {t : TS} (h : okT ks t) : Gr ks t (normT ks t) := by
  obtain ⟨n, hn⟩ := once_run (mT t) t (Nat.le_refl _) (Way.start h)
  rw [normT_of hn]; exact hn
end Go.Proofs.YtoodknhlnifnlaaGreatDoor
