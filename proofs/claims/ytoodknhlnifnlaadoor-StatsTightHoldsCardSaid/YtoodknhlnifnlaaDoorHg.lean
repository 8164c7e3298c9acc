/- Plain law: a description normalised holds for just the same rows. -/
import Derived.Test.YtoodknhlnifnlaaDoorHf
import Derived.Test.YtoodknhlnifnlaaDoorNd
set_option linter.all false
set_option linter.unusedVariables false
set_option linter.unusedSimpArgs false
namespace Go.Proofs.YtoodknhlnifnlaaDoor
theorem lo_min : ∀ {vs : List Val} {m : Int}, m ≤ loV vs → ∀ v ∈ vs, m ≤ v.int := by
  have key : ∀ (l : List Int) (a m : Int), m ≤ l.foldl min a → m ≤ a ∧ ∀ x ∈ l, m ≤ x := by
    intro l
    induction l with
    | nil => intro a m h; exact ⟨h, by simp⟩
    | cons y l ih =>
      intro a m h
      have h' := ih (min a y) m h
      refine ⟨by omega, fun x hx => ?_⟩
      rcases List.mem_cons.1 hx with rfl | hx
      · omega
      · exact h'.2 x hx
  intro vs m h v hv
  exact (key _ _ _ h).2 v.int (List.mem_map.2 ⟨v, hv, rfl⟩)
theorem hi_max : ∀ {vs : List Val} {m : Int}, hiV vs ≤ m → ∀ v ∈ vs, v.int ≤ m := by
  have key : ∀ (l : List Int) (a m : Int), l.foldl max a ≤ m → a ≤ m ∧ ∀ x ∈ l, x ≤ m := by
    intro l
    induction l with
    | nil => intro a m h; exact ⟨h, by simp⟩
    | cons y l ih =>
      intro a m h
      have h' := ih (max a y) m h
      refine ⟨by omega, fun x hx => ?_⟩
      rcases List.mem_cons.1 hx with rfl | hx
      · omega
      · exact h'.2 x hx
  intro vs m h v hv
  exact (key _ _ _ h).2 v.int (List.mem_map.2 ⟨v, hv, rfl⟩)
theorem mem_nz {vs : List Val} {v : Val} : v ∈ nz vs ↔ v ∈ vs ∧ ¬ v.kind = 0 := by simp [nz]
theorem firsts_key {k : Int} {vs : List Val} (hv : ∀ v ∈ vs, v.valid = true ∧ (v.kind = 0 ∨ v.kind = k)) {x : Key} (hx : x ∈ firsts (keys vs)) : ∃ v ∈ nz vs, v.key = x ∧ v.kind = k ∧ v.valid = true ∧ ¬ k = 0 := by
  rw [mem_firsts] at hx
  obtain ⟨v, hm, rfl⟩ := List.mem_map.1 hx
  have h := mem_nz.1 hm
  have h2 := hv v h.1
  rcases h2.2 with h3 | h3
  · exact absurd h3 h.2
  · exact ⟨v, hm, rfl, h3, h2.1, h3 ▸ h.2⟩
theorem cellsB_get : ∀ {ks : List Int} {r : List Val}, cellsB ks r = true → ∀ (i : Nat) (h : i < ks.length) (h' : i < r.length), r[i].valid = true ∧ (r[i].kind = 0 ∨ r[i].kind = ks[i])
  | [], r, _, i, h, _ => by simp at h
  | k :: ks, [], _, i, _, h' => by simp at h'
  | k :: ks, v :: r, hc, i, h, h' => by
    simp only [cellsB, cellB, Bool.and_eq_true, Bool.or_eq_true, decide_eq_true_eq] at hc
    cases i with
    | zero => exact ⟨hc.1.1, hc.1.2⟩
    | succ i => simpa using cellsB_get hc.2 i (by simpa using h) (by simpa using h')
theorem fitRows_col {ks : List Int} {rows : List (List Val)} (h : fitRowsB ks rows = true) {i : Nat} (hi : i < ks.length) : ∀ v ∈ colV rows i, v.valid = true ∧ (v.kind = 0 ∨ v.kind = ks[i]) := by
  have hl := fitRows_len h
  simp only [fitRowsB, Bool.and_eq_true, List.all_eq_true, rowB, decide_eq_true_eq] at h
  intro v hv
  obtain ⟨r, hr, rfl⟩ := List.mem_map.1 hv
  have h1 := hl r hr
  have h2 : i < r.length := by omega
  have := cellsB_get (h.2 r hr).2 i hi h2
  rw [List.getD_eq_getElem?_getD, List.getElem?_eq_getElem h2]
  exact this
theorem distinct_int {vs : List Val} {k lo : Int} {n : Nat} (h : ∀ v ∈ nz vs, v.kind = k ∧ v.text.toList = [] ∧ lo ≤ v.int ∧ v.int < lo + n) : (firsts (keys vs)).length ≤ n := by
  have hm : ∀ x ∈ firsts (keys vs), x.1 = k ∧ x.2.2 = [] ∧ lo ≤ x.2.1 ∧ x.2.1 < lo + n := by
    intro x hx
    rw [mem_firsts] at hx
    obtain ⟨v, hv, rfl⟩ := List.mem_map.1 hx
    exact h v hv
  have := pigeon n lo ((firsts (keys vs)).map fun x => x.2.1) (by
    have hp : (firsts (keys vs)).Pairwise (fun a b => a ≠ b) := firsts_nodup _
    refine List.pairwise_map.2 (List.Pairwise.imp_of_mem (fun {a b} ha hb hab => ?_) hp)
    intro e
    apply hab
    have h1 := hm a ha
    have h2 := hm b hb
    obtain ⟨a1, a2, a3⟩ := a
    obtain ⟨b1, b2, b3⟩ := b
    simp only at h1 h2 e
    obtain ⟨rfl, rfl, _⟩ := h1
    obtain ⟨rfl, rfl, _⟩ := h2
    rw [e]) (fun y hy => by
    obtain ⟨x, hx, rfl⟩ := List.mem_map.1 hy
    have := hm x hx
    exact this.2.2)
  simpa using this
theorem distinct_le_count {k : Int} {c : Col} {vs : List Val} (hv : ∀ v ∈ vs, v.valid = true ∧ (v.kind = 0 ∨ v.kind = k)) (hlen : (vs.length : Int) ≤ 4611686018427387904)
    (hlo : k = 1 → (colS k vs).distinct = 0 ∨ (c.lo ≤ (colS k vs).lo ∧ (colS k vs).hi ≤ c.hi)) : (colS k vs).distinct ≤ countN k c := by
  have hz := (zero_iff k vs).1
  have hn := countN_nonneg k c
  have hb := (colS_bounds k vs).2.2.2.1
  by_cases h0 : keys vs = []
  · have := hz.2 h0; omega
  have hd0 : ¬ (colS k vs).distinct = 0 := fun h => h0 (hz.1 h)
  have hne : nz vs ≠ [] := fun h => h0 (by rw [keys, h]; rfl)
  have hall : ∀ v ∈ nz vs, v.valid = true ∧ v.kind = k ∧ ¬ k = 0 := by
    intro v hm
    have h := mem_nz.1 hm
    have h2 := hv v h.1
    rcases h2.2 with h3 | h3
    · exact absurd h3 h.2
    · exact ⟨h2.1, h3, h3 ▸ h.2⟩
  obtain ⟨u, hu⟩ := List.exists_mem_of_ne_nil _ hne
  obtain ⟨u1, u2, u3⟩ := hall u hu
  by_cases h1 : k = 1
  · subst h1
    have hb' := (hlo rfl).resolve_left hd0
    have elo : (colS 1 vs).lo = loV (nz vs) := by simp [colS, hne]
    have ehi : (colS 1 vs).hi = hiV (nz vs) := by simp [colS, hne]
    rw [elo, ehi] at hb'
    have hr : ∀ v ∈ nz vs, c.lo ≤ v.int ∧ v.int ≤ c.hi := fun v hm => ⟨lo_min hb'.1 v hm, hi_max hb'.2 v hm⟩
    have hu' := hr u hu
    have := distinct_int (vs := vs) (k := 1) (lo := c.lo) (n := (c.hi - c.lo + 1).toNat) (fun v hm => by
      have h2 := hall v hm
      have h3 := hr v hm
      have hval := h2.1
      rw [Val.valid, h2.2.1] at hval
      simp at hval
      exact ⟨h2.2.1, hval, h3.1, by omega⟩)
    have e : (colS 1 vs).distinct = ((firsts (keys vs)).length : Nat) := rfl
    rw [e] at hb ⊢
    simp only [countN]
    rw [if_neg (by omega), if_neg (by omega), if_neg (by omega), if_neg (by omega)]
    omega
  by_cases h2 : k = 2
  · subst h2
    have : countN 2 c = 4611686018427387904 := rfl
    omega
  by_cases h3 : k = 3
  · subst h3
    have := distinct_int (vs := vs) (k := 3) (lo := 0) (n := 2) (fun v hm => by
      have h2 := hall v hm
      have hval := h2.1
      rw [Val.valid, h2.2.1] at hval
      simp at hval
      exact ⟨h2.2.1, hval.1, by omega, by omega⟩)
    have e : (colS 3 vs).distinct = ((firsts (keys vs)).length : Nat) := rfl
    rw [e]
    show _ ≤ (2 : Int)
    omega
  · rw [Val.valid, u2] at u1
    simp [u3, h1, h2, h3] at u1
/-- What rows say of a column, in the form of a normalised one. -/
def zC (k : Int) (c x : Col) : Col := ⟨x.nulls, x.distinct, x.degree, if k = 1 ∧ x.distinct = 0 then 1 else c.lo, if k = 1 ∧ x.distinct = 0 then 0 else c.hi⟩
def zT (ks : List Int) (t : TS) (rows : List (List Val)) : TS := ⟨t.low, rows.length, (List.range ks.length).map fun i => zC (ks.getD i 0) (t.cols.getD i ⟨0, 0, 0, 0, 0⟩) (colS (ks.getD i 0) (colV rows i))⟩
theorem zT_get {ks : List Int} {t : TS} {rows : List (List Val)} {i : Nat} (h : i < (zT ks t rows).cols.length) (h1 : i < ks.length) (h2 : i < t.cols.length) : (zT ks t rows).cols[i] = zC ks[i] t.cols[i] (colS ks[i] (colV rows i)) := by
  simp [zT, List.getD_eq_getElem?_getD, h1, h2]
theorem zT_len (ks : List Int) (t : TS) (rows : List (List Val)) : (zT ks t rows).cols.length = ks.length := by simp [zT]
theorem lo_le_hi {k : Int} {vs : List Val} (hk : k = 1) (hd : 0 < (colS k vs).distinct) : (colS k vs).lo ≤ (colS k vs).hi := by
  subst hk
  have h0 : ¬ keys vs = [] := fun h => by have := (zero_iff 1 vs).1.2 h; omega
  have hne : nz vs ≠ [] := fun h => h0 (by rw [keys, h]; rfl)
  obtain ⟨u, hu⟩ := List.exists_mem_of_ne_nil _ hne
  have elo : (colS 1 vs).lo = loV (nz vs) := by simp [colS, hne]
  have ehi : (colS 1 vs).hi = hiV (nz vs) := by simp [colS, hne]
  rw [elo, ehi]
  have h1 := lo_min (Int.le_refl (loV (nz vs))) u hu
  have h2 := hi_max (Int.le_refl (hiV (nz vs))) u hu
  omega
theorem zT_ok {ks : List Int} {t : TS} {rows : List (List Val)} (hl : t.cols.length = ks.length) (hi : ∀ c ∈ t.cols, loOk c) : okT ks (zT ks t rows) := by
  refine ⟨(zT_len ks t rows).symm, by show (0 : Int) ≤ rows.length; omega, fun c hc => ?_⟩
  obtain ⟨i, h, rfl⟩ := List.getElem_of_mem hc
  have h1 : i < ks.length := by rw [zT_len] at h; exact h
  rw [zT_get h h1 (by omega)]
  have hb := colS_bounds ks[i] (colV rows i)
  obtain ⟨⟨l1, l2⟩, l3, l4⟩ := hi _ (List.getElem_mem (show i < t.cols.length by omega))
  refine ⟨hb.1, hb.2.2.1, hb.2.2.2.2.1, ⟨?_, ?_⟩, ?_, ?_⟩ <;> simp only [zC] <;> split <;> omega
theorem zT_fx {ks : List Int} {t : TS} {rows : List (List Val)} (h : holdsB ks t rows = true) : Fx ks (zT ks t rows) := by
  have hl := fits_len (holdsB_iff.1 h).1
  obtain ⟨hf, hr, h3, h4, h5⟩ := holdsB_iff.1 h
  obtain ⟨_, _, _, hrw, _⟩ := fitsB_iff.1 hf
  have hcap : (rows.length : Int) ≤ 4611686018427387904 := by have := (numB_iff.1 hrw).2; omega
  intro i h1 h2
  have h2' : i < t.cols.length := by omega
  rw [zT_get h2 h1 h2']
  have hb := colS_bounds ks[i] (colV rows i)
  rw [colV_len] at hb
  have hz := zero_iff ks[i] (colV rows i)
  have hc := holdC_iff.1 (h5 i h1 h2')
  have hcnt := distinct_le_count (c := zC ks[i] t.cols[i] (colS ks[i] (colV rows i))) (fitRows_col hr h1) (by rw [colV_len]; exact hcap) (fun hk => by
    rcases hc.2.2.2 with h6 | h6 | h6
    · exact absurd hk h6
    · exact .inl (by omega)
    · by_cases hd : (colS ks[i] (colV rows i)).distinct = 0
      · exact .inl hd
      · refine .inr ?_
        simp only [zC]
        rw [if_neg (fun q => hd q.2), if_neg (fun q => hd q.2)]
        exact h6)
  have hrl := rows_le ks[i] (colV rows i)
  rw [colV_len] at hrl
  have hzz : (colS ks[i] (colV rows i)).distinct = 0 ↔ (colS ks[i] (colV rows i)).degree = 0 := hz.1.trans hz.2.symm
  clear hz hc
  generalize colS ks[i] (colV rows i) = x at *
  generalize t.cols[i] = c at *
  have er : (zT ks t rows).rows = rows.length := rfl
  rw [er]
  generalize (rows.length : Int) = r at *
  generalize ks[i] = k at *
  obtain ⟨b1, b2, b3, b4, b5, b6, _⟩ := hb
  constructor
  · have e1 : (zC k c x).nulls = x.nulls := rfl
    have e2 : (zC k c x).distinct = x.distinct := rfl
    have e3 : (zC k c x).degree = x.degree := rfl
    rcases ncol_cases k (zC k c x) r with ⟨e, q⟩ | ⟨e, q1, q2⟩
    · rw [e]
      have hx : x.distinct = 0 := by
        rw [e2, e3] at q
        rcases q with q | q
        · omega
        · exact hzz.2 (by omega)
      have hy := hzz.1 hx
      simp only [zC, Col.mk.injEq, hx, hy, and_true]
      refine ⟨by omega, ?_, ?_⟩ <;> (by_cases hk : k = 1 <;> simp [hk])
    · rw [e]
      simp only [e1, e2, e3]
      rw [show min x.nulls r = x.nulls by omega, show min x.distinct (min r (countN k (zC k c x))) = x.distinct by omega, show min x.degree r = x.degree by omega]
      rfl
  · have e : valC (zC k c x) = plusN (timesN x.distinct x.degree) x.nulls := rfl
    rw [e]
    have hnn : 0 ≤ x.distinct * x.degree := Int.mul_nonneg b3 b5
    have c1 : clampN x.distinct = x.distinct := by unfold clampN; omega
    have c2 : clampN x.degree = x.degree := by unfold clampN; omega
    unfold plusN timesN
    rw [c1, c2]
    generalize x.distinct * x.degree = m at *
    unfold clampN
    omega
theorem zT_le {ks : List Int} {t : TS} {rows : List (List Val)} (h : holdsB ks t rows = true) : leT (zT ks t rows) t := by
  obtain ⟨hf, hr, h3, h4, h5⟩ := holdsB_iff.1 h
  have hl := fits_len hf
  refine ⟨rfl, h4, leL_of (by rw [zT_len]; omega) (fun i h1 h2 => ?_)⟩
  have hk : i < ks.length := by omega
  rw [zT_get h1 hk h2]
  have hc := holdC_iff.1 (h5 i hk h2)
  refine ⟨hc.1, hc.2.1, hc.2.2.1, ?_⟩
  simp only [zC]
  split
  · exact .inr ⟨rfl, rfl⟩
  · exact .inl ⟨rfl, rfl⟩
/-- The least normalised one. -/
def nilT (ks : List Int) (t : TS) : TS := ⟨t.low, 0, List.zipWith (fun k c => ⟨0, 0, 0, if k = 1 then 1 else c.lo, if k = 1 then 0 else c.hi⟩) ks t.cols⟩
theorem nilT_get {ks : List Int} {t : TS} {i : Nat} (h : i < (nilT ks t).cols.length) (h1 : i < ks.length) (h2 : i < t.cols.length) : (nilT ks t).cols[i] = ⟨0, 0, 0, if ks[i] = 1 then 1 else t.cols[i].lo, if ks[i] = 1 then 0 else t.cols[i].hi⟩ := by simp [nilT]
theorem nilT_len {ks : List Int} {t : TS} (h : ks.length = t.cols.length) : (nilT ks t).cols.length = ks.length := by simp [nilT, h]
theorem nilT_ok {ks : List Int} {t : TS} (hok : okT ks t) : okT ks (nilT ks t) := by
  have hl := hok.len
  have hn := nilT_len hl
  refine ⟨hn.symm, Int.le_refl _, fun c hc => ?_⟩
  obtain ⟨i, h, rfl⟩ := List.getElem_of_mem hc
  have h2 : i < t.cols.length := by omega
  rw [nilT_get h (by omega) h2]
  obtain ⟨_, _, _, ⟨l1, l2⟩, l3, l4⟩ := hok.cols _ (List.getElem_mem h2)
  refine ⟨Int.le_refl _, Int.le_refl _, Int.le_refl _, ⟨?_, ?_⟩, ?_, ?_⟩ <;> simp only <;> split <;> omega
theorem nilT_fx {ks : List Int} {t : TS} (hl : ks.length = t.cols.length) : Fx ks (nilT ks t) := by
  have hn := nilT_len hl
  intro i h1 h2
  rw [nilT_get h2 h1 (by omega)]
  refine ⟨?_, valC_nonneg _⟩
  rw [ncol_z (.inr (by simp [nilT]))]
  simp only [Col.mk.injEq, and_true]
  refine ⟨by simp [nilT], ?_, ?_⟩ <;> (by_cases hk : ks[i] = 1 <;> simp [hk])
theorem nilT_le {ks : List Int} {t : TS} (hok : okT ks t) : leT (nilT ks t) t := by
  have hl := hok.len
  have hn := nilT_len hl
  refine ⟨rfl, hok.rows, leL_of (by omega) (fun i h1 h2 => ?_)⟩
  rw [nilT_get h1 (by omega) h2]
  obtain ⟨c1, c2, c3, _⟩ := hok.cols _ (List.getElem_mem h2)
  refine ⟨c1, c2, c3, ?_⟩
  by_cases hk : ks[i]'(by omega) = 1
  · simp [hk]
  · simp [hk]
theorem norm_fits {ks : List Int} {t : TS} (h : fitsB ks t = true) (hi : ∀ c ∈ t.cols, loOk c) : fitsB ks (normT ks t) = true := by
  have hok := okT_of h hi
  have hg := normT_gr hok
  have hb := hg.top _ (nilT_ok hok) (nilT_fx hok.len) (nilT_le hok)
  generalize normT ks t = n at *
  obtain ⟨hk, hl, hlow, hrow, hcol⟩ := fitsB_iff.1 h
  have hle := hg.le
  have hnl := hg.ok.len
  have hnn := nilT_len hok.len
  rw [fitsB_iff]
  refine ⟨hk, hnl.symm, by rw [hle.low]; exact hlow, ?_, fun i h1 h2 => ?_⟩
  · rw [numB_iff] at hrow ⊢
    exact ⟨hg.ok.rows, by have := hle.rows; omega⟩
  · have h3 : i < t.cols.length := by omega
    have hc := hcol i h1 h3
    rw [colB_iff] at hc ⊢
    obtain ⟨n1, n2, n3, _⟩ := hg.ok.cols _ (List.getElem_mem h2)
    obtain ⟨l1, l2, l3, l4⟩ := hle.cols.get i h2 h3
    refine ⟨⟨n1, by omega⟩, ⟨n2, by omega⟩, ⟨n3, by omega⟩, ?_⟩
    by_cases hk1 : ks[i] = 1
    · exact .inl hk1
    · refine .inr ?_
      have h0 := hc.2.2.2.resolve_left hk1
      obtain ⟨_, _, _, z4⟩ := hb.cols.get i (by omega) h2
      rw [nilT_get (by omega) h1 h3] at z4
      simp only [if_neg hk1] at z4
      omega
theorem norm_holds {ks : List Int} {t : TS} {rows : List (List Val)} (h : fitsB ks t = true) (hi : ∀ c ∈ t.cols, loOk c) : holdsB ks (normT ks t) rows = holdsB ks t rows := by
  have hok := okT_of h hi
  have hg := normT_gr hok
  have hnf := norm_fits h hi
  have hl := fits_len h
  have hle := hg.le
  rw [Bool.eq_iff_iff]
  constructor
  · intro hh
    obtain ⟨_, hr, h3, h4, h5⟩ := holdsB_iff.1 hh
    have hnl := fits_len hnf
    generalize normT ks t = n at *
    refine holdsB_iff.2 ⟨h, hr, by rw [← hle.low]; exact h3, Int.le_trans h4 hle.rows, fun i h1 h2 => ?_⟩
    have h2' : i < n.cols.length := by omega
    have hc := holdC_iff.1 (h5 i h1 h2')
    obtain ⟨l1, l2, l3, l4⟩ := hle.cols.get i h2' h2
    have hlh := lo_le_hi (k := ks[i]) (vs := colV rows i)
    rw [holdC_iff]
    refine ⟨by omega, by omega, by omega, ?_⟩
    by_cases hk : ks[i] = 1
    · have := hlh hk
      by_cases hd : 0 < (colS ks[i] (colV rows i)).distinct
      · have := this hd
        have := hc.2.2.2
        omega
      · exact .inr (.inl (by omega))
    · exact .inl hk
  · intro hh
    have hz := hg.top _ (zT_ok hl hi) (zT_fx hh) (zT_le hh)
    obtain ⟨_, hr, h3, h4, h5⟩ := holdsB_iff.1 hh
    have hnl := fits_len hnf
    have hzl := zT_len ks t rows
    generalize normT ks t = n at *
    refine holdsB_iff.2 ⟨hnf, hr, by rw [hle.low]; exact h3, hz.rows, fun i h1 h2 => ?_⟩
    have h2' : i < t.cols.length := by omega
    have hc := holdC_iff.1 (h5 i h1 h2')
    have hlh := lo_le_hi (k := ks[i]) (vs := colV rows i)
    obtain ⟨l1, l2, l3, l4⟩ := hz.cols.get i (by omega) h2
    rw [zT_get (by omega) h1 h2'] at l1 l2 l3 l4
    simp only [zC] at l1 l2 l3 l4
    rw [holdC_iff]
    refine ⟨l1, l2, l3, ?_⟩
    by_cases hk : ks[i] = 1
    · by_cases hd : 0 < (colS ks[i] (colV rows i)).distinct
      · have h6 := hlh hk hd
        rw [if_neg (by omega), if_neg (by omega)] at l4
        have := hc.2.2.2
        omega
      · exact .inr (.inl (by omega))
    · exact .inl hk
theorem norm_idem {ks : List Int} {t : TS} (hok : okT ks t) : normT ks (normT ks t) = normT ks t := by
  have hg := normT_gr hok
  exact normT_of ((Way.start hg.ok).fin hg.fx)
theorem norm_nulls {ks : List Int} {t : TS} (hok : okT ks t) {i : Nat} (h : i < (normT ks t).cols.length) : (normT ks t).cols[i].nulls ≤ (normT ks t).rows := by
  have hg := normT_gr hok
  have hl := hg.ok.len
  have := (hg.fx i (by omega) h).1
  have e := congrArg Col.nulls this
  have e2 : (ncol (ks[i]'(by omega)) (normT ks t).cols[i] (normT ks t).rows).nulls = min (normT ks t).cols[i].nulls (normT ks t).rows := by
    rcases ncol_cases (ks[i]'(by omega)) (normT ks t).cols[i] (normT ks t).rows with ⟨e, _⟩ | ⟨e, _⟩ <;> rw [e]
  omega
end Go.Proofs.YtoodknhlnifnlaaDoor
