/- The engine, part K: slices that are built, made, written and appended to; variables that are written. -/
import Derived.Test.YtoodknhlnifnlaaGreatDoorJ
set_option linter.all false
set_option linter.unusedVariables false
set_option linter.unusedSimpArgs false
namespace Go.Proofs.YtoodknhlnifnlaaGreatDoor
open Go.RowKit
variable {P : Program}

/-- The cells of a row. -/
def flat (es : List X) : List X := es.flatMap X.cells
theorem flat_len {k : Nat} : ∀ {es : List X}, (∀ e ∈ es, e.cells.length = k) → (flat es).length = es.length * k := by
  intro es
  induction es with
  | nil => intro _; simp [flat]
  | cons e es ih =>
    intro h
    have := ih (fun x hx => h x (by simp [hx]))
    simp only [flat, List.flatMap_cons, List.length_append] at this ⊢
    rw [h e (by simp), this, List.length_cons, Nat.add_mul]
    omega
theorem flat_get {k : Nat} : ∀ {es : List X} {i j : Nat} {e : X}, (∀ e ∈ es, e.cells.length = k) → es[i]? = some e → j < k → (flat es)[i * k + j]? = e.cells[j]? := by
  intro es
  induction es with
  | nil => intro i j e _ h; simp at h
  | cons x es ih =>
    intro i j e h hi hj
    have hx := h x (by simp)
    simp only [flat, List.flatMap_cons]
    cases i with
    | zero =>
      simp at hi; subst hi
      rw [List.getElem?_append_left (by omega)]
      congr 1
      omega
    | succ i =>
      rw [List.getElem?_append_right (by rw [hx, Nat.add_mul]; omega), hx]
      rw [show (i + 1) * k + j - k = i * k + j by rw [Nat.add_mul]; omega]
      exact ih (fun y hy => h y (by simp [hy])) (by simpa using hi) hj
theorem flat_set {k : Nat} {es : List X} {i : Nat} {x : X} (h : ∀ e ∈ es, e.cells.length = k) (hx : x.cells.length = k) (hi : i < es.length) : flat (es.set i x) = spl (flat es) (i * k) x.cells := by
  have hw : ∀ e ∈ es.set i x, e.cells.length = k := by
    intro e he
    rcases List.mem_or_eq_of_mem_set he with he | rfl
    · exact h e he
    · exact hx
  have hle : i * k + x.cells.length ≤ (flat es).length := by
    rw [flat_len h, hx]
    have := Nat.mul_le_mul_right k hi
    rw [Nat.succ_mul] at this; omega
  apply List.ext_getElem?
  intro n
  rw [spl_get _ _ _ _ hle]
  by_cases hk : k = 0
  · subst hk
    have h1 : (flat (es.set i x)).length = 0 := by rw [flat_len hw]; simp
    have h2 : (flat es).length = 0 := by rw [flat_len h]; simp
    rw [List.eq_nil_of_length_eq_zero h1, List.eq_nil_of_length_eq_zero h2]
    simp [hx]
  · have hkp : 0 < k := by omega
    by_cases hn : n < es.length * k
    · have hq : n / k < es.length := (Nat.div_lt_iff_lt_mul hkp).2 hn
      have hn' : n = (n / k) * k + n % k := by rw [Nat.mul_comm]; exact (Nat.div_add_mod n k).symm
      have hm : n % k < k := Nat.mod_lt _ hkp
      have hes : es[n / k]? = some es[n / k] := List.getElem?_eq_getElem hq
      have hl := flat_get h hes hm
      rw [← hn'] at hl
      by_cases hqi : n / k = i
      · have hset : (es.set i x)[n / k]? = some x := by rw [hqi, List.getElem?_set_self (by omega)]
        have hl' := flat_get hw hset hm
        rw [← hn'] at hl'
        rw [hl', if_pos (by rw [hx]; rw [hqi] at hn'; omega)]
        congr 1
        rw [hqi] at hn'; omega
      · have hset : (es.set i x)[n / k]? = some es[n / k] := by rw [List.getElem?_set_ne (Ne.symm hqi)]; exact hes
        have hl' := flat_get hw hset hm
        rw [← hn'] at hl'
        rw [hl', hl, if_neg]
        rintro ⟨h1, h2⟩
        rw [hx] at h2
        have : n / k = i := by
          apply Nat.div_eq_of_lt_le
          · exact h1
          · rw [Nat.add_mul]; omega
        exact hqi this
    · rw [List.getElem?_eq_none (by rw [flat_len hw]; simp; omega), if_neg (by
        rw [hx]
        have := Nat.mul_le_mul_right k hi
        rw [Nat.succ_mul] at this; omega), List.getElem?_eq_none (by rw [flat_len h]; omega)]
theorem flat_one {es : List X} (h : ∀ e ∈ es, e.cells.all X.one = true) : ∀ c ∈ flat es, c.one = true := by
  intro c hc
  obtain ⟨e, he, hce⟩ := List.mem_flatMap.1 hc
  exact (List.all_eq_true.1 (h e he)) c hce

section
variable {w0 : Bs} {sh : Nat → Prop} {nt : Nat} {μ : Nat → Nat} {fr : Nat → Prop} {e : Env} {s : Sto} {a : Act} {w : World}

theorem okEs_spec : ∀ {parts : List (Nat × Operand)} {qs : List (Nat × Ar)}, okEs parts qs = true →
    qs.length = parts.length ∧ ∀ (n : Nat) i x j r, parts[n]? = some (i, x) → qs[n]? = some (j, r) → i = j ∧ okA x r = true := by
  intro parts
  induction parts with
  | nil => intro qs h; cases qs with
    | nil => exact ⟨rfl, by simp⟩
    | cons => simp [okEs] at h
  | cons p parts ih => intro qs h; cases qs with
    | nil => obtain ⟨i, x⟩ := p; simp [okEs] at h
    | cons q qs =>
      obtain ⟨i, x⟩ := p
      obtain ⟨j, r⟩ := q
      simp only [okEs, Bool.and_eq_true, beq_iff_eq] at h
      obtain ⟨⟨h1, h2⟩, h3⟩ := h
      obtain ⟨i1, i2⟩ := ih h3
      refine ⟨by simp [i1], ?_⟩
      intro n i' x' j' r' hn hm
      cases n with
      | zero =>
        simp at hn hm
        obtain ⟨rfl, rfl⟩ := hn
        obtain ⟨rfl, rfl⟩ := hm
        exact ⟨h1, h2⟩
      | succ n => exact i2 n i' x' j' r' (by simpa using hn) (by simpa using hm)

theorem fillE_run (h : Inv w0 sh nt μ fr e s a w) {k : Nat} {l : List Nat} : ∀ {qs : List (Nat × Ar)} {parts : List (Nat × Operand)} (hok : okEs parts qs = true) {es es' : List X} {nm : List Nat} {vs : Array Value},
    (∀ y ∈ es, y.cells.length = k) → (∀ y ∈ es, y.deep = true) → Rep (cxf μ s w sh fr l) (.agg (flat es)) (.agg vs) → fillE e s k es qs = some (es', nm) → (∀ o ∈ nm, o ∈ l) →
    ∃ us, Instr.fill (fun i => some (i * k, k)) vs (parts.map fun (i, x) => (i, a.eval x)) = some us ∧ Rep (cxf μ s w sh fr l) (.agg (flat es')) (.agg us) ∧
      (∀ y ∈ es', y.cells.length = k) ∧ (∀ y ∈ es', y.deep = true) ∧ es'.length = es.length := by
  intro qs
  induction qs with
  | nil =>
    intro parts hok es es' nm vs hw hd hr hf hnm
    obtain ⟨h1, _⟩ := okEs_spec hok
    have : parts = [] := List.eq_nil_of_length_eq_zero (by simpa using h1.symm)
    subst this
    simp only [fillE, Option.some.injEq, Prod.mk.injEq] at hf
    obtain ⟨rfl, rfl⟩ := hf
    exact ⟨vs, rfl, hr, hw, hd, rfl⟩
  | cons q qs ih =>
    intro parts hok es es' nm vs hw hd hr hf hnm
    obtain ⟨j, r⟩ := q
    cases parts with
    | nil => simp [okEs] at hok
    | cons p parts =>
      obtain ⟨i, x⟩ := p
      simp only [okEs, Bool.and_eq_true, beq_iff_eq] at hok
      obtain ⟨⟨rfl, hx⟩, hok⟩ := hok
      simp only [fillE] at hf
      split at hf
      case h_2 => simp at hf
      rename_i y hy
      split at hf
      case isFalse => simp at hf
      rename_i hc
      obtain ⟨hk, hlt, hone⟩ := hc
      split at hf
      case h_2 => simp at hf
      rename_i es2 nm2 hf2
      simp only [Option.some.injEq, Prod.mk.injEq] at hf
      obtain ⟨rfl, rfl⟩ := hf
      obtain ⟨hry, hdy⟩ := h.dpC (okA_rep h.env hx) hy (l := l) (fun o ho => hnm o (by simp [ho]))
      obtain ⟨h1, h2, h3⟩ := rep_cells hry hone
      have hle : i * k + y.cells.length ≤ (flat es).length := by
        rw [flat_len hw, hk]
        have := Nat.mul_le_mul_right k hlt
        rw [Nat.succ_mul] at this; omega
      have hspl := rep_spl hr h1 (by simpa [List.all_eq_true] using hone) h2 hle
      rw [← flat_set hw hk hlt] at hspl
      have hsz : vs.size = (flat es).length := by cases hr with | agg hl _ _ => exact hl.symm
      obtain ⟨us, i1, i2, i3, i4, i5⟩ := ih hok (es := es.set i y) (by
          intro z hz
          rcases List.mem_or_eq_of_mem_set hz with hz | rfl
          · exact hw z hz
          · exact hk) (by
          intro z hz
          rcases List.mem_or_eq_of_mem_set hz with hz | rfl
          · exact hd z hz
          · exact hdy) hspl hf2 (fun o ho => hnm o (by simp [ho]))
      refine ⟨us, ?_, i2, i3, i4, by rw [i5]; simp⟩
      simp only [List.map_cons, Instr.fill]
      rw [if_neg (by simp; omega)]
      exact i1

/-- A row of zero values. -/
theorem zero_row {C : Cx} {z : X} {v : Value} {k : Nat} (hz : okZ v z = true) (hk : z.cells.length = k) (h0 : 0 < k) (hone : z.cells.all X.one = true) (n m : Nat) (hnm : n ≤ m) :
    (∀ y ∈ List.replicate n z, y.cells.length = k) ∧ ((Array.range (m * k)).map (v.cells[· % v.cells.size]!)).size = m * k ∧
    ∀ (i : Nat) x (j : Nat) c u, (List.replicate n z)[i]? = some x → x.cells[j]? = some c → ((Array.range (m * k)).map (v.cells[· % v.cells.size]!))[i * k + j]? = some u → Rep C c u := by
  have hzr := okZ_rep hz C
  obtain ⟨h1, h2, h3⟩ := rep_cells hzr hone
  refine ⟨?_, by simp, ?_⟩
  · intro y hy; rw [List.eq_of_mem_replicate hy]; exact hk
  · intro i x j c u hx hc hu
    have hxz : x = z := List.eq_of_mem_replicate (List.mem_of_getElem? hx)
    subst hxz
    have hj : j < k := by have := (List.getElem?_eq_some_iff.1 hc).1; omega
    have hi : i < n := by have := (List.getElem?_eq_some_iff.1 hx).1; simpa using this
    have hlt : i * k + j < m * k := idx_lt (Nat.lt_of_lt_of_le hi hnm) hj (Nat.le_refl _)
    have hmod : (i * k + j) % v.cells.size = j := by rw [h1, hk, Nat.mul_add_mod', Nat.mod_eq_of_lt hj]
    rw [Array.getElem?_map, Array.getElem?_range] at hu
    simp only [hlt, if_true, Option.map_some, Option.some.injEq] at hu
    rw [hmod] at hu
    refine h2 j c u hc ?_
    rw [← hu]
    have : j < v.cells.size := by omega
    simp [this]
end
end Go.Proofs.YtoodknhlnifnlaaGreatDoor
