/- The arguments' types: schemes, statistics, data. -/
import Derived.Test.YtoodknhlnifnlaaGreatDoorTa
import Derived.Test.YtoodknhlnifnlaaGreatDoorVb
set_option linter.all false
set_option linter.unusedVariables false
set_option linter.unusedSimpArgs false
namespace Go.Proofs.YtoodknhlnifnlaaGreatDoor
open Go.RowKit
theorem has_list {α : Type} {U b : Nat} {e : TD} {f : α → X} {p : α → Prop} (hf : ∀ y, IsTD U e y → ∃ a, y = f a ∧ p a) {xs : List X} (h : HasTD U (.sl b e) xs) :
    ∃ l : List α, xs = [.sl false (l.map f)] ∧ LenOk U b l.length ∧ ∀ a ∈ l, p a := by
  have h' := h
  rw [HasTD] at h'
  obtain ⟨es, r, _⟩ := h'
  obtain ⟨l, hl, ho, hc⟩ := is_list hf (x := .sl false es) ⟨by rw [cells_sl]; rw [← r]; exact h, rfl⟩
  exact ⟨l, by rw [r, hl], ho, hc⟩
theorem is_i {U : Nat} {x : X} (h : IsTD U tdI x) : ∃ n, x = i6 n ∧ i64Ok n := by
  obtain ⟨n, rfl, h1, h2⟩ := is_int h
  rw [i64_min] at h1; rw [i64_max] at h2
  exact ⟨n, rfl, h1, h2⟩
abbrev tdInts : TD := .sl 8 tdI
abbrev tdColD : TD := .st [.str, tdB, .bool, tdI, tdI]
abbrev tdKeys : TD := .sl 24 tdInts
abbrev tdRefD : TD := .st [tdInts, tdI, tdI]
abbrev tdTabD : TD := .st [.str, .sl 40 tdColD, tdKeys, .sl 40 tdRefD, tdInts]
abbrev tdScheme : TD := .sl 112 tdTabD
abbrev tdStats : TD := .sl 40 tdTS
theorem is_colD {U : Nat} {x : X} (h : IsTD U tdColD x) : ∃ c : ColD, x = c.enc ∧ c.name.size ≤ 140737488351232 ∧ c.in64 := by
  obtain ⟨h1, h2⟩ := h
  rw [HasTD, HasTDs] at h1
  obtain ⟨a1, b1, e1, t1, h1⟩ := h1
  simp only [HasTDs] at h1
  obtain ⟨a2, b2, e2, t2, a3, b3, e3, t3, a4, b4, e4, t4, a5, b5, e5, t5, e6⟩ := h1
  simp only [HasTD] at t1 t3
  obtain ⟨s1, r1, _, o1⟩ := t1
  obtain ⟨n2, r2, _⟩ := has_b (U := U) t2
  obtain ⟨n3, r3⟩ := t3
  obtain ⟨n4, r4, o4⟩ := has_i (U := U) t4
  obtain ⟨n5, r5, o5⟩ := has_i (U := U) t5
  refine ⟨⟨s1, n2, n3, n4, n5⟩, ?_, o1, o4, o5⟩
  rw [h2, e1, e2, e3, e4, e5, e6, r1, r2, r3, r4, r5]; rfl
theorem is_key {U : Nat} {x : X} (h : IsTD U tdInts x) : ∃ k : List Int, x = keyX k ∧ LenOk U 8 k.length := by
  obtain ⟨l, r, o, _⟩ := is_list (fun y hy => is_i hy) h
  exact ⟨l, r, o⟩
theorem is_refD {U : Nat} {x : X} (h : IsTD U tdRefD x) : ∃ r : RefD, x = r.enc ∧ r.cols.length ≤ 9223372036854775807 := by
  obtain ⟨h1, h2⟩ := h
  rw [HasTD, HasTDs] at h1
  obtain ⟨a1, b1, e1, t1, h1⟩ := h1
  simp only [HasTDs] at h1
  obtain ⟨a2, b2, e2, t2, a3, b3, e3, t3, e4⟩ := h1
  obtain ⟨l, r1, o1, _⟩ := has_list (fun y hy => is_i hy) t1
  obtain ⟨n2, r2, _⟩ := has_i (U := U) t2
  obtain ⟨n3, r3, _⟩ := has_i (U := U) t3
  refine ⟨⟨l, n2, n3⟩, ?_, o1.2.2⟩
  rw [h2, e1, e2, e3, e4, r1, r2, r3]; rfl
theorem is_tabD {U : Nat} {x : X} (h : IsTD U tdTabD x) : ∃ t : TabD, x = t.enc ∧ t.small ∧ ∀ c ∈ t.cols, c.in64 := by
  obtain ⟨h1, h2⟩ := h
  rw [HasTD, HasTDs] at h1
  obtain ⟨a1, b1, e1, t1, h1⟩ := h1
  rw [HasTDs] at h1
  obtain ⟨a2, b2, e2, t2, h1⟩ := h1
  rw [HasTDs] at h1
  obtain ⟨a3, b3, e3, t3, h1⟩ := h1
  rw [HasTDs] at h1
  obtain ⟨a4, b4, e4, t4, h1⟩ := h1
  rw [HasTDs] at h1
  obtain ⟨a5, b5, e5, t5, e6⟩ := h1
  rw [HasTDs] at e6
  simp only [HasTD] at t1
  obtain ⟨s1, r1, _, o1⟩ := t1
  obtain ⟨l2, r2, o2, c2⟩ := has_list (fun y hy => is_colD hy) t2
  obtain ⟨l3, r3, o3, c3⟩ := has_list (fun y hy => is_key hy) t3
  obtain ⟨l4, r4, o4, c4⟩ := has_list (fun y hy => is_refD hy) t4
  obtain ⟨l5, r5, o5, _⟩ := has_list (fun y hy => is_i hy) t5
  refine ⟨⟨s1, l2, l3, l4, l5⟩, ?_, ⟨by simp; omega, ⟨o2.2.2, fun c hc => ?_⟩, ⟨o3.2.2, fun k hk => (c3 k hk).2.2⟩, ⟨o4.2.2, c4⟩, o5.2.2⟩, fun c hc => (c2 c hc).2⟩
  · rw [h2, e1, e2, e3, e4, e5, e6, r1, r2, r3, r4, r5]; rfl
  · have := c2 c hc
    unfold ColD.small; omega
theorem is_scheme {U : Nat} {x : X} (h : IsTD U tdScheme x) : ∃ s : List TabD, x = .sl false (s.map TabD.enc) ∧ LenOk U 112 s.length ∧ schemeSmall s ∧ ∀ t ∈ s, ∀ c ∈ t.cols, c.in64 := by
  obtain ⟨l, r, o, c⟩ := is_list (fun y hy => is_tabD hy) h
  exact ⟨l, r, o, ⟨o.2.2, fun t ht => (c t ht).1⟩, fun t ht => (c t ht).2⟩
theorem is_stats {U : Nat} {x : X} (h : IsTD U tdStats x) : ∃ st : List TS, x = .sl false (st.map (TS.enc false)) ∧ LenOk U 40 st.length ∧ ∀ t ∈ st, i64Ok t.low ∧ i64Ok t.rows ∧ LenOk U 40 t.cols.length ∧ ∀ c ∈ t.cols, c.ok :=
  is_list (fun y hy => is_ts hy) h
end Go.Proofs.YtoodknhlnifnlaaGreatDoor
