/- The arguments' types. -/
import Derived.Test.YtoodknhlnifnlaaGreatDoorBr
import Derived.Test.YtoodknhlnifnlaaGreatDoorCb
set_option linter.all false
set_option linter.unusedVariables false
set_option linter.unusedSimpArgs false
namespace Go.Proofs.YtoodknhlnifnlaaGreatDoor
open Go.RowKit
theorem list_choose {α : Type} {f : α → X} {p : α → Prop} : ∀ {es : List X}, (∀ x ∈ es, ∃ a, x = f a ∧ p a) → ∃ l : List α, es = l.map f ∧ ∀ a ∈ l, p a
  | [], _ => ⟨[], rfl, by simp⟩
  | x :: es, h => by
    obtain ⟨a, ha, hp⟩ := h x (by simp)
    obtain ⟨l, hl, hq⟩ := list_choose (f := f) (p := p) (es := es) (fun y hy => h y (by simp [hy]))
    refine ⟨a :: l, by simp [ha, hl], ?_⟩
    intro b hb
    rcases List.mem_cons.1 hb with rfl | hb
    · exact hp
    · exact hq b hb
theorem is_sl {U b : Nat} {e : TD} {x : X} (h : IsTD U (.sl b e) x) : ∃ es : List X, x = .sl false es ∧ es.length ≤ U ∧ es.length * b ≤ 140737488351232 ∧ es.length ≤ 9223372036854775807 ∧ ∀ y ∈ es, IsTD U e y := by
  obtain ⟨h1, h2⟩ := h
  simp only [HasTD] at h1
  obtain ⟨es, h3, h4⟩ := h1
  rw [h3] at h2
  exact ⟨es, h2, h4⟩
theorem is_int {U : Nat} {k : IntKind} {x : X} (h : IsTD U (.int k) x) : ∃ n, x = .v (.int k n) ∧ k.min ≤ n ∧ n ≤ k.max := by
  obtain ⟨h1, h2⟩ := h
  obtain ⟨n, h3, h4⟩ := h1
  rw [h3] at h2
  exact ⟨n, h2, h4⟩
theorem is_bool {U : Nat} {x : X} (h : IsTD U .bool x) : ∃ n, x = .v (.bool n) := by
  obtain ⟨h1, h2⟩ := h
  obtain ⟨n, h3⟩ := h1
  rw [h3] at h2
  exact ⟨n, h2⟩
theorem is_str {U : Nat} {x : X} (h : IsTD U .str x) : ∃ s : ByteArray, x = .v (.string s) ∧ s.size ≤ U ∧ s.size ≤ 140737488351232 := by
  obtain ⟨h1, h2⟩ := h
  obtain ⟨n, h3, h4⟩ := h1
  rw [h3] at h2
  exact ⟨n, h2, h4⟩
/-- A list of some length. -/
def LenOk (U b n : Nat) : Prop := n ≤ U ∧ n * b ≤ 140737488351232 ∧ n ≤ 9223372036854775807
theorem is_list {α : Type} {U b : Nat} {e : TD} {f : α → X} {p : α → Prop} (hf : ∀ y, IsTD U e y → ∃ a, y = f a ∧ p a) {x : X} (h : IsTD U (.sl b e) x) :
    ∃ l : List α, x = .sl false (l.map f) ∧ LenOk U b l.length ∧ ∀ a ∈ l, p a := by
  obtain ⟨es, rfl, h1, h2, h3, h4⟩ := is_sl h
  obtain ⟨l, rfl, hp⟩ := list_choose (fun y hy => hf y (h4 y hy))
  rw [List.length_map] at h1 h2 h3
  exact ⟨l, rfl, ⟨h1, h2, h3⟩, hp⟩
def i64Ok (n : Int) : Prop := -9223372036854775808 ≤ n ∧ n ≤ 9223372036854775807
theorem i64_min : IntKind.i64.min = -9223372036854775808 := by decide
theorem i64_max : IntKind.i64.max = 9223372036854775807 := by decide
theorem u8_min : IntKind.u8.min = 0 := by decide
theorem u8_max : IntKind.u8.max = 255 := by decide
abbrev tdI : TD := .int .i64
abbrev tdB : TD := .int .u8
abbrev tdKinds : TD := .sl 1 tdB
abbrev tdCol : TD := .st [tdI, tdI, tdI, tdI, tdI]
abbrev tdTS : TD := .st [tdI, tdI, .sl 40 tdCol]
abbrev tdVal : TD := .st [tdB, tdI, .str]
abbrev tdRow : TD := .sl 32 tdVal
abbrev tdRows : TD := .sl 24 tdRow
theorem is_kinds {U : Nat} {x : X} (h : IsTD U tdKinds x) : ∃ l : List Int, x = .sl false (l.map u8) ∧ LenOk U 1 l.length ∧ ∀ k ∈ l, 0 ≤ k ∧ k ≤ 255 :=
  is_list (fun y hy => by
    obtain ⟨n, rfl, h1, h2⟩ := is_int hy
    rw [u8_min] at h1; rw [u8_max] at h2
    exact ⟨n, rfl, h1, h2⟩) h
theorem has_i {U : Nat} {xs : List X} (h : HasTD U tdI xs) : ∃ n, xs = [i6 n] ∧ i64Ok n := by
  obtain ⟨n, h1, h2, h3⟩ := h
  rw [i64_min] at h2; rw [i64_max] at h3
  exact ⟨n, h1, h2, h3⟩
theorem has_b {U : Nat} {xs : List X} (h : HasTD U tdB xs) : ∃ n, xs = [u8 n] ∧ 0 ≤ n ∧ n ≤ 255 := by
  obtain ⟨n, h1, h2, h3⟩ := h
  rw [u8_min] at h2; rw [u8_max] at h3
  exact ⟨n, h1, h2, h3⟩
def Col.ok (c : Col) : Prop := i64Ok c.nulls ∧ i64Ok c.distinct ∧ i64Ok c.degree ∧ i64Ok c.lo ∧ i64Ok c.hi
theorem is_col {U : Nat} {x : X} (h : IsTD U tdCol x) : ∃ c : Col, x = c.enc ∧ c.ok := by
  obtain ⟨h1, h2⟩ := h
  simp only [HasTD, HasTDs] at h1
  obtain ⟨a1, b1, e1, t1, a2, b2, e2, t2, a3, b3, e3, t3, a4, b4, e4, t4, a5, b5, e5, t5, e6⟩ := h1
  obtain ⟨n1, r1, o1⟩ := has_i (U := U) t1
  obtain ⟨n2, r2, o2⟩ := has_i (U := U) t2
  obtain ⟨n3, r3, o3⟩ := has_i (U := U) t3
  obtain ⟨n4, r4, o4⟩ := has_i (U := U) t4
  obtain ⟨n5, r5, o5⟩ := has_i (U := U) t5
  refine ⟨⟨n1, n2, n3, n4, n5⟩, ?_, o1, o2, o3, o4, o5⟩
  rw [h2, e1, e2, e3, e4, e5, e6, r1, r2, r3, r4, r5]; rfl
theorem is_val {U : Nat} {x : X} (h : IsTD U tdVal x) : ∃ v : Val, x = v.enc ∧ v.ok := by
  obtain ⟨h1, h2⟩ := h
  simp only [HasTD, HasTDs] at h1
  obtain ⟨a1, b1, e1, t1, a2, b2, e2, t2, a3, b3, e3, t3, e4⟩ := h1
  obtain ⟨n1, r1, o1⟩ := has_b (U := U) t1
  obtain ⟨n2, r2, o2⟩ := has_i (U := U) t2
  obtain ⟨s3, r3, _⟩ := t3
  refine ⟨⟨n1, n2, s3⟩, ?_, o2⟩
  rw [h2, e1, e2, e3, e4, r1, r2, r3]; rfl
theorem is_ts {U : Nat} {x : X} (h : IsTD U tdTS x) : ∃ t : TS, x = t.enc false ∧ i64Ok t.low ∧ i64Ok t.rows ∧ LenOk U 40 t.cols.length ∧ ∀ c ∈ t.cols, c.ok := by
  obtain ⟨h1, h2⟩ := h
  rw [HasTD, HasTDs] at h1
  obtain ⟨a1, b1, e1, t1, h1⟩ := h1
  rw [HasTDs] at h1
  obtain ⟨a2, b2, e2, t2, h1⟩ := h1
  rw [HasTDs] at h1
  obtain ⟨a3, b3, e3, t3, h1⟩ := h1
  rw [HasTDs] at h1
  obtain ⟨n1, r1, o1⟩ := has_i (U := U) t1
  obtain ⟨n2, r2, o2⟩ := has_i (U := U) t2
  have t3' := t3
  rw [HasTD] at t3'
  obtain ⟨es, r3, _⟩ := t3'
  obtain ⟨l, hl, ho, hc⟩ := is_list (fun y hy => is_col hy) (x := .sl false es) ⟨by rw [cells_sl]; rw [← r3]; exact t3, rfl⟩
  refine ⟨⟨n1, n2, l⟩, ?_, o1, o2, ho, hc⟩
  rw [h2, e1, e2, e3, h1, r1, r2, r3, hl]; rfl
theorem is_row {U : Nat} {x : X} (h : IsTD U tdRow x) : ∃ r : List Val, x = rowX r ∧ LenOk U 32 r.length ∧ ∀ v ∈ r, v.ok := is_list (fun y hy => is_val hy) h
theorem is_rows {U : Nat} {x : X} (h : IsTD U tdRows x) : ∃ rows : List (List Val), x = .sl false (rows.map rowX) ∧ LenOk U 24 rows.length ∧ ∀ r ∈ rows, LenOk U 32 r.length ∧ ∀ v ∈ r, v.ok :=
  is_list (fun y hy => is_row hy) h
theorem rows_ok {U : Nat} {rows : List (List Val)} (h1 : LenOk U 24 rows.length) (h2 : ∀ r ∈ rows, LenOk U 32 r.length ∧ ∀ v ∈ r, v.ok) : rowsOk rows :=
  ⟨h1.2.2, fun r hr => ⟨(h2 r hr).1.2.2, (h2 r hr).2⟩⟩
end Go.Proofs.YtoodknhlnifnlaaGreatDoor
