/- Contracts: values. -/
import Derived.Test.YtoodknhlnifnlaaGreatDoorGo
import Derived.IntWalk
set_option linter.all false
set_option linter.unusedVariables false
set_option linter.unusedSimpArgs false
set_option maxRecDepth 100000
namespace Go.Proofs.YtoodknhlnifnlaaGreatDoor
open Go.RowKit
abbrev u8 (n : Int) : X := .v (.int .u8 n)
abbrev i6 (n : Int) : X := .v (.int .i64 n)
theorem deepL_map {α : Type} {f : α → X} (h : ∀ a, (f a).deep = true) (l : List α) : deepL (l.map f) = true := by
  induction l with
  | nil => rfl
  | cons a l ih => simp [h, ih]
theorem shrL_map {α : Type} {f g : α → X} (h : ∀ a, (f a).shr = g a) (l : List α) : shrL (l.map f) = l.map g := by
  induction l with
  | nil => rfl
  | cons a l ih => simp [h, ih]
@[simp] theorem deepL_u8 (l : List Int) : deepL (l.map u8) = true := deepL_map (by simp) l
@[simp] theorem deepL_i6 (l : List Int) : deepL (l.map i6) = true := deepL_map (by simp) l
@[simp] theorem shrL_u8 (l : List Int) : shrL (l.map u8) = l.map u8 := shrL_map (by simp) l
@[simp] theorem shrL_i6 (l : List Int) : shrL (l.map i6) = l.map i6 := shrL_map (by simp) l
theorem wrap_in {n : Int} (h : -9223372036854775808 ≤ n) (h' : n ≤ 9223372036854775807) : IntKind.i64.wrap n = n := IntWalk.i64_in _ (by omega)
theorem wrap_succ {i n : Nat} (h : i < n) (h' : n ≤ 9223372036854775807) : IntKind.i64.wrap ((i : Int) + 1) = ((i + 1 : Nat) : Int) := by
  rw [wrap_in] <;> omega
theorem get_map {α : Type} (f : α → X) (l : List α) (i : Nat) (h : i < l.length) : (l.map f)[i]? = some (f l[i]) := by simp [h]
/-- A value of the program's language. -/
structure Val where
  kind : Int
  int : Int
  text : ByteArray
abbrev Val.enc (v : Val) : X := .agg [.v (.int .u8 v.kind), .v (.int .i64 v.int), .v (.string v.text)]
@[simp] theorem deepL_val (l : List Val) : deepL (l.map Val.enc) = true := deepL_map (by simp) l
@[simp] theorem shrL_val (l : List Val) : shrL (l.map Val.enc) = l.map Val.enc := shrL_map (by simp) l
def Val.valid (v : Val) : Bool :=
  if v.kind = 0 then decide (v.int = 0) && v.text.toList.isEmpty
  else if v.kind = 1 then v.text.toList.isEmpty
  else if v.kind = 2 then decide (v.int = 0) && decide (v.text.size ≤ 100)
  else if v.kind = 3 then v.text.toList.isEmpty && (decide (v.int = 0) || decide (v.int = 1))
  else false
def Val.ok (v : Val) : Prop := -9223372036854775808 ≤ v.int ∧ v.int ≤ 9223372036854775807
theorem toList_eq (a : ByteArray) : (a.toList == (⟨#[]⟩ : ByteArray).toList) = a.toList.isEmpty := by
  have : (⟨#[]⟩ : ByteArray).toList = [] := by decide +kernel
  rw [this]; cases a.toList <;> rfl
theorem u64_le1 {n : Int} (h : -9223372036854775808 ≤ n) (h' : n ≤ 9223372036854775807) : decide (IntKind.u64.wrap n ≤ 1) = (decide (n = 0) || decide (n = 1)) := by
  have : IntKind.u64.wrap n = n % 18446744073709551616 := by simp [IntKind.wrap, IntKind.bits, IntKind.signed]
  rw [this]
  by_cases h0 : n = 0
  · subst h0; rfl
  · by_cases h1 : n = 1
    · subst h1; rfl
    · simp only [h0, h1, decide_false, Bool.or_self, decide_eq_false_iff_not]; omega
theorem c_value_Valid (v : Val) (hi : v.ok) : call T n_value_Valid [v.enc] = some (.v (.bool v.valid)) := by
  obtain ⟨h1, h2⟩ := hi
  refine go_value_Valid (by simp) ?_
  simp
  repeat' ((first | refine wpC_split (fun h => ?_) (fun h => ?_) | refine wpG_split (fun h => ?_) (fun h => ?_)) <;> (have h' := h; try simp at h') <;> (try simp [*]))
  all_goals (simp_all [Val.valid, toList_eq, u64_le1] <;> omega)
theorem c_jointerref01_Valid (v : Val) : call T n_jointerref01_Valid [v.enc] = some (.v (.bool v.valid)) := by
  refine go_jointerref01_Valid (by simp) ?_
  simp
  repeat' ((first | refine wpC_split (fun h => ?_) (fun h => ?_) | refine wpG_split (fun h => ?_) (fun h => ?_)) <;> (have h' := h; try simp at h') <;> (try simp [*]))
  all_goals (simp_all [Val.valid, toList_eq] <;> omega)
def Val.same (a b : Val) : Bool := decide (a.kind = b.kind) && decide (a.int = b.int) && (a.text.toList == b.text.toList)
theorem c_jointerref01_Same (a b : Val) : call T n_jointerref01_Same [a.enc, b.enc] = some (.v (.bool (a.same b))) := by
  refine go_jointerref01_Same (by simp) ?_
  simp
  repeat' ((first | refine wpC_split (fun h => ?_) (fun h => ?_) | refine wpG_split (fun h => ?_) (fun h => ?_)) <;> (have h' := h; try simp at h') <;> (try simp [*]))
  all_goals simp_all [Val.same]
theorem all_drop {α : Type} {p : α → Bool} {l : List α} {i : Nat} (h : i < l.length) : (l.drop i).all p = (p l[i] && (l.drop (i + 1)).all p) := by
  rw [List.drop_eq_getElem_cons h, List.all_cons]
theorem all_end {α : Type} {p : α → Bool} {l : List α} {i : Nat} (h : l.length ≤ i) : (l.drop i).all p = true := by
  rw [List.drop_eq_nil_of_le h]; rfl
def kindsB (l : List Int) : Bool := l.all fun k => decide (k ≤ 3)
theorem c_jointerref19_Kinds (l : List Int) (hl : l.length ≤ 9223372036854775807) : call T n_jointerref19_Kinds [.sl false (l.map u8)] = some (.v (.bool (kindsB l))) := by
  refine go_jointerref19_Kinds (by simp) ?_
  simp
  refine wp_rounds (σ := Nat) (fun i e s => e 0 = .sl false (l.map u8) ∧ e 3 = i6 i ∧ i ≤ l.length ∧ Hd (kindsB l = kindsB (l.drop i))) (fun i => l.length - i) ?_ 0 _ _ ⟨rfl, rfl, by omega, ⟨rfl⟩⟩
  rintro i e s ⟨h0, h3, hi, hA⟩ ih
  simp [h0, h3]
  refine wpC_split (fun h => ?_) (fun h => ?_) <;> (have h' := h; try simp at h') <;> (try simp [*])
  · replace hA := Hd.mk (hA.out.trans (all_drop h'))
    refine wpC_split (fun g => ?_) (fun g => ?_) <;> (have g' := g; try simp at g') <;> (try simp [*])
    · rw [hA.out]; simp [show ¬ l[i] ≤ 3 by omega]
    · refine ih.out (i + 1) _ _ ?_ (by omega)
      exact ⟨by simp [h0], by simp [wrap_succ h' hl], h', ⟨by rw [hA.out]; simp [g']; rfl⟩⟩
  · rw [hA.out]; exact all_end h'
end Go.Proofs.YtoodknhlnifnlaaGreatDoor
