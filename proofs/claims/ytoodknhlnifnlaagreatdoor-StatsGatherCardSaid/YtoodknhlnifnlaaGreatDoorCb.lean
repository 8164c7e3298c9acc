/- Contracts: values. -/
import Derived.Test.YtoodknhlnifnlaaGreatDoorGo
import Derived.IntWalk
set_option linter.all false
set_option linter.unusedVariables false
set_option linter.unusedSimpArgs false
set_option maxRecDepth 100000
namespace Go.Proofs.YtoodknhlnifnlaaGreatDoor
open Go.RowKit
abbrev u8 (n : Int) : X := .v (.int .u8 n)
abbrev i6 (n : Int) : X := .v (.int .i64 n)
theorem deepL_map {α : Type} {f : α → X} (h : ∀ a, (f a).deep = true) (l : List α) : deepL (l.map f) = true := by
  induction l with
  | nil => rfl
  | cons a l ih => simp [h, ih]
theorem shrL_map {α : Type} {f g : α → X} (h : ∀ a, (f a).shr = g a) (l : List α) : shrL (l.map f) = l.map g := by
  induction l with
  | nil => rfl
  | cons a l ih => simp [h, ih]
@[simp] theorem deepL_u8 (l : List Int) : deepL (l.map u8) = true := deepL_map (by simp) l
@[simp] theorem deepL_i6 (l : List Int) : deepL (l.map i6) = true := deepL_map (by simp) l
@[simp] theorem shrL_u8 (l : List Int) : shrL (l.map u8) = l.map u8 := shrL_map (by simp) l
@[simp] theorem shrL_i6 (l : List Int) : shrL (l.map i6) = l.map i6 := shrL_map (by simp) l
theorem wrap_in {n : Int} (h : -9223372036854775808 ≤ n) (h' : n ≤ 9223372036854775807) : IntKind.i64.wrap n = n := IntWalk.i64_in _ (by omega)
theorem wrap_succ {i n : Nat} (h : i < n) (h' : n ≤ 9223372036854775807) : IntKind.i64.wrap ((i : Int) + 1) = ((i + 1 : Nat) : Int) := by
  rw [wrap_in] <;> omega
theorem get_map {α : Type} (f : α → X) (l : List α) (i : Nat) (h : i < l.length) : (l.map f)[i]? = some (f l[i]) := by simp [h]
/-- A value of the program's language. -/
structure Val where
  kind : Int
  int : Int
  text : ByteArray
abbrev Val.enc (v : Val) : X := .agg [.v (.int .u8 v.kind), .v (.int .i64 v.int), .v (.string v.text)]
@[simp] theorem deepL_val (l : List Val) : deepL (l.map Val.enc) = true := deepL_map (by simp) l
@[simp] theorem shrL_val (l : List Val) : shrL (l.map Val.enc) = l.map Val.enc := shrL_map (by simp) l
def Val.valid (v : Val) : Bool :=
  if v.kind = 0 then decide (v.int = 0) && v.text.toList.isEmpty
  else if v.kind = 1 then v.text.toList.isEmpty
  else if v.kind = 2 then decide (v.int = 0) && decide (v.text.size ≤ 100)
  else if v.kind = 3 then v.text.toList.isEmpty && (decide (v.int = 0) || decide (v.int = 1))
  else false
def Val.ok (v : Val) : Prop := -9223372036854775808 ≤ v.int ∧ v.int ≤ 9223372036854775807
theorem toList_eq (a : ByteArray) : (a.toList == (⟨#[]⟩ : ByteArray).toList) = a.toList.isEmpty := by
  have : (⟨#[]⟩ : ByteArray).toList = [] := by decide +kernel
  rw [this]; cases a.toList <;> rfl
theorem u64_le1 {n : Int} (h : -9223372036854775808 ≤ n) (h' : n ≤ 9223372036854775807) : decide (IntKind.u64.wrap n ≤ 1) = (decide (n = 0) || decide (n = 1)) := by
  have : IntKind.u64.wrap n = n % 18446744073709551616 := by simp [IntKind.wrap, IntKind.bits, IntKind.signed]
  rw [this]
  by_cases h0 : n = 0
  · subst h0; rfl
  · by_cases h1 : n = 1
    · subst h1; rfl
    · simp only [h0, h1, decide_false, Bool.or_self, decide_eq_false_iff_not]; omega
theorem c_value_Valid (v : Val) (hi : v.ok) : call T n_value_Valid [v.enc] = some (.v (.bool v.valid)) := by
  obtain ⟨h1, h2⟩ := hi
  refine go_value_Valid (by simp) ?_
  simp
  repeat' ((first | refine wpC_split (fun h => ?_) (fun h => ?_) | refine wpG_split (fun h => ?_) (fun h => ?_)) <;> (have h' := h; try simp at h') <;> (try simp [*]))
  all_goals (simp_all [Val.valid, toList_eq, u64_le1] <;> omega)
theorem c_jointerref01_Valid (v : Val) : call T n_jointerref01_Valid [v.enc] = some (.v (.bool v.valid)) := by
  refine go_jointerref01_Valid (by simp) ?_
  simp
  repeat' ((first | refine wpC_split (fun h => ?_) (fun h => ?_) | refine wpG_split (fun h => ?_) (fun h => ?_)) <;> (have h' := h; try simp at h') <;> (try simp [*]))
  all_goals (simp_all [Val.valid, toList_eq] <;> omega)
def Val.same (a b : Val) : Bool := decide (a.kind = b.kind) && decide (a.int = b.int) && (a.text.toList == b.text.toList)
theorem c_jointerref01_Same (a b : Val) : call T n_jointerref01_Same [a.enc, b.enc] = some (.v (.bool (a.same b))) := by
  refine go_jointerref01_Same (by simp) ?_
  simp
  repeat' ((first | refine wpC_split (fun h => ?_) (fun h => ?_) | refine wpG_split (fun h => ?_) (fun h => ?_)) <;> (have h' := h; try simp at h') <;> (try simp [*]))
  all_goals simp_all [Val.same]
theorem all_drop {α : Type} {p : α → Bool} {l : List α} {i : Nat} (h : i < l.length) : (l.drop i).all p = (p l[i] && (l.drop (i + 1)).all p) := by
  rw [List.drop_eq_getElem_cons h, List.all_cons]
theorem all_end {α : Type} {p : α → Bool} {l : List α} {i : Nat} (h : l.length ≤ i) : (l.drop i).all p = true := by
  rw [List.drop_eq_nil_of_le h]; rfl
def kindsB (l : List Int) : Bool := l.all fun k => decide (k ≤ 3)
theorem c_jointerref19_Kinds (l : List Int) (hl : l.length ≤ 9223372036854775807) : call T n_jointerref19_Kinds [.sl false (l.map u8)] = some (.v (.bool (kindsB l))) := by
  refine go_jointerref19_Kinds (by simp) ?_
  simp
  refine wp_rounds (σ := Nat) (fun i e s => e 0 = .sl false (l.map u8) ∧ e 3 = i6 i ∧ i ≤ l.length ∧ Hd (kindsB l = kindsB (l.drop i))) (fun i => l.length - i) ?_ 0 _ _ ⟨rfl, rfl, by omega, ⟨rfl⟩⟩
  rintro i e s ⟨h0, h3, hi, hA⟩ ih
  simp [h0, h3]
  refine wpC_split (fun h => ?_) (fun h => ?_) <;> (have h' := h; try simp at h') <;> (try simp [*])
  · replace hA := Hd.mk (hA.out.trans (all_drop h'))
    refine wpC_split (fun g => ?_) (fun g => ?_) <;> (have g' := g; try simp at g') <;> (try simp [*])
    · rw [hA.out]; simp [show ¬ l[i] ≤ 3 by omega]
    · refine ih.out (i + 1) _ _ ?_ (by omega)
      exact ⟨by simp [h0], by simp [wrap_succ h' hl], h', ⟨by rw [hA.out]; simp [g']; rfl⟩⟩
  · rw [hA.out]; exact all_end h'
end Go.Proofs.YtoodknhlnifnlaaGreatDoor

/- Contracts: descriptions and rows that fit kinds. -/
set_option linter.unusedVariables false
set_option linter.unusedSimpArgs false
set_option maxRecDepth 100000
namespace Go.Proofs.YtoodknhlnifnlaaGreatDoor
open Go.RowKit
/-- Where the first one is, or -1. -/
def idxF {α : Type} (p : α → Bool) (l : List α) : Int := if l.any p then (l.findIdx p : Nat) else -1
theorem idxF_found {α : Type} {p : α → Bool} {l : List α} {i : Nat} (h : i < l.length) (hb : ∀ j (hj : j < i), p (l[j]'(by omega)) = false) (hp : p l[i] = true) : idxF p l = i := by
  have h1 : l.any p = true := List.any_eq_true.2 ⟨l[i], List.getElem_mem h, hp⟩
  have h2 : l.findIdx p = i := (List.findIdx_eq h).2 ⟨hp, fun j hj => hb j hj⟩
  simp [idxF, h1, h2]
theorem idxF_none {α : Type} {p : α → Bool} {l : List α} (hb : ∀ j (hj : j < l.length), p (l[j]) = false) : idxF p l = -1 := by
  have h1 : l.any p = false := by
    rw [List.any_eq_false]
    intro x hx
    obtain ⟨j, hj, rfl⟩ := List.mem_iff_getElem.1 hx
    simp [hb j hj]
  simp [idxF, h1]
theorem idxF_any {α : Type} (p : α → Bool) (l : List α) : decide (0 ≤ idxF p l) = l.any p := by
  unfold idxF
  cases l.any p <;> simp
theorem idxF_le {α : Type} (p : α → Bool) (l : List α) : -1 ≤ idxF p l ∧ idxF p l ≤ l.length := by
  unfold idxF
  have := List.findIdx_le_length (p := p) (xs := l)
  split <;> omega
theorem c_stats_listed_1 (k : Int) : call T n_stats_listed_1 [u8 k] = some (.v (.bool (decide (3 < k)))) := by
  refine go_stats_listed_1 (by simp) ?_
  simp
theorem c_IndexFunc_Kind (l : List Int) (hl : l.length ≤ 9223372036854775807) (f : Nat) (p : Int → Bool) (hp : ∀ k, call T f [u8 k] = some (.v (.bool (p k)))) :
    call T n_slices_IndexFunc__api_Kind_api_Kind [.sl false (l.map u8), .fn f []] = some (i6 (idxF p l)) := by
  refine go_slices_IndexFunc__api_Kind_api_Kind (by simp) ?_
  simp
  refine wp_rounds (σ := Nat) (fun i e s => e 0 = .sl false (l.map u8) ∧ e 1 = .fn f [] ∧ e 7 = i6 l.length ∧ e 8 = i6 i ∧ i ≤ l.length ∧ Hd (∀ j (hj : j < i) (h : j < l.length), p l[j] = false)) (fun i => l.length - i) ?_ 0 _ _ ⟨rfl, rfl, rfl, rfl, by omega, ⟨fun _ h => by omega⟩⟩
  rintro i e s ⟨h0, h1, h7, h8, hi, hA⟩ ih
  simp [h0, h1, h7, h8]
  refine wpC_split (fun h => ?_) (fun h => ?_) <;> (have h' := h; try simp at h') <;> (try simp [*])
  · refine wpC_split (fun g => ?_) (fun g => ?_) <;> (have g' := g; try simp at g') <;> (try simp [*])
    · exact (idxF_found h' (fun j hj => hA.out j hj (by omega)) g').symm
    · refine ih.out (i + 1) _ _ ?_ (by omega)
      exact ⟨by simp [h0], by simp [h1], by simp [h7], by simp [wrap_succ h' hl], h', ⟨fun j hj hjl => by
        rcases Nat.lt_or_eq_of_le (Nat.le_of_lt_succ hj) with h | h
        · exact hA.out j h hjl
        · subst h; exact g'⟩⟩
  · exact (idxF_none (fun j hj => hA.out j (by omega) hj)).symm
theorem c_ContainsFunc_Kind (l : List Int) (hl : l.length ≤ 9223372036854775807) (f : Nat) (p : Int → Bool) (hp : ∀ k, call T f [u8 k] = some (.v (.bool (p k)))) :
    call T n_slices_ContainsFunc__api_Kind_api_Kind [.sl false (l.map u8), .fn f []] = some (.v (.bool (l.any p))) := by
  refine go_slices_ContainsFunc__api_Kind_api_Kind (by simp) ?_
  simp [c_IndexFunc_Kind l hl f p hp, idxF_any]
theorem c_stats_listed (l : List Int) (hl : l.length ≤ 9223372036854775807) : call T n_stats_listed [.sl false (l.map u8)] = some (.v (.bool (kindsB l))) := by
  refine go_stats_listed (by simp) ?_
  have e : (l.any fun k => decide (3 < k)) = !kindsB l := by
    rw [kindsB, List.all_eq_not_any_not, Bool.not_not]
    congr 1; funext k; rw [← decide_not]; congr 1; simp
  have := c_ContainsFunc_Kind l hl _ _ c_stats_listed_1
  rw [e] at this
  simp [this]
/-- A number from 0 to the greatest one. -/
def numB (n : Int) : Bool := decide (0 ≤ n) && decide (n ≤ 4611686018427387904)
theorem c_stats_ranged (l : List Int) (hl : l.length ≤ 9223372036854775807) : call T n_stats_ranged [.sl false (l.map i6)] = some (.v (.bool (l.all numB))) := by
  refine go_stats_ranged (by simp) ?_
  generalize hR : l.all numB = R; replace hR := Hd.mk hR
  simp
  refine wp_rounds (σ := Nat) (fun i e s => e 5 = .sl false (l.map i6) ∧ e 6 = i6 l.length ∧ e 7 = i6 i ∧ i ≤ l.length ∧ Hd (R = (l.drop i).all numB)) (fun i => l.length - i) ?_ 0 _ _ ⟨rfl, rfl, rfl, by omega, ⟨hR.out.symm⟩⟩
  rintro i e s ⟨h5, h6, h7, hi, hA⟩ ih
  simp [h5, h6, h7]
  refine wpC_split (fun h => ?_) (fun h => ?_) <;> (have h' := h; try simp at h') <;> (try simp [*])
  · replace hA := Hd.mk (hA.out.trans (all_drop h'))
    refine wpG_split (fun g => ?_) (fun g => ?_) <;> (have g' := g; try simp at g') <;> (try simp [*])
    · rw [hA.out]; simp [numB, show ¬ 0 ≤ l[i] by omega]
    · refine wpC_split (fun k => ?_) (fun k => ?_) <;> (have k' := k; try simp at k') <;> (try simp [*])
      · rw [hA.out]; simp [numB, show ¬ l[i] ≤ 4611686018427387904 by omega]
      · refine ih.out (i + 1) _ _ ?_ (by omega)
        exact ⟨by simp [h5], by simp [h6], by simp [wrap_succ h' hl], h', ⟨by rw [hA.out]; simp [numB, g', k']⟩⟩
  · rw [hA.out]; exact all_end h'
/-- A column's description. -/
structure Col where
  nulls : Int
  distinct : Int
  degree : Int
  lo : Int
  hi : Int
abbrev Col.enc (c : Col) : X := .agg [.v (.int .i64 c.nulls), .v (.int .i64 c.distinct), .v (.int .i64 c.degree), .v (.int .i64 c.lo), .v (.int .i64 c.hi)]
@[simp] theorem deepL_col (l : List Col) : deepL (l.map Col.enc) = true := deepL_map (by simp) l
@[simp] theorem shrL_col (l : List Col) : shrL (l.map Col.enc) = l.map Col.enc := shrL_map (by simp) l
/-- A table's description. -/
structure TS where
  low : Int
  rows : Int
  cols : List Col
abbrev TS.enc (f : Bool) (t : TS) : X := .agg [.v (.int .i64 t.low), .v (.int .i64 t.rows), .sl f (t.cols.map Col.enc)]
@[simp] theorem deepL_ts (f : Bool) (l : List TS) : deepL (l.map (TS.enc f)) = true := deepL_map (by simp) l
@[simp] theorem shrL_ts (f : Bool) (l : List TS) : shrL (l.map (TS.enc f)) = l.map (TS.enc false) := shrL_map (by simp) l
def colB (k : Int) (c : Col) : Bool := numB c.nulls && (numB c.distinct && (numB c.degree && (decide (k = 1) || (decide (c.lo = 0) && decide (c.hi = 0)))))
def colsB : List Int → List Col → Bool
  | k :: ks, c :: cs => colB k c && colsB ks cs
  | _, _ => true
def fitsB (kinds : List Int) (t : TS) : Bool := kindsB kinds && (decide (t.cols.length = kinds.length) && (numB t.low && (numB t.rows && colsB kinds t.cols)))
theorem colsB_drop {ks : List Int} {cs : List Col} {i : Nat} (h : i < ks.length) (h' : i < cs.length) : colsB (ks.drop i) (cs.drop i) = (colB ks[i] cs[i] && colsB (ks.drop (i + 1)) (cs.drop (i + 1))) := by
  rw [List.drop_eq_getElem_cons h, List.drop_eq_getElem_cons h', colsB]
theorem colsB_end {ks : List Int} {cs : List Col} {i : Nat} (h : ks.length ≤ i) : colsB (ks.drop i) (cs.drop i) = true := by
  rw [List.drop_eq_nil_of_le h, colsB]; simp
theorem fits_no {ks : List Int} {t : TS} (h : ¬ t.cols.length = ks.length) : fitsB ks t = false := by simp [fitsB, h]
set_option maxHeartbeats 400000 in
theorem c_stats_Fits (ks : List Int) (t : TS) (hl : ks.length ≤ 9223372036854775807) : call T n_stats_Fits [.sl false (ks.map u8), t.enc false] = some (.v (.bool (fitsB ks t))) := by
  refine go_stats_Fits (by simp) ?_
  generalize hR : fitsB ks t = R; replace hR := Hd.mk hR
  have r2 : ∀ a b : Int, call T n_stats_ranged [.sl false [i6 a, i6 b]] = some (.v (.bool (numB a && numB b))) := fun a b => by
    have := c_stats_ranged [a, b] (by simp)
    simpa using this
  have r3 : ∀ a b c : Int, call T n_stats_ranged [.sl false [i6 a, i6 b, i6 c]] = some (.v (.bool (numB a && (numB b && numB c)))) := fun a b c => by
    have := c_stats_ranged [a, b, c] (by simp)
    simpa using this
  simp [c_stats_listed ks hl]
  refine wpG_split (fun h1 => ?_) (fun h1 => ?_) <;> (have h1' := h1; try simp at h1') <;> (try simp [*])
  · rw [← hR.out]; simp [fitsB, h1']
  refine wpG_split (fun h2 => ?_) (fun h2 => ?_) <;> (have h2' := h2; try simp at h2') <;> (try simp [*])
  · rw [← hR.out]; simp [fitsB, h2']
  refine wpC_split (fun h3 => ?_) (fun h3 => ?_) <;> (have h3' := h3; try simp at h3') <;> (try simp [*])
  · rw [← hR.out]; simp only [fitsB, h1', h2', Bool.true_and, decide_true]; rcases h3' with h | h <;> simp [h]
  obtain ⟨h3, h4⟩ := h3'
  replace hR : Hd (R = colsB (ks.drop 0) (t.cols.drop 0)) := ⟨by rw [← hR.out]; simp [fitsB, h1', h2', h3, h4]⟩
  refine wp_rounds (σ := Nat) (fun i e s => e 0 = .sl false (ks.map u8) ∧ e 28 = .sl false (t.cols.map Col.enc) ∧ e 29 = i6 ks.length ∧ e 30 = i6 i ∧ i ≤ ks.length ∧ Hd (R = colsB (ks.drop i) (t.cols.drop i))) (fun i => ks.length - i) ?_ 0 _ _ ⟨rfl, rfl, by simp [h2'], rfl, by omega, hR⟩
  clear hR
  rintro i e s ⟨h0, h28, h29, h30, hi, hA⟩ ih
  simp [h0, h28, h29, h30]
  refine wpC_split (fun h => ?_) (fun h => ?_) <;> (have h' := h; try simp at h') <;> (try simp [*])
  · have hic : i < t.cols.length := by omega
    replace hA := Hd.mk (hA.out.trans (colsB_drop h' hic))
    refine wpC_split (fun a => ?_) (fun a => ?_) <;> (have a' := a; try simp at a') <;> (try simp [*])
    · rw [hA.out]; simp only [colB]; rcases a' with h | h | h <;> simp [h]
    obtain ⟨a1, a2, a3⟩ := a'
    refine wpG_split (fun b => ?_) (fun b => ?_) <;> (have b' := b; try simp at b') <;> (try simp [*])
    · refine wpG_split (fun c => ?_) (fun c => ?_) <;> (have c' := c; try simp at c') <;> (try simp [*])
      · rw [hA.out]; simp [colB, b', c']
      · refine wpC_split (fun d => ?_) (fun d => ?_) <;> (have d' := d; try simp at d') <;> (try simp [*])
        · rw [hA.out]; simp [colB, b', d']
        · refine ih.out (i + 1) _ _ ?_ (by omega)
          exact ⟨by simp [h0], by simp [h28], by simp [h29], by simp [wrap_succ h' hl], h', ⟨by rw [hA.out]; simp [colB, a1, a2, a3, c', d']⟩⟩
    · refine ih.out (i + 1) _ _ ?_ (by omega)
      exact ⟨by simp [h0], by simp [h28], by simp [h29], by simp [wrap_succ h' hl], h', ⟨by rw [hA.out]; simp [colB, a1, a2, a3, b']⟩⟩
  · rw [hA.out]; exact colsB_end h'
/-- A row that fits. -/
def cellB (k : Int) (v : Val) : Bool := v.valid && (decide (v.kind = 0) || decide (v.kind = k))
def cellsB : List Int → List Val → Bool
  | k :: ks, v :: vs => cellB k v && cellsB ks vs
  | _, _ => true
def rowB (ks : List Int) (r : List Val) : Bool := decide (r.length = ks.length) && cellsB ks r
def fitRowsB (ks : List Int) (rows : List (List Val)) : Bool := kindsB ks && rows.all (rowB ks)
theorem cellsB_drop {ks : List Int} {cs : List Val} {i : Nat} (h : i < ks.length) (h' : i < cs.length) : cellsB (ks.drop i) (cs.drop i) = (cellB ks[i] cs[i] && cellsB (ks.drop (i + 1)) (cs.drop (i + 1))) := by
  rw [List.drop_eq_getElem_cons h, List.drop_eq_getElem_cons h', cellsB]
theorem cellsB_end {ks : List Int} {cs : List Val} {i : Nat} (h : ks.length ≤ i) : cellsB (ks.drop i) (cs.drop i) = true := by
  rw [List.drop_eq_nil_of_le h, cellsB]; simp
abbrev rowX (r : List Val) : X := .sl false (r.map Val.enc)
@[simp] theorem deepL_row (l : List (List Val)) : deepL (l.map rowX) = true := deepL_map (by simp) l
@[simp] theorem shrL_row (l : List (List Val)) : shrL (l.map rowX) = l.map rowX := shrL_map (by simp) l
/-- All values are of the numbers' kinds, and no row is too long. -/
def rowsOk (rows : List (List Val)) : Prop := rows.length ≤ 9223372036854775807 ∧ ∀ r ∈ rows, r.length ≤ 9223372036854775807 ∧ ∀ v ∈ r, v.ok
set_option maxHeartbeats 400000 in
theorem c_jointerref19_FitRows (ks : List Int) (rows : List (List Val)) (hl : ks.length ≤ 9223372036854775807) (ho : rowsOk rows) : call T n_jointerref19_FitRows [.sl false (ks.map u8), .sl false (rows.map rowX)] = some (.v (.bool (fitRowsB ks rows))) := by
  refine go_jointerref19_FitRows (by simp) ?_
  generalize hR : fitRowsB ks rows = R; replace hR := Hd.mk hR
  simp [c_jointerref19_Kinds ks hl]
  refine wpC_split (fun h1 => ?_) (fun h1 => ?_) <;> (have h1' := h1; try simp at h1') <;> (try simp [*])
  · rw [← hR.out]; simp [fitRowsB, h1']
  replace hR : Hd (R = (rows.drop 0).all (rowB ks)) := ⟨by rw [← hR.out]; simp [fitRowsB, h1']⟩
  refine wp_rounds (σ := Nat) (fun i e s => e 0 = .sl false (ks.map u8) ∧ e 1 = .sl false (rows.map rowX) ∧ e 5 = i6 i ∧ i ≤ rows.length ∧ Hd (R = (rows.drop i).all (rowB ks))) (fun i => rows.length - i) ?_ 0 _ _ ⟨rfl, rfl, rfl, by omega, hR⟩
  clear hR
  rintro i e s ⟨e0, e1, e5, hi, hA⟩ ih
  simp [e0, e1, e5]
  refine wpC_split (fun h => ?_) (fun h => ?_) <;> (have h' := h; try simp at h') <;> (try simp [*])
  · replace hA := Hd.mk (hA.out.trans (all_drop h'))
    refine wpC_split (fun a => ?_) (fun a => ?_) <;> (have a' := a; try simp at a') <;> (try simp [*])
    · rw [hA.out]; simp [rowB, a']
    replace hA : Hd (R = (cellsB (ks.drop 0) (rows[i].drop 0) && (rows.drop (i + 1)).all (rowB ks))) := ⟨by rw [hA.out]; simp [rowB, a']⟩
    refine wp_rounds (σ := Nat) (fun j e s => e 0 = .sl false (ks.map u8) ∧ e 1 = .sl false (rows.map rowX) ∧ e 5 = i6 i ∧ e 6 = i6 j ∧ j ≤ ks.length ∧ Hd (R = (cellsB (ks.drop j) (rows[i].drop j) && (rows.drop (i + 1)).all (rowB ks)))) (fun j => ks.length - j) ?_ 0 _ _ ⟨by simp [e0], by simp [e1], by simp [e5], rfl, by omega, hA⟩
    clear hA
    rintro j e s ⟨e0, e1, e5, e6, hj, hA⟩ jh
    simp [e0, e1, e5, e6]
    refine wpC_split (fun g => ?_) (fun g => ?_) <;> (have g' := g; try simp at g') <;> (try simp [*])
    · have hjr : j < rows[i].length := by omega
      simp [c_jointerref01_Valid, h']
      replace hA := Hd.mk (by simpa only [cellsB_drop g' hjr] using hA.out)
      refine wpG_split (fun b => ?_) (fun b => ?_) <;> (have b' := b; try simp at b') <;> (try simp [*])
      · rw [hA.out]; simp [cellB, b']
      have end' : cellB ks[j] rows[i][j] = true → ∀ e' s', e' 0 = .sl false (ks.map u8) → e' 1 = .sl false (rows.map rowX) → e' 5 = i6 i → e' 6 = i6 ((j + 1 : Nat) : Int) → wp T [It.lp jointerref19_FitRows_l2, It.bl 2, It.bl 1,
            It.code (IC.ops jointerref19_FitRows_r5), It.lp jointerref19_FitRows_l1, It.bl 0,
            It.code ((IC.ops jointerref19_FitRows_r14).seq IC.ret)] e' s' (fun e s => dpC s (e 4) = some (X.v (Value.bool R))) := by
        intro hc e' s' x0 x1 x5 x6
        exact jh.out (j + 1) _ _ ⟨x0, x1, x5, x6, g', ⟨by rw [hA.out, hc, Bool.true_and]⟩⟩ (by omega)
      refine wpG_split (fun c => ?_) (fun c => ?_) <;> (have c' := c; try simp at c') <;> (try simp [*])
      · refine wpC_split (fun d => ?_) (fun d => ?_) <;> (have d' := d; try simp at d') <;> (try simp [*])
        · rw [hA.out]; simp [cellB, c', d']
        · exact end' (by simp [cellB, b', d']) _ _ (by simp [e0]) (by simp [e1]) (by simp [e5]) (by simp [wrap_succ g' hl])
      · exact end' (by simp [cellB, b', c']) _ _ (by simp [e0]) (by simp [e1]) (by simp [e5]) (by simp [wrap_succ g' hl])
    · replace hA := Hd.mk (by simpa only [cellsB_end g'] using hA.out)
      refine ih.out (i + 1) _ _ ?_ (by omega)
      exact ⟨by simp [e0], by simp [e1], by simp [e5, wrap_succ h' ho.1], h', ⟨by rw [hA.out]; simp⟩⟩
  · rw [hA.out]; exact all_end h'
set_option maxHeartbeats 400000 in
theorem c_stats_fitRows (ks : List Int) (rows : List (List Val)) (hl : ks.length ≤ 9223372036854775807) (ho : rowsOk rows) : call T n_stats_fitRows [.sl false (ks.map u8), .sl false (rows.map rowX)] = some (.v (.bool (fitRowsB ks rows))) := by
  refine go_stats_fitRows (by simp) ?_
  generalize hR : fitRowsB ks rows = R; replace hR := Hd.mk hR
  simp [c_stats_listed ks hl]
  refine wpC_split (fun h1 => ?_) (fun h1 => ?_) <;> (have h1' := h1; try simp at h1') <;> (try simp [*])
  · rw [← hR.out]; simp [fitRowsB, h1']
  replace hR : Hd (R = (rows.drop 0).all (rowB ks)) := ⟨by rw [← hR.out]; simp [fitRowsB, h1']⟩
  refine wp_rounds (σ := Nat) (fun i e s => e 0 = .sl false (ks.map u8) ∧ e 12 = .sl false (rows.map rowX) ∧ e 13 = i6 rows.length ∧ e 14 = i6 i ∧ i ≤ rows.length ∧ Hd (R = (rows.drop i).all (rowB ks))) (fun i => rows.length - i) ?_ 0 _ _ ⟨rfl, rfl, by simp, rfl, by omega, hR⟩
  clear hR
  rintro i e s ⟨e0, e1, e13, e5, hi, hA⟩ ih
  simp [e0, e1, e5, e13]
  refine wpC_split (fun h => ?_) (fun h => ?_) <;> (have h' := h; try simp at h') <;> (try simp [*])
  · replace hA := Hd.mk (hA.out.trans (all_drop h'))
    refine wpC_split (fun a => ?_) (fun a => ?_) <;> (have a' := a; try simp at a') <;> (try simp [*])
    · rw [hA.out]; simp [rowB, a']
    replace hA : Hd (R = (cellsB (ks.drop 0) (rows[i].drop 0) && (rows.drop (i + 1)).all (rowB ks))) := ⟨by rw [hA.out]; simp [rowB, a']⟩
    refine wp_rounds (σ := Nat) (fun j e s => e 0 = .sl false (ks.map u8) ∧ e 12 = .sl false (rows.map rowX) ∧ e 13 = i6 rows.length ∧ e 14 = i6 i ∧ e 23 = rowX rows[i] ∧ e 24 = i6 ks.length ∧ e 25 = i6 j ∧ j ≤ ks.length ∧ Hd (R = (cellsB (ks.drop j) (rows[i].drop j) && (rows.drop (i + 1)).all (rowB ks)))) (fun j => ks.length - j) ?_ 0 _ _ ⟨by simp [e0], by simp [e1], by simp [e13], by simp [e5], by simp, by simp [a'], rfl, by omega, hA⟩
    clear hA
    rintro j e s ⟨e0, e1, e13, e5, e23, e24, e6, hj, hA⟩ jh
    simp [e0, e1, e5, e6, e13, e23, e24]
    refine wpC_split (fun g => ?_) (fun g => ?_) <;> (have g' := g; try simp at g') <;> (try simp [*])
    · have hjr : j < rows[i].length := by omega
      have hv := (ho.2 rows[i] (List.getElem_mem h')).2 rows[i][j] (List.getElem_mem hjr)
      simp [c_value_Valid _ hv, hjr]
      replace hA := Hd.mk (by simpa only [cellsB_drop g' hjr] using hA.out)
      refine wpG_split (fun b => ?_) (fun b => ?_) <;> (have b' := b; try simp at b') <;> (try simp [*])
      · rw [hA.out]; simp [cellB, b']
      have end' : cellB ks[j] rows[i][j] = true → ∀ e' s', e' 0 = .sl false (ks.map u8) → e' 12 = .sl false (rows.map rowX) → e' 13 = i6 rows.length → e' 14 = i6 i → e' 23 = rowX rows[i] → e' 24 = i6 ks.length → e' 25 = i6 ((j + 1 : Nat) : Int) → wp T [It.lp stats_fitRows_l2, It.bl 2, It.bl 1,
            It.code (IC.ops stats_fitRows_r14), It.lp stats_fitRows_l1, It.bl 0,
            It.code ((IC.ops stats_fitRows_r15).seq IC.ret)] e' s' (fun e s => dpC s (e 4) = some (X.v (Value.bool R))) := by
        intro hc e' s' x0 x1 x2 x3 x4 x5 x6
        exact jh.out (j + 1) _ _ ⟨x0, x1, x2, x3, x4, x5, x6, g', ⟨by rw [hA.out, hc, Bool.true_and]⟩⟩ (by omega)
      refine wpG_split (fun c => ?_) (fun c => ?_) <;> (have c' := c; try simp at c') <;> (try simp [*])
      · refine wpC_split (fun d => ?_) (fun d => ?_) <;> (have d' := d; try simp at d') <;> (try simp [*])
        · rw [hA.out]; simp [cellB, c', d']
        · exact end' (by simp [cellB, b', d']) _ _ (by simp [e0]) (by simp [e1]) (by simp [e13]) (by simp [e5]) (by simp [e23]) (by simp [e24]) (by simp [wrap_succ g' hl])
      · exact end' (by simp [cellB, b', c']) _ _ (by simp [e0]) (by simp [e1]) (by simp [e13]) (by simp [e5]) (by simp [e23]) (by simp [e24]) (by simp [wrap_succ g' hl])
    · replace hA := Hd.mk (by simpa only [cellsB_end g'] using hA.out)
      refine ih.out (i + 1) _ _ ?_ (by omega)
      exact ⟨by simp [e0], by simp [e1], by simp [e13], by simp [e5, wrap_succ h' ho.1], h', ⟨by rw [hA.out]; simp⟩⟩
  · rw [hA.out]; exact all_end h'
end Go.Proofs.YtoodknhlnifnlaaGreatDoor
