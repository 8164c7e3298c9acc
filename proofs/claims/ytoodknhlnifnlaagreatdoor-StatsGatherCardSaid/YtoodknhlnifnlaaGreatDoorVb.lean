/- Schemes: what scheme.Valid says of one. -/
import Derived.Test.YtoodknhlnifnlaaGreatDoorVa
set_option linter.all false
set_option linter.unusedVariables false
set_option linter.unusedSimpArgs false
set_option maxRecDepth 100000
namespace Go.Proofs.YtoodknhlnifnlaaGreatDoor
open Go.RowKit
/-- A truth value of a statement. -/
noncomputable def bP (p : Prop) : Bool := @decide p (Classical.propDecidable p)
theorem bP_spec (p : Prop) : ∃ R, bP p = R ∧ Hd (¬ p → R = false) ∧ Hd (p → R = true) :=
  ⟨bP p, rfl, ⟨fun h => by unfold bP; simp [h]⟩, ⟨fun h => by unfold bP; simp [h]⟩⟩
theorem bP_iff {p : Prop} : bP p = true ↔ p := by unfold bP; simp
theorem bP_false {p : Prop} : bP p = false ↔ ¬ p := by unfold bP; simp
theorem bP_congr {p q : Prop} (h : p ↔ q) : bP p = bP q := by rw [Bool.eq_iff_iff, bP_iff, bP_iff, h]
theorem good_step {P : Nat → Prop} {i : Nat} (hA : ∀ j, j < i → P j) (hc : P i) : ∀ j, j < i + 1 → P j := by
  intro j hj
  rcases Nat.lt_or_eq_of_le (Nat.le_of_lt_succ hj) with h4 | h4
  · exact hA j h4
  · subst h4; exact hc
theorem no_one {P : Nat → Prop} : ∀ j, j < 0 → P j := fun j h => by omega
structure ColD where
  name : ByteArray
  kind : Int
  nn : Bool
  lo : Int
  hi : Int
abbrev ColD.enc (c : ColD) : X := .agg [.v (.string c.name), .v (.int .u8 c.kind), .v (.bool c.nn), .v (.int .i64 c.lo), .v (.int .i64 c.hi)]
structure RefD where
  cols : List Int
  table : Int
  key : Int
abbrev RefD.enc (r : RefD) : X := .agg [.sl false (r.cols.map i6), .v (.int .i64 r.table), .v (.int .i64 r.key)]
abbrev keyX (k : List Int) : X := .sl false (k.map i6)
structure TabD where
  name : ByteArray
  cols : List ColD
  keys : List (List Int)
  refs : List RefD
  idx : List Int
abbrev TabD.enc (t : TabD) : X := .agg [.v (.string t.name), .sl false (t.cols.map ColD.enc), .sl false (t.keys.map keyX), .sl false (t.refs.map RefD.enc), .sl false (t.idx.map i6)]
@[simp] theorem deepL_ColD (l : List ColD) : deepL (l.map ColD.enc) = true := deepL_map (by simp) l
@[simp] theorem shrL_ColD (l : List ColD) : shrL (l.map ColD.enc) = l.map ColD.enc := shrL_map (by simp) l
@[simp] theorem deepL_RefD (l : List RefD) : deepL (l.map RefD.enc) = true := deepL_map (by simp) l
@[simp] theorem shrL_RefD (l : List RefD) : shrL (l.map RefD.enc) = l.map RefD.enc := shrL_map (by simp) l
@[simp] theorem deepL_keyX (l : List (List Int)) : deepL (l.map keyX) = true := deepL_map (by simp) l
@[simp] theorem shrL_keyX (l : List (List Int)) : shrL (l.map keyX) = l.map keyX := shrL_map (by simp) l
@[simp] theorem deepL_TabD (l : List TabD) : deepL (l.map TabD.enc) = true := deepL_map (by simp) l
@[simp] theorem shrL_TabD (l : List TabD) : shrL (l.map TabD.enc) = l.map TabD.enc := shrL_map (by simp) l
/-- Numbers of n columns, each greater than the one before it. -/
def Rising (l : List Int) (n : Int) : Prop := ∀ (i : Nat) (h : i < l.length), 0 ≤ l[i] ∧ l[i] < n ∧ ∀ (h0 : 0 < i), l[i - 1] < l[i]
theorem wrap_pred {i n : Nat} (h : i < n) (h' : n ≤ 9223372036854775807) (h0 : 0 < i) : IntKind.i64.wrap ((i : Int) - 1) = ((i - 1 : Nat) : Int) := by
  rw [wrap_in] <;> omega
set_option maxHeartbeats 1000000 in
theorem c_scheme_rising (l : List Int) (n : Int) (hl : l.length ≤ 9223372036854775807) : call T n_scheme_rising [.sl false (l.map i6), i6 n] = some (.v (.bool (bP (Rising l n)))) := by
  refine go_scheme_rising (by simp) ?_
  obtain ⟨R, hR, hF, hT⟩ := bP_spec (Rising l n)
  rw [hR]; clear hR
  simp
  refine wp_rounds (σ := Nat) (fun i e s => e 0 = .sl false (l.map i6) ∧ e 1 = i6 n ∧ e 7 = .sl false (l.map i6) ∧ e 8 = i6 l.length ∧ e 9 = i6 i ∧ i ≤ l.length ∧ Hd (∀ (j : Nat) (h : j < l.length), j < i → 0 ≤ l[j] ∧ l[j] < n ∧ ∀ (h0 : 0 < j), l[j - 1] < l[j])) (fun i => l.length - i) ?_ 0 _ _
    ⟨by simp, by simp, by simp, by simp, by simp, by omega, ⟨fun j h h' => by omega⟩⟩
  rintro i e s ⟨e0, e1, e7, e8, e9, hi, hA⟩ ih
  simp [e0, e1, e7, e8, e9]
  refine wpC_split (fun q => ?_) (fun q => ?_) <;> (have q' := q; try simp at q') <;> (try simp [*])
  · have step : (0 ≤ l[i] ∧ l[i] < n ∧ ∀ (h0 : 0 < i), l[i - 1] < l[i]) → ∀ e' s', e' 0 = .sl false (l.map i6) → e' 1 = i6 n → e' 7 = .sl false (l.map i6) → e' 8 = i6 l.length → e' 9 = i6 ((i + 1 : Nat) : Int) → wp T [.lp scheme_rising_l1, .bl 0, .code ((IC.ops scheme_rising_r7).seq IC.ret)] e' s' (fun e s => dpC s (e 4) = some (.v (.bool R))) := by
      intro hc e' s' x0 x1 x7 x8 x9
      refine ih.out (i + 1) _ _ ⟨x0, x1, x7, x8, x9, q', ⟨fun j h hj => ?_⟩⟩ (by omega)
      rcases Nat.lt_or_eq_of_le (Nat.le_of_lt_succ hj) with h4 | h4
      · exact hA.out j h h4
      · subst h4; exact hc
    replace step := Hd.mk step
    have bad : ¬ (0 ≤ l[i] ∧ l[i] < n ∧ ∀ (h0 : 0 < i), l[i - 1] < l[i]) → R = false := fun h => hF.out (fun hh => h (hh i q'))
    replace bad := Hd.mk bad
    refine wpG_split (fun b1 => ?_) (fun b1 => ?_) <;> (have b1' := b1; try simp at b1') <;> (try simp [*])
    · exact bad.out (by omega)
    refine wpG_split (fun b2 => ?_) (fun b2 => ?_) <;> (have b2' := b2; try simp at b2') <;> (try simp [*])
    · exact bad.out (by omega)
    refine wpG_split (fun b3 => ?_) (fun b3 => ?_) <;> (have b3' := b3; try simp at b3') <;> (try simp [*])
    · have hp := wrap_pred q' hl b3'
      have hq : i - 1 < l.length := by omega
      simp [hp, hq]
      refine wpC_split (fun b4 => ?_) (fun b4 => ?_) <;> (have b4' := b4; try simp at b4') <;> (try simp [*])
      · exact bad.out (fun h => by have := h.2.2 b3'; omega)
      · exact step.out ⟨by omega, by omega, fun _ => by omega⟩ _ _ (by simp [e0]) (by simp [e1]) (by simp [e7]) (by simp [e8]) (by simp [wrap_succ q' hl])
    · have hw : IntKind.i64.wrap 1 = 1 := by rw [wrap_in] <;> omega
      subst b3'
      exact step.out ⟨by omega, by omega, fun _ => by omega⟩ _ _ (by simp [e0]) (by simp [e1]) (by simp [e7]) (by simp [e8]) (by simp [e9, hw])
  · exact hT.out (fun j h => hA.out j h (by omega))
/-- A map in which something is looked for. -/
theorem mfind_gen {α β : Type} {ks : List LK} {ag : Bool} {kx : α → X} {vx : β → X} {eq : α → α → Bool} (h : ∀ a b, eqX ks ag (kx a) (kx b) = some (eq a b)) (hk : ∀ a, okKey ks ag (kx a) = true) (a : α) :
    ∀ es : List (α × β), mfind ks ag (kx a) (es.map fun p => (kx p.1, vx p.2)) = some (es.findIdx? fun p => eq a p.1)
  | [] => by simp [mfind, hk]
  | p :: es => by
    simp only [List.map_cons, mfind, h, List.findIdx?_cons]
    cases hs : eq a p.1
    · simp only [Bool.false_eq_true, if_false]; rw [mfind_gen h hk a es]
    · simp
theorem nodup_bad {α κ : Type} {key : α → κ} {l : List α} {i : Nat} (h : i < l.length) (hm : ∃ b ∈ l.take i, key b = key l[i]) : ¬ (l.map key).Nodup := by
  obtain ⟨b, hb, he⟩ := hm
  obtain ⟨j, hj, rfl⟩ := List.getElem_of_mem hb
  intro hn
  have hjl : j < l.length := by simp at hj; omega
  have hji : j < i := by simp at hj; omega
  rw [List.getElem_take] at he
  have h1 : (l.map key)[j]'(by simpa using hjl) = (l.map key)[i]'(by simpa using h) := by simpa using he
  have := (List.getElem_inj hn).1 h1
  omega
theorem nodup_step {α κ : Type} {key : α → κ} {l : List α} {i : Nat} (h : i < l.length) (hn : ((l.take i).map key).Nodup) (hm : ∀ b ∈ l.take i, ¬ key b = key l[i]) : ((l.take (i + 1)).map key).Nodup := by
  rw [List.take_succ_eq_append_getElem h, List.map_append, List.nodup_append]
  refine ⟨hn, by simp, fun a ha b hb => ?_⟩
  obtain ⟨x, hx, rfl⟩ := List.mem_map.1 ha
  simp at hb
  subst hb
  exact hm x hx
theorem nodup_bad' {l : List Int} {i : Nat} (h : i < l.length) (hm : ∃ b ∈ l.take i, b = l[i]) : ¬ l.Nodup := by
  have := nodup_bad (key := fun b : Int => b) h hm; simpa using this
theorem nodup_step' {l : List Int} {i : Nat} (h : i < l.length) (hn : (l.take i).Nodup) (hm : ∀ b ∈ l.take i, ¬ b = l[i]) : (l.take (i + 1)).Nodup := by
  have := nodup_step (key := fun b : Int => b) h (by simpa using hn) hm; simpa using this
def trueX (b : X) : X × X := (b, .v (.bool true))
abbrev strX (b : ByteArray) : X := .v (.string b)
theorem deepL_strX (l : List ByteArray) : deepL (l.map strX) = true := deepL_map (by simp) l
theorem mfind_str (b : ByteArray) (es : List ByteArray) : mfind [.s] false (.v (.string b)) (es.map fun a => (strX a, .v (.bool true))) = some (es.findIdx? fun a => b.toList == a.toList) := by
  have := mfind_gen (ks := [.s]) (ag := false) (kx := strX) (vx := fun _ : Unit => .v (.bool true)) (eq := fun a b => a.toList == b.toList) (fun a b => rfl) (fun a => rfl) b (es.map fun a => (a, ()))
  simpa [List.map_map, Function.comp_def, List.findIdx?_map] using this
theorem mfind_int (b : Int) (es : List Int) : mfind [.i] false (i6 b) (es.map fun a => (i6 a, .v (.bool true))) = some (es.findIdx? fun a => b == a) := by
  have := mfind_gen (ks := [.i]) (ag := false) (kx := i6) (vx := fun _ : Unit => .v (.bool true)) (eq := fun a b => a == b) (fun a b => by simp [eqX, eqV]) (fun a => rfl) b (es.map fun a => (a, ()))
  simpa [List.map_map, Function.comp_def, List.findIdx?_map] using this
set_option maxHeartbeats 1000000 in
theorem c_scheme_distinct_string (l : List ByteArray) (hl : l.length ≤ 9223372036854775807) : call T n_scheme_distinct_string [.sl false (l.map strX)] = some (.v (.bool (bP (l.map (·.toList)).Nodup))) := by
  refine go_scheme_distinct_string (by simp) ?_
  obtain ⟨R, hR, hF, hT⟩ := bP_spec (l.map (·.toList)).Nodup
  rw [hR]; clear hR
  simp
  refine wp_rounds (σ := Nat) (fun i e s => e 3 = .mp 8 1 ∧ e 9 = .sl false (l.map strX) ∧ e 10 = i6 l.length ∧ e 11 = i6 i ∧ (∃ n, s 8 = ⟨1, true, some (.map ((l.take i).map fun a => (strX a, .v (.bool true)))), n⟩) ∧ i ≤ l.length ∧ Hd (((l.take i).map (·.toList)).Nodup)) (fun i => l.length - i) ?_ 0 _ _
    ⟨by simp, by simp, by simp, by simp, ⟨_, by simp; rfl⟩, by omega, ⟨by simp⟩⟩
  rintro i e s ⟨e3, e9, e10, e11, ⟨n8, s8⟩, hi, hA⟩ ih
  generalize hes : l.take i = es at s8 hA
  replace hes := Hd.mk hes
  simp [e3, e9, e10, e11, s8]
  refine wpC_split (fun q => ?_) (fun q => ?_) <;> (have q' := q; try simp at q') <;> (try simp [*])
  · have hf := mfind_str l[i] es
    have hb := fun h => hF.out (nodup_bad (key := fun b : ByteArray => b.toList) q' h)
    rw [hes.out] at hb
    replace hb := Hd.mk hb
    have hn := fun h => nodup_step (key := fun b : ByteArray => b.toList) q' (by rw [hes.out]; exact hA.out) h
    rw [hes.out] at hn
    replace hn := Hd.mk hn
    cases hx : es.findIdx? fun a => l[i].toList == a.toList with
    | none =>
      rw [hx] at hf
      have hx' := Hd.mk (List.findIdx?_eq_none_iff.1 hx)
      simp [hf, e3, e9, e10, e11, s8]
      refine ih.out (i + 1) _ _ ⟨by simp [e3], by simp [e9], by simp [e10], by simp [wrap_succ q' hl], ?_, q', ⟨hn.out (fun b hb he => ?_)⟩⟩ (by omega)
      · rw [List.take_succ_eq_append_getElem q', hes.out]
        exact so_mk (by simp [s8]) (by simp [s8]) (by simp [s8])
      · have := hx'.out b hb
        simp [← he] at this
    | some j =>
      rw [hx] at hf
      obtain ⟨hj, h1, _⟩ := List.findIdx?_eq_some_iff_getElem.1 hx
      have hv : (List.map (fun a => (strX a, X.v (Value.bool true))) es)[j]? = some (strX es[j], .v (.bool true)) := by simp [hj]
      replace h1 := Hd.mk h1
      simp [hf, hj, e3, e9, e10, e11, s8]
      exact hb.out ⟨es[j], List.getElem_mem hj, by have := h1.out; simp at this; exact this.symm⟩
  · replace hA := Hd.mk (hes.out ▸ hA.out)
    rw [List.take_of_length_le q'] at hA
    exact hT.out hA.out
set_option maxHeartbeats 1000000 in
theorem c_scheme_distinct_int (l : List Int) (hl : l.length ≤ 9223372036854775807) : call T n_scheme_distinct_int [.sl false (l.map i6)] = some (.v (.bool (bP l.Nodup))) := by
  refine go_scheme_distinct_int (by simp) ?_
  obtain ⟨R, hR, hF, hT⟩ := bP_spec l.Nodup
  rw [hR]; clear hR
  simp
  refine wp_rounds (σ := Nat) (fun i e s => e 3 = .mp 8 1 ∧ e 9 = .sl false (l.map i6) ∧ e 10 = i6 l.length ∧ e 11 = i6 i ∧ (∃ n, s 8 = ⟨1, true, some (.map ((l.take i).map fun a => (i6 a, .v (.bool true)))), n⟩) ∧ i ≤ l.length ∧ Hd ((l.take i).Nodup)) (fun i => l.length - i) ?_ 0 _ _
    ⟨by simp, by simp, by simp, by simp, ⟨_, by simp; rfl⟩, by omega, ⟨by simp⟩⟩
  rintro i e s ⟨e3, e9, e10, e11, ⟨n8, s8⟩, hi, hA⟩ ih
  generalize hes : l.take i = es at s8 hA
  replace hes := Hd.mk hes
  simp [e3, e9, e10, e11, s8]
  refine wpC_split (fun q => ?_) (fun q => ?_) <;> (have q' := q; try simp at q') <;> (try simp [*])
  · have hf := mfind_int l[i] es
    have hb := fun h => hF.out (nodup_bad' q' h)
    rw [hes.out] at hb
    replace hb := Hd.mk hb
    have hn := fun h => nodup_step' q' (by rw [hes.out]; exact hA.out) h
    rw [hes.out] at hn
    replace hn := Hd.mk hn
    cases hx : es.findIdx? fun a => l[i] == a with
    | none =>
      rw [hx] at hf
      have hx' := Hd.mk (List.findIdx?_eq_none_iff.1 hx)
      simp [hf, e3, e9, e10, e11, s8]
      refine ih.out (i + 1) _ _ ⟨by simp [e3], by simp [e9], by simp [e10], by simp [wrap_succ q' hl], ?_, q', ⟨hn.out (fun b hb he => ?_)⟩⟩ (by omega)
      · rw [List.take_succ_eq_append_getElem q', hes.out]
        exact so_mk (by simp [s8]) (by simp [s8]) (by simp [s8])
      · have := hx'.out b hb
        simp [← he] at this
    | some j =>
      rw [hx] at hf
      obtain ⟨hj, h1, _⟩ := List.findIdx?_eq_some_iff_getElem.1 hx
      have hv : (List.map (fun a => (i6 a, X.v (Value.bool true))) es)[j]? = some (i6 es[j], .v (.bool true)) := by simp [hj]
      replace h1 := Hd.mk h1
      simp [hf, hj, e3, e9, e10, e11, s8]
      exact hb.out ⟨es[j], List.getElem_mem hj, by have := h1.out; simp at this; exact this.symm⟩
  · replace hA := Hd.mk (hes.out ▸ hA.out)
    rw [List.take_of_length_le q'] at hA
    exact hT.out hA.out
@[simp] theorem deepL_nameT (l : List TabD) : deepL (l.map fun t => strX t.name) = true := deepL_map (by simp) l
@[simp] theorem deepL_nameC (l : List ColD) : deepL (l.map fun t => strX t.name) = true := deepL_map (by simp) l
@[simp] theorem shrL_nameT (l : List TabD) : shrL (l.map fun t => strX t.name) = l.map fun t => strX t.name := shrL_map (by simp) l
@[simp] theorem shrL_nameC (l : List ColD) : shrL (l.map fun t => strX t.name) = l.map fun t => strX t.name := shrL_map (by simp) l
theorem c_scheme_Valid_1 (t : TabD) : call T n_scheme_Valid_1 [t.enc] = some (.v (.string t.name)) := by
  refine go_scheme_Valid_1 (by simp) ?_
  simp
set_option maxHeartbeats 1000000 in
theorem c_scheme_mapped_Table (l : List TabD) (hl : l.length ≤ 8796093022208) : call T n_scheme_mapped_api_Table_string [.sl false (l.map TabD.enc), .fn n_scheme_Valid_1 []] = some (.sl true (l.map fun t => strX t.name)) := by
  refine go_scheme_mapped_api_Table_string (by simp) ?_
  simp [show (l.length : Int) ≤ 8796093022208 by omega]
  refine wp_rounds (σ := Nat) (fun i e s => e 1 = .fn n_scheme_Valid_1 [] ∧ (∃ g, e 5 = .ref 10 g 1 0 i ∧ ∃ n, s 10 = ⟨g, true, some (.row 1 ((l.take i).map fun t => strX t.name)), n⟩) ∧ e 11 = .sl false (l.map TabD.enc) ∧ e 12 = i6 l.length ∧ e 13 = i6 i ∧ i ≤ l.length) (fun i => l.length - i) ?_ 0 _ _
    ⟨by simp, ⟨1, by simp, _, by simp; rfl⟩, by simp, by simp, by simp, by omega⟩
  rintro i e s ⟨e1, ⟨g, e5, n, s10⟩, e11, e12, e13, hi⟩ ih
  have hlen : (l.take i).length = i := by rw [List.length_take]; omega
  generalize hes : l.take i = es at s10 hlen
  replace hes := Hd.mk hes
  simp [e1, e5, e11, e12, e13, s10]
  refine wpC_split (fun q => ?_) (fun q => ?_) <;> (have q' := q; try simp at q') <;> (try simp [*])
  · simp [c_scheme_Valid_1, e1, e5, e11, e12, e13, s10, hlen, show i + 1 ≤ 8796093022208 by omega]
    refine ih.out (i + 1) _ _ ⟨by simp [e1], ⟨g + 1, by simp, ?_⟩, by simp [e11], by simp [e12], by simp [wrap_succ q' (by omega : l.length ≤ 9223372036854775807)], q'⟩ (by omega)
    rw [List.take_succ_eq_append_getElem q', hes.out]
    exact so_mk (by simp [s10]) (by simp [s10]) (by simp [s10])
  · have he := hes.out
    rw [List.take_of_length_le q'] at he
    rw [← hlen, he]; simp
theorem c_scheme_validTable_1 (t : ColD) : call T n_scheme_validTable_1 [t.enc] = some (.v (.string t.name)) := by
  refine go_scheme_validTable_1 (by simp) ?_
  simp
set_option maxHeartbeats 1000000 in
theorem c_scheme_mapped_Column (l : List ColD) (hl : l.length ≤ 8796093022208) : call T n_scheme_mapped_api_Column_string [.sl false (l.map ColD.enc), .fn n_scheme_validTable_1 []] = some (.sl true (l.map fun t => strX t.name)) := by
  refine go_scheme_mapped_api_Column_string (by simp) ?_
  simp [show (l.length : Int) ≤ 8796093022208 by omega]
  refine wp_rounds (σ := Nat) (fun i e s => e 1 = .fn n_scheme_validTable_1 [] ∧ (∃ g, e 5 = .ref 10 g 1 0 i ∧ ∃ n, s 10 = ⟨g, true, some (.row 1 ((l.take i).map fun t => strX t.name)), n⟩) ∧ e 11 = .sl false (l.map ColD.enc) ∧ e 12 = i6 l.length ∧ e 13 = i6 i ∧ i ≤ l.length) (fun i => l.length - i) ?_ 0 _ _
    ⟨by simp, ⟨1, by simp, _, by simp; rfl⟩, by simp, by simp, by simp, by omega⟩
  rintro i e s ⟨e1, ⟨g, e5, n, s10⟩, e11, e12, e13, hi⟩ ih
  have hlen : (l.take i).length = i := by rw [List.length_take]; omega
  generalize hes : l.take i = es at s10 hlen
  replace hes := Hd.mk hes
  simp [e1, e5, e11, e12, e13, s10]
  refine wpC_split (fun q => ?_) (fun q => ?_) <;> (have q' := q; try simp at q') <;> (try simp [*])
  · simp [c_scheme_validTable_1, e1, e5, e11, e12, e13, s10, hlen, show i + 1 ≤ 8796093022208 by omega]
    refine ih.out (i + 1) _ _ ⟨by simp [e1], ⟨g + 1, by simp, ?_⟩, by simp [e11], by simp [e12], by simp [wrap_succ q' (by omega : l.length ≤ 9223372036854775807)], q'⟩ (by omega)
    rw [List.take_succ_eq_append_getElem q', hes.out]
    exact so_mk (by simp [s10]) (by simp [s10]) (by simp [s10])
  · have he := hes.out
    rw [List.take_of_length_le q'] at he
    rw [← hlen, he]; simp
/-- A column that is valid. -/
def ColOK (c : ColD) : Prop := nameB c.name = true ∧ ((c.kind = 1 ∧ c.lo ≤ c.hi) ∨ (c.kind = 2 ∧ c.lo = 0 ∧ 0 ≤ c.hi ∧ c.hi ≤ 100) ∨ (c.kind = 3 ∧ c.lo = 0 ∧ c.hi = 0))
def ColD.small (c : ColD) : Prop := c.name.size ≤ 9223372036854775807
def ColD.in64 (c : ColD) : Prop := (-9223372036854775808 ≤ c.lo ∧ c.lo ≤ 9223372036854775807) ∧ (-9223372036854775808 ≤ c.hi ∧ c.hi ≤ 9223372036854775807)
set_option maxHeartbeats 1000000 in
theorem c_scheme_validColumn (c : ColD) (hc : c.small) : call T n_scheme_validColumn [c.enc] = some (.v (.bool (bP (ColOK c)))) := by
  refine go_scheme_validColumn (by simp) ?_
  have hn := c_lex_IsName c.name hc
  obtain ⟨R, hR, hF, hT⟩ := bP_spec (ColOK c)
  rw [hR]; clear hR
  have hF' : Hd (¬ nameB c.name = true → R = false) := ⟨fun h => hF.out (fun hh => h hh.1)⟩
  have hK : Hd (c.kind = 1 → (c.lo ≤ c.hi → nameB c.name = true → R = true) ∧ (¬ c.lo ≤ c.hi → R = false)) := ⟨fun h => ⟨fun h1 h2 => hT.out ⟨h2, .inl ⟨h, h1⟩⟩, fun h1 => hF.out (fun hh => by have := hh.2; omega)⟩⟩
  have hL : Hd (c.kind = 2 → ((c.lo = 0 ∧ 0 ≤ c.hi ∧ c.hi ≤ 100) → nameB c.name = true → R = true) ∧ (¬ (c.lo = 0 ∧ 0 ≤ c.hi ∧ c.hi ≤ 100) → R = false)) := ⟨fun h => ⟨fun h1 h2 => hT.out ⟨h2, .inr (.inl ⟨h, h1⟩)⟩, fun h1 => hF.out (fun hh => by have := hh.2; omega)⟩⟩
  have hM : Hd (c.kind = 3 → ((c.lo = 0 ∧ c.hi = 0) → nameB c.name = true → R = true) ∧ (¬ (c.lo = 0 ∧ c.hi = 0) → R = false)) := ⟨fun h => ⟨fun h1 h2 => hT.out ⟨h2, .inr (.inr ⟨h, h1⟩)⟩, fun h1 => hF.out (fun hh => by have := hh.2; omega)⟩⟩
  have hN : Hd (¬ c.kind = 1 → ¬ c.kind = 2 → ¬ c.kind = 3 → R = false) := ⟨fun h1 h2 h3 => hF.out (fun hh => by have := hh.2; omega)⟩
  generalize nameB c.name = B at *
  clear hF hT
  simp [hn]
  refine wpC_split (fun k1 => ?_) (fun k1 => ?_) <;> (have k1' := k1; try simp at k1') <;> (try simp [*])
  · cases B
    · simp [hn, hF'.out]
    · simp [hn]
      by_cases h : c.lo ≤ c.hi
      · simp [h, (hK.out k1').1 h rfl]
      · simp [h, (hK.out k1').2 h]
  refine wpC_split (fun k2 => ?_) (fun k2 => ?_) <;> (have k2' := k2; try simp at k2') <;> (try simp [*])
  · cases B
    · simp [hn, hF'.out]
    · simp [hn]
      have h1 := (hL.out k2').1
      have h2 := (hL.out k2').2
      by_cases a1 : c.lo = 0 <;> by_cases a2 : 0 ≤ c.hi <;> by_cases a3 : c.hi ≤ 100 <;> simp [a1, a2, a3] at h1 h2 ⊢ <;> simp [h1, h2]
  refine wpC_split (fun k3 => ?_) (fun k3 => ?_) <;> (have k3' := k3; try simp at k3') <;> (try simp [*])
  · cases B
    · simp [hn, hF'.out]
    · simp [hn]
      have h1 := (hM.out k3').1
      have h2 := (hM.out k3').2
      by_cases a1 : c.lo = 0 <;> by_cases a2 : c.hi = 0 <;> simp [a1, a2] at h1 h2 ⊢ <;> simp [h1, h2]
  · exact hN.out k1' k2' k3'
/-- The kind of the column with a number. -/
def kindAt (cols : List ColD) (j : Int) : Option Int := (cols[j.toNat]?).map (·.kind)
def RefOK (before : List TabD) (t : TabD) (r : RefD) : Prop := 0 ≤ r.table ∧ r.table < before.length ∧ ∀ b, before[r.table.toNat]? = some b → 0 ≤ r.key ∧ r.key < b.keys.length ∧ r.cols.Nodup ∧ ∀ k, b.keys[r.key.toNat]? = some k → k.length = r.cols.length ∧
  ∀ (i : Nat) (h : i < r.cols.length), 0 ≤ r.cols[i] ∧ r.cols[i] < t.cols.length ∧ kindAt t.cols r.cols[i] = kindAt b.cols (k.getD i 0)
/-- The keys' numbers are numbers of columns. -/
def KeysIn (b : TabD) : Prop := ∀ k ∈ b.keys, ∀ c ∈ k, 0 ≤ c ∧ c < (b.cols.length : Int)
structure TabD.small (t : TabD) : Prop where
  name : t.name.size ≤ 9223372036854775807
  cols : t.cols.length ≤ 9223372036854775807 ∧ ∀ c ∈ t.cols, c.small
  keys : t.keys.length ≤ 9223372036854775807 ∧ ∀ k ∈ t.keys, k.length ≤ 9223372036854775807
  refs : t.refs.length ≤ 9223372036854775807 ∧ ∀ r ∈ t.refs, r.cols.length ≤ 9223372036854775807
  idx : t.idx.length ≤ 9223372036854775807
set_option maxHeartbeats 4000000 in
theorem c_scheme_validRef (before : List TabD) (t : TabD) (r : RefD) (hb : ∀ b ∈ before, KeysIn b) (hr : r.cols.length ≤ 9223372036854775807) :
    call T n_scheme_validRef [.sl false (before.map TabD.enc), t.enc, r.enc] = some (.v (.bool (bP (RefOK before t r)))) := by
  refine go_scheme_validRef (by simp) ?_
  obtain ⟨R, hR, hF, hT⟩ := bP_spec (RefOK before t r)
  rw [hR]; clear hR
  obtain ⟨cs, tb, ky⟩ := r
  simp only at hr
  have hd := c_scheme_distinct_int cs hr
  simp
  refine wpG_split (fun a1 => ?_) (fun a1 => ?_) <;> (have a1' := a1; try simp at a1') <;> (try simp [*])
  · exact hF.out (fun h => by have h1 : 0 ≤ tb := h.1; omega)
  refine wpG_split (fun a2 => ?_) (fun a2 => ?_) <;> (have a2' := a2; try simp at a2') <;> (try simp [*])
  · exact hF.out (fun h => by have h1 : tb < before.length := h.2.1; omega)
  obtain ⟨n, rfl⟩ := Int.eq_ofNat_of_zero_le a1'
  have hnb : n < before.length := by omega
  have gb : before[n]? = some before[n] := List.getElem?_eq_getElem hnb
  have hkin := hb before[n] (List.getElem_mem hnb)
  replace hF : Hd (¬ (0 ≤ ky ∧ ky < before[n].keys.length ∧ cs.Nodup ∧ ∀ k, before[n].keys[ky.toNat]? = some k → k.length = cs.length ∧
    ∀ (i : Nat) (h : i < cs.length), 0 ≤ cs[i] ∧ cs[i] < t.cols.length ∧ kindAt t.cols cs[i] = kindAt before[n].cols (k.getD i 0)) → R = false) :=
    ⟨fun h => hF.out (fun hh => h (hh.2.2 _ (by simpa using gb)))⟩
  replace hT : Hd ((0 ≤ ky ∧ ky < before[n].keys.length ∧ cs.Nodup ∧ ∀ k, before[n].keys[ky.toNat]? = some k → k.length = cs.length ∧
    ∀ (i : Nat) (h : i < cs.length), 0 ≤ cs[i] ∧ cs[i] < t.cols.length ∧ kindAt t.cols cs[i] = kindAt before[n].cols (k.getD i 0)) → R = true) :=
    ⟨fun h => hT.out ⟨a1', a2', fun b hb => by
      have hb : before[n]? = some b := by simpa using hb
      rw [gb] at hb; injection hb with hb; subst hb; exact h⟩⟩
  refine wpG_split (fun a3 => ?_) (fun a3 => ?_) <;> (have a3' := a3; try simp at a3') <;> (try simp [*])
  · exact hF.out (fun h => by have h1 : 0 ≤ ky := h.1; omega)
  obtain ⟨m, rfl⟩ := Int.eq_ofNat_of_zero_le a3'
  simp
  refine wpG_split (fun a4 => ?_) (fun a4 => ?_) <;> (have a4' := a4; try simp at a4') <;> (try simp [*])
  · exact hF.out (fun h => by have h1 := h.2.1; omega)
  have hmk : m < before[n].keys.length := by omega
  refine wpC_split (fun a5 => ?_) (fun a5 => ?_) <;> (have a5' := a5; try simp at a5') <;> (try simp [*])
  · exact hF.out (fun h => by rw [bP_false] at a5'; exact a5' h.2.2.1)
  rw [bP_iff] at a5'
  have gk : before[n].keys[m]? = some before[n].keys[m] := List.getElem?_eq_getElem hmk
  have hkc := hkin before[n].keys[m] (List.getElem_mem hmk)
  replace hF : Hd (¬ (before[n].keys[m].length = cs.length ∧ ∀ (i : Nat) (h : i < cs.length), 0 ≤ cs[i] ∧ cs[i] < t.cols.length ∧ kindAt t.cols cs[i] = kindAt before[n].cols (before[n].keys[m].getD i 0)) → R = false) :=
    ⟨fun h => hF.out (fun hh => h (hh.2.2.2 _ (by simpa using gk)))⟩
  replace hT : Hd ((before[n].keys[m].length = cs.length ∧ ∀ (i : Nat) (h : i < cs.length), 0 ≤ cs[i] ∧ cs[i] < t.cols.length ∧ kindAt t.cols cs[i] = kindAt before[n].cols (before[n].keys[m].getD i 0)) → R = true) :=
    ⟨fun h => hT.out ⟨a3', by omega, a5', fun k hk => by
      have hk : before[n].keys[m]? = some k := by simpa using hk
      rw [gk] at hk; injection hk with hk; subst hk; exact h⟩⟩
  refine wpC_split (fun a6 => ?_) (fun a6 => ?_) <;> (have a6' := a6; try simp at a6') <;> (try simp [*])
  · exact hF.out (fun h => a6' (by omega))
  refine wp_rounds (σ := Nat) (fun i e s => e 0 = .sl false (before.map TabD.enc) ∧ e 4 = .ptr 4 1 0 ∧ e 5 = .ptr 5 1 0 ∧ (∃ q, s 4 = ⟨1, true, some (.box t.enc), q⟩) ∧ (∃ q, s 5 = ⟨1, true, some (.box (RefD.enc ⟨cs, n, m⟩)), q⟩) ∧ e 7 = keyX before[n].keys[m] ∧ e 60 = .sl false (cs.map i6) ∧ e 61 = i6 cs.length ∧ e 62 = i6 i ∧ i ≤ cs.length ∧
      Hd (∀ (j : Nat) (h : j < cs.length), j < i → 0 ≤ cs[j] ∧ cs[j] < t.cols.length ∧ kindAt t.cols cs[j] = kindAt before[n].cols (before[n].keys[m].getD j 0))) (fun i => cs.length - i) ?_ 0 _ _
    ⟨by simp, by simp, by simp, ⟨_, by simp; rfl⟩, ⟨_, by simp; rfl⟩, by simp [hmk], by simp, by simp, by simp, by omega, ⟨fun j h h' => by omega⟩⟩
  rintro i e s ⟨e0, e4, e5, ⟨n4, s4⟩, ⟨n5, s5⟩, e7, e60, e61, e62, hi, hA⟩ ih
  simp [e0, e4, e5, s4, s5, e7, e60, e61, e62]
  refine wpC_split (fun q => ?_) (fun q => ?_) <;> (have q' := q; try simp at q') <;> (try simp [*])
  · have hik : i < before[n].keys[m].length := by omega
    have hgd : before[n].keys[m].getD i 0 = before[n].keys[m][i] := by simp [hik]
    have bad : ¬ (0 ≤ cs[i] ∧ cs[i] < t.cols.length ∧ kindAt t.cols cs[i] = kindAt before[n].cols (before[n].keys[m].getD i 0)) → R = false := fun h => hF.out (fun hh => h (hh.2 i q'))
    replace bad := Hd.mk bad
    have step : (0 ≤ cs[i] ∧ cs[i] < t.cols.length ∧ kindAt t.cols cs[i] = kindAt before[n].cols (before[n].keys[m].getD i 0)) → ∀ (e' : Env) s', e' 0 = .sl false (before.map TabD.enc) → e' 4 = .ptr 4 1 0 → e' 5 = .ptr 5 1 0 → (∃ q, s' 4 = ⟨1, true, some (.box t.enc), q⟩) → (∃ q, s' 5 = ⟨1, true, some (.box (RefD.enc ⟨cs, n, m⟩)), q⟩) → e' 7 = keyX before[n].keys[m] → e' 60 = .sl false (cs.map i6) → e' 61 = i6 cs.length → e' 62 = i6 ((i + 1 : Nat) : Int) →
        wp T [.lp scheme_validRef_l1, .bl 0, .code ((IC.ops scheme_validRef_r12).seq IC.ret)] e' s' (fun e s => dpC s (e 6) = some (.v (.bool R))) := by
      intro hc e' s' x0 x4 x5 y4 y5 x7 x60 x61 x62
      refine ih.out (i + 1) _ _ ⟨x0, x4, x5, y4, y5, x7, x60, x61, x62, q', ⟨fun j h hj => ?_⟩⟩ (by omega)
      rcases Nat.lt_or_eq_of_le (Nat.le_of_lt_succ hj) with h4 | h4
      · exact hA.out j h h4
      · subst h4; exact hc
    replace step := Hd.mk step
    rw [hgd] at bad step
    have hk1 := hkc _ (List.getElem_mem hik)
    obtain ⟨d, hd⟩ := Int.eq_ofNat_of_zero_le hk1.1
    have hdl : d < before[n].cols.length := by omega
    refine wpG_split (fun b1 => ?_) (fun b1 => ?_) <;> (have b1' := b1; try simp at b1') <;> (try simp [*])
    · exact bad.out (by omega)
    refine wpG_split (fun b2 => ?_) (fun b2 => ?_) <;> (have b2' := b2; try simp at b2') <;> (try simp [*])
    · exact bad.out (by omega)
    obtain ⟨c, hc⟩ := Int.eq_ofNat_of_zero_le b1'
    have hcl : c < t.cols.length := by omega
    have k1 : kindAt t.cols cs[i] = some t.cols[c].kind := by rw [hc]; simp [kindAt, hcl]
    have k2 : kindAt before[n].cols before[n].keys[m][i] = some before[n].cols[d].kind := by rw [hd]; simp [kindAt, hdl]
    rw [k1, k2] at bad step
    simp [hc, hd, hcl, hdl, e0, e4, e5, s4, s5, e7, e60, e61, e62]
    refine wpC_split (fun b3 => ?_) (fun b3 => ?_) <;> (have b3' := b3; try simp at b3') <;> (try simp [*])
    · exact bad.out (fun h => b3' (by have := h.2.2; simp at this; exact this))
    · exact step.out ⟨by omega, by omega, by rw [b3']⟩ _ _ (by simp [e0]) (by simp [e4]) (by simp [e5]) ⟨n4, by simp [s4]⟩ ⟨n5, by simp [s5]⟩ (by simp [e7]) (by simp [e60]) (by simp [e61]) (by simp [wrap_succ q' hr])
  · exact hT.out ⟨a6', fun j h => hA.out j h (by omega)⟩
theorem c_scheme_validTable_2 (before : List TabD) (t : TabD) (r : RefD) (hb : ∀ b ∈ before, KeysIn b) (hr : r.cols.length ≤ 9223372036854775807) :
    call T n_scheme_validTable_2 [r.enc, .ip (.sl false (before.map TabD.enc)) 0, .ip t.enc 0] = some (.v (.bool (!bP (RefOK before t r)))) := by
  refine go_scheme_validTable_2 (by simp) ?_
  have := c_scheme_validRef before t r hb hr
  simp [this]
@[simp] theorem dpH_ip {s : Sto} {x : X} {j : Nat} (h : x.deep = true) : dpH s (.ip x j) = some (.ip x j) := by simp only [dpH]; rw [if_pos h]
@[simp] theorem dpG_ip {s : Sto} {x : X} {j : Nat} (h : x.deep = true) : dpG s (.ip x j) = some (.ip x j) := by simp only [dpG]; exact dpH_ip h
theorem dpH_ptr {s : Sto} {o g j n : Nat} {wr : Bool} {y z : X} (h : s o = ⟨g, wr, some (.box y), n⟩) (hz : dpC0 y = some z) : dpH s (.ptr o g j) = some (.ip z j) := by
  simp only [dpH, h, if_true, hz]
@[simp] theorem nmG_ip {x : X} {j : Nat} : nmG (.ip x j) = [] := rfl
@[simp] theorem nmH_ip {x : X} {j : Nat} : nmH (.ip x j) = [] := rfl
set_option maxHeartbeats 1000000 in
theorem c_IndexFunc_Ref (before : List TabD) (t : TabD) (hb : ∀ b ∈ before, KeysIn b) (l : List RefD) (hl : l.length ≤ 9223372036854775807) (hr : ∀ r ∈ l, r.cols.length ≤ 9223372036854775807) :
    call T n_slices_IndexFunc__api_Ref_api_Ref [.sl false (l.map RefD.enc), .fn n_scheme_validTable_2 [.ip (.sl false (before.map TabD.enc)) 0, .ip t.enc 0]] = some (i6 (idxF (fun r => !bP (RefOK before t r)) l)) := by
  refine go_slices_IndexFunc__api_Ref_api_Ref (by simp) ?_
  simp
  refine wp_rounds (σ := Nat) (fun i e s => e 0 = .sl false (l.map RefD.enc) ∧ e 1 = .fn n_scheme_validTable_2 [.ip (.sl false (before.map TabD.enc)) 0, .ip t.enc 0] ∧ e 7 = i6 l.length ∧ e 8 = i6 i ∧ i ≤ l.length ∧ Hd (∀ j (hj : j < i) (h : j < l.length), (!bP (RefOK before t l[j])) = false)) (fun i => l.length - i) ?_ 0 _ _ ⟨by simp, by simp, by simp, by simp, by omega, ⟨fun _ h => by omega⟩⟩
  rintro i e s ⟨h0, h1, h7, h8, hi, hA⟩ ih
  simp [h0, h1, h7, h8]
  refine wpC_split (fun h => ?_) (fun h => ?_) <;> (have h' := h; try simp at h') <;> (try simp [*])
  · have hc := c_scheme_validTable_2 before t l[i] hb (hr _ (List.getElem_mem h'))
    have hf : Hd ((!bP (RefOK before t l[i])) = true → idxF (fun r => !bP (RefOK before t r)) l = i) := ⟨fun g => idxF_found h' (fun j hj => hA.out j hj (by omega)) g⟩
    have hg : Hd ((!bP (RefOK before t l[i])) = false → ∀ j (hj : j < i + 1) (h : j < l.length), (!bP (RefOK before t l[j])) = false) := ⟨fun g j hj h => by
      rcases Nat.lt_or_eq_of_le (Nat.le_of_lt_succ hj) with h2 | h2
      · exact hA.out j h2 h
      · subst h2; exact g⟩
    generalize (!bP (RefOK before t l[i])) = b at hc hf hg
    simp [hc, h0, h1, h7, h8]
    cases b
    · simp [h0, h1, h7, h8]
      refine ih.out (i + 1) _ _ ?_ (by omega)
      exact ⟨by simp [h0], by simp [h1], by simp [h7], by simp [wrap_succ h' hl], h', ⟨hg.out rfl⟩⟩
    · simp [hf.out rfl]
  · exact (idxF_none (fun j hj => hA.out j (by omega) hj)).symm
theorem c_ContainsFunc_Ref (before : List TabD) (t : TabD) (hb : ∀ b ∈ before, KeysIn b) (l : List RefD) (hl : l.length ≤ 9223372036854775807) (hr : ∀ r ∈ l, r.cols.length ≤ 9223372036854775807) :
    call T n_slices_ContainsFunc__api_Ref_api_Ref [.sl false (l.map RefD.enc), .fn n_scheme_validTable_2 [.ip (.sl false (before.map TabD.enc)) 0, .ip t.enc 0]] = some (.v (.bool (l.any fun r => !bP (RefOK before t r)))) := by
  refine go_slices_ContainsFunc__api_Ref_api_Ref (by simp) ?_
  simp [c_IndexFunc_Ref before t hb l hl hr, idxF_any]
def TabOK (before : List TabD) (t : TabD) : Prop := nameB t.name = true ∧ t.cols.length ≤ 8 ∧ t.keys.length ≤ 4 ∧ t.refs.length ≤ 4 ∧ Rising t.idx t.cols.length ∧ (t.cols.map (·.name.toList)).Nodup ∧ (∀ c ∈ t.cols, ColOK c) ∧ (∀ k ∈ t.keys, k ≠ [] ∧ Rising k t.cols.length) ∧ ∀ r ∈ t.refs, RefOK before t r
theorem TabOK.keys {before : List TabD} {t : TabD} (h : TabOK before t) : KeysIn t := by
  intro k hk c hc
  obtain ⟨i, hi, rfl⟩ := List.getElem_of_mem hc
  have := (h.2.2.2.2.2.2.2.1 k hk).2 i hi
  exact ⟨this.1, this.2.1⟩
set_option maxHeartbeats 2000000 in
theorem c_scheme_validTable (before : List TabD) (t : TabD) (hb : ∀ b ∈ before, KeysIn b) (ht : t.small) :
    call T n_scheme_validTable [.sl false (before.map TabD.enc), t.enc] = some (.v (.bool (bP (TabOK before t)))) := by
  refine go_scheme_validTable (by simp) ?_
  obtain ⟨R, hR, hF, hT⟩ := bP_spec (TabOK before t)
  rw [hR]; clear hR
  have f1 := c_lex_IsName t.name ht.name
  have f2 := c_scheme_rising t.idx t.cols.length ht.idx
  simp [f1]
  refine wpG_split (fun a1 => ?_) (fun a1 => ?_) <;> (have a1' := a1; try simp at a1') <;> (try simp [*])
  · exact hF.out (fun h => by rw [h.1] at a1'; simp at a1')
  refine wpG_split (fun a2 => ?_) (fun a2 => ?_) <;> (have a2' := a2; try simp at a2') <;> (try simp [*])
  · exact hF.out (fun h => by have := h.2.1; omega)
  refine wpG_split (fun a3 => ?_) (fun a3 => ?_) <;> (have a3' := a3; try simp at a3') <;> (try simp [*])
  · exact hF.out (fun h => by have := h.2.2.1; omega)
  refine wpG_split (fun a4 => ?_) (fun a4 => ?_) <;> (have a4' := a4; try simp at a4') <;> (try simp [*])
  · exact hF.out (fun h => by have := h.2.2.2.1; omega)
  refine wpC_split (fun a5 => ?_) (fun a5 => ?_) <;> (have a5' := a5; try simp at a5') <;> (try simp [*])
  · exact hF.out (fun h => by rw [bP_false] at a5'; exact a5' h.2.2.2.2.1)
  rw [bP_iff] at a5'
  have f3 := c_scheme_mapped_Column t.cols (by omega)
  have f4 := c_scheme_distinct_string (t.cols.map (·.name)) (by simp; omega)
  rw [List.map_map, List.map_map, show strX ∘ (fun x : ColD => x.name) = fun t => strX t.name from rfl, show (fun x : ByteArray => x.toList) ∘ (fun x : ColD => x.name) = fun x => x.name.toList from rfl] at f4
  simp [f3, f4]
  refine wpC_split (fun a6 => ?_) (fun a6 => ?_) <;> (have a6' := a6; try simp at a6') <;> (try simp [*])
  · exact hF.out (fun h => by rw [bP_false] at a6'; exact a6' h.2.2.2.2.2.1)
  rw [bP_iff] at a6'
  have hF1 : Hd (¬ (∀ c ∈ t.cols, ColOK c) → R = false) := ⟨fun h => hF.out (fun hh => h hh.2.2.2.2.2.2.1)⟩
  have hF2 : Hd (¬ (∀ k ∈ t.keys, k ≠ [] ∧ Rising k t.cols.length) → R = false) := ⟨fun h => hF.out (fun hh => h hh.2.2.2.2.2.2.2.1)⟩
  have hRe : Hd ((∀ c ∈ t.cols, ColOK c) → (∀ k ∈ t.keys, k ≠ [] ∧ Rising k t.cols.length) → R = !(t.refs.any fun r => !bP (RefOK before t r))) := ⟨fun h1 h2 => by
    cases hr : t.refs.any fun r => !bP (RefOK before t r)
    · refine hT.out ⟨a1', by omega, by omega, by omega, a5', a6', h1, h2, fun r hr' => ?_⟩
      have := List.any_eq_false.1 hr r hr'
      simpa [bP_iff] using this
    · refine hF.out (fun hh => ?_)
      obtain ⟨r, hr', h⟩ := List.any_eq_true.1 hr
      have := bP_iff.2 (hh.2.2.2.2.2.2.2.2 r hr')
      simp [this] at h⟩
  clear hF hT
  refine wp_rounds (σ := Nat) (fun i e s => e 2 = .ptr 2 1 0 ∧ e 3 = .ptr 3 1 0 ∧ (∃ q, s 2 = ⟨1, true, some (.box (.sl false (before.map TabD.enc))), q⟩) ∧ (∃ q, s 3 = ⟨1, true, some (.box t.enc), q⟩) ∧ e 46 = .sl false (t.cols.map ColD.enc) ∧ e 47 = i6 t.cols.length ∧ e 48 = i6 i ∧ i ≤ t.cols.length ∧
      Hd (∀ (j : Nat) (h : j < t.cols.length), j < i → ColOK t.cols[j])) (fun i => t.cols.length - i) ?_ 0 _ _
    ⟨by simp, by simp, ⟨_, by simp; rfl⟩, ⟨_, by simp; rfl⟩, by simp, by simp, by simp, by omega, ⟨fun j h h' => by omega⟩⟩
  rintro i e s ⟨e2, e3, ⟨n2, s2⟩, ⟨n3, s3⟩, e46, e47, e48, hi, hA⟩ ih
  simp [e2, e3, s2, s3, e46, e47, e48]
  refine wpC_split (fun q => ?_) (fun q => ?_) <;> (have q' := q; try simp at q') <;> (try simp [*])
  · have hc := c_scheme_validColumn t.cols[i] (ht.cols.2 _ (List.getElem_mem q'))
    simp [hc, e2, e3, s2, s3, e46, e47, e48]
    refine wpC_split (fun b1 => ?_) (fun b1 => ?_) <;> (have b1' := b1; try simp at b1') <;> (try simp [*])
    · exact hF1.out (fun h => by rw [bP_false] at b1'; exact b1' (h _ (List.getElem_mem q')))
    · rw [bP_iff] at b1'
      refine ih.out (i + 1) _ _ ?_ (by omega)
      refine ⟨by simp [e2], by simp [e3], ⟨n2, by simp [s2]⟩, ⟨n3, by simp [s3]⟩, by simp [e46], by simp [e47], by simp [e48, wrap_succ q' ht.cols.1], q', ⟨fun j h hj => ?_⟩⟩
      rcases Nat.lt_or_eq_of_le (Nat.le_of_lt_succ hj) with h4 | h4
      · exact hA.out j h h4
      · subst h4; exact b1'
  have hcs : Hd (∀ c ∈ t.cols, ColOK c) := ⟨fun c hc => by
    obtain ⟨j, hj, rfl⟩ := List.getElem_of_mem hc
    exact hA.out j hj (by omega)⟩
  clear hA ih
  refine wp_rounds (σ := Nat) (fun i e s => e 2 = .ptr 2 1 0 ∧ e 3 = .ptr 3 1 0 ∧ (∃ q, s 2 = ⟨1, true, some (.box (.sl false (before.map TabD.enc))), q⟩) ∧ (∃ q, s 3 = ⟨1, true, some (.box t.enc), q⟩) ∧ e 57 = .sl false (t.keys.map keyX) ∧ e 58 = i6 t.keys.length ∧ e 59 = i6 i ∧ i ≤ t.keys.length ∧
      Hd (∀ (j : Nat) (h : j < t.keys.length), j < i → t.keys[j] ≠ [] ∧ Rising t.keys[j] t.cols.length)) (fun i => t.keys.length - i) ?_ 0 _ _
    ⟨by simp [e2], by simp [e3], ⟨_, by simp [s2]; rfl⟩, ⟨_, by simp [s3]; rfl⟩, by simp, by simp, by simp, by omega, ⟨fun j h h' => by omega⟩⟩
  clear e2 e3 s2 s3
  rintro i e s ⟨e2, e3, ⟨n2, s2⟩, ⟨n3, s3⟩, e57, e58, e59, hi, hA⟩ ih
  simp [e2, e3, s2, s3, e57, e58, e59]
  refine wpC_split (fun q => ?_) (fun q => ?_) <;> (have q' := q; try simp at q') <;> (try simp [*])
  · have hc := c_scheme_rising t.keys[i] t.cols.length (ht.keys.2 _ (List.getElem_mem q'))
    refine wpG_split (fun b0 => ?_) (fun b0 => ?_) <;> (have b0' := b0; try simp at b0') <;> (try simp [*])
    · exact hF2.out (fun h => (h _ (List.getElem_mem q')).1 b0')
    refine wpC_split (fun b1 => ?_) (fun b1 => ?_) <;> (have b1' := b1; try simp at b1') <;> (try simp [*])
    · exact hF2.out (fun h => by rw [bP_false] at b1'; exact b1' (h _ (List.getElem_mem q')).2)
    · rw [bP_iff] at b1'
      refine ih.out (i + 1) _ _ ?_ (by omega)
      refine ⟨by simp [e2], by simp [e3], ⟨n2, by simp [s2]⟩, ⟨n3, by simp [s3]⟩, by simp [e57], by simp [e58], by simp [e59, wrap_succ q' ht.keys.1], q', ⟨fun j h hj => ?_⟩⟩
      rcases Nat.lt_or_eq_of_le (Nat.le_of_lt_succ hj) with h4 | h4
      · exact hA.out j h h4
      · subst h4; exact ⟨b0', b1'⟩
  have hks : ∀ k ∈ t.keys, k ≠ [] ∧ Rising k t.cols.length := fun c hc => by
    obtain ⟨j, hj, rfl⟩ := List.getElem_of_mem hc
    exact hA.out j hj (by omega)
  rw [hRe.out hcs.out hks]
  have hx := c_ContainsFunc_Ref before t hb t.refs ht.refs.1 ht.refs.2
  have d2 : dpC0 (.sl false (before.map TabD.enc)) = some (.sl false (before.map TabD.enc)) := by simp [dpC0, dpn0]
  have d3 : dpC0 t.enc = some t.enc := by simp [dpC0, dpL0, dpn0]
  rw [dpH_ptr s2 d2, dpH_ptr s3 d3]
  simp [hx]
/-- A scheme that is valid. -/
def SchemeOK (s : List TabD) : Prop := s.length ≤ 16 ∧ (s.map (·.name.toList)).Nodup ∧ ∀ (n : Nat) (h : n < s.length), TabOK (s.take n) s[n]
def schemeSmall (s : List TabD) : Prop := s.length ≤ 9223372036854775807 ∧ ∀ t ∈ s, t.small
set_option maxHeartbeats 2000000 in
theorem c_scheme_Valid (s : List TabD) (hs : schemeSmall s) : call T n_scheme_Valid [.sl false (s.map TabD.enc)] = some (.v (.bool (bP (SchemeOK s)))) := by
  refine go_scheme_Valid (by simp) ?_
  obtain ⟨R, hR, hF, hT⟩ := bP_spec (SchemeOK s)
  rw [hR]; clear hR
  simp
  refine wpG_split (fun a1 => ?_) (fun a1 => ?_) <;> (have a1' := a1; try simp at a1') <;> (try simp [*])
  · exact hF.out (fun h => by have := h.1; omega)
  have f3 := c_scheme_mapped_Table s (by omega)
  have f4 := c_scheme_distinct_string (s.map (·.name)) (by simp; omega)
  rw [List.map_map, List.map_map, show strX ∘ (fun x : TabD => x.name) = fun t => strX t.name from rfl, show (fun x : ByteArray => x.toList) ∘ (fun x : TabD => x.name) = fun x => x.name.toList from rfl] at f4
  simp [f3, f4]
  refine wpC_split (fun a6 => ?_) (fun a6 => ?_) <;> (have a6' := a6; try simp at a6') <;> (try simp [*])
  · exact hF.out (fun h => by rw [bP_false] at a6'; exact a6' h.2.1)
  rw [bP_iff] at a6'
  refine wp_rounds (σ := Nat) (fun i e w => e 0 = .sl false (s.map TabD.enc) ∧ e 14 = .sl false (s.map TabD.enc) ∧ e 15 = i6 s.length ∧ e 16 = i6 i ∧ i ≤ s.length ∧
      Hd (∀ (j : Nat) (h : j < s.length), j < i → TabOK (s.take j) s[j])) (fun i => s.length - i) ?_ 0 _ _
    ⟨by simp, by simp, by simp, by simp, by omega, ⟨fun j h h' => by omega⟩⟩
  rintro i e w ⟨e0, e14, e15, e16, hi, hA⟩ ih
  simp [e0, e14, e15, e16]
  refine wpC_split (fun q => ?_) (fun q => ?_) <;> (have q' := q; try simp at q') <;> (try simp [*])
  · have hb : ∀ b ∈ s.take i, KeysIn b := fun b hb => by
      obtain ⟨j, hj, rfl⟩ := List.getElem_of_mem hb
      rw [List.getElem_take]
      exact (hA.out j (by simp at hj; omega) (by simp at hj; omega)).keys
    have hc := c_scheme_validTable (s.take i) s[i] hb (hs.2 _ (List.getElem_mem q'))
    rw [List.map_take] at hc
    simp [hc, e0, e14, e15, e16]
    refine wpC_split (fun b1 => ?_) (fun b1 => ?_) <;> (have b1' := b1; try simp at b1') <;> (try simp [*])
    · exact hF.out (fun h => by rw [bP_false] at b1'; exact b1' (h.2.2 i q'))
    · rw [bP_iff] at b1'
      refine ih.out (i + 1) _ _ ?_ (by omega)
      refine ⟨by simp [e0], by simp [e14], by simp [e15], by simp [e16, wrap_succ q' hs.1], q', ⟨fun j h hj => ?_⟩⟩
      rcases Nat.lt_or_eq_of_le (Nat.le_of_lt_succ hj) with h4 | h4
      · exact hA.out j h h4
      · subst h4; exact b1'
  · exact hT.out ⟨by omega, a6', fun n h => hA.out n h (by omega)⟩
end Go.Proofs.YtoodknhlnifnlaaGreatDoor
