/- Data: what scheme.ValidData says of them. -/
import Derived.Test.YtoodknhlnifnlaaGreatDoorVb
import Derived.Test.YtoodknhlnifnlaaGreatDoorCc
set_option linter.all false
set_option linter.unusedVariables false
set_option linter.unusedSimpArgs false
set_option maxRecDepth 100000
namespace Go.Proofs.YtoodknhlnifnlaaGreatDoor
open Go.RowKit
/-- The cells of some values, one behind the other. -/
def flatV : List Val → List X
  | [] => []
  | v :: l => .v (.int .u8 v.kind) :: .v (.int .i64 v.int) :: .v (.string v.text) :: flatV l
theorem flatV_len : ∀ l : List Val, (flatV l).length = 3 * l.length
  | [] => rfl
  | v :: l => by simp [flatV, flatV_len l]; omega
theorem flatV_append : ∀ l m : List Val, flatV (l ++ m) = flatV l ++ flatV m
  | [], m => rfl
  | v :: l, m => by simp [flatV, flatV_append l m]
def tupX (l : List Val) : X := .agg (flatV l)
theorem tupX_cells (l : List Val) : (tupX l).cells = flatV l := rfl
theorem flatV_one : ∀ l : List Val, (flatV l).all X.one = true
  | [] => rfl
  | v :: l => by simp [flatV, flatV_one l]
theorem flatV_scal : ∀ l : List Val, scalL (flatV l) = true
  | [] => rfl
  | v :: l => by simp [flatV, flatV_scal l]
theorem flatV_deep : ∀ l : List Val, deepL (flatV l) = true
  | [] => rfl
  | v :: l => by simp [flatV, flatV_deep l]
theorem flatV_dpL (s : Sto) : ∀ l : List Val, dpL s (flatV l) = some (flatV l)
  | [] => rfl
  | v :: l => by
    have d1 : ∀ u, dpn s (.v u) = some (.v u) := fun _ => rfl
    simp [flatV, dpL, flatV_dpL s l, d1]
@[simp] theorem tupX_scal (l : List Val) : (tupX l).scal = true := flatV_scal l
@[simp] theorem tupX_deep (l : List Val) : (tupX l).deep = true := flatV_deep l
@[simp] theorem tupX_dpC (s : Sto) (l : List Val) : dpC s (tupX l) = some (tupX l) := by simp only [tupX, dpC, flatV_dpL]
@[simp] theorem tupX_all (l : List Val) : (tupX l).cells.all X.one = true := flatV_one l
@[simp] theorem tupX_len (l : List Val) : (tupX l).cells.length = 3 * l.length := flatV_len l
theorem tupX_part {l : List Val} (h : l.length = 8) : partX (tupX l).cells 0 24 true = some (tupX l) := by
  have hl := flatV_len l
  simp only [tupX_cells, partX]
  rw [if_pos (by omega)]
  simp only [if_true, List.drop_zero, tupX]
  rw [List.take_of_length_le (by omega)]
theorem flatV_drop : ∀ (l : List Val) (i : Nat), (flatV l).drop (3 * i) = flatV (l.drop i)
  | l, 0 => rfl
  | [], i + 1 => by simp [flatV]
  | v :: l, i + 1 => by
    rw [show 3 * (i + 1) = 3 * i + 1 + 1 + 1 by omega]
    simp only [flatV, List.drop_succ_cons]
    exact flatV_drop l i
theorem flatV_take : ∀ (l : List Val) (i : Nat), (flatV l).take (3 * i) = flatV (l.take i)
  | l, 0 => rfl
  | [], i + 1 => by simp [flatV]
  | v :: l, i + 1 => by
    rw [show 3 * (i + 1) = 3 * i + 1 + 1 + 1 by omega]
    simp only [flatV, List.take_succ_cons]
    rw [flatV_take l i]
theorem tupX_kind {l : List Val} {i : Nat} (h : i < l.length) : partX (tupX l).cells (i * 3) 1 false = some (.v (.int .u8 l[i].kind)) := by
  have hl := flatV_len l
  simp only [tupX_cells, partX]
  rw [if_pos (by omega)]
  have := flatV_drop l i
  rw [List.drop_eq_getElem_cons h, flatV] at this
  simp only [Bool.false_eq_true, if_false, if_true]
  have h2 := congrArg (fun x => x[0]?) this
  simpa [Nat.mul_comm] using h2
theorem tupX_set {l : List Val} {i : Nat} (h : i < l.length) (v : Val) : setC (tupX l) (i * 3) [.v (.int .u8 v.kind), .v (.int .i64 v.int), .v (.string v.text)] = tupX (l.set i v) := by
  simp only [tupX, setC_agg]
  congr 1
  simp only [spl, List.length_cons, List.length_nil]
  rw [show i * 3 + (0 + 1 + 1 + 1) = 3 * (i + 1) by omega, Nat.mul_comm i 3, flatV_take, flatV_drop, List.set_eq_take_append_cons_drop, if_pos h, flatV_append]
  simp [flatV]
theorem tupX_self {l : List Val} (h : l.length = 8) : setC (tupX l) 0 (tupX l).cells = tupX l := by
  have hl := flatV_len l
  simp only [tupX, setC_agg, cells_agg, spl]
  rw [List.take_zero, List.drop_eq_nil_of_le (by omega)]; simp
theorem tupX_take {l : List Val} (h : l.length = 8) : (tupX l).cells.take 24 = (tupX l).cells := by
  have hl := flatV_len l
  rw [tupX_cells, List.take_of_length_le (by omega)]
@[simp] theorem tupX_agg (l : List Val) : X.agg (tupX l).cells = tupX l := rfl
theorem tupX_ones (l : List Val) : (∀ x, x ∈ (tupX l).cells → x.one = true) = True := by
  have := flatV_one l
  rw [tupX_cells]
  simpa [List.all_eq_true] using this
def v00 : Val := ⟨0, 0, ⟨#[]⟩⟩
/-- Filled up to eight. -/
def pad8 (l : List Val) : List Val := l ++ List.replicate (8 - l.length) v00
theorem pad8_len {l : List Val} (h : l.length ≤ 8) : (pad8 l).length = 8 := by simp [pad8]; omega
theorem pad8_nil : tupX (pad8 []) = .agg [.v (.int .u8 0), .v (.int .i64 0), .v (.string ⟨#[]⟩), .v (.int .u8 0), .v (.int .i64 0), .v (.string ⟨#[]⟩), .v (.int .u8 0), .v (.int .i64 0), .v (.string ⟨#[]⟩), .v (.int .u8 0), .v (.int .i64 0), .v (.string ⟨#[]⟩), .v (.int .u8 0), .v (.int .i64 0), .v (.string ⟨#[]⟩), .v (.int .u8 0), .v (.int .i64 0), .v (.string ⟨#[]⟩), .v (.int .u8 0), .v (.int .i64 0), .v (.string ⟨#[]⟩), .v (.int .u8 0), .v (.int .i64 0), .v (.string ⟨#[]⟩)] := rfl
theorem pad8_set {l : List Val} (h : l.length < 8) (v : Val) : (pad8 l).set l.length v = pad8 (l ++ [v]) := by
  obtain ⟨d, hd⟩ : ∃ d, 8 - l.length = d + 1 := ⟨7 - l.length, by omega⟩
  simp only [pad8, List.length_append, List.length_cons, List.length_nil]
  rw [hd, show 8 - (l.length + (0 + 1)) = d by omega, List.replicate_succ, List.set_append_right _ _ (Nat.le_refl _)]
  simp
theorem pad8_get {l : List Val} {i : Nat} (h : i < l.length) (h' : i < (pad8 l).length) : (pad8 l)[i] = l[i] := by
  simp only [pad8]; rw [List.getElem_append_left h]
def cellAt (row : List Val) (c : Int) : Val := row.getD c.toNat v00
/-- The values of some columns, up to the first null. -/
def pickL (row : List Val) : List Int → List Val
  | [] => []
  | c :: cs => if (cellAt row c).kind = 0 then [cellAt row c] else cellAt row c :: pickL row cs
def fullB (row : List Val) (cs : List Int) : Bool := cs.all fun c => !decide ((cellAt row c).kind = 0)
theorem pickL_take {row : List Val} {cs : List Int} : ∀ {i : Nat} (h : i < cs.length), (∀ (j : Nat) (h : j < cs.length), j < i → ¬ (cellAt row cs[j]).kind = 0) → (cellAt row cs[i]).kind = 0 → pickL row cs = (cs.take (i + 1)).map (cellAt row) ∧ fullB row cs = false := by
  induction cs with
  | nil => intro i h; simp at h
  | cons c cs ih =>
    intro i h hb h0
    cases i with
    | zero =>
      simp at h0
      simp [pickL, fullB, h0]
    | succ i =>
      have hc : ¬ (cellAt row c).kind = 0 := hb 0 (by simp) (by omega)
      have := ih (i := i) (by simpa using h) (fun j hj hji => by have := hb (j + 1) (by simpa using hj) (by omega); simpa only [List.getElem_cons_succ] using this) (by simpa using h0)
      simp [pickL, fullB, hc, this.1]
      simpa [fullB] using this.2
theorem pickL_full {row : List Val} {cs : List Int} (h : ∀ c ∈ cs, ¬ (cellAt row c).kind = 0) : pickL row cs = cs.map (cellAt row) ∧ fullB row cs = true := by
  induction cs with
  | nil => exact ⟨rfl, rfl⟩
  | cons c cs ih =>
    have h1 := h c (by simp)
    have := ih (fun c hc => h c (by simp [hc]))
    simp [pickL, fullB, h1, this.1]
    simpa [fullB] using this.2
set_option maxHeartbeats 2000000 in
theorem c_scheme_pick (row : List Val) (cs : List Int) (hc : ∀ c ∈ cs, 0 ≤ c ∧ c < (row.length : Int)) (hl : cs.length ≤ 8) :
    call T n_scheme_pick [rowX row, keyX cs] = some (.tup [tupX (pad8 (pickL row cs)), .v (.bool (fullB row cs))]) := by
  refine go_scheme_pick (by simp) ?_
  simp
  rw [← pad8_nil]
  have hlen : cs.length ≤ 9223372036854775807 := by omega
  replace hc := Hd.mk hc
  refine wp_rounds (σ := Nat) (fun i e s => e 0 = rowX row ∧ e 4 = .ptr 4 1 0 ∧ e 8 = keyX cs ∧ e 9 = i6 cs.length ∧ e 10 = i6 i ∧ i ≤ cs.length ∧ (∃ l : List Val, l.length = i ∧ Hd (l = (cs.take i).map (cellAt row)) ∧ ∃ n, s 4 = ⟨1, true, some (.box (tupX (pad8 l))), n⟩) ∧
      Hd (∀ (j : Nat) (h : j < cs.length), j < i → ¬ (cellAt row cs[j]).kind = 0)) (fun i => cs.length - i) ?_ 0 _ _
    ⟨by simp, by simp, by simp, by simp, by simp, by omega, ⟨[], rfl, ⟨by simp⟩, ⟨_, by simp; rfl⟩⟩, ⟨fun j h h' => by omega⟩⟩
  rintro i e s ⟨e0, e4, e8, e9, e10, hi, ⟨l, hll, hv, n4, s4⟩, hA⟩ ih
  have hp8 := pad8_len (l := l) (by omega)
  simp [e0, e4, e8, e9, e10, s4]
  refine wpC_split (fun q => ?_) (fun q => ?_) <;> (have q' := q; try simp at q') <;> (try simp [*])
  · have hr := hc.out _ (List.getElem_mem q')
    obtain ⟨c, hce⟩ := Int.eq_ofNat_of_zero_le hr.1
    have hcr : c < row.length := by omega
    have hcell : cellAt row cs[i] = row[c] := by rw [hce]; simp [cellAt, hcr]
    have hil : l.length < (pad8 l).length := by omega
    have hset := tupX_set hil row[c]
    rw [pad8_set (by omega), hll] at hset
    have hl2 : (l ++ [row[c]]).length ≤ 8 := by simp; omega
    have hk2 := tupX_kind (l := pad8 (l ++ [row[c]])) (i := i) (by rw [pad8_len hl2]; omega)
    rw [pad8_get (by simp; omega)] at hk2
    simp [← hll] at hk2
    rw [hll] at hk2
    have hp2 := pad8_len hl2
    have hpart := tupX_part hp2
    have hself := tupX_self hp2
    have hnew : Hd (l ++ [row[c]] = (cs.take (i + 1)).map (cellAt row)) := ⟨by rw [List.take_succ_eq_append_getElem q', List.map_append, ← hv.out]; simp [hcell]⟩
    have hstop : Hd (row[c].kind = 0 → pickL row cs = l ++ [row[c]] ∧ fullB row cs = false) := ⟨fun h => by
      have := pickL_take q' hA.out (by rw [hcell]; exact h)
      rw [← hnew.out] at this; exact this⟩
    have hgo : Hd (¬ row[c].kind = 0 → ∀ (j : Nat) (h : j < cs.length), j < i + 1 → ¬ (cellAt row cs[j]).kind = 0) := ⟨fun h j hj hji => by
      rcases Nat.lt_or_eq_of_le (Nat.le_of_lt_succ hji) with h4 | h4
      · exact hA.out j hj h4
      · subst h4; rw [hcell]; exact h⟩
    have hi8 : i < 8 := by omega
    clear hA
    generalize l ++ [row[c]] = m at *
    simp [hce, hcr, e0, e4, e8, e9, e10, s4, show (i : Int) < 8 by omega, show i * 3 + 3 ≤ 3 * 8 by omega, show i * 3 + 1 ≤ 3 * 8 by omega, hi8, hp8, hset, hk2, hp2, hpart, hself]
    have d2 := tupX_dpC
    refine wpC_split (fun k => ?_) (fun k => ?_) <;> (have k' := k; try simp at k') <;> (try simp [*])
    · obtain ⟨x1, x2⟩ := hstop.out k'
      rw [x1, x2]
      simp [e4, s4, hself, hp2, tupX_take hp2, tupX_ones]
    · refine ih.out (i + 1) _ _ ?_ (by omega)
      refine ⟨by simp [e0], by simp [e4], by simp [e8], by simp [e9], by simp [e10, wrap_succ q' hlen], q', ⟨m, ?_, hnew, so_mk (by simp [s4]) (by simp) (by simp)⟩, ⟨hgo.out k'⟩⟩
      rw [hnew.out]; simp; omega
  · have hfin := pickL_full (row := row) (cs := cs) (fun c hc => by
      obtain ⟨j, hj, rfl⟩ := List.getElem_of_mem hc
      exact hA.out j hj (by omega))
    have hle : l = cs.map (cellAt row) := by rw [hv.out, List.take_of_length_le (by omega)]
    rw [← hle] at hfin
    rw [hfin.1, hfin.2]
    have hpart := tupX_part hp8
    have hself := tupX_self hp8
    simp [e4, s4, hself, hp8, tupX_take hp8, tupX_ones]
/-- Two tuples are the same. -/
def tupSame (a b : List Val) : Bool := decide (a.map Val.key = b.map Val.key)
def K3 : Nat → List LK
  | 0 => []
  | n + 1 => .i :: .i :: .s :: K3 n
theorem eqL_flat : ∀ (a b : List Val), a.length = b.length → eqL (K3 a.length) (flatV a) (flatV b) = some (tupSame a b)
  | [], [], _ => rfl
  | u :: a, v :: b, h => by
    have ih := eqL_flat a b (by simpa using h)
    simp only [List.length_cons, K3, flatV, eqL, ih, eqV]
    simp only [if_true]
    have h1 := same_key u v
    simp only [Val.same] at h1
    have e1 : (u.kind == v.kind && (u.int == v.int && (u.text.toList == v.text.toList && tupSame a b))) = (decide (u.key = v.key) && tupSame a b) := by
      rw [← h1, int_beq, int_beq]; simp [Bool.and_assoc]
    rw [e1]
    congr 1
    simp [tupSame]
structure Tup where
  l : List Val
  len : l.length = 8
theorem eqX_tup (a b : Tup) : eqX [.i, .i, .s, .i, .i, .s, .i, .i, .s, .i, .i, .s, .i, .i, .s, .i, .i, .s, .i, .i, .s, .i, .i, .s] true (tupX a.l) (tupX b.l) = some (tupSame a.l b.l) := by
  have := eqL_flat a.l b.l (a.len.trans b.len.symm)
  rw [a.len] at this
  exact this
theorem mfind_tup (z : X) (a : Tup) (es : List Tup) : mfind [.i, .i, .s, .i, .i, .s, .i, .i, .s, .i, .i, .s, .i, .i, .s, .i, .i, .s, .i, .i, .s, .i, .i, .s] true (tupX a.l) (es.map fun b => (tupX b.l, z)) = some (es.findIdx? fun b => tupSame a.l b.l) := by
  have := mfind_gen (kx := fun b : Tup => tupX b.l) (vx := fun _ : Unit => z) (eq := fun a b => tupSame a.l b.l) eqX_tup (fun a => by
    simp only [okKey, tupX, flatV_len, a.len]; rfl) a (es.map fun a => (a, ()))
  simpa [List.map_map, Function.comp_def, List.findIdx?_map] using this
theorem Rising.len {l : List Int} {n : Int} (h : Rising l n) : (l.length : Int) ≤ max n 0 := by
  have key : ∀ (i : Nat) (hi : i < l.length), (i : Int) ≤ l[i] := by
    intro i
    induction i with
    | zero => intro hi; have := (h 0 hi).1; simpa using this
    | succ i ih =>
      intro hi
      have h1 := ih (by omega)
      have h2 := (h (i + 1) hi).2.2 (by omega)
      simp only [Nat.add_sub_cancel] at h2
      omega
  rcases Nat.eq_zero_or_pos l.length with h0 | h0
  · omega
  · have h1 := key (l.length - 1) (by omega)
    have h2 := (h (l.length - 1) (by omega)).2.1
    omega
def valsAt (row : List Val) (cs : List Int) : List Val := cs.map (cellAt row)
def FullR (row : List Val) (cs : List Int) : Prop := ∀ c ∈ cs, ¬ (cellAt row c).kind = 0
theorem fullB_iff {row : List Val} {cs : List Int} : fullB row cs = true ↔ FullR row cs := by
  simp [fullB, FullR, List.all_eq_true]
/-- No two rows without null are alike in a key. -/
def KeyHolds (rows : List (List Val)) (key : List Int) : Prop := ∀ (i j : Nat) (hi : i < rows.length) (hj : j < rows.length), j < i → FullR rows[i] key → FullR rows[j] key → ¬ (valsAt rows[i] key).map Val.key = (valsAt rows[j] key).map Val.key
theorem pad8_inj {a b : List Val} (h : a.length = b.length) : tupSame (pad8 a) (pad8 b) = true ↔ a.map Val.key = b.map Val.key := by
  simp only [tupSame, decide_eq_true_eq, pad8, List.map_append, h]
  constructor
  · intro e; exact List.append_cancel_right e
  · intro e; rw [e]
abbrev KL : List LK := [.i, .i, .s, .i, .i, .s, .i, .i, .s, .i, .i, .s, .i, .i, .s, .i, .i, .s, .i, .i, .s, .i, .i, .s]
abbrev tupE (z : X) (b : Tup) : X × X := (tupX b.l, z)
/-- What is known of the rows looked at. -/
structure Seen (rows : List (List Val)) (k : List Int) (i : Nat) (es : List Tup) : Prop where
  all : ∀ (j : Nat) (h : j < rows.length), j < i → FullR rows[j] k → ∃ b ∈ es, tupSame (pad8 (valsAt rows[j] k)) b.l = true
  only : ∀ b ∈ es, ∃ (j : Nat) (h : j < rows.length), j < i ∧ FullR rows[j] k ∧ b.l = pad8 (valsAt rows[j] k)
  dif : ∀ (m j : Nat) (hm : m < rows.length) (hj : j < rows.length), j < m → m < i → FullR rows[m] k → FullR rows[j] k → ¬ (valsAt rows[m] k).map Val.key = (valsAt rows[j] k).map Val.key
theorem Seen.nil (rows : List (List Val)) (k : List Int) : Seen rows k 0 [] := ⟨fun j h h' => by omega, by simp, fun m j hm hj h1 h2 => by omega⟩
theorem Seen.skip {rows : List (List Val)} {k : List Int} {i : Nat} {es : List Tup} (h : Seen rows k i es) (hi : i < rows.length) (hf : ¬ FullR rows[i] k) : Seen rows k (i + 1) es := by
  refine ⟨fun j hj hji hfj => ?_, fun b hb => ?_, fun m j hm hj h1 h2 f1 f2 => ?_⟩
  · rcases Nat.lt_or_eq_of_le (Nat.le_of_lt_succ hji) with h4 | h4
    · exact h.all j hj h4 hfj
    · subst h4; exact absurd hfj hf
  · obtain ⟨j, hj, h1, h2⟩ := h.only b hb
    exact ⟨j, hj, by omega, h2⟩
  · rcases Nat.lt_or_eq_of_le (Nat.le_of_lt_succ h2) with h4 | h4
    · exact h.dif m j hm hj h1 h4 f1 f2
    · subst h4; exact absurd f1 hf
theorem valsAt_len (row : List Val) (k : List Int) : (valsAt row k).length = k.length := by simp [valsAt]
theorem Seen.add {rows : List (List Val)} {k : List Int} {i : Nat} {es : List Tup} (h : Seen rows k i es) (hi : i < rows.length) (hf : FullR rows[i] k) (b : Tup) (hb : b.l = pad8 (valsAt rows[i] k))
    (hn : ∀ c ∈ es, tupSame b.l c.l = false) : Seen rows k (i + 1) (es ++ [b]) := by
  refine ⟨fun j hj hji hfj => ?_, fun c hc => ?_, fun m j hm hj h1 h2 f1 f2 => ?_⟩
  · rcases Nat.lt_or_eq_of_le (Nat.le_of_lt_succ hji) with h4 | h4
    · obtain ⟨c, hc, h5⟩ := h.all j hj h4 hfj
      exact ⟨c, by simp [hc], h5⟩
    · subst h4
      exact ⟨b, by simp, by rw [hb]; simp [tupSame]⟩
  · rcases List.mem_append.1 hc with hc | hc
    · obtain ⟨j, hj, h1, h2⟩ := h.only c hc
      exact ⟨j, hj, by omega, h2⟩
    · simp at hc; subst hc
      exact ⟨i, hi, by omega, hf, hb⟩
  · rcases Nat.lt_or_eq_of_le (Nat.le_of_lt_succ h2) with h4 | h4
    · exact h.dif m j hm hj h1 h4 f1 f2
    · subst h4
      intro e
      obtain ⟨c, hc, h5⟩ := h.all j hj h1 f2
      have h6 := hn c hc
      rw [hb] at h6
      have h7 : tupSame (pad8 (valsAt rows[m] k)) (pad8 (valsAt rows[j] k)) = true := (pad8_inj (by rw [valsAt_len, valsAt_len])).2 e
      simp only [tupSame, decide_eq_true_eq, decide_eq_false_iff_not] at h5 h6 h7
      exact h6 (h7.trans h5)
theorem Seen.twice {rows : List (List Val)} {k : List Int} {i : Nat} {es : List Tup} (h : Seen rows k i es) (hi : i < rows.length) (hf : FullR rows[i] k) (c : Tup) (hc : c ∈ es)
    (hn : tupSame (pad8 (valsAt rows[i] k)) c.l = true) : ¬ KeyHolds rows k := by
  obtain ⟨j, hj, h1, h2, h3⟩ := h.only c hc
  rw [h3, pad8_inj (by rw [valsAt_len, valsAt_len])] at hn
  exact fun hk => hk i j hi hj h1 hf h2 hn
theorem pickL_len (row : List Val) : ∀ cs : List Int, (pickL row cs).length ≤ cs.length
  | [] => by simp [pickL]
  | c :: cs => by
    have := pickL_len row cs
    simp only [pickL]; split <;> simp; omega
theorem Seen.fin {rows : List (List Val)} {k : List Int} {es : List Tup} (h : Seen rows k rows.length es) : KeyHolds rows k :=
  fun i j hi hj hji f1 f2 => h.dif i j hi hj hji hi f1 f2
set_option maxHeartbeats 4000000 in
theorem c_scheme_keysHold (t : TabD) (rows : List (List Val)) (hk : ∀ k ∈ t.keys, Rising k t.cols.length) (hcl : t.cols.length ≤ 8) (hr : ∀ r ∈ rows, r.length = t.cols.length) (hn : rows.length ≤ 9223372036854775807) (hkl : t.keys.length ≤ 9223372036854775807) :
    call T n_scheme_keysHold [t.enc, .sl false (rows.map rowX)] = some (.v (.bool (bP (∀ k ∈ t.keys, KeyHolds rows k)))) := by
  refine go_scheme_keysHold (by simp) ?_
  obtain ⟨R, hR, hF, hT⟩ := bP_spec (∀ k ∈ t.keys, KeyHolds rows k)
  rw [hR]; clear hR
  replace hk := Hd.mk hk
  replace hr := Hd.mk hr
  simp
  refine wp_rounds (σ := Nat) (fun i e s => e 1 = .sl false (rows.map rowX) ∧ e 15 = .sl false (t.keys.map keyX) ∧ e 16 = i6 t.keys.length ∧ e 17 = i6 i ∧ i ≤ t.keys.length ∧ Hd (∀ (j : Nat) (h : j < t.keys.length), j < i → KeyHolds rows t.keys[j])) (fun i => t.keys.length - i) ?_ 0 _ _
    ⟨by simp, by simp, by simp, by simp, by omega, ⟨fun j h h' => by omega⟩⟩
  rintro i e s ⟨e1, e15, e16, e17, hi, hA⟩ ih
  simp [e1, e15, e16, e17]
  refine wpC_split (fun q => ?_) (fun q => ?_) <;> (have q' := q; try simp at q') <;> (try simp [*])
  · have hki := hk.out _ (List.getElem_mem q')
    have hlen8 : t.keys[i].length ≤ 8 := by have := hki.len; omega
    have bad : ¬ KeyHolds rows t.keys[i] → R = false := fun h => hF.out (fun hh => h (hh _ (List.getElem_mem q')))
    replace bad := Hd.mk bad
    have hcc : Hd (∀ r ∈ rows, ∀ c ∈ t.keys[i], 0 ≤ c ∧ c < (r.length : Int)) := ⟨fun r hrr c hc => by
      obtain ⟨j, hj, rfl⟩ := List.getElem_of_mem hc
      have h1 := hki j hj
      rw [hr.out r hrr]
      exact ⟨h1.1, h1.2.1⟩⟩
    have step : KeyHolds rows t.keys[i] → ∀ (e' : Env) s', e' 1 = .sl false (rows.map rowX) → e' 15 = .sl false (t.keys.map keyX) → e' 16 = i6 t.keys.length → e' 17 = i6 ((i + 1 : Nat) : Int) →
        wp T [.lp scheme_keysHold_l1, .bl 0, .code ((IC.ops scheme_keysHold_r16).seq IC.ret)] e' s' (fun e s => dpC s (e 4) = some (.v (.bool R))) := by
      intro hc e' s' x1 x15 x16 x17
      refine ih.out (i + 1) _ _ ⟨x1, x15, x16, x17, q', ⟨fun j h hj => ?_⟩⟩ (by omega)
      rcases Nat.lt_or_eq_of_le (Nat.le_of_lt_succ hj) with h4 | h4
      · exact hA.out j h h4
      · subst h4; exact hc
    replace step := Hd.mk step
    clear hA ih
    generalize hg : (s 21).g + 1 = g
    generalize t.keys[i] = k at *
    refine wp_rounds (σ := Nat × List Tup) (fun x e s => e 1 = .sl false (rows.map rowX) ∧ e 15 = .sl false (t.keys.map keyX) ∧ e 16 = i6 t.keys.length ∧ e 17 = i6 i ∧ e 6 = keyX k ∧ e 7 = .mp 21 g ∧ (∃ n, s 21 = ⟨g, true, some (.map (x.2.map (tupE (.agg [])))), n⟩) ∧ e 22 = .sl false (rows.map rowX) ∧ e 23 = i6 rows.length ∧ e 24 = i6 x.1 ∧ x.1 ≤ rows.length ∧ Hd (Seen rows k x.1 x.2)) (fun x => rows.length - x.1) ?_ (0, []) _ _
      ⟨by simp [e1], by simp [e15], by simp [e16], by simp [e17], by simp, by simp [hg], ⟨_, by simp [hg]; rfl⟩, by simp, by simp, by simp, by simp, ⟨Seen.nil rows k⟩⟩
    clear hg e1 e15 e16 e17
    rintro ⟨j, es⟩ e s ⟨e1, e15, e16, e17, e6, e7, ⟨n21, s21⟩, e22, e23, e24, hj, hS⟩ jh
    simp only at s21 e24 hj hS
    simp [e1, e6, e7, e15, e16, e17, e22, e23, e24, s21]
    refine wpC_split (fun w => ?_) (fun w => ?_) <;> (have w' := w; try simp at w') <;> (try simp [*])
    · have hp := c_scheme_pick rows[j] k (hcc.out _ (List.getElem_mem w')) hlen8
      have h8 : (pad8 (pickL rows[j] k)).length = 8 := pad8_len (by have := pickL_len rows[j] k; omega)
      have hF1 : Hd (fullB rows[j] k = true → pickL rows[j] k = valsAt rows[j] k ∧ FullR rows[j] k) := ⟨fun h => ⟨(pickL_full (fullB_iff.1 h)).1, fullB_iff.1 h⟩⟩
      have hF2 : Hd (fullB rows[j] k = false → ¬ FullR rows[j] k) := ⟨fun h hf => by rw [fullB_iff.2 hf] at h; simp at h⟩
      generalize hb : (⟨pad8 (pickL rows[j] k), h8⟩ : Tup) = b
      have hb1 : pad8 (pickL rows[j] k) = b.l := by rw [← hb]
      have hf := mfind_tup (.agg []) b es
      have hb2 := b.len
      have next : ∀ (es' : List Tup), Seen rows k (j + 1) es' → ∀ (e' : Env) s', e' 1 = .sl false (rows.map rowX) → e' 15 = .sl false (t.keys.map keyX) → e' 16 = i6 t.keys.length → e' 17 = i6 i → e' 6 = keyX k → e' 7 = .mp 21 g → (∃ n, s' 21 = ⟨g, true, some (.map (es'.map (tupE (.agg [])))), n⟩) → e' 22 = .sl false (rows.map rowX) → e' 23 = i6 rows.length → e' 24 = i6 ((j + 1 : Nat) : Int) →
          wp T [.lp scheme_keysHold_l2, .bl 2, .bl 1, .code (IC.ops scheme_keysHold_r15), .lp scheme_keysHold_l1, .bl 0, .code ((IC.ops scheme_keysHold_r16).seq IC.ret)] e' s' (fun e s => dpC s (e 4) = some (.v (.bool R))) := by
        intro es' hS' e' s' x1 x15 x16 x17 x6 x7 y21 x22 x23 x24
        exact jh.out (j + 1, es') _ _ ⟨x1, x15, x16, x17, x6, x7, y21, x22, x23, x24, w', ⟨hS'⟩⟩ (by simp only; omega)
      replace next := Hd.mk next
      have ws := wrap_succ w' hn
      rw [hb1] at hp
      cases hful : fullB rows[j] k
      · rw [hful] at hp
        have nf := hF2.out hful
        have hS2 := Hd.mk (hS.out.skip w' nf)
        have fin : ∀ e' s', e' 1 = .sl false (rows.map rowX) → e' 15 = .sl false (t.keys.map keyX) → e' 16 = i6 t.keys.length → e' 17 = i6 i → e' 6 = keyX k → e' 7 = .mp 21 g → s' 21 = s 21 → e' 22 = .sl false (rows.map rowX) → e' 23 = i6 rows.length → e' 24 = i6 ((j + 1 : Nat) : Int) →
          wp T [.lp scheme_keysHold_l2, .bl 2, .bl 1, .code (IC.ops scheme_keysHold_r15), .lp scheme_keysHold_l1, .bl 0, .code ((IC.ops scheme_keysHold_r16).seq IC.ret)] e' s' (fun e s => dpC s (e 4) = some (.v (.bool R))) :=
          fun e' s' x1 x2 x3 x4 x5 x6 x7 x8 x9 x10 => next.out es hS2.out e' s' x1 x2 x3 x4 x5 x6 ⟨n21, x7.trans s21⟩ x8 x9 x10
        replace fin := Hd.mk fin
        cases hx : es.findIdx? fun c => tupSame b.l c.l with
        | none =>
          rw [hx] at hf
          simp [hp, hf, s21, e1, e6, e7, e15, e16, e17, e22, e23, e24, hb2, tupX_take hb2, tupX_ones]
          exact fin.out _ _ (by simp [e1]) (by simp [e15]) (by simp [e16]) (by simp [e17]) (by simp [e6]) (by simp [e7]) (by simp) (by simp [e22]) (by simp [e23]) (by simp [ws])
        | some m =>
          rw [hx] at hf
          obtain ⟨hm, h1, _⟩ := List.findIdx?_eq_some_iff_getElem.1 hx
          simp [hp, hf, s21, e1, e6, e7, e15, e16, e17, e22, e23, e24, hb2, hm, tupX_take hb2, tupX_ones]
          exact fin.out _ _ (by simp [e1]) (by simp [e15]) (by simp [e16]) (by simp [e17]) (by simp [e6]) (by simp [e7]) (by simp) (by simp [e22]) (by simp [e23]) (by simp [ws])
      · rw [hful] at hp
        obtain ⟨hv, hfl⟩ := hF1.out hful
        rw [hv] at hb1
        cases hx : es.findIdx? fun c => tupSame b.l c.l with
        | none =>
          rw [hx] at hf
          have hS3 := Hd.mk (hS.out.add w' hfl b hb1.symm (List.findIdx?_eq_none_iff.1 hx))
          have fin : ∀ e' s', e' 1 = .sl false (rows.map rowX) → e' 15 = .sl false (t.keys.map keyX) → e' 16 = i6 t.keys.length → e' 17 = i6 i → e' 6 = keyX k → e' 7 = .mp 21 g → (∃ n, s' 21 = ⟨g, true, some (.map (es.map (tupE (.agg [])) ++ [(tupX b.l, .agg [])])), n⟩) → e' 22 = .sl false (rows.map rowX) → e' 23 = i6 rows.length → e' 24 = i6 ((j + 1 : Nat) : Int) →
              wp T [.lp scheme_keysHold_l2, .bl 2, .bl 1, .code (IC.ops scheme_keysHold_r15), .lp scheme_keysHold_l1, .bl 0, .code ((IC.ops scheme_keysHold_r16).seq IC.ret)] e' s' (fun e s => dpC s (e 4) = some (.v (.bool R))) :=
            fun e' s' x1 x2 x3 x4 x5 x6 x7 x8 x9 x10 => next.out (es ++ [b]) hS3.out e' s' x1 x2 x3 x4 x5 x6 (by simpa using x7) x8 x9 x10
          replace fin := Hd.mk fin
          simp [hp, hf, s21, e1, e6, e7, e15, e16, e17, e22, e23, e24, hb2, tupX_take hb2, tupX_ones]
          exact fin.out _ _ (by simp [e1]) (by simp [e15]) (by simp [e16]) (by simp [e17]) (by simp [e6]) (by simp [e7]) (so_mk (by simp [s21]) (by simp [s21]) (by simp [s21])) (by simp [e22]) (by simp [e23]) (by simp [ws])
        | some m =>
          rw [hx] at hf
          obtain ⟨hm, h1, _⟩ := List.findIdx?_eq_some_iff_getElem.1 hx
          have e0 : R = false := bad.out (hS.out.twice w' hfl es[m] (List.getElem_mem hm) (by rw [hb1]; exact h1))
          simp [hp, hf, s21, e1, e6, e7, e15, e16, e17, e22, e23, e24, hb2, hm, tupX_take hb2, tupX_ones, e0]
    · have hje : j = rows.length := by omega
      subst hje
      have hkh := Hd.mk hS.out.fin
      exact step.out hkh.out _ _ (by simp [e1]) (by simp [e15]) (by simp [e16]) (by simp [e17, wrap_succ q' hkl])
  · exact hT.out (fun k hk => by
      obtain ⟨j, hj, rfl⟩ := List.getElem_of_mem hk
      exact hA.out j hj (by omega))
end Go.Proofs.YtoodknhlnifnlaaGreatDoor
