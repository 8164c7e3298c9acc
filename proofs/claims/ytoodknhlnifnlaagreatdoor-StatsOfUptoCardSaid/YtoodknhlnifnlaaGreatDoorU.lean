/- The engine, part U: regions whose order is drawn. -/
import Derived.Test.YtoodknhlnifnlaaGreatDoorTl
set_option linter.all false
set_option linter.unusedVariables false
set_option linter.unusedSimpArgs false
namespace Go.Proofs.YtoodknhlnifnlaaGreatDoor
open Go.RowKit
variable {P : Program}

def d1 (ops : Array Oper) (i j : Nat) : Bool := match ops[i]? with
  | some o => o.after.toList.any fun e => Region.binds .any e && e.on == j
  | none => false
def dd (ops : Array Oper) : Nat → Nat → Nat → Bool
  | 0, i, j => d1 ops i j
  | n + 1, i, j => d1 ops i j || (match ops[i]? with
    | some o => o.after.toList.any fun e => Region.binds .any e && dd ops n e.on j
    | none => false)
/-- Waits for it, over at most twenty steps between. -/
def d2 (ops : Array Oper) (i j : Nat) : Bool := dd ops 20 i j
def gdst (gl : List GOp) (i : Nat) : Option Nat := match gl[i]? with
  | some g => g.d
  | none => none

def cls : IOp → Nat
  | .box _ _ => 1
  | op => if stillG op = true then 0 else 2
def boxN : IOp → Option Nat
  | .box o _ => some o
  | _ => none
def noCall : IOp → Bool
  | .call .. | .callv .. | .calli .. => false
  | _ => true
def arK : Ar → Bool
  | .k x => (nmA x).isEmpty
  | .t _ => true
def ordB (ops : Array Oper) (i j : Nat) : Bool := (decide (j < i) && d2 ops i j) || (decide (i < j) && d2 ops j i)
/-- What it reads is not written any more. -/
def lateB (gl : List GOp) (p j : Nat) (g : GOp) : Bool := g.rd.all fun t => (List.range p).all fun q => gdst gl q != some t || decide (q < j)
/-- The first p operations in whatever order; each one behind them waits for all before it. -/
def drawOK (ops : Array Oper) (gl : List GOp) (p : Nat) (ch js : List Nat) : Bool :=
  decide (ops.size = gl.length) && decide (p ≤ gl.length) &&
  ((List.range gl.length).all fun i => match ops[i]? with
    | some o => o.after.toList.all fun e => !Region.binds .any e || decide (e.on < i)
    | none => false) &&
  ((List.range gl.length).all fun i => (List.range i).all fun j => (gdst gl i).isNone || (gdst gl i != gdst gl j)) &&
  ((List.range p).all fun i => match gl[i]? with
    | some g => g.op.ars.all arK && (g.rd.all fun t => (List.range p).all fun j => j == i || gdst gl j != some t || ordB ops i j)
    | none => false) &&
  ((List.range gl.length).all fun i => decide (i < p) || (List.range i).all fun j => d2 ops i j) &&
  ((List.range p).all fun i => match gl[i]? with
    | some gi => cls gi.op == 0 || ((List.range p).all fun j => match gl[j]? with
      | some gj => j == i || ordB ops i j || (cls gj.op == 1 && cls gi.op == 1 && boxN gi.op != boxN gj.op) ||
          (cls gj.op == 0 && (freeI gj.op || (lateB gl p j gj && ((gj.op.rd.all fun t => ch.contains t) || (js.contains j && gj.g.isNone && gj.d.isSome && noCall gj.op &&
            (List.range p).all fun k => match gl[k]? with
              | some gk => k == i || cls gk.op == 0
              | none => false)))))
      | none => false)
    | none => false)

structure Drawn (ops : Array Oper) (gl : List GOp) (p : Nat) (ch js : List Nat) : Prop where
  size : ops.size = gl.length
  le : p ≤ gl.length
  edge : ∀ i o, ops[i]? = some o → ∀ e ∈ o.after, Region.binds .any e = true → e.on < i
  dist : ∀ i j t, i < gl.length → j < gl.length → gdst gl i = some t → gdst gl j = some t → i = j
  kst : ∀ i g, i < p → gl[i]? = some g → ∀ a ∈ g.op.ars, arK a = true
  reads : ∀ i g t j, i < p → gl[i]? = some g → t ∈ g.rd → j < p → j ≠ i → gdst gl j = some t → (j < i ∧ d2 ops i j = true) ∨ (i < j ∧ d2 ops j i = true)
  tail : ∀ i j, p ≤ i → i < gl.length → j < i → d2 ops i j = true
  sep : ∀ i j gi gj, i < p → j < p → j ≠ i → gl[i]? = some gi → gl[j]? = some gj → cls gi.op ≠ 0 → ((j < i ∧ d2 ops i j = true) ∨ (i < j ∧ d2 ops j i = true)) ∨
    (cls gj.op = 1 ∧ cls gi.op = 1 ∧ boxN gi.op ≠ boxN gj.op) ∨
    (cls gj.op = 0 ∧ (freeI gj.op = true ∨ (∀ t ∈ gj.rd, ∀ q, q < p → gdst gl q = some t → q < j) ∧ ((∀ t ∈ gj.op.rd, t ∈ ch) ∨ j ∈ js ∧ gj.g = none ∧ (∃ d, gj.d = some d) ∧ noCall gj.op = true ∧ ∀ k gk, k < p → gl[k]? = some gk → k ≠ i → cls gk.op = 0)))

theorem drawOK_spec {ops : Array Oper} {gl : List GOp} {p : Nat} {ch js : List Nat} (h : drawOK ops gl p ch js = true) : Drawn ops gl p ch js := by
  simp only [drawOK, Bool.and_eq_true, decide_eq_true_eq, List.all_eq_true, List.mem_range] at h
  obtain ⟨⟨⟨⟨⟨⟨h1, h2⟩, h3⟩, h4⟩, h5⟩, h6⟩, h7⟩ := h
  have dist' : ∀ i j t, i < gl.length → j < i → gdst gl i = some t → gdst gl j = some t → False := by
    intro i j t hi hj h7 h8
    have := h4 i hi j hj
    simp [h7, h8] at this
  refine ⟨h1, h2, ?_, ?_, ?_, ?_, ?_, ?_⟩
  · intro i o ho e he hb
    have hi : i < gl.length := by have := (Array.getElem?_eq_some_iff.1 ho).1; omega
    have := h3 i hi
    rw [ho] at this
    have := (List.all_eq_true.1 this) e (by simpa using he)
    simpa [hb] using this
  · intro i j t hi hj h7 h8
    rcases Nat.lt_trichotomy i j with hlt | heq | hgt
    · exact (dist' j i t hj hlt h8 h7).elim
    · exact heq
    · exact (dist' i j t hi hgt h7 h8).elim
  · intro i g hi hg
    have := h5 i hi
    rw [hg] at this
    simp only [Bool.and_eq_true, List.all_eq_true] at this
    exact this.1
  · intro i g t j hi hg ht hj hne hd
    have := h5 i hi
    rw [hg] at this
    simp only [Bool.and_eq_true, List.all_eq_true, List.mem_range] at this
    have := this.2 t ht j hj
    simp [hne, hd, ordB] at this
    exact this
  · intro i j hp hi hj
    have := h6 i hi
    simp only [Bool.or_eq_true, decide_eq_true_eq, List.all_eq_true, List.mem_range] at this
    exact (this.resolve_left (by omega)) j hj
  · intro i j gi gj hi hj hne hgi hgj hc
    have := h7 i hi
    rw [hgi] at this
    simp only [Bool.or_eq_true, beq_iff_eq, List.all_eq_true, List.mem_range] at this
    have := (this.resolve_left hc) j hj
    rw [hgj] at this
    simp only [ordB, Bool.or_eq_true, Bool.and_eq_true, beq_iff_eq, decide_eq_true_eq, bne_iff_ne, ne_eq, List.all_eq_true, List.mem_range, List.contains_eq_mem, Option.isNone_iff_eq_none] at this
    rcases this with ((h | h) | h) | h
    · exact absurd h hne
    · exact .inl h
    · exact .inr (.inl ⟨h.1.1, h.1.2, h.2⟩)
    · refine .inr (.inr ⟨h.1, ?_⟩)
      have late : lateB gl p j gj = true → ∀ t ∈ gj.rd, ∀ q, q < p → gdst gl q = some t → q < j := by
        intro hl t ht q hq hd
        simp only [lateB, List.all_eq_true, List.mem_range] at hl
        have := hl t ht q hq
        simpa [hd] using this
      rcases h.2 with h | ⟨hl, h | h⟩
      · exact .inl h
      · exact .inr ⟨late hl, .inl h⟩
      · refine .inr ⟨late hl, .inr ⟨h.1.1.1.1, h.1.1.1.2, Option.isSome_iff_exists.1 h.1.1.2, h.1.2, ?_⟩⟩
        intro k gk hk hgk hki
        have := h.2 k hk
        rw [hgk] at this
        simp only [Bool.or_eq_true, beq_iff_eq] at this
        exact this.resolve_left hki

open Classical in
/-- The slots when the operations L of the first ones have been carried out. -/
noncomputable def envL (e : Env) (gl : List GOp) (xs : Nat → X) (L : Nat → Prop) : Env := fun n =>
  if h : ∃ j, L j ∧ j < gl.length ∧ gdst gl j = some n then xs h.choose else e n
section
variable {ops : Array Oper} {gl : List GOp} {p : Nat} {e : Env} {xs : Nat → X} {L L' : Nat → Prop} {ch js : List Nat}
theorem envL_at (hD : Drawn ops gl p ch js) {j n : Nat} (hL : L j) (hj : j < gl.length) (hd : gdst gl j = some n) : envL e gl xs L n = xs j := by
  unfold envL
  have h : ∃ j, L j ∧ j < gl.length ∧ gdst gl j = some n := ⟨j, hL, hj, hd⟩
  rw [dif_pos h]
  obtain ⟨h1, h2, h3⟩ := h.choose_spec
  rw [hD.dist _ _ n h2 hj h3 hd]
theorem envL_not {n : Nat} (h : ∀ j, L j → j < gl.length → gdst gl j ≠ some n) : envL e gl xs L n = e n := by
  unfold envL
  rw [dif_neg]
  rintro ⟨j, h1, h2, h3⟩
  exact h j h1 h2 h3
theorem envL_none (h : ∀ j, ¬ L j) : envL e gl xs L = e := by
  funext n; exact envL_not fun j hj => absurd hj (h j)
theorem envL_congr {n : Nat} (h : ∀ j, j < gl.length → gdst gl j = some n → (L j ↔ L' j)) (hD : Drawn ops gl p ch js) : envL e gl xs L n = envL e gl xs L' n := by
  by_cases hx : ∃ j, L j ∧ j < gl.length ∧ gdst gl j = some n
  · obtain ⟨j, h1, h2, h3⟩ := hx
    rw [envL_at hD h1 h2 h3, envL_at hD ((h j h2 h3).1 h1) h2 h3]
  · rw [envL_not (fun j h1 h2 h3 => hx ⟨j, h1, h2, h3⟩), envL_not (fun j h1 h2 h3 => hx ⟨j, (h j h2 h3).2 h1, h2, h3⟩)]
theorem envL_ext (h : ∀ j, j < gl.length → (L j ↔ L' j)) (hD : Drawn ops gl p ch js) : envL e gl xs L = envL e gl xs L' := by
  funext n; exact envL_congr (fun j hj _ => h j hj) hD
theorem envL_put (hD : Drawn ops gl p ch js) {i : Nat} (hi : i < gl.length) (hL : ¬ L i) : put (envL e gl xs L) (gdst gl i) (xs i) = envL e gl xs (fun j => L j ∨ j = i) := by
  funext n
  cases hd : gdst gl i with
  | none =>
    simp only [put]
    refine envL_congr (fun j hj hjn => ⟨fun h => .inl h, fun h => h.elim id fun he => ?_⟩) hD
    rw [he, hd] at hjn; simp at hjn
  | some d =>
    simp only [put]
    by_cases hn : n = d
    · subst hn
      rw [upd_same]
      exact (envL_at hD (L := fun j => L j ∨ j = i) (.inr rfl) hi hd).symm
    · rw [upd_ne _ _ hn]
      refine envL_congr (fun j hj hjn => ⟨fun h => .inl h, fun h => h.elim id fun he => ?_⟩) hD
      rw [he, hd] at hjn
      injection hjn with hjn
      exact absurd hjn.symm hn
end

theorem gdst_get {gl : List GOp} {i : Nat} {g : GOp} (h : gl[i]? = some g) : gdst gl i = g.d := by simp [gdst, h]

/-- What one operation did. -/
def Did (T : Nat → Option Fe) (N : Nat) (g : GOp) (e : Env) (s : Sto) (y : X) (s' : Sto) : Prop :=
  (gd g e = some false ∧ y = .tup [] ∧ s' = s) ∨ (gd g e = some true ∧ ∃ m, m < N ∧ opR (runN T m) T g.op e s = some (y, s'))

/-- In the text's order, step by step. -/
theorem text_order {T : Nat → Option Fe} {k : List It} {x : Env × Sto} {s : Sto} {e : Env} {l m : List GOp} {ops : Array Oper} {n N : Nat} {ch js : List Nat} (hD : Drawn ops (l ++ m) l.length ch js) (hn : n ≤ N) (hr : runN T n (.ops l :: k) e s = some x) :
    ∀ q, q ≤ l.length → ∃ (xs : Nat → X) (ss : Nat → Sto), ss 0 = s ∧ (∀ i g, i < q → (l ++ m)[i]? = some g → Did T N g (envL e (l ++ m) xs (· < i)) (ss i) (xs i) (ss (i + 1))) ∧
      ∃ c, c ≤ n ∧ runN T c (.ops (l.drop q) :: k) (envL e (l ++ m) xs (· < q)) (ss q) = some x := by
  intro q
  induction q with
  | zero =>
    intro _
    exact ⟨fun _ => .junk, fun _ => s, rfl, fun i g hi => absurd hi (Nat.not_lt_zero i), n, Nat.le_refl _, by rw [envL_none (fun j hj => absurd hj (Nat.not_lt_zero j))]; simpa using hr⟩
  | succ q ih =>
    intro hq
    obtain ⟨xs, ss, h0, h1, c, hc, h2⟩ := ih (by omega)
    have hlt : q < l.length := by omega
    have hltg : q < (l ++ m).length := by simp; omega
    rw [List.drop_eq_getElem_cons hlt] at h2
    cases c with
    | zero => simp [runN] at h2
    | succ c =>
      simp only [runN] at h2
      have hg : (l ++ m)[q]? = some l[q] := by rw [List.getElem?_append_left hlt]; exact List.getElem?_eq_getElem hlt
      have fin : ∀ y s', runN T c (.ops (l.drop (q + 1)) :: k) (put (envL e (l ++ m) xs (· < q)) l[q].d y) s' = some x → Did T N l[q] (envL e (l ++ m) xs (· < q)) (ss q) y s' →
          ∃ (xs : Nat → X) (ss : Nat → Sto), ss 0 = s ∧ (∀ i g, i < q + 1 → (l ++ m)[i]? = some g → Did T N g (envL e (l ++ m) xs (· < i)) (ss i) (xs i) (ss (i + 1))) ∧
          ∃ c', c' ≤ n ∧ runN T c' (.ops (l.drop (q + 1)) :: k) (envL e (l ++ m) xs (· < q + 1)) (ss (q + 1)) = some x := by
        intro y s' hy hd
        have k3 : ∀ i, i ≤ q → envL e (l ++ m) (fun i => if i = q then y else xs i) (· < i) = envL e (l ++ m) xs (· < i) := by
          intro i hi
          funext n
          by_cases hx : ∃ j, j < i ∧ j < (l ++ m).length ∧ gdst (l ++ m) j = some n
          · obtain ⟨j, a1, a2, a3⟩ := hx
            rw [envL_at (L := (· < i)) hD a1 a2 a3, envL_at (L := (· < i)) hD a1 a2 a3]
            simp [show j ≠ q by omega]
          · rw [envL_not (L := (· < i)) (fun j a1 a2 a3 => hx ⟨j, a1, a2, a3⟩), envL_not (L := (· < i)) (fun j a1 a2 a3 => hx ⟨j, a1, a2, a3⟩)]
        refine ⟨fun i => if i = q then y else xs i, fun i => if i = q + 1 then s' else ss i, by simp [h0], ?_, c, by omega, ?_⟩
        · intro i g hi hgi
          rw [k3 i (by omega)]
          by_cases hiq : i = q
          · subst hiq
            rw [hg] at hgi
            injection hgi with hgi
            subst hgi
            simpa using hd
          · have := h1 i g (by omega) hgi
            simpa [hiq, show i ≠ q + 1 by omega] using this
        · have := envL_put (e := e) (xs := fun i => if i = q then y else xs i) (L := (· < q)) hD hltg (Nat.lt_irrefl q)
          rw [k3 q (Nat.le_refl _), gdst_get hg] at this
          simp only [if_true] at this
          rw [this] at hy
          rw [envL_ext (L' := fun j => j < q ∨ j = q) (fun j _ => by omega) hD]
          simpa using hy
      split at h2
      · rename_i hgd
        split at h2
        case h_2 => simp at h2
        rename_i y s' hy
        exact fin y s' h2 (.inr ⟨hgd, c, by omega, hy⟩)
      · rename_i hgd
        exact fin (.tup []) (ss q) h2 (.inl ⟨hgd, rfl, rfl⟩)
      · simp at h2
end Go.Proofs.YtoodknhlnifnlaaGreatDoor
