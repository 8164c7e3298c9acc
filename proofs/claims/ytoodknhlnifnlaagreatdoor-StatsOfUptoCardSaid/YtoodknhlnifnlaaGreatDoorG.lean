/- The engine, part G: what a variable of this call's own holds, as an immutable value. -/
import Derived.Test.YtoodknhlnifnlaaGreatDoorF
set_option linter.all false
set_option linter.unusedVariables false
set_option linter.unusedSimpArgs false
namespace Go.Proofs.YtoodknhlnifnlaaGreatDoor
open Go.RowKit
variable {P : Program}

theorem idx_lt {i n j k s : Nat} (hi : i < n) (hj : j < k) (h : n * k ≤ s) : i * k + j < s := by
  have h1 : (i + 1) * k ≤ n * k := Nat.mul_le_mul_right k hi
  rw [Nat.add_mul, Nat.one_mul] at h1
  omega

section
variable {w0 : Bs} {sh : Nat → Prop} {nt : Nat} {μ : Nat → Nat} {fr : Nat → Prop} {e : Env} {s : Sto} {a : Act} {w : World}

/-- The context behind a freeze. -/
def cxf (μ : Nat → Nat) (s : Sto) (w : World) (sh fr : Nat → Prop) (l : List Nat) : Cx :=
  cxo μ (frz s l) w sh (fun b => fr b ∨ ∃ o ∈ l, (s o).o.isSome = true ∧ b = μ o)

theorem frz_le (μ : Nat → Nat) (s : Sto) (w : World) (sh fr : Nat → Prop) (l : List Nat) : (cxo μ s w sh fr).Le (cxf μ s w sh fr l) := by
  have hsg : ∀ o, (frz s l o).g = (s o).g := by intro o; unfold frz; split <;> rfl
  refine ⟨fun _ _ _ _ h => h, fun _ _ _ h => h, fun _ h => .inl h, fun _ h => .inl h, ?_, ?_⟩
  · intro o; simp only [cxo, cxf, hsg]; exact Nat.le_refl _
  · intro o _ _; exact ⟨rfl, fun cs t fz h => ⟨cs, t, fz, h, rfl⟩⟩

/-- A part of a row. -/
theorem Inv.seg (h : Inv w0 sh nt μ fr e s a w) {o k i n cap : Nat} {es : List X} (ho : (s o).o = some (.row k es)) (hn : i + n ≤ es.length)
    {l : List Nat} (hl : o ∈ l) (hcap : n ≤ cap) : Rep (cxf μ s w sh fr l) (.sl true ((es.drop i).take n)) (.slice (some ⟨μ o, i * k, none⟩) n cap) := by
  obtain ⟨⟨cs, t, h1, h2, h3, h4, h5, h6⟩, hb, _⟩ := h.obj o _ ho
  by_cases h0 : n = 0
  · subst h0
    simpa using Rep.sl0
  · refine Rep.sl (k := k) (fun l' j => cs.getD ((i + l') * k + j) undef) (by simp; omega) hcap (by simp; omega) (.inl (.inr ⟨o, hl, by simp [ho], rfl⟩)) ?_ ?_ ?_ ?_
    · intro x hx
      exact (h5 x (List.mem_of_mem_drop (List.mem_of_mem_take hx))).1
    · intro l' x j c hx hc
      have hx' : es[i + l']? = some x := by
        rw [List.getElem?_take] at hx
        split at hx
        · rwa [List.getElem?_drop] at hx
        · simp at hx
      have hlt : i + l' < es.length := (List.getElem?_eq_some_iff.1 hx').1
      have hxm := h5 x (List.mem_of_getElem? hx')
      have hj : j < k := by have := (List.getElem?_eq_some_iff.1 hc).1; omega
      have hb : (i + l') * k + j < cs.size := idx_lt hlt hj h2
      have hadd : i * k + l' * k + j = (i + l') * k + j := by rw [Nat.add_mul]
      refine ⟨?_, hxm.2.2 c (List.mem_of_getElem? hc)⟩
      simp only [cxf, cxo] at h1 ⊢
      rw [hadd, cell_of_row w _ _ cs t (0, 0) h1, Array.getElem?_eq_getElem hb]
      simp [Array.getD_eq_getD_getElem?, Array.getElem?_eq_getElem hb]
    · intro _ j
      simp only [cxf, cxo] at h1 ⊢
      exact frozen_of_row w _ _ cs t h1
    · intro l' x j c hx hc
      have hx' : es[i + l']? = some x := by
        rw [List.getElem?_take] at hx
        split at hx
        · rwa [List.getElem?_drop] at hx
        · simp at hx
      have hlt : i + l' < es.length := (List.getElem?_eq_some_iff.1 hx').1
      have hxm := h5 x (List.mem_of_getElem? hx')
      have hj : j < k := by have := (List.getElem?_eq_some_iff.1 hc).1; omega
      have hb : (i + l') * k + j < cs.size := idx_lt hlt hj h2
      refine (h6 (i + l') x j c _ hx' hc ?_).mono (frz_le μ s w sh fr l)
      simp [Array.getD_eq_getD_getElem?, Array.getElem?_eq_getElem hb]

theorem deepL_mem : ∀ {l : List X}, deepL l = true ↔ ∀ c ∈ l, c.deep = true := by
  intro l
  induction l with
  | nil => simp [deepL]
  | cons a l ih => simp [deepL, ih]

theorem Inv.dpn (h : Inv w0 sh nt μ fr e s a w) {x y : X} {v : Value} (hx : Rep (cxo μ s w sh fr) x v) (hy : dpn s x = some y) {l : List Nat} (hl : ∀ o ∈ nmX x, o ∈ l) :
    Rep (cxf μ s w sh fr l) y v ∧ y.deep = true ∧ (x.one = true → y.one = true) := by
  have hle := frz_le μ s w sh fr l
  cases x <;> simp only [Go.Proofs.YtoodknhlnifnlaaGreatDoor.dpn] at hy
  case ref o g k i n =>
    split at hy
    case h_2 => simp at hy
    rename_i k' es ho
    split at hy
    case isFalse => simp at hy
    rename_i hc
    obtain ⟨hg, rfl, hn⟩ := hc
    injection hy with hy
    subst hy
    cases hx with
    | ref _ _ hv _ =>
      obtain ⟨cap, rfl, hcap, _⟩ := hv hg.symm
      refine ⟨h.seg ho hn (hl o (by simp [nmX])) hcap, ?_, fun _ => rfl⟩
      obtain ⟨⟨cs, t, _, _, _, _, h5, _⟩, _⟩ := h.obj o _ ho
      simp only [X.deep]
      exact deepL_mem.2 fun c hc => (h5 c (List.mem_of_mem_drop (List.mem_of_mem_take hc))).2.1
  case nil =>
    injection hy with hy
    subst hy
    cases hx with
    | nil => exact ⟨.sl0, rfl, fun _ => rfl⟩
  all_goals
    first
    | (simp at hy; done)
    | (split at hy
       · injection hy with hy
         subst hy
         exact ⟨hx.mono hle, by assumption, id⟩
       · simp at hy)

theorem Inv.dpL (h : Inv w0 sh nt μ fr e s a w) {l : List Nat} : ∀ {cs ds : List X}, Go.Proofs.YtoodknhlnifnlaaGreatDoor.dpL s cs = some ds → (∀ o ∈ cs.flatMap nmX, o ∈ l) →
    ds.length = cs.length ∧ deepL ds = true ∧ ((∀ c ∈ cs, c.one = true) → ∀ c ∈ ds, c.one = true) ∧
    ∀ vs : Nat → Value, (∀ j c, cs[j]? = some c → Rep (cxo μ s w sh fr) c (vs j)) → ∀ j c, ds[j]? = some c → Rep (cxf μ s w sh fr l) c (vs j) := by
  intro cs
  induction cs with
  | nil => intro ds hd _; simp [Go.Proofs.YtoodknhlnifnlaaGreatDoor.dpL] at hd; subst hd; exact ⟨rfl, rfl, fun h => h, by simp⟩
  | cons c cs ih =>
    intro ds hd hl
    simp only [Go.Proofs.YtoodknhlnifnlaaGreatDoor.dpL] at hd
    split at hd
    case h_2 => simp at hd
    rename_i y m hy hm
    injection hd with hd
    subst hd
    obtain ⟨i1, i2, i3, i4⟩ := ih hm (fun o ho => hl o (by simp only [List.flatMap_cons, List.mem_append]; exact .inr ho))
    have hdp := fun {v : Value} (hv : Rep (cxo μ s w sh fr) c v) => h.dpn hv hy (l := l) (fun o ho => hl o (by simp only [List.flatMap_cons, List.mem_append]; exact .inl ho))
    have hdeep : y.deep = true ∧ (c.one = true → y.one = true) := by
      cases c <;> simp only [Go.Proofs.YtoodknhlnifnlaaGreatDoor.dpn] at hy
      case ref o g k i n =>
        split at hy
        case h_2 => simp at hy
        rename_i k' es ho
        split at hy
        case isFalse => simp at hy
        injection hy with hy
        subst hy
        obtain ⟨⟨cs, t, _, _, _, _, h5, _⟩, _⟩ := h.obj o _ ho
        exact ⟨by simp only [X.deep]; exact deepL_mem.2 fun c hc => (h5 c (List.mem_of_mem_drop (List.mem_of_mem_take hc))).2.1, fun _ => rfl⟩
      case nil => injection hy with hy; subst hy; exact ⟨rfl, fun _ => rfl⟩
      all_goals
        first
        | (simp at hy; done)
        | (split at hy
           · injection hy with hy
             subst hy
             exact ⟨by assumption, id⟩
           · simp at hy)
    refine ⟨by simp [i1], by simp [deepL, hdeep.1, i2], ?_, ?_⟩
    · intro ho z hz
      cases hz with
      | head => exact hdeep.2 (ho c (by simp))
      | tail _ hz => exact i3 (fun x hx => ho x (by simp [hx])) z hz
    · intro vs hv j z hz
      cases j with
      | zero => simp at hz; subst hz; exact (hdp (hv 0 c rfl)).1
      | succ j => exact i4 (fun j => vs (j + 1)) (fun j x hx => hv (j + 1) x (by simpa using hx)) j z (by simpa using hz)

theorem Inv.dpC (h : Inv w0 sh nt μ fr e s a w) {x y : X} {v : Value} (hx : Rep (cxo μ s w sh fr) x v) (hy : Go.Proofs.YtoodknhlnifnlaaGreatDoor.dpC s x = some y) {l : List Nat} (hl : ∀ o ∈ nmC x, o ∈ l) :
    Rep (cxf μ s w sh fr l) y v ∧ y.deep = true := by
  cases x
  case agg cs =>
    simp only [Go.Proofs.YtoodknhlnifnlaaGreatDoor.dpC] at hy
    split at hy
    case h_2 => simp at hy
    rename_i ds hd
    injection hy with hy
    subst hy
    cases hx with
    | agg hlen hone hr =>
      rename_i vs
      obtain ⟨i1, i2, i3, i4⟩ := h.dpL hd (l := l) (by simpa [nmC] using hl)
      refine ⟨.agg (by omega) (i3 hone) ?_, by simpa [X.deep] using i2⟩
      intro j c u hc hu
      have := i4 (fun j => vs.getD j undef) (fun j c hc => hr j c _ hc (by
        have := (List.getElem?_eq_some_iff.1 hc).1
        simp [Array.getD_eq_getD_getElem?, Array.getElem?_eq_getElem (show j < vs.size by omega)])) j c hc
      simpa [Array.getD_eq_getD_getElem?, hu] using this
  all_goals exact ⟨(h.dpn hx hy (by simpa [nmC] using hl)).1, (h.dpn hx hy (l := l) (by simpa [nmC] using hl)).2.1⟩

theorem frz_nil (s : Sto) : frz s [] = s := by funext o; simp [frz]
/-- Nothing is frozen where there is no name. -/
theorem Rep.of_nil {x : X} {v : Value} (h : Rep (cxf μ s w sh fr []) x v) : Rep (cxo μ s w sh fr) x v := by
  refine h.mono ?_
  refine ⟨?_, fun b hb off hv => hv, fun _ h => .inl h, ?_, ?_, ?_⟩
  · intro b _ off v hv; exact hv
  · rintro b (hb | ⟨o, ho, _⟩)
    · exact hb
    · simp at ho
  · intro o; simp only [cxf, cxo, frz_nil]; exact Nat.le_refl _
  · intro o _ _; exact ⟨rfl, fun cs t fz h => ⟨cs, t, fz, h, rfl⟩⟩
end
end Go.Proofs.YtoodknhlnifnlaaGreatDoor
