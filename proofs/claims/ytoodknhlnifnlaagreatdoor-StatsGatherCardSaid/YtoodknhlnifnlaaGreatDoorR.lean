/- The engine, part R: calls. -/
import Derived.Test.YtoodknhlnifnlaaGreatDoorP
import Derived.Scope
set_option linter.all false
set_option linter.unusedVariables false
set_option linter.unusedSimpArgs false
namespace Go.Proofs.YtoodknhlnifnlaaGreatDoor
open Go.RowKit
variable {P : Program}

def cx0 (w : World) (sh fr : Nat → Prop) : Cx := ⟨fun _ => 0, fun _ => 0, w, sh, fr⟩

/-- What a call of a function does: handed immutable values it gives one, and nothing that was there has changed. -/
def PureAt (P : Program) (f : Nat) (xs : List X) (r : X) : Prop :=
  ∀ (w : World) (sh : Nat → Prop) (vs : Array Value), GOK w → (∀ b, sh b → b < w.heap.size) → xs.length = vs.size →
    (∀ (j : Nat) x v, xs[j]? = some x → vs[j]? = some v → Rep (cx0 w sh fun _ => False) x v) →
    Calls P f vs w fun e w' => ∃ v fr', e = .returned v ∧ Below w.heap.size w w' ∧ (∀ b, fr' b → w.heap.size ≤ b ∧ b < w'.heap.size) ∧ Rep (cx0 w' sh fr') r v ∧ r.deep = true

/-- What an inlined call does. -/
def InlAt (P : Program) (f : Nat) (xs : List X) (s : Sto) (r : X) (s' : Sto) : Prop :=
  ∀ {w0 : Bs} {sh : Nat → Prop} {nt : Nat} {μ : Nat → Nat} {fr : Nat → Prop} {e : Env} {a : Act} {w : World}, Inv w0 sh nt μ fr e s a w → ∀ (vs : Array Value), xs.length = vs.size →
  (∀ (j : Nat) x v, xs[j]? = some x → vs[j]? = some v → Rep (cxo μ s w sh fr) x v) →
  Calls P f vs w (fun e' w' => ∃ v μ' fr', e' = .returned v ∧ Inv w0 sh nt μ' fr' e s' a w' ∧ Rep (cxo μ' s' w' sh fr') r v)
/-- What goes over from a callee's context to another. -/
def Ovr (w : World) (sh fr : Nat → Prop) (D : Cx) : Prop := D.w = w ∧ (∀ b, sh b → D.sh b ∨ D.fr b) ∧ ∀ b, fr b → D.fr b
def OwnQ (p : List Nat) (r : X) (ok : Option (Nat × List X)) (w w' : World) (sh fr' : Nat → Prop) (v : Value) : Prop := match ok with
  | none => ∀ D, Ovr w' sh fr' D → Rep D (plug p r .nil) v
  | some (k, es) => ∃ b, w.heap.size ≤ b ∧ ¬ fr' b ∧ (∀ D, Ovr w' sh fr' D → ObR D (.row k es) b) ∧
      ∀ D q g, Ovr w' sh fr' D → 1 ≤ g → g ≤ D.γ q → D.μ q = b → Rep D (plug p r (.ref q g k 0 es.length)) v
/-- What a call does of which one row is the caller's. -/
def OwnAt (P : Program) (p : List Nat) (f : Nat) (xs : List X) (r : X) (ok : Option (Nat × List X)) : Prop :=
  ∀ (w : World) (sh : Nat → Prop) (vs : Array Value), GOK w → (∀ b, sh b → b < w.heap.size) → xs.length = vs.size →
    (∀ (j : Nat) x v, xs[j]? = some x → vs[j]? = some v → Rep (cx0 w sh fun _ => False) x v) →
    Calls P f vs w fun e w' => ∃ v fr', e = .returned v ∧ Below w.heap.size w w' ∧ (∀ b, fr' b → w.heap.size ≤ b ∧ b < w'.heap.size) ∧
      OwnQ p r ok w w' sh fr' v
def InlOK (P : Program) (T : Nat → Option Fe) (n : Nat) : Prop := (∀ f xs s r s', callI (runN T n) T f xs s = some (r, s') → InlAt P f xs s r s') ∧
  ∀ p f xs r ok, ownA (runN T n) T p f xs = some (r, ok) → OwnAt P p f xs r ok

def CallOK (P : Program) (T : Nat → Option Fe) (n : Nat) : Prop := ∀ f xs r, callA (runN T n) T f xs = some r → PureAt P f xs r

theorem shrL_eq (l : List X) : shrL l = l.map X.shr := by
  induction l with
  | nil => rfl
  | cons x l ih => simp [shrL, ih]
theorem shr_cells (x : X) (h : x.deep = true) : x.shr.cells = x.cells.map X.shr := by
  cases x <;> first | rfl | (simp only [X.shr, X.cells, shrL_eq]) | (simp [X.deep] at h; done)
theorem shr_one (x : X) (h : x.one = true) : x.shr.one = true := by
  cases x <;> first | rfl | (simp [X.one] at h; done)
mutual
theorem shr_deep : (x : X) → x.deep = true → x.shr.deep = true
  | .v _, _ => rfl
  | .nil, _ => rfl
  | .sl _ es, h => shrL_deep es h
  | .agg es, h => shrL_deep es h
  | .tup es, h => shrL_deep es h
  | .fn _ es, h => shrL_deep es h
  | .ref .., h => h
  | .ptr .., h => h
  | .ep .., h => h
  | .ip .., h => h
  | .mp .., h => h
  | .junk, h => h
theorem shrL_deep : (l : List X) → deepL l = true → deepL (shrL l) = true
  | [], _ => rfl
  | x :: l, h => by
    simp only [deepL, Bool.and_eq_true] at h
    simp only [shrL, deepL, Bool.and_eq_true]
    exact ⟨shr_deep x h.1, shrL_deep l h.2⟩
end

/-- As an argument. -/
theorem Rep.shr {C : Cx} {x : X} {v : Value} (hx : Rep C x v) (hd : x.deep = true) : Rep (cx0 C.w (fun b => C.sh b ∨ C.fr b) fun _ => False) x.shr v := by
  induction hx with
  | v hp => exact .v hp
  | nil => exact .sl0
  | sl0 => exact .sl0
  | @sl f es b off cap k n val hn hcap hl hb hk hc hz hr ih =>
    simp only [X.shr, shrL_eq]
    simp only [X.deep] at hd
    have hdm := deepL_mem.1 hd
    have hidx : ∀ {i : Nat} {e' : X}, (es.map X.shr)[i]? = some e' → ∃ e, es[i]? = some e ∧ e' = e.shr := by
      intro i e' h
      rw [List.getElem?_map, Option.map_eq_some_iff] at h
      obtain ⟨e, he, rfl⟩ := h
      exact ⟨e, he, rfl⟩
    refine .sl (k := k) val (by simpa using hn) hcap (by simpa using hl) (.inr ⟨rfl, ?_⟩) ?_ ?_ (by simp) ?_
    · rcases hb with hb | ⟨_, hb⟩
      · exact .inr hb
      · exact .inl hb
    · intro e' he'
      obtain ⟨e, he, rfl⟩ := List.mem_map.1 he'
      rw [shr_cells e (hdm e he)]
      simpa using hk e he
    · intro i e' j c hi hj
      obtain ⟨e, he, rfl⟩ := hidx hi
      rw [shr_cells e (hdm e (List.mem_of_getElem? he)), List.getElem?_map, Option.map_eq_some_iff] at hj
      obtain ⟨c', hc', rfl⟩ := hj
      exact ⟨(hc i e j c' he hc').1, shr_one _ (hc i e j c' he hc').2⟩
    · intro i e' j c hi hj
      obtain ⟨e, he, rfl⟩ := hidx hi
      rw [shr_cells e (hdm e (List.mem_of_getElem? he)), List.getElem?_map, Option.map_eq_some_iff] at hj
      obtain ⟨c', hc', rfl⟩ := hj
      exact ih i e j c' he hc' (deep_cells (hdm e (List.mem_of_getElem? he)) c' (List.mem_of_getElem? hc'))
  | agg hl ho hr ih =>
    simp only [X.shr, shrL_eq]
    simp only [X.deep] at hd
    refine .agg (by simpa using hl) ?_ ?_
    · intro c hc
      obtain ⟨y, hy, rfl⟩ := List.mem_map.1 hc
      exact shr_one _ (ho y hy)
    · intro j c v hj hv
      rw [List.getElem?_map, Option.map_eq_some_iff] at hj
      obtain ⟨y, hy, rfl⟩ := hj
      exact ih j y v hy hv (deepL_mem.1 hd y (List.mem_of_getElem? hy))
  | tup hl hr ih =>
    simp only [X.shr, shrL_eq]
    simp only [X.deep] at hd
    refine .tup (by simpa using hl) ?_
    intro j c v hj hv
    rw [List.getElem?_map, Option.map_eq_some_iff] at hj
    obtain ⟨y, hy, rfl⟩ := hj
    exact ih j y v hy hv (deepL_mem.1 hd y (List.mem_of_getElem? hy))
  | fn hl hr ih =>
    simp only [X.shr, shrL_eq]
    simp only [X.deep] at hd
    refine .fn (by simpa using hl) ?_
    intro j c v hj hv
    rw [List.getElem?_map, Option.map_eq_some_iff] at hj
    obtain ⟨y, hy, rfl⟩ := hj
    exact ih j y v hy hv (deepL_mem.1 hd y (List.mem_of_getElem? hy))
  | _ => simp [X.deep] at hd

section
variable {w0 : Bs} {sh : Nat → Prop} {nt : Nat} {μ : Nat → Nat} {fr : Nat → Prop} {e : Env} {s : Sto} {a : Act} {w : World}

theorem dpn0_rep {C : Cx} {x y : X} {v : Value} (hx : Rep C x v) (hy : dpn0 x = some y) : Rep C y v ∧ y.deep = true ∧ (x.one = true → y.one = true) ∧ y.cells = [y] := by
  cases x <;> simp only [dpn0] at hy
  case nil =>
    injection hy with hy
    subst hy
    cases hx with
    | nil => exact ⟨.sl0, rfl, fun _ => rfl, rfl⟩
  all_goals first
    | (simp at hy; done)
    | (split at hy
       · injection hy with hy
         subst hy
         exact ⟨hx, by assumption, id, rfl⟩
       · simp at hy)
theorem dpL0_len : ∀ {cs ds : List X}, dpL0 cs = some ds → ds.length = cs.length ∧ ∀ (j : Nat) c d, cs[j]? = some c → ds[j]? = some d → dpn0 c = some d := by
  intro cs
  induction cs with
  | nil => intro ds h; simp only [dpL0, Option.some.injEq] at h; subst h; exact ⟨rfl, by simp⟩
  | cons c cs ih =>
    intro ds h
    simp only [dpL0] at h
    split at h
    case h_2 => simp at h
    rename_i y m hy hm
    injection h with h
    subst h
    obtain ⟨i1, i2⟩ := ih hm
    refine ⟨by simp [i1], ?_⟩
    intro j c' d hc hd
    cases j with
    | zero => simp at hc hd; subst hc; subst hd; exact hy
    | succ j => exact i2 j c' d (by simpa using hc) (by simpa using hd)
theorem dpC0_cells {x y : X} (hy : dpC0 x = some y) : y.cells.length = x.cells.length ∧ ∀ (j : Nat) c d, x.cells[j]? = some c → y.cells[j]? = some d → dpn0 c = some d := by
  have one : ∀ {x y : X}, dpn0 x = some y → x.cells = [x] → y.cells.length = x.cells.length ∧ ∀ (j : Nat) c d, x.cells[j]? = some c → y.cells[j]? = some d → dpn0 c = some d := by
    intro x y h hx
    have hy : y.cells = [y] := by
      cases x <;> simp only [dpn0] at h <;> first | (simp at h; done) | (split at h <;> first | (injection h with h; subst h; rfl) | (simp at h; done)) | (injection h with h; subst h; rfl)
    rw [hx, hy]
    refine ⟨rfl, fun j c d hc hd => ?_⟩
    cases j with
    | zero => simp at hc hd; subst hc; subst hd; exact h
    | succ j => simp at hc
  cases x
  case agg cs =>
    simp only [dpC0] at hy
    split at hy
    case h_2 => simp at hy
    rename_i ds hds
    injection hy with hy
    subst hy
    exact dpL0_len hds
  all_goals exact one hy rfl

theorem dpn0_deep {x y : X} (hy : dpn0 x = some y) : y.deep = true := by
  cases x <;> simp only [dpn0] at hy <;> first | (simp at hy; done) | (split at hy <;> first | (injection hy with hy; subst hy; assumption) | (simp at hy; done)) | (injection hy with hy; subst hy; rfl)
theorem dpC0_deep {x y : X} (hy : dpC0 x = some y) : y.deep = true := by
  cases x
  case agg cs =>
    simp only [dpC0] at hy
    split at hy
    case h_2 => simp at hy
    rename_i ds hds
    injection hy with hy
    subst hy
    simp only [X.deep]
    obtain ⟨i1, i2⟩ := dpL0_len hds
    refine deepL_mem.2 fun d hd => ?_
    obtain ⟨j, hj⟩ := List.getElem?_of_mem hd
    have hjl : j < cs.length := by have := (List.getElem?_eq_some_iff.1 hj).1; omega
    exact dpn0_deep (i2 j _ d (List.getElem?_eq_getElem hjl) hj)
  all_goals (simp only [dpC0] at hy; exact dpn0_deep hy)

theorem Inv.dpH (h : Inv w0 sh nt μ fr e s a w) {x y : X} {v : Value} (hx : Rep (cxo μ s w sh fr) x v) (hy : Go.Proofs.YtoodknhlnifnlaaGreatDoor.dpH s x = some y) {l : List Nat} (hl : ∀ o ∈ nmH x, o ∈ l) :
    Rep (cx0 w (fun b => sh b ∨ (fr b ∨ ∃ o ∈ l, (s o).o.isSome = true ∧ b = μ o)) fun _ => False) y.shr v := by
  have ip : ∀ {z : X} {j : Nat} {C : Cx}, (∀ c ∈ z.cells, c.deep = true) → z.shr.cells = z.cells.map X.shr → Rep C (.ip z j) v → C.w = w → (∀ b, C.sh b ∨ C.fr b → sh b ∨ (fr b ∨ ∃ o ∈ l, (s o).o.isSome = true ∧ b = μ o)) →
      Rep (cx0 w (fun b => sh b ∨ (fr b ∨ ∃ o ∈ l, (s o).o.isSome = true ∧ b = μ o)) fun _ => False) (X.ip z j).shr v := by
    intro z j C hd hz hr hw hC
    subst hw
    cases hr with
    | ip val hb hc hr =>
      simp only [X.shr]
      have up : ∀ {l : Nat} {c : X}, z.shr.cells[l]? = some c → ∃ d, z.cells[l]? = some d ∧ c = d.shr := by
        intro l c hl
        rw [hz, List.getElem?_map, Option.map_eq_some_iff] at hl
        obtain ⟨d, hd, rfl⟩ := hl
        exact ⟨d, hd, rfl⟩
      refine .ip val (.inr (hC _ hb.symm)) ?_ ?_
      · intro l c hl
        obtain ⟨d, hd', rfl⟩ := up hl
        exact ⟨(hc l d hd').1, shr_one _ (hc l d hd').2⟩
      · intro l c hl
        obtain ⟨d, hd', rfl⟩ := up hl
        have := (hr l d hd').shr (hd d (List.mem_of_getElem? hd'))
        exact this.deep_mono (shr_deep _ (hd d (List.mem_of_getElem? hd'))) (fun _ _ _ _ h => h) (fun _ _ _ h => h) (fun b hb => .inl (hC b hb)) (fun _ h => h)
  cases x
  case ptr o g j =>
    simp only [Go.Proofs.YtoodknhlnifnlaaGreatDoor.dpH] at hy
    split at hy
    case h_2 => simp at hy
    rename_i z ho
    split at hy
    case isFalse => simp at hy
    rename_i hg
    split at hy
    case h_2 => simp at hy
    rename_i z' hz
    injection hy with hy
    subst hy
    have hol : o ∈ l := hl o (by simp [nmH])
    obtain ⟨⟨cs, t, o1, o2, o3, o4⟩, _⟩ := h.obj o _ ho
    obtain ⟨hlen, hcells⟩ := dpC0_cells hz
    have hv : v = .pointer (some ⟨μ o, j, none⟩) := by
      cases hx with
      | ptr _ _ h3 _ => exact h3 hg.symm
    subst hv
    have hle := frz_le μ s w sh fr l
    have cell : ∀ {i : Nat} {c : X}, z'.cells[i]? = some c → ∃ d u, z.cells[i]? = some d ∧ cs[i]? = some u ∧ dpn0 d = some c ∧ d.one = true ∧ Rep (cxf μ s w sh fr l) d u := by
      intro i c hc
      have hi : i < z.cells.length := by have := (List.getElem?_eq_some_iff.1 hc).1; omega
      have hi' : i < cs.size := by omega
      have hd := List.getElem?_eq_getElem hi
      have hu := Array.getElem?_eq_getElem hi'
      exact ⟨_, _, hd, hu, hcells i _ c hd hc, o3 _ (List.mem_of_getElem? hd), (o4 i _ _ hd hu).mono hle⟩
    have hdeep := dpC0_deep hz
    refine ip (C := cxf μ s w sh fr l) (deep_cells hdeep) (shr_cells z' hdeep) ?_ rfl (fun b hb => hb.elim .inl fun h => .inr h)
    have := Rep.ip (C := cxf μ s w sh fr l) (x := z') (j := j) (b := μ o) (off := 0) (fun i => cs.getD i undef) (.inl (.inr ⟨o, hol, by simp [ho], rfl⟩)) (by
      intro i c hc
      obtain ⟨d, u, hd, hu, hn, ho', hr⟩ := cell hc
      refine ⟨?_, (dpn0_rep hr hn).2.2.1 ho'⟩
      rw [Nat.zero_add]
      have hw : (cxf μ s w sh fr l).w = w := rfl
      have o1' : w.heap[μ o]? = some (.cells cs t (0, 0)) := o1
      rw [hw, cell_of_row _ _ _ _ t (0, 0) o1']
      simp [Array.getD_eq_getD_getElem?, hu]) (by
      intro i c hc
      obtain ⟨d, u, hd, hu, hn, ho', hr⟩ := cell hc
      have := (dpn0_rep hr hn).1
      simpa [Array.getD_eq_getD_getElem?, hu] using this)
    simpa using this
  case ip z j =>
    simp only [Go.Proofs.YtoodknhlnifnlaaGreatDoor.dpH] at hy
    split at hy
    case isFalse => simp at hy
    rename_i hd
    injection hy with hy
    subst hy
    exact ip (deep_cells hd) (shr_cells z hd) hx rfl (fun b hb => hb.elim .inl (fun h => .inr (.inl h)))
  all_goals
    obtain ⟨h1, h2, _⟩ := h.dpn hx hy (l := l) hl
    exact h1.shr h2

theorem dpHL_len {s : Sto} : ∀ {cs ds : List X}, dpHL s cs = some ds → ds.length = cs.length ∧ ∀ (j : Nat) c d, cs[j]? = some c → ds[j]? = some d → Go.Proofs.YtoodknhlnifnlaaGreatDoor.dpH s c = some d := by
  intro cs
  induction cs with
  | nil => intro ds h; simp only [dpHL, Option.some.injEq] at h; subst h; exact ⟨rfl, by simp⟩
  | cons c cs ih =>
    intro ds h
    simp only [dpHL] at h
    split at h
    case h_2 => simp at h
    rename_i y m hy hm
    injection h with h
    subst h
    obtain ⟨i1, i2⟩ := ih hm
    refine ⟨by simp [i1], ?_⟩
    intro j c' d hc hd
    cases j with
    | zero => simp at hc hd; subst hc; subst hd; exact hy
    | succ j => exact i2 j c' d (by simpa using hc) (by simpa using hd)
theorem Inv.dpG (h : Inv w0 sh nt μ fr e s a w) {x y : X} {v : Value} (hx : Rep (cxo μ s w sh fr) x v) (hy : Go.Proofs.YtoodknhlnifnlaaGreatDoor.dpG s x = some y) {l : List Nat} (hl : ∀ o ∈ nmG x, o ∈ l) :
    Rep (cx0 w (fun b => sh b ∨ (fr b ∨ ∃ o ∈ l, (s o).o.isSome = true ∧ b = μ o)) fun _ => False) y.shr v := by
  cases x
  case fn f cs =>
    simp only [Go.Proofs.YtoodknhlnifnlaaGreatDoor.dpG] at hy
    split at hy
    case h_2 => simp at hy
    rename_i ds hds
    injection hy with hy
    subst hy
    obtain ⟨i1, i2⟩ := dpHL_len hds
    cases hx with
    | fn hlen hr =>
      simp only [X.shr, shrL_eq]
      refine .fn (by simpa [i1] using hlen) ?_
      intro j c v' hj hv'
      rw [List.getElem?_map, Option.map_eq_some_iff] at hj
      obtain ⟨d, hd, rfl⟩ := hj
      have hjl : j < cs.length := by have := (List.getElem?_eq_some_iff.1 hd).1; omega
      have hc := List.getElem?_eq_getElem hjl
      exact h.dpH (hr j _ v' hc hv') (i2 j _ d hc hd) (fun o ho => hl o (by simp only [nmG]; exact List.mem_flatMap.2 ⟨_, List.mem_of_getElem? hc, ho⟩))
  case ptr => exact h.dpH hx hy hl
  case ip => exact h.dpH hx hy hl
  all_goals
    obtain ⟨h1, h2⟩ := h.dpC hx hy (l := l) hl
    exact h1.shr h2
theorem Inv.dpA (h : Inv w0 sh nt μ fr e s a w) {l : List Nat} : ∀ {xs ys : List X}, Go.Proofs.YtoodknhlnifnlaaGreatDoor.dpA s xs = some ys → (∀ o ∈ xs.flatMap nmG, o ∈ l) →
    ys.length = xs.length ∧ ∀ vs : Nat → Value, (∀ j x, xs[j]? = some x → Rep (cxo μ s w sh fr) x (vs j)) → ∀ j y, ys[j]? = some y → Rep (cx0 w (fun b => sh b ∨ (fr b ∨ ∃ o ∈ l, (s o).o.isSome = true ∧ b = μ o)) fun _ => False) y (vs j) := by
  intro xs
  induction xs with
  | nil => intro ys hy _; simp only [Go.Proofs.YtoodknhlnifnlaaGreatDoor.dpA, Option.some.injEq] at hy; subst hy; exact ⟨rfl, by simp⟩
  | cons x xs ih =>
    intro ys hy hl
    simp only [Go.Proofs.YtoodknhlnifnlaaGreatDoor.dpA] at hy
    split at hy
    case h_2 => simp at hy
    rename_i z m hz hm
    injection hy with hy
    subst hy
    obtain ⟨i1, i2⟩ := ih hm (fun o ho => hl o (by simp only [List.flatMap_cons, List.mem_append]; exact .inr ho))
    refine ⟨by simp [i1], ?_⟩
    intro vs hv j y hj
    cases j with
    | zero =>
      simp at hj; subst hj
      exact h.dpG (hv 0 x rfl) hz (l := l) (fun o ho => hl o (by simp only [List.flatMap_cons, List.mem_append]; exact .inl ho))
    | succ j => exact i2 (fun j => vs (j + 1)) (fun j x hx => hv (j + 1) x (by simpa using hx)) j y (by simpa using hj)

/-- Behind a call. -/
theorem call_sound (h : Inv w0 sh nt μ fr e s a w) {T : Nat → Option Fe} {n : Nat} (hT : CallOK P T n) {st : Bool} {f : Nat} {l : List X} {vs : Array Value} (hl : l.length = vs.size)
    (hv : ∀ (j : Nat) x v, l[j]? = some x → vs[j]? = some v → Rep (cxo μ s w sh fr) x v) {x : X} {s' : Sto} (hs : callS (runN T n) T st f l s = some (x, s')) :
    Calls P f vs w (fun e' w' => ∃ v μ' fr', e' = .returned v ∧ Inv w0 sh nt μ' fr' e s' a w' ∧ Rep (cxo μ' s' w' sh fr') x v ∧ (st = true → s' = s ∧ μ' = μ)) := by
  unfold callS at hs
  split at hs
  case h_1 => simp at hs
  rename_i ys hys
  split at hs
  case h_1 => simp at hs
  rename_i r hr
  obtain ⟨i1, i2⟩ := h.dpA hys (l := l.flatMap nmG) (fun _ h => h)
  obtain ⟨hI0, hle0⟩ := h.frz (l.flatMap nmG)
  have hP := hT f ys r hr w (fun b => sh b ∨ (fr b ∨ ∃ o ∈ l.flatMap nmG, (s o).o.isSome = true ∧ b = μ o)) vs (w0.gok.below w0.gok.1 h.below) (by
      rintro b (hb | hb)
      · exact Nat.lt_of_lt_of_le (h.sh_lt b hb) h.below.size
      · exact (hI0.fr_lt b hb).2) (by omega) (by
      intro j y v hy hjv
      have hj := (List.getElem?_eq_some_iff.1 hy).1
      have := i2 (fun j => vs.getD j undef) (fun j x hx => hv j x _ hx (by
        have := (List.getElem?_eq_some_iff.1 hx).1
        simp [Array.getD_eq_getD_getElem?, Array.getElem?_eq_getElem (show j < vs.size by omega)])) j y hy
      simpa [Array.getD_eq_getD_getElem?, hjv] using this)
  refine hP.mono ?_
  rintro e' w' ⟨v, fr', rfl, hb, hfr', hrep, hd⟩
  split at hs
  · rename_i hsc
    simp only [Option.some.injEq, Prod.mk.injEq] at hs
    obtain ⟨rfl, rfl⟩ := hs
    obtain ⟨hI, _⟩ := h.news w' hb (fun b => fr b) (fun _ h => h) (fun b hb => .inl hb)
    exact ⟨v, μ, _, rfl, hI, hrep.scal hsc, fun _ => ⟨rfl, rfl⟩⟩
  · split at hs
    · simp at hs
    rename_i hnn
    simp only [Option.some.injEq, Prod.mk.injEq] at hs
    obtain ⟨rfl, rfl⟩ := hs
    obtain ⟨hI, hle⟩ := hI0.news w' hb (fun b => (fr b ∨ ∃ o ∈ l.flatMap nmG, (s o).o.isSome = true ∧ b = μ o) ∨ fr' b) (fun _ h => .inl h) (fun b hb => hb.imp id (hfr' b))
    refine ⟨v, μ, _, rfl, hI, ?_, ?_⟩
    · refine hrep.deep_mono hd (fun _ _ _ _ h => h) (fun _ _ _ h => h) ?_ ?_
      · rintro b (hb | hb)
        · exact .inl hb
        · exact .inr (.inl hb)
      · intro b hb; exact .inr hb
    · intro hst
      have : l.flatMap nmG = [] := by
        by_cases hq : l.flatMap nmG = []
        · exact hq
        · exact absurd ⟨hst, hq⟩ hnn
      rw [this, frz_nil]
      exact ⟨rfl, rfl⟩
theorem Inv.dpGm (h : Inv w0 sh nt μ fr e s a w) {x y : X} {v : Value} (hx : Rep (cxo μ s w sh fr) x v) (hy : Go.Proofs.YtoodknhlnifnlaaGreatDoor.dpGm s x = some y) {l : List Nat} (hl : ∀ o ∈ nmGm s x, o ∈ l) :
    Rep (cx0 w (fun b => sh b ∨ (fr b ∨ ∃ o ∈ l, (s o).o.isSome = true ∧ b = μ o)) fun _ => False) y.shr v := by
  cases x
  case ref =>
    obtain ⟨h1, h2⟩ := h.dpm hx hy (l := l) hl
    exact h1.shr h2
  all_goals exact h.dpG hx hy hl
theorem Inv.dpAm (h : Inv w0 sh nt μ fr e s a w) {l : List Nat} : ∀ {xs ys : List X}, Go.Proofs.YtoodknhlnifnlaaGreatDoor.dpAm s xs = some ys → (∀ o ∈ xs.flatMap (nmGm s), o ∈ l) →
    ys.length = xs.length ∧ ∀ vs : Nat → Value, (∀ j x, xs[j]? = some x → Rep (cxo μ s w sh fr) x (vs j)) → ∀ j y, ys[j]? = some y → Rep (cx0 w (fun b => sh b ∨ (fr b ∨ ∃ o ∈ l, (s o).o.isSome = true ∧ b = μ o)) fun _ => False) y (vs j) := by
  intro xs
  induction xs with
  | nil => intro ys hy _; simp only [Go.Proofs.YtoodknhlnifnlaaGreatDoor.dpAm, Option.some.injEq] at hy; subst hy; exact ⟨rfl, by simp⟩
  | cons x xs ih =>
    intro ys hy hl
    simp only [Go.Proofs.YtoodknhlnifnlaaGreatDoor.dpAm] at hy
    split at hy
    case h_2 => simp at hy
    rename_i z m hz hm
    injection hy with hy
    subst hy
    obtain ⟨i1, i2⟩ := ih hm (fun o ho => hl o (by simp only [List.flatMap_cons, List.mem_append]; exact .inr ho))
    refine ⟨by simp [i1], ?_⟩
    intro vs hv j y hj
    cases j with
    | zero =>
      simp at hj; subst hj
      exact h.dpGm (hv 0 x rfl) hz (l := l) (fun o ho => hl o (by simp only [List.flatMap_cons, List.mem_append]; exact .inl ho))
    | succ j => exact i2 (fun j => vs (j + 1)) (fun j x hx => hv (j + 1) x (by simpa using hx)) j y (by simpa using hj)
theorem callb_sound (h : Inv w0 sh nt μ fr e s a w) {T : Nat → Option Fe} {n : Nat} (hT : CallOK P T n) {f : Nat} {l : List X} {vs : Array Value} (hl : l.length = vs.size)
    (hv : ∀ (j : Nat) x v, l[j]? = some x → vs[j]? = some v → Rep (cxo μ s w sh fr) x v) {x : X} {s' : Sto} (hs : callB (runN T n) T f l s = some (x, s')) :
    Calls P f vs w (fun e' w' => ∃ v μ' fr', e' = .returned v ∧ Inv w0 sh nt μ' fr' e s' a w' ∧ Rep (cxo μ' s' w' sh fr') x v) := by
  unfold callB at hs
  split at hs
  case h_1 => simp at hs
  rename_i ys hys
  split at hs
  case h_1 => simp at hs
  rename_i r hr
  obtain ⟨i1, i2⟩ := h.dpAm hys (l := l.flatMap (nmGm s)) (fun _ h => h)
  obtain ⟨hI0, hle0⟩ := h.frz (l.flatMap (nmGm s))
  have hP := hT f ys r hr w (fun b => sh b ∨ (fr b ∨ ∃ o ∈ l.flatMap (nmGm s), (s o).o.isSome = true ∧ b = μ o)) vs (w0.gok.below w0.gok.1 h.below) (by
      rintro b (hb | hb)
      · exact Nat.lt_of_lt_of_le (h.sh_lt b hb) h.below.size
      · exact (hI0.fr_lt b hb).2) (by omega) (by
      intro j y v hy hjv
      have hj := (List.getElem?_eq_some_iff.1 hy).1
      have := i2 (fun j => vs.getD j undef) (fun j x hx => hv j x _ hx (by
        have := (List.getElem?_eq_some_iff.1 hx).1
        simp [Array.getD_eq_getD_getElem?, Array.getElem?_eq_getElem (show j < vs.size by omega)])) j y hy
      simpa [Array.getD_eq_getD_getElem?, hjv] using this)
  refine hP.mono ?_
  rintro e' w' ⟨v, fr', rfl, hb, hfr', hrep, hd⟩
  split at hs
  case isFalse => simp at hs
  rename_i hsc
  simp only [Option.some.injEq, Prod.mk.injEq] at hs
  obtain ⟨rfl, rfl⟩ := hs
  obtain ⟨hI, _⟩ := h.news w' hb (fun b => fr b) (fun _ h => h) (fun b hb => .inl hb)
  exact ⟨v, μ, _, rfl, hI, hrep.scal hsc⟩
/-- A part of what is handed back. -/
theorem Inv.dpT (h : Inv w0 sh nt μ fr e s a w) {l : List Nat} : ∀ {cs ds : List X}, Go.Proofs.YtoodknhlnifnlaaGreatDoor.dpT s cs = some ds → (∀ o ∈ cs.flatMap nmC, o ∈ l) →
    ds.length = cs.length ∧ ∀ (j : Nat) c d v, cs[j]? = some c → ds[j]? = some d → Rep (cxo μ s w sh fr) c v → Rep (cxf μ s w sh fr l) d v ∧ d.deep = true := by
  intro cs
  induction cs with
  | nil => intro ds hd _; simp [Go.Proofs.YtoodknhlnifnlaaGreatDoor.dpT] at hd; subst hd; exact ⟨rfl, by simp⟩
  | cons c cs ih =>
    intro ds hd hl
    simp only [Go.Proofs.YtoodknhlnifnlaaGreatDoor.dpT] at hd
    split at hd
    case h_2 => simp at hd
    rename_i y m hy hm
    injection hd with hd
    subst hd
    obtain ⟨i1, i2⟩ := ih hm (fun o ho => hl o (by simp only [List.flatMap_cons, List.mem_append]; exact .inr ho))
    refine ⟨by simp [i1], ?_⟩
    intro j c' d v hc hdj hv
    cases j with
    | zero =>
      simp at hc hdj; subst hc; subst hdj
      exact h.dpC hv hy (fun o ho => hl o (by simp only [List.flatMap_cons, List.mem_append]; exact .inl ho))
    | succ j => exact i2 j c' d v (by simpa using hc) (by simpa using hdj) hv
/-- What is handed back but for one row. -/
theorem Inv.ownX (h : Inv w0 sh nt μ fr e s a w) {l : List Nat} : ∀ {p : List Nat} {x r y : X} {v : Value}, Go.Proofs.YtoodknhlnifnlaaGreatDoor.ownX s p x = some (r, y) → (∀ o ∈ ownN p x, o ∈ l) → Rep (cxo μ s w sh fr) x v →
    ∃ u, Rep (cxo μ s w sh fr) y u ∧ ∀ (D : Cx) (z : X), Ovr w sh (fun b => fr b ∨ ∃ o ∈ l, (s o).o.isSome = true ∧ b = μ o) D → z.one = true → Rep D z u → Rep D (plug p r z) v := by
  have tr : ∀ {D : Cx} {y : X} {v : Value}, Ovr w sh (fun b => fr b ∨ ∃ o ∈ l, (s o).o.isSome = true ∧ b = μ o) D → Rep (cxf μ s w sh fr l) y v → y.deep = true → Rep D y v := by
    intro D y v hD hy hd
    obtain ⟨h1, h2, h3⟩ := hD
    exact hy.deep_mono hd (fun _ _ _ _ hc => by rw [h1]; exact hc) (fun _ _ _ hc => by rw [h1]; exact hc) h2 h3
  intro p
  induction p with
  | nil =>
    intro x r y v hx _ hv
    simp only [Go.Proofs.YtoodknhlnifnlaaGreatDoor.ownX, Option.some.injEq, Prod.mk.injEq] at hx
    obtain ⟨rfl, rfl⟩ := hx
    exact ⟨v, hv, fun D z _ _ hz => by simpa [plug] using hz⟩
  | cons i p ih =>
    intro x r y v hx hl hv
    cases x
    case tup cs =>
      simp only [Go.Proofs.YtoodknhlnifnlaaGreatDoor.ownX] at hx
      split at hx
      case h_2 => simp at hx
      rename_i c hc
      split at hx
      case h_2 => simp at hx
      rename_i hh y' ds hrec hds
      simp only [Option.some.injEq, Prod.mk.injEq] at hx
      obtain ⟨rfl, rfl⟩ := hx
      cases hv with
      | tup hlen hr =>
        rename_i vs
        have hi : i < cs.length := (List.getElem?_eq_some_iff.1 hc).1
        obtain ⟨u, hu, hpl⟩ := ih hrec (fun o ho => hl o (by simp only [ownN, hc, List.mem_append]; exact .inr ho)) (hr i c vs[i] hc (Array.getElem?_eq_getElem (by omega)))
        refine ⟨u, hu, fun D z hD ho hz => ?_⟩
        obtain ⟨i1, i2⟩ := h.dpT hds (l := l) (fun o ho => hl o (by simp only [ownN, List.mem_append]; exact .inl ho))
        have i1 : ds.length = cs.length := by simpa using i1
        simp only [plug]
        refine .tup (by simp [i1, hlen]) ?_
        intro j c' v' hcj hvj
        by_cases hj : j = i
        · subst hj
          have hvj' : vs[j]? = some vs[j] := Array.getElem?_eq_getElem (by omega)
          rw [hvj'] at hvj
          injection hvj with hvj
          subst hvj
          rw [List.getElem?_set_self (by simp; omega)] at hcj
          injection hcj with hcj
          subst hcj
          simp only [List.getD_eq_getElem?_getD, List.getElem?_set_self (show j < ds.length by omega), Option.getD_some]
          exact hpl D z hD ho hz
        · rw [List.getElem?_set_ne (Ne.symm hj), List.getElem?_set_ne (Ne.symm hj)] at hcj
          have hjl : j < cs.length := by have := (List.getElem?_eq_some_iff.1 hcj).1; omega
          have := i2 j cs[j] c' v' (by rw [List.getElem?_set_ne (Ne.symm hj)]; exact List.getElem?_eq_getElem hjl) hcj (hr j _ v' (List.getElem?_eq_getElem hjl) hvj)
          exact tr hD this.1 this.2
    case agg cs =>
      cases p with
      | cons => simp [Go.Proofs.YtoodknhlnifnlaaGreatDoor.ownX] at hx
      | nil =>
        simp only [Go.Proofs.YtoodknhlnifnlaaGreatDoor.ownX] at hx
        split at hx
        case h_2 => simp at hx
        rename_i c ds hc hds
        simp only [Option.some.injEq, Prod.mk.injEq] at hx
        obtain ⟨rfl, rfl⟩ := hx
        cases hv with
        | agg hlen hone hr =>
          rename_i vs
          have hi : i < cs.length := (List.getElem?_eq_some_iff.1 hc).1
          refine ⟨vs[i], hr i c _ hc (Array.getElem?_eq_getElem (by omega)), fun D z hD ho hz => ?_⟩
          obtain ⟨i1, i2, i3, i4⟩ := h.dpL hds (l := l) (fun o ho => hl o (by simpa only [ownN] using ho))
          have i1 : ds.length = cs.length := by simpa using i1
          have i3 : ∀ c ∈ ds, c.one = true := i3 (fun c hc => by
            rcases List.mem_or_eq_of_mem_set hc with hc | rfl
            · exact hone c hc
            · rfl)
          have i4 := i4 (fun j => if j = i then .slice none 0 0 else vs.getD j undef) (fun j c hcj => by
            by_cases hj : j = i
            · subst hj
              rw [List.getElem?_set_self (by omega)] at hcj
              injection hcj with hcj
              subst hcj
              simp only [if_true]
              exact .nil
            · rw [List.getElem?_set_ne (Ne.symm hj)] at hcj
              have hjl : j < cs.length := (List.getElem?_eq_some_iff.1 hcj).1
              simp only [if_neg hj]
              refine hr j c _ hcj ?_
              simp [Array.getD_eq_getD_getElem?, Array.getElem?_eq_getElem (show j < vs.size by omega)])
          simp only [plug]
          refine .agg (by simp [i1, hlen]) ?_ ?_
          · intro c' hc'
            rcases List.mem_or_eq_of_mem_set hc' with hc' | rfl
            · rcases List.mem_or_eq_of_mem_set hc' with hc' | rfl
              · exact i3 c' hc'
              · rfl
            · exact ho
          · intro j c' v' hcj hvj
            by_cases hj : j = i
            · subst hj
              have hvj' : vs[j]? = some vs[j] := Array.getElem?_eq_getElem (by omega)
              rw [hvj'] at hvj
              injection hvj with hvj
              subst hvj
              rw [List.getElem?_set_self (by simp; omega)] at hcj
              injection hcj with hcj
              subst hcj
              exact hz
            · rw [List.getElem?_set_ne (Ne.symm hj), List.getElem?_set_ne (Ne.symm hj)] at hcj
              have := i4 j c' hcj
              simp only [if_neg hj, Array.getD_eq_getD_getElem?, hvj, Option.getD_some] at this
              exact tr hD this (deepL_mem.1 i2 c' (List.mem_of_getElem? hcj))
    all_goals simp [Go.Proofs.YtoodknhlnifnlaaGreatDoor.ownX] at hx
/-- Behind a call of which one row is the caller's. -/
theorem callo_sound (h : Inv w0 sh nt μ fr e s a w) {T : Nat → Option Fe} {n : Nat} (hT : InlOK P T n) {st : Bool} {p : List Nat} {q f : Nat} {l : List X} {vs : Array Value} (hl : l.length = vs.size)
    (hv : ∀ (j : Nat) x v, l[j]? = some x → vs[j]? = some v → Rep (cxo μ s w sh fr) x v) {x : X} {s' : Sto} (hs : callO (runN T n) T st p q f l s = some (x, s')) :
    Calls P f vs w (fun e' w' => ∃ v μ' fr', e' = .returned v ∧ Inv w0 sh nt μ' fr' e s' a w' ∧ Rep (cxo μ' s' w' sh fr') x v) := by
  unfold callO at hs
  split at hs
  case h_1 => simp at hs
  rename_i ys hys
  cases hr : ownA (runN T n) T p f ys with
  | none => rw [hr] at hs; simp [callOR] at hs
  | some ro =>
  obtain ⟨r, ok⟩ := ro
  rw [hr] at hs
  obtain ⟨i1, i2⟩ := h.dpA hys (l := l.flatMap nmG) (fun _ h => h)
  obtain ⟨hI0, hle0⟩ := h.frz (l.flatMap nmG)
  have hP := hT.2 p f ys r ok hr w (fun b => sh b ∨ (fr b ∨ ∃ o ∈ l.flatMap nmG, (s o).o.isSome = true ∧ b = μ o)) vs (w0.gok.below w0.gok.1 h.below) (by
      rintro b (hb | hb)
      · exact Nat.lt_of_lt_of_le (h.sh_lt b hb) h.below.size
      · exact (hI0.fr_lt b hb).2) (by omega) (by
      intro j y v hy hjv
      have hj := (List.getElem?_eq_some_iff.1 hy).1
      have := i2 (fun j => vs.getD j undef) (fun j x hx => hv j x _ hx (by
        have := (List.getElem?_eq_some_iff.1 hx).1
        simp [Array.getD_eq_getD_getElem?, Array.getElem?_eq_getElem (show j < vs.size by omega)])) j y hy
      simpa [Array.getD_eq_getD_getElem?, hjv] using this)
  refine hP.mono ?_
  rintro e' w' ⟨v, fr', rfl, hb, hfr', hrest⟩
  obtain ⟨hI, hle⟩ := hI0.news w' hb (fun b => (fr b ∨ ∃ o ∈ l.flatMap nmG, (s o).o.isSome = true ∧ b = μ o) ∨ fr' b) (fun _ h => .inl h) (fun b hb => hb.imp id (hfr' b))
  have ov : ∀ {D : Cx}, D.w = w' → (∀ b, sh b → D.sh b ∨ D.fr b) → (∀ b, ((fr b ∨ ∃ o ∈ l.flatMap nmG, (s o).o.isSome = true ∧ b = μ o) ∨ fr' b) → D.fr b) →
      Ovr w' (fun b => sh b ∨ (fr b ∨ ∃ o ∈ l.flatMap nmG, (s o).o.isSome = true ∧ b = μ o)) fr' D := by
    intro D h1 h2 h3
    refine ⟨h1, ?_, fun b hb => h3 b (.inr hb)⟩
    rintro b (hb | hb)
    · exact h2 b hb
    · exact .inr (h3 b (.inl hb))
  cases ok with
  | none =>
    simp only [callOR] at hs
    split at hs
    · simp at hs
    simp only [Option.some.injEq, Prod.mk.injEq] at hs
    obtain ⟨rfl, rfl⟩ := hs
    exact ⟨v, μ, _, rfl, hI, hrest _ (ov rfl (fun _ h => .inl h) (fun _ h => h))⟩
  | some kes =>
    obtain ⟨k, es⟩ := kes
    simp only [callOR] at hs
    split at hs
    · simp at hs
    simp only [Option.some.injEq, Prod.mk.injEq] at hs
    obtain ⟨rfl, rfl⟩ := hs
    obtain ⟨b, hb1, hb2, hob, hrp⟩ := hrest
    have hlt : ∀ {c : Nat}, (fr c ∨ ∃ o ∈ l.flatMap nmG, (s o).o.isSome = true ∧ c = μ o) → c < w.heap.size := fun hc => (hI0.fr_lt _ hc).2
    obtain ⟨hA, hleA⟩ := hI.adopt q b (.row k es) (Nat.le_trans h.below.size hb1) (by
        rintro (hc | hc)
        · have := hlt hc; omega
        · exact hb2 hc) (by
        intro o' ho' hm
        obtain ⟨ob', hob'⟩ := Option.isSome_iff_exists.1 ho'
        obtain ⟨_, hcs⟩ := (hI0.obj o' ob' hob').1.block
        have := heap_lt hcs
        simp only [cxo] at this
        omega) (fun C' hC hw h1 h2 => hob C' (ov hw (fun b hb => .inl (h1 b hb)) h2))
    refine ⟨v, _, _, rfl, hA, ?_⟩
    have hq : (frz s (l.flatMap nmG) q).g = (s q).g := by unfold Go.Proofs.YtoodknhlnifnlaaGreatDoor.frz; split <;> rfl
    refine hrp _ q _ (ov rfl (fun _ h => .inl h) (fun _ h => h)) (by omega) ?_ (by simp [cxo, upd_same])
    simp [cxo, newO, upd_same, hq]
end
end Go.Proofs.YtoodknhlnifnlaaGreatDoor

/- The engine, part S: regions in the text's order. -/
set_option linter.unusedVariables false
set_option linter.unusedSimpArgs false
namespace Go.Proofs.YtoodknhlnifnlaaGreatDoor
open Go.RowKit
variable {P : Program}

def okG (P : Program) (nt : Nat) (ops : Array Oper) (o : Oper) (g : GOp) : Bool :=
  (match o.dst, g.d with
    | none, none => true
    | some d, some d' => d == d' && decide (d < nt)
    | _, _ => false) &&
  (match o.guard, g.g with
    | none, none => true
    | some (j, want), some (t, want') => want == want' && (match ops[j]? with
      | some oj => oj.dst == some t
      | none => false)
    | _, _ => false) &&
  (okOq P o.op g.op || okCall P o.op g.op)
def okGL (P : Program) (nt : Nat) (ops : Array Oper) : List Oper → List GOp → Bool
  | [], [] => true
  | o :: l, g :: m => okG P nt ops o g && okGL P nt ops l m
  | _, _ => false

def stillG : IOp → Bool
  | .call st _ _ => st
  | .callv st _ _ => st
  | io => stillI io

section
variable {w0 : Bs} {sh : Nat → Prop} {nt : Nat} {μ : Nat → Nat} {fr : Nat → Prop} {e : Env} {s : Sto} {a : Act} {w : World}

theorem okG_dst {ops : Array Oper} {o : Oper} {g : GOp} (h : okG P nt ops o g = true) : o.dst = g.d ∧ ∀ n, g.d = some n → n < nt := by
  simp only [okG, Bool.and_eq_true] at h
  have h := h.1.1
  cases hd : o.dst <;> cases hg : g.d <;> simp only [hd, hg, Bool.false_eq_true, Bool.and_eq_true, beq_iff_eq, decide_eq_true_eq] at h
  · exact ⟨rfl, by simp⟩
  · obtain ⟨rfl, h⟩ := h; exact ⟨rfl, by simpa using h⟩

theorem okG_guard (h : Inv w0 sh nt μ fr e s a w) {ops : Array Oper} {o : Oper} {g : GOp} (hok : okG P nt ops o g = true) {t : Bool} (ht : gd g e = some t) : Region.wanted o (yielded ops a.tmps) = t := by
  simp only [okG, Bool.and_eq_true] at hok
  have hok := hok.1.2
  unfold gd at ht
  unfold Region.wanted
  cases hd : o.guard <;> cases hg : g.g <;> simp only [hd, hg, Bool.false_eq_true, Bool.and_eq_true, beq_iff_eq] at hok ht
  · simpa using ht
  · rename_i p q
    obtain ⟨j, want⟩ := p
    obtain ⟨t', want'⟩ := q
    simp only [Bool.and_eq_true, beq_iff_eq] at hok ht ⊢
    obtain ⟨rfl, hj⟩ := hok
    split at hj
    case h_2 => simp at hj
    rename_i oj hoj
    simp only [beq_iff_eq] at hj
    split at ht
    case h_3 => simp at ht
    case h_2 =>
      rename_i hb
      injection ht with ht
      subst ht
      have hr := h.env t'
      rw [hb] at hr
      generalize hv : a.tmps.getD t' undef = v at hr
      cases hr with
      | @tup _ vs hl _ =>
        have hy : yielded ops a.tmps j = none := by
          unfold yielded
          simp only [hoj, Option.bind_some, hj]
          by_cases hlt : t' < a.tmps.size
          · simp only [Array.getD_eq_getD_getElem?, Array.getElem?_eq_getElem hlt, Option.getD_some] at hv
            simp [Array.getElem?_eq_getElem hlt, hv]
          · simp [Array.getElem?_eq_none (Nat.le_of_not_lt hlt)]
        rw [hy]
        rfl
    rename_i b hb
    injection ht with ht
    subst ht
    have hr := h.env t'
    rw [hb] at hr
    have hv := (rep_v hr).1
    have hlt : t' < a.tmps.size := by
      by_cases hlt : t' < a.tmps.size
      · exact hlt
      · simp [Array.getD_eq_getD_getElem?, Array.getElem?_eq_none (Nat.le_of_not_lt hlt), undef] at hv
    have hy : yielded ops a.tmps j = some b := by
      unfold yielded
      simp only [hoj, Option.bind_some, hj]
      simp only [Array.getD_eq_getD_getElem?, Array.getElem?_eq_getElem hlt, Option.getD_some] at hv
      simp [Array.getElem?_eq_getElem hlt, hv]
    rw [hy]
    cases b <;> cases want <;> rfl

theorem okOq_call {op : Op} {st : Bool} {f : Nat} {l : List Ar} : okOq P op (.call st f l) = false := by
  cases h : okOq P op (.call st f l)
  · rfl
  · have := okOq_okOp h (by simp)
    cases op <;> simp [okOp] at this
theorem okOq_callv {op : Op} {st : Bool} {f : Ar} {l : List Ar} : okOq P op (.callv st f l) = false := by
  cases h : okOq P op (.callv st f l)
  · rfl
  · have := okOq_okOp h (by simp)
    cases op <;> simp [okOp] at this
theorem okOq_calli {op : Op} {f : Nat} {l : List Ar} : okOq P op (.calli f l) = false := by
  cases h : okOq P op (.calli f l)
  · rfl
  · have := okOq_okOp h (by simp)
    cases op <;> simp [okOp] at this
theorem okOq_callb {op : Op} {f : Nat} {l : List Ar} : okOq P op (.callb f l) = false := by
  cases h : okOq P op (.callb f l)
  · rfl
  · have := okOq_okOp h (by simp)
    cases op <;> simp [okOp] at this
theorem okOq_callo {op : Op} {st : Bool} {p : List Nat} {q f : Nat} {l : List Ar} : okOq P op (.callo st p q f l) = false := by
  cases h : okOq P op (.callo st p q f l)
  · rfl
  · have := okOq_okOp h (by simp)
    cases op <;> simp [okOp] at this
theorem okOq_callw {op : Op} {f : Ar} {l : List Ar} : okOq P op (.callw f l) = false := by
  cases h : okOq P op (.callw f l)
  · rfl
  · have := okOq_okOp h (by simp)
    cases op <;> simp [okOp] at this
theorem callI_T {r : List It → Env → Sto → Option (Env × Sto)} {T : Nat → Option Fe} {f : Nat} {l : List X} {s : Sto} {x : X × Sto} (h : callI r T f l s = some x) : (T f).isSome = true := by
  unfold callI at h
  split at h
  all_goals first | (rename_i hT; simp [hT]; done) | (simp at h; done)
theorem callS_T {r : List It → Env → Sto → Option (Env × Sto)} {T : Nat → Option Fe} {st : Bool} {f : Nat} {l : List X} {s : Sto} {x : X × Sto} (h : callS r T st f l s = some x) : (T f).isSome = true := by
  unfold callS at h
  split at h
  · simp at h
  · split at h
    · simp at h
    · rename_i hr
      unfold callA at hr
      split at hr
      · simp at hr
      all_goals (rename_i hT; simp [hT])
/-- An operation, in the machine. -/
theorem opW (h : Inv w0 sh nt μ fr e s a w) {T : Nat → Option Fe} {n : Nat} (hT : CallOK P T n) (hI : InlOK P T n) (hF : ∀ f, (T f).isSome = true → okFn P f = true) {o : Oper} {io : IOp} (hok : (okOq P o.op io || okCall P o.op io) = true) {x : X} {s' : Sto} (hs : opR (runN T n) T io e s = some (x, s'))
    {K : Act → World → Prop} {Q : Exit → Act → World → Prop} (hK : ∀ v w' μ' fr', Inv w0 sh nt μ' fr' e s' a w' → Rep (cxo μ' s' w' sh fr') x v → (stillG io = true → s' = s ∧ μ' = μ) → K (a.put o.dst v) w') : o.wp P a w K Q := by
  have plainOp : okOq P o.op io = true → stepO io e s = some (x, s') → (stillG io = stillI io) → o.wp P a w K Q := by
    intro hok hs hsg
    have fin : ∀ n v w' μ' fr', (execOp a.eval o).run P w = .ok n w' → (n = .value v ∨ n = .skip ∧ v = undef) → Inv w0 sh nt μ' fr' e s' a w' → Rep (cxo μ' s' w' sh fr') x v → (stillG io = true → s' = s ∧ μ' = μ) → o.wp P a w K Q := by
      intro n v w' μ' fr' h1 h2 h3 h4 h5
      unfold Oper.wp
      rw [h1]
      rcases h2 with rfl | ⟨rfl, rfl⟩
      · exact hK v w' μ' fr' h3 h4 h5
      · exact hK undef w' μ' fr' h3 h4 h5
    by_cases hst : stillI io = true
    · obtain ⟨rfl, n, v, w', fr', h1, h2, h3, h4⟩ := still_sound h hok hst hs
      exact fin n v w' μ fr' h1 h2 h3 h4 (fun _ => ⟨rfl, rfl⟩)
    · obtain ⟨n, v, w', μ', fr', h1, h2, h3, h4⟩ := step_sound h hok hs
      exact fin n v w' μ' fr' h1 h2 h3 h4 (fun hq => absurd (hsg ▸ hq) hst)
  have viaCall : ∀ {st : Bool} {f : Nat} {l : List X} {vs : Array Value}, l.length = vs.size → (∀ (j : Nat) x v, l[j]? = some x → vs[j]? = some v → Rep (cxo μ s w sh fr) x v) → callS (runN T n) T st f l s = some (x, s') → (stillG io = st) →
      (execOp a.eval o).run P w = .ok (.enter f vs) w → o.wp P a w K Q := by
    intro st f l vs hl hv hs hsg hrun
    unfold Oper.wp
    rw [hrun, Oper.upon_enter]
    refine (call_sound h hT hl hv hs).mono ?_
    rintro e' w' ⟨v, μ', fr', rfl, hI, hr, hst⟩
    exact hK v w' μ' fr' hI hr (fun hq => hst (hsg ▸ hq))
  cases io
  case call st f l =>
    have hok : okCall P o.op (.call st f l) = true := by
      have : okOq P o.op (.call st f l) = false := okOq_call

      simpa [this] using hok
    cases hop : o.op <;> simp only [hop, okCall, Bool.false_eq_true] at hok
    rename_i c
    split at hok
    case h_2 => simp at hok
    rename_i g hc
    simp only [Bool.and_eq_true, beq_iff_eq] at hok
    obtain ⟨⟨rfl, hl⟩, hf⟩ := hok
    obtain ⟨h1, h2⟩ := okAL_rep h.env hl
    unfold okFn at hf
    split at hf
    case h_2 => simp at hf
    rename_i fn hfn
    simp only [Bool.and_eq_true, bne_iff_ne, ne_eq] at hf
    obtain ⟨body, hbody⟩ := Option.isSome_iff_exists.1 hf.1
    refine viaCall (st := st) (l := l.map (Ar.ev e)) (vs := c.args.map a.eval) (by simpa using h1) ?_ (by simpa [opR] using hs) rfl ?_
    · intro j x' v hx hv
      simp only [List.getElem?_map, Option.map_eq_some_iff] at hx
      obtain ⟨r, hr, rfl⟩ := hx
      simp only [Array.getElem?_map, Option.map_eq_some_iff] at hv
      obtain ⟨y, hy, rfl⟩ := hv
      exact h2 j r y hr (by simpa using hy)
    · simp [execOp, hop, resolve, hc, Act.eval, Deferred.ofValue, invoke, callFunc, hfn, hf.2, hbody]
  case calli f l =>
    have hok : okCall P o.op (.calli f l) = true := by
      have : okOq P o.op (.calli f l) = false := okOq_calli
      simpa [this] using hok
    cases hop : o.op <;> simp only [hop, okCall, Bool.false_eq_true] at hok
    rename_i c
    split at hok
    case h_2 => simp at hok
    rename_i g hc
    simp only [Bool.and_eq_true, beq_iff_eq] at hok
    obtain ⟨⟨rfl, hl⟩, hf⟩ := hok
    obtain ⟨h1, h2⟩ := okAL_rep h.env hl
    unfold okFn at hf
    split at hf
    case h_2 => simp at hf
    rename_i fn hfn
    simp only [Bool.and_eq_true, bne_iff_ne, ne_eq] at hf
    obtain ⟨body, hbody⟩ := Option.isSome_iff_exists.1 hf.1
    have hrun : (execOp a.eval o).run P w = .ok (.enter f (c.args.map a.eval)) w := by
      simp [execOp, hop, resolve, hc, Act.eval, Deferred.ofValue, invoke, callFunc, hfn, hf.2, hbody]
    unfold Oper.wp
    rw [hrun, Oper.upon_enter]
    refine (hI.1 f _ s x s' (by simpa [opR] using hs) h (c.args.map a.eval) (by simpa using h1) ?_).mono ?_
    · intro j x' v hx hv
      simp only [List.getElem?_map, Option.map_eq_some_iff] at hx
      obtain ⟨r, hr, rfl⟩ := hx
      simp only [Array.getElem?_map, Option.map_eq_some_iff] at hv
      obtain ⟨y, hy, rfl⟩ := hv
      exact h2 j r y hr (by simpa using hy)
    · rintro e' w' ⟨v, μ', fr', rfl, hI, hr⟩
      exact hK v w' μ' fr' hI hr (fun hq => by simp [stillG, stillI] at hq)
  case callb f l =>
    have hok : okCall P o.op (.callb f l) = true := by
      have : okOq P o.op (.callb f l) = false := okOq_callb
      simpa [this] using hok
    cases hop : o.op <;> simp only [hop, okCall, Bool.false_eq_true] at hok
    rename_i c
    split at hok
    case h_2 => simp at hok
    rename_i g hc
    simp only [Bool.and_eq_true, beq_iff_eq] at hok
    obtain ⟨⟨rfl, hl⟩, hf⟩ := hok
    obtain ⟨h1, h2⟩ := okAL_rep h.env hl
    unfold okFn at hf
    split at hf
    case h_2 => simp at hf
    rename_i fn hfn
    simp only [Bool.and_eq_true, bne_iff_ne, ne_eq] at hf
    obtain ⟨body, hbody⟩ := Option.isSome_iff_exists.1 hf.1
    have hrun : (execOp a.eval o).run P w = .ok (.enter f (c.args.map a.eval)) w := by
      simp [execOp, hop, resolve, hc, Act.eval, Deferred.ofValue, invoke, callFunc, hfn, hf.2, hbody]
    unfold Oper.wp
    rw [hrun, Oper.upon_enter]
    refine (callb_sound h hT (l := l.map (Ar.ev e)) (vs := c.args.map a.eval) (by simpa using h1) ?_ (by simpa [opR] using hs)).mono ?_
    · intro j x' v hx hv
      simp only [List.getElem?_map, Option.map_eq_some_iff] at hx
      obtain ⟨r, hr, rfl⟩ := hx
      simp only [Array.getElem?_map, Option.map_eq_some_iff] at hv
      obtain ⟨y, hy, rfl⟩ := hv
      exact h2 j r y hr (by simpa using hy)
    · rintro e' w' ⟨v, μ', fr', rfl, hI, hr⟩
      exact hK v w' μ' fr' hI hr (fun hq => by simp [stillG, stillI] at hq)
  case callo st p q f l =>
    have hok : okCall P o.op (.callo st p q f l) = true := by
      have : okOq P o.op (.callo st p q f l) = false := okOq_callo
      simpa [this] using hok
    cases hop : o.op <;> simp only [hop, okCall, Bool.false_eq_true] at hok
    rename_i c
    split at hok
    case h_2 => simp at hok
    rename_i g hc
    simp only [Bool.and_eq_true, beq_iff_eq] at hok
    obtain ⟨⟨rfl, hl⟩, hf⟩ := hok
    obtain ⟨h1, h2⟩ := okAL_rep h.env hl
    unfold okFn at hf
    split at hf
    case h_2 => simp at hf
    rename_i fn hfn
    simp only [Bool.and_eq_true, bne_iff_ne, ne_eq] at hf
    obtain ⟨body, hbody⟩ := Option.isSome_iff_exists.1 hf.1
    have hrun : (execOp a.eval o).run P w = .ok (.enter f (c.args.map a.eval)) w := by
      simp [execOp, hop, resolve, hc, Act.eval, Deferred.ofValue, invoke, callFunc, hfn, hf.2, hbody]
    unfold Oper.wp
    rw [hrun, Oper.upon_enter]
    refine (callo_sound h hI (l := l.map (Ar.ev e)) (vs := c.args.map a.eval) (by simpa using h1) ?_ (by simpa [opR] using hs)).mono ?_
    · intro j x' v hx hv
      simp only [List.getElem?_map, Option.map_eq_some_iff] at hx
      obtain ⟨r, hr, rfl⟩ := hx
      simp only [Array.getElem?_map, Option.map_eq_some_iff] at hv
      obtain ⟨y, hy, rfl⟩ := hv
      exact h2 j r y hr (by simpa using hy)
    · rintro e' w' ⟨v, μ', fr', rfl, hI, hr⟩
      exact hK v w' μ' fr' hI hr (fun hq => by simp [stillG, stillI] at hq)
  case callw f l =>
    have hok : okCall P o.op (.callw f l) = true := by
      have : okOq P o.op (.callw f l) = false := okOq_callw
      simpa [this] using hok
    simp only [opR] at hs
    split at hs
    case h_2 => simp at hs
    rename_i g cs hg
    cases hop : o.op <;> simp only [hop, okCall, Bool.false_eq_true] at hok
    rename_i c
    split at hok
    case h_2 => simp at hok
    rename_i y hc
    simp only [Bool.and_eq_true] at hok
    obtain ⟨hy, hl⟩ := hok
    obtain ⟨h1, h2⟩ := okAL_rep h.env hl
    have hr := okA_rep h.env hy
    rw [hg] at hr
    have hf := hF g (callI_T hs)
    unfold okFn at hf
    split at hf
    case h_2 => simp at hf
    rename_i fn hfn
    simp only [Bool.and_eq_true, bne_iff_ne, ne_eq] at hf
    obtain ⟨body, hbody⟩ := Option.isSome_iff_exists.1 hf.1
    generalize hv : a.eval y = v at hr
    cases hr with
    | @fn _ _ us hl' hr' =>
      have hrun : (execOp a.eval o).run P w = .ok (.enter g (c.args.map a.eval ++ us)) w := by
        simp [execOp, hop, resolve, hc, hv, Deferred.ofValue, invoke, callFunc, hfn, hf.2, hbody]
      unfold Oper.wp
      rw [hrun, Oper.upon_enter]
      refine (hI.1 g _ s x s' hs h (c.args.map a.eval ++ us) (by simp [hl']; simpa using h1) ?_).mono ?_
      · have hsz : (c.args.map a.eval).size = (l.map (Ar.ev e)).length := by simpa using h1.symm
        intro j x' v hx hv
        by_cases hj : j < (l.map (Ar.ev e)).length
        · rw [List.getElem?_append_left hj] at hx
          rw [Array.getElem?_append_left (by omega)] at hv
          simp only [List.getElem?_map, Option.map_eq_some_iff] at hx
          obtain ⟨r, hr, rfl⟩ := hx
          simp only [Array.getElem?_map, Option.map_eq_some_iff] at hv
          obtain ⟨y', hy', rfl⟩ := hv
          exact h2 j r y' hr (by simpa using hy')
        · rw [List.getElem?_append_right (by omega)] at hx
          rw [Array.getElem?_append_right (by omega), hsz] at hv
          exact hr' _ x' v hx hv
      · rintro e' w' ⟨v, μ', fr', rfl, hI, hr⟩
        exact hK v w' μ' fr' hI hr (fun hq => by simp [stillG, stillI] at hq)
  case callv st f l =>
    have hok : okCall P o.op (.callv st f l) = true := by
      have : okOq P o.op (.callv st f l) = false := okOq_callv

      simpa [this] using hok
    simp only [opR] at hs
    split at hs
    case h_2 => simp at hs
    rename_i g cs hg
    cases hop : o.op <;> simp only [hop, okCall, Bool.false_eq_true] at hok
    rename_i c
    split at hok
    case h_2 => simp at hok
    rename_i y hc
    simp only [Bool.and_eq_true] at hok
    obtain ⟨hy, hl⟩ := hok
    obtain ⟨h1, h2⟩ := okAL_rep h.env hl
    have hr := okA_rep h.env hy
    rw [hg] at hr
    have hf := hF g (callS_T hs)
    unfold okFn at hf
    split at hf
    case h_2 => simp at hf
    rename_i fn hfn
    simp only [Bool.and_eq_true, bne_iff_ne, ne_eq] at hf
    obtain ⟨body, hbody⟩ := Option.isSome_iff_exists.1 hf.1
    generalize hv : a.eval y = v at hr
    cases hr with
    | @fn _ _ us hl' hr' =>
      refine viaCall (l := l.map (Ar.ev e) ++ cs) (vs := c.args.map a.eval ++ us) (by simp [hl']; simpa using h1) ?_ hs rfl ?_
      · have hsz : (c.args.map a.eval).size = (l.map (Ar.ev e)).length := by simpa using h1.symm
        intro j x' v hx hv
        by_cases hj : j < (l.map (Ar.ev e)).length
        · rw [List.getElem?_append_left hj] at hx
          rw [Array.getElem?_append_left (by omega)] at hv
          simp only [List.getElem?_map, Option.map_eq_some_iff] at hx
          obtain ⟨r, hr, rfl⟩ := hx
          simp only [Array.getElem?_map, Option.map_eq_some_iff] at hv
          obtain ⟨y', hy', rfl⟩ := hv
          exact h2 j r y' hr (by simpa using hy')
        · rw [List.getElem?_append_right (by omega)] at hx
          rw [Array.getElem?_append_right (by omega), hsz] at hv
          exact hr' _ x' v hx hv
      · simp [execOp, hop, resolve, hc, hv, Deferred.ofValue, invoke, callFunc, hfn, hf.2, hbody]
  all_goals
    refine plainOp ?_ (by simpa [opR] using hs) rfl
    refine (Bool.or_eq_true _ _ ▸ hok).resolve_right ?_
    cases o.op <;> simp [okCall]
end
end Go.Proofs.YtoodknhlnifnlaaGreatDoor

/- The engine, part T: regions. -/
set_option linter.unusedVariables false
set_option linter.unusedSimpArgs false
namespace Go.Proofs.YtoodknhlnifnlaaGreatDoor
open Go.RowKit
variable {P : Program}

/-- What holds where a piece of code is left. -/
def Qk (T : Nat → Option Fe) (w0 : Bs) (sh : Nat → Prop) (nt n : Nat) (k : List It) (x : Env × Sto) : Exit → Act → World → Prop
  | .normal, a, w => ∃ m, m < n ∧ ∃ μ fr e s, Inv w0 sh nt μ fr e s a w ∧ runN T m k e s = some x
  | .exit id, a, w => ∃ k' m, popTo id k = some k' ∧ m < n ∧ ∃ μ fr e s, Inv w0 sh nt μ fr e s a w ∧ runN T m k' e s = some x
  | .ret, a, w => ∃ μ fr, Inv w0 sh nt μ fr x.1 x.2 a w
  | _, _, _ => False
theorem Qk.mono {T : Nat → Option Fe} {w0 : Bs} {sh : Nat → Prop} {nt n m : Nat} {k : List It} {x : Env × Sto} (h : n ≤ m) {e : Exit} {a : Act} {w : World} (hq : Qk T w0 sh nt n k x e a w) : Qk T w0 sh nt m k x e a w := by
  cases e with
  | normal => obtain ⟨q, hq, r⟩ := hq; exact ⟨q, by omega, r⟩
  | exit id => obtain ⟨k', q, h1, hq, r⟩ := hq; exact ⟨k', q, h1, by omega, r⟩
  | ret => exact hq
  | _ => exact hq

section
variable {T : Nat → Option Fe} {w0 : Bs} {sh : Nat → Prop} {nt : Nat} {k : List It} {x : Env × Sto} {ops : Array Oper}

theorem ops_list (hF : ∀ f, (T f).isSome = true → okFn P f = true) : ∀ {l : List Oper} {gl : List GOp} {n N : Nat} {μ : Nat → Nat} {fr : Nat → Prop} {e : Env} {s : Sto} {a : Act} {w : World}, okGL P nt ops l gl = true → n ≤ N → (∀ m, m < N → CallOK P T m ∧ InlOK P T m) →
    Inv w0 sh nt μ fr e s a w → runN T n (.ops gl :: k) e s = some x → wpList P ops (Qk T w0 sh nt N k x) l a w := by
  intro l
  induction l with
  | nil =>
    intro gl n N μ fr e s a w hok hn hT h hr
    cases gl with
    | cons => simp [okGL] at hok
    | nil =>
      cases n with
      | zero => simp [runN] at hr
      | succ n => exact wpList_nil ⟨n, by omega, μ, fr, e, s, h, by simpa only [runN] using hr⟩
  | cons o l ih =>
    intro gl n N μ fr e s a w hok hn hT h hr
    cases gl with
    | nil => simp [okGL] at hok
    | cons g gl =>
      cases n with
      | zero => simp [runN] at hr
      | succ n =>
        simp only [okGL, Bool.and_eq_true] at hok
        obtain ⟨hd, hdn⟩ := okG_dst hok.1
        have hop : (okOq P o.op g.op || okCall P o.op g.op) = true := by
          have := hok.1
          simp only [okG, Bool.and_eq_true] at this
          exact this.2
        simp only [runN] at hr
        unfold wpList
        split at hr
        · rename_i hg
          rw [if_pos (okG_guard h hok.1 hg)]
          split at hr
          case h_2 => simp at hr
          rename_i y s' hy
          refine .inl (opW h (hT n (by omega)).1 (hT n (by omega)).2 hF hop hy fun v w' μ' fr' hI hrep _ => ?_)
          rw [hd]
          exact ih hok.2 (by omega) hT (hI.put hdn hrep) hr
        · rename_i hg
          rw [if_neg (by rw [okG_guard h hok.1 hg]; simp)]
          rw [hd]
          exact ih hok.2 (by omega) hT (h.put hdn (.tup rfl (by simp))) hr
        · simp at hr
end

/-! ### what an operation reads -/
def optL : Option Ar → List Ar
  | some a => [a]
  | none => []
/-- The operands. -/
def IOp.ars : IOp → List Ar
  | .mov a | .box _ a | .boxI a | .ld a _ _ | .nck a | .un _ a | .cvs a | .conv _ a | .fa a _ | .fld a _ _ _ | .len a | .lens a | .ext a _ | .eqn _ a | .mln a => [a]
  | .pick c a b | .mst c a b | .mup _ _ c a b => [c, a, b]
  | .build _ ps => ps.map fun p => p.2.2
  | .bsl _ _ _ _ ps | .bslI _ _ _ ps => ps.map fun p => p.2
  | .st a b _ | .app _ _ _ a b | .bin _ a b | .eqs _ _ a b | .eqb _ a b | .ixa a b _ | .ixp a b _ _ | .ixs a b | .ixv a b _ _ _ | .mks _ _ _ a b _ | .mlk _ _ a b _ _ | .men _ _ a b _ | .bsn _ _ _ _ a b => [a, b]
  | .sls a lo hi | .sli _ a lo hi => a :: (optL lo ++ optL hi)
  | .mnmx _ a l => a :: l
  | .mkf _ l | .call _ _ l | .calli _ l | .callb _ l | .callo _ _ _ _ l => l
  | .callw f l => f :: l
  | .callv _ f l => f :: l
  | .mkm _ h => optL h
def Ar.sl : Ar → List Nat
  | .t n => [n]
  | .k _ => []
/-- The slots that an operation reads. -/
def IOp.rd (op : IOp) : List Nat := op.ars.flatMap Ar.sl
def GOp.rd (g : GOp) : List Nat := g.op.rd ++ (match g.g with
  | some (t, _) => [t]
  | none => [])

theorem ev_congr {e e' : Env} {a : Ar} (h : ∀ n ∈ a.sl, e n = e' n) : a.ev e = a.ev e' := by
  cases a with
  | t n => exact h n (by simp [Ar.sl])
  | k x => rfl
theorem rd_ars {op : IOp} {e e' : Env} (h : ∀ n ∈ op.rd, e n = e' n) : ∀ a ∈ op.ars, a.ev e = a.ev e' := fun a ha => ev_congr fun n hn => h n (List.mem_flatMap.2 ⟨a, ha, hn⟩)
theorem bnd_congr {e e' : Env} {a : Option Ar} {d y : Nat} (h : ∀ b ∈ optL a, b.ev e = b.ev e') : bnd e a d y = bnd e' a d y := by
  cases a with
  | none => rfl
  | some a => simp only [bnd, h a (by simp [optL])]
theorem fill_congr {e e' : Env} : ∀ {ps : List (Nat × Nat × Ar)} {cs : List X}, (∀ a ∈ ps.map fun p => p.2.2, a.ev e = a.ev e') → fill e cs ps = fill e' cs ps := by
  intro ps
  induction ps with
  | nil => intro cs _; rfl
  | cons p ps ih =>
    intro cs h
    obtain ⟨j, w, a⟩ := p
    have ha : a.ev e = a.ev e' := h a (by simp)
    simp only [fill, ha]
    split
    · exact ih (fun n hn => h n (by simp only [List.map_cons]; exact List.mem_cons_of_mem _ hn))
    · rfl
theorem fillE_congr {e e' : Env} {s s' : Sto} {k : Nat} : ∀ {ps : List (Nat × Ar)} {es : List X}, (∀ a ∈ ps.map fun p => p.2, a.ev e = a.ev e' ∧ dpC s (a.ev e') = dpC s' (a.ev e')) → fillE e s k es ps = fillE e' s' k es ps := by
  intro ps
  induction ps with
  | nil => intro cs _; rfl
  | cons p ps ih =>
    intro es h
    obtain ⟨j, a⟩ := p
    obtain ⟨ha, hb⟩ := h a (by simp)
    simp only [fillE, ha, hb, ih (fun n hn => h n (by simp only [List.map_cons]; exact List.mem_cons_of_mem _ hn))]
theorem mnxL_congr {e e' : Env} {mx : Bool} : ∀ {l : List Ar} {u : Value}, (∀ a ∈ l, a.ev e = a.ev e') → mnxL mx e u l = mnxL mx e' u l := by
  intro l
  induction l with
  | nil => intro u _; rfl
  | cons a l ih =>
    intro u h
    have ha : a.ev e = a.ev e' := h a (by simp)
    simp only [mnxL, ha, fun u => ih (u := u) (fun n hn => h n (List.mem_cons_of_mem _ hn))]

theorem stepO_congr {e e' : Env} {s : Sto} {io : IOp} (h : ∀ a ∈ io.ars, a.ev e = a.ev e') : stepO io e s = stepO io e' s := by
  have at1 : ∀ {a : Ar}, io.ars = [a] → a.ev e = a.ev e' := fun hq => h _ (by simp [hq])
  have at2 : ∀ {a b : Ar}, io.ars = [a, b] → a.ev e = a.ev e' ∧ b.ev e = b.ev e' := fun hq => ⟨h _ (by simp [hq]), h _ (by simp [hq])⟩
  have at3 : ∀ {a b c : Ar}, io.ars = [a, b, c] → a.ev e = a.ev e' ∧ b.ev e = b.ev e' ∧ c.ev e = c.ev e' := fun hq => ⟨h _ (by simp [hq]), h _ (by simp [hq]), h _ (by simp [hq])⟩
  cases io
  case call => rfl
  case callv => rfl
  case calli => rfl
  case callb => rfl
  case callo => rfl
  case callw => rfl
  case build z ps => simp only [stepO, fill_congr (e := e) (e' := e') (ps := ps) h]
  case bslI k n z ps => simp only [stepO, fillE_congr (e := e) (e' := e') (s' := s) (ps := ps) (fun a ha => ⟨h a ha, rfl⟩)]
  case bsl o k n z ps => simp only [stepO, fillE_congr (e := e) (e' := e') (s' := s) (ps := ps) (fun a ha => ⟨h a ha, rfl⟩)]
  case sls a lo hi =>
    have h1 : a.ev e = a.ev e' := h a (by simp [IOp.ars])
    have h2 : ∀ d y, bnd e lo d y = bnd e' lo d y := fun d y => bnd_congr fun b hb => h b (by simp [IOp.ars, hb])
    have h3 : ∀ d y, bnd e hi d y = bnd e' hi d y := fun d y => bnd_congr fun b hb => h b (by simp [IOp.ars, hb])
    simp only [stepO, h1, h2, h3]
  case sli k a lo hi =>
    have h1 : a.ev e = a.ev e' := h a (by simp [IOp.ars])
    have h2 : ∀ d y, bnd e lo d y = bnd e' lo d y := fun d y => bnd_congr fun b hb => h b (by simp [IOp.ars, hb])
    have h3 : ∀ d y, bnd e hi d y = bnd e' hi d y := fun d y => bnd_congr fun b hb => h b (by simp [IOp.ars, hb])
    simp only [stepO, h1, h2, h3]
  case mnmx mx a l =>
    have h1 : a.ev e = a.ev e' := h a (by simp [IOp.ars])
    have h2 : ∀ u, mnxL mx e u l = mnxL mx e' u l := fun u => mnxL_congr fun b hb => h b (by simp [IOp.ars, hb])
    simp only [stepO, h1, h2]
  case mkf f l =>
    have h1 : l.map (Ar.ev e) = l.map (Ar.ev e') := List.map_congr_left h
    simp only [stepO, h1]
  case mkm o hh =>
    cases hh with
    | none => rfl
    | some a => have h1 : a.ev e = a.ev e' := h a (by simp [IOp.ars, optL])
                have h2 : hintB e (some a) = hintB e' (some a) := by simp only [hintB, h1]
                simp only [stepO, h2]
  case pick a b c => obtain ⟨h1, h2, h3⟩ := at3 (a := a) (b := b) (c := c) rfl; simp only [stepO, h1, h2, h3]
  case mst a b c => obtain ⟨h1, h2, h3⟩ := at3 (a := a) (b := b) (c := c) rfl; simp only [stepO, h1, h2, h3]
  case mup ks ag a b c => obtain ⟨h1, h2, h3⟩ := at3 (a := a) (b := b) (c := c) rfl; simp only [stepO, h1, h2, h3]
  case st a b w => obtain ⟨h1, h2⟩ := at2 (a := a) (b := b) rfl; simp only [stepO, h1, h2]
  case app o k lim a b => obtain ⟨h1, h2⟩ := at2 (a := a) (b := b) rfl; simp only [stepO, h1, h2]
  case bsn o k z d a b => obtain ⟨h1, h2⟩ := at2 (a := a) (b := b) rfl; simp only [stepO, h1, h2]
  case mks o k z a b lim => obtain ⟨h1, h2⟩ := at2 (a := a) (b := b) rfl; simp only [stepO, h1, h2]
  case mlk ks ag a b z ok => obtain ⟨h1, h2⟩ := at2 (a := a) (b := b) rfl; simp only [stepO, h1, h2]
  case men ks ag a b z => obtain ⟨h1, h2⟩ := at2 (a := a) (b := b) rfl; simp only [stepO, h1, h2]
  case bin op a b => obtain ⟨h1, h2⟩ := at2 (a := a) (b := b) rfl; simp only [stepO, h1, h2]
  case eqs neg ks a b => obtain ⟨h1, h2⟩ := at2 (a := a) (b := b) rfl; simp only [stepO, h1, h2]
  case eqb neg a b => obtain ⟨h1, h2⟩ := at2 (a := a) (b := b) rfl; simp only [stepO, h1, h2]
  case ixa a b w => obtain ⟨h1, h2⟩ := at2 (a := a) (b := b) rfl; simp only [stepO, h1, h2]
  case ixp a b w n => obtain ⟨h1, h2⟩ := at2 (a := a) (b := b) rfl; simp only [stepO, h1, h2]
  case ixs a b => obtain ⟨h1, h2⟩ := at2 (a := a) (b := b) rfl; simp only [stepO, h1, h2]
  case ixv a b w n ag => obtain ⟨h1, h2⟩ := at2 (a := a) (b := b) rfl; simp only [stepO, h1, h2]
  case mov a => have h1 := at1 (a := a) rfl; simp only [stepO, h1]
  case box o a => have h1 := at1 (a := a) rfl; simp only [stepO, h1]
  case boxI a => have h1 := at1 (a := a) rfl; simp only [stepO, h1]
  case ld a w ag => have h1 := at1 (a := a) rfl; simp only [stepO, h1]
  case nck a => have h1 := at1 (a := a) rfl; simp only [stepO, h1]
  case un op a => have h1 := at1 (a := a) rfl; simp only [stepO, h1]
  case cvs a => have h1 := at1 (a := a) rfl; simp only [stepO, h1]
  case conv k a => have h1 := at1 (a := a) rfl; simp only [stepO, h1]
  case fa a j => have h1 := at1 (a := a) rfl; simp only [stepO, h1]
  case fld a j w ag => have h1 := at1 (a := a) rfl; simp only [stepO, h1]
  case len a => have h1 := at1 (a := a) rfl; simp only [stepO, h1]
  case lens a => have h1 := at1 (a := a) rfl; simp only [stepO, h1]
  case ext a i => have h1 := at1 (a := a) rfl; simp only [stepO, h1]
  case eqn neg a => have h1 := at1 (a := a) rfl; simp only [stepO, h1]
  case mln a => have h1 := at1 (a := a) rfl; simp only [stepO, h1]

theorem opR_congr {r : List It → Env → Sto → Option (Env × Sto)} {T : Nat → Option Fe} {e e' : Env} {s : Sto} {io : IOp} (h : ∀ n ∈ io.rd, e n = e' n) : opR r T io e s = opR r T io e' s := by
  replace h := rd_ars h
  cases io
  case call st f l => simp only [opR, show l.map (Ar.ev e) = l.map (Ar.ev e') from List.map_congr_left h]
  case calli f l => simp only [opR, show l.map (Ar.ev e) = l.map (Ar.ev e') from List.map_congr_left h]
  case callo st p q f l => simp only [opR, show l.map (Ar.ev e) = l.map (Ar.ev e') from List.map_congr_left h]
  case callw f l =>
    have h1 : f.ev e = f.ev e' := h f (by simp [IOp.ars])
    have h2 : l.map (Ar.ev e) = l.map (Ar.ev e') := List.map_congr_left fun a ha => h a (by simp [IOp.ars, ha])
    simp only [opR, h1, h2]
  case callb f l => simp only [opR, show l.map (Ar.ev e) = l.map (Ar.ev e') from List.map_congr_left h]
  case callv st f l =>
    have h1 : f.ev e = f.ev e' := h f (by simp [IOp.ars])
    have h2 : l.map (Ar.ev e) = l.map (Ar.ev e') := List.map_congr_left fun a ha => h a (by simp [IOp.ars, ha])
    simp only [opR, h1, h2]
  all_goals
    simp only [opR]
    exact stepO_congr h
theorem gd_congr {e e' : Env} {g : GOp} (h : ∀ n ∈ g.rd, e n = e' n) : gd g e = gd g e' := by
  unfold gd
  split
  · rfl
  · rename_i t want hg
    have : e t = e' t := h t (by simp [GOp.rd, hg])
    rw [this]

theorem still_same {io : IOp} {e : Env} {s s' : Sto} {x : X} (hst : stillI io = true) (h : stepO io e s = some (x, s')) : s' = s := by
  cases io <;> simp only [stillI, Bool.false_eq_true] at hst <;> simp only [stepO, retS] at h
  all_goals
    repeat' split at h
    all_goals first
      | (simp only [Option.some.injEq, Prod.mk.injEq] at h; exact h.2.symm)
      | (simp at h; done)
theorem callS_still {r : List It → Env → Sto → Option (Env × Sto)} {T : Nat → Option Fe} {f : Nat} {l : List X} {s s' : Sto} {x : X} (h : callS r T true f l s = some (x, s')) : s' = s := by
  unfold callS at h
  split at h
  · simp at h
  split at h
  · simp at h
  split at h
  · simp only [Option.some.injEq, Prod.mk.injEq] at h; exact h.2.symm
  split at h
  · simp at h
  rename_i hn
  simp only [Option.some.injEq, Prod.mk.injEq] at h
  have hn : l.flatMap nmG = [] := by
    by_cases hq : l.flatMap nmG = []
    · exact hq
    · exact absurd ⟨rfl, hq⟩ hn
  rw [← h.2, hn, frz_nil]
theorem stillG_same {r : List It → Env → Sto → Option (Env × Sto)} {T : Nat → Option Fe} {io : IOp} {e : Env} {s s' : Sto} {x : X} (hst : stillG io = true) (h : opR r T io e s = some (x, s')) : s' = s := by
  cases io
  case call st f l =>
    simp only [stillG] at hst
    subst hst
    exact callS_still h
  case callv st f l =>
    simp only [stillG] at hst
    subst hst
    simp only [opR] at h
    split at h
    · exact callS_still h
    · simp at h
  case calli => simp [stillG, stillI] at hst
  case callb => simp [stillG, stillI] at hst
  case callo => simp [stillG, stillI] at hst
  case callw => simp [stillG, stillI] at hst
  all_goals
    simp only [opR] at h
    exact still_same (by simpa only [stillG] using hst) h
end Go.Proofs.YtoodknhlnifnlaaGreatDoor

/- The engine, part Tl: what an operation depends on, and what it changes. -/
set_option linter.unusedVariables false
set_option linter.unusedSimpArgs false
namespace Go.Proofs.YtoodknhlnifnlaaGreatDoor
open Go.RowKit
variable {P : Program}

/-- Operations that look at no variable. -/
def freeI : IOp → Bool
  | .mov .. | .pick .. | .boxI .. | .build .. | .bin .. | .eqs .. | .eqb .. | .un .. | .cvs .. | .conv .. | .fld .. | .ixs .. | .ixv .. | .sls .. | .lens .. | .mnmx .. | .ext .. | .mkf .. => true
  | _ => false
theorem stepO_free {io : IOp} {e : Env} {s s' s2 : Sto} {x : X} (hf : freeI io = true) (h : stepO io e s = some (x, s')) : stepO io e s2 = some (x, s2) := by
  cases io <;> simp only [freeI, Bool.false_eq_true] at hf <;> simp only [stepO, retS] at h ⊢
  all_goals
    repeat' split at h
    all_goals first
      | (simp only [Option.some.injEq, Prod.mk.injEq] at h; obtain ⟨rfl, rfl⟩ := h; simp [*])
      | (simp at h; done)

theorem ldX_local {s s2 : Sto} {x : X} {w : Nat} {ag : Bool} (h : ∀ o ∈ nmA x, s2 o = s o) : ldX s2 x w ag = ldX s x w ag := by
  cases x <;> simp only [ldX]
  · rw [h _ (by simp [nmA])]
  · rw [h _ (by simp [nmA])]
theorem dpn_local {s s2 : Sto} {x : X} (h : ∀ o ∈ nmA x, s2 o = s o) : dpn s2 x = dpn s x := by
  cases x <;> simp only [dpn]
  rw [h _ (by simp [nmA])]
theorem dpL_local {s s2 : Sto} : ∀ {l : List X}, (∀ o ∈ nmL l, s2 o = s o) → dpL s2 l = dpL s l := by
  intro l
  induction l with
  | nil => intro _; rfl
  | cons x l ih =>
    intro h
    simp only [dpL, dpn_local (x := x) (fun o ho => h o (by simp [nmL, ho])), ih (fun o ho => h o (by simp [nmL, ho]))]
theorem dpC_local {s s2 : Sto} {x : X} (h : ∀ o ∈ nmA x, s2 o = s o) : dpC s2 x = dpC s x := by
  cases x
  case agg cs => simp only [dpC, dpL_local (l := cs) (by simpa [nmA] using h)]
  all_goals exact dpn_local h
theorem dpH_local {s s2 : Sto} {x : X} (h : ∀ o ∈ nmA x, s2 o = s o) : dpH s2 x = dpH s x := by
  cases x
  case ptr o g j => simp only [dpH, h o (by simp [nmA])]
  case ip => rfl
  all_goals exact dpn_local h
theorem dpHL_local {s s2 : Sto} : ∀ {l : List X}, (∀ o ∈ nmL l, s2 o = s o) → dpHL s2 l = dpHL s l := by
  intro l
  induction l with
  | nil => intro _; rfl
  | cons x l ih =>
    intro h
    simp only [dpHL, dpH_local (x := x) (fun o ho => h o (by simp [nmL, ho])), ih (fun o ho => h o (by simp [nmL, ho]))]
theorem dpG_local {s s2 : Sto} {x : X} (h : ∀ o ∈ nmA x, s2 o = s o) : dpG s2 x = dpG s x := by
  cases x
  case fn f cs => simp only [dpG, dpHL_local (l := cs) (by simpa [nmA] using h)]
  case ptr => exact dpH_local h
  case ip => rfl
  all_goals exact dpC_local h
theorem dpA_local {s s2 : Sto} : ∀ {l : List X}, (∀ x ∈ l, ∀ o ∈ nmA x, s2 o = s o) → dpA s2 l = dpA s l := by
  intro l
  induction l with
  | nil => intro _; rfl
  | cons x l ih =>
    intro h
    simp only [dpA, dpG_local (x := x) (h x (by simp)), ih (fun y hy => h y (by simp [hy]))]
theorem mpX_local {s s2 : Sto} {x : X} (h : ∀ o ∈ nmA x, s2 o = s o) : mpX s2 x = mpX s x := by
  cases x <;> simp only [mpX]
  rw [h _ (by simp [nmA])]

theorem stepO_local {io : IOp} {e : Env} {s s' s2 : Sto} {x : X} (hst : stillI io = true) (hl : ∀ a ∈ io.ars, ∀ o ∈ nmA (a.ev e), s2 o = s o) (h : stepO io e s = some (x, s')) : stepO io e s2 = some (x, s2) := by
  by_cases hf : freeI io = true
  · exact stepO_free hf h
  have h1 : ∀ {a : Ar}, a ∈ io.ars → ∀ o ∈ nmA (a.ev e), s2 o = s o := fun ha => hl _ ha
  cases io <;> simp only [stillI, freeI, Bool.false_eq_true, not_true_eq_false] at hst hf
  case ld a w ag =>
    simp only [stepO] at h ⊢
    obtain ⟨h2, rfl⟩ := retS_some h
    rw [ldX_local (h1 (by simp [IOp.ars])), h2]; rfl
  case nck a =>
    have h1 := h1 (a := a) (by simp [IOp.ars])
    simp only [stepO] at h ⊢
    split at h
    · rename_i o g j hx
      try simp only [hx] at h1 ⊢
      rw [h1 o (by simp [nmA])]
      split at h
      · rename_i hg; simp only [Option.some.injEq, Prod.mk.injEq] at h; obtain ⟨rfl, rfl⟩ := h; rw [if_pos hg]
      · simp at h
    · rename_i o g k i j hx
      try simp only [hx] at h1 ⊢
      rw [h1 o (by simp [nmA])]
      split at h
      · rename_i hg; simp only [Option.some.injEq, Prod.mk.injEq] at h; obtain ⟨rfl, rfl⟩ := h; rw [if_pos hg]
      · simp at h
    · rename_i y j hx
      try simp only [hx]
      simp only [Option.some.injEq, Prod.mk.injEq] at h; obtain ⟨rfl, rfl⟩ := h; rfl
    · simp at h
  case fa a j =>
    have h1 := h1 (a := a) (by simp [IOp.ars])
    simp only [stepO] at h ⊢
    split at h
    · rename_i o g i hx
      try simp only [hx] at h1 ⊢
      rw [h1 o (by simp [nmA])]
      split at h
      · rename_i hg; simp only [Option.some.injEq, Prod.mk.injEq] at h; obtain ⟨rfl, rfl⟩ := h; rw [if_pos hg]
      · simp at h
    · rename_i o g k i l hx
      try simp only [hx] at h1 ⊢
      rw [h1 o (by simp [nmA])]
      split at h
      · rename_i hg; simp only [Option.some.injEq, Prod.mk.injEq] at h; obtain ⟨rfl, rfl⟩ := h; rw [if_pos hg]
      · simp at h
    · rename_i y i hx
      try simp only [hx]
      simp only [Option.some.injEq, Prod.mk.injEq] at h; obtain ⟨rfl, rfl⟩ := h; rfl
    · simp at h
  case ixa a b w =>
    have h1 := h1 (a := a) (by simp [IOp.ars])
    simp only [stepO] at h ⊢
    split at h
    case h_2 => simp at h
    rename_i n hn
    try simp only [hn]
    split at h
    · rename_i f es hx
      try simp only [hx]
      split at h
      · rename_i hc
        rw [if_pos hc]
        split at h
        · rename_i y hy
          try simp only [hy]
          split at h
          · rename_i hw; simp only [Option.some.injEq, Prod.mk.injEq] at h; obtain ⟨rfl, rfl⟩ := h; rw [if_pos hw]
          · simp at h
        · simp at h
      · simp at h
    · rename_i o g k j m hx
      try simp only [hx] at h1 ⊢
      rw [h1 o (by simp [nmA])]
      split at h
      · rename_i hg; simp only [Option.some.injEq, Prod.mk.injEq] at h; obtain ⟨rfl, rfl⟩ := h; rw [if_pos hg]
      · simp at h
    · simp at h
  case ixp a b w n =>
    have h1 := h1 (a := a) (by simp [IOp.ars])
    simp only [stepO] at h ⊢
    split at h
    case h_2 => simp at h
    rename_i m hm
    try simp only [hm]
    split at h
    case isFalse => simp at h
    rename_i hc
    rw [if_pos hc]
    split at h
    · rename_i o g j hx
      try simp only [hx] at h1 ⊢
      rw [h1 o (by simp [nmA])]
      split at h
      · rename_i hg; simp only [Option.some.injEq, Prod.mk.injEq] at h; obtain ⟨rfl, rfl⟩ := h; rw [if_pos hg]
      · simp at h
    · rename_i y j hx
      try simp only [hx]
      simp only [Option.some.injEq, Prod.mk.injEq] at h; obtain ⟨rfl, rfl⟩ := h; rfl
    · simp at h
  case sli w a lo hi =>
    have h1 := h1 (a := a) (by simp [IOp.ars])
    simp only [stepO] at h ⊢
    cases hx : a.ev e <;> simp only [hx] at h h1 ⊢ <;> first | (simp at h; done) | skip
    · split at h
      case h_2 => simp at h
      rename_i hh
      try simp only [hh]
      split at h
      case h_2 => simp at h
      rename_i hh2
      try simp only [hh2]
      simp only [Option.some.injEq, Prod.mk.injEq] at h; obtain ⟨rfl, rfl⟩ := h; rfl
    · split at h
      · simp at h
      rename_i hc
      rw [if_neg hc]
      split at h
      case h_2 => simp at h
      rename_i hh
      try simp only [hh]
      split at h
      case h_2 => simp at h
      rename_i hh2
      try simp only [hh2]
      simp only [Option.some.injEq, Prod.mk.injEq] at h; obtain ⟨rfl, rfl⟩ := h; rfl
    · rename_i o g k i n
      rw [h1 o (by simp [nmA])]
      split at h
      · simp at h
      rename_i hc
      rw [if_neg hc]
      split at h
      case h_2 => simp at h
      rename_i hh
      try simp only [hh]
      split at h
      case h_2 => simp at h
      rename_i hh2
      try simp only [hh2]
      simp only [Option.some.injEq, Prod.mk.injEq] at h; obtain ⟨rfl, rfl⟩ := h; rfl
  case bslI k n z ps =>
    simp only [stepO] at h ⊢
    rw [fillE_congr (e := e) (e' := e) (s := s2) (s' := s) (ps := ps) (fun a ha => ⟨rfl, dpC_local (h1 (by simpa [IOp.ars] using ha))⟩)]
    split at h
    · rename_i hc
      try simp only [hc]
      simp only [Option.some.injEq, Prod.mk.injEq] at h; obtain ⟨rfl, rfl⟩ := h; rfl
    · simp at h
  case len a =>
    have h1 := h1 (a := a) (by simp [IOp.ars])
    simp only [stepO] at h ⊢
    split at h
    · rename_i f es hx
      try simp only [hx]
      simp only [Option.some.injEq, Prod.mk.injEq] at h; obtain ⟨rfl, rfl⟩ := h; rfl
    · rename_i o g k i n hx
      try simp only [hx] at h1 ⊢
      rw [h1 o (by simp [nmA])]
      split at h
      · rename_i hg; simp only [Option.some.injEq, Prod.mk.injEq] at h; obtain ⟨rfl, rfl⟩ := h; rw [if_pos hg]
      · simp at h
    · rename_i hx
      try simp only [hx]
      simp only [Option.some.injEq, Prod.mk.injEq] at h; obtain ⟨rfl, rfl⟩ := h; rfl
    · simp at h
  case eqn neg a =>
    have h1 := h1 (a := a) (by simp [IOp.ars])
    simp only [stepO] at h ⊢
    split at h
    · rename_i hx
      try simp only [hx]
      simp only [Option.some.injEq, Prod.mk.injEq] at h; obtain ⟨rfl, rfl⟩ := h; rfl
    · rename_i o g k i n hx
      try simp only [hx] at h1 ⊢
      rw [h1 o (by simp [nmA])]
      split at h
      · rename_i hg; simp only [Option.some.injEq, Prod.mk.injEq] at h; obtain ⟨rfl, rfl⟩ := h; rw [if_pos hg]
      · simp at h
    · simp at h
  case mlk ks ag m k z ok =>
    simp only [stepO] at h ⊢
    rw [mpX_local (h1 (a := m) (by simp [IOp.ars]))]
    split at h
    case h_2 => simp at h
    rename_i q es hq
    try simp only [hq]
    split at h
    case h_2 => simp at h
    rename_i r hr
    try simp only [hr]
    split at h
    case h_2 => simp at h
    rename_i v hv
    try simp only [hv]
    simp only [Option.some.injEq, Prod.mk.injEq] at h; obtain ⟨rfl, rfl⟩ := h; rfl
  case mln m =>
    simp only [stepO] at h ⊢
    rw [mpX_local (h1 (a := m) (by simp [IOp.ars]))]
    split at h
    case h_2 => simp at h
    rename_i q es hq
    try simp only [hq]
    simp only [Option.some.injEq, Prod.mk.injEq] at h; obtain ⟨rfl, rfl⟩ := h; rfl

theorem dpn_nonames {s s2 : Sto} {x : X} {y : X} (hn : nmX x = []) (h : dpn s x = some y) : dpn s2 x = some y := by
  cases x
  case ref => simp [nmX] at hn
  all_goals (simp only [dpn] at h ⊢; exact h)
theorem dpL_nonames {s s2 : Sto} : ∀ {l m : List X}, l.flatMap nmX = [] → dpL s l = some m → dpL s2 l = some m := by
  intro l
  induction l with
  | nil => intro m _ h; simpa only [dpL] using h
  | cons x l ih =>
    intro m hn h
    simp only [List.flatMap_cons, List.append_eq_nil_iff] at hn
    simp only [dpL] at h ⊢
    split at h
    case h_2 => simp at h
    rename_i y k hy hk
    rw [dpn_nonames hn.1 hy, ih hn.2 hk]
    exact h
theorem dpC_nonames {s s2 : Sto} {x : X} {y : X} (hn : nmC x = []) (h : dpC s x = some y) : dpC s2 x = some y := by
  cases x
  case agg cs =>
    simp only [dpC] at h ⊢
    split at h
    case h_2 => simp at h
    rename_i ds hd
    rw [dpL_nonames (by simpa [nmC] using hn) hd]
    exact h
  all_goals (simp only [nmC] at hn; simp only [dpC] at h ⊢; exact dpn_nonames hn h)
theorem dpH_nonames {s s2 : Sto} {x : X} {y : X} (hn : nmH x = []) (h : dpH s x = some y) : dpH s2 x = some y := by
  cases x
  case ptr => simp [nmH] at hn
  case ip => simpa only [dpH] using h
  all_goals (simp only [nmH] at hn; simp only [dpH] at h ⊢; exact dpn_nonames hn h)
theorem dpHL_nonames {s s2 : Sto} : ∀ {l m : List X}, l.flatMap nmH = [] → dpHL s l = some m → dpHL s2 l = some m := by
  intro l
  induction l with
  | nil => intro m _ h; simpa only [dpHL] using h
  | cons x l ih =>
    intro m hn h
    simp only [List.flatMap_cons, List.append_eq_nil_iff] at hn
    simp only [dpHL] at h ⊢
    split at h
    case h_2 => simp at h
    rename_i y k hy hk
    rw [dpH_nonames hn.1 hy, ih hn.2 hk]
    exact h
theorem dpG_nonames {s s2 : Sto} {x : X} {y : X} (hn : nmG x = []) (h : dpG s x = some y) : dpG s2 x = some y := by
  cases x
  case fn f cs =>
    simp only [dpG] at h ⊢
    split at h
    case h_2 => simp at h
    rename_i ds hd
    rw [dpHL_nonames (by simpa [nmG] using hn) hd]
    exact h
  case ptr => simp [nmG] at hn
  case ip => simpa only [dpG, dpH] using h
  all_goals (simp only [nmG] at hn; simp only [dpG] at h ⊢; exact dpC_nonames hn h)
theorem dpA_nonames {s s2 : Sto} : ∀ {l m : List X}, l.flatMap nmG = [] → dpA s l = some m → dpA s2 l = some m := by
  intro l
  induction l with
  | nil => intro m _ h; simpa only [dpA] using h
  | cons x l ih =>
    intro m hn h
    simp only [List.flatMap_cons, List.append_eq_nil_iff] at hn
    simp only [dpA] at h ⊢
    split at h
    case h_2 => simp at h
    rename_i y k hy hk
    rw [dpG_nonames hn.1 hy, ih hn.2 hk]
    exact h
theorem callS_local {r : List It → Env → Sto → Option (Env × Sto)} {T : Nat → Option Fe} {f : Nat} {l : List X} {s s' s2 : Sto} {x : X} (hl : ∀ x ∈ l, ∀ o ∈ nmA x, s2 o = s o) (h : callS r T true f l s = some (x, s')) : callS r T true f l s2 = some (x, s2) := by
  unfold callS at h ⊢
  rw [dpA_local hl]
  split at h
  · simp at h
  rename_i hd
  try simp only [hd]
  split at h
  · simp at h
  rename_i hc
  try simp only [hc]
  split at h
  · rename_i hs; simp only [Option.some.injEq, Prod.mk.injEq] at h; obtain ⟨rfl, rfl⟩ := h; rw [if_pos hs]
  rename_i hs
  rw [if_neg hs]
  split at h
  · simp at h
  rename_i hn
  simp only [Option.some.injEq, Prod.mk.injEq] at h; obtain ⟨rfl, _⟩ := h
  have hn : l.flatMap nmG = [] := by
    by_cases hq : l.flatMap nmG = []
    · exact hq
    · exact absurd ⟨rfl, hq⟩ hn
  simp [hn, frz_nil]
theorem nmL_mem {l : List X} {o : Nat} : o ∈ nmL l ↔ ∃ x ∈ l, o ∈ nmA x := by
  induction l with
  | nil => simp [nmL]
  | cons x l ih => simp [nmL, ih]
theorem opR_local {r : List It → Env → Sto → Option (Env × Sto)} {T : Nat → Option Fe} {io : IOp} {e : Env} {s s' s2 : Sto} {x : X} (hst : stillG io = true) (hl : ∀ a ∈ io.ars, ∀ o ∈ nmA (a.ev e), s2 o = s o) (h : opR r T io e s = some (x, s')) : opR r T io e s2 = some (x, s2) := by
  cases io
  case call st f l =>
    simp only [stillG] at hst
    subst hst
    exact callS_local (fun x hx => by obtain ⟨a, ha, rfl⟩ := List.mem_map.1 hx; exact hl a ha) h
  case callv st f l =>
    simp only [stillG] at hst
    subst hst
    simp only [opR] at h ⊢
    split at h
    · rename_i g cs hf
      try simp only [hf]
      refine callS_local (fun x hx => ?_) h
      rcases List.mem_append.1 hx with hx | hx
      · obtain ⟨a, ha, rfl⟩ := List.mem_map.1 hx
        exact hl a (by simp [IOp.ars, ha])
      · have := hl f (by simp [IOp.ars])
        rw [hf] at this
        exact fun o ho => this o (by simp only [nmA]; exact nmL_mem.2 ⟨x, hx, ho⟩)
    · simp at h
  case calli => simp [stillG, stillI] at hst
  case callb => simp [stillG, stillI] at hst
  case callo => simp [stillG, stillI] at hst
  case callw => simp [stillG, stillI] at hst
  all_goals
    simp only [opR] at h ⊢
    exact stepO_local (by simpa only [stillG] using hst) hl h

/-! ### changes are counted -/
def Cnt (s s' : Sto) : Prop := ∀ o, s' o = s o ∨ (s o).n < (s' o).n
theorem Cnt.refl (s : Sto) : Cnt s s := fun _ => .inl rfl
theorem Cnt.trans {a b c : Sto} (h : Cnt a b) (k : Cnt b c) : Cnt a c := fun o => by
  rcases h o with h | h <;> rcases k o with k | k
  · exact .inl (k.trans h)
  · right; rw [h] at k; exact k
  · right; rw [k]; exact h
  · right; omega
theorem Cnt.newO (s : Sto) (o : Nat) (b : Ob) : Cnt s (Go.Proofs.YtoodknhlnifnlaaGreatDoor.newO s o b) := fun q => by
  unfold Go.Proofs.YtoodknhlnifnlaaGreatDoor.newO upd
  split
  · rename_i h; subst h; right; simp
  · exact .inl rfl
theorem Cnt.setO (s : Sto) (o : Nat) (b : Ob) : Cnt s (Go.Proofs.YtoodknhlnifnlaaGreatDoor.setO s o b) := fun q => by
  unfold Go.Proofs.YtoodknhlnifnlaaGreatDoor.setO upd
  split
  · rename_i h; subst h; right; simp
  · exact .inl rfl
theorem Cnt.frz (s : Sto) (l : List Nat) : Cnt s (Go.Proofs.YtoodknhlnifnlaaGreatDoor.frz s l) := fun q => by
  unfold Go.Proofs.YtoodknhlnifnlaaGreatDoor.frz
  split
  · right; simp
  · exact .inl rfl
theorem Cnt.mvO (s : Sto) (o d : Nat) (b : Ob) : Cnt s (Go.Proofs.YtoodknhlnifnlaaGreatDoor.mvO s o d b) := fun q => by
  by_cases h1 : q = o
  · subst h1; right; unfold Go.Proofs.YtoodknhlnifnlaaGreatDoor.mvO; rw [upd_same]; simp
  · by_cases h2 : q = d
    · subst h2; right; unfold Go.Proofs.YtoodknhlnifnlaaGreatDoor.mvO; rw [upd_ne _ _ h1, upd_same]; simp
    · left; unfold Go.Proofs.YtoodknhlnifnlaaGreatDoor.mvO; rw [upd_ne _ _ h1, upd_ne _ _ h2]
theorem Cnt.renL {s : Sto} {d : Nat} : ∀ {cs cs' : List X} {s' : Sto}, Go.Proofs.YtoodknhlnifnlaaGreatDoor.renL s d cs = some (cs', s') → Cnt s s' := by
  intro cs
  induction cs with
  | nil => intro cs' s' h; simp only [Go.Proofs.YtoodknhlnifnlaaGreatDoor.renL, Option.some.injEq, Prod.mk.injEq] at h; obtain ⟨_, rfl⟩ := h; exact Cnt.refl _
  | cons c cs ih =>
    intro cs' s' h
    cases c <;> simp only [Go.Proofs.YtoodknhlnifnlaaGreatDoor.renL] at h <;> repeat' split at h
    all_goals first
      | (simp at h; done)
      | (simp only [Option.some.injEq, Prod.mk.injEq] at h; obtain ⟨_, rfl⟩ := h; first | exact Cnt.refl _ | exact Cnt.mvO _ _ _ _ | exact ih (by assumption))
theorem stX_cnt {s s' : Sto} {x y : X} {w : Nat} (h : stX s x y w = some s') : Cnt s s' := by
  unfold stX at h
  repeat' split at h
  all_goals first
    | (simp at h; done)
    | (simp only [Option.some.injEq] at h; subst h; first | exact Cnt.setO _ _ _ | exact (Cnt.setO _ _ _).trans (Cnt.frz _ _))
theorem stepO_cnt {io : IOp} {e : Env} {s s' : Sto} {x : X} (h : stepO io e s = some (x, s')) : Cnt s s' := by
  by_cases hst : stillI io = true
  · rw [still_same hst h]; exact Cnt.refl _
  cases io <;> simp only [stillI, not_true_eq_false] at hst <;> simp only [stepO] at h
  case st =>
    split at h
    · rename_i hs
      simp only [Option.some.injEq, Prod.mk.injEq] at h; obtain ⟨_, rfl⟩ := h
      exact stX_cnt hs
    · simp at h
  all_goals
    repeat' split at h
    all_goals first
      | (simp at h; done)
      | (simp only [Option.some.injEq, Prod.mk.injEq] at h; obtain ⟨_, rfl⟩ := h; first | exact Cnt.refl _ | exact Cnt.newO _ _ _ | exact Cnt.setO _ _ _ | exact (Cnt.renL (by assumption)).trans (Cnt.newO _ _ _) | exact (Cnt.newO _ _ _).trans (Cnt.frz _ _))
theorem callS_cnt {r : List It → Env → Sto → Option (Env × Sto)} {T : Nat → Option Fe} {st : Bool} {f : Nat} {l : List X} {s s' : Sto} {x : X} (h : callS r T st f l s = some (x, s')) : Cnt s s' := by
  unfold callS at h
  repeat' split at h
  all_goals first
    | (simp at h; done)
    | (simp only [Option.some.injEq, Prod.mk.injEq] at h; obtain ⟨_, rfl⟩ := h; first | exact Cnt.refl _ | exact Cnt.frz _ _)
/-- What is carried out beside the table counts its changes. -/
def TC (T : Nat → Option Fe) : Prop := ∀ f F, T f = some (.extI F) → ∀ xs s r s', F xs s = some (r, s') → Cnt s s'
theorem callI_cnt {r : List It → Env → Sto → Option (Env × Sto)} (hr : ∀ its e s x, r its e s = some x → Cnt s x.2) {T : Nat → Option Fe} (hC : TC T) {f : Nat} {l : List X} {s s' : Sto} {x : X} (h : callI r T f l s = some (x, s')) : Cnt s s' := by
  unfold callI at h
  split at h
  · split at h
    case isFalse => simp at h
    split at h
    case h_2 => simp at h
    rename_i hq
    split at h
    case h_2 => simp at h
    simp only [Option.some.injEq, Prod.mk.injEq] at h
    obtain ⟨_, rfl⟩ := h
    exact hr _ _ _ _ hq
  · split at h
    case isFalse => simp at h
    split at h
    case h_2 => simp at h
    rename_i hq
    split at h
    case h_2 => simp at h
    simp only [Option.some.injEq, Prod.mk.injEq] at h
    obtain ⟨_, rfl⟩ := h
    exact Cnt.trans (hr _ _ _ _ hq) (Cnt.frz _ _)
  · rename_i hF; exact hC _ _ hF _ _ _ _ h
  · simp at h
theorem opR_cnt {r : List It → Env → Sto → Option (Env × Sto)} (hr : ∀ its e s x, r its e s = some x → Cnt s x.2) {T : Nat → Option Fe} (hC : TC T) {io : IOp} {e : Env} {s s' : Sto} {x : X} (h : opR r T io e s = some (x, s')) : Cnt s s' := by
  unfold opR at h
  split at h
  · exact callS_cnt h
  · split at h
    · exact callS_cnt h
    · simp at h
  · exact callI_cnt hr hC h
  · unfold callB at h
    repeat' split at h
    all_goals first
      | (simp at h; done)
      | (simp only [Option.some.injEq, Prod.mk.injEq] at h; obtain ⟨_, rfl⟩ := h; exact Cnt.refl _)
  · unfold callO at h
    split at h
    · simp at h
    unfold callOR at h
    split at h
    · split at h
      · simp at h
      · simp only [Option.some.injEq, Prod.mk.injEq] at h; obtain ⟨_, rfl⟩ := h; exact Cnt.frz _ _
    · split at h
      · simp at h
      · simp only [Option.some.injEq, Prod.mk.injEq] at h; obtain ⟨_, rfl⟩ := h; exact (Cnt.frz _ _).trans (Cnt.newO _ _ _)
    · simp at h
  · split at h
    · exact callI_cnt hr hC h
    · simp at h
  · exact stepO_cnt h
theorem runN_cnt (T : Nat → Option Fe) (hC : TC T) : ∀ (n : Nat) its e s x, runN T n its e s = some x → Cnt s x.2 := by
  intro n
  induction n with
  | zero => intro its e s x h; simp [runN] at h
  | succ n ih =>
    intro its e s x h
    rcases its with _ | ⟨it, k⟩
    · simp only [runN, Option.some.injEq] at h; subst h; exact Cnt.refl _
    cases it with
    | code c =>
      cases c with
      | cond c a b =>
        simp only [runN] at h
        split at h
        · rename_i t hc
          cases t
          · exact ih _ _ _ _ h
          · exact ih _ _ _ _ h
        · simp at h
      | exit id =>
        simp only [runN] at h
        split at h
        · exact ih _ _ _ _ h
        · simp at h
      | ret => simp only [runN, Option.some.injEq] at h; subst h; exact Cnt.refl _
      | _ => simp only [runN] at h; exact ih _ _ _ _ h
    | ops l =>
      rcases l with _ | ⟨o, l⟩
      · simp only [runN] at h; exact ih _ _ _ _ h
      · simp only [runN] at h
        split at h
        · split at h
          · rename_i y s' hr
            exact (opR_cnt (fun its e s x hx => ih its e s x hx) hC hr).trans (ih _ _ _ _ h)
          · simp at h
        · exact ih _ _ _ _ h
        · simp at h
    | lp c => simp only [runN] at h; exact ih _ _ _ _ h
    | bl id => simp only [runN] at h; exact ih _ _ _ _ h
    | chk ch js s0 =>
      simp only [runN] at h
      split at h
      · exact ih _ _ _ _ h
      · simp at h
end Go.Proofs.YtoodknhlnifnlaaGreatDoor

/- The engine, part U: regions whose order is drawn. -/
set_option linter.unusedVariables false
set_option linter.unusedSimpArgs false
namespace Go.Proofs.YtoodknhlnifnlaaGreatDoor
open Go.RowKit
variable {P : Program}

def d1 (ops : Array Oper) (i j : Nat) : Bool := match ops[i]? with
  | some o => o.after.toList.any fun e => Region.binds .any e && e.on == j
  | none => false
def dd (ops : Array Oper) : Nat → Nat → Nat → Bool
  | 0, i, j => d1 ops i j
  | n + 1, i, j => d1 ops i j || (match ops[i]? with
    | some o => o.after.toList.any fun e => Region.binds .any e && dd ops n e.on j
    | none => false)
/-- Waits for it, over at most twenty steps between. -/
def d2 (ops : Array Oper) (i j : Nat) : Bool := dd ops 20 i j
def gdst (gl : List GOp) (i : Nat) : Option Nat := match gl[i]? with
  | some g => g.d
  | none => none

def cls : IOp → Nat
  | .box _ _ => 1
  | .callo true _ _ _ _ => 1
  | op => if stillG op = true then 0 else 2
def boxN : IOp → Option Nat
  | .box o _ => some o
  | .callo _ _ q _ _ => some q
  | _ => none
def noCall : IOp → Bool
  | .call .. | .callv .. | .calli .. | .callb .. | .callo .. | .callw .. => false
  | _ => true
def arK : Ar → Bool
  | .k x => (nmA x).isEmpty
  | .t _ => true
def ordB (ops : Array Oper) (i j : Nat) : Bool := (decide (j < i) && d2 ops i j) || (decide (i < j) && d2 ops j i)
/-- What it reads is not written any more. -/
def lateB (gl : List GOp) (p j : Nat) (g : GOp) : Bool := g.rd.all fun t => (List.range p).all fun q => gdst gl q != some t || decide (q < j)
/-- The first p operations in whatever order; each one behind them waits for all before it. -/
def drawOK (ops : Array Oper) (gl : List GOp) (p : Nat) (ch js : List Nat) : Bool :=
  decide (ops.size = gl.length) && decide (p ≤ gl.length) &&
  ((List.range gl.length).all fun i => match ops[i]? with
    | some o => o.after.toList.all fun e => !Region.binds .any e || decide (e.on < i)
    | none => false) &&
  ((List.range gl.length).all fun i => (List.range i).all fun j => (gdst gl i).isNone || (gdst gl i != gdst gl j)) &&
  ((List.range p).all fun i => match gl[i]? with
    | some g => g.op.ars.all arK && (g.rd.all fun t => (List.range p).all fun j => j == i || gdst gl j != some t || ordB ops i j)
    | none => false) &&
  ((List.range gl.length).all fun i => decide (i < p) || (List.range i).all fun j => d2 ops i j) &&
  ((List.range p).all fun i => match gl[i]? with
    | some gi => cls gi.op == 0 || ((List.range p).all fun j => match gl[j]? with
      | some gj => j == i || ordB ops i j || (cls gj.op == 1 && cls gi.op == 1 && boxN gi.op != boxN gj.op) ||
          (cls gj.op == 0 && (freeI gj.op || (lateB gl p j gj && ((gj.op.rd.all fun t => ch.contains t) || (js.contains j && gj.g.isNone && gj.d.isSome && noCall gj.op &&
            (List.range p).all fun k => match gl[k]? with
              | some gk => k == i || cls gk.op == 0
              | none => false)))))
      | none => false)
    | none => false)

structure Drawn (ops : Array Oper) (gl : List GOp) (p : Nat) (ch js : List Nat) : Prop where
  size : ops.size = gl.length
  le : p ≤ gl.length
  edge : ∀ i o, ops[i]? = some o → ∀ e ∈ o.after, Region.binds .any e = true → e.on < i
  dist : ∀ i j t, i < gl.length → j < gl.length → gdst gl i = some t → gdst gl j = some t → i = j
  kst : ∀ i g, i < p → gl[i]? = some g → ∀ a ∈ g.op.ars, arK a = true
  reads : ∀ i g t j, i < p → gl[i]? = some g → t ∈ g.rd → j < p → j ≠ i → gdst gl j = some t → (j < i ∧ d2 ops i j = true) ∨ (i < j ∧ d2 ops j i = true)
  tail : ∀ i j, p ≤ i → i < gl.length → j < i → d2 ops i j = true
  sep : ∀ i j gi gj, i < p → j < p → j ≠ i → gl[i]? = some gi → gl[j]? = some gj → cls gi.op ≠ 0 → ((j < i ∧ d2 ops i j = true) ∨ (i < j ∧ d2 ops j i = true)) ∨
    (cls gj.op = 1 ∧ cls gi.op = 1 ∧ boxN gi.op ≠ boxN gj.op) ∨
    (cls gj.op = 0 ∧ (freeI gj.op = true ∨ (∀ t ∈ gj.rd, ∀ q, q < p → gdst gl q = some t → q < j) ∧ ((∀ t ∈ gj.op.rd, t ∈ ch) ∨ j ∈ js ∧ gj.g = none ∧ (∃ d, gj.d = some d) ∧ noCall gj.op = true ∧ ∀ k gk, k < p → gl[k]? = some gk → k ≠ i → cls gk.op = 0)))

theorem drawOK_spec {ops : Array Oper} {gl : List GOp} {p : Nat} {ch js : List Nat} (h : drawOK ops gl p ch js = true) : Drawn ops gl p ch js := by
  simp only [drawOK, Bool.and_eq_true, decide_eq_true_eq, List.all_eq_true, List.mem_range] at h
  obtain ⟨⟨⟨⟨⟨⟨h1, h2⟩, h3⟩, h4⟩, h5⟩, h6⟩, h7⟩ := h
  have dist' : ∀ i j t, i < gl.length → j < i → gdst gl i = some t → gdst gl j = some t → False := by
    intro i j t hi hj h7 h8
    have := h4 i hi j hj
    simp [h7, h8] at this
  refine ⟨h1, h2, ?_, ?_, ?_, ?_, ?_, ?_⟩
  · intro i o ho e he hb
    have hi : i < gl.length := by have := (Array.getElem?_eq_some_iff.1 ho).1; omega
    have := h3 i hi
    rw [ho] at this
    have := (List.all_eq_true.1 this) e (by simpa using he)
    simpa [hb] using this
  · intro i j t hi hj h7 h8
    rcases Nat.lt_trichotomy i j with hlt | heq | hgt
    · exact (dist' j i t hj hlt h8 h7).elim
    · exact heq
    · exact (dist' i j t hi hgt h7 h8).elim
  · intro i g hi hg
    have := h5 i hi
    rw [hg] at this
    simp only [Bool.and_eq_true, List.all_eq_true] at this
    exact this.1
  · intro i g t j hi hg ht hj hne hd
    have := h5 i hi
    rw [hg] at this
    simp only [Bool.and_eq_true, List.all_eq_true, List.mem_range] at this
    have := this.2 t ht j hj
    simp [hne, hd, ordB] at this
    exact this
  · intro i j hp hi hj
    have := h6 i hi
    simp only [Bool.or_eq_true, decide_eq_true_eq, List.all_eq_true, List.mem_range] at this
    exact (this.resolve_left (by omega)) j hj
  · intro i j gi gj hi hj hne hgi hgj hc
    have := h7 i hi
    rw [hgi] at this
    simp only [Bool.or_eq_true, beq_iff_eq, List.all_eq_true, List.mem_range] at this
    have := (this.resolve_left hc) j hj
    rw [hgj] at this
    simp only [ordB, Bool.or_eq_true, Bool.and_eq_true, beq_iff_eq, decide_eq_true_eq, bne_iff_ne, ne_eq, List.all_eq_true, List.mem_range, List.contains_eq_mem, Option.isNone_iff_eq_none] at this
    rcases this with ((h | h) | h) | h
    · exact absurd h hne
    · exact .inl h
    · exact .inr (.inl ⟨h.1.1, h.1.2, h.2⟩)
    · refine .inr (.inr ⟨h.1, ?_⟩)
      have late : lateB gl p j gj = true → ∀ t ∈ gj.rd, ∀ q, q < p → gdst gl q = some t → q < j := by
        intro hl t ht q hq hd
        simp only [lateB, List.all_eq_true, List.mem_range] at hl
        have := hl t ht q hq
        simpa [hd] using this
      rcases h.2 with h | ⟨hl, h | h⟩
      · exact .inl h
      · exact .inr ⟨late hl, .inl h⟩
      · refine .inr ⟨late hl, .inr ⟨h.1.1.1.1, h.1.1.1.2, Option.isSome_iff_exists.1 h.1.1.2, h.1.2, ?_⟩⟩
        intro k gk hk hgk hki
        have := h.2 k hk
        rw [hgk] at this
        simp only [Bool.or_eq_true, beq_iff_eq] at this
        exact this.resolve_left hki

open Classical in
/-- The slots when the operations L of the first ones have been carried out. -/
noncomputable def envL (e : Env) (gl : List GOp) (xs : Nat → X) (L : Nat → Prop) : Env := fun n =>
  if h : ∃ j, L j ∧ j < gl.length ∧ gdst gl j = some n then xs h.choose else e n
section
variable {ops : Array Oper} {gl : List GOp} {p : Nat} {e : Env} {xs : Nat → X} {L L' : Nat → Prop} {ch js : List Nat}
theorem envL_at (hD : Drawn ops gl p ch js) {j n : Nat} (hL : L j) (hj : j < gl.length) (hd : gdst gl j = some n) : envL e gl xs L n = xs j := by
  unfold envL
  have h : ∃ j, L j ∧ j < gl.length ∧ gdst gl j = some n := ⟨j, hL, hj, hd⟩
  rw [dif_pos h]
  obtain ⟨h1, h2, h3⟩ := h.choose_spec
  rw [hD.dist _ _ n h2 hj h3 hd]
theorem envL_not {n : Nat} (h : ∀ j, L j → j < gl.length → gdst gl j ≠ some n) : envL e gl xs L n = e n := by
  unfold envL
  rw [dif_neg]
  rintro ⟨j, h1, h2, h3⟩
  exact h j h1 h2 h3
theorem envL_none (h : ∀ j, ¬ L j) : envL e gl xs L = e := by
  funext n; exact envL_not fun j hj => absurd hj (h j)
theorem envL_congr {n : Nat} (h : ∀ j, j < gl.length → gdst gl j = some n → (L j ↔ L' j)) (hD : Drawn ops gl p ch js) : envL e gl xs L n = envL e gl xs L' n := by
  by_cases hx : ∃ j, L j ∧ j < gl.length ∧ gdst gl j = some n
  · obtain ⟨j, h1, h2, h3⟩ := hx
    rw [envL_at hD h1 h2 h3, envL_at hD ((h j h2 h3).1 h1) h2 h3]
  · rw [envL_not (fun j h1 h2 h3 => hx ⟨j, h1, h2, h3⟩), envL_not (fun j h1 h2 h3 => hx ⟨j, (h j h2 h3).2 h1, h2, h3⟩)]
theorem envL_ext (h : ∀ j, j < gl.length → (L j ↔ L' j)) (hD : Drawn ops gl p ch js) : envL e gl xs L = envL e gl xs L' := by
  funext n; exact envL_congr (fun j hj _ => h j hj) hD
theorem envL_put (hD : Drawn ops gl p ch js) {i : Nat} (hi : i < gl.length) (hL : ¬ L i) : put (envL e gl xs L) (gdst gl i) (xs i) = envL e gl xs (fun j => L j ∨ j = i) := by
  funext n
  cases hd : gdst gl i with
  | none =>
    simp only [put]
    refine envL_congr (fun j hj hjn => ⟨fun h => .inl h, fun h => h.elim id fun he => ?_⟩) hD
    rw [he, hd] at hjn; simp at hjn
  | some d =>
    simp only [put]
    by_cases hn : n = d
    · subst hn
      rw [upd_same]
      exact (envL_at hD (L := fun j => L j ∨ j = i) (.inr rfl) hi hd).symm
    · rw [upd_ne _ _ hn]
      refine envL_congr (fun j hj hjn => ⟨fun h => .inl h, fun h => h.elim id fun he => ?_⟩) hD
      rw [he, hd] at hjn
      injection hjn with hjn
      exact absurd hjn.symm hn
end

theorem gdst_get {gl : List GOp} {i : Nat} {g : GOp} (h : gl[i]? = some g) : gdst gl i = g.d := by simp [gdst, h]

/-- What one operation did. -/
def Did (T : Nat → Option Fe) (N : Nat) (g : GOp) (e : Env) (s : Sto) (y : X) (s' : Sto) : Prop :=
  (gd g e = some false ∧ y = .tup [] ∧ s' = s) ∨ (gd g e = some true ∧ ∃ m, m < N ∧ opR (runN T m) T g.op e s = some (y, s'))

/-- In the text's order, step by step. -/
theorem text_order {T : Nat → Option Fe} {k : List It} {x : Env × Sto} {s : Sto} {e : Env} {l m : List GOp} {ops : Array Oper} {n N : Nat} {ch js : List Nat} (hD : Drawn ops (l ++ m) l.length ch js) (hn : n ≤ N) (hr : runN T n (.ops l :: k) e s = some x) :
    ∀ q, q ≤ l.length → ∃ (xs : Nat → X) (ss : Nat → Sto), ss 0 = s ∧ (∀ i g, i < q → (l ++ m)[i]? = some g → Did T N g (envL e (l ++ m) xs (· < i)) (ss i) (xs i) (ss (i + 1))) ∧
      ∃ c, c ≤ n ∧ runN T c (.ops (l.drop q) :: k) (envL e (l ++ m) xs (· < q)) (ss q) = some x := by
  intro q
  induction q with
  | zero =>
    intro _
    exact ⟨fun _ => .junk, fun _ => s, rfl, fun i g hi => absurd hi (Nat.not_lt_zero i), n, Nat.le_refl _, by rw [envL_none (fun j hj => absurd hj (Nat.not_lt_zero j))]; simpa using hr⟩
  | succ q ih =>
    intro hq
    obtain ⟨xs, ss, h0, h1, c, hc, h2⟩ := ih (by omega)
    have hlt : q < l.length := by omega
    have hltg : q < (l ++ m).length := by simp; omega
    rw [List.drop_eq_getElem_cons hlt] at h2
    cases c with
    | zero => simp [runN] at h2
    | succ c =>
      simp only [runN] at h2
      have hg : (l ++ m)[q]? = some l[q] := by rw [List.getElem?_append_left hlt]; exact List.getElem?_eq_getElem hlt
      have fin : ∀ y s', runN T c (.ops (l.drop (q + 1)) :: k) (put (envL e (l ++ m) xs (· < q)) l[q].d y) s' = some x → Did T N l[q] (envL e (l ++ m) xs (· < q)) (ss q) y s' →
          ∃ (xs : Nat → X) (ss : Nat → Sto), ss 0 = s ∧ (∀ i g, i < q + 1 → (l ++ m)[i]? = some g → Did T N g (envL e (l ++ m) xs (· < i)) (ss i) (xs i) (ss (i + 1))) ∧
          ∃ c', c' ≤ n ∧ runN T c' (.ops (l.drop (q + 1)) :: k) (envL e (l ++ m) xs (· < q + 1)) (ss (q + 1)) = some x := by
        intro y s' hy hd
        have k3 : ∀ i, i ≤ q → envL e (l ++ m) (fun i => if i = q then y else xs i) (· < i) = envL e (l ++ m) xs (· < i) := by
          intro i hi
          funext n
          by_cases hx : ∃ j, j < i ∧ j < (l ++ m).length ∧ gdst (l ++ m) j = some n
          · obtain ⟨j, a1, a2, a3⟩ := hx
            rw [envL_at (L := (· < i)) hD a1 a2 a3, envL_at (L := (· < i)) hD a1 a2 a3]
            simp [show j ≠ q by omega]
          · rw [envL_not (L := (· < i)) (fun j a1 a2 a3 => hx ⟨j, a1, a2, a3⟩), envL_not (L := (· < i)) (fun j a1 a2 a3 => hx ⟨j, a1, a2, a3⟩)]
        refine ⟨fun i => if i = q then y else xs i, fun i => if i = q + 1 then s' else ss i, by simp [h0], ?_, c, by omega, ?_⟩
        · intro i g hi hgi
          rw [k3 i (by omega)]
          by_cases hiq : i = q
          · subst hiq
            rw [hg] at hgi
            injection hgi with hgi
            subst hgi
            simpa using hd
          · have := h1 i g (by omega) hgi
            simpa [hiq, show i ≠ q + 1 by omega] using this
        · have := envL_put (e := e) (xs := fun i => if i = q then y else xs i) (L := (· < q)) hD hltg (Nat.lt_irrefl q)
          rw [k3 q (Nat.le_refl _), gdst_get hg] at this
          simp only [if_true] at this
          rw [this] at hy
          rw [envL_ext (L' := fun j => j < q ∨ j = q) (fun j _ => by omega) hD]
          simpa using hy
      split at h2
      · rename_i hgd
        split at h2
        case h_2 => simp at h2
        rename_i y s' hy
        exact fin y s' h2 (.inr ⟨hgd, c, by omega, hy⟩)
      · rename_i hgd
        exact fin (.tup []) (ss q) h2 (.inl ⟨hgd, rfl, rfl⟩)
      · simp at h2
end Go.Proofs.YtoodknhlnifnlaaGreatDoor

/- The engine, part V: regions whose order is drawn, carried out. -/
set_option linter.unusedVariables false
set_option linter.unusedSimpArgs false
namespace Go.Proofs.YtoodknhlnifnlaaGreatDoor
open Go.RowKit
variable {P : Program}

theorem okGL_get {nt : Nat} {ops : Array Oper} : ∀ {l : List Oper} {gl : List GOp}, okGL P nt ops l gl = true → ∀ (i : Nat) (o : Oper), l[i]? = some o → ∃ g, gl[i]? = some g ∧ okG P nt ops o g = true := by
  intro l
  induction l with
  | nil => intro gl _ i o h; simp at h
  | cons o l ih =>
    intro gl hok i o' h
    cases gl with
    | nil => simp [okGL] at hok
    | cons g gl =>
      simp only [okGL, Bool.and_eq_true] at hok
      cases i with
      | zero => simp at h; subst h; exact ⟨g, rfl, hok.1⟩
      | succ i => simpa using ih hok.2 i o' (by simpa using h)

section
variable {T : Nat → Option Fe} {w0 : Bs} {sh : Nat → Prop} {nt : Nat} {k : List It} {x : Env × Sto} {ops : Array Oper} {gl : List GOp} {p N : Nat} {ch js : List Nat}

/-- One operation that is in turn. -/
theorem op_any (hF : ∀ f, (T f).isSome = true → okFn P f = true) {μ : Nat → Nat} {fr : Nat → Prop} {e : Env} {s : Sto} {a : Act} {w : World} {i : Nat} {o : Oper} {g : GOp} (ho : ops[i]? = some o) (hok : okG P nt ops o g = true)
    (h : Inv w0 sh nt μ fr e s a w) {y : X} {s' : Sto} (hT : ∀ m, m < N → CallOK P T m ∧ InlOK P T m)
    (hs : Did T N g e s y s')
    {K : Act → World → Prop} {Q : Exit → Act → World → Prop} (hK : ∀ a' w' μ' fr', Inv w0 sh nt μ' fr' (put e g.d y) s' a' w' → K a' w') : wpOp P ops Q i K a w := by
  obtain ⟨hd, hdn⟩ := okG_dst hok
  have hop : (okOq P o.op g.op || okCall P o.op g.op) = true := by
    have := hok
    simp only [okG, Bool.and_eq_true] at this
    exact this.2
  unfold wpOp
  simp only [ho]
  rcases hs with ⟨hg, rfl, rfl⟩ | ⟨hg, m, hm, hr⟩
  · rw [if_neg (by rw [okG_guard h hok hg]; simp), hd]
    exact hK _ _ _ _ (h.put hdn (.tup rfl (by simp)))
  · rw [if_pos (okG_guard h hok hg)]
    refine .inl (opW h (hT m hm).1 (hT m hm).2 hF hop hr ?_)
    intro v w' μ' fr' hI hrep _
    rw [hd]
    exact hK _ _ _ _ (hI.put hdn hrep)

theorem d1_spec {i j : Nat} {l : Array Bool} (hi : i ∈ Region.ready .any ops l) (h : d1 ops i j = true) : l.getD j false = true := by
  obtain ⟨_, o, ho, he⟩ := mem_ready.1 hi
  simp only [d1, ho, List.any_eq_true, Bool.and_eq_true, beq_iff_eq] at h
  obtain ⟨e, h1, h2, rfl⟩ := h
  exact he e (by simpa using h1) h2
theorem dd_spec {l : Array Bool} (hdn : ∀ i j, l.getD i false = true → d1 ops i j = true → l.getD j false = true) : ∀ {n i j : Nat}, (∀ j, d1 ops i j = true → l.getD j false = true) → dd ops n i j = true → l.getD j false = true := by
  intro n
  induction n with
  | zero => intro i j hi h; exact hi j h
  | succ n ih =>
    intro i j hi h
    simp only [dd, Bool.or_eq_true] at h
    rcases h with h | h
    · exact hi j h
    · split at h
      case h_2 => simp at h
      rename_i o ho
      simp only [List.any_eq_true, Bool.and_eq_true] at h
      obtain ⟨e, h1, h2, h3⟩ := h
      have hle : l.getD e.on false = true := hi e.on (by
        simp only [d1, ho, List.any_eq_true, Bool.and_eq_true, beq_iff_eq]
        exact ⟨e, h1, h2, rfl⟩)
      exact ih (fun j hj => hdn _ j hle hj) h3
theorem d2_spec {i j : Nat} {l : Array Bool} (hdn : ∀ i j, l.getD i false = true → d1 ops i j = true → l.getD j false = true) (hi : i ∈ Region.ready .any ops l) (h : d2 ops i j = true) : l.getD j false = true :=
  dd_spec hdn (fun j hj => d1_spec hi hj) h
theorem d1_lt (hD : Drawn ops gl p ch js) {i j : Nat} (h : d1 ops i j = true) : j < i := by
  unfold d1 at h
  split at h
  case h_2 => simp at h
  rename_i o ho
  simp only [List.any_eq_true, Bool.and_eq_true, beq_iff_eq] at h
  obtain ⟨e, h1, h2, rfl⟩ := h
  exact hD.edge i o ho e (by simpa using h1) h2

theorem count_set_lt {l : Array Bool} {i F : Nat} (hi : l.getD i true = false) (h : l.count false ≤ F + 1) : (l.setIfInBounds i true).count false ≤ F := by
  have hlt : i < l.size := by
    by_cases hlt : i < l.size
    · exact hlt
    · simp [Array.getD_eq_getD_getElem?, Array.getElem?_eq_none (Nat.le_of_not_lt hlt)] at hi
  have hv : l[i] = false := by simpa [Array.getD_eq_getD_getElem?, Array.getElem?_eq_getElem hlt] using hi
  simp only [Array.setIfInBounds, hlt, dif_pos]
  rw [Array.count_set]
  simp [hv]
  omega
theorem count_pos {l : Array Bool} {i : Nat} (hi : l.getD i true = false) : 0 < l.count false := by
  have hlt : i < l.size := by
    by_cases hlt : i < l.size
    · exact hlt
    · simp [Array.getD_eq_getD_getElem?, Array.getElem?_eq_none (Nat.le_of_not_lt hlt)] at hi
  have hv : l[i] = false := by simpa [Array.getD_eq_getD_getElem?, Array.getElem?_eq_getElem hlt] using hi
  exact Array.count_pos_iff.2 (hv ▸ Array.getElem_mem hlt)
theorem getD_tf {l : Array Bool} {j : Nat} (h : j < l.size) : l.getD j true = l.getD j false := by
  simp [Array.getD_eq_getD_getElem?, Array.getElem?_eq_getElem h]
theorem getD_set {l : Array Bool} {i j : Nat} (hj : j < l.size) : (l.setIfInBounds i true).getD j true = (l.getD j true || decide (i = j)) := by
  by_cases h : i = j
  · subst h; simp [Array.getD_eq_getD_getElem?, hj]
  · simp [Array.getD_eq_getD_getElem?, Array.getElem?_setIfInBounds_ne h, h]

theorem tail_any (hF : ∀ f, (T f).isSome = true → okFn P f = true) (hT : ∀ m, m < N → CallOK P T m ∧ InlOK P T m) (hD : Drawn ops gl p ch js) (hok : okGL P nt ops ops.toList gl = true) : ∀ {F q n : Nat} {l : Array Bool} {μ : Nat → Nat} {fr : Nat → Prop} {e : Env} {s : Sto} {a : Act} {w : World},
    p ≤ q → q ≤ gl.length → l.size = ops.size → l.count false ≤ F → (∀ j, j < gl.length → l.getD j true = decide (j < q)) → n ≤ N → Inv w0 sh nt μ fr e s a w → runN T n (.ops (gl.drop q) :: k) e s = some x →
    wpAny P .any ops (Qk T w0 sh nt N k x) F l a w := by
  intro F
  induction F with
  | zero =>
    intro q n l μ fr e s a w hp hq hl hc hL hn h hr
    have hqe : q = gl.length := by
      by_cases hlt : q < gl.length
      · have := count_pos (l := l) (i := q) (by rw [hL q hlt]; simp)
        omega
      · omega
    subst hqe
    refine ⟨?_, ?_⟩
    · cases hrd : Region.ready .any ops l with
      | nil => rfl
      | cons i r =>
        have hi : i ∈ Region.ready .any ops l := by rw [hrd]; exact List.mem_cons_self
        have := count_pos (mem_ready.1 hi).1
        omega
    · rw [List.drop_length] at hr
      cases n with
      | zero => simp [runN] at hr
      | succ n => exact ⟨n, by omega, μ, fr, e, s, h, by simpa only [runN] using hr⟩
  | succ F ih =>
    intro q n l μ fr e s a w hp hq hl hc hL hn h hr
    by_cases hlt : q < gl.length
    · have hone : ∀ i ∈ Region.ready .any ops l, i = q := by
        intro i hi
        obtain ⟨h0, o, ho, he⟩ := mem_ready.1 hi
        have hil : i < gl.length := by have := (Array.getElem?_eq_some_iff.1 ho).1; have := hD.size; omega
        have hge : q ≤ i := by
          have := hL i hil
          rw [h0] at this
          have := of_decide_eq_false this.symm
          omega
        by_cases heq : i = q
        · exact heq
        · exfalso
          have hlq : l.getD q false = false := by
            rw [← getD_tf (by have := hD.size; omega), hL q hlt]; simp
          have h1 := d2_spec (fun m j h1 h2 => by
            have hm := d1_lt hD h2
            by_cases hml : m < gl.length
            · rw [← getD_tf (by have := hD.size; omega), hL m hml] at h1
              have := of_decide_eq_true h1
              rw [← getD_tf (by have := hD.size; omega), hL j (by omega)]
              simp; omega
            · have : l.size ≤ m := by have := hD.size; omega
              simp [Array.getD_eq_getD_getElem?, Array.getElem?_eq_none this] at h1) hi (hD.tail i q (by omega) hil (by omega))
          rw [hlq] at h1; simp at h1
      have hqr : q ∈ Region.ready .any ops l := by
        have hqs : q < ops.size := by have := hD.size; omega
        refine mem_ready.2 ⟨by rw [hL q hlt]; simp, ops[q], Array.getElem?_eq_getElem hqs, ?_⟩
        intro e he hb
        have := hD.edge q _ (Array.getElem?_eq_getElem hqs) e he hb
        rw [← getD_tf (by have := hD.size; omega), hL e.on (by omega)]
        simpa using this
      refine ⟨fun hnil => by rw [hnil] at hqr; simp at hqr, ?_⟩
      intro i hi
      obtain rfl := hone i hi
      have hqs : i < ops.size := by have := hD.size; omega
      obtain ⟨g, hg, hokg⟩ := okGL_get hok i ops[i] (by simp [hqs])
      rw [List.drop_eq_getElem_cons hlt] at hr
      have hge : gl[i] = g := by simpa [List.getElem?_eq_getElem hlt] using hg
      rw [hge] at hr
      cases n with
      | zero => simp [runN] at hr
      | succ n =>
        simp only [runN] at hr
        have next : ∀ {μ' fr' e' s' a' w'}, Inv w0 sh nt μ' fr' e' s' a' w' → runN T n (.ops (gl.drop (i + 1)) :: k) e' s' = some x → wpAny P .any ops (Qk T w0 sh nt N k x) F (l.setIfInBounds i true) a' w' := by
          intro μ' fr' e' s' a' w' h' hr'
          refine ih (q := i + 1) (by omega) hlt (by simpa using hl) (count_set_lt (by rw [hL i hlt]; simp) hc) ?_ (by omega) h' hr'
          intro j hj
          rw [getD_set (by have := hD.size; omega), hL j hj]
          rw [← Bool.decide_or]
          exact decide_eq_decide.2 (by omega)
        split at hr
        · rename_i hgd
          split at hr
          case h_2 => simp at hr
          rename_i y s' hy
          exact op_any hF (Array.getElem?_eq_getElem hqs) hokg h hT (.inr ⟨hgd, n, by omega, hy⟩) (fun a' w' μ' fr' hI => next hI hr)
        · rename_i hgd
          exact op_any hF (Array.getElem?_eq_getElem hqs) hokg h hT (.inl ⟨hgd, rfl, rfl⟩) (fun a' w' μ' fr' hI => next hI hr)
        · simp at hr
    · have hqe : q = gl.length := by omega
      subst hqe
      have hnone : Region.ready .any ops l = [] := by
        cases hrd : Region.ready .any ops l with
        | nil => rfl
        | cons i r =>
          exfalso
          have hi : i ∈ Region.ready .any ops l := by rw [hrd]; exact List.mem_cons_self
          obtain ⟨h0, o, ho, _⟩ := mem_ready.1 hi
          have hil : i < gl.length := by have := (Array.getElem?_eq_some_iff.1 ho).1; have := hD.size; omega
          rw [hL i hil] at h0
          exact (of_decide_eq_false h0) hil
      refine ⟨fun _ => ?_, fun i hi => by rw [hnone] at hi; simp at hi⟩
      rw [List.drop_length] at hr
      cases n with
      | zero => simp [runN] at hr
      | succ n => exact ⟨n, by omega, μ, fr, e, s, h, by simpa only [runN] using hr⟩

theorem exists_min {p : Nat → Prop} : ∀ {n : Nat}, p n → ∃ m, m ≤ n ∧ p m ∧ ∀ j, j < m → ¬ p j := by
  intro n
  induction n using Nat.strongRecOn with
  | _ n ih =>
    intro h
    by_cases hx : ∃ j, j < n ∧ p j
    · obtain ⟨j, h1, h2⟩ := hx
      obtain ⟨m, h3, h4⟩ := ih j h1 h2
      exact ⟨m, by omega, h4⟩
    · exact ⟨n, Nat.le_refl _, h, fun j hj hp => hx ⟨j, hj, hp⟩⟩

/-! ### the variables when some operations have been carried out -/
open Classical in
noncomputable def SL (ss : Nat → Sto) (L : Nat → Prop) : Nat → Sto
  | 0 => ss 0
  | i + 1 => fun o => if L i ∧ ss (i + 1) o ≠ ss i o then ss (i + 1) o else SL ss L i o
theorem SL_agree {ss : Nat → Sto} {L : Nat → Prop} {o i : Nat} : ∀ {q : Nat}, (∀ j, j < q → ss (j + 1) o ≠ ss j o → (L j ↔ j < i)) → SL ss L q o = ss (min q i) o := by
  intro q
  induction q with
  | zero => intro _; simp [SL]
  | succ q ih =>
    intro h
    have ih := ih (fun j hj => h j (by omega))
    simp only [SL]
    by_cases hc : L q ∧ ss (q + 1) o ≠ ss q o
    · rw [if_pos hc]
      have := (h q (by omega) hc.2).1 hc.1
      rw [show min (q + 1) i = q + 1 by omega]
    · rw [if_neg hc, ih]
      by_cases hqi : q < i
      · rw [show min q i = q by omega, show min (q + 1) i = q + 1 by omega]
        by_cases he : ss (q + 1) o = ss q o
        · exact he.symm
        · exact absurd ⟨(h q (by omega) he).2 hqi, he⟩ hc
      · rw [show min q i = i by omega, show min (q + 1) i = i by omega]
theorem SL_same {ss : Nat → Sto} {L L' : Nat → Prop} {o : Nat} : ∀ {q : Nat}, (∀ j, j < q → ss (j + 1) o ≠ ss j o → (L j ↔ L' j)) → SL ss L q o = SL ss L' q o := by
  intro q
  induction q with
  | zero => intro _; rfl
  | succ q ih =>
    intro h
    have ih := ih (fun j hj => h j (by omega))
    simp only [SL]
    by_cases he : ss (q + 1) o = ss q o
    · simp [he, ih]
    · have h1 := h q (by omega) he
      by_cases hL : L q
      · rw [if_pos ⟨hL, he⟩, if_pos ⟨h1.1 hL, he⟩]
      · rw [if_neg (fun h => hL h.1), if_neg (fun h => hL (h1.2 h.1)), ih]

theorem cnt_steps {ss : Nat → Sto} {p : Nat} (h : ∀ i, i < p → Cnt (ss i) (ss (i + 1))) {o : Nat} (he : (ss p o).n = (ss 0 o).n) : ∀ i, i ≤ p → ss i o = ss 0 o := by
  have mono : ∀ (i d : Nat), i + d ≤ p → (ss i o).n ≤ (ss (i + d) o).n := by
    intro i d
    induction d with
    | zero => intro _; exact Nat.le_refl _
    | succ d ih =>
      intro hd
      have h1 := ih (by omega)
      rcases h (i + d) (by omega) o with h2 | h2
      · rw [show i + (d + 1) = i + d + 1 by omega, h2]; exact h1
      · rw [show i + (d + 1) = i + d + 1 by omega]; omega
  intro i
  induction i with
  | zero => intro _; rfl
  | succ i ih =>
    intro hi
    have ih := ih (by omega)
    rcases h i (by omega) o with h2 | h2
    · rw [h2, ih]
    · exfalso
      have h3 := mono (i + 1) (p - (i + 1)) (by omega)
      rw [show i + 1 + (p - (i + 1)) = p by omega] at h3
      rw [ih] at h2
      omega

theorem sameV_eq {x y : X} (h : sameV x y = true) : x = y := by
  unfold sameV at h
  split at h
  · simp only [Bool.and_eq_true, beq_iff_eq] at h; obtain ⟨rfl, rfl⟩ := h; rfl
  · simp only [beq_iff_eq] at h; rw [h]
  · simp at h
theorem opR_noCall {r : List It → Env → Sto → Option (Env × Sto)} {op : IOp} {e : Env} {s : Sto} (h : noCall op = true) : opR r T op e s = stepO op e s := by
  cases op <;> first | rfl | (simp [noCall] at h; done)
theorem cls_still {op : IOp} (h : cls op = 0) : stillG op = true := by
  cases op
  case callo st _ _ _ _ => cases st <;> simp [cls, stillG, stillI] at h
  all_goals simp only [cls] at h <;> first | (simp at h; done) | (split at h <;> first | assumption | (simp at h; done))
theorem Did.cnt (hC : TC T) {g : GOp} {e : Env} {s s' : Sto} {y : X} (h : Did T N g e s y s') : Cnt s s' := by
  rcases h with ⟨_, _, rfl⟩ | ⟨_, m, _, h⟩
  · exact Cnt.refl _
  · exact opR_cnt (fun its e s x hx => runN_cnt T hC m its e s x hx) hC h
theorem Did.still {g : GOp} {e : Env} {s s' : Sto} {y : X} (h : Did T N g e s y s') (hc : cls g.op = 0) : s' = s := by
  rcases h with ⟨_, _, rfl⟩ | ⟨_, m, _, h⟩
  · rfl
  · exact stillG_same (cls_still hc) h
theorem Did.box {g : GOp} {e : Env} {s s' : Sto} {y : X} (h : Did T N g e s y s') (hc : cls g.op = 1) : ∃ q, boxN g.op = some q ∧ (∀ o, o ≠ q → s' o = s o) ∧
    ∀ s2 : Sto, s2 q = s q → Did T N g e s2 y (fun o => if o = q then s' q else s2 o) := by
  obtain ⟨d, gg, op⟩ := g
  cases op
  case box q a =>
    refine ⟨q, rfl, ?_, ?_⟩
    · intro o ho
      rcases h with ⟨_, _, rfl⟩ | ⟨_, m, _, h⟩
      · rfl
      · simp only [opR, stepO] at h
        split at h
        · simp only [Option.some.injEq, Prod.mk.injEq] at h
          obtain ⟨_, rfl⟩ := h
          simp [newO, upd, ho]
        · simp at h
    · intro s2 hs2
      rcases h with ⟨h1, h2, rfl⟩ | ⟨h1, m, hm, h⟩
      · refine .inl ⟨h1, h2, ?_⟩
        funext o
        by_cases ho : o = q
        · subst ho; simp [hs2]
        · simp [ho]
      · refine .inr ⟨h1, m, hm, ?_⟩
        simp only [opR, stepO] at h ⊢
        split at h
        · rename_i hc
          rw [if_pos hc]
          simp only [Option.some.injEq, Prod.mk.injEq] at h
          obtain ⟨rfl, rfl⟩ := h
          rw [hs2]
          simp only [Option.some.injEq, Prod.mk.injEq, true_and]
          funext o
          by_cases ho : o = q
          · subst ho; simp [newO, upd, hs2]
          · simp [newO, upd, ho]
        · simp at h
  case callo st p q f l =>
    cases st with
    | false => simp [cls, stillG, stillI] at hc
    | true =>
    have key : ∀ {m e} {s s' : Sto} {y : X}, opR (runN T m) T (.callo true p q f l) e s = some (y, s') → (∀ o, o ≠ q → s' o = s o) ∧
        ∀ s2 : Sto, s2 q = s q → opR (runN T m) T (.callo true p q f l) e s2 = some (y, fun o => if o = q then s' q else s2 o) := by
      intro m e s s' y h
      simp only [opR, callO] at h ⊢
      split at h
      · simp at h
      rename_i xs hxs
      have hnm : (l.map (Ar.ev e)).flatMap nmG = [] := by
        unfold callOR at h
        split at h
        · split at h
          · simp at h
          · rename_i hn
            exact Classical.byContradiction fun hq => hn ⟨rfl, hq⟩
        · split at h
          · simp at h
          · rename_i hn
            exact Classical.byContradiction fun hq => hn (.inl ⟨rfl, hq⟩)
        · simp at h
      have hA : ∀ s2, dpA s2 (l.map (Ar.ev e)) = some xs := fun s2 => dpA_nonames hnm hxs
      refine ⟨?_, fun s2 hs2 => ?_⟩
      · intro o ho
        unfold callOR at h
        split at h
        · split at h
          · simp at h
          · simp only [Option.some.injEq, Prod.mk.injEq] at h
            obtain ⟨_, rfl⟩ := h
            simp [frz, hnm]
        · split at h
          · simp at h
          · simp only [Option.some.injEq, Prod.mk.injEq] at h
            obtain ⟨_, rfl⟩ := h
            simp [frz, hnm, newO, upd, ho]
        · simp at h
      · rw [hA s2]
        simp only
        unfold callOR at h ⊢
        rw [hnm] at h ⊢
        split at h
        · rw [if_neg (show ¬ (true = true ∧ ¬ (([] : List Nat) = [])) by simp)] at h ⊢
          simp only [Option.some.injEq, Prod.mk.injEq] at h ⊢
          obtain ⟨rfl, rfl⟩ := h
          refine ⟨rfl, ?_⟩
          funext o
          by_cases ho : o = q
          · subst ho; simp [frz, hs2]
          · simp [frz, ho]
        · rw [if_neg (show ¬ ((true = true ∧ ¬ (([] : List Nat) = [])) ∨ q ∈ ([] : List Nat)) by simp)] at h ⊢
          simp only [Option.some.injEq, Prod.mk.injEq] at h ⊢
          obtain ⟨rfl, rfl⟩ := h
          refine ⟨by rw [hs2], ?_⟩
          funext o
          by_cases ho : o = q
          · subst ho; simp [frz, newO, upd, hs2]
          · simp [frz, newO, upd, ho]
        · simp at h
    refine ⟨q, rfl, ?_, ?_⟩
    · rcases h with ⟨_, _, rfl⟩ | ⟨_, m, _, h⟩
      · intro o _; rfl
      · exact (key h).1
    · intro s2 hs2
      rcases h with ⟨h1, h2, rfl⟩ | ⟨h1, m, hm, h⟩
      · refine .inl ⟨h1, h2, ?_⟩
        funext o
        by_cases ho : o = q
        · subst ho; simp [hs2]
        · simp [ho]
      · exact .inr ⟨h1, m, hm, (key h).2 s2 hs2⟩
  all_goals (simp only [cls] at hc; split at hc <;> simp at hc)

theorem draw_any (hC : TC T) (hF : ∀ f, (T f).isSome = true → okFn P f = true) (hT : ∀ m, m < N → CallOK P T m ∧ InlOK P T m) (hD : Drawn ops gl p ch js) (hok : okGL P nt ops ops.toList gl = true) {e : Env} {xs : Nat → X} {ss : Nat → Sto}
    (hxs : ∀ i g, i < p → gl[i]? = some g → Did T N g (envL e gl xs (· < i)) (ss i) (xs i) (ss (i + 1)))
    (hch : ∀ t ∈ ch, ∀ o ∈ nmA (envL e gl xs (· < p) t), (ss p o).n = (ss 0 o).n)
    (hjs : ∀ j g d, j ∈ js → j < p → gl[j]? = some g → g.d = some d → ∃ x y s1 s2, stepO g.op (envL e gl xs (· < p)) (ss 0) = some (x, s1) ∧ stepO g.op (envL e gl xs (· < p)) (ss p) = some (y, s2) ∧ x = envL e gl xs (· < p) d ∧ y = envL e gl xs (· < p) d)
    {n : Nat} (hn : n ≤ N) (hr : runN T n (.ops (gl.drop p) :: k) (envL e gl xs (· < p)) (ss p) = some x) :
    ∀ {F : Nat} {l : Array Bool} {μ : Nat → Nat} {fr : Nat → Prop} {a : Act} {w : World}, l.size = ops.size → l.count false ≤ F → (∀ j, j < gl.length → l.getD j true = true → j < p) →
    (∀ i j, l.getD i false = true → d1 ops i j = true → l.getD j false = true) → Inv w0 sh nt μ fr (envL e gl xs (fun j => l.getD j true = true)) (SL ss (fun j => l.getD j true = true) p) a w → wpAny P .any ops (Qk T w0 sh nt N k x) F l a w := by
  have hple := hD.le
  have hsz := hD.size
  have hcnt : ∀ i, i < p → Cnt (ss i) (ss (i + 1)) := fun i hi => (hxs i gl[i] hi (List.getElem?_eq_getElem (by omega))).cnt hC
  have hall' : ∀ {L : Nat → Prop}, (∀ j, j < p → L j) → SL ss L p = ss p := by
    intro L hL
    funext o
    rw [SL_agree (i := p) (fun j hj _ => ⟨fun _ => hj, fun _ => hL j hj⟩), Nat.min_self]
  intro F
  induction F with
  | zero =>
    intro l μ fr a w hl hc hlt hdn h
    have hall : ∀ j, j < gl.length → l.getD j true = true := by
      intro j hj
      cases hq : l.getD j true with
      | true => rfl
      | false => have := count_pos hq; omega
    refine tail_any hF hT hD hok (μ := μ) (fr := fr) (q := p) (Nat.le_refl _) hD.le hl hc ?_ hn ?_ hr
    · intro j hj
      rw [hall j hj]
      exact (decide_eq_true (hlt j hj (hall j hj))).symm
    · rw [envL_ext (L' := fun j => l.getD j true = true) (fun j hj => by rw [hall j hj]; simp [hlt j hj (hall j hj)]) hD, ← hall' (L := fun j => l.getD j true = true) (fun j hj => hall j (by omega))]
      exact h
  | succ F ih =>
    intro l μ fr a w hl hc hlt hdn h
    by_cases hall : ∀ j, j < p → l.getD j true = true
    · refine tail_any hF hT hD hok (μ := μ) (fr := fr) (q := p) (Nat.le_refl _) hD.le hl hc ?_ hn ?_ hr
      · intro j hj
        by_cases hjp : j < p
        · rw [hall j hjp]; simp [hjp]
        · cases hq : l.getD j true with
          | true => exact absurd (hlt j hj hq) hjp
          | false => simp [hjp]
      · rw [envL_ext (L' := fun j => l.getD j true = true) (fun j hj => ⟨fun h1 => hall j h1, hlt j hj⟩) hD, ← hall' (L := fun j => l.getD j true = true) hall]
        exact h
    · obtain ⟨j0, hj0⟩ := Classical.not_forall.1 hall
      obtain ⟨hj0, hj0u⟩ := Classical.not_imp.1 hj0
      have hj0u : l.getD j0 true = false := by simpa using hj0u
      obtain ⟨j, hjle, hju, hjmin⟩ := exists_min (p := fun j => l.getD j true = false) hj0u
      have hjp : j < p := by omega
      have hready : j ∈ Region.ready .any ops l := by
        have hjs : j < ops.size := by omega
        refine mem_ready.2 ⟨hju, ops[j], Array.getElem?_eq_getElem hjs, ?_⟩
        intro e he hb
        have h1 := hD.edge j _ (Array.getElem?_eq_getElem hjs) e he hb
        rw [← getD_tf (by omega)]
        simpa using hjmin e.on h1
      refine ⟨fun hnil => by rw [hnil] at hready; simp at hready, ?_⟩
      intro i hi
      obtain ⟨h0, o, ho, he⟩ := mem_ready.1 hi
      have his := (Array.getElem?_eq_some_iff.1 ho).1
      have hd2 : ∀ j, d2 ops i j = true → l.getD j false = true := fun j hj => d2_spec hdn hi hj
      have hd2' : ∀ j, j < p → d2 ops i j = true → l.getD j true = true := fun j hj h => by rw [getD_tf (by omega)]; exact hd2 j h
      have hd3 : ∀ j, j < p → d2 ops j i = true → ¬ l.getD j true = true := by
        intro j hj h1 h2
        have h3 : l.getD i false = true := dd_spec hdn (fun q hq => hdn j q (by rw [← getD_tf (by omega)]; exact h2) hq) h1
        rw [← getD_tf (by omega), h0] at h3
        simp at h3
      have hip : i < p := by
        by_cases hip : i < p
        · exact hip
        · have := hd2 j (hD.tail i j (by omega) (by omega) (by omega))
          rw [← getD_tf (by omega), hju] at this
          simp at this
      obtain ⟨g, hg, hokg⟩ := okGL_get hok i o (by simpa using ho)
      have hrd : ∀ t ∈ g.rd, envL e gl xs (fun j => l.getD j true = true) t = envL e gl xs (· < i) t := by
        intro t ht
        refine envL_congr (fun j hj hjt => ?_) hD
        by_cases hji : j = i
        · subst hji; simp [h0]
        by_cases hjp' : j < p
        case neg => exact ⟨fun hq => absurd (hlt j hj hq) hjp', fun hq => by omega⟩
        · rcases hD.reads i g t j hip hg ht hjp' hji hjt with ⟨h1, h2⟩ | ⟨h1, h2⟩
          · have := hd2 j h2
            rw [← getD_tf (by omega)] at this
            simp [this, h1]
          · exact ⟨fun hq => absurd hq (hd3 j hjp' h2), fun hq => by omega⟩
      have hrdp : (∀ t ∈ g.rd, ∀ q, q < p → gdst gl q = some t → q < i) → ∀ t ∈ g.rd, envL e gl xs (· < p) t = envL e gl xs (· < i) t := by
        intro hlate t ht
        exact envL_congr (fun j hj hjt => ⟨fun hq => hlate t ht j hq hjt, fun hq => by omega⟩) hD
      have hsub : ∀ n ∈ g.op.rd, n ∈ g.rd := fun n hn => List.mem_append_left _ hn
      -- what the operation does now
      have hdid : Did T N g (envL e gl xs (fun j => l.getD j true = true)) (SL ss (fun j => l.getD j true = true) p) (xs i) (SL ss (fun j => l.getD j true = true ∨ j = i) p) := by
        have hx := hxs i g hip hg
        have tr : ∀ {s y s'}, Did T N g (envL e gl xs (· < i)) s y s' → Did T N g (envL e gl xs (fun j => l.getD j true = true)) s y s' := by
          intro s y s' hd
          rcases hd with ⟨h1, h2, h3⟩ | ⟨h1, m, hm, h2⟩
          · exact .inl ⟨by rw [gd_congr hrd]; exact h1, h2, h3⟩
          · exact .inr ⟨by rw [gd_congr hrd]; exact h1, m, hm, by rw [opR_congr (fun n hn => hrd n (hsub n hn))]; exact h2⟩
        refine tr ?_
        have wr : ∀ j o, j < p → ss (j + 1) o ≠ ss j o → ∃ gj, gl[j]? = some gj ∧ cls gj.op ≠ 0 := by
          intro j o hj hne
          have hgj : gl[j]? = some gl[j] := List.getElem?_eq_getElem (by omega)
          refine ⟨_, hgj, fun h0 => hne ?_⟩
          rw [(hxs j _ hj hgj).still h0]
        have ordL : ∀ j, j < p → j ≠ i → (j < i ∧ d2 ops i j = true) ∨ (i < j ∧ d2 ops j i = true) → (l.getD j true = true ↔ j < i) := by
          intro j hj hne ho
          rcases ho with ⟨h1, h2⟩ | ⟨h1, h2⟩
          · exact ⟨fun _ => h1, fun _ => hd2' j hj h2⟩
          · exact ⟨fun h => absurd h (hd3 j hj h2), fun h => by omega⟩
        by_cases c0 : cls g.op = 0
        · -- still: nothing changes
          have hs1 : ss (i + 1) = ss i := hx.still c0
          have hSL : SL ss (fun j => l.getD j true = true ∨ j = i) p = SL ss (fun j => l.getD j true = true) p := by
            funext o
            refine SL_same fun j hj hne => ⟨fun h => h.elim id fun h => ?_, .inl⟩
            subst h; exact absurd (by rw [hs1]) hne
          rw [hSL]
          rcases hx with ⟨h1, h2, h3⟩ | ⟨h1, m, hm, h2⟩
          · exact .inl ⟨h1, h2, rfl⟩
          refine .inr ⟨h1, m, hm, ?_⟩
          rw [hs1] at h2
          have hst := cls_still c0
          have loc : (∀ a ∈ g.op.ars, ∀ q ∈ nmA (a.ev (envL e gl xs (· < i))), SL ss (fun j => l.getD j true = true) p q = ss i q) → opR (runN T m) T g.op (envL e gl xs (· < i)) (SL ss (fun j => l.getD j true = true) p) = some (xs i, SL ss (fun j => l.getD j true = true) p) :=
            fun hl => opR_local hst hl h2
          by_cases hun : ∃ j gj, j < p ∧ j ≠ i ∧ gl[j]? = some gj ∧ cls gj.op ≠ 0 ∧ ¬ ((j < i ∧ d2 ops i j = true) ∨ (i < j ∧ d2 ops j i = true))
          · obtain ⟨j, gj, hj, hne, hgj, hcj, hno⟩ := hun
            rcases hD.sep j i gj g hj hip (Ne.symm hne) hgj hg hcj with h3 | h3 | ⟨_, h3⟩
            · exact absurd (h3.symm) hno
            · have := h3.1; omega
            rcases h3 with h3 | ⟨hlate, h3 | ⟨hjm, hgg, ⟨d, hd⟩, hnc, hone⟩⟩
            · have hnc : noCall g.op = true := by cases hgo : g.op <;> simp [hgo, freeI] at h3 <;> simp [noCall]
              rw [opR_noCall hnc] at h2 ⊢
              exact stepO_free h3 h2
            · refine loc fun a ha q hq => ?_
              cases a with
              | k y =>
                have := hD.kst i g hip hg _ ha
                simp only [arK, List.isEmpty_iff] at this
                simp only [Ar.ev] at hq
                rw [this] at hq
                simp at hq
              | t z =>
                have hz : z ∈ g.op.rd := List.mem_flatMap.2 ⟨_, ha, by simp [Ar.sl]⟩
                simp only [Ar.ev] at hq
                rw [← hrdp hlate z (hsub z hz)] at hq
                have hun := cnt_steps hcnt (hch z (h3 z hz) q hq)
                rw [SL_agree (i := i) (fun j hj hne => absurd ((hun (j + 1) (by omega)).trans (hun j (by omega)).symm) hne), show min p i = i by omega]
            · -- looked up again
              rw [opR_noCall hnc] at h2 ⊢
              obtain ⟨x1, x2, s1, s2, e1, e2, e3, e4⟩ := hjs i g d hjm hip hg hd
              have hxi : envL e gl xs (· < p) d = xs i := envL_at (L := (· < p)) hD hip (by omega) (by rw [gdst_get hg, hd])
              have hcg : ∀ s, stepO g.op (envL e gl xs (· < p)) s = stepO g.op (envL e gl xs (· < i)) s := fun s => stepO_congr (rd_ars fun n hn => hrdp hlate n (hsub n hn))
              have hsti : stillI g.op = true := by
                have := hst
                cases hgo : g.op <;> simp [hgo, noCall] at hnc <;> simpa [hgo, stillG] using this
              rw [hcg] at e1 e2
              rw [e3, hxi] at e1
              rw [e4, hxi] at e2
              have only : ∀ q o, q < p → ss (q + 1) o ≠ ss q o → q = j := by
                intro q o hq hne
                obtain ⟨gq, hgq, hcq⟩ := wr q o hq hne
                by_cases hqj : q = j
                · exact hqj
                · exact absurd (hone q gq hq hgq hqj) hcq
              by_cases hLj : l.getD j true = true
              · have : SL ss (fun j => l.getD j true = true) p = ss p := by
                  funext o
                  rw [SL_agree (i := p) (fun q hq hne => by rw [only q o hq hne]; simp [hLj, hj]), Nat.min_self]
                rw [this, e2, still_same hsti e2]
              · have : SL ss (fun j => l.getD j true = true) p = ss 0 := by
                  funext o
                  rw [SL_agree (i := 0) (fun q hq hne => by rw [only q o hq hne]; simp [hLj]), Nat.min_zero]
                rw [this, e1, still_same hsti e1]
          · have : SL ss (fun j => l.getD j true = true) p = ss i := by
              funext o
              rw [SL_agree (i := i) (fun j hj hne => ?_), show min p i = i by omega]
              obtain ⟨gj, hgj, hcj⟩ := wr j o hj hne
              by_cases hji : j = i
              · subst hji; exact absurd (by rw [hs1]) hne
              · refine ordL j hj hji ?_
                exact Classical.byContradiction fun hno => hun ⟨j, gj, hj, hji, hgj, hcj, hno⟩
            rw [this]
            exact h2
        · have sepW : ∀ j gj, j < p → j ≠ i → gl[j]? = some gj → cls gj.op ≠ 0 → ((j < i ∧ d2 ops i j = true) ∨ (i < j ∧ d2 ops j i = true)) ∨ (cls gj.op = 1 ∧ cls g.op = 1 ∧ boxN g.op ≠ boxN gj.op) := by
            intro j gj hj hne hgj hcj
            rcases hD.sep i j g gj hip hj hne hg hgj c0 with h3 | h3 | ⟨h3, _⟩
            · exact .inl h3
            · exact .inr h3
            · exact absurd h3 hcj
          by_cases c1 : cls g.op = 1
          · obtain ⟨q, hq, hkeep, hbox⟩ := hx.box c1
            have atq : ∀ j, j < p → ss (j + 1) q ≠ ss j q → j ≠ i → (l.getD j true = true ↔ j < i) := by
              intro j hj hne hji
              obtain ⟨gj, hgj, hcj⟩ := wr j q hj hne
              rcases sepW j gj hj hji hgj hcj with h3 | ⟨h3, _, h4⟩
              · exact ordL j hj hji h3
              · obtain ⟨q', hq', hk', _⟩ := (hxs j gj hj hgj).box h3
                by_cases hqq : q = q'
                · subst hqq; exact absurd (hq.trans hq'.symm) h4
                · exact absurd (hk' q hqq) hne
            have e1 : SL ss (fun j => l.getD j true = true) p q = ss i q := by
              rw [SL_agree (i := i) (fun j hj hne => ?_), show min p i = i by omega]
              by_cases hji : j = i
              · subst hji; simp [h0]
              · exact atq j hj hne hji
            have e2 : SL ss (fun j => l.getD j true = true ∨ j = i) p q = ss (i + 1) q := by
              rw [SL_agree (i := i + 1) (fun j hj hne => ?_), show min p (i + 1) = i + 1 by omega]
              by_cases hji : j = i
              · subst hji; exact ⟨fun _ => by omega, fun _ => .inr rfl⟩
              · have := atq j hj hne hji
                simp only [hji, or_false]
                rw [this]; omega
            have e3 : (fun o => if o = q then ss (i + 1) q else SL ss (fun j => l.getD j true = true) p o) = SL ss (fun j => l.getD j true = true ∨ j = i) p := by
              funext o
              by_cases hoq : o = q
              · subst hoq; simp only [if_true]; exact e2.symm
              · simp only [hoq, if_false]
                refine SL_same fun j hj hne => ⟨.inl, fun h => h.elim id fun h => ?_⟩
                subst h; exact absurd (hkeep o hoq) hne
            rw [← e3]
            exact hbox _ e1
          · have atA : ∀ o j, j < p → ss (j + 1) o ≠ ss j o → j ≠ i → (l.getD j true = true ↔ j < i) := by
              intro o j hj hne hji
              obtain ⟨gj, hgj, hcj⟩ := wr j o hj hne
              rcases sepW j gj hj hji hgj hcj with h3 | ⟨_, h4, _⟩
              · exact ordL j hj hji h3
              · exact absurd h4 c1
            have e1 : SL ss (fun j => l.getD j true = true) p = ss i := by
              funext o
              rw [SL_agree (i := i) (fun j hj hne => ?_), show min p i = i by omega]
              by_cases hji : j = i
              · subst hji; simp [h0]
              · exact atA o j hj hne hji
            have e2 : SL ss (fun j => l.getD j true = true ∨ j = i) p = ss (i + 1) := by
              funext o
              rw [SL_agree (i := i + 1) (fun j hj hne => ?_), show min p (i + 1) = i + 1 by omega]
              by_cases hji : j = i
              · subst hji; exact ⟨fun _ => by omega, fun _ => .inr rfl⟩
              · have := atA o j hj hne hji
                simp only [hji, or_false]
                rw [this]; omega
            rw [e1, e2]
            exact hx
      refine op_any hF ho hokg h hT hdid ?_
      intro a' w' μ' fr' hI
      have hLL : ∀ j, j < gl.length → ((l.setIfInBounds i true).getD j true = true ↔ (l.getD j true = true ∨ j = i)) := by
        intro j hj
        rw [getD_set (by omega)]
        simp only [Bool.or_eq_true, decide_eq_true_eq]
        exact or_congr Iff.rfl eq_comm
      refine ih (μ := μ') (fr := fr') (by simpa using hl) (count_set_lt h0 hc) ?_ ?_ ?_
      · intro j' hj' hq
        rcases (hLL j' hj').1 hq with hq | rfl
        · exact hlt j' hj' hq
        · exact hip
      · intro i' j' h1 h2
        have hj' : j' < i' := d1_lt hD h2
        have hi's : i' < l.size := by
          by_cases hq : i' < l.size
          · exact hq
          · have : (l.setIfInBounds i true).size ≤ i' := by rw [Array.size_setIfInBounds]; omega
            simp [Array.getD_eq_getD_getElem?, Array.getElem?_eq_none this] at h1
        rw [← getD_tf (by rw [Array.size_setIfInBounds]; omega), getD_set (by omega)] at h1
        rw [← getD_tf (by rw [Array.size_setIfInBounds]; omega), getD_set (by omega)]
        simp only [Bool.or_eq_true, decide_eq_true_eq] at h1 ⊢
        left
        rw [getD_tf (by omega)]
        rcases h1 with h1 | rfl
        · rw [getD_tf (by omega)] at h1
          exact hdn i' j' h1 h2
        · exact d1_spec hi h2
      · rw [envL_ext (L' := fun j => l.getD j true = true ∨ j = i) hLL hD]
        rw [← envL_put hD (by omega) (by simp [h0])]
        rw [gdst_get hg]
        have : SL ss (fun j => (l.setIfInBounds i true).getD j true = true) p = SL ss (fun j => l.getD j true = true ∨ j = i) p := by
          funext q
          exact SL_same fun j hj _ => hLL j (by omega)
        rw [this]
        exact hI
end
end Go.Proofs.YtoodknhlnifnlaaGreatDoor

/- The engine, part W: code, and functions. -/
set_option linter.unusedVariables false
set_option linter.unusedSimpArgs false
namespace Go.Proofs.YtoodknhlnifnlaaGreatDoor
open Go.RowKit
variable {P : Program}

def okC (P : Program) (nt : Nat) : Code → IC → Bool
  | .skip, .skip => true
  | .label _, .skip => true
  | .ret, .ret => true
  | .exit i, .exit j => i == j
  | .seq a b, .seq a' b' => okC P nt a a' && okC P nt b b'
  | .cond c a b, .cond c' a' b' => okA c c' && okC P nt a a' && okC P nt b b'
  | .block i c, .block j c' => i == j && okC P nt c c'
  | .loop c, .loop c' => okC P nt c c'
  | .scope c, .scope c' => okC P nt c c'
  | .region _ ops false, .ops gl => okGL P nt ops ops.toList gl
  | .region _ ops true, .dops ch js l m => okGL P nt ops ops.toList (l ++ m) && drawOK ops (l ++ m) l.length ch js
  | _, _ => false

noncomputable def least (p : Nat → Prop) : Nat := by
  classical
  exact if h : ∃ n, p n then (exists_min h.choose_spec).choose else 0
theorem least_spec {p : Nat → Prop} {n : Nat} (h : p n) : p (least p) ∧ least p ≤ n := by
  have hx : ∃ n, p n := ⟨n, h⟩
  have := (exists_min hx.choose_spec).choose_spec
  unfold least
  rw [dif_pos hx]
  refine ⟨this.2.1, ?_⟩
  by_cases hq : n < (exists_min hx.choose_spec).choose
  · exact absurd h (this.2.2 n hq)
  · omega

theorem wp_loop_n {c : Code} {Q : Exit → Act → World → Prop} {a : Act} {w : World} (J : Nat → Act → World → Prop) {n : Nat} (h : J n a w)
    (round : ∀ n a w, J n a w → c.wp P (Exit.then (fun a' w' => ∃ m, m < n ∧ J m a' w') Q) a w) : (Code.loop c).wp P Q a w := by
  refine wp_loop (fun a w => ∃ n, J n a w) (fun a w => least fun n => J n a w) ⟨n, h⟩ ?_
  rintro a w ⟨n, hn⟩
  have hl := least_spec (p := fun n => J n a w) hn
  refine Code.wp_mono ?_ (round _ a w hl.1)
  intro e a' w' he
  cases e with
  | normal =>
    obtain ⟨m, hm, hj⟩ := he
    exact ⟨⟨m, hj⟩, Nat.lt_of_le_of_lt (least_spec (p := fun n => J n a' w') hj).2 hm⟩
  | _ => exact he

section
variable {T : Nat → Option Fe} {w0 : Bs} {sh : Nat → Prop} {nt : Nat} {x : Env × Sto}

theorem code_sound (hC : TC T) (hm : P.follows .mixedOrders = true) (hF : ∀ f, (T f).isSome = true → okFn P f = true) :
    ∀ (n : Nat), (∀ m, m < n → CallOK P T m ∧ InlOK P T m) → ∀ {c : Code} {ic : IC} {k : List It} {μ : Nat → Nat} {fr : Nat → Prop} {e : Env} {s : Sto} {a : Act} {w : World}, okC P nt c ic = true →
    Inv w0 sh nt μ fr e s a w → runN T n (.code ic :: k) e s = some x → c.wp P (Qk T w0 sh nt n k x) a w := by
  intro n
  induction n using Nat.strongRecOn with
  | _ n ih =>
    intro hT c ic k μ fr e s a w hok h hr
    cases n with
    | zero => simp [runN] at hr
    | succ n =>
      have ih' : ∀ {m}, m ≤ n → ∀ {c : Code} {ic : IC} {k : List It} {μ : Nat → Nat} {fr : Nat → Prop} {e : Env} {s : Sto} {a : Act} {w : World}, okC P nt c ic = true →
          Inv w0 sh nt μ fr e s a w → runN T m (.code ic :: k) e s = some x → c.wp P (Qk T w0 sh nt m k x) a w :=
        fun hmn => ih _ (by omega) (fun q hq => hT q (by omega))
      unfold okC at hok
      split at hok
      · simp only [runN] at hr; exact wp_skip ⟨n, by omega, μ, fr, e, s, h, hr⟩
      · simp only [runN] at hr; exact wp_label ⟨n, by omega, μ, fr, e, s, h, hr⟩
      · simp only [runN, Option.some.injEq] at hr; subst hr; exact wp_ret ⟨μ, fr, h⟩
      · simp only [beq_iff_eq] at hok
        subst hok
        simp only [runN] at hr
        split at hr
        case h_2 => simp at hr
        rename_i k' hk
        exact wp_exit ⟨k', n, hk, by omega, μ, fr, e, s, h, hr⟩
      · rename_i a1 b1 a2 b2
        simp only [Bool.and_eq_true] at hok
        simp only [runN] at hr
        refine wp_seq (Code.wp_mono ?_ (ih' (Nat.le_refl n) hok.1 h hr))
        intro ex a' w' hq
        cases ex with
        | normal =>
          obtain ⟨m, hmn, μ', fr', e', s', h', hr'⟩ := hq
          exact Code.wp_mono (fun ex a' w' hq => hq.mono (by omega)) (ih' (by omega) hok.2 h' hr')
        | exit id =>
          obtain ⟨k', m, hk, hmn, hrest⟩ := hq
          exact ⟨k', m, by simpa [popTo] using hk, by omega, hrest⟩
        | ret => exact hq
        | _ => exact hq
      · simp only [Bool.and_eq_true] at hok
        obtain ⟨⟨hc, h1⟩, h2⟩ := hok
        simp only [runN] at hr
        split at hr
        case h_2 => simp at hr
        rename_i t hv
        have hrep := okA_rep h.env hc
        rw [hv] at hrep
        have hev := (rep_v hrep).1
        cases t with
        | true => exact wp_cond hev (Code.wp_mono (fun ex a' w' hq => hq.mono (by omega)) (ih' (Nat.le_refl n) h1 h hr))
        | false => exact wp_cond hev (Code.wp_mono (fun ex a' w' hq => hq.mono (by omega)) (ih' (Nat.le_refl n) h2 h hr))
      · rename_i i c1 j c2
        simp only [Bool.and_eq_true, beq_iff_eq] at hok
        obtain ⟨rfl, hok⟩ := hok
        simp only [runN] at hr
        refine wp_block (Code.wp_mono ?_ (ih' (Nat.le_refl n) hok h hr))
        intro ex a' w' hq
        cases ex with
        | normal =>
          obtain ⟨m, hmn, μ', fr', e', s', h', hr'⟩ := hq
          cases m with
          | zero => simp [runN] at hr'
          | succ m => exact ⟨m, by omega, μ', fr', e', s', h', by simpa only [runN] using hr'⟩
        | exit id =>
          obtain ⟨k', m, hk, hmn, hrest⟩ := hq
          simp only [Exit.inBlock]
          by_cases hid : id = i
          · subst hid
            simp only [popTo, beq_self_eq_true, if_true, Option.some.injEq] at hk
            subst hk
            rw [if_pos rfl]
            exact ⟨m, by omega, hrest⟩
          · rw [if_neg hid]
            refine ⟨k', m, ?_, by omega, hrest⟩
            have : (id == i) = false := by simpa using hid
            have h2 : (i == id) = false := by simpa using fun h => hid h.symm
            simpa [popTo, this, h2] using hk
        | ret => exact hq
        | _ => exact hq
      · rename_i c1 c2
        simp only [runN] at hr
        refine wp_loop_n (fun m a w => m ≤ n ∧ ∃ μ fr e s, Inv w0 sh nt μ fr e s a w ∧ runN T m (.code c2 :: .lp c2 :: k) e s = some x) ⟨Nat.le_refl n, μ, fr, e, s, h, hr⟩ ?_
        rintro m a w ⟨hmn, μ, fr, e, s, h, hr⟩
        refine Code.wp_mono ?_ (ih' hmn hok h hr)
        intro ex a' w' hq
        cases ex with
        | normal =>
          obtain ⟨m', hm', μ', fr', e', s', h', hr'⟩ := hq
          cases m' with
          | zero => simp [runN] at hr'
          | succ m' => exact ⟨m', by omega, by omega, μ', fr', e', s', h', by simpa only [runN] using hr'⟩
        | exit id =>
          obtain ⟨k', m', hk, hmn', hrest⟩ := hq
          exact ⟨k', m', by simpa [popTo] using hk, by omega, hrest⟩
        | ret => exact hq
        | _ => exact hq
      · simp only [runN] at hr
        refine wp_scope_straight (Code.wp_mono ?_ (ih' (Nat.le_refl n) hok h hr))
        intro ex a' w' hq
        cases ex with
        | goto => exact hq
        | _ => exact Qk.mono (Nat.le_succ n) hq
      · simp only [runN] at hr
        exact wp_region_list (ops_list hF hok (by omega) hT h hr)
      · rename_i ops ch js l m
        simp only [Bool.and_eq_true] at hok
        have hD := drawOK_spec hok.2
        simp only [runN] at hr
        obtain ⟨xs, ss, hs0, hxs, c, hcn, hr'⟩ := text_order (N := n + 1) hD (Nat.le_succ n) hr l.length (Nat.le_refl _)
        rw [List.drop_length] at hr'
        cases c with
        | zero => simp [runN] at hr'
        | succ c =>
        simp only [runN] at hr'
        cases c with
        | zero => simp [runN] at hr'
        | succ c =>
        simp only [runN] at hr'
        split at hr'
        case isFalse => simp at hr'
        rename_i hchk
        simp only [chkB, Bool.and_eq_true, List.all_eq_true, beq_iff_eq] at hchk
        obtain ⟨hch, hjs⟩ := hchk
        have hnone : ∀ j, ¬ (Array.replicate ops.size false).getD j true = true ∨ ops.size ≤ j := by
          intro j
          by_cases hj : j < ops.size
          · left; simp [Array.getD_eq_getD_getElem?, hj]
          · right; omega
        refine wp_region_any hm (draw_any hC hF hT hD hok.1 hxs (fun t ht o ho => by rw [hs0]; exact hch t ht o ho) ?_ (n := c) (by omega) (by rw [List.drop_left]; exact hr') (by simp) ?_ ?_ ?_ (?_ : Inv w0 sh nt μ fr _ _ a _))
        · intro j g d hj hjp hg hd
          rw [List.getElem?_append_left hjp] at hg
          have := hjs g (List.mem_filterMap.2 ⟨j, hj, hg⟩)
          rw [hd, hs0.symm] at this
          split at this
          · rename_i d' x1 s1 y1 s2 e0 e1 e2
            injection e0 with e0
            subst e0
            simp only [Bool.and_eq_true] at this
            exact ⟨x1, y1, s1, s2, e1, e2, sameV_eq this.1, sameV_eq this.2⟩
          · simp at this
        · rw [Array.count_replicate_self]; exact Nat.le_refl _
        · intro j hj hq
          rcases hnone j with h1 | h1
          · exact absurd hq h1
          · have := hD.size; omega
        · intro i j h1
          exfalso
          by_cases hi : i < ops.size <;> simp [Array.getD_eq_getD_getElem?, hi] at h1
        · rw [envL_ext (L' := fun _ => False) (fun j hj => ⟨fun hq => by
            rcases hnone j with h1 | h1
            · exact h1 hq
            · have := hD.size; omega, fun h => h.elim⟩) hD, envL_none (fun _ h => h)]
          have : SL ss (fun j => (Array.replicate ops.size false).getD j true = true) l.length = s := by
            funext o
            rw [SL_agree (i := 0) (fun j hj _ => ⟨fun hq => by
              rcases hnone j with h1 | h1
              · exact absurd hq h1
              · have := hD.size; simp at this; omega, fun h => absurd h (Nat.not_lt_zero j)⟩), Nat.min_zero, hs0]
          rw [this]
          exact h.drew
      · simp at hok
end

/-! ### functions -/
def okRes (P : Program) : List ResultVar → List Res → Bool
  | [], [] => true
  | .tmp t :: l, .tmp t' :: m => t == t' && okRes P l m
  | .tmp t :: l, .nst t' :: m => t == t' && okRes P l m
  | .cell a t :: l, .cell a' w ag :: m => a == a' && szB P t w && aggB P t ag && okRes P l m
  | _, _ => false
def okBody (P : Program) (f nt : Nat) (res : List Res) (body : IC) : Bool := match P.funcs[f]? with
  | some fn => (match fn.body with
    | some c => okC P nt c body
    | none => false) && fn.ntmps == nt && okRes P fn.results.toList res
  | none => false

theorem Sem.run_pure {α : Type} {P : Program} {w : World} (x : α) : (pure x : Sem α).run P w = .ok x w := rfl

def resV (tmps : Array Value) : ResultVar → Sem Value
  | .tmp t => pure (tmps.getD t undef)
  | .cell a t => do loadVar t (← asAddr (tmps.getD a undef))
def tupV : List Value → Value
  | [v] => v
  | vs => .tuple vs.toArray
theorem results_eq (fn : Func) (tmps : Array Value) : results fn tmps = (do
    let vs ← fn.results.toList.mapM (resV tmps)
    pure (tupV vs)) := by
  unfold results
  rw [Array.mapM_eq_mapM_toList]
  simp only [map_eq_pure_bind, bind_assoc, pure_bind]
  congr 1
  congr 1
  funext vs
  rcases vs with _ | ⟨v, _ | ⟨u, vs⟩⟩
  · rfl
  · rfl
  · rfl


section
variable {w0 : Bs} {sh : Nat → Prop} {nt : Nat} {μ : Nat → Nat} {fr : Nat → Prop} {e : Env} {s : Sto} {a : Act} {w : World}
theorem resL_run (h : Inv w0 sh nt μ fr e s a w) (N : List Nat) :
    ∀ {l : List ResultVar} {m : List Res} {xs : List X}, okRes P l m = true → resL e s m = some xs → (∀ o ∈ resN e s m, o ∈ N) →
    ∃ vs, (l.mapM (resV a.tmps)).run P w = .ok vs w ∧ xs.length = vs.length ∧ ∀ (j : Nat) y v, xs[j]? = some y → vs[j]? = some v → Rep (cxf μ s w sh fr N) y v ∧ y.deep = true := by
  intro l
  induction l with
  | nil =>
    intro m xs hok hr _
    cases m with
    | cons => simp [okRes] at hok
    | nil =>
      simp only [resL, Option.some.injEq] at hr
      subst hr
      exact ⟨[], rfl, rfl, by simp⟩
  | cons r l ih =>
    intro m xs hok hr hN
    cases m with
    | nil => cases r <;> simp [okRes] at hok
    | cons q m =>
      simp only [resL] at hr
      split at hr
      case h_2 => simp at hr
      rename_i y ys hy hys
      injection hr with hr
      subst hr
      have one : ∃ v, (resV a.tmps r).run P w = .ok v w ∧ Rep (cxf μ s w sh fr N) y v ∧ y.deep = true := by
        cases r with
        | tmp t =>
          cases q with
          | cell => simp [okRes] at hok
          | tmp t' =>
            simp only [okRes, Bool.and_eq_true, beq_iff_eq] at hok
            obtain ⟨rfl, _⟩ := hok
            exact ⟨_, rfl, h.dpC (h.env t) (by simpa [resX] using hy) (fun o ho => hN o (by simp [resN, ho]))⟩
          | nst t' =>
            simp only [okRes, Bool.and_eq_true, beq_iff_eq] at hok
            obtain ⟨rfl, _⟩ := hok
            exact ⟨_, rfl, h.dpm (h.env t) (by simpa [resX] using hy) (fun o ho => hN o (by simp [resN, ho]))⟩
        | cell t ty =>
          cases q with
          | tmp => simp [okRes] at hok
          | nst => simp [okRes] at hok
          | cell t' k ag =>
            simp only [okRes, Bool.and_eq_true, beq_iff_eq] at hok
            obtain ⟨⟨⟨rfl, h1⟩, h2⟩, _⟩ := hok
            simp only [resX] at hy
            split at hy
            case h_2 => simp at hy
            rename_i z hz
            obtain ⟨ad, u, hv, hu, hu'⟩ := ldX_run (P := P) h (h.env t) hz h1 h2
            refine ⟨u, ?_, h.dpC hu' hy (fun o ho => hN o (by simp [resN, hz, ho]))⟩
            simp [resV, hv, asAddr, hu]
      obtain ⟨v, hv, hrep⟩ := one
      obtain ⟨vs, h1, h2, h3⟩ := ih (m := m) (by cases r <;> cases q <;> simp [okRes] at hok <;> first | exact hok.2 | (simp [okRes, hok])) hys (fun o ho => hN o (by cases q <;> simp [resN, ho]))
      refine ⟨v :: vs, ?_, by simp [h2], ?_⟩
      · simp [hv, h1]
      · intro j y' v' hj hv'
        cases j with
        | zero => simp at hj hv'; subst hj; subst hv'; exact hrep
        | succ j => exact h3 j y' v' (by simpa using hj) (by simpa using hv')

theorem resT_run (h : Inv w0 sh nt μ fr e s a w) {fn : Func} {m : List Res} {r : X} (hok : okRes P fn.results.toList m = true) (hr : resT e s m = some r) :
    ∃ v, (results fn a.tmps).run P w = .ok v w ∧ Rep (cxf μ s w sh fr (resN e s m)) r v ∧ r.deep = true := by
  have hl : ∃ xs, resL e s m = some xs ∧ (match xs with
      | [x] => x
      | xs => X.tup xs) = r ∧ xs.length = m.length := by
    unfold resT at hr
    split at hr
    · exact ⟨[r], by simp [resL, hr], rfl, rfl⟩
    · rename_i hne
      split at hr
      case h_2 => simp at hr
      rename_i xs hxs
      injection hr with hr
      have hlen : xs.length = m.length := by
        clear hok hne hr h
        induction m generalizing xs with
        | nil => simp only [resL, Option.some.injEq] at hxs; subst hxs; rfl
        | cons q m ih =>
          simp only [resL] at hxs
          split at hxs
          case h_2 => simp at hxs
          rename_i hm
          injection hxs with hxs
          subst hxs
          simp [ih _ hm]
      refine ⟨xs, hxs, ?_, hlen⟩
      rcases xs with _ | ⟨x, _ | ⟨y, xs⟩⟩
      · exact hr
      · rcases m with _ | ⟨q, _ | ⟨q', m⟩⟩
        · simp at hlen
        · exact absurd rfl (hne q)
        · simp at hlen
      · exact hr
  obtain ⟨xs, hxs, hx, _⟩ := hl
  obtain ⟨vs, h1, h2, h3⟩ := resL_run h (resN e s m) hok hxs (fun _ h => h)
  refine ⟨tupV vs, ?_, ?_⟩
  · rw [results_eq]
    simp only [Sem.run_bind, h1]
    rfl
  · rcases xs with _ | ⟨x, _ | ⟨y, xs⟩⟩
    · rcases vs with _ | ⟨v, vs⟩
      · simp only at hx; subst hx
        exact ⟨.tup rfl (by simp), rfl⟩
      · simp at h2
    · rcases vs with _ | ⟨v, _ | ⟨u, vs⟩⟩
      · simp at h2
      · simp only at hx; subst hx
        exact h3 0 x v rfl rfl
      · simp at h2
    · rcases vs with _ | ⟨v, _ | ⟨u, vs⟩⟩
      · simp at h2
      · simp at h2
      · simp only at hx; subst hx
        refine ⟨.tup (by simpa using h2) ?_, ?_⟩
        · intro j c v' hj hv'
          exact (h3 j c v' hj (by simpa using hv')).1
        · simp only [X.deep]
          refine deepL_mem.2 fun c hc => ?_
          obtain ⟨j, hj⟩ := List.getElem?_of_mem hc
          have hjl : j < (v :: u :: vs).length := by have := (List.getElem?_eq_some_iff.1 hj).1; omega
          exact (h3 j c _ hj (List.getElem?_eq_getElem hjl)).2
end

section
variable {w0 : Bs} {sh : Nat → Prop} {nt : Nat} {μ : Nat → Nat} {fr : Nat → Prop} {e : Env} {s : Sto} {a : Act} {w : World}
theorem resIL_run (h : Inv w0 sh nt μ fr e s a w) :
    ∀ {l : List ResultVar} {m : List Res} {xs : List X}, okRes P l m = true → resIL e s m = some xs →
    ∃ vs, (l.mapM (resV a.tmps)).run P w = .ok vs w ∧ xs.length = vs.length ∧ ∀ (j : Nat) y v, xs[j]? = some y → vs[j]? = some v → Rep (cxo μ s w sh fr) y v := by
  intro l
  induction l with
  | nil =>
    intro m xs hok hr
    cases m with
    | cons => simp [okRes] at hok
    | nil =>
      simp only [resIL, Option.some.injEq] at hr
      subst hr
      exact ⟨[], rfl, rfl, by simp⟩
  | cons r l ih =>
    intro m xs hok hr
    cases m with
    | nil => cases r <;> simp [okRes] at hok
    | cons q m =>
      simp only [resIL] at hr
      split at hr
      case h_2 => simp at hr
      rename_i y ys hy hys
      injection hr with hr
      subst hr
      have one : ∃ v, (resV a.tmps r).run P w = .ok v w ∧ Rep (cxo μ s w sh fr) y v := by
        cases r with
        | tmp t =>
          cases q with
          | cell => simp [okRes] at hok
          | tmp t' =>
            simp only [okRes, Bool.and_eq_true, beq_iff_eq] at hok
            obtain ⟨rfl, _⟩ := hok
            simp only [resIX, Option.some.injEq] at hy
            subst hy
            exact ⟨_, rfl, h.env t⟩
          | nst t' =>
            simp only [okRes, Bool.and_eq_true, beq_iff_eq] at hok
            obtain ⟨rfl, _⟩ := hok
            simp only [resIX, Option.some.injEq] at hy
            subst hy
            exact ⟨_, rfl, h.env t⟩
        | cell t ty =>
          cases q with
          | tmp => simp [okRes] at hok
          | nst => simp [okRes] at hok
          | cell t' k ag =>
            simp only [okRes, Bool.and_eq_true, beq_iff_eq] at hok
            obtain ⟨⟨⟨rfl, h1⟩, h2⟩, _⟩ := hok
            simp only [resIX] at hy
            obtain ⟨ad, u, hv, hu, hu'⟩ := ldX_run (P := P) h (h.env t) hy h1 h2
            exact ⟨u, by simp [resV, hv, asAddr, hu], hu'⟩
      obtain ⟨v, hv, hrep⟩ := one
      obtain ⟨vs, h1, h2, h3⟩ := ih (m := m) (by cases r <;> cases q <;> simp [okRes] at hok <;> first | exact hok.2 | (simp [okRes, hok])) hys
      refine ⟨v :: vs, ?_, by simp [h2], ?_⟩
      · simp [hv, h1]
      · intro j y' v' hj hv'
        cases j with
        | zero => simp at hj hv'; subst hj; subst hv'; exact hrep
        | succ j => exact h3 j y' v' (by simpa using hj) (by simpa using hv')

theorem resI_run (h : Inv w0 sh nt μ fr e s a w) {fn : Func} {m : List Res} {r : X} (hok : okRes P fn.results.toList m = true) (hr : resI e s m = some r) :
    ∃ v, (results fn a.tmps).run P w = .ok v w ∧ Rep (cxo μ s w sh fr) r v := by
  have hl : ∃ xs, resIL e s m = some xs ∧ (match xs with
      | [x] => x
      | xs => X.tup xs) = r ∧ xs.length = m.length := by
    unfold resI at hr
    split at hr
    · exact ⟨[r], by simp [resIL, hr], rfl, rfl⟩
    · rename_i hne
      split at hr
      case h_2 => simp at hr
      rename_i xs hxs
      injection hr with hr
      have hlen : xs.length = m.length := by
        clear hok hne hr h
        induction m generalizing xs with
        | nil => simp only [resIL, Option.some.injEq] at hxs; subst hxs; rfl
        | cons q m ih =>
          simp only [resIL] at hxs
          split at hxs
          case h_2 => simp at hxs
          rename_i hm
          injection hxs with hxs
          subst hxs
          simp [ih _ hm]
      refine ⟨xs, hxs, ?_, hlen⟩
      rcases xs with _ | ⟨x, _ | ⟨y, xs⟩⟩
      · exact hr
      · rcases m with _ | ⟨q, _ | ⟨q', m⟩⟩
        · simp at hlen
        · exact absurd rfl (hne q)
        · simp at hlen
      · exact hr
  obtain ⟨xs, hxs, hx, _⟩ := hl
  obtain ⟨vs, h1, h2, h3⟩ := resIL_run h hok hxs
  refine ⟨tupV vs, ?_, ?_⟩
  · rw [results_eq]
    simp only [Sem.run_bind, h1]
    rfl
  · rcases xs with _ | ⟨x, _ | ⟨y, xs⟩⟩
    · rcases vs with _ | ⟨v, vs⟩
      · simp only at hx; subst hx
        exact .tup rfl (by simp)
      · simp at h2
    · rcases vs with _ | ⟨v, _ | ⟨u, vs⟩⟩
      · simp at h2
      · simp only at hx; subst hx
        exact h3 0 x v rfl rfl
      · simp at h2
    · rcases vs with _ | ⟨v, _ | ⟨u, vs⟩⟩
      · simp at h2
      · simp at h2
      · simp only at hx; subst hx
        refine .tup (by simpa using h2) ?_
        intro j c v' hj hv'
        exact h3 j c v' hj (by simpa using hv')
end

theorem env_ini {C : Cx} {xs : List X} {vs : Array Value} {k : Nat} (hl : xs.length = vs.size) (hv : ∀ (j : Nat) x v, xs[j]? = some x → vs[j]? = some v → Rep C x v) :
    EnvR C (ini xs) { tmps := vs ++ Array.replicate k undef, defers := [] } := by
  intro j
  by_cases hj : j < xs.length
  · have hjv : j < vs.size := by omega
    have := hv j xs[j] vs[j] (List.getElem?_eq_getElem hj) (Array.getElem?_eq_getElem hjv)
    simp only [ini, List.getD_eq_getElem?_getD, List.getElem?_eq_getElem hj, Option.getD_some]
    simp only [Array.getD_eq_getD_getElem?, Array.getElem?_append_left hjv, Array.getElem?_eq_getElem hjv, Option.getD_some]
    exact this
  · simp only [ini, List.getD_eq_getElem?_getD, List.getElem?_eq_none (Nat.le_of_not_lt hj), Option.getD_none]
    exact .junk

/-- The engine is sound: a table of functions that passes the test. -/
theorem sound {T : Nat → Option Fe} (hm : P.follows .mixedOrders = true) (hF : ∀ f, (T f).isSome = true → okFn P f = true)
    (hB : ∀ f nt res body, T f = some (.code nt res body) ∨ T f = some (.codez nt res body) → okBody P f nt res body = true)
    (hX : ∀ f F xs r, T f = some (.ext F) → F xs = some r → PureAt P f xs r) (hC : TC T) (hXI : ∀ f F xs s r s', T f = some (.extI F) → F xs s = some (r, s') → InlAt P f xs s r s') : ∀ n, CallOK P T n ∧ InlOK P T n := by
  intro n
  induction n using Nat.strongRecOn with
  | _ n ih =>
    have bodyOf : ∀ {f nt res body}, T f = some (.code nt res body) ∨ T f = some (.codez nt res body) → ∃ fn c, P.funcs[f]? = some fn ∧ fn.body = some c ∧ okC P nt c body = true ∧ fn.ntmps = nt ∧ okRes P fn.results.toList res = true := by
      intro f nt res body hT
      have hb := hB f nt res body hT
      unfold okBody at hb
      split at hb
      case h_2 => simp at hb
      rename_i fn hfn
      simp only [Bool.and_eq_true, beq_iff_eq] at hb
      obtain ⟨⟨hb, hnt⟩, hres⟩ := hb
      split at hb
      case h_2 => simp at hb
      rename_i c hbody
      exact ⟨fn, c, hfn, hbody, hb, hnt, hres⟩
    refine ⟨?_, ?_, ?_⟩
    · intro f xs r hc
      unfold callA at hc
      split at hc
      · simp at hc
      · rename_i F hT; exact hX f F xs r hT hc
      · simp at hc
      · simp at hc
      · rename_i nt res body hT
        split at hc
        case isFalse => simp at hc
        rename_i hlen
        split at hc
        case h_2 => simp at hc
        rename_i e s hr
        intro w sh vs hgok hsh hl hv
        obtain ⟨fn, c, hfn, hbody, hb, hnt, hres⟩ := bodyOf (.inl hT)
        refine calls_of_wp hfn hbody (Code.wp_mono ?_ (code_sound hC (x := (e, s)) (w0 := ⟨w, cxo (fun _ => 0) s0 w sh (fun _ => False), hgok⟩) (sh := sh) (nt := nt) (μ := fun _ => 0) (fr := fun _ => False) hm hF n ih hb ?_ hr))
        · have fin : ∀ a' w' μ fr, Inv ⟨w, cxo (fun _ => 0) s0 w sh (fun _ => False), hgok⟩ sh nt μ fr e s a' w' → a'.defers = [] ∧ ∃ v, (results fn a'.tmps).run P w' = .ok v w' ∧
              (fun (e : Ending) w' => ∃ v fr', e = .returned v ∧ Below w.heap.size w w' ∧ (∀ b, fr' b → w.heap.size ≤ b ∧ b < w'.heap.size) ∧ Rep (cx0 w' sh fr') r v ∧ r.deep = true) (.returned v) w' := by
            intro a' w' μ fr h
            obtain ⟨v, h1, h2, h3⟩ := resT_run h hres hc
            have hI := (h.frz (resN e s res)).1
            exact ⟨h.defers, v, h1, v, _, rfl, h.below, hI.fr_lt, h2.deep_mono h3 (fun _ _ _ _ h => h) (fun _ _ _ h => h) (fun _ h => .inl h) (fun _ h => h), h3⟩
          intro ex a' w' hq
          cases ex with
          | normal =>
            obtain ⟨m, hmn, μ, fr, e', s', h, hr'⟩ := hq
            cases m with
            | zero => simp [runN] at hr'
            | succ m =>
              simp only [runN, Option.some.injEq, Prod.mk.injEq] at hr'
              obtain ⟨rfl, rfl⟩ := hr'
              exact fin _ _ _ _ h
          | ret => obtain ⟨μ, fr, h⟩ := hq; exact fin _ _ _ _ h
          | exit id => obtain ⟨k', m, hk, _⟩ := hq; simp [popTo] at hk
          | _ => exact hq.elim
        · refine ⟨Below.refl _ _, hsh, by simp, ?_, ?_, ?_, rfl, ?_, Cx.Le.refl _⟩
          · intro o ob ho; simp [s0] at ho
          · intro o o' ho; simp [s0] at ho
          · exact env_ini hl hv
          · simp; omega
    · intro f xs s r s' hc w0 sh nt μ fr e a w h vs hl hv
      unfold callI at hc
      split at hc
      case h_4 => simp at hc
      case h_3 => rename_i F hF; exact hXI f F xs s r s' hF hc h vs hl hv
      case h_1 =>
        rename_i nt' res body hT
        split at hc
        case isFalse => simp at hc
        rename_i hlen
        split at hc
        case h_2 => simp at hc
        rename_i e' s2 hr
        split at hc
        case h_2 => simp at hc
        rename_i r' hres'
        simp only [Option.some.injEq, Prod.mk.injEq] at hc
        obtain ⟨rfl, rfl⟩ := hc
        obtain ⟨fn, c, hfn, hbody, hb, hnt, hres⟩ := bodyOf (.inl hT)
        refine calls_of_wp hfn hbody (Code.wp_mono ?_ (code_sound hC (x := (e', s2)) (w0 := ⟨w0.toWorld, cxo μ s w sh fr, w0.gok⟩) (sh := sh) (nt := nt') (μ := μ) (fr := fr) hm hF n ih hb ?_ hr))
        · have fin : ∀ a' w' μ' fr', Inv ⟨w0.toWorld, cxo μ s w sh fr, w0.gok⟩ sh nt' μ' fr' e' s2 a' w' → a'.defers = [] ∧ ∃ v, (results fn a'.tmps).run P w' = .ok v w' ∧
              (fun (e1 : Ending) w' => ∃ v μ' fr', e1 = .returned v ∧ Inv w0 sh nt μ' fr' e s2 a w' ∧ Rep (cxo μ' s2 w' sh fr') r' v) (.returned v) w' := by
            intro a' w' μ' fr' hI
            obtain ⟨v, h1, h2⟩ := resI_run hI hres hres'
            exact ⟨hI.defers, v, h1, v, μ', fr', rfl, ⟨hI.below, hI.sh_lt, hI.fr_lt, hI.obj, hI.inj, fun n => (h.env n).mono hI.base, h.defers, h.size, h.base.trans hI.base⟩, h2⟩
          intro ex a' w' hq
          cases ex with
          | normal =>
            obtain ⟨m, hmn, μ, fr, e2, s2, h, hr'⟩ := hq
            cases m with
            | zero => simp [runN] at hr'
            | succ m =>
              simp only [runN, Option.some.injEq, Prod.mk.injEq] at hr'
              obtain ⟨rfl, rfl⟩ := hr'
              exact fin _ _ _ _ h
          | ret => obtain ⟨μ, fr, h⟩ := hq; exact fin _ _ _ _ h
          | exit id => obtain ⟨k', m, hk, _⟩ := hq; simp [popTo] at hk
          | _ => exact hq.elim
        · exact ⟨h.below, h.sh_lt, h.fr_lt, h.obj, h.inj, env_ini hl hv, rfl, by simp; omega, Cx.Le.refl _⟩
      case h_2 =>
        rename_i nt' res body hT
        split at hc
        case isFalse => simp at hc
        rename_i hlen
        split at hc
        case h_2 => simp at hc
        rename_i e' s2 hr
        split at hc
        case h_2 => simp at hc
        rename_i r' hres'
        simp only [Option.some.injEq, Prod.mk.injEq] at hc
        obtain ⟨rfl, rfl⟩ := hc
        obtain ⟨fn, c, hfn, hbody, hb, hnt, hres⟩ := bodyOf (.inr hT)
        refine calls_of_wp hfn hbody (Code.wp_mono ?_ (code_sound hC (x := (e', s2)) (w0 := ⟨w0.toWorld, cxo μ s w sh fr, w0.gok⟩) (sh := sh) (nt := nt') (μ := μ) (fr := fr) hm hF n ih hb ?_ hr))
        · have fin : ∀ a' w' μ' fr', Inv ⟨w0.toWorld, cxo μ s w sh fr, w0.gok⟩ sh nt' μ' fr' e' s2 a' w' → a'.defers = [] ∧ ∃ v, (results fn a'.tmps).run P w' = .ok v w' ∧
              (fun (e1 : Ending) w' => ∃ v μ' fr', e1 = .returned v ∧ Inv w0 sh nt μ' fr' e (frz s2 (resN e' s2 res)) a w' ∧ Rep (cxo μ' (frz s2 (resN e' s2 res)) w' sh fr') r' v) (.returned v) w' := by
            intro a' w' μ' fr' hI
            obtain ⟨v, h1, h2, _⟩ := resT_run hI hres hres'
            have hZ := (hI.frz (resN e' s2 res)).1
            exact ⟨hI.defers, v, h1, v, μ', _, rfl, ⟨hZ.below, hZ.sh_lt, hZ.fr_lt, hZ.obj, hZ.inj, fun n => (h.env n).mono hZ.base, h.defers, h.size, h.base.trans hZ.base⟩, h2⟩
          intro ex a' w' hq
          cases ex with
          | normal =>
            obtain ⟨m, hmn, μ, fr, e2, s2, h, hr'⟩ := hq
            cases m with
            | zero => simp [runN] at hr'
            | succ m =>
              simp only [runN, Option.some.injEq, Prod.mk.injEq] at hr'
              obtain ⟨rfl, rfl⟩ := hr'
              exact fin _ _ _ _ h
          | ret => obtain ⟨μ, fr, h⟩ := hq; exact fin _ _ _ _ h
          | exit id => obtain ⟨k', m, hk, _⟩ := hq; simp [popTo] at hk
          | _ => exact hq.elim
        · exact ⟨h.below, h.sh_lt, h.fr_lt, h.obj, h.inj, env_ini hl hv, rfl, by simp; omega, Cx.Le.refl _⟩
    · intro p f xs r ok hc
      unfold ownA at hc
      split at hc
      case h_2 => simp at hc
      rename_i nt res body hT
      split at hc
      case isFalse => simp at hc
      rename_i hlen
      split at hc
      case h_2 => simp at hc
      rename_i e s hr
      split at hc
      case h_2 => simp at hc
      rename_i r0 hr0
      intro w sh vs hgok hsh hl hv
      obtain ⟨fn, c, hfn, hbody, hb, hnt, hres⟩ := bodyOf (.inl hT)
      refine calls_of_wp hfn hbody (Code.wp_mono ?_ (code_sound hC (x := (e, s)) (w0 := ⟨w, cxo (fun _ => 0) s0 w sh (fun _ => False), hgok⟩) (sh := sh) (nt := nt) (μ := fun _ => 0) (fr := fun _ => False) hm hF n ih hb ?_ hr))
      · have fin : ∀ a' w' μ fr, Inv ⟨w, cxo (fun _ => 0) s0 w sh (fun _ => False), hgok⟩ sh nt μ fr e s a' w' → a'.defers = [] ∧ ∃ v, (results fn a'.tmps).run P w' = .ok v w' ∧
            (fun (e : Ending) w' => ∃ v fr', e = .returned v ∧ Below w.heap.size w w' ∧ (∀ b, fr' b → w.heap.size ≤ b ∧ b < w'.heap.size) ∧
              OwnQ p r ok w w' sh fr' v) (.returned v) w' := by
          intro a' w' μ fr h
          obtain ⟨v, h1, h2⟩ := resI_run h hres hr0
          have hI := (h.frz (ownN p r0)).1
          refine ⟨h.defers, v, h1, v, _, rfl, h.below, hI.fr_lt, ?_⟩
          cases hx : ownX s p r0 with
          | none => rw [hx] at hc; simp [ownR] at hc
          | some ry =>
            obtain ⟨r1, y⟩ := ry
            rw [hx] at hc
            obtain ⟨u, hu, hpl⟩ := h.ownX (l := ownN p r0) hx (fun _ h => h) h2
            cases y <;> simp only [ownR] at hc <;> first | (simp at hc; done) | skip
            · simp only [Option.some.injEq, Prod.mk.injEq] at hc
              obtain ⟨rfl, rfl⟩ := hc
              cases hu with
              | nil => exact fun D hD => hpl D .nil hD rfl .nil
            · rename_i o g k i m
              split at hc
              case h_2 => simp at hc
              rename_i k' es ho
              split at hc
              case isFalse => simp at hc
              rename_i hcond
              obtain ⟨hg, hwr, rfl, rfl, rfl, hde, hno⟩ := hcond
              simp only [Option.some.injEq, Prod.mk.injEq] at hc
              obtain ⟨rfl, rfl⟩ := hc
              obtain ⟨hob, hbge, hnf, _⟩ := h.obj o _ ho
              refine ⟨μ o, hbge, ?_, ?_, ?_⟩
              · rintro (hf | ⟨o', ho', hs', hm'⟩)
                · exact hnf hwr hf
                · exact hno ((h.inj o o' (by simp [ho]) hs' hm') ▸ ho')
              · intro D hD
                obtain ⟨cs, t, q1, q2, q3, q4, q5, q6⟩ := hob
                refine ⟨cs, t, by rw [hD.1]; exact q1, q2, q3, q4, q5, fun i e j c v hi hc hv => ?_⟩
                have hd : c.deep = true := deep_cells' (deepL_mem.1 hde e (List.mem_of_getElem? hi)) c (List.mem_of_getElem? hc)
                exact (q6 i e j c v hi hc hv).deep_mono hd (fun _ _ _ _ hc => by rw [hD.1]; exact hc) (fun _ _ _ hc => by rw [hD.1]; exact hc) hD.2.1 (fun b hb => hD.2.2 b (.inl hb))
              · intro D q g' hD h1 h2 hq
                refine hpl D _ hD rfl ?_
                cases hu with
                | ref g1 g2 g3 g4 =>
                  refine .ref h1 h2 (fun _ => ?_) g4
                  obtain ⟨cap, e1, e2, cs, t, fz, e3, e4⟩ := g3 hg.symm
                  exact ⟨cap, by rw [hq]; exact e1, e2, cs, t, fz, by rw [hq, hD.1]; exact e3, e4⟩
        intro ex a' w' hq
        cases ex with
        | normal =>
          obtain ⟨m, hmn, μ, fr, e', s', h, hr'⟩ := hq
          cases m with
          | zero => simp [runN] at hr'
          | succ m =>
            simp only [runN, Option.some.injEq, Prod.mk.injEq] at hr'
            obtain ⟨rfl, rfl⟩ := hr'
            exact fin _ _ _ _ h
        | ret => obtain ⟨μ, fr, h⟩ := hq; exact fin _ _ _ _ h
        | exit id => obtain ⟨k', m, hk, _⟩ := hq; simp [popTo] at hk
        | _ => exact hq.elim
      · refine ⟨Below.refl _ _, hsh, by simp, ?_, ?_, ?_, rfl, ?_, Cx.Le.refl _⟩
        · intro o ob ho; simp [s0] at ho
        · intro o o' ho; simp [s0] at ho
        · exact env_ini hl hv
        · simp; omega

theorem call_pure {T : Nat → Option Fe} (hm : P.follows .mixedOrders = true) (hF : ∀ f, (T f).isSome = true → okFn P f = true)
    (hB : ∀ f nt res body, T f = some (.code nt res body) ∨ T f = some (.codez nt res body) → okBody P f nt res body = true)
    (hX : ∀ f F xs r, T f = some (.ext F) → F xs = some r → PureAt P f xs r) (hC : TC T) (hXI : ∀ f F xs s r s', T f = some (.extI F) → F xs s = some (r, s') → InlAt P f xs s r s') {f : Nat} {xs : List X} {r : X} (h : call T f xs = some r) : PureAt P f xs r := by
  obtain ⟨n, hn⟩ := callA_run.1 h
  exact (sound hm hF hB hX hC hXI n).1 f xs r hn
end Go.Proofs.YtoodknhlnifnlaaGreatDoor
