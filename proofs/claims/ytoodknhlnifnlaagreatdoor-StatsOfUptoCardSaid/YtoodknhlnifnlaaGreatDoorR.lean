/- The engine, part R: calls. -/
import Derived.Test.YtoodknhlnifnlaaGreatDoorQ
set_option linter.all false
set_option linter.unusedVariables false
set_option linter.unusedSimpArgs false
namespace Go.Proofs.YtoodknhlnifnlaaGreatDoor
open Go.RowKit
variable {P : Program}

def cx0 (w : World) (sh fr : Nat → Prop) : Cx := ⟨fun _ => 0, fun _ => 0, w, sh, fr⟩

/-- What a call of a function does: handed immutable values it gives one, and nothing that was there has changed. -/
def PureAt (P : Program) (f : Nat) (xs : List X) (r : X) : Prop :=
  ∀ (w : World) (sh : Nat → Prop) (vs : Array Value), GOK w → (∀ b, sh b → b < w.heap.size) → xs.length = vs.size →
    (∀ (j : Nat) x v, xs[j]? = some x → vs[j]? = some v → Rep (cx0 w sh fun _ => False) x v) →
    Calls P f vs w fun e w' => ∃ v fr', e = .returned v ∧ Below w.heap.size w w' ∧ (∀ b, fr' b → w.heap.size ≤ b ∧ b < w'.heap.size) ∧ Rep (cx0 w' sh fr') r v ∧ r.deep = true

/-- What an inlined call does. -/
def InlAt (P : Program) (f : Nat) (xs : List X) (s : Sto) (r : X) (s' : Sto) : Prop :=
  ∀ {w0 : Bs} {sh : Nat → Prop} {nt : Nat} {μ : Nat → Nat} {fr : Nat → Prop} {e : Env} {a : Act} {w : World}, Inv w0 sh nt μ fr e s a w → ∀ (vs : Array Value), xs.length = vs.size →
  (∀ (j : Nat) x v, xs[j]? = some x → vs[j]? = some v → Rep (cxo μ s w sh fr) x v) →
  Calls P f vs w (fun e' w' => ∃ v μ' fr', e' = .returned v ∧ Inv w0 sh nt μ' fr' e s' a w' ∧ Rep (cxo μ' s' w' sh fr') r v)
def InlOK (P : Program) (T : Nat → Option Fe) (n : Nat) : Prop := ∀ f xs s r s', callI (runN T n) T f xs s = some (r, s') → InlAt P f xs s r s'

def CallOK (P : Program) (T : Nat → Option Fe) (n : Nat) : Prop := ∀ f xs r, callA (runN T n) T f xs = some r → PureAt P f xs r

theorem shrL_eq (l : List X) : shrL l = l.map X.shr := by
  induction l with
  | nil => rfl
  | cons x l ih => simp [shrL, ih]
theorem shr_cells (x : X) (h : x.deep = true) : x.shr.cells = x.cells.map X.shr := by
  cases x <;> first | rfl | (simp only [X.shr, X.cells, shrL_eq]) | (simp [X.deep] at h; done)
theorem shr_one (x : X) (h : x.one = true) : x.shr.one = true := by
  cases x <;> first | rfl | (simp [X.one] at h; done)
mutual
theorem shr_deep : (x : X) → x.deep = true → x.shr.deep = true
  | .v _, _ => rfl
  | .nil, _ => rfl
  | .sl _ es, h => shrL_deep es h
  | .agg es, h => shrL_deep es h
  | .tup es, h => shrL_deep es h
  | .fn _ es, h => shrL_deep es h
  | .ref .., h => h
  | .ptr .., h => h
  | .ep .., h => h
  | .ip .., h => h
  | .mp .., h => h
  | .junk, h => h
theorem shrL_deep : (l : List X) → deepL l = true → deepL (shrL l) = true
  | [], _ => rfl
  | x :: l, h => by
    simp only [deepL, Bool.and_eq_true] at h
    simp only [shrL, deepL, Bool.and_eq_true]
    exact ⟨shr_deep x h.1, shrL_deep l h.2⟩
end

/-- As an argument. -/
theorem Rep.shr {C : Cx} {x : X} {v : Value} (hx : Rep C x v) (hd : x.deep = true) : Rep (cx0 C.w (fun b => C.sh b ∨ C.fr b) fun _ => False) x.shr v := by
  induction hx with
  | v hp => exact .v hp
  | nil => exact .sl0
  | sl0 => exact .sl0
  | @sl f es b off cap k n val hn hcap hl hb hk hc hz hr ih =>
    simp only [X.shr, shrL_eq]
    simp only [X.deep] at hd
    have hdm := deepL_mem.1 hd
    have hidx : ∀ {i : Nat} {e' : X}, (es.map X.shr)[i]? = some e' → ∃ e, es[i]? = some e ∧ e' = e.shr := by
      intro i e' h
      rw [List.getElem?_map, Option.map_eq_some_iff] at h
      obtain ⟨e, he, rfl⟩ := h
      exact ⟨e, he, rfl⟩
    refine .sl (k := k) val (by simpa using hn) hcap (by simpa using hl) (.inr ⟨rfl, ?_⟩) ?_ ?_ (by simp) ?_
    · rcases hb with hb | ⟨_, hb⟩
      · exact .inr hb
      · exact .inl hb
    · intro e' he'
      obtain ⟨e, he, rfl⟩ := List.mem_map.1 he'
      rw [shr_cells e (hdm e he)]
      simpa using hk e he
    · intro i e' j c hi hj
      obtain ⟨e, he, rfl⟩ := hidx hi
      rw [shr_cells e (hdm e (List.mem_of_getElem? he)), List.getElem?_map, Option.map_eq_some_iff] at hj
      obtain ⟨c', hc', rfl⟩ := hj
      exact ⟨(hc i e j c' he hc').1, shr_one _ (hc i e j c' he hc').2⟩
    · intro i e' j c hi hj
      obtain ⟨e, he, rfl⟩ := hidx hi
      rw [shr_cells e (hdm e (List.mem_of_getElem? he)), List.getElem?_map, Option.map_eq_some_iff] at hj
      obtain ⟨c', hc', rfl⟩ := hj
      exact ih i e j c' he hc' (deep_cells (hdm e (List.mem_of_getElem? he)) c' (List.mem_of_getElem? hc'))
  | agg hl ho hr ih =>
    simp only [X.shr, shrL_eq]
    simp only [X.deep] at hd
    refine .agg (by simpa using hl) ?_ ?_
    · intro c hc
      obtain ⟨y, hy, rfl⟩ := List.mem_map.1 hc
      exact shr_one _ (ho y hy)
    · intro j c v hj hv
      rw [List.getElem?_map, Option.map_eq_some_iff] at hj
      obtain ⟨y, hy, rfl⟩ := hj
      exact ih j y v hy hv (deepL_mem.1 hd y (List.mem_of_getElem? hy))
  | tup hl hr ih =>
    simp only [X.shr, shrL_eq]
    simp only [X.deep] at hd
    refine .tup (by simpa using hl) ?_
    intro j c v hj hv
    rw [List.getElem?_map, Option.map_eq_some_iff] at hj
    obtain ⟨y, hy, rfl⟩ := hj
    exact ih j y v hy hv (deepL_mem.1 hd y (List.mem_of_getElem? hy))
  | fn hl hr ih =>
    simp only [X.shr, shrL_eq]
    simp only [X.deep] at hd
    refine .fn (by simpa using hl) ?_
    intro j c v hj hv
    rw [List.getElem?_map, Option.map_eq_some_iff] at hj
    obtain ⟨y, hy, rfl⟩ := hj
    exact ih j y v hy hv (deepL_mem.1 hd y (List.mem_of_getElem? hy))
  | _ => simp [X.deep] at hd

section
variable {w0 : Bs} {sh : Nat → Prop} {nt : Nat} {μ : Nat → Nat} {fr : Nat → Prop} {e : Env} {s : Sto} {a : Act} {w : World}

theorem dpn0_rep {C : Cx} {x y : X} {v : Value} (hx : Rep C x v) (hy : dpn0 x = some y) : Rep C y v ∧ y.deep = true ∧ (x.one = true → y.one = true) ∧ y.cells = [y] := by
  cases x <;> simp only [dpn0] at hy
  case nil =>
    injection hy with hy
    subst hy
    cases hx with
    | nil => exact ⟨.sl0, rfl, fun _ => rfl, rfl⟩
  all_goals first
    | (simp at hy; done)
    | (split at hy
       · injection hy with hy
         subst hy
         exact ⟨hx, by assumption, id, rfl⟩
       · simp at hy)
theorem dpL0_len : ∀ {cs ds : List X}, dpL0 cs = some ds → ds.length = cs.length ∧ ∀ (j : Nat) c d, cs[j]? = some c → ds[j]? = some d → dpn0 c = some d := by
  intro cs
  induction cs with
  | nil => intro ds h; simp only [dpL0, Option.some.injEq] at h; subst h; exact ⟨rfl, by simp⟩
  | cons c cs ih =>
    intro ds h
    simp only [dpL0] at h
    split at h
    case h_2 => simp at h
    rename_i y m hy hm
    injection h with h
    subst h
    obtain ⟨i1, i2⟩ := ih hm
    refine ⟨by simp [i1], ?_⟩
    intro j c' d hc hd
    cases j with
    | zero => simp at hc hd; subst hc; subst hd; exact hy
    | succ j => exact i2 j c' d (by simpa using hc) (by simpa using hd)
theorem dpC0_cells {x y : X} (hy : dpC0 x = some y) : y.cells.length = x.cells.length ∧ ∀ (j : Nat) c d, x.cells[j]? = some c → y.cells[j]? = some d → dpn0 c = some d := by
  have one : ∀ {x y : X}, dpn0 x = some y → x.cells = [x] → y.cells.length = x.cells.length ∧ ∀ (j : Nat) c d, x.cells[j]? = some c → y.cells[j]? = some d → dpn0 c = some d := by
    intro x y h hx
    have hy : y.cells = [y] := by
      cases x <;> simp only [dpn0] at h <;> first | (simp at h; done) | (split at h <;> first | (injection h with h; subst h; rfl) | (simp at h; done)) | (injection h with h; subst h; rfl)
    rw [hx, hy]
    refine ⟨rfl, fun j c d hc hd => ?_⟩
    cases j with
    | zero => simp at hc hd; subst hc; subst hd; exact h
    | succ j => simp at hc
  cases x
  case agg cs =>
    simp only [dpC0] at hy
    split at hy
    case h_2 => simp at hy
    rename_i ds hds
    injection hy with hy
    subst hy
    exact dpL0_len hds
  all_goals exact one hy rfl

theorem dpn0_deep {x y : X} (hy : dpn0 x = some y) : y.deep = true := by
  cases x <;> simp only [dpn0] at hy <;> first | (simp at hy; done) | (split at hy <;> first | (injection hy with hy; subst hy; assumption) | (simp at hy; done)) | (injection hy with hy; subst hy; rfl)
theorem dpC0_deep {x y : X} (hy : dpC0 x = some y) : y.deep = true := by
  cases x
  case agg cs =>
    simp only [dpC0] at hy
    split at hy
    case h_2 => simp at hy
    rename_i ds hds
    injection hy with hy
    subst hy
    simp only [X.deep]
    obtain ⟨i1, i2⟩ := dpL0_len hds
    refine deepL_mem.2 fun d hd => ?_
    obtain ⟨j, hj⟩ := List.getElem?_of_mem hd
    have hjl : j < cs.length := by have := (List.getElem?_eq_some_iff.1 hj).1; omega
    exact dpn0_deep (i2 j _ d (List.getElem?_eq_getElem hjl) hj)
  all_goals (simp only [dpC0] at hy; exact dpn0_deep hy)

theorem Inv.dpH (h : Inv w0 sh nt μ fr e s a w) {x y : X} {v : Value} (hx : Rep (cxo μ s w sh fr) x v) (hy : Go.Proofs.YtoodknhlnifnlaaGreatDoor.dpH s x = some y) {l : List Nat} (hl : ∀ o ∈ nmH x, o ∈ l) :
    Rep (cx0 w (fun b => sh b ∨ (fr b ∨ ∃ o ∈ l, (s o).o.isSome = true ∧ b = μ o)) fun _ => False) y.shr v := by
  have ip : ∀ {z : X} {j : Nat} {C : Cx}, (∀ c ∈ z.cells, c.deep = true) → z.shr.cells = z.cells.map X.shr → Rep C (.ip z j) v → C.w = w → (∀ b, C.sh b ∨ C.fr b → sh b ∨ (fr b ∨ ∃ o ∈ l, (s o).o.isSome = true ∧ b = μ o)) →
      Rep (cx0 w (fun b => sh b ∨ (fr b ∨ ∃ o ∈ l, (s o).o.isSome = true ∧ b = μ o)) fun _ => False) (X.ip z j).shr v := by
    intro z j C hd hz hr hw hC
    subst hw
    cases hr with
    | ip val hb hc hr =>
      simp only [X.shr]
      have up : ∀ {l : Nat} {c : X}, z.shr.cells[l]? = some c → ∃ d, z.cells[l]? = some d ∧ c = d.shr := by
        intro l c hl
        rw [hz, List.getElem?_map, Option.map_eq_some_iff] at hl
        obtain ⟨d, hd, rfl⟩ := hl
        exact ⟨d, hd, rfl⟩
      refine .ip val (.inr (hC _ hb.symm)) ?_ ?_
      · intro l c hl
        obtain ⟨d, hd', rfl⟩ := up hl
        exact ⟨(hc l d hd').1, shr_one _ (hc l d hd').2⟩
      · intro l c hl
        obtain ⟨d, hd', rfl⟩ := up hl
        have := (hr l d hd').shr (hd d (List.mem_of_getElem? hd'))
        exact this.deep_mono (shr_deep _ (hd d (List.mem_of_getElem? hd'))) (fun _ _ _ _ h => h) (fun _ _ _ h => h) (fun b hb => .inl (hC b hb)) (fun _ h => h)
  cases x
  case ptr o g j =>
    simp only [Go.Proofs.YtoodknhlnifnlaaGreatDoor.dpH] at hy
    split at hy
    case h_2 => simp at hy
    rename_i z ho
    split at hy
    case isFalse => simp at hy
    rename_i hg
    split at hy
    case h_2 => simp at hy
    rename_i z' hz
    injection hy with hy
    subst hy
    have hol : o ∈ l := hl o (by simp [nmH])
    obtain ⟨⟨cs, t, o1, o2, o3, o4⟩, _⟩ := h.obj o _ ho
    obtain ⟨hlen, hcells⟩ := dpC0_cells hz
    have hv : v = .pointer (some ⟨μ o, j, none⟩) := by
      cases hx with
      | ptr _ _ h3 _ => exact h3 hg.symm
    subst hv
    have hle := frz_le μ s w sh fr l
    have cell : ∀ {i : Nat} {c : X}, z'.cells[i]? = some c → ∃ d u, z.cells[i]? = some d ∧ cs[i]? = some u ∧ dpn0 d = some c ∧ d.one = true ∧ Rep (cxf μ s w sh fr l) d u := by
      intro i c hc
      have hi : i < z.cells.length := by have := (List.getElem?_eq_some_iff.1 hc).1; omega
      have hi' : i < cs.size := by omega
      have hd := List.getElem?_eq_getElem hi
      have hu := Array.getElem?_eq_getElem hi'
      exact ⟨_, _, hd, hu, hcells i _ c hd hc, o3 _ (List.mem_of_getElem? hd), (o4 i _ _ hd hu).mono hle⟩
    have hdeep := dpC0_deep hz
    refine ip (C := cxf μ s w sh fr l) (deep_cells hdeep) (shr_cells z' hdeep) ?_ rfl (fun b hb => hb.elim .inl fun h => .inr h)
    have := Rep.ip (C := cxf μ s w sh fr l) (x := z') (j := j) (b := μ o) (off := 0) (fun i => cs.getD i undef) (.inl (.inr ⟨o, hol, by simp [ho], rfl⟩)) (by
      intro i c hc
      obtain ⟨d, u, hd, hu, hn, ho', hr⟩ := cell hc
      refine ⟨?_, (dpn0_rep hr hn).2.2.1 ho'⟩
      rw [Nat.zero_add]
      have hw : (cxf μ s w sh fr l).w = w := rfl
      have o1' : w.heap[μ o]? = some (.cells cs t (0, 0)) := o1
      rw [hw, cell_of_row _ _ _ _ t (0, 0) o1']
      simp [Array.getD_eq_getD_getElem?, hu]) (by
      intro i c hc
      obtain ⟨d, u, hd, hu, hn, ho', hr⟩ := cell hc
      have := (dpn0_rep hr hn).1
      simpa [Array.getD_eq_getD_getElem?, hu] using this)
    simpa using this
  case ip z j =>
    simp only [Go.Proofs.YtoodknhlnifnlaaGreatDoor.dpH] at hy
    split at hy
    case isFalse => simp at hy
    rename_i hd
    injection hy with hy
    subst hy
    exact ip (deep_cells hd) (shr_cells z hd) hx rfl (fun b hb => hb.elim .inl (fun h => .inr (.inl h)))
  all_goals
    obtain ⟨h1, h2, _⟩ := h.dpn hx hy (l := l) hl
    exact h1.shr h2

theorem dpHL_len {s : Sto} : ∀ {cs ds : List X}, dpHL s cs = some ds → ds.length = cs.length ∧ ∀ (j : Nat) c d, cs[j]? = some c → ds[j]? = some d → Go.Proofs.YtoodknhlnifnlaaGreatDoor.dpH s c = some d := by
  intro cs
  induction cs with
  | nil => intro ds h; simp only [dpHL, Option.some.injEq] at h; subst h; exact ⟨rfl, by simp⟩
  | cons c cs ih =>
    intro ds h
    simp only [dpHL] at h
    split at h
    case h_2 => simp at h
    rename_i y m hy hm
    injection h with h
    subst h
    obtain ⟨i1, i2⟩ := ih hm
    refine ⟨by simp [i1], ?_⟩
    intro j c' d hc hd
    cases j with
    | zero => simp at hc hd; subst hc; subst hd; exact hy
    | succ j => exact i2 j c' d (by simpa using hc) (by simpa using hd)
theorem Inv.dpG (h : Inv w0 sh nt μ fr e s a w) {x y : X} {v : Value} (hx : Rep (cxo μ s w sh fr) x v) (hy : Go.Proofs.YtoodknhlnifnlaaGreatDoor.dpG s x = some y) {l : List Nat} (hl : ∀ o ∈ nmG x, o ∈ l) :
    Rep (cx0 w (fun b => sh b ∨ (fr b ∨ ∃ o ∈ l, (s o).o.isSome = true ∧ b = μ o)) fun _ => False) y.shr v := by
  cases x
  case fn f cs =>
    simp only [Go.Proofs.YtoodknhlnifnlaaGreatDoor.dpG] at hy
    split at hy
    case h_2 => simp at hy
    rename_i ds hds
    injection hy with hy
    subst hy
    obtain ⟨i1, i2⟩ := dpHL_len hds
    cases hx with
    | fn hlen hr =>
      simp only [X.shr, shrL_eq]
      refine .fn (by simpa [i1] using hlen) ?_
      intro j c v' hj hv'
      rw [List.getElem?_map, Option.map_eq_some_iff] at hj
      obtain ⟨d, hd, rfl⟩ := hj
      have hjl : j < cs.length := by have := (List.getElem?_eq_some_iff.1 hd).1; omega
      have hc := List.getElem?_eq_getElem hjl
      exact h.dpH (hr j _ v' hc hv') (i2 j _ d hc hd) (fun o ho => hl o (by simp only [nmG]; exact List.mem_flatMap.2 ⟨_, List.mem_of_getElem? hc, ho⟩))
  case ptr => exact h.dpH hx hy hl
  case ip => exact h.dpH hx hy hl
  all_goals
    obtain ⟨h1, h2⟩ := h.dpC hx hy (l := l) hl
    exact h1.shr h2
theorem Inv.dpA (h : Inv w0 sh nt μ fr e s a w) {l : List Nat} : ∀ {xs ys : List X}, Go.Proofs.YtoodknhlnifnlaaGreatDoor.dpA s xs = some ys → (∀ o ∈ xs.flatMap nmG, o ∈ l) →
    ys.length = xs.length ∧ ∀ vs : Nat → Value, (∀ j x, xs[j]? = some x → Rep (cxo μ s w sh fr) x (vs j)) → ∀ j y, ys[j]? = some y → Rep (cx0 w (fun b => sh b ∨ (fr b ∨ ∃ o ∈ l, (s o).o.isSome = true ∧ b = μ o)) fun _ => False) y (vs j) := by
  intro xs
  induction xs with
  | nil => intro ys hy _; simp only [Go.Proofs.YtoodknhlnifnlaaGreatDoor.dpA, Option.some.injEq] at hy; subst hy; exact ⟨rfl, by simp⟩
  | cons x xs ih =>
    intro ys hy hl
    simp only [Go.Proofs.YtoodknhlnifnlaaGreatDoor.dpA] at hy
    split at hy
    case h_2 => simp at hy
    rename_i z m hz hm
    injection hy with hy
    subst hy
    obtain ⟨i1, i2⟩ := ih hm (fun o ho => hl o (by simp only [List.flatMap_cons, List.mem_append]; exact .inr ho))
    refine ⟨by simp [i1], ?_⟩
    intro vs hv j y hj
    cases j with
    | zero =>
      simp at hj; subst hj
      exact h.dpG (hv 0 x rfl) hz (l := l) (fun o ho => hl o (by simp only [List.flatMap_cons, List.mem_append]; exact .inl ho))
    | succ j => exact i2 (fun j => vs (j + 1)) (fun j x hx => hv (j + 1) x (by simpa using hx)) j y (by simpa using hj)

/-- Behind a call. -/
theorem call_sound (h : Inv w0 sh nt μ fr e s a w) {T : Nat → Option Fe} {n : Nat} (hT : CallOK P T n) {st : Bool} {f : Nat} {l : List X} {vs : Array Value} (hl : l.length = vs.size)
    (hv : ∀ (j : Nat) x v, l[j]? = some x → vs[j]? = some v → Rep (cxo μ s w sh fr) x v) {x : X} {s' : Sto} (hs : callS (runN T n) T st f l s = some (x, s')) :
    Calls P f vs w (fun e' w' => ∃ v μ' fr', e' = .returned v ∧ Inv w0 sh nt μ' fr' e s' a w' ∧ Rep (cxo μ' s' w' sh fr') x v ∧ (st = true → s' = s ∧ μ' = μ)) := by
  unfold callS at hs
  split at hs
  case h_1 => simp at hs
  rename_i ys hys
  split at hs
  case h_1 => simp at hs
  rename_i r hr
  obtain ⟨i1, i2⟩ := h.dpA hys (l := l.flatMap nmG) (fun _ h => h)
  obtain ⟨hI0, hle0⟩ := h.frz (l.flatMap nmG)
  have hP := hT f ys r hr w (fun b => sh b ∨ (fr b ∨ ∃ o ∈ l.flatMap nmG, (s o).o.isSome = true ∧ b = μ o)) vs (w0.gok.below w0.gok.1 h.below) (by
      rintro b (hb | hb)
      · exact Nat.lt_of_lt_of_le (h.sh_lt b hb) h.below.size
      · exact (hI0.fr_lt b hb).2) (by omega) (by
      intro j y v hy hjv
      have hj := (List.getElem?_eq_some_iff.1 hy).1
      have := i2 (fun j => vs.getD j undef) (fun j x hx => hv j x _ hx (by
        have := (List.getElem?_eq_some_iff.1 hx).1
        simp [Array.getD_eq_getD_getElem?, Array.getElem?_eq_getElem (show j < vs.size by omega)])) j y hy
      simpa [Array.getD_eq_getD_getElem?, hjv] using this)
  refine hP.mono ?_
  rintro e' w' ⟨v, fr', rfl, hb, hfr', hrep, hd⟩
  split at hs
  · rename_i hsc
    simp only [Option.some.injEq, Prod.mk.injEq] at hs
    obtain ⟨rfl, rfl⟩ := hs
    obtain ⟨hI, _⟩ := h.news w' hb (fun b => fr b) (fun _ h => h) (fun b hb => .inl hb)
    exact ⟨v, μ, _, rfl, hI, hrep.scal hsc, fun _ => ⟨rfl, rfl⟩⟩
  · split at hs
    · simp at hs
    rename_i hnn
    simp only [Option.some.injEq, Prod.mk.injEq] at hs
    obtain ⟨rfl, rfl⟩ := hs
    obtain ⟨hI, hle⟩ := hI0.news w' hb (fun b => (fr b ∨ ∃ o ∈ l.flatMap nmG, (s o).o.isSome = true ∧ b = μ o) ∨ fr' b) (fun _ h => .inl h) (fun b hb => hb.imp id (hfr' b))
    refine ⟨v, μ, _, rfl, hI, ?_, ?_⟩
    · refine hrep.deep_mono hd (fun _ _ _ _ h => h) (fun _ _ _ h => h) ?_ ?_
      · rintro b (hb | hb)
        · exact .inl hb
        · exact .inr (.inl hb)
      · intro b hb; exact .inr hb
    · intro hst
      have : l.flatMap nmG = [] := by
        by_cases hq : l.flatMap nmG = []
        · exact hq
        · exact absurd ⟨hst, hq⟩ hnn
      rw [this, frz_nil]
      exact ⟨rfl, rfl⟩
end
end Go.Proofs.YtoodknhlnifnlaaGreatDoor
