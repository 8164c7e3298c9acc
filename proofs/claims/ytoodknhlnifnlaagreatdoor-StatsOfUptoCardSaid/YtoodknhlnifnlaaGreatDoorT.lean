/- The engine, part T: regions. -/
import Derived.Test.YtoodknhlnifnlaaGreatDoorS
set_option linter.all false
set_option linter.unusedVariables false
set_option linter.unusedSimpArgs false
namespace Go.Proofs.YtoodknhlnifnlaaGreatDoor
open Go.RowKit
variable {P : Program}

/-- What holds where a piece of code is left. -/
def Qk (T : Nat → Option Fe) (w0 : Bs) (sh : Nat → Prop) (nt n : Nat) (k : List It) (x : Env × Sto) : Exit → Act → World → Prop
  | .normal, a, w => ∃ m, m < n ∧ ∃ μ fr e s, Inv w0 sh nt μ fr e s a w ∧ runN T m k e s = some x
  | .exit id, a, w => ∃ k' m, popTo id k = some k' ∧ m < n ∧ ∃ μ fr e s, Inv w0 sh nt μ fr e s a w ∧ runN T m k' e s = some x
  | .ret, a, w => ∃ μ fr, Inv w0 sh nt μ fr x.1 x.2 a w
  | _, _, _ => False
theorem Qk.mono {T : Nat → Option Fe} {w0 : Bs} {sh : Nat → Prop} {nt n m : Nat} {k : List It} {x : Env × Sto} (h : n ≤ m) {e : Exit} {a : Act} {w : World} (hq : Qk T w0 sh nt n k x e a w) : Qk T w0 sh nt m k x e a w := by
  cases e with
  | normal => obtain ⟨q, hq, r⟩ := hq; exact ⟨q, by omega, r⟩
  | exit id => obtain ⟨k', q, h1, hq, r⟩ := hq; exact ⟨k', q, h1, by omega, r⟩
  | ret => exact hq
  | _ => exact hq

section
variable {T : Nat → Option Fe} {w0 : Bs} {sh : Nat → Prop} {nt : Nat} {k : List It} {x : Env × Sto} {ops : Array Oper}

theorem ops_list (hF : ∀ f, (T f).isSome = true → okFn P f = true) : ∀ {l : List Oper} {gl : List GOp} {n N : Nat} {μ : Nat → Nat} {fr : Nat → Prop} {e : Env} {s : Sto} {a : Act} {w : World}, okGL P nt ops l gl = true → n ≤ N → (∀ m, m < N → CallOK P T m ∧ InlOK P T m) →
    Inv w0 sh nt μ fr e s a w → runN T n (.ops gl :: k) e s = some x → wpList P ops (Qk T w0 sh nt N k x) l a w := by
  intro l
  induction l with
  | nil =>
    intro gl n N μ fr e s a w hok hn hT h hr
    cases gl with
    | cons => simp [okGL] at hok
    | nil =>
      cases n with
      | zero => simp [runN] at hr
      | succ n => exact wpList_nil ⟨n, by omega, μ, fr, e, s, h, by simpa only [runN] using hr⟩
  | cons o l ih =>
    intro gl n N μ fr e s a w hok hn hT h hr
    cases gl with
    | nil => simp [okGL] at hok
    | cons g gl =>
      cases n with
      | zero => simp [runN] at hr
      | succ n =>
        simp only [okGL, Bool.and_eq_true] at hok
        obtain ⟨hd, hdn⟩ := okG_dst hok.1
        have hop : (okOq P o.op g.op || okCall P o.op g.op) = true := by
          have := hok.1
          simp only [okG, Bool.and_eq_true] at this
          exact this.2
        simp only [runN] at hr
        unfold wpList
        split at hr
        · rename_i hg
          rw [if_pos (okG_guard h hok.1 hg)]
          split at hr
          case h_2 => simp at hr
          rename_i y s' hy
          refine .inl (opW h (hT n (by omega)).1 (hT n (by omega)).2 hF hop hy fun v w' μ' fr' hI hrep _ => ?_)
          rw [hd]
          exact ih hok.2 (by omega) hT (hI.put hdn hrep) hr
        · rename_i hg
          rw [if_neg (by rw [okG_guard h hok.1 hg]; simp)]
          rw [hd]
          exact ih hok.2 (by omega) hT (h.put hdn (.tup rfl (by simp))) hr
        · simp at hr
end

/-! ### what an operation reads -/
def optL : Option Ar → List Ar
  | some a => [a]
  | none => []
/-- The operands. -/
def IOp.ars : IOp → List Ar
  | .mov a | .box _ a | .boxI a | .ld a _ _ | .nck a | .un _ a | .cvs a | .conv _ a | .fa a _ | .fld a _ _ _ | .len a | .lens a | .ext a _ | .eqn _ a | .mln a => [a]
  | .pick c a b | .mst c a b | .mup _ _ c a b => [c, a, b]
  | .build _ ps => ps.map fun p => p.2.2
  | .bsl _ _ _ _ ps | .bslI _ _ _ ps => ps.map fun p => p.2
  | .st a b _ | .app _ _ _ a b | .bin _ a b | .eqs _ _ a b | .eqb _ a b | .ixa a b _ | .ixp a b _ _ | .ixs a b | .ixv a b _ _ _ | .mks _ _ _ a b _ | .mlk _ _ a b _ _ | .men _ _ a b _ => [a, b]
  | .sls a lo hi | .sli _ a lo hi => a :: (optL lo ++ optL hi)
  | .mnmx _ a l => a :: l
  | .mkf _ l | .call _ _ l | .calli _ l => l
  | .callv _ f l => f :: l
  | .mkm _ h => optL h
def Ar.sl : Ar → List Nat
  | .t n => [n]
  | .k _ => []
/-- The slots that an operation reads. -/
def IOp.rd (op : IOp) : List Nat := op.ars.flatMap Ar.sl
def GOp.rd (g : GOp) : List Nat := g.op.rd ++ (match g.g with
  | some (t, _) => [t]
  | none => [])

theorem ev_congr {e e' : Env} {a : Ar} (h : ∀ n ∈ a.sl, e n = e' n) : a.ev e = a.ev e' := by
  cases a with
  | t n => exact h n (by simp [Ar.sl])
  | k x => rfl
theorem rd_ars {op : IOp} {e e' : Env} (h : ∀ n ∈ op.rd, e n = e' n) : ∀ a ∈ op.ars, a.ev e = a.ev e' := fun a ha => ev_congr fun n hn => h n (List.mem_flatMap.2 ⟨a, ha, hn⟩)
theorem bnd_congr {e e' : Env} {a : Option Ar} {d y : Nat} (h : ∀ b ∈ optL a, b.ev e = b.ev e') : bnd e a d y = bnd e' a d y := by
  cases a with
  | none => rfl
  | some a => simp only [bnd, h a (by simp [optL])]
theorem fill_congr {e e' : Env} : ∀ {ps : List (Nat × Nat × Ar)} {cs : List X}, (∀ a ∈ ps.map fun p => p.2.2, a.ev e = a.ev e') → fill e cs ps = fill e' cs ps := by
  intro ps
  induction ps with
  | nil => intro cs _; rfl
  | cons p ps ih =>
    intro cs h
    obtain ⟨j, w, a⟩ := p
    have ha : a.ev e = a.ev e' := h a (by simp)
    simp only [fill, ha]
    split
    · exact ih (fun n hn => h n (by simp only [List.map_cons]; exact List.mem_cons_of_mem _ hn))
    · rfl
theorem fillE_congr {e e' : Env} {s s' : Sto} {k : Nat} : ∀ {ps : List (Nat × Ar)} {es : List X}, (∀ a ∈ ps.map fun p => p.2, a.ev e = a.ev e' ∧ dpC s (a.ev e') = dpC s' (a.ev e')) → fillE e s k es ps = fillE e' s' k es ps := by
  intro ps
  induction ps with
  | nil => intro cs _; rfl
  | cons p ps ih =>
    intro es h
    obtain ⟨j, a⟩ := p
    obtain ⟨ha, hb⟩ := h a (by simp)
    simp only [fillE, ha, hb, ih (fun n hn => h n (by simp only [List.map_cons]; exact List.mem_cons_of_mem _ hn))]
theorem mnxL_congr {e e' : Env} {mx : Bool} : ∀ {l : List Ar} {u : Value}, (∀ a ∈ l, a.ev e = a.ev e') → mnxL mx e u l = mnxL mx e' u l := by
  intro l
  induction l with
  | nil => intro u _; rfl
  | cons a l ih =>
    intro u h
    have ha : a.ev e = a.ev e' := h a (by simp)
    simp only [mnxL, ha, fun u => ih (u := u) (fun n hn => h n (List.mem_cons_of_mem _ hn))]

theorem stepO_congr {e e' : Env} {s : Sto} {io : IOp} (h : ∀ a ∈ io.ars, a.ev e = a.ev e') : stepO io e s = stepO io e' s := by
  have at1 : ∀ {a : Ar}, io.ars = [a] → a.ev e = a.ev e' := fun hq => h _ (by simp [hq])
  have at2 : ∀ {a b : Ar}, io.ars = [a, b] → a.ev e = a.ev e' ∧ b.ev e = b.ev e' := fun hq => ⟨h _ (by simp [hq]), h _ (by simp [hq])⟩
  have at3 : ∀ {a b c : Ar}, io.ars = [a, b, c] → a.ev e = a.ev e' ∧ b.ev e = b.ev e' ∧ c.ev e = c.ev e' := fun hq => ⟨h _ (by simp [hq]), h _ (by simp [hq]), h _ (by simp [hq])⟩
  cases io
  case call => rfl
  case callv => rfl
  case calli => rfl
  case build z ps => simp only [stepO, fill_congr (e := e) (e' := e') (ps := ps) h]
  case bslI k n z ps => simp only [stepO, fillE_congr (e := e) (e' := e') (s' := s) (ps := ps) (fun a ha => ⟨h a ha, rfl⟩)]
  case bsl o k n z ps => simp only [stepO, fillE_congr (e := e) (e' := e') (s' := s) (ps := ps) (fun a ha => ⟨h a ha, rfl⟩)]
  case sls a lo hi =>
    have h1 : a.ev e = a.ev e' := h a (by simp [IOp.ars])
    have h2 : ∀ d y, bnd e lo d y = bnd e' lo d y := fun d y => bnd_congr fun b hb => h b (by simp [IOp.ars, hb])
    have h3 : ∀ d y, bnd e hi d y = bnd e' hi d y := fun d y => bnd_congr fun b hb => h b (by simp [IOp.ars, hb])
    simp only [stepO, h1, h2, h3]
  case sli k a lo hi =>
    have h1 : a.ev e = a.ev e' := h a (by simp [IOp.ars])
    have h2 : ∀ d y, bnd e lo d y = bnd e' lo d y := fun d y => bnd_congr fun b hb => h b (by simp [IOp.ars, hb])
    have h3 : ∀ d y, bnd e hi d y = bnd e' hi d y := fun d y => bnd_congr fun b hb => h b (by simp [IOp.ars, hb])
    simp only [stepO, h1, h2, h3]
  case mnmx mx a l =>
    have h1 : a.ev e = a.ev e' := h a (by simp [IOp.ars])
    have h2 : ∀ u, mnxL mx e u l = mnxL mx e' u l := fun u => mnxL_congr fun b hb => h b (by simp [IOp.ars, hb])
    simp only [stepO, h1, h2]
  case mkf f l =>
    have h1 : l.map (Ar.ev e) = l.map (Ar.ev e') := List.map_congr_left h
    simp only [stepO, h1]
  case mkm o hh =>
    cases hh with
    | none => rfl
    | some a => have h1 : a.ev e = a.ev e' := h a (by simp [IOp.ars, optL])
                have h2 : hintB e (some a) = hintB e' (some a) := by simp only [hintB, h1]
                simp only [stepO, h2]
  case pick a b c => obtain ⟨h1, h2, h3⟩ := at3 (a := a) (b := b) (c := c) rfl; simp only [stepO, h1, h2, h3]
  case mst a b c => obtain ⟨h1, h2, h3⟩ := at3 (a := a) (b := b) (c := c) rfl; simp only [stepO, h1, h2, h3]
  case mup ks ag a b c => obtain ⟨h1, h2, h3⟩ := at3 (a := a) (b := b) (c := c) rfl; simp only [stepO, h1, h2, h3]
  case st a b w => obtain ⟨h1, h2⟩ := at2 (a := a) (b := b) rfl; simp only [stepO, h1, h2]
  case app o k lim a b => obtain ⟨h1, h2⟩ := at2 (a := a) (b := b) rfl; simp only [stepO, h1, h2]
  case mks o k z a b lim => obtain ⟨h1, h2⟩ := at2 (a := a) (b := b) rfl; simp only [stepO, h1, h2]
  case mlk ks ag a b z ok => obtain ⟨h1, h2⟩ := at2 (a := a) (b := b) rfl; simp only [stepO, h1, h2]
  case men ks ag a b z => obtain ⟨h1, h2⟩ := at2 (a := a) (b := b) rfl; simp only [stepO, h1, h2]
  case bin op a b => obtain ⟨h1, h2⟩ := at2 (a := a) (b := b) rfl; simp only [stepO, h1, h2]
  case eqs neg ks a b => obtain ⟨h1, h2⟩ := at2 (a := a) (b := b) rfl; simp only [stepO, h1, h2]
  case eqb neg a b => obtain ⟨h1, h2⟩ := at2 (a := a) (b := b) rfl; simp only [stepO, h1, h2]
  case ixa a b w => obtain ⟨h1, h2⟩ := at2 (a := a) (b := b) rfl; simp only [stepO, h1, h2]
  case ixp a b w n => obtain ⟨h1, h2⟩ := at2 (a := a) (b := b) rfl; simp only [stepO, h1, h2]
  case ixs a b => obtain ⟨h1, h2⟩ := at2 (a := a) (b := b) rfl; simp only [stepO, h1, h2]
  case ixv a b w n ag => obtain ⟨h1, h2⟩ := at2 (a := a) (b := b) rfl; simp only [stepO, h1, h2]
  case mov a => have h1 := at1 (a := a) rfl; simp only [stepO, h1]
  case box o a => have h1 := at1 (a := a) rfl; simp only [stepO, h1]
  case boxI a => have h1 := at1 (a := a) rfl; simp only [stepO, h1]
  case ld a w ag => have h1 := at1 (a := a) rfl; simp only [stepO, h1]
  case nck a => have h1 := at1 (a := a) rfl; simp only [stepO, h1]
  case un op a => have h1 := at1 (a := a) rfl; simp only [stepO, h1]
  case cvs a => have h1 := at1 (a := a) rfl; simp only [stepO, h1]
  case conv k a => have h1 := at1 (a := a) rfl; simp only [stepO, h1]
  case fa a j => have h1 := at1 (a := a) rfl; simp only [stepO, h1]
  case fld a j w ag => have h1 := at1 (a := a) rfl; simp only [stepO, h1]
  case len a => have h1 := at1 (a := a) rfl; simp only [stepO, h1]
  case lens a => have h1 := at1 (a := a) rfl; simp only [stepO, h1]
  case ext a i => have h1 := at1 (a := a) rfl; simp only [stepO, h1]
  case eqn neg a => have h1 := at1 (a := a) rfl; simp only [stepO, h1]
  case mln a => have h1 := at1 (a := a) rfl; simp only [stepO, h1]

theorem opR_congr {r : List It → Env → Sto → Option (Env × Sto)} {T : Nat → Option Fe} {e e' : Env} {s : Sto} {io : IOp} (h : ∀ n ∈ io.rd, e n = e' n) : opR r T io e s = opR r T io e' s := by
  replace h := rd_ars h
  cases io
  case call st f l => simp only [opR, show l.map (Ar.ev e) = l.map (Ar.ev e') from List.map_congr_left h]
  case calli f l => simp only [opR, show l.map (Ar.ev e) = l.map (Ar.ev e') from List.map_congr_left h]
  case callv st f l =>
    have h1 : f.ev e = f.ev e' := h f (by simp [IOp.ars])
    have h2 : l.map (Ar.ev e) = l.map (Ar.ev e') := List.map_congr_left fun a ha => h a (by simp [IOp.ars, ha])
    simp only [opR, h1, h2]
  all_goals
    simp only [opR]
    exact stepO_congr h
theorem gd_congr {e e' : Env} {g : GOp} (h : ∀ n ∈ g.rd, e n = e' n) : gd g e = gd g e' := by
  unfold gd
  split
  · rfl
  · rename_i t want hg
    have : e t = e' t := h t (by simp [GOp.rd, hg])
    rw [this]

theorem still_same {io : IOp} {e : Env} {s s' : Sto} {x : X} (hst : stillI io = true) (h : stepO io e s = some (x, s')) : s' = s := by
  cases io <;> simp only [stillI, Bool.false_eq_true] at hst <;> simp only [stepO, retS] at h
  all_goals
    repeat' split at h
    all_goals first
      | (simp only [Option.some.injEq, Prod.mk.injEq] at h; exact h.2.symm)
      | (simp at h; done)
theorem callS_still {r : List It → Env → Sto → Option (Env × Sto)} {T : Nat → Option Fe} {f : Nat} {l : List X} {s s' : Sto} {x : X} (h : callS r T true f l s = some (x, s')) : s' = s := by
  unfold callS at h
  split at h
  · simp at h
  split at h
  · simp at h
  split at h
  · simp only [Option.some.injEq, Prod.mk.injEq] at h; exact h.2.symm
  split at h
  · simp at h
  rename_i hn
  simp only [Option.some.injEq, Prod.mk.injEq] at h
  have hn : l.flatMap nmG = [] := by
    by_cases hq : l.flatMap nmG = []
    · exact hq
    · exact absurd ⟨rfl, hq⟩ hn
  rw [← h.2, hn, frz_nil]
theorem stillG_same {r : List It → Env → Sto → Option (Env × Sto)} {T : Nat → Option Fe} {io : IOp} {e : Env} {s s' : Sto} {x : X} (hst : stillG io = true) (h : opR r T io e s = some (x, s')) : s' = s := by
  cases io
  case call st f l =>
    simp only [stillG] at hst
    subst hst
    exact callS_still h
  case callv st f l =>
    simp only [stillG] at hst
    subst hst
    simp only [opR] at h
    split at h
    · exact callS_still h
    · simp at h
  case calli => simp [stillG, stillI] at hst
  all_goals
    simp only [opR] at h
    exact still_same (by simpa only [stillG] using hst) h
end Go.Proofs.YtoodknhlnifnlaaGreatDoor
