/- The engine, part Tl: what an operation depends on, and what it changes. -/
import Derived.Test.YtoodknhlnifnlaaGreatDoorT
set_option linter.all false
set_option linter.unusedVariables false
set_option linter.unusedSimpArgs false
namespace Go.Proofs.YtoodknhlnifnlaaGreatDoor
open Go.RowKit
variable {P : Program}

/-- Operations that look at no variable. -/
def freeI : IOp → Bool
  | .mov .. | .pick .. | .boxI .. | .build .. | .bin .. | .eqs .. | .eqb .. | .un .. | .cvs .. | .conv .. | .fld .. | .ixs .. | .ixv .. | .sls .. | .lens .. | .mnmx .. | .ext .. | .mkf .. => true
  | _ => false
theorem stepO_free {io : IOp} {e : Env} {s s' s2 : Sto} {x : X} (hf : freeI io = true) (h : stepO io e s = some (x, s')) : stepO io e s2 = some (x, s2) := by
  cases io <;> simp only [freeI, Bool.false_eq_true] at hf <;> simp only [stepO, retS] at h ⊢
  all_goals
    repeat' split at h
    all_goals first
      | (simp only [Option.some.injEq, Prod.mk.injEq] at h; obtain ⟨rfl, rfl⟩ := h; simp [*])
      | (simp at h; done)

theorem ldX_local {s s2 : Sto} {x : X} {w : Nat} {ag : Bool} (h : ∀ o ∈ nmA x, s2 o = s o) : ldX s2 x w ag = ldX s x w ag := by
  cases x <;> simp only [ldX]
  · rw [h _ (by simp [nmA])]
  · rw [h _ (by simp [nmA])]
theorem dpn_local {s s2 : Sto} {x : X} (h : ∀ o ∈ nmA x, s2 o = s o) : dpn s2 x = dpn s x := by
  cases x <;> simp only [dpn]
  rw [h _ (by simp [nmA])]
theorem dpL_local {s s2 : Sto} : ∀ {l : List X}, (∀ o ∈ nmL l, s2 o = s o) → dpL s2 l = dpL s l := by
  intro l
  induction l with
  | nil => intro _; rfl
  | cons x l ih =>
    intro h
    simp only [dpL, dpn_local (x := x) (fun o ho => h o (by simp [nmL, ho])), ih (fun o ho => h o (by simp [nmL, ho]))]
theorem dpC_local {s s2 : Sto} {x : X} (h : ∀ o ∈ nmA x, s2 o = s o) : dpC s2 x = dpC s x := by
  cases x
  case agg cs => simp only [dpC, dpL_local (l := cs) (by simpa [nmA] using h)]
  all_goals exact dpn_local h
theorem dpH_local {s s2 : Sto} {x : X} (h : ∀ o ∈ nmA x, s2 o = s o) : dpH s2 x = dpH s x := by
  cases x
  case ptr o g j => simp only [dpH, h o (by simp [nmA])]
  case ip => rfl
  all_goals exact dpn_local h
theorem dpHL_local {s s2 : Sto} : ∀ {l : List X}, (∀ o ∈ nmL l, s2 o = s o) → dpHL s2 l = dpHL s l := by
  intro l
  induction l with
  | nil => intro _; rfl
  | cons x l ih =>
    intro h
    simp only [dpHL, dpH_local (x := x) (fun o ho => h o (by simp [nmL, ho])), ih (fun o ho => h o (by simp [nmL, ho]))]
theorem dpG_local {s s2 : Sto} {x : X} (h : ∀ o ∈ nmA x, s2 o = s o) : dpG s2 x = dpG s x := by
  cases x
  case fn f cs => simp only [dpG, dpHL_local (l := cs) (by simpa [nmA] using h)]
  case ptr => exact dpH_local h
  case ip => rfl
  all_goals exact dpC_local h
theorem dpA_local {s s2 : Sto} : ∀ {l : List X}, (∀ x ∈ l, ∀ o ∈ nmA x, s2 o = s o) → dpA s2 l = dpA s l := by
  intro l
  induction l with
  | nil => intro _; rfl
  | cons x l ih =>
    intro h
    simp only [dpA, dpG_local (x := x) (h x (by simp)), ih (fun y hy => h y (by simp [hy]))]
theorem mpX_local {s s2 : Sto} {x : X} (h : ∀ o ∈ nmA x, s2 o = s o) : mpX s2 x = mpX s x := by
  cases x <;> simp only [mpX]
  rw [h _ (by simp [nmA])]

theorem stepO_local {io : IOp} {e : Env} {s s' s2 : Sto} {x : X} (hst : stillI io = true) (hl : ∀ a ∈ io.ars, ∀ o ∈ nmA (a.ev e), s2 o = s o) (h : stepO io e s = some (x, s')) : stepO io e s2 = some (x, s2) := by
  by_cases hf : freeI io = true
  · exact stepO_free hf h
  have h1 : ∀ {a : Ar}, a ∈ io.ars → ∀ o ∈ nmA (a.ev e), s2 o = s o := fun ha => hl _ ha
  cases io <;> simp only [stillI, freeI, Bool.false_eq_true, not_true_eq_false] at hst hf
  case ld a w ag =>
    simp only [stepO] at h ⊢
    obtain ⟨h2, rfl⟩ := retS_some h
    rw [ldX_local (h1 (by simp [IOp.ars])), h2]; rfl
  case nck a =>
    have h1 := h1 (a := a) (by simp [IOp.ars])
    simp only [stepO] at h ⊢
    split at h
    · rename_i o g j hx
      try simp only [hx] at h1 ⊢
      rw [h1 o (by simp [nmA])]
      split at h
      · rename_i hg; simp only [Option.some.injEq, Prod.mk.injEq] at h; obtain ⟨rfl, rfl⟩ := h; rw [if_pos hg]
      · simp at h
    · rename_i o g k i j hx
      try simp only [hx] at h1 ⊢
      rw [h1 o (by simp [nmA])]
      split at h
      · rename_i hg; simp only [Option.some.injEq, Prod.mk.injEq] at h; obtain ⟨rfl, rfl⟩ := h; rw [if_pos hg]
      · simp at h
    · rename_i y j hx
      try simp only [hx]
      simp only [Option.some.injEq, Prod.mk.injEq] at h; obtain ⟨rfl, rfl⟩ := h; rfl
    · simp at h
  case fa a j =>
    have h1 := h1 (a := a) (by simp [IOp.ars])
    simp only [stepO] at h ⊢
    split at h
    · rename_i o g i hx
      try simp only [hx] at h1 ⊢
      rw [h1 o (by simp [nmA])]
      split at h
      · rename_i hg; simp only [Option.some.injEq, Prod.mk.injEq] at h; obtain ⟨rfl, rfl⟩ := h; rw [if_pos hg]
      · simp at h
    · rename_i o g k i l hx
      try simp only [hx] at h1 ⊢
      rw [h1 o (by simp [nmA])]
      split at h
      · rename_i hg; simp only [Option.some.injEq, Prod.mk.injEq] at h; obtain ⟨rfl, rfl⟩ := h; rw [if_pos hg]
      · simp at h
    · rename_i y i hx
      try simp only [hx]
      simp only [Option.some.injEq, Prod.mk.injEq] at h; obtain ⟨rfl, rfl⟩ := h; rfl
    · simp at h
  case ixa a b w =>
    have h1 := h1 (a := a) (by simp [IOp.ars])
    simp only [stepO] at h ⊢
    split at h
    case h_2 => simp at h
    rename_i n hn
    try simp only [hn]
    split at h
    · rename_i f es hx
      try simp only [hx]
      split at h
      · rename_i hc
        rw [if_pos hc]
        split at h
        · rename_i y hy
          try simp only [hy]
          split at h
          · rename_i hw; simp only [Option.some.injEq, Prod.mk.injEq] at h; obtain ⟨rfl, rfl⟩ := h; rw [if_pos hw]
          · simp at h
        · simp at h
      · simp at h
    · rename_i o g k j m hx
      try simp only [hx] at h1 ⊢
      rw [h1 o (by simp [nmA])]
      split at h
      · rename_i hg; simp only [Option.some.injEq, Prod.mk.injEq] at h; obtain ⟨rfl, rfl⟩ := h; rw [if_pos hg]
      · simp at h
    · simp at h
  case ixp a b w n =>
    have h1 := h1 (a := a) (by simp [IOp.ars])
    simp only [stepO] at h ⊢
    split at h
    case h_2 => simp at h
    rename_i m hm
    try simp only [hm]
    split at h
    case isFalse => simp at h
    rename_i hc
    rw [if_pos hc]
    split at h
    · rename_i o g j hx
      try simp only [hx] at h1 ⊢
      rw [h1 o (by simp [nmA])]
      split at h
      · rename_i hg; simp only [Option.some.injEq, Prod.mk.injEq] at h; obtain ⟨rfl, rfl⟩ := h; rw [if_pos hg]
      · simp at h
    · rename_i y j hx
      try simp only [hx]
      simp only [Option.some.injEq, Prod.mk.injEq] at h; obtain ⟨rfl, rfl⟩ := h; rfl
    · simp at h
  case sli w a lo hi =>
    have h1 := h1 (a := a) (by simp [IOp.ars])
    simp only [stepO] at h ⊢
    cases hx : a.ev e <;> simp only [hx] at h h1 ⊢ <;> first | (simp at h; done) | skip
    · split at h
      case h_2 => simp at h
      rename_i hh
      try simp only [hh]
      split at h
      case h_2 => simp at h
      rename_i hh2
      try simp only [hh2]
      simp only [Option.some.injEq, Prod.mk.injEq] at h; obtain ⟨rfl, rfl⟩ := h; rfl
    · split at h
      · simp at h
      rename_i hc
      rw [if_neg hc]
      split at h
      case h_2 => simp at h
      rename_i hh
      try simp only [hh]
      split at h
      case h_2 => simp at h
      rename_i hh2
      try simp only [hh2]
      simp only [Option.some.injEq, Prod.mk.injEq] at h; obtain ⟨rfl, rfl⟩ := h; rfl
    · rename_i o g k i n
      rw [h1 o (by simp [nmA])]
      split at h
      · simp at h
      rename_i hc
      rw [if_neg hc]
      split at h
      case h_2 => simp at h
      rename_i hh
      try simp only [hh]
      split at h
      case h_2 => simp at h
      rename_i hh2
      try simp only [hh2]
      simp only [Option.some.injEq, Prod.mk.injEq] at h; obtain ⟨rfl, rfl⟩ := h; rfl
  case bslI k n z ps =>
    simp only [stepO] at h ⊢
    rw [fillE_congr (e := e) (e' := e) (s := s2) (s' := s) (ps := ps) (fun a ha => ⟨rfl, dpC_local (h1 (by simpa [IOp.ars] using ha))⟩)]
    split at h
    · rename_i hc
      try simp only [hc]
      simp only [Option.some.injEq, Prod.mk.injEq] at h; obtain ⟨rfl, rfl⟩ := h; rfl
    · simp at h
  case len a =>
    have h1 := h1 (a := a) (by simp [IOp.ars])
    simp only [stepO] at h ⊢
    split at h
    · rename_i f es hx
      try simp only [hx]
      simp only [Option.some.injEq, Prod.mk.injEq] at h; obtain ⟨rfl, rfl⟩ := h; rfl
    · rename_i o g k i n hx
      try simp only [hx] at h1 ⊢
      rw [h1 o (by simp [nmA])]
      split at h
      · rename_i hg; simp only [Option.some.injEq, Prod.mk.injEq] at h; obtain ⟨rfl, rfl⟩ := h; rw [if_pos hg]
      · simp at h
    · rename_i hx
      try simp only [hx]
      simp only [Option.some.injEq, Prod.mk.injEq] at h; obtain ⟨rfl, rfl⟩ := h; rfl
    · simp at h
  case eqn neg a =>
    have h1 := h1 (a := a) (by simp [IOp.ars])
    simp only [stepO] at h ⊢
    split at h
    · rename_i hx
      try simp only [hx]
      simp only [Option.some.injEq, Prod.mk.injEq] at h; obtain ⟨rfl, rfl⟩ := h; rfl
    · rename_i hx
      try simp only [hx]
      simp only [Option.some.injEq, Prod.mk.injEq] at h; obtain ⟨rfl, rfl⟩ := h; rfl
    · rename_i o g k i n hx
      try simp only [hx] at h1 ⊢
      rw [h1 o (by simp [nmA])]
      split at h
      · rename_i hg; simp only [Option.some.injEq, Prod.mk.injEq] at h; obtain ⟨rfl, rfl⟩ := h; rw [if_pos hg]
      · simp at h
    · simp at h
  case mlk ks ag m k z ok =>
    simp only [stepO] at h ⊢
    rw [mpX_local (h1 (a := m) (by simp [IOp.ars]))]
    split at h
    case h_2 => simp at h
    rename_i q es hq
    try simp only [hq]
    split at h
    case h_2 => simp at h
    rename_i r hr
    try simp only [hr]
    split at h
    case h_2 => simp at h
    rename_i v hv
    try simp only [hv]
    simp only [Option.some.injEq, Prod.mk.injEq] at h; obtain ⟨rfl, rfl⟩ := h; rfl
  case mln m =>
    simp only [stepO] at h ⊢
    rw [mpX_local (h1 (a := m) (by simp [IOp.ars]))]
    split at h
    case h_2 => simp at h
    rename_i q es hq
    try simp only [hq]
    simp only [Option.some.injEq, Prod.mk.injEq] at h; obtain ⟨rfl, rfl⟩ := h; rfl

theorem callS_local {r : List It → Env → Sto → Option (Env × Sto)} {T : Nat → Option Fe} {f : Nat} {l : List X} {s s' s2 : Sto} {x : X} (hl : ∀ x ∈ l, ∀ o ∈ nmA x, s2 o = s o) (h : callS r T true f l s = some (x, s')) : callS r T true f l s2 = some (x, s2) := by
  unfold callS at h ⊢
  rw [dpA_local hl]
  split at h
  · simp at h
  rename_i hd
  try simp only [hd]
  split at h
  · simp at h
  rename_i hc
  try simp only [hc]
  split at h
  · rename_i hs; simp only [Option.some.injEq, Prod.mk.injEq] at h; obtain ⟨rfl, rfl⟩ := h; rw [if_pos hs]
  rename_i hs
  rw [if_neg hs]
  split at h
  · simp at h
  rename_i hn
  simp only [Option.some.injEq, Prod.mk.injEq] at h; obtain ⟨rfl, _⟩ := h
  have hn : l.flatMap nmG = [] := by
    by_cases hq : l.flatMap nmG = []
    · exact hq
    · exact absurd ⟨rfl, hq⟩ hn
  simp [hn, frz_nil]
theorem nmL_mem {l : List X} {o : Nat} : o ∈ nmL l ↔ ∃ x ∈ l, o ∈ nmA x := by
  induction l with
  | nil => simp [nmL]
  | cons x l ih => simp [nmL, ih]
theorem opR_local {r : List It → Env → Sto → Option (Env × Sto)} {T : Nat → Option Fe} {io : IOp} {e : Env} {s s' s2 : Sto} {x : X} (hst : stillG io = true) (hl : ∀ a ∈ io.ars, ∀ o ∈ nmA (a.ev e), s2 o = s o) (h : opR r T io e s = some (x, s')) : opR r T io e s2 = some (x, s2) := by
  cases io
  case call st f l =>
    simp only [stillG] at hst
    subst hst
    exact callS_local (fun x hx => by obtain ⟨a, ha, rfl⟩ := List.mem_map.1 hx; exact hl a ha) h
  case callv st f l =>
    simp only [stillG] at hst
    subst hst
    simp only [opR] at h ⊢
    split at h
    · rename_i g cs hf
      try simp only [hf]
      refine callS_local (fun x hx => ?_) h
      rcases List.mem_append.1 hx with hx | hx
      · obtain ⟨a, ha, rfl⟩ := List.mem_map.1 hx
        exact hl a (by simp [IOp.ars, ha])
      · have := hl f (by simp [IOp.ars])
        rw [hf] at this
        exact fun o ho => this o (by simp only [nmA]; exact nmL_mem.2 ⟨x, hx, ho⟩)
    · simp at h
  case calli => simp [stillG, stillI] at hst
  all_goals
    simp only [opR] at h ⊢
    exact stepO_local (by simpa only [stillG] using hst) hl h

/-! ### changes are counted -/
def Cnt (s s' : Sto) : Prop := ∀ o, s' o = s o ∨ (s o).n < (s' o).n
theorem Cnt.refl (s : Sto) : Cnt s s := fun _ => .inl rfl
theorem Cnt.trans {a b c : Sto} (h : Cnt a b) (k : Cnt b c) : Cnt a c := fun o => by
  rcases h o with h | h <;> rcases k o with k | k
  · exact .inl (k.trans h)
  · right; rw [h] at k; exact k
  · right; rw [k]; exact h
  · right; omega
theorem Cnt.newO (s : Sto) (o : Nat) (b : Ob) : Cnt s (Go.Proofs.YtoodknhlnifnlaaGreatDoor.newO s o b) := fun q => by
  unfold Go.Proofs.YtoodknhlnifnlaaGreatDoor.newO upd
  split
  · rename_i h; subst h; right; simp
  · exact .inl rfl
theorem Cnt.setO (s : Sto) (o : Nat) (b : Ob) : Cnt s (Go.Proofs.YtoodknhlnifnlaaGreatDoor.setO s o b) := fun q => by
  unfold Go.Proofs.YtoodknhlnifnlaaGreatDoor.setO upd
  split
  · rename_i h; subst h; right; simp
  · exact .inl rfl
theorem Cnt.frz (s : Sto) (l : List Nat) : Cnt s (Go.Proofs.YtoodknhlnifnlaaGreatDoor.frz s l) := fun q => by
  unfold Go.Proofs.YtoodknhlnifnlaaGreatDoor.frz
  split
  · right; simp
  · exact .inl rfl
theorem stX_cnt {s s' : Sto} {x y : X} {w : Nat} (h : stX s x y w = some s') : Cnt s s' := by
  unfold stX at h
  repeat' split at h
  all_goals first
    | (simp at h; done)
    | (simp only [Option.some.injEq] at h; subst h; first | exact Cnt.setO _ _ _ | exact (Cnt.setO _ _ _).trans (Cnt.frz _ _))
theorem stepO_cnt {io : IOp} {e : Env} {s s' : Sto} {x : X} (h : stepO io e s = some (x, s')) : Cnt s s' := by
  by_cases hst : stillI io = true
  · rw [still_same hst h]; exact Cnt.refl _
  cases io <;> simp only [stillI, not_true_eq_false] at hst <;> simp only [stepO] at h
  case st =>
    split at h
    · rename_i hs
      simp only [Option.some.injEq, Prod.mk.injEq] at h; obtain ⟨_, rfl⟩ := h
      exact stX_cnt hs
    · simp at h
  all_goals
    repeat' split at h
    all_goals first
      | (simp at h; done)
      | (simp only [Option.some.injEq, Prod.mk.injEq] at h; obtain ⟨_, rfl⟩ := h; first | exact Cnt.refl _ | exact Cnt.newO _ _ _ | exact Cnt.setO _ _ _ | exact (Cnt.newO _ _ _).trans (Cnt.frz _ _))
theorem callS_cnt {r : List It → Env → Sto → Option (Env × Sto)} {T : Nat → Option Fe} {st : Bool} {f : Nat} {l : List X} {s s' : Sto} {x : X} (h : callS r T st f l s = some (x, s')) : Cnt s s' := by
  unfold callS at h
  repeat' split at h
  all_goals first
    | (simp at h; done)
    | (simp only [Option.some.injEq, Prod.mk.injEq] at h; obtain ⟨_, rfl⟩ := h; first | exact Cnt.refl _ | exact Cnt.frz _ _)
/-- What is carried out beside the table counts its changes. -/
def TC (T : Nat → Option Fe) : Prop := ∀ f F, T f = some (.extI F) → ∀ xs s r s', F xs s = some (r, s') → Cnt s s'
theorem opR_cnt {r : List It → Env → Sto → Option (Env × Sto)} (hr : ∀ its e s x, r its e s = some x → Cnt s x.2) {T : Nat → Option Fe} (hC : TC T) {io : IOp} {e : Env} {s s' : Sto} {x : X} (h : opR r T io e s = some (x, s')) : Cnt s s' := by
  unfold opR at h
  split at h
  · exact callS_cnt h
  · split at h
    · exact callS_cnt h
    · simp at h
  · unfold callI at h
    split at h
    · split at h
      case isFalse => simp at h
      split at h
      case h_2 => simp at h
      rename_i hq
      split at h
      case h_2 => simp at h
      simp only [Option.some.injEq, Prod.mk.injEq] at h
      obtain ⟨_, rfl⟩ := h
      exact hr _ _ _ _ hq
    · split at h
      case isFalse => simp at h
      split at h
      case h_2 => simp at h
      rename_i hq
      split at h
      case h_2 => simp at h
      simp only [Option.some.injEq, Prod.mk.injEq] at h
      obtain ⟨_, rfl⟩ := h
      exact Cnt.trans (hr _ _ _ _ hq) (Cnt.frz _ _)
    · rename_i hF; exact hC _ _ hF _ _ _ _ h
    · simp at h
  · exact stepO_cnt h
theorem runN_cnt (T : Nat → Option Fe) (hC : TC T) : ∀ (n : Nat) its e s x, runN T n its e s = some x → Cnt s x.2 := by
  intro n
  induction n with
  | zero => intro its e s x h; simp [runN] at h
  | succ n ih =>
    intro its e s x h
    rcases its with _ | ⟨it, k⟩
    · simp only [runN, Option.some.injEq] at h; subst h; exact Cnt.refl _
    cases it with
    | code c =>
      cases c with
      | cond c a b =>
        simp only [runN] at h
        split at h
        · rename_i t hc
          cases t
          · exact ih _ _ _ _ h
          · exact ih _ _ _ _ h
        · simp at h
      | exit id =>
        simp only [runN] at h
        split at h
        · exact ih _ _ _ _ h
        · simp at h
      | ret => simp only [runN, Option.some.injEq] at h; subst h; exact Cnt.refl _
      | _ => simp only [runN] at h; exact ih _ _ _ _ h
    | ops l =>
      rcases l with _ | ⟨o, l⟩
      · simp only [runN] at h; exact ih _ _ _ _ h
      · simp only [runN] at h
        split at h
        · split at h
          · rename_i y s' hr
            exact (opR_cnt (fun its e s x hx => ih its e s x hx) hC hr).trans (ih _ _ _ _ h)
          · simp at h
        · exact ih _ _ _ _ h
        · simp at h
    | lp c => simp only [runN] at h; exact ih _ _ _ _ h
    | bl id => simp only [runN] at h; exact ih _ _ _ _ h
    | chk ch js s0 =>
      simp only [runN] at h
      split at h
      · exact ih _ _ _ _ h
      · simp at h
end Go.Proofs.YtoodknhlnifnlaaGreatDoor
