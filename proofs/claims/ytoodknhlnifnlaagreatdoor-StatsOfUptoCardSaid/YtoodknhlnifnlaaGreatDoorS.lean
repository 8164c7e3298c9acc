/- The engine, part S: regions in the text's order. -/
import Derived.Test.YtoodknhlnifnlaaGreatDoorR
set_option linter.all false
set_option linter.unusedVariables false
set_option linter.unusedSimpArgs false
namespace Go.Proofs.YtoodknhlnifnlaaGreatDoor
open Go.RowKit
variable {P : Program}

def okG (P : Program) (nt : Nat) (ops : Array Oper) (o : Oper) (g : GOp) : Bool :=
  (match o.dst, g.d with
    | none, none => true
    | some d, some d' => d == d' && decide (d < nt)
    | _, _ => false) &&
  (match o.guard, g.g with
    | none, none => true
    | some (j, want), some (t, want') => want == want' && (match ops[j]? with
      | some oj => oj.dst == some t
      | none => false)
    | _, _ => false) &&
  (okOq P o.op g.op || okCall P o.op g.op)
def okGL (P : Program) (nt : Nat) (ops : Array Oper) : List Oper → List GOp → Bool
  | [], [] => true
  | o :: l, g :: m => okG P nt ops o g && okGL P nt ops l m
  | _, _ => false

def stillG : IOp → Bool
  | .call st _ _ => st
  | .callv st _ _ => st
  | io => stillI io

section
variable {w0 : Bs} {sh : Nat → Prop} {nt : Nat} {μ : Nat → Nat} {fr : Nat → Prop} {e : Env} {s : Sto} {a : Act} {w : World}

theorem okG_dst {ops : Array Oper} {o : Oper} {g : GOp} (h : okG P nt ops o g = true) : o.dst = g.d ∧ ∀ n, g.d = some n → n < nt := by
  simp only [okG, Bool.and_eq_true] at h
  have h := h.1.1
  cases hd : o.dst <;> cases hg : g.d <;> simp only [hd, hg, Bool.false_eq_true, Bool.and_eq_true, beq_iff_eq, decide_eq_true_eq] at h
  · exact ⟨rfl, by simp⟩
  · obtain ⟨rfl, h⟩ := h; exact ⟨rfl, by simpa using h⟩

theorem okG_guard (h : Inv w0 sh nt μ fr e s a w) {ops : Array Oper} {o : Oper} {g : GOp} (hok : okG P nt ops o g = true) {t : Bool} (ht : gd g e = some t) : Region.wanted o (yielded ops a.tmps) = t := by
  simp only [okG, Bool.and_eq_true] at hok
  have hok := hok.1.2
  unfold gd at ht
  unfold Region.wanted
  cases hd : o.guard <;> cases hg : g.g <;> simp only [hd, hg, Bool.false_eq_true, Bool.and_eq_true, beq_iff_eq] at hok ht
  · simpa using ht
  · rename_i p q
    obtain ⟨j, want⟩ := p
    obtain ⟨t', want'⟩ := q
    simp only [Bool.and_eq_true, beq_iff_eq] at hok ht ⊢
    obtain ⟨rfl, hj⟩ := hok
    split at hj
    case h_2 => simp at hj
    rename_i oj hoj
    simp only [beq_iff_eq] at hj
    split at ht
    case h_3 => simp at ht
    case h_2 =>
      rename_i hb
      injection ht with ht
      subst ht
      have hr := h.env t'
      rw [hb] at hr
      generalize hv : a.tmps.getD t' undef = v at hr
      cases hr with
      | @tup _ vs hl _ =>
        have hy : yielded ops a.tmps j = none := by
          unfold yielded
          simp only [hoj, Option.bind_some, hj]
          by_cases hlt : t' < a.tmps.size
          · simp only [Array.getD_eq_getD_getElem?, Array.getElem?_eq_getElem hlt, Option.getD_some] at hv
            simp [Array.getElem?_eq_getElem hlt, hv]
          · simp [Array.getElem?_eq_none (Nat.le_of_not_lt hlt)]
        rw [hy]
        rfl
    rename_i b hb
    injection ht with ht
    subst ht
    have hr := h.env t'
    rw [hb] at hr
    have hv := (rep_v hr).1
    have hlt : t' < a.tmps.size := by
      by_cases hlt : t' < a.tmps.size
      · exact hlt
      · simp [Array.getD_eq_getD_getElem?, Array.getElem?_eq_none (Nat.le_of_not_lt hlt), undef] at hv
    have hy : yielded ops a.tmps j = some b := by
      unfold yielded
      simp only [hoj, Option.bind_some, hj]
      simp only [Array.getD_eq_getD_getElem?, Array.getElem?_eq_getElem hlt, Option.getD_some] at hv
      simp [Array.getElem?_eq_getElem hlt, hv]
    rw [hy]
    cases b <;> cases want <;> rfl

theorem okOq_call {op : Op} {st : Bool} {f : Nat} {l : List Ar} : okOq P op (.call st f l) = false := by
  cases h : okOq P op (.call st f l)
  · rfl
  · have := okOq_okOp h (by simp)
    cases op <;> simp [okOp] at this
theorem okOq_callv {op : Op} {st : Bool} {f : Ar} {l : List Ar} : okOq P op (.callv st f l) = false := by
  cases h : okOq P op (.callv st f l)
  · rfl
  · have := okOq_okOp h (by simp)
    cases op <;> simp [okOp] at this
theorem okOq_calli {op : Op} {f : Nat} {l : List Ar} : okOq P op (.calli f l) = false := by
  cases h : okOq P op (.calli f l)
  · rfl
  · have := okOq_okOp h (by simp)
    cases op <;> simp [okOp] at this
theorem callS_T {r : List It → Env → Sto → Option (Env × Sto)} {T : Nat → Option Fe} {st : Bool} {f : Nat} {l : List X} {s : Sto} {x : X × Sto} (h : callS r T st f l s = some x) : (T f).isSome = true := by
  unfold callS at h
  split at h
  · simp at h
  · split at h
    · simp at h
    · rename_i hr
      unfold callA at hr
      split at hr
      · simp at hr
      all_goals (rename_i hT; simp [hT])
/-- An operation, in the machine. -/
theorem opW (h : Inv w0 sh nt μ fr e s a w) {T : Nat → Option Fe} {n : Nat} (hT : CallOK P T n) (hI : InlOK P T n) (hF : ∀ f, (T f).isSome = true → okFn P f = true) {o : Oper} {io : IOp} (hok : (okOq P o.op io || okCall P o.op io) = true) {x : X} {s' : Sto} (hs : opR (runN T n) T io e s = some (x, s'))
    {K : Act → World → Prop} {Q : Exit → Act → World → Prop} (hK : ∀ v w' μ' fr', Inv w0 sh nt μ' fr' e s' a w' → Rep (cxo μ' s' w' sh fr') x v → (stillG io = true → s' = s ∧ μ' = μ) → K (a.put o.dst v) w') : o.wp P a w K Q := by
  have plainOp : okOq P o.op io = true → stepO io e s = some (x, s') → (stillG io = stillI io) → o.wp P a w K Q := by
    intro hok hs hsg
    have fin : ∀ n v w' μ' fr', (execOp a.eval o).run P w = .ok n w' → (n = .value v ∨ n = .skip ∧ v = undef) → Inv w0 sh nt μ' fr' e s' a w' → Rep (cxo μ' s' w' sh fr') x v → (stillG io = true → s' = s ∧ μ' = μ) → o.wp P a w K Q := by
      intro n v w' μ' fr' h1 h2 h3 h4 h5
      unfold Oper.wp
      rw [h1]
      rcases h2 with rfl | ⟨rfl, rfl⟩
      · exact hK v w' μ' fr' h3 h4 h5
      · exact hK undef w' μ' fr' h3 h4 h5
    by_cases hst : stillI io = true
    · obtain ⟨rfl, n, v, w', fr', h1, h2, h3, h4⟩ := still_sound h hok hst hs
      exact fin n v w' μ fr' h1 h2 h3 h4 (fun _ => ⟨rfl, rfl⟩)
    · obtain ⟨n, v, w', μ', fr', h1, h2, h3, h4⟩ := step_sound h hok hs
      exact fin n v w' μ' fr' h1 h2 h3 h4 (fun hq => absurd (hsg ▸ hq) hst)
  have viaCall : ∀ {st : Bool} {f : Nat} {l : List X} {vs : Array Value}, l.length = vs.size → (∀ (j : Nat) x v, l[j]? = some x → vs[j]? = some v → Rep (cxo μ s w sh fr) x v) → callS (runN T n) T st f l s = some (x, s') → (stillG io = st) →
      (execOp a.eval o).run P w = .ok (.enter f vs) w → o.wp P a w K Q := by
    intro st f l vs hl hv hs hsg hrun
    unfold Oper.wp
    rw [hrun, Oper.upon_enter]
    refine (call_sound h hT hl hv hs).mono ?_
    rintro e' w' ⟨v, μ', fr', rfl, hI, hr, hst⟩
    exact hK v w' μ' fr' hI hr (fun hq => hst (hsg ▸ hq))
  cases io
  case call st f l =>
    have hok : okCall P o.op (.call st f l) = true := by
      have : okOq P o.op (.call st f l) = false := okOq_call

      simpa [this] using hok
    cases hop : o.op <;> simp only [hop, okCall, Bool.false_eq_true] at hok
    rename_i c
    split at hok
    case h_2 => simp at hok
    rename_i g hc
    simp only [Bool.and_eq_true, beq_iff_eq] at hok
    obtain ⟨⟨rfl, hl⟩, hf⟩ := hok
    obtain ⟨h1, h2⟩ := okAL_rep h.env hl
    unfold okFn at hf
    split at hf
    case h_2 => simp at hf
    rename_i fn hfn
    simp only [Bool.and_eq_true, bne_iff_ne, ne_eq] at hf
    obtain ⟨body, hbody⟩ := Option.isSome_iff_exists.1 hf.1
    refine viaCall (st := st) (l := l.map (Ar.ev e)) (vs := c.args.map a.eval) (by simpa using h1) ?_ (by simpa [opR] using hs) rfl ?_
    · intro j x' v hx hv
      simp only [List.getElem?_map, Option.map_eq_some_iff] at hx
      obtain ⟨r, hr, rfl⟩ := hx
      simp only [Array.getElem?_map, Option.map_eq_some_iff] at hv
      obtain ⟨y, hy, rfl⟩ := hv
      exact h2 j r y hr (by simpa using hy)
    · simp [execOp, hop, resolve, hc, Act.eval, Deferred.ofValue, invoke, callFunc, hfn, hf.2, hbody]
  case calli f l =>
    have hok : okCall P o.op (.calli f l) = true := by
      have : okOq P o.op (.calli f l) = false := okOq_calli
      simpa [this] using hok
    cases hop : o.op <;> simp only [hop, okCall, Bool.false_eq_true] at hok
    rename_i c
    split at hok
    case h_2 => simp at hok
    rename_i g hc
    simp only [Bool.and_eq_true, beq_iff_eq] at hok
    obtain ⟨⟨rfl, hl⟩, hf⟩ := hok
    obtain ⟨h1, h2⟩ := okAL_rep h.env hl
    unfold okFn at hf
    split at hf
    case h_2 => simp at hf
    rename_i fn hfn
    simp only [Bool.and_eq_true, bne_iff_ne, ne_eq] at hf
    obtain ⟨body, hbody⟩ := Option.isSome_iff_exists.1 hf.1
    have hrun : (execOp a.eval o).run P w = .ok (.enter f (c.args.map a.eval)) w := by
      simp [execOp, hop, resolve, hc, Act.eval, Deferred.ofValue, invoke, callFunc, hfn, hf.2, hbody]
    unfold Oper.wp
    rw [hrun, Oper.upon_enter]
    refine (hI f _ s x s' (by simpa [opR] using hs) h (c.args.map a.eval) (by simpa using h1) ?_).mono ?_
    · intro j x' v hx hv
      simp only [List.getElem?_map, Option.map_eq_some_iff] at hx
      obtain ⟨r, hr, rfl⟩ := hx
      simp only [Array.getElem?_map, Option.map_eq_some_iff] at hv
      obtain ⟨y, hy, rfl⟩ := hv
      exact h2 j r y hr (by simpa using hy)
    · rintro e' w' ⟨v, μ', fr', rfl, hI, hr⟩
      exact hK v w' μ' fr' hI hr (fun hq => by simp [stillG, stillI] at hq)
  case callv st f l =>
    have hok : okCall P o.op (.callv st f l) = true := by
      have : okOq P o.op (.callv st f l) = false := okOq_callv

      simpa [this] using hok
    simp only [opR] at hs
    split at hs
    case h_2 => simp at hs
    rename_i g cs hg
    cases hop : o.op <;> simp only [hop, okCall, Bool.false_eq_true] at hok
    rename_i c
    split at hok
    case h_2 => simp at hok
    rename_i y hc
    simp only [Bool.and_eq_true] at hok
    obtain ⟨hy, hl⟩ := hok
    obtain ⟨h1, h2⟩ := okAL_rep h.env hl
    have hr := okA_rep h.env hy
    rw [hg] at hr
    have hf := hF g (callS_T hs)
    unfold okFn at hf
    split at hf
    case h_2 => simp at hf
    rename_i fn hfn
    simp only [Bool.and_eq_true, bne_iff_ne, ne_eq] at hf
    obtain ⟨body, hbody⟩ := Option.isSome_iff_exists.1 hf.1
    generalize hv : a.eval y = v at hr
    cases hr with
    | @fn _ _ us hl' hr' =>
      refine viaCall (l := l.map (Ar.ev e) ++ cs) (vs := c.args.map a.eval ++ us) (by simp [hl']; simpa using h1) ?_ hs rfl ?_
      · have hsz : (c.args.map a.eval).size = (l.map (Ar.ev e)).length := by simpa using h1.symm
        intro j x' v hx hv
        by_cases hj : j < (l.map (Ar.ev e)).length
        · rw [List.getElem?_append_left hj] at hx
          rw [Array.getElem?_append_left (by omega)] at hv
          simp only [List.getElem?_map, Option.map_eq_some_iff] at hx
          obtain ⟨r, hr, rfl⟩ := hx
          simp only [Array.getElem?_map, Option.map_eq_some_iff] at hv
          obtain ⟨y', hy', rfl⟩ := hv
          exact h2 j r y' hr (by simpa using hy')
        · rw [List.getElem?_append_right (by omega)] at hx
          rw [Array.getElem?_append_right (by omega), hsz] at hv
          exact hr' _ x' v hx hv
      · simp [execOp, hop, resolve, hc, hv, Deferred.ofValue, invoke, callFunc, hfn, hf.2, hbody]
  all_goals
    refine plainOp ?_ (by simpa [opR] using hs) rfl
    refine (Bool.or_eq_true _ _ ▸ hok).resolve_right ?_
    cases o.op <;> simp [okCall]
end
end Go.Proofs.YtoodknhlnifnlaaGreatDoor
