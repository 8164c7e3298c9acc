/- The engine, part W: code, and functions. -/
import Derived.Test.YtoodknhlnifnlaaGreatDoorV
import Derived.Scope
set_option linter.all false
set_option linter.unusedVariables false
set_option linter.unusedSimpArgs false
namespace Go.Proofs.YtoodknhlnifnlaaGreatDoor
open Go.RowKit
variable {P : Program}

def okC (P : Program) (nt : Nat) : Code → IC → Bool
  | .skip, .skip => true
  | .label _, .skip => true
  | .ret, .ret => true
  | .exit i, .exit j => i == j
  | .seq a b, .seq a' b' => okC P nt a a' && okC P nt b b'
  | .cond c a b, .cond c' a' b' => okA c c' && okC P nt a a' && okC P nt b b'
  | .block i c, .block j c' => i == j && okC P nt c c'
  | .loop c, .loop c' => okC P nt c c'
  | .scope c, .scope c' => okC P nt c c'
  | .region _ ops false, .ops gl => okGL P nt ops ops.toList gl
  | .region _ ops true, .dops ch js l m => okGL P nt ops ops.toList (l ++ m) && drawOK ops (l ++ m) l.length ch js
  | _, _ => false

noncomputable def least (p : Nat → Prop) : Nat := by
  classical
  exact if h : ∃ n, p n then (exists_min h.choose_spec).choose else 0
theorem least_spec {p : Nat → Prop} {n : Nat} (h : p n) : p (least p) ∧ least p ≤ n := by
  have hx : ∃ n, p n := ⟨n, h⟩
  have := (exists_min hx.choose_spec).choose_spec
  unfold least
  rw [dif_pos hx]
  refine ⟨this.2.1, ?_⟩
  by_cases hq : n < (exists_min hx.choose_spec).choose
  · exact absurd h (this.2.2 n hq)
  · omega

theorem wp_loop_n {c : Code} {Q : Exit → Act → World → Prop} {a : Act} {w : World} (J : Nat → Act → World → Prop) {n : Nat} (h : J n a w)
    (round : ∀ n a w, J n a w → c.wp P (Exit.then (fun a' w' => ∃ m, m < n ∧ J m a' w') Q) a w) : (Code.loop c).wp P Q a w := by
  refine wp_loop (fun a w => ∃ n, J n a w) (fun a w => least fun n => J n a w) ⟨n, h⟩ ?_
  rintro a w ⟨n, hn⟩
  have hl := least_spec (p := fun n => J n a w) hn
  refine Code.wp_mono ?_ (round _ a w hl.1)
  intro e a' w' he
  cases e with
  | normal =>
    obtain ⟨m, hm, hj⟩ := he
    exact ⟨⟨m, hj⟩, Nat.lt_of_le_of_lt (least_spec (p := fun n => J n a' w') hj).2 hm⟩
  | _ => exact he

section
variable {T : Nat → Option Fe} {w0 : Bs} {sh : Nat → Prop} {nt : Nat} {x : Env × Sto}

theorem code_sound (hC : TC T) (hm : P.follows .mixedOrders = true) (hF : ∀ f, (T f).isSome = true → okFn P f = true) :
    ∀ (n : Nat), (∀ m, m < n → CallOK P T m ∧ InlOK P T m) → ∀ {c : Code} {ic : IC} {k : List It} {μ : Nat → Nat} {fr : Nat → Prop} {e : Env} {s : Sto} {a : Act} {w : World}, okC P nt c ic = true →
    Inv w0 sh nt μ fr e s a w → runN T n (.code ic :: k) e s = some x → c.wp P (Qk T w0 sh nt n k x) a w := by
  intro n
  induction n using Nat.strongRecOn with
  | _ n ih =>
    intro hT c ic k μ fr e s a w hok h hr
    cases n with
    | zero => simp [runN] at hr
    | succ n =>
      have ih' : ∀ {m}, m ≤ n → ∀ {c : Code} {ic : IC} {k : List It} {μ : Nat → Nat} {fr : Nat → Prop} {e : Env} {s : Sto} {a : Act} {w : World}, okC P nt c ic = true →
          Inv w0 sh nt μ fr e s a w → runN T m (.code ic :: k) e s = some x → c.wp P (Qk T w0 sh nt m k x) a w :=
        fun hmn => ih _ (by omega) (fun q hq => hT q (by omega))
      unfold okC at hok
      split at hok
      · simp only [runN] at hr; exact wp_skip ⟨n, by omega, μ, fr, e, s, h, hr⟩
      · simp only [runN] at hr; exact wp_label ⟨n, by omega, μ, fr, e, s, h, hr⟩
      · simp only [runN, Option.some.injEq] at hr; subst hr; exact wp_ret ⟨μ, fr, h⟩
      · simp only [beq_iff_eq] at hok
        subst hok
        simp only [runN] at hr
        split at hr
        case h_2 => simp at hr
        rename_i k' hk
        exact wp_exit ⟨k', n, hk, by omega, μ, fr, e, s, h, hr⟩
      · rename_i a1 b1 a2 b2
        simp only [Bool.and_eq_true] at hok
        simp only [runN] at hr
        refine wp_seq (Code.wp_mono ?_ (ih' (Nat.le_refl n) hok.1 h hr))
        intro ex a' w' hq
        cases ex with
        | normal =>
          obtain ⟨m, hmn, μ', fr', e', s', h', hr'⟩ := hq
          exact Code.wp_mono (fun ex a' w' hq => hq.mono (by omega)) (ih' (by omega) hok.2 h' hr')
        | exit id =>
          obtain ⟨k', m, hk, hmn, hrest⟩ := hq
          exact ⟨k', m, by simpa [popTo] using hk, by omega, hrest⟩
        | ret => exact hq
        | _ => exact hq
      · simp only [Bool.and_eq_true] at hok
        obtain ⟨⟨hc, h1⟩, h2⟩ := hok
        simp only [runN] at hr
        split at hr
        case h_2 => simp at hr
        rename_i t hv
        have hrep := okA_rep h.env hc
        rw [hv] at hrep
        have hev := (rep_v hrep).1
        cases t with
        | true => exact wp_cond hev (Code.wp_mono (fun ex a' w' hq => hq.mono (by omega)) (ih' (Nat.le_refl n) h1 h hr))
        | false => exact wp_cond hev (Code.wp_mono (fun ex a' w' hq => hq.mono (by omega)) (ih' (Nat.le_refl n) h2 h hr))
      · rename_i i c1 j c2
        simp only [Bool.and_eq_true, beq_iff_eq] at hok
        obtain ⟨rfl, hok⟩ := hok
        simp only [runN] at hr
        refine wp_block (Code.wp_mono ?_ (ih' (Nat.le_refl n) hok h hr))
        intro ex a' w' hq
        cases ex with
        | normal =>
          obtain ⟨m, hmn, μ', fr', e', s', h', hr'⟩ := hq
          cases m with
          | zero => simp [runN] at hr'
          | succ m => exact ⟨m, by omega, μ', fr', e', s', h', by simpa only [runN] using hr'⟩
        | exit id =>
          obtain ⟨k', m, hk, hmn, hrest⟩ := hq
          simp only [Exit.inBlock]
          by_cases hid : id = i
          · subst hid
            simp only [popTo, beq_self_eq_true, if_true, Option.some.injEq] at hk
            subst hk
            rw [if_pos rfl]
            exact ⟨m, by omega, hrest⟩
          · rw [if_neg hid]
            refine ⟨k', m, ?_, by omega, hrest⟩
            have : (id == i) = false := by simpa using hid
            have h2 : (i == id) = false := by simpa using fun h => hid h.symm
            simpa [popTo, this, h2] using hk
        | ret => exact hq
        | _ => exact hq
      · rename_i c1 c2
        simp only [runN] at hr
        refine wp_loop_n (fun m a w => m ≤ n ∧ ∃ μ fr e s, Inv w0 sh nt μ fr e s a w ∧ runN T m (.code c2 :: .lp c2 :: k) e s = some x) ⟨Nat.le_refl n, μ, fr, e, s, h, hr⟩ ?_
        rintro m a w ⟨hmn, μ, fr, e, s, h, hr⟩
        refine Code.wp_mono ?_ (ih' hmn hok h hr)
        intro ex a' w' hq
        cases ex with
        | normal =>
          obtain ⟨m', hm', μ', fr', e', s', h', hr'⟩ := hq
          cases m' with
          | zero => simp [runN] at hr'
          | succ m' => exact ⟨m', by omega, by omega, μ', fr', e', s', h', by simpa only [runN] using hr'⟩
        | exit id =>
          obtain ⟨k', m', hk, hmn', hrest⟩ := hq
          exact ⟨k', m', by simpa [popTo] using hk, by omega, hrest⟩
        | ret => exact hq
        | _ => exact hq
      · simp only [runN] at hr
        refine wp_scope_straight (Code.wp_mono ?_ (ih' (Nat.le_refl n) hok h hr))
        intro ex a' w' hq
        cases ex with
        | goto => exact hq
        | _ => exact Qk.mono (Nat.le_succ n) hq
      · simp only [runN] at hr
        exact wp_region_list (ops_list hF hok (by omega) hT h hr)
      · rename_i ops ch js l m
        simp only [Bool.and_eq_true] at hok
        have hD := drawOK_spec hok.2
        simp only [runN] at hr
        obtain ⟨xs, ss, hs0, hxs, c, hcn, hr'⟩ := text_order (N := n + 1) hD (Nat.le_succ n) hr l.length (Nat.le_refl _)
        rw [List.drop_length] at hr'
        cases c with
        | zero => simp [runN] at hr'
        | succ c =>
        simp only [runN] at hr'
        cases c with
        | zero => simp [runN] at hr'
        | succ c =>
        simp only [runN] at hr'
        split at hr'
        case isFalse => simp at hr'
        rename_i hchk
        simp only [chkB, Bool.and_eq_true, List.all_eq_true, beq_iff_eq] at hchk
        obtain ⟨hch, hjs⟩ := hchk
        have hnone : ∀ j, ¬ (Array.replicate ops.size false).getD j true = true ∨ ops.size ≤ j := by
          intro j
          by_cases hj : j < ops.size
          · left; simp [Array.getD_eq_getD_getElem?, hj]
          · right; omega
        refine wp_region_any hm (draw_any hC hF hT hD hok.1 hxs (fun t ht o ho => by rw [hs0]; exact hch t ht o ho) ?_ (n := c) (by omega) (by rw [List.drop_left]; exact hr') (by simp) ?_ ?_ ?_ (?_ : Inv w0 sh nt μ fr _ _ a _))
        · intro j g d hj hjp hg hd
          rw [List.getElem?_append_left hjp] at hg
          have := hjs g (List.mem_filterMap.2 ⟨j, hj, hg⟩)
          rw [hd, hs0.symm] at this
          split at this
          · rename_i d' x1 s1 y1 s2 e0 e1 e2
            injection e0 with e0
            subst e0
            simp only [Bool.and_eq_true] at this
            exact ⟨x1, y1, s1, s2, e1, e2, sameV_eq this.1, sameV_eq this.2⟩
          · simp at this
        · rw [Array.count_replicate_self]; exact Nat.le_refl _
        · intro j hj hq
          rcases hnone j with h1 | h1
          · exact absurd hq h1
          · have := hD.size; omega
        · intro i j h1
          exfalso
          by_cases hi : i < ops.size <;> simp [Array.getD_eq_getD_getElem?, hi] at h1
        · rw [envL_ext (L' := fun _ => False) (fun j hj => ⟨fun hq => by
            rcases hnone j with h1 | h1
            · exact h1 hq
            · have := hD.size; omega, fun h => h.elim⟩) hD, envL_none (fun _ h => h)]
          have : SL ss (fun j => (Array.replicate ops.size false).getD j true = true) l.length = s := by
            funext o
            rw [SL_agree (i := 0) (fun j hj _ => ⟨fun hq => by
              rcases hnone j with h1 | h1
              · exact absurd hq h1
              · have := hD.size; simp at this; omega, fun h => absurd h (Nat.not_lt_zero j)⟩), Nat.min_zero, hs0]
          rw [this]
          exact h.drew
      · simp at hok
end

/-! ### functions -/
def okRes (P : Program) : List ResultVar → List Res → Bool
  | [], [] => true
  | .tmp t :: l, .tmp t' :: m => t == t' && okRes P l m
  | .cell a t :: l, .cell a' w ag :: m => a == a' && szB P t w && aggB P t ag && okRes P l m
  | _, _ => false
def okBody (P : Program) (f nt : Nat) (res : List Res) (body : IC) : Bool := match P.funcs[f]? with
  | some fn => (match fn.body with
    | some c => okC P nt c body
    | none => false) && fn.ntmps == nt && okRes P fn.results.toList res
  | none => false

theorem Sem.run_pure {α : Type} {P : Program} {w : World} (x : α) : (pure x : Sem α).run P w = .ok x w := rfl

def resV (tmps : Array Value) : ResultVar → Sem Value
  | .tmp t => pure (tmps.getD t undef)
  | .cell a t => do loadVar t (← asAddr (tmps.getD a undef))
def tupV : List Value → Value
  | [v] => v
  | vs => .tuple vs.toArray
theorem results_eq (fn : Func) (tmps : Array Value) : results fn tmps = (do
    let vs ← fn.results.toList.mapM (resV tmps)
    pure (tupV vs)) := by
  unfold results
  rw [Array.mapM_eq_mapM_toList]
  simp only [map_eq_pure_bind, bind_assoc, pure_bind]
  congr 1
  congr 1
  funext vs
  rcases vs with _ | ⟨v, _ | ⟨u, vs⟩⟩
  · rfl
  · rfl
  · rfl


section
variable {w0 : Bs} {sh : Nat → Prop} {nt : Nat} {μ : Nat → Nat} {fr : Nat → Prop} {e : Env} {s : Sto} {a : Act} {w : World}
theorem resL_run (h : Inv w0 sh nt μ fr e s a w) (N : List Nat) :
    ∀ {l : List ResultVar} {m : List Res} {xs : List X}, okRes P l m = true → resL e s m = some xs → (∀ o ∈ resN e s m, o ∈ N) →
    ∃ vs, (l.mapM (resV a.tmps)).run P w = .ok vs w ∧ xs.length = vs.length ∧ ∀ (j : Nat) y v, xs[j]? = some y → vs[j]? = some v → Rep (cxf μ s w sh fr N) y v ∧ y.deep = true := by
  intro l
  induction l with
  | nil =>
    intro m xs hok hr _
    cases m with
    | cons => simp [okRes] at hok
    | nil =>
      simp only [resL, Option.some.injEq] at hr
      subst hr
      exact ⟨[], rfl, rfl, by simp⟩
  | cons r l ih =>
    intro m xs hok hr hN
    cases m with
    | nil => cases r <;> simp [okRes] at hok
    | cons q m =>
      simp only [resL] at hr
      split at hr
      case h_2 => simp at hr
      rename_i y ys hy hys
      injection hr with hr
      subst hr
      have one : ∃ v, (resV a.tmps r).run P w = .ok v w ∧ Rep (cxf μ s w sh fr N) y v ∧ y.deep = true := by
        cases r with
        | tmp t =>
          cases q with
          | cell => simp [okRes] at hok
          | tmp t' =>
            simp only [okRes, Bool.and_eq_true, beq_iff_eq] at hok
            obtain ⟨rfl, _⟩ := hok
            exact ⟨_, rfl, h.dpC (h.env t) (by simpa [resX] using hy) (fun o ho => hN o (by simp [resN, ho]))⟩
        | cell t ty =>
          cases q with
          | tmp => simp [okRes] at hok
          | cell t' k ag =>
            simp only [okRes, Bool.and_eq_true, beq_iff_eq] at hok
            obtain ⟨⟨⟨rfl, h1⟩, h2⟩, _⟩ := hok
            simp only [resX] at hy
            split at hy
            case h_2 => simp at hy
            rename_i z hz
            obtain ⟨ad, u, hv, hu, hu'⟩ := ldX_run (P := P) h (h.env t) hz h1 h2
            refine ⟨u, ?_, h.dpC hu' hy (fun o ho => hN o (by simp [resN, hz, ho]))⟩
            simp [resV, hv, asAddr, hu]
      obtain ⟨v, hv, hrep⟩ := one
      obtain ⟨vs, h1, h2, h3⟩ := ih (m := m) (by cases r <;> cases q <;> simp [okRes] at hok <;> first | exact hok.2 | (simp [okRes, hok])) hys (fun o ho => hN o (by cases q <;> simp [resN, ho]))
      refine ⟨v :: vs, ?_, by simp [h2], ?_⟩
      · simp [hv, h1]
      · intro j y' v' hj hv'
        cases j with
        | zero => simp at hj hv'; subst hj; subst hv'; exact hrep
        | succ j => exact h3 j y' v' (by simpa using hj) (by simpa using hv')

theorem resT_run (h : Inv w0 sh nt μ fr e s a w) {fn : Func} {m : List Res} {r : X} (hok : okRes P fn.results.toList m = true) (hr : resT e s m = some r) :
    ∃ v, (results fn a.tmps).run P w = .ok v w ∧ Rep (cxf μ s w sh fr (resN e s m)) r v ∧ r.deep = true := by
  have hl : ∃ xs, resL e s m = some xs ∧ (match xs with
      | [x] => x
      | xs => X.tup xs) = r ∧ xs.length = m.length := by
    unfold resT at hr
    split at hr
    · exact ⟨[r], by simp [resL, hr], rfl, rfl⟩
    · rename_i hne
      split at hr
      case h_2 => simp at hr
      rename_i xs hxs
      injection hr with hr
      have hlen : xs.length = m.length := by
        clear hok hne hr h
        induction m generalizing xs with
        | nil => simp only [resL, Option.some.injEq] at hxs; subst hxs; rfl
        | cons q m ih =>
          simp only [resL] at hxs
          split at hxs
          case h_2 => simp at hxs
          rename_i hm
          injection hxs with hxs
          subst hxs
          simp [ih _ hm]
      refine ⟨xs, hxs, ?_, hlen⟩
      rcases xs with _ | ⟨x, _ | ⟨y, xs⟩⟩
      · exact hr
      · rcases m with _ | ⟨q, _ | ⟨q', m⟩⟩
        · simp at hlen
        · exact absurd rfl (hne q)
        · simp at hlen
      · exact hr
  obtain ⟨xs, hxs, hx, _⟩ := hl
  obtain ⟨vs, h1, h2, h3⟩ := resL_run h (resN e s m) hok hxs (fun _ h => h)
  refine ⟨tupV vs, ?_, ?_⟩
  · rw [results_eq]
    simp only [Sem.run_bind, h1]
    rfl
  · rcases xs with _ | ⟨x, _ | ⟨y, xs⟩⟩
    · rcases vs with _ | ⟨v, vs⟩
      · simp only at hx; subst hx
        exact ⟨.tup rfl (by simp), rfl⟩
      · simp at h2
    · rcases vs with _ | ⟨v, _ | ⟨u, vs⟩⟩
      · simp at h2
      · simp only at hx; subst hx
        exact h3 0 x v rfl rfl
      · simp at h2
    · rcases vs with _ | ⟨v, _ | ⟨u, vs⟩⟩
      · simp at h2
      · simp at h2
      · simp only at hx; subst hx
        refine ⟨.tup (by simpa using h2) ?_, ?_⟩
        · intro j c v' hj hv'
          exact (h3 j c v' hj (by simpa using hv')).1
        · simp only [X.deep]
          refine deepL_mem.2 fun c hc => ?_
          obtain ⟨j, hj⟩ := List.getElem?_of_mem hc
          have hjl : j < (v :: u :: vs).length := by have := (List.getElem?_eq_some_iff.1 hj).1; omega
          exact (h3 j c _ hj (List.getElem?_eq_getElem hjl)).2
end

section
variable {w0 : Bs} {sh : Nat → Prop} {nt : Nat} {μ : Nat → Nat} {fr : Nat → Prop} {e : Env} {s : Sto} {a : Act} {w : World}
theorem resIL_run (h : Inv w0 sh nt μ fr e s a w) :
    ∀ {l : List ResultVar} {m : List Res} {xs : List X}, okRes P l m = true → resIL e s m = some xs →
    ∃ vs, (l.mapM (resV a.tmps)).run P w = .ok vs w ∧ xs.length = vs.length ∧ ∀ (j : Nat) y v, xs[j]? = some y → vs[j]? = some v → Rep (cxo μ s w sh fr) y v := by
  intro l
  induction l with
  | nil =>
    intro m xs hok hr
    cases m with
    | cons => simp [okRes] at hok
    | nil =>
      simp only [resIL, Option.some.injEq] at hr
      subst hr
      exact ⟨[], rfl, rfl, by simp⟩
  | cons r l ih =>
    intro m xs hok hr
    cases m with
    | nil => cases r <;> simp [okRes] at hok
    | cons q m =>
      simp only [resIL] at hr
      split at hr
      case h_2 => simp at hr
      rename_i y ys hy hys
      injection hr with hr
      subst hr
      have one : ∃ v, (resV a.tmps r).run P w = .ok v w ∧ Rep (cxo μ s w sh fr) y v := by
        cases r with
        | tmp t =>
          cases q with
          | cell => simp [okRes] at hok
          | tmp t' =>
            simp only [okRes, Bool.and_eq_true, beq_iff_eq] at hok
            obtain ⟨rfl, _⟩ := hok
            simp only [resIX, Option.some.injEq] at hy
            subst hy
            exact ⟨_, rfl, h.env t⟩
        | cell t ty =>
          cases q with
          | tmp => simp [okRes] at hok
          | cell t' k ag =>
            simp only [okRes, Bool.and_eq_true, beq_iff_eq] at hok
            obtain ⟨⟨⟨rfl, h1⟩, h2⟩, _⟩ := hok
            simp only [resIX] at hy
            obtain ⟨ad, u, hv, hu, hu'⟩ := ldX_run (P := P) h (h.env t) hy h1 h2
            exact ⟨u, by simp [resV, hv, asAddr, hu], hu'⟩
      obtain ⟨v, hv, hrep⟩ := one
      obtain ⟨vs, h1, h2, h3⟩ := ih (m := m) (by cases r <;> cases q <;> simp [okRes] at hok <;> first | exact hok.2 | (simp [okRes, hok])) hys
      refine ⟨v :: vs, ?_, by simp [h2], ?_⟩
      · simp [hv, h1]
      · intro j y' v' hj hv'
        cases j with
        | zero => simp at hj hv'; subst hj; subst hv'; exact hrep
        | succ j => exact h3 j y' v' (by simpa using hj) (by simpa using hv')

theorem resI_run (h : Inv w0 sh nt μ fr e s a w) {fn : Func} {m : List Res} {r : X} (hok : okRes P fn.results.toList m = true) (hr : resI e s m = some r) :
    ∃ v, (results fn a.tmps).run P w = .ok v w ∧ Rep (cxo μ s w sh fr) r v := by
  have hl : ∃ xs, resIL e s m = some xs ∧ (match xs with
      | [x] => x
      | xs => X.tup xs) = r ∧ xs.length = m.length := by
    unfold resI at hr
    split at hr
    · exact ⟨[r], by simp [resIL, hr], rfl, rfl⟩
    · rename_i hne
      split at hr
      case h_2 => simp at hr
      rename_i xs hxs
      injection hr with hr
      have hlen : xs.length = m.length := by
        clear hok hne hr h
        induction m generalizing xs with
        | nil => simp only [resIL, Option.some.injEq] at hxs; subst hxs; rfl
        | cons q m ih =>
          simp only [resIL] at hxs
          split at hxs
          case h_2 => simp at hxs
          rename_i hm
          injection hxs with hxs
          subst hxs
          simp [ih _ hm]
      refine ⟨xs, hxs, ?_, hlen⟩
      rcases xs with _ | ⟨x, _ | ⟨y, xs⟩⟩
      · exact hr
      · rcases m with _ | ⟨q, _ | ⟨q', m⟩⟩
        · simp at hlen
        · exact absurd rfl (hne q)
        · simp at hlen
      · exact hr
  obtain ⟨xs, hxs, hx, _⟩ := hl
  obtain ⟨vs, h1, h2, h3⟩ := resIL_run h hok hxs
  refine ⟨tupV vs, ?_, ?_⟩
  · rw [results_eq]
    simp only [Sem.run_bind, h1]
    rfl
  · rcases xs with _ | ⟨x, _ | ⟨y, xs⟩⟩
    · rcases vs with _ | ⟨v, vs⟩
      · simp only at hx; subst hx
        exact .tup rfl (by simp)
      · simp at h2
    · rcases vs with _ | ⟨v, _ | ⟨u, vs⟩⟩
      · simp at h2
      · simp only at hx; subst hx
        exact h3 0 x v rfl rfl
      · simp at h2
    · rcases vs with _ | ⟨v, _ | ⟨u, vs⟩⟩
      · simp at h2
      · simp at h2
      · simp only at hx; subst hx
        refine .tup (by simpa using h2) ?_
        intro j c v' hj hv'
        exact h3 j c v' hj (by simpa using hv')
end

theorem env_ini {C : Cx} {xs : List X} {vs : Array Value} {k : Nat} (hl : xs.length = vs.size) (hv : ∀ (j : Nat) x v, xs[j]? = some x → vs[j]? = some v → Rep C x v) :
    EnvR C (ini xs) { tmps := vs ++ Array.replicate k undef, defers := [] } := by
  intro j
  by_cases hj : j < xs.length
  · have hjv : j < vs.size := by omega
    have := hv j xs[j] vs[j] (List.getElem?_eq_getElem hj) (Array.getElem?_eq_getElem hjv)
    simp only [ini, List.getD_eq_getElem?_getD, List.getElem?_eq_getElem hj, Option.getD_some]
    simp only [Array.getD_eq_getD_getElem?, Array.getElem?_append_left hjv, Array.getElem?_eq_getElem hjv, Option.getD_some]
    exact this
  · simp only [ini, List.getD_eq_getElem?_getD, List.getElem?_eq_none (Nat.le_of_not_lt hj), Option.getD_none]
    exact .junk

/-- The engine is sound: a table of functions that passes the test. -/
theorem sound {T : Nat → Option Fe} (hm : P.follows .mixedOrders = true) (hF : ∀ f, (T f).isSome = true → okFn P f = true)
    (hB : ∀ f nt res body, T f = some (.code nt res body) ∨ T f = some (.codez nt res body) → okBody P f nt res body = true)
    (hX : ∀ f F xs r, T f = some (.ext F) → F xs = some r → PureAt P f xs r) (hC : TC T) (hXI : ∀ f F xs s r s', T f = some (.extI F) → F xs s = some (r, s') → InlAt P f xs s r s') : ∀ n, CallOK P T n ∧ InlOK P T n := by
  intro n
  induction n using Nat.strongRecOn with
  | _ n ih =>
    have bodyOf : ∀ {f nt res body}, T f = some (.code nt res body) ∨ T f = some (.codez nt res body) → ∃ fn c, P.funcs[f]? = some fn ∧ fn.body = some c ∧ okC P nt c body = true ∧ fn.ntmps = nt ∧ okRes P fn.results.toList res = true := by
      intro f nt res body hT
      have hb := hB f nt res body hT
      unfold okBody at hb
      split at hb
      case h_2 => simp at hb
      rename_i fn hfn
      simp only [Bool.and_eq_true, beq_iff_eq] at hb
      obtain ⟨⟨hb, hnt⟩, hres⟩ := hb
      split at hb
      case h_2 => simp at hb
      rename_i c hbody
      exact ⟨fn, c, hfn, hbody, hb, hnt, hres⟩
    refine ⟨?_, ?_⟩
    · intro f xs r hc
      unfold callA at hc
      split at hc
      · simp at hc
      · rename_i F hT; exact hX f F xs r hT hc
      · simp at hc
      · simp at hc
      · rename_i nt res body hT
        split at hc
        case isFalse => simp at hc
        rename_i hlen
        split at hc
        case h_2 => simp at hc
        rename_i e s hr
        intro w sh vs hgok hsh hl hv
        obtain ⟨fn, c, hfn, hbody, hb, hnt, hres⟩ := bodyOf (.inl hT)
        refine calls_of_wp hfn hbody (Code.wp_mono ?_ (code_sound hC (x := (e, s)) (w0 := ⟨w, cxo (fun _ => 0) s0 w sh (fun _ => False), hgok⟩) (sh := sh) (nt := nt) (μ := fun _ => 0) (fr := fun _ => False) hm hF n ih hb ?_ hr))
        · have fin : ∀ a' w' μ fr, Inv ⟨w, cxo (fun _ => 0) s0 w sh (fun _ => False), hgok⟩ sh nt μ fr e s a' w' → a'.defers = [] ∧ ∃ v, (results fn a'.tmps).run P w' = .ok v w' ∧
              (fun (e : Ending) w' => ∃ v fr', e = .returned v ∧ Below w.heap.size w w' ∧ (∀ b, fr' b → w.heap.size ≤ b ∧ b < w'.heap.size) ∧ Rep (cx0 w' sh fr') r v ∧ r.deep = true) (.returned v) w' := by
            intro a' w' μ fr h
            obtain ⟨v, h1, h2, h3⟩ := resT_run h hres hc
            have hI := (h.frz (resN e s res)).1
            exact ⟨h.defers, v, h1, v, _, rfl, h.below, hI.fr_lt, h2.deep_mono h3 (fun _ _ _ _ h => h) (fun _ _ _ h => h) (fun _ h => .inl h) (fun _ h => h), h3⟩
          intro ex a' w' hq
          cases ex with
          | normal =>
            obtain ⟨m, hmn, μ, fr, e', s', h, hr'⟩ := hq
            cases m with
            | zero => simp [runN] at hr'
            | succ m =>
              simp only [runN, Option.some.injEq, Prod.mk.injEq] at hr'
              obtain ⟨rfl, rfl⟩ := hr'
              exact fin _ _ _ _ h
          | ret => obtain ⟨μ, fr, h⟩ := hq; exact fin _ _ _ _ h
          | exit id => obtain ⟨k', m, hk, _⟩ := hq; simp [popTo] at hk
          | _ => exact hq.elim
        · refine ⟨Below.refl _ _, hsh, by simp, ?_, ?_, ?_, ?_, rfl, ?_, Cx.Le.refl _⟩
          · intro o ob ho; simp [s0] at ho
          · intro o o' ho; simp [s0] at ho
          · intro o ho; simp [s0] at ho
          · exact env_ini hl hv
          · simp; omega
    · intro f xs s r s' hc w0 sh nt μ fr e a w h vs hl hv
      unfold callI at hc
      split at hc
      case h_4 => simp at hc
      case h_3 => rename_i F hF; exact hXI f F xs s r s' hF hc h vs hl hv
      case h_1 =>
        rename_i nt' res body hT
        split at hc
        case isFalse => simp at hc
        rename_i hlen
        split at hc
        case h_2 => simp at hc
        rename_i e' s2 hr
        split at hc
        case h_2 => simp at hc
        rename_i r' hres'
        simp only [Option.some.injEq, Prod.mk.injEq] at hc
        obtain ⟨rfl, rfl⟩ := hc
        obtain ⟨fn, c, hfn, hbody, hb, hnt, hres⟩ := bodyOf (.inl hT)
        refine calls_of_wp hfn hbody (Code.wp_mono ?_ (code_sound hC (x := (e', s2)) (w0 := ⟨w0.toWorld, cxo μ s w sh fr, w0.gok⟩) (sh := sh) (nt := nt') (μ := μ) (fr := fr) hm hF n ih hb ?_ hr))
        · have fin : ∀ a' w' μ' fr', Inv ⟨w0.toWorld, cxo μ s w sh fr, w0.gok⟩ sh nt' μ' fr' e' s2 a' w' → a'.defers = [] ∧ ∃ v, (results fn a'.tmps).run P w' = .ok v w' ∧
              (fun (e1 : Ending) w' => ∃ v μ' fr', e1 = .returned v ∧ Inv w0 sh nt μ' fr' e s2 a w' ∧ Rep (cxo μ' s2 w' sh fr') r' v) (.returned v) w' := by
            intro a' w' μ' fr' hI
            obtain ⟨v, h1, h2⟩ := resI_run hI hres hres'
            exact ⟨hI.defers, v, h1, v, μ', fr', rfl, ⟨hI.below, hI.sh_lt, hI.fr_lt, hI.obj, hI.inj, hI.live, fun n => (h.env n).mono hI.base, h.defers, h.size, h.base.trans hI.base⟩, h2⟩
          intro ex a' w' hq
          cases ex with
          | normal =>
            obtain ⟨m, hmn, μ, fr, e2, s2, h, hr'⟩ := hq
            cases m with
            | zero => simp [runN] at hr'
            | succ m =>
              simp only [runN, Option.some.injEq, Prod.mk.injEq] at hr'
              obtain ⟨rfl, rfl⟩ := hr'
              exact fin _ _ _ _ h
          | ret => obtain ⟨μ, fr, h⟩ := hq; exact fin _ _ _ _ h
          | exit id => obtain ⟨k', m, hk, _⟩ := hq; simp [popTo] at hk
          | _ => exact hq.elim
        · exact ⟨h.below, h.sh_lt, h.fr_lt, h.obj, h.inj, h.live, env_ini hl hv, rfl, by simp; omega, Cx.Le.refl _⟩
      case h_2 =>
        rename_i nt' res body hT
        split at hc
        case isFalse => simp at hc
        rename_i hlen
        split at hc
        case h_2 => simp at hc
        rename_i e' s2 hr
        split at hc
        case h_2 => simp at hc
        rename_i r' hres'
        simp only [Option.some.injEq, Prod.mk.injEq] at hc
        obtain ⟨rfl, rfl⟩ := hc
        obtain ⟨fn, c, hfn, hbody, hb, hnt, hres⟩ := bodyOf (.inr hT)
        refine calls_of_wp hfn hbody (Code.wp_mono ?_ (code_sound hC (x := (e', s2)) (w0 := ⟨w0.toWorld, cxo μ s w sh fr, w0.gok⟩) (sh := sh) (nt := nt') (μ := μ) (fr := fr) hm hF n ih hb ?_ hr))
        · have fin : ∀ a' w' μ' fr', Inv ⟨w0.toWorld, cxo μ s w sh fr, w0.gok⟩ sh nt' μ' fr' e' s2 a' w' → a'.defers = [] ∧ ∃ v, (results fn a'.tmps).run P w' = .ok v w' ∧
              (fun (e1 : Ending) w' => ∃ v μ' fr', e1 = .returned v ∧ Inv w0 sh nt μ' fr' e (frz s2 (resN e' s2 res)) a w' ∧ Rep (cxo μ' (frz s2 (resN e' s2 res)) w' sh fr') r' v) (.returned v) w' := by
            intro a' w' μ' fr' hI
            obtain ⟨v, h1, h2, _⟩ := resT_run hI hres hres'
            have hZ := (hI.frz (resN e' s2 res)).1
            exact ⟨hI.defers, v, h1, v, μ', _, rfl, ⟨hZ.below, hZ.sh_lt, hZ.fr_lt, hZ.obj, hZ.inj, hZ.live, fun n => (h.env n).mono hZ.base, h.defers, h.size, h.base.trans hZ.base⟩, h2⟩
          intro ex a' w' hq
          cases ex with
          | normal =>
            obtain ⟨m, hmn, μ, fr, e2, s2, h, hr'⟩ := hq
            cases m with
            | zero => simp [runN] at hr'
            | succ m =>
              simp only [runN, Option.some.injEq, Prod.mk.injEq] at hr'
              obtain ⟨rfl, rfl⟩ := hr'
              exact fin _ _ _ _ h
          | ret => obtain ⟨μ, fr, h⟩ := hq; exact fin _ _ _ _ h
          | exit id => obtain ⟨k', m, hk, _⟩ := hq; simp [popTo] at hk
          | _ => exact hq.elim
        · exact ⟨h.below, h.sh_lt, h.fr_lt, h.obj, h.inj, h.live, env_ini hl hv, rfl, by simp; omega, Cx.Le.refl _⟩

theorem call_pure {T : Nat → Option Fe} (hm : P.follows .mixedOrders = true) (hF : ∀ f, (T f).isSome = true → okFn P f = true)
    (hB : ∀ f nt res body, T f = some (.code nt res body) ∨ T f = some (.codez nt res body) → okBody P f nt res body = true)
    (hX : ∀ f F xs r, T f = some (.ext F) → F xs = some r → PureAt P f xs r) (hC : TC T) (hXI : ∀ f F xs s r s', T f = some (.extI F) → F xs s = some (r, s') → InlAt P f xs s r s') {f : Nat} {xs : List X} {r : X} (h : call T f xs = some r) : PureAt P f xs r := by
  obtain ⟨n, hn⟩ := callA_run.1 h
  exact (sound hm hF hB hX hC hXI n).1 f xs r hn
end Go.Proofs.YtoodknhlnifnlaaGreatDoor
