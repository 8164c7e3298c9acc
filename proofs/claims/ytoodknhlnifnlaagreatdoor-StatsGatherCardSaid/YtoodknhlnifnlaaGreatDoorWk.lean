/- The engine, part Wk: rules by which a proof walks through a function's code. -/
import Derived.Test.YtoodknhlnifnlaaGreatDoorR
set_option linter.all false
set_option linter.unusedVariables false
set_option linter.unusedSimpArgs false
namespace Go.Proofs.YtoodknhlnifnlaaGreatDoor
open Go.RowKit

theorem ownA_run {T : Nat → Option Fe} {p : List Nat} {f : Nat} {xs : List X} {x : X × Option (Nat × List X)} : ownA (run T) T p f xs = some x ↔ ∃ n, ownA (runN T n) T p f xs = some x := by
  constructor
  · intro h
    unfold ownA at h
    split at h
    case h_2 => simp at h
    rename_i nt res body hF
    split at h
    case isFalse => simp at h
    rename_i hn
    split at h
    case h_2 => simp at h
    rename_i hr
    obtain ⟨n, hn'⟩ := run_some hr
    exact ⟨n, by simp only [ownA, hF, hn, hn', if_true]; exact h⟩
  · rintro ⟨n, h⟩
    exact ownA_mono (fun its e s x hx => run_of hx) h
theorem opR_run {T : Nat → Option Fe} {op : IOp} {e : Env} {s : Sto} {x : X × Sto} : opR (run T) T op e s = some x ↔ ∃ n, opR (runN T n) T op e s = some x := by
  have hS : ∀ {st f l}, callS (run T) T st f l s = some x ↔ ∃ n, callS (runN T n) T st f l s = some x := by
    intro st f l
    constructor
    · intro h
      unfold callS at h
      split at h
      · simp at h
      · rename_i xs hx
        split at h
        · simp at h
        · rename_i r hr
          obtain ⟨n, hn⟩ := callA_run.1 hr
          exact ⟨n, by simp only [callS, hx, hn]; exact h⟩
    · rintro ⟨n, h⟩
      exact callS_mono (fun its e s x hx => run_of hx) h
  constructor
  · intro h
    unfold opR at h
    split at h
    · obtain ⟨n, hn⟩ := hS.1 h; exact ⟨n, hn⟩
    · split at h
      · rename_i hf
        obtain ⟨n, hn⟩ := hS.1 h
        exact ⟨n, by simp only [opR, hf]; exact hn⟩
      · simp at h
    · obtain ⟨n, hn⟩ := callI_run.1 h; exact ⟨n, hn⟩
    · rename_i f l
      unfold callB at h
      split at h
      · simp at h
      · rename_i xs hx
        split at h
        · simp at h
        · rename_i r hr
          obtain ⟨n, hn⟩ := callA_run.1 hr
          exact ⟨n, by simp only [opR, callB, hx, hn]; exact h⟩
    · unfold callO at h
      split at h
      · simp at h
      · rename_i xs hx
        cases ho : ownA (run T) T _ _ xs with
        | none => rw [ho] at h; simp [callOR] at h
        | some y =>
          obtain ⟨n, hn⟩ := ownA_run.1 ho
          refine ⟨n, ?_⟩
          simp only [opR, callO, hx, hn]
          rw [ho] at h
          exact h
    · split at h
      · rename_i hf
        obtain ⟨n, hn⟩ := callI_run.1 h
        exact ⟨n, by simp only [opR, hf]; exact hn⟩
      · simp at h
    · refine ⟨0, ?_⟩
      unfold opR
      split
      · simp [stepO] at h
      · simp [stepO] at h
      · simp [stepO] at h
      · simp [stepO] at h
      · simp [stepO] at h
      · simp [stepO] at h
      · exact h
  · rintro ⟨n, h⟩
    exact opR_mono (fun its e s x hx => run_of hx) h

theorem run_ops_eq {T : Nat → Option Fe} {o : GOp} {l : List GOp} {k : List It} {e : Env} {s : Sto} : run T (.ops (o :: l) :: k) e s = match gd o e with
    | some true => (match opR (run T) T o.op e s with
      | some (x, s') => run T (.ops l :: k) (put e o.d x) s'
      | none => none)
    | some false => run T (.ops l :: k) (put e o.d (.tup [])) s
    | none => none := by
  have nn : ∀ {its : List It} {e : Env} {s : Sto}, (∀ n, runN T (n + 1) its e s = none) → run T its e s = none := by
    intro its e s h
    cases hr : run T its e s with
    | none => rfl
    | some x =>
      obtain ⟨n, hn⟩ := run_some hr
      have := runN_succ T n _ _ _ _ hn
      rw [h n] at this
      simp at this
  cases hg : gd o e with
  | none => exact nn fun n => by rw [runN]; simp only [hg]
  | some g =>
    cases g with
    | false => exact run_off hg
    | true =>
      simp only
      cases ho : opR (run T) T o.op e s with
      | some p =>
        obtain ⟨x, s'⟩ := p
        obtain ⟨m, hm⟩ := opR_run.1 ho
        simp only
        apply run_ext
        intro y
        constructor
        · rintro ⟨n, hn⟩
          have hn := runN_le T (Nat.le_add_right n (m + 1)) _ _ _ _ hn
          rw [show n + (m + 1) = (n + m) + 1 by omega, runN] at hn
          simp only [hg, opR_mono (runN_le T (by omega : m ≤ n + m)) hm] at hn
          exact ⟨_, hn⟩
        · rintro ⟨n, hn⟩
          have hn := runN_le T (Nat.le_add_right n m) _ _ _ _ hn
          refine ⟨n + m + 1, ?_⟩
          rw [runN]
          simp only [hg, opR_mono (runN_le T (by omega : m ≤ n + m)) hm]
          exact hn
      | none =>
        refine nn fun n => ?_
        rw [runN]
        simp only [hg]
        split
        · rename_i h
          rw [opR_run.2 ⟨n, h⟩] at ho
          simp at ho
        · rfl

/-- The run goes on to an end of which Q holds. -/
def wp (T : Nat → Option Fe) (its : List It) (e : Env) (s : Sto) (Q : Env → Sto → Prop) : Prop := ∃ e' s', run T its e s = some (e', s') ∧ Q e' s'
def wpC (T : Nat → Option Fe) (x : X) (a b : IC) (k : List It) (e : Env) (s : Sto) (Q : Env → Sto → Prop) : Prop :=
  match x with
  | .v (.bool t) => wp T (.code (cond t a b) :: k) e s Q
  | _ => False
def wpR (T : Nat → Option Fe) (r : Option (X × Sto)) (d : Option Nat) (l : List GOp) (k : List It) (e : Env) (Q : Env → Sto → Prop) : Prop :=
  match r with
  | some (x, s') => wp T (.ops l :: k) (put e d x) s' Q
  | none => False
def wpG (T : Nat → Option Fe) (x : X) (b : Bool) (d : Option Nat) (op : IOp) (l : List GOp) (k : List It) (e : Env) (s : Sto) (Q : Env → Sto → Prop) : Prop :=
  match x with
  | .v (.bool c) => if c = b then wpR T (opR (run T) T op e s) d l k e Q else wp T (.ops l :: k) (put e d (.tup [])) s Q
  | .tup [] => wp T (.ops l :: k) (put e d (.tup [])) s Q
  | _ => False
def wpK (T : Nat → Option Fe) (c : Bool) (k : List It) (e : Env) (s : Sto) (Q : Env → Sto → Prop) : Prop := c = true ∧ wp T k e s Q

section
variable {T : Nat → Option Fe} {k : List It} {e : Env} {s : Sto} {Q : Env → Sto → Prop}
theorem wp_run {its its' : List It} {e' : Env} {s' : Sto} (h : run T its e s = run T its' e' s') : wp T its e s Q = wp T its' e' s' Q := by unfold wp; rw [h]
theorem wp_nil : wp T [] e s Q = Q e s := by
  unfold wp; rw [run_nil]; simp [and_assoc]
theorem wp_ret : wp T (.code .ret :: k) e s Q = Q e s := by
  unfold wp; rw [run_ret]; simp [and_assoc]
theorem wp_skip : wp T (.code .skip :: k) e s Q = wp T k e s Q := wp_run run_skip
theorem wp_ops (l : List GOp) : wp T (.code (.ops l) :: k) e s Q = wp T (.ops l :: k) e s Q := wp_run (run_ops l)
theorem wp_dops (ch js : List Nat) (l m : List GOp) : wp T (.code (.dops ch js l m) :: k) e s Q = wp T (.ops l :: .chk ch (js.filterMap fun j => l[j]?) s :: .ops m :: k) e s Q := wp_run (run_dops ch js l m)
theorem wp_seq (a b : IC) : wp T (.code (.seq a b) :: k) e s Q = wp T (.code a :: .code b :: k) e s Q := wp_run (run_seq a b)
theorem wp_scope (c : IC) : wp T (.code (.scope c) :: k) e s Q = wp T (.code c :: k) e s Q := wp_run (run_scope c)
theorem wp_block (id : Nat) (c : IC) : wp T (.code (.block id c) :: k) e s Q = wp T (.code c :: .bl id :: k) e s Q := wp_run (run_block id c)
theorem wp_loop (c : IC) : wp T (.code (.loop c) :: k) e s Q = wp T (.lp c :: k) e s Q := wp_run (run_loop c)
theorem wp_lp (c : IC) : wp T (.lp c :: k) e s Q = wp T (.code c :: .lp c :: k) e s Q := wp_run (run_lp c)
theorem wp_bl (id : Nat) : wp T (.bl id :: k) e s Q = wp T k e s Q := wp_run (run_bl id)
theorem wp_ops_nil : wp T (.ops [] :: k) e s Q = wp T k e s Q := wp_run run_ops_nil
/-- Out of blocks. -/
def wpX (T : Nat → Option Fe) (k : Option (List It)) (e : Env) (s : Sto) (Q : Env → Sto → Prop) : Prop := match k with
  | some k => wp T k e s Q
  | none => False
theorem run_none {its : List It} (h : ∀ n, runN T (n + 1) its e s = none) : run T its e s = none := by
  cases hr : run T its e s with
  | none => rfl
  | some x =>
    obtain ⟨n, hn⟩ := run_some hr
    have := runN_succ T n _ _ _ _ hn
    rw [h n] at this
    simp at this
theorem wp_none {its : List It} (h : ∀ n, runN T (n + 1) its e s = none) : wp T its e s Q = False := by
  unfold wp; rw [run_none h]; simp
theorem wp_exit (id : Nat) : wp T (.code (.exit id) :: k) e s Q = wpX T (popTo id k) e s Q := by
  cases h : popTo id k with
  | some k' => exact wp_run (run_exit h)
  | none => exact wp_none fun n => by rw [runN, h]
theorem wpX_some : wpX T (some k) e s Q = wp T k e s Q := rfl
theorem popTo_bl (id : Nat) : popTo id (.bl id :: k) = some k := by simp [popTo]
theorem popTo_bl_ne {id id' : Nat} (h : (id' == id) = false) : popTo id (.bl id' :: k) = popTo id k := by simp [popTo, h]
theorem popTo_code (id : Nat) (c : IC) : popTo id (.code c :: k) = popTo id k := by simp [popTo]
theorem popTo_lp (id : Nat) (c : IC) : popTo id (.lp c :: k) = popTo id k := by simp [popTo]
theorem popTo_ops (id : Nat) (l : List GOp) : popTo id (.ops l :: k) = popTo id k := by simp [popTo]
theorem popTo_chk (id : Nat) (a : List Nat) (b : List GOp) (c : Sto) : popTo id (.chk a b c :: k) = popTo id k := by simp [popTo]
theorem wp_cond (c : Ar) (a b : IC) : wp T (.code (.cond c a b) :: k) e s Q = wpC T (c.ev e) a b k e s Q := by
  unfold wpC
  split
  · rename_i t h
    unfold wp
    rw [run_cond h]
    cases t <;> rfl
  · rename_i h
    refine wp_none fun n => ?_
    rw [runN]
    split
    · rename_i t h'; exact absurd h' (h t)
    · rfl
theorem wpC_true (a b : IC) : wpC T (.v (.bool true)) a b k e s Q = wp T (.code a :: k) e s Q := rfl
theorem wpC_false (a b : IC) : wpC T (.v (.bool false)) a b k e s Q = wp T (.code b :: k) e s Q := rfl
theorem wpC_split {c : Bool} {a b : IC} (h1 : c = true → wp T (.code a :: k) e s Q) (h2 : c = false → wp T (.code b :: k) e s Q) : wpC T (.v (.bool c)) a b k e s Q := by
  cases c
  · exact h2 rfl
  · exact h1 rfl
theorem wp_op (d : Option Nat) (op : IOp) (l : List GOp) : wp T (.ops (⟨d, none, op⟩ :: l) :: k) e s Q = wpR T (opR (run T) T op e s) d l k e Q := by
  unfold wp
  rw [run_ops_eq]
  simp only [gd]
  unfold wpR wp
  cases opR (run T) T op e s with
  | some p => rfl
  | none => simp
theorem wpR_some (x : X) (s' : Sto) (d : Nat) (l : List GOp) : wpR T (some (x, s')) (some d) l k e Q = wp T (.ops l :: k) (upd e d x) s' Q := rfl
theorem wpR_some' (x : X) (s' : Sto) (l : List GOp) : wpR T (some (x, s')) none l k e Q = wp T (.ops l :: k) e s' Q := rfl
theorem wp_gop (d : Option Nat) (t : Nat) (b : Bool) (op : IOp) (l : List GOp) : wp T (.ops (⟨d, some (t, b), op⟩ :: l) :: k) e s Q = wpG T (e t) b d op l k e s Q := by
  unfold wp
  rw [run_ops_eq]
  simp only [gd]
  unfold wpG
  split
  · rename_i h
    split at h
    · rename_i c hc
      simp only [Option.some.injEq, beq_iff_eq] at h
      subst h
      simp only [hc, if_true]
      unfold wpR wp
      cases opR (run T) T op e s with
      | none => simp
      | some p => rfl
    · simp at h
    · simp at h
  · rename_i h
    split at h
    · rename_i c hc
      simp only [Option.some.injEq, beq_eq_false_iff_ne] at h
      simp only [hc, if_neg h]
      rfl
    · rename_i hc
      simp only [hc]
      rfl
    · simp at h
  · rename_i h
    split at h
    · simp at h
    · simp at h
    · rename_i h1 h2
      split
      · rename_i c hc; exact absurd hc (h1 c)
      · rename_i hc; exact absurd hc h2
      · simp
theorem wpG_on (b : Bool) (d : Option Nat) (op : IOp) (l : List GOp) : wpG T (.v (.bool b)) b d op l k e s Q = wpR T (opR (run T) T op e s) d l k e Q := by simp [wpG]
theorem wpG_tf (d : Nat) (op : IOp) (l : List GOp) : wpG T (.v (.bool true)) false (some d) op l k e s Q = wp T (.ops l :: k) (upd e d (.tup [])) s Q := by simp [wpG, put]
theorem wpG_ft (d : Nat) (op : IOp) (l : List GOp) : wpG T (.v (.bool false)) true (some d) op l k e s Q = wp T (.ops l :: k) (upd e d (.tup [])) s Q := by simp [wpG, put]
theorem wpG_un (b : Bool) (d : Nat) (op : IOp) (l : List GOp) : wpG T (.tup []) b (some d) op l k e s Q = wp T (.ops l :: k) (upd e d (.tup [])) s Q := by simp [wpG, put]
theorem wpG_tf' (op : IOp) (l : List GOp) : wpG T (.v (.bool true)) false none op l k e s Q = wp T (.ops l :: k) e s Q := by simp [wpG, put]
theorem wpG_ft' (op : IOp) (l : List GOp) : wpG T (.v (.bool false)) true none op l k e s Q = wp T (.ops l :: k) e s Q := by simp [wpG, put]
theorem wpG_un' (b : Bool) (op : IOp) (l : List GOp) : wpG T (.tup []) b none op l k e s Q = wp T (.ops l :: k) e s Q := by simp [wpG, put]
theorem wpG_split {c b : Bool} {d : Option Nat} {op : IOp} {l : List GOp} (h1 : c = true → wpG T (.v (.bool true)) b d op l k e s Q) (h2 : c = false → wpG T (.v (.bool false)) b d op l k e s Q) : wpG T (.v (.bool c)) b d op l k e s Q := by
  cases c
  · exact h2 rfl
  · exact h1 rfl
theorem wp_chk (ch : List Nat) (js : List GOp) (s0 : Sto) : wp T (.chk ch js s0 :: k) e s Q = wpK T (chkB ch js s0 e s) k e s Q := by
  unfold wpK
  cases h : chkB ch js s0 e s with
  | true => rw [wp_run (run_chk h)]; simp
  | false => rw [wp_none fun n => by rw [runN, if_neg (by simp [h])]]; simp
theorem wpK_true : wpK T true k e s Q = wp T k e s Q := by simp [wpK]
theorem wp_mono {its : List It} {Q' : Env → Sto → Prop} (h : wp T its e s Q) (hq : ∀ e s, Q e s → Q' e s) : wp T its e s Q' := by
  obtain ⟨e', s', h1, h2⟩ := h
  exact ⟨e', s', h1, hq _ _ h2⟩

/-- A fact that simp does not use. -/
structure Hd (p : Prop) : Prop where
  out : p

/-- The rule of a loop: what is left of it grows less. -/
theorem wp_rounds {σ : Type} {c : IC} (I : σ → Env → Sto → Prop) (μ : σ → Nat)
    (h : ∀ x e s, I x e s → Hd (∀ y e' s', I y e' s' → μ y < μ x → wp T (.lp c :: k) e' s' Q) → wp T (.code c :: .lp c :: k) e s Q) :
    ∀ x e s, I x e s → wp T (.lp c :: k) e s Q := by
  have : ∀ n x e s, μ x < n → I x e s → wp T (.lp c :: k) e s Q := by
    intro n
    induction n with
    | zero => intro x e s hn; omega
    | succ n ih =>
      intro x e s hn hi
      rw [wp_lp]
      exact h x e s hi ⟨fun y e' s' hy hlt => ih y e' s' (by omega) hy⟩
  intro x e s hi
  exact this (μ x + 1) x e s (by omega) hi

theorem upd_app {α : Type} (f : Nat → α) (d : Nat) (x : α) (n : Nat) : upd f d x n = if n = d then x else f n := rfl
theorem frz_app (s : Sto) (l : List Nat) (o : Nat) : frz s l o = if o ∈ l then (s o).fz else s o := rfl
theorem ini_nil (n : Nat) : ini [] n = .junk := rfl
theorem ini_zero (x : X) (l : List X) : ini (x :: l) 0 = x := rfl
theorem ini_1 (x a : X) (l : List X) : ini (x :: a :: l) 1 = a := rfl
theorem ini_2 (x a b : X) (l : List X) : ini (x :: a :: b :: l) 2 = b := rfl
theorem ini_3 (x a b c : X) (l : List X) : ini (x :: a :: b :: c :: l) 3 = c := rfl
theorem ini_4 (x a b c d : X) (l : List X) : ini (x :: a :: b :: c :: d :: l) 4 = d := rfl
theorem ini_5 (x a b c d f : X) (l : List X) : ini (x :: a :: b :: c :: d :: f :: l) 5 = f := rfl

/-- What a call gives, looked at. -/
def callR (o : Option X) (st : Bool) (nm : List Nat) (s : Sto) : Option (X × Sto) := match o with
  | none => none
  | some r => if r.scal = true then some (r, s) else if st = true ∧ ¬ (nm = []) then none else some (r, frz s nm)
theorem callR_some (r : X) (st : Bool) (nm : List Nat) (s : Sto) : callR (some r) st nm s = if r.scal = true then some (r, s) else if st = true ∧ ¬ (nm = []) then none else some (r, frz s nm) := rfl
noncomputable def callD (T : Nat → Option Fe) (f : Nat) (xs : Option (List X)) (st : Bool) (nm : List Nat) (s : Sto) : Option (X × Sto) := match xs with
  | none => none
  | some xs => callR (call T f xs) st nm s
theorem callD_some (f : Nat) (xs : List X) (st : Bool) (nm : List Nat) (s : Sto) : callD T f (some xs) st nm s = callR (call T f xs) st nm s := rfl
theorem opR_call (st : Bool) (f : Nat) (l : List Ar) : opR (run T) T (.call st f l) e s = callD T f (dpA s (l.map (Ar.ev e))) st ((l.map (Ar.ev e)).flatMap nmG) s := by
  simp only [opR, callS, callD]
  cases dpA s (l.map (Ar.ev e)) with
  | none => rfl
  | some xs =>
    simp only
    cases h : callA (run T) T f xs with
    | none => simp [call, h, callR]
    | some r => simp [call, h, callR]
noncomputable def callF (T : Nat → Option Fe) (x : X) (l : List X) (st : Bool) (s : Sto) : Option (X × Sto) := match x with
  | .fn g cs => callD T g (dpA s (l ++ cs)) st ((l ++ cs).flatMap nmG) s
  | _ => none
theorem callF_fn (g : Nat) (cs l : List X) (st : Bool) (s : Sto) : callF T (.fn g cs) l st s = callD T g (dpA s (l ++ cs)) st ((l ++ cs).flatMap nmG) s := rfl
theorem opR_callv (st : Bool) (f : Ar) (l : List Ar) : opR (run T) T (.callv st f l) e s = callF T (f.ev e) (l.map (Ar.ev e)) st s := by
  simp only [opR, callF]
  cases h : f.ev e with
  | fn g cs =>
    simp only [callS, callD]
    cases dpA s (l.map (Ar.ev e) ++ cs) with
    | none => rfl
    | some xs =>
      simp only
      cases h : callA (run T) T g xs with
      | none => simp [call, h, callR]
      | some r => simp [call, h, callR]
  | _ => rfl
noncomputable def callBR (o : Option X) (s : Sto) : Option (X × Sto) := match o with
  | none => none
  | some r => if r.scal = true then some (r, s) else none
@[simp] theorem callBR_some (r : X) (s : Sto) : callBR (some r) s = if r.scal = true then some (r, s) else none := rfl
noncomputable def callBD (T : Nat → Option Fe) (f : Nat) (xs : Option (List X)) (s : Sto) : Option (X × Sto) := match xs with
  | none => none
  | some xs => callBR (call T f xs) s
@[simp] theorem callBD_some (f : Nat) (xs : List X) (s : Sto) : callBD T f (some xs) s = callBR (call T f xs) s := rfl
@[simp] theorem opR_callb (f : Nat) (l : List Ar) : opR (run T) T (.callb f l) e s = callBD T f (dpAm s (l.map (Ar.ev e))) s := by
  simp only [opR, callB, callBD]
  cases dpAm s (l.map (Ar.ev e)) with
  | none => rfl
  | some xs =>
    simp only
    cases h : callA (run T) T f xs with
    | none => simp [call, h, callBR]
    | some r => simp [call, h, callBR]
noncomputable def ownC (T : Nat → Option Fe) (p : List Nat) (f : Nat) (xs : List X) : Option (X × Option (Nat × List X)) := ownA (run T) T p f xs
noncomputable def callOD (T : Nat → Option Fe) (st : Bool) (p : List Nat) (q f : Nat) (nm : List Nat) (s : Sto) (xs : Option (List X)) : Option (X × Sto) := match xs with
  | none => none
  | some xs => callOR st p q nm s (ownC T p f xs)
@[simp] theorem callOD_some (st : Bool) (p : List Nat) (q f : Nat) (nm : List Nat) (s : Sto) (xs : List X) : callOD T st p q f nm s (some xs) = callOR st p q nm s (ownC T p f xs) := rfl
@[simp] theorem callOR_some (st : Bool) (p : List Nat) (q : Nat) (nm : List Nat) (s : Sto) (r : X) (k : Nat) (es : List X) : callOR st p q nm s (some (r, some (k, es))) =
  if (st = true ∧ ¬ (nm = [])) ∨ q ∈ nm then none else some (plug p r (.ref q ((s q).g + 1) k 0 es.length), newO (frz s nm) q (.row k es)) := rfl
@[simp] theorem callOR_none (st : Bool) (p : List Nat) (q : Nat) (nm : List Nat) (s : Sto) (r : X) : callOR st p q nm s (some (r, none)) =
  if st = true ∧ ¬ (nm = []) then none else some (plug p r .nil, frz s nm) := rfl
@[simp] theorem opR_callo (st : Bool) (p : List Nat) (q f : Nat) (l : List Ar) : opR (run T) T (.callo st p q f l) e s = callOD T st p q f ((l.map (Ar.ev e)).flatMap nmG) s (dpA s (l.map (Ar.ev e))) := by
  simp only [opR, callO, callOD, ownC]
  cases dpA s (l.map (Ar.ev e)) <;> rfl
noncomputable def callW (T : Nat → Option Fe) (x : X) (l : List X) (s : Sto) : Option (X × Sto) := match x with
  | .fn g cs => callI (run T) T g (l ++ cs) s
  | _ => none
@[simp] theorem callW_fn (g : Nat) (cs l : List X) (s : Sto) : callW T (.fn g cs) l s = callI (run T) T g (l ++ cs) s := rfl
@[simp] theorem opR_callw (f : Ar) (l : List Ar) : opR (run T) T (.callw f l) e s = callW T (f.ev e) (l.map (Ar.ev e)) s := by
  simp only [opR, callW]
  cases f.ev e <;> rfl
theorem own_wp {p : List Nat} {f nt : Nat} {res : List Res} {body : IC} {xs : List X} {x : X × Option (Nat × List X)} (hT : T f = some (.code nt res body)) (hn : xs.length ≤ nt)
    (h : wp T [.code body] (ini xs) s0 (fun e s => ∃ r, resI e s res = some r ∧ ownR s (ownN p r) (ownX s p r) = some x)) : ownC T p f xs = some x := by
  obtain ⟨e', s', hr, r, hx, ho⟩ := h
  simp only [ownC, ownA, hT, if_pos hn, hr, hx, ho]
theorem opR_calli (f : Nat) (l : List Ar) : opR (run T) T (.calli f l) e s = callI (run T) T f (l.map (Ar.ev e)) s := rfl
theorem call_wp {f nt : Nat} {res : List Res} {body : IC} {xs : List X} {x : X} (hT : T f = some (.code nt res body)) (hn : xs.length ≤ nt)
    (h : wp T [.code body] (ini xs) s0 (fun e s => resT e s res = some x)) : call T f xs = some x := by
  obtain ⟨e', s', hr, hx⟩ := h
  exact call_code hT hn hr hx
theorem callI_wp {f nt : Nat} {res : List Res} {body : IC} {xs : List X} {s : Sto} {P : X × Sto → Prop} (hT : T f = some (.code nt res body)) (hn : xs.length ≤ nt)
    (h : wp T [.code body] (ini xs) s (fun e s' => ∃ x, resI e s' res = some x ∧ P (x, s'))) : ∃ r, callI (run T) T f xs s = some r ∧ P r := by
  obtain ⟨e', s', hr, x, hx, hp⟩ := h
  exact ⟨(x, s'), by simp only [callI, hT, if_pos hn, hr, hx], hp⟩
end
end Go.Proofs.YtoodknhlnifnlaaGreatDoor

/- The engine, part Wl: what each operation gives, as rules for simp. -/
set_option linter.unusedVariables false
set_option linter.unusedSimpArgs false
namespace Go.Proofs.YtoodknhlnifnlaaGreatDoor
open Go.RowKit
attribute [simp] wp_nil wp_ret wp_skip wp_ops wp_dops wp_seq wp_scope wp_block wp_loop wp_bl wp_ops_nil wp_exit wpX_some popTo_bl popTo_code popTo_lp popTo_ops popTo_chk wp_cond wpC_true wpC_false wp_op wpR_some wpR_some' wp_gop
  wpG_on wpG_tf wpG_ft wpG_un wpG_tf' wpG_ft' wpG_un' wpK_true wp_chk upd_app frz_app frz_nil ini_nil ini_zero ini_1 ini_2 ini_3 ini_4 ini_5 callR_some callD_some callF_fn opR_call opR_callv opR_calli
@[simp] theorem popTo_ne (id id' : Nat) (k : List It) (h : ¬ id' = id) : popTo id (.bl id' :: k) = popTo id k := popTo_bl_ne (by simpa using h)
@[simp] theorem ev_t (e : Env) (n : Nat) : Ar.ev e (.t n) = e n := rfl
@[simp] theorem ev_k (e : Env) (x : X) : Ar.ev e (.k x) = x := rfl
@[simp] theorem nat_inj (a b : Nat) : ((a : Int) = (b : Int)) = (a = b) := by apply propext; omega
theorem so_mk {x : SO} {g : Nat} {wr : Bool} {o : Option Ob} (h1 : x.g = g) (h2 : x.wr = wr) (h3 : x.o = o) : ∃ n, x = ⟨g, wr, o, n⟩ := ⟨x.n, by cases x; simp_all⟩
@[simp] theorem take_map_len {α β : Type} (f : α → β) (l : List α) : (l.map f).take l.length = l.map f := List.take_of_length_le (by simp)
theorem int_beq (a b : Int) : (a == b) = decide (a = b) := by by_cases h : a = b <;> simp [h]
section
variable {r : List It → Env → Sto → Option (Env × Sto)} {T : Nat → Option Fe} {e : Env} {s : Sto}
@[simp] theorem opR_mov (a : Ar) : opR r T (.mov a) e s = some (a.ev e, s) := rfl
def pickR (c a b : X) (s : Sto) : Option (X × Sto) := match c with
  | .v (.bool t) => some (cond t a b, s)
  | _ => none
@[simp] theorem opR_pick (c a b : Ar) : opR r T (.pick c a b) e s = pickR (c.ev e) (a.ev e) (b.ev e) s := by
  simp only [opR, stepO, pickR]
  cases c.ev e <;> rfl
@[simp] theorem pickR_v (t : Bool) (a b : X) : pickR (.v (.bool t)) a b s = some (cond t a b, s) := rfl
@[simp] theorem opR_box (o : Nat) (a : Ar) : opR r T (.box o a) e s = if (a.ev e).cells.all X.one = true then some (.ptr o ((s o).g + 1) 0, newO s o (.box (a.ev e))) else none := rfl
@[simp] theorem opR_boxI (a : Ar) : opR r T (.boxI a) e s = if (a.ev e).deep = true ∧ (a.ev e).cells.all X.one = true then some (.ip (a.ev e) 0, s) else none := rfl
def buildR (o : Option (List X)) (s : Sto) : Option (X × Sto) := match o with
  | some cs => some (.agg cs, s)
  | none => none
@[simp] theorem buildR_some (cs : List X) : buildR (some cs) s = some (.agg cs, s) := rfl
@[simp] theorem opR_build (z : List X) (ps : List (Nat × Nat × Ar)) : opR r T (.build z ps) e s = buildR (fill e z ps) s := by simp only [opR, stepO, buildR]; split <;> simp_all
def bslR (o k n : Nat) (x : Option (List X × List Nat)) (s : Sto) : Option (X × Sto) := match x with
  | some (es, nm) => if o ∈ nm then none else some (.ref o ((s o).g + 1) k 0 n, frz (newO s o (.row k es)) nm)
  | none => none
@[simp] theorem bslR_some (o k n : Nat) (es : List X) (nm : List Nat) : bslR o k n (some (es, nm)) s = if o ∈ nm then none else some (.ref o ((s o).g + 1) k 0 n, frz (newO s o (.row k es)) nm) := rfl
@[simp] theorem opR_bsl (o k n : Nat) (z : X) (ps : List (Nat × Ar)) : opR r T (.bsl o k n z ps) e s = bslR o k n (fillE e s k (List.replicate n z) ps) s := by simp only [opR, stepO, bslR]; split <;> simp_all
def bslIR (x : Option (List X × List Nat)) (s : Sto) : Option (X × Sto) := match x with
  | some (es, []) => some (.sl true es, s)
  | _ => none
@[simp] theorem bslIR_some (es : List X) : bslIR (some (es, [])) s = some (.sl true es, s) := rfl
@[simp] theorem opR_bslI (k n : Nat) (z : X) (ps : List (Nat × Ar)) : opR r T (.bslI k n z ps) e s = bslIR (fillE e s k (List.replicate n z) ps) s := by
  simp only [opR, stepO, bslIR]
  split <;> simp_all
@[simp] theorem fill_nil (cs : List X) : fill e cs [] = some cs := rfl
@[simp] theorem fill_cons (cs : List X) (j w : Nat) (a : Ar) (l : List (Nat × Nat × Ar)) : fill e cs ((j, w, a) :: l) = if (a.ev e).cells.length = w ∧ j + w ≤ cs.length ∧ (a.ev e).cells.all X.one = true then fill e (spl cs j (a.ev e).cells) l else none := rfl
@[simp] theorem fillE_nil (k : Nat) (es : List X) : fillE e s k es [] = some (es, []) := rfl
def fillC (nm : List Nat) (o : Option (List X × List Nat)) : Option (List X × List Nat) := match o with
  | some (es, l) => some (es, nm ++ l)
  | none => none
@[simp] theorem fillC_some (nm l : List Nat) (es : List X) : fillC nm (some (es, l)) = some (es, nm ++ l) := rfl
def fillR (e : Env) (s : Sto) (k i : Nat) (es : List X) (nm : List Nat) (l : List (Nat × Ar)) (o : Option X) : Option (List X × List Nat) := match o with
  | some x => if x.cells.length = k ∧ i < es.length ∧ x.cells.all X.one = true then fillC nm (fillE e s k (es.set i x) l) else none
  | none => none
@[simp] theorem fillR_some (k i : Nat) (es : List X) (nm : List Nat) (l : List (Nat × Ar)) (x : X) : fillR e s k i es nm l (some x) = if x.cells.length = k ∧ i < es.length ∧ x.cells.all X.one = true then fillC nm (fillE e s k (es.set i x) l) else none := rfl
@[simp] theorem fillE_cons (k i : Nat) (es : List X) (a : Ar) (l : List (Nat × Ar)) : fillE e s k es ((i, a) :: l) = fillR e s k i es (nmC (a.ev e)) l (dpC s (a.ev e)) := by
  simp only [fillE, fillR, fillC]
  split
  · rename_i x hx
    rw [hx]
    simp only
    split
    · cases fillE e s k (es.set i x) l with
      | none => rfl
      | some p => rfl
    · rfl
  · rename_i hx; rw [hx]
@[simp] theorem retS_mk (x : X) : retS (some x) s = some (x, s) := rfl
@[simp] theorem opR_ld (a : Ar) (w : Nat) (ag : Bool) : opR r T (.ld a w ag) e s = retS (ldX s (a.ev e) w ag) s := rfl
def stR (o : Option Sto) : Option (X × Sto) := match o with
  | some s => some (.junk, s)
  | none => none
@[simp] theorem stR_some : stR (some s) = some (.junk, s) := rfl
@[simp] theorem opR_st (a b : Ar) (w : Nat) : opR r T (.st a b w) e s = stR (stX s (a.ev e) (b.ev e) w) := by simp only [opR, stepO, stR]; split <;> simp_all
def ldP (g j w : Nat) (ag : Bool) (x : SO) : Option X := match x.o with
  | some (.box y) => if g = x.g then partX y.cells j w ag else none
  | _ => none
@[simp] theorem ldX_ptr (o g j w : Nat) (ag : Bool) : ldX s (.ptr o g j) w ag = ldP g j w ag (s o) := rfl
@[simp] theorem ldP_box (g j w : Nat) (ag : Bool) (g' n : Nat) (wr : Bool) (y : X) : ldP g j w ag ⟨g', wr, some (.box y), n⟩ = if g = g' then partX y.cells j w ag else none := rfl
def ldE (g k i j w : Nat) (ag : Bool) (x : SO) : Option X := match x.o with
  | some (.row k' es) => if g = x.g ∧ k = k' ∧ j + w ≤ k then (match es[i]? with
      | some y => partX y.cells j w ag
      | none => none) else none
  | _ => none
@[simp] theorem ldX_ep (o g k i j w : Nat) (ag : Bool) : ldX s (.ep o g k i j) w ag = ldE g k i j w ag (s o) := rfl
@[simp] theorem ldE_row (g k i j w : Nat) (ag : Bool) (g' n k' : Nat) (wr : Bool) (es : List X) : ldE g k i j w ag ⟨g', wr, some (.row k' es), n⟩ = if g = g' ∧ k = k' ∧ j + w ≤ k then (match es[i]? with
      | some y => partX y.cells j w ag
      | none => none) else none := rfl
@[simp] theorem ldX_ip (y : X) (j w : Nat) (ag : Bool) : ldX s (.ip y j) w ag = partX y.cells j w ag := rfl
def stP (s : Sto) (o g j : Nat) (y : X) (w : Nat) (x : SO) : Option Sto := match x.o with
  | some (.box z) => if g = x.g ∧ x.wr = true ∧ y.cells.length = w ∧ j + w ≤ z.cells.length ∧ y.cells.all X.one = true then some (setO s o (.box (setC z j y.cells))) else none
  | _ => none
@[simp] theorem stX_ptr (o g j : Nat) (y : X) (w : Nat) : stX s (.ptr o g j) y w = stP s o g j y w (s o) := rfl
@[simp] theorem stP_box (o g j : Nat) (y : X) (w : Nat) (g' n : Nat) (wr : Bool) (z : X) : stP s o g j y w ⟨g', wr, some (.box z), n⟩ = if g = g' ∧ wr = true ∧ y.cells.length = w ∧ j + w ≤ z.cells.length ∧ y.cells.all X.one = true then some (setO s o (.box (setC z j y.cells))) else none := rfl
def stE (s : Sto) (o g k i j : Nat) (y : X) (w : Nat) (y' : Option X) (x : SO) : Option Sto := match x.o, y' with
  | some (.row k' es), some y' => (match es[i]? with
      | some z => if g = x.g ∧ k = k' ∧ x.wr = true ∧ y'.cells.length = w ∧ j + w ≤ k ∧ y'.cells.all X.one = true ∧ ¬ o ∈ nmC y then some (frz (setO s o (.row k (es.set i (setC z j y'.cells)))) (nmC y)) else none
      | none => none)
  | _, _ => none
@[simp] theorem stX_ep (o g k i j : Nat) (y : X) (w : Nat) : stX s (.ep o g k i j) y w = stE s o g k i j y w (dpC s y) (s o) := rfl
@[simp] theorem stE_row (o g k i j : Nat) (y : X) (w : Nat) (y' : X) (g' n k' : Nat) (wr : Bool) (es : List X) : stE s o g k i j y w (some y') ⟨g', wr, some (.row k' es), n⟩ = (match es[i]? with
      | some z => if g = g' ∧ k = k' ∧ wr = true ∧ y'.cells.length = w ∧ j + w ≤ k ∧ y'.cells.all X.one = true ∧ ¬ o ∈ nmC y then some (frz (setO s o (.row k (es.set i (setC z j y'.cells)))) (nmC y)) else none
      | none => none) := rfl
@[simp] theorem opR_nck (a : Ar) : opR r T (.nck a) e s = (match a.ev e with
    | .ptr o g j => if g = (s o).g then some (.ptr o g j, s) else none
    | .ep o g k i j => if g = (s o).g then some (.ep o g k i j, s) else none
    | .ip x j => some (.ip x j, s)
    | _ => none) := rfl
def binR (op : BinOp) (x y : X) (s : Sto) : Option (X × Sto) := match x, y with
  | .v x, .v y => (match binV op x y with
      | some z => some (.v z, s)
      | none => none)
  | _, _ => none
@[simp] theorem opR_bin (op : BinOp) (a b : Ar) : opR r T (.bin op a b) e s = binR op (a.ev e) (b.ev e) s := by
  simp only [opR, stepO, binR]
  cases a.ev e <;> cases b.ev e <;> rfl
theorem binR_v (op : BinOp) (x y : Value) : binR op (.v x) (.v y) s = (match binV op x y with
      | some z => some (.v z, s)
      | none => none) := rfl
@[simp] theorem binR_add (k : IntKind) (a b : Int) : binR .add (.v (.int k a)) (.v (.int k b)) s = some (.v (.int k (k.wrap (a + b))), s) := by simp [binR, binV]
@[simp] theorem binR_sub (k : IntKind) (a b : Int) : binR .sub (.v (.int k a)) (.v (.int k b)) s = some (.v (.int k (k.wrap (a - b))), s) := by simp [binR, binV]
@[simp] theorem binR_mul (k : IntKind) (a b : Int) : binR .mul (.v (.int k a)) (.v (.int k b)) s = some (.v (.int k (k.wrap (a * b))), s) := by simp [binR, binV]
@[simp] theorem binR_eql (k : IntKind) (a b : Int) : binR .eql (.v (.int k a)) (.v (.int k b)) s = some (.v (.bool (decide (a = b))), s) := by simp [binR, binV]; try rw [int_beq]
@[simp] theorem binR_neq (k : IntKind) (a b : Int) : binR .neq (.v (.int k a)) (.v (.int k b)) s = some (.v (.bool (!decide (a = b))), s) := by simp [binR, binV, bne]; try rw [int_beq]
@[simp] theorem binR_lss (k : IntKind) (a b : Int) : binR .lss (.v (.int k a)) (.v (.int k b)) s = some (.v (.bool (decide (a < b))), s) := by simp [binR, binV]
@[simp] theorem binR_leq (k : IntKind) (a b : Int) : binR .leq (.v (.int k a)) (.v (.int k b)) s = some (.v (.bool (decide (a ≤ b))), s) := by simp [binR, binV]
@[simp] theorem binR_gtr (k : IntKind) (a b : Int) : binR .gtr (.v (.int k a)) (.v (.int k b)) s = some (.v (.bool (decide (b < a))), s) := by simp [binR, binV]
@[simp] theorem binR_geq (k : IntKind) (a b : Int) : binR .geq (.v (.int k a)) (.v (.int k b)) s = some (.v (.bool (decide (b ≤ a))), s) := by simp [binR, binV]
@[simp] theorem binR_seql (a b : ByteArray) : binR .eql (.v (.string a)) (.v (.string b)) s = some (.v (.bool (a.toList == b.toList)), s) := by simp [binR, binV]
@[simp] theorem binR_sneq (a b : ByteArray) : binR .neq (.v (.string a)) (.v (.string b)) s = some (.v (.bool (!(a.toList == b.toList))), s) := by simp [binR, binV]
def eqsR (neg : Bool) (ks : List LK) (x y : X) (s : Sto) : Option (X × Sto) := match x, y with
  | .agg x, .agg y => (match eqL ks x y with
      | some z => some (.v (.bool (if neg then !z else z)), s)
      | none => none)
  | _, _ => none
@[simp] theorem opR_eqs (neg : Bool) (ks : List LK) (a b : Ar) : opR r T (.eqs neg ks a b) e s = eqsR neg ks (a.ev e) (b.ev e) s := by
  simp only [opR, stepO, eqsR]
  cases a.ev e <;> cases b.ev e <;> rfl
@[simp] theorem eqsR_agg (neg : Bool) (ks : List LK) (x y : List X) : eqsR neg ks (.agg x) (.agg y) s = (match eqL ks x y with
      | some z => some (.v (.bool (if neg then !z else z)), s)
      | none => none) := rfl
@[simp] theorem eqL_nil : eqL [] [] [] = some true := rfl
@[simp] theorem eqL_cons (k : LK) (ks : List LK) (a b : Value) (l m : List X) : eqL (k :: ks) (.v a :: l) (.v b :: m) = (match eqV k a b, eqL ks l m with
    | some p, some q => some (p && q)
    | _, _ => none) := rfl
@[simp] theorem eqV_i (k : IntKind) (a b : Int) : eqV .i (.int k a) (.int k b) = some (decide (a = b)) := by simp [eqV]; try rw [int_beq]
@[simp] theorem eqV_s (a b : ByteArray) : eqV .s (.string a) (.string b) = some (a.toList == b.toList) := rfl
@[simp] theorem eqV_b (a b : Bool) : eqV .b (.bool a) (.bool b) = some (a == b) := rfl
@[simp] theorem opR_eqb (neg : Bool) (a b : Ar) : opR r T (.eqb neg a b) e s = (match a.ev e, b.ev e with
    | .v (.bool x), .v (.bool y) => some (.v (.bool (if neg then !(x == y) else x == y)), s)
    | _, _ => none) := rfl
def unR (op : UnOp) (x : X) (s : Sto) : Option (X × Sto) := match x with
  | .v x => (match unV op x with
      | some z => some (.v z, s)
      | none => none)
  | _ => none
@[simp] theorem opR_un (op : UnOp) (a : Ar) : opR r T (.un op a) e s = unR op (a.ev e) s := by
  simp only [opR, stepO, unR]
  cases a.ev e <;> rfl
@[simp] theorem unR_not (b : Bool) : unR .not (.v (.bool b)) s = some (.v (.bool !b), s) := rfl
@[simp] theorem unR_neg (k : IntKind) (n : Int) : unR .neg (.v (.int k n)) s = some (.v (.int k (k.wrap (0 - n))), s) := rfl
@[simp] theorem opR_cvs (a : Ar) : opR r T (.cvs a) e s = (match a.ev e with
    | .v (.string b) => some (.v (.string b), s)
    | _ => none) := rfl
def convR (k : IntKind) (x : X) (s : Sto) : Option (X × Sto) := match x with
  | .v (.int _ n) => some (.v (.int k (k.wrap n)), s)
  | _ => none
@[simp] theorem opR_conv (k : IntKind) (a : Ar) : opR r T (.conv k a) e s = convR k (a.ev e) s := rfl
@[simp] theorem convR_int (k k' : IntKind) (n : Int) : convR k (.v (.int k' n)) s = some (.v (.int k (k.wrap n)), s) := rfl
def faR (x : X) (j : Nat) (s : Sto) : Option (X × Sto) := match x with
    | .ptr o g i => if g = (s o).g then some (.ptr o g (i + j), s) else none
    | .ep o g k i l => if g = (s o).g then some (.ep o g k i (l + j), s) else none
    | .ip x i => some (.ip x (i + j), s)
    | _ => none
@[simp] theorem opR_fa (a : Ar) (j : Nat) : opR r T (.fa a j) e s = faR (a.ev e) j s := rfl
@[simp] theorem faR_ptr (o g i j : Nat) : faR (.ptr o g i) j s = if g = (s o).g then some (.ptr o g (i + j), s) else none := rfl
@[simp] theorem faR_ep (o g k i l j : Nat) : faR (.ep o g k i l) j s = if g = (s o).g then some (.ep o g k i (l + j), s) else none := rfl
@[simp] theorem faR_ip (x : X) (i j : Nat) : faR (.ip x i) j s = some (.ip x (i + j), s) := rfl
def fldR (x : X) (j w : Nat) (ag : Bool) (s : Sto) : Option (X × Sto) := match x with
    | .agg cs => retS (partX cs j w ag) s
    | _ => none
@[simp] theorem opR_fld (a : Ar) (j w : Nat) (ag : Bool) : opR r T (.fld a j w ag) e s = fldR (a.ev e) j w ag s := rfl
@[simp] theorem fldR_agg (cs : List X) (j w : Nat) (ag : Bool) : fldR (.agg cs) j w ag s = retS (partX cs j w ag) s := rfl
def ixaR (x i : X) (w : Nat) (s : Sto) : Option (X × Sto) := match i with
  | .v (.int _ n) => (match x with
      | .sl _ es => if 0 ≤ n ∧ n < (es.length : Int) then (match es[n.toNat]? with
          | some x => if x.cells.length = w then some (.ip x 0, s) else none
          | none => none)
        else none
      | .ref o g k j m => if 0 ≤ n ∧ n < (m : Int) ∧ k = w ∧ g = (s o).g then some (.ep o g k (j + n.toNat) 0, s) else none
      | _ => none)
  | _ => none
@[simp] theorem opR_ixa (a i : Ar) (w : Nat) : opR r T (.ixa a i w) e s = ixaR (a.ev e) (i.ev e) w s := by
  simp only [opR, stepO, ixaR]
  cases i.ev e <;> first | rfl | skip
  rename_i u
  cases u <;> rfl
@[simp] theorem ixaR_sl (k : IntKind) (n : Int) (f : Bool) (es : List X) (w : Nat) : ixaR (.sl f es) (.v (.int k n)) w s = if 0 ≤ n ∧ n < (es.length : Int) then (match es[n.toNat]? with
          | some x => if x.cells.length = w then some (.ip x 0, s) else none
          | none => none)
        else none := rfl
@[simp] theorem ixaR_ref (ki : IntKind) (n : Int) (o g k j m w : Nat) : ixaR (.ref o g k j m) (.v (.int ki n)) w s = if 0 ≤ n ∧ n < (m : Int) ∧ k = w ∧ g = (s o).g then some (.ep o g k (j + n.toNat) 0, s) else none := rfl
def ixpR (x i : X) (w n : Nat) (s : Sto) : Option (X × Sto) := match i with
  | .v (.int _ m) => if 0 ≤ m ∧ m < (n : Int) then (match x with
      | .ptr o g j => if g = (s o).g then some (.ptr o g (j + m.toNat * w), s) else none
      | .ip x j => some (.ip x (j + m.toNat * w), s)
      | _ => none)
      else none
  | _ => none
@[simp] theorem opR_ixp (a i : Ar) (w n : Nat) : opR r T (.ixp a i w n) e s = ixpR (a.ev e) (i.ev e) w n s := by
  simp only [opR, stepO, ixpR]
  cases i.ev e <;> first | rfl | skip
  rename_i u
  cases u <;> rfl
@[simp] theorem ixpR_ptr (k : IntKind) (m : Int) (o g j w n : Nat) : ixpR (.ptr o g j) (.v (.int k m)) w n s = if 0 ≤ m ∧ m < (n : Int) then (if g = (s o).g then some (.ptr o g (j + m.toNat * w), s) else none) else none := rfl
def ixsR (x i : X) (s : Sto) : Option (X × Sto) := match x, i with
  | .v (.string b), .v (.int _ n) => (match (if 0 ≤ n then b[n.toNat]? else none) with
      | some c => some (.v (.int .u8 c.toNat), s)
      | none => none)
  | _, _ => none
@[simp] theorem opR_ixs (a i : Ar) : opR r T (.ixs a i) e s = ixsR (a.ev e) (i.ev e) s := by
  simp only [opR, stepO, ixsR]
  cases a.ev e <;> first | rfl | skip
  rename_i u
  cases u <;> first | rfl | skip
  cases i.ev e <;> first | rfl | skip
  rename_i u
  cases u <;> rfl
@[simp] theorem ixsR_v (k : IntKind) (b : ByteArray) (n : Int) : ixsR (.v (.string b)) (.v (.int k n)) s = (match (if 0 ≤ n then b[n.toNat]? else none) with
      | some c => some (.v (.int .u8 c.toNat), s)
      | none => none) := rfl
def ixvR (x i : X) (w n : Nat) (ag : Bool) (s : Sto) : Option (X × Sto) := match x, i with
  | .agg cs, .v (.int _ m) => if 0 ≤ m ∧ m < (n : Int) then retS (partX cs (m.toNat * w) w ag) s else none
  | _, _ => none
@[simp] theorem opR_ixv (a i : Ar) (w n : Nat) (ag : Bool) : opR r T (.ixv a i w n ag) e s = ixvR (a.ev e) (i.ev e) w n ag s := by
  simp only [opR, stepO, ixvR]
  cases a.ev e <;> first | rfl | skip
  cases i.ev e <;> first | rfl | skip
  rename_i u
  cases u <;> rfl
@[simp] theorem ixvR_agg (k : IntKind) (cs : List X) (m : Int) (w n : Nat) (ag : Bool) : ixvR (.agg cs) (.v (.int k m)) w n ag s = if 0 ≤ m ∧ m < (n : Int) then retS (partX cs (m.toNat * w) w ag) s else none := rfl
@[simp] theorem opR_sls (a : Ar) (lo hi : Option Ar) : opR r T (.sls a lo hi) e s = (match a.ev e with
    | .v (.string b) => (match bnd e hi b.size b.size with
      | some h => (match bnd e lo 0 h with
        | some l => some (.v (.string (b.extract l h)), s)
        | none => none)
      | none => none)
    | _ => none) := rfl
def sliR (w : Nat) (x : X) (lo hi : Option Ar) (e : Env) (s : Sto) : Option (X × Sto) := match x with
    | .sl f es => if es.all (fun y => y.cells.length == w) = false then none else match bnd e hi es.length es.length with
      | some h => match bnd e lo 0 h with
        | some l => some (.sl f ((es.drop l).take (h - l)), s)
        | none => none
      | none => none
    | .ref o g k i n => if ¬ (g = (s o).g ∧ k = w) then none else match bnd e hi n n with
      | some h => match bnd e lo 0 h with
        | some l => some (if l = 0 then .ref o g k i h else if h - l = 0 then .sl true [] else .ref o g k (i + l) (h - l), s)
        | none => none
      | none => none
    | .nil => match bnd e hi 0 0 with
      | some _ => match bnd e lo 0 0 with
        | some _ => some (.nil, s)
        | none => none
      | none => none
    | _ => none
@[simp] theorem opR_sli (w : Nat) (a : Ar) (lo hi : Option Ar) : opR r T (.sli w a lo hi) e s = sliR w (a.ev e) lo hi e s := rfl
@[simp] theorem sliR_sl (w : Nat) (f : Bool) (es : List X) (lo hi : Option Ar) : sliR w (.sl f es) lo hi e s = if es.all (fun y => y.cells.length == w) = false then none else match bnd e hi es.length es.length with
      | some h => match bnd e lo 0 h with
        | some l => some (.sl f ((es.drop l).take (h - l)), s)
        | none => none
      | none => none := rfl
@[simp] theorem bnd_none (d y : Nat) : bnd e none d y = some d := rfl
@[simp] theorem bnd_some (a : Ar) (d y : Nat) : bnd e (some a) d y = (match asI (a.ev e) with
    | some i => if 0 ≤ i ∧ i ≤ (y : Int) then some i.toNat else none
    | none => none) := rfl
@[simp] theorem asI_int (k : IntKind) (n : Int) : asI (.v (.int k n)) = some n := rfl
@[simp] theorem opR_mks (o k : Nat) (z : X) (len cap : Ar) (lim : Nat) : opR r T (.mks o k z len cap lim) e s = (match asI (len.ev e), asI (cap.ev e) with
    | some l, some c => if 0 ≤ l ∧ l ≤ c ∧ c ≤ (lim : Int) ∧ z.cells.length = k ∧ z.deep = true ∧ z.cells.all X.one = true then some (.ref o ((s o).g + 1) k 0 l.toNat, newO s o (.row k (List.replicate l.toNat z))) else none
    | _, _ => none) := rfl
def lenR (x : X) (s : Sto) : Option (X × Sto) := match x with
    | .sl _ es => some (.v (.int .i64 es.length), s)
    | .ref o g _ _ n => if g = (s o).g then some (.v (.int .i64 n), s) else none
    | .nil => some (.v (.int .i64 0), s)
    | _ => none
@[simp] theorem opR_len (a : Ar) : opR r T (.len a) e s = lenR (a.ev e) s := rfl
@[simp] theorem lenR_sl (f : Bool) (es : List X) : lenR (.sl f es) s = some (.v (.int .i64 es.length), s) := rfl
@[simp] theorem lenR_nil : lenR .nil s = some (.v (.int .i64 0), s) := rfl
@[simp] theorem lenR_ref (o g k i n : Nat) : lenR (.ref o g k i n) s = if g = (s o).g then some (.v (.int .i64 n), s) else none := rfl
def lensR (x : X) (s : Sto) : Option (X × Sto) := match x with
    | .v (.string b) => some (.v (.int .i64 b.size), s)
    | _ => none
@[simp] theorem opR_lens (a : Ar) : opR r T (.lens a) e s = lensR (a.ev e) s := rfl
@[simp] theorem lensR_v (b : ByteArray) : lensR (.v (.string b)) s = some (.v (.int .i64 b.size), s) := rfl
def appR (o k lim : Nat) (x : X) (ys : Option (List X)) (nm : List Nat) (s : Sto) : Option (X × Sto) := match ys with
    | some ys => if okE k ys = false then none else match x with
      | .nil => if ys = [] then some (.nil, s) else
          if ys.length ≤ lim then some (.ref o ((s o).g + 1) k 0 ys.length, newO s o (.row k ys)) else none
      | .ref o' g k' i n => (match (s o').o with
        | some (.row k'' es) =>
          if g = (s o').g ∧ k' = k ∧ k'' = k ∧ (s o').wr = true ∧ i = 0 ∧ n = es.length ∧ n + ys.length ≤ lim ∧ ¬ o' ∈ nm then
            some (.ref o' (g + 1) k i (n + ys.length), newO s o' (.row k (es ++ ys))) else none
        | _ => none)
      | _ => none
    | none => none
@[simp] theorem opR_app (o k lim : Nat) (a b : Ar) : opR r T (.app o k lim a b) e s = appR o k lim (a.ev e) (elems s (b.ev e)) (nmX (b.ev e)) s := rfl
@[simp] theorem elems_sl (f : Bool) (es : List X) : elems s (.sl f es) = some es := rfl
@[simp] theorem elems_nil : elems s .nil = some [] := rfl
@[simp] theorem appR_nil (o k lim : Nat) (ys : List X) (nm : List Nat) : appR o k lim .nil (some ys) nm s = if okE k ys = false then none else if ys = [] then some (.nil, s) else
          if ys.length ≤ lim then some (.ref o ((s o).g + 1) k 0 ys.length, newO s o (.row k ys)) else none := rfl
def appO (k lim g k' i n : Nat) (ys : List X) (nm : List Nat) (s : Sto) (o' : Nat) (x : SO) : Option (X × Sto) := match x.o with
  | some (.row k'' es) =>
          if g = x.g ∧ k' = k ∧ k'' = k ∧ x.wr = true ∧ i = 0 ∧ n = es.length ∧ n + ys.length ≤ lim ∧ ¬ o' ∈ nm then
            some (.ref o' (g + 1) k i (n + ys.length), newO s o' (.row k (es ++ ys))) else none
  | _ => none
@[simp] theorem appR_ref (o k lim o' g k' i n : Nat) (ys : List X) (nm : List Nat) : appR o k lim (.ref o' g k' i n) (some ys) nm s = if okE k ys = false then none else appO k lim g k' i n ys nm s o' (s o') := rfl
@[simp] theorem appO_row (k lim g k' i n : Nat) (ys : List X) (nm : List Nat) (o' g' c k'' : Nat) (wr : Bool) (es : List X) : appO k lim g k' i n ys nm s o' ⟨g', wr, some (.row k'' es), c⟩ =
          if g = g' ∧ k' = k ∧ k'' = k ∧ wr = true ∧ i = 0 ∧ n = es.length ∧ n + ys.length ≤ lim ∧ ¬ o' ∈ nm then
            some (.ref o' (g + 1) k i (n + ys.length), newO s o' (.row k (es ++ ys))) else none := rfl
def mnmxR (mx : Bool) (x : X) (e : Env) (l : List Ar) (s : Sto) : Option (X × Sto) := match x with
    | .v u => (match mnxL mx e u l with
      | some z => some (.v z, s)
      | none => none)
    | _ => none
@[simp] theorem opR_mnmx (mx : Bool) (a : Ar) (l : List Ar) : opR r T (.mnmx mx a l) e s = mnmxR mx (a.ev e) e l s := rfl
@[simp] theorem mnmxR_v (mx : Bool) (u : Value) (l : List Ar) : mnmxR mx (.v u) e l s = (match mnxL mx e u l with
      | some z => some (.v z, s)
      | none => none) := rfl
@[simp] theorem mnxL_nil (mx : Bool) (u : Value) : mnxL mx e u [] = some u := rfl
def mnxR (mx : Bool) (e : Env) (u : Value) (x : X) (l : List Ar) : Option Value := match x with
    | .v y => (match mnx mx u y with
      | some z => mnxL mx e z l
      | none => none)
    | _ => none
@[simp] theorem mnxL_cons (mx : Bool) (u : Value) (a : Ar) (l : List Ar) : mnxL mx e u (a :: l) = mnxR mx e u (a.ev e) l := rfl
@[simp] theorem mnxR_int (mx : Bool) (k : IntKind) (x y : Int) (l : List Ar) : mnxR mx e (.int k x) (.v (.int k y)) l = mnxL mx e (.int k (if mx then (max x y) else (min x y))) l := by
  simp only [mnxR, mnx, if_true]
  cases mx
  · simp only [Bool.false_eq_true, if_false]; congr 2; split <;> omega
  · simp only [if_true]; congr 2; split <;> omega
def extR (x : X) (i : Nat) (s : Sto) : Option (X × Sto) := match x with
    | .tup cs => retS cs[i]? s
    | _ => none
@[simp] theorem opR_ext (a : Ar) (i : Nat) : opR r T (.ext a i) e s = extR (a.ev e) i s := rfl
@[simp] theorem extR_tup (cs : List X) (i : Nat) : extR (.tup cs) i s = retS cs[i]? s := rfl
@[simp] theorem opR_mkf (f : Nat) (l : List Ar) : opR r T (.mkf f l) e s = if (l.map (Ar.ev e)).all X.one = true then some (.fn f (l.map (Ar.ev e)), s) else none := rfl
def eqnR (neg : Bool) (x : X) (s : Sto) : Option (X × Sto) := match x with
    | .sl _ (_ :: _) => some (.v (.bool neg), s)
    | .ref o g _ _ _ => if g = (s o).g then some (.v (.bool neg), s) else none
    | _ => none
@[simp] theorem opR_eqn (neg : Bool) (a : Ar) : opR r T (.eqn neg a) e s = eqnR neg (a.ev e) s := by
  simp only [opR, stepO, eqnR]
  split <;> simp_all
@[simp] theorem eqnR_sl (neg f : Bool) (x : X) (l : List X) : eqnR neg (.sl f (x :: l)) s = some (.v (.bool neg), s) := rfl
@[simp] theorem eqnR_ref (neg : Bool) (o g k i n : Nat) : eqnR neg (.ref o g k i n) s = if g = (s o).g then some (.v (.bool neg), s) else none := rfl
@[simp] theorem opR_mkm (o : Nat) (h : Option Ar) : opR r T (.mkm o h) e s = if hintB e h = true then some (.mp o ((s o).g + 1), newO s o (.map [])) else none := rfl
@[simp] theorem hintB_none : hintB e none = true := rfl
@[simp] theorem hintB_some (a : Ar) : hintB e (some a) = (asI (a.ev e)).isSome := rfl
def mpO (o g : Nat) (x : SO) : Option (Nat × List (X × X)) := match x.o with
  | some (.map es) => if g = x.g ∧ x.wr = true then some (o, es) else none
  | _ => none
@[simp] theorem mpX_mp (o g : Nat) : mpX s (.mp o g) = mpO o g (s o) := rfl
@[simp] theorem mpO_map (o g g' n : Nat) (wr : Bool) (es : List (X × X)) : mpO o g ⟨g', wr, some (.map es), n⟩ = if g = g' ∧ wr = true then some (o, es) else none := rfl
@[simp] theorem opR_mlk (ks : List LK) (ag : Bool) (m k : Ar) (z : X) (ok : Bool) : opR r T (.mlk ks ag m k z ok) e s = (match mpX s (m.ev e) with
    | some (_, es) => (match mfind ks ag (k.ev e) es with
      | some r => (match (match r with
          | some i => es[i]?.map Prod.snd
          | none => some z) with
        | some v => some (if ok then .tup [v, .v (.bool r.isSome)] else v, s)
        | none => none)
      | none => none)
    | none => none) := rfl
@[simp] theorem stepO_mlk (ks : List LK) (ag : Bool) (m k : Ar) (z : X) (ok : Bool) : stepO (.mlk ks ag m k z ok) e s = (match mpX s (m.ev e) with
    | some (_, es) => (match mfind ks ag (k.ev e) es with
      | some r => (match (match r with
          | some i => es[i]?.map Prod.snd
          | none => some z) with
        | some v => some (if ok then .tup [v, .v (.bool r.isSome)] else v, s)
        | none => none)
      | none => none)
    | none => none) := rfl
@[simp] theorem opR_men (ks : List LK) (ag : Bool) (m k : Ar) (z : X) : opR r T (.men ks ag m k z) e s = (match mpX s (m.ev e) with
    | some (o, es) => (match mfind ks ag (k.ev e) es with
      | some (some i) => (match es[i]? with
        | some p => some (.tup [p.2, .v (.int .i64 i)], setO s o (.map es))
        | none => none)
      | some none => if (k.ev e).scal = true ∧ z.scal = true then some (.tup [z, .v (.int .i64 es.length)], setO s o (.map (es ++ [(k.ev e, z)]))) else none
      | none => none)
    | none => none) := rfl
def mstR (x : Option (Nat × List (X × X))) (st v : X) (s : Sto) : Option (X × Sto) := match x, st with
  | some (o, es), .v (.int _ i) => if 0 ≤ i ∧ i < (es.length : Int) ∧ v.scal = true then some (.junk, setO s o (.map (setV es i.toNat v))) else none
  | _, _ => none
@[simp] theorem opR_mst (m st v : Ar) : opR r T (.mst m st v) e s = mstR (mpX s (m.ev e)) (st.ev e) (v.ev e) s := by
  simp only [opR, stepO, mstR]
  cases mpX s (m.ev e) with
  | none => rfl
  | some p =>
    cases st.ev e <;> first | rfl | skip
    rename_i u
    cases u <;> rfl
@[simp] theorem mstR_some (o : Nat) (es : List (X × X)) (k : IntKind) (i : Int) (v : X) : mstR (some (o, es)) (.v (.int k i)) v s = if 0 ≤ i ∧ i < (es.length : Int) ∧ v.scal = true then some (.junk, setO s o (.map (setV es i.toNat v))) else none := rfl
@[simp] theorem opR_mup (ks : List LK) (ag : Bool) (m k v : Ar) : opR r T (.mup ks ag m k v) e s = (match mpX s (m.ev e) with
    | some (o, es) => if (k.ev e).scal = true ∧ (v.ev e).scal = true then (match mfind ks ag (k.ev e) es with
      | some (some i) => some (.junk, setO s o (.map (setV es i (v.ev e))))
      | some none => some (.junk, setO s o (.map (es ++ [(k.ev e, v.ev e)])))
      | none => none)
      else none
    | none => none) := rfl
@[simp] theorem opR_mln (m : Ar) : opR r T (.mln m) e s = (match mpX s (m.ev e) with
    | some (_, es) => some (.v (.int .i64 es.length), s)
    | none => none) := rfl
@[simp] theorem sameV_int (k : IntKind) (a b : Int) : sameV (.v (.int k a)) (.v (.int k b)) = decide (a = b) := by simp [sameV]; try rw [int_beq]
@[simp] theorem sameV_bool (a b : Bool) : sameV (.v (.bool a)) (.v (.bool b)) = (a == b) := rfl

@[simp] theorem newO_app (o : Nat) (b : Ob) (n : Nat) : newO s o b n = if n = o then ⟨(s o).g + 1, true, some b, (s o).n + 1⟩ else s n := rfl
@[simp] theorem setO_app (o : Nat) (b : Ob) (n : Nat) : setO s o b n = if n = o then ⟨(s o).g, true, some b, (s o).n + 1⟩ else s n := rfl
@[simp] theorem s0_app (n : Nat) : s0 n = ⟨0, false, none, 0⟩ := rfl
@[simp] theorem cells_agg (cs : List X) : (X.agg cs).cells = cs := rfl
@[simp] theorem cells_v (u : Value) : (X.v u).cells = [.v u] := rfl
@[simp] theorem cells_sl (f : Bool) (es : List X) : (X.sl f es).cells = [.sl f es] := rfl
@[simp] theorem cells_nil : X.nil.cells = [.nil] := rfl
@[simp] theorem cells_ref (o g k i n : Nat) : (X.ref o g k i n).cells = [.ref o g k i n] := rfl
@[simp] theorem cells_fn (f : Nat) (cs : List X) : (X.fn f cs).cells = [.fn f cs] := rfl
@[simp] theorem cells_ptr (o g j : Nat) : (X.ptr o g j).cells = [.ptr o g j] := rfl
@[simp] theorem one_v (u : Value) : (X.v u).one = true := rfl
@[simp] theorem one_sl (f : Bool) (es : List X) : (X.sl f es).one = true := rfl
@[simp] theorem one_nil : X.nil.one = true := rfl
@[simp] theorem one_ref (o g k i n : Nat) : (X.ref o g k i n).one = true := rfl
@[simp] theorem one_fn (f : Nat) (cs : List X) : (X.fn f cs).one = true := rfl
@[simp] theorem one_ptr (o g j : Nat) : (X.ptr o g j).one = true := rfl
@[simp] theorem one_ip (x : X) (j : Nat) : (X.ip x j).one = true := rfl
@[simp] theorem one_mp (o g : Nat) : (X.mp o g).one = true := rfl
@[simp] theorem resT_one (r : Res) : resT e s [r] = resX e s r := rfl
@[simp] theorem resT_nil : resT e s [] = some (.tup []) := rfl
@[simp] theorem resT_two (a b : Res) (l : List Res) : resT e s (a :: b :: l) = (match resL e s (a :: b :: l) with
    | some m => some (.tup m)
    | none => none) := rfl
@[simp] theorem resL_nil : resL e s [] = some [] := rfl
@[simp] theorem resL_cons (r : Res) (l : List Res) : resL e s (r :: l) = (match resX e s r, resL e s l with
    | some x, some m => some (x :: m)
    | _, _ => none) := rfl
@[simp] theorem resX_tmp (t : Nat) : resX e s (.tmp t) = dpC s (e t) := rfl
@[simp] theorem resX_cell (t w : Nat) (ag : Bool) : resX e s (.cell t w ag) = (match ldX s (e t) w ag with
    | some x => dpC s x
    | none => none) := rfl
@[simp] theorem dpC_agg (cs : List X) : dpC s (.agg cs) = (match dpL s cs with
    | some ds => some (.agg ds)
    | none => none) := rfl
@[simp] theorem dpL_nil : dpL s [] = some [] := rfl
@[simp] theorem dpL_cons (x : X) (l : List X) : dpL s (x :: l) = (match dpn s x, dpL s l with
    | some y, some m => some (y :: m)
    | _, _ => none) := rfl
@[simp] theorem dpC_v (u : Value) : dpC s (.v u) = some (.v u) := rfl
@[simp] theorem dpn_v (u : Value) : dpn s (.v u) = some (.v u) := rfl
@[simp] theorem dpC_nil : dpC s .nil = some (.sl true []) := rfl
@[simp] theorem dpn_nil : dpn s .nil = some (.sl true []) := rfl
@[simp] theorem dpC_sl (f : Bool) (es : List X) : dpC s (.sl f es) = if deepL es then some (.sl f es) else none := rfl
@[simp] theorem dpn_sl (f : Bool) (es : List X) : dpn s (.sl f es) = if deepL es then some (.sl f es) else none := rfl
def dpR (g k i n : Nat) (x : SO) : Option X := match x.o with
    | some (.row k' es) => if g = x.g ∧ k = k' ∧ i + n ≤ es.length ∧ deepL es = true then some (.sl true ((es.drop i).take n)) else none
    | _ => none
@[simp] theorem dpR_row (g k i n g' c k' : Nat) (wr : Bool) (es : List X) : dpR g k i n ⟨g', wr, some (.row k' es), c⟩ = if g = g' ∧ k = k' ∧ i + n ≤ es.length ∧ deepL es = true then some (.sl true ((es.drop i).take n)) else none := rfl
@[simp] theorem dpC_ref (o g k i n : Nat) : dpC s (.ref o g k i n) = dpR g k i n (s o) := rfl
@[simp] theorem dpn_ref (o g k i n : Nat) : dpn s (.ref o g k i n) = dpR g k i n (s o) := rfl
@[simp] theorem elems_ref (o g k i n : Nat) : elems s (.ref o g k i n) = (match (s o).o with
    | some (.row k' es) => if g = (s o).g ∧ k = k' ∧ i + n ≤ es.length then some ((es.drop i).take n) else none
    | _ => none) := rfl
def slM (o : Option (List X)) : Option X := match o with
  | some ds => some (.sl true ds)
  | none => none
@[simp] theorem slM_some (ds : List X) : slM (some ds) = some (.sl true ds) := rfl
def dpmR (s : Sto) (g k i n : Nat) (x : SO) : Option X := match x.o with
    | some (.row k' es) => if g = x.g ∧ k = k' ∧ i + n ≤ es.length then slM (dpE s ((es.drop i).take n)) else none
    | _ => none
@[simp] theorem dpmR_row (g k i n g' c k' : Nat) (wr : Bool) (es : List X) : dpmR s g k i n ⟨g', wr, some (.row k' es), c⟩ = if g = g' ∧ k = k' ∧ i + n ≤ es.length then slM (dpE s ((es.drop i).take n)) else none := rfl
@[simp] theorem dpm_ref (o g k i n : Nat) : dpm s (.ref o g k i n) = dpmR s g k i n (s o) := rfl
@[simp] theorem dpm_nil : dpm s .nil = some (.sl true []) := rfl
@[simp] theorem dpm_sl (f : Bool) (es : List X) : dpm s (.sl f es) = if deepL es then some (.sl f es) else none := rfl
@[simp] theorem dpGm_ref (o g k i n : Nat) : dpGm s (.ref o g k i n) = dpmR s g k i n (s o) := rfl
@[simp] theorem dpGm_nil : dpGm s .nil = some (.sl true []) := rfl
@[simp] theorem dpGm_v (u : Value) : dpGm s (.v u) = some (.v u) := rfl
@[simp] theorem dpGm_sl (f : Bool) (es : List X) : dpGm s (.sl f es) = if deepL es then some (.sl f es) else none := rfl
@[simp] theorem dpGm_agg (cs : List X) : dpGm s (.agg cs) = (match dpL s cs with
    | some ds => some (.agg ds)
    | none => none) := rfl
@[simp] theorem dpAm_nil : dpAm s [] = some [] := rfl
@[simp] theorem dpAm_cons (x : X) (l : List X) : dpAm s (x :: l) = (match dpGm s x, dpAm s l with
    | some y, some m => some (y.shr :: m)
    | _, _ => none) := rfl
@[simp] theorem resX_nst (t : Nat) : resX e s (.nst t) = dpm s (e t) := rfl
@[simp] theorem dpE_nil : dpE s [] = some [] := rfl
@[simp] theorem renL_nil (d : Nat) : renL s d [] = some ([], s) := rfl
def renC (c : X) (o : Option (List X × Sto)) : Option (List X × Sto) := match o with
  | some (l, s) => some (c :: l, s)
  | none => none
@[simp] theorem renC_some (c : X) (l : List X) (s : Sto) : renC c (some (l, s)) = some (c :: l, s) := rfl
@[simp] theorem renL_v (d : Nat) (u : Value) (l : List X) : renL s d (.v u :: l) = renC (.v u) (renL s d l) := by
  simp only [renL, X.deep, if_true, renC]
  cases renL s d l <;> rfl
@[simp] theorem renL_own (d : Nat) (l : List X) : renL s d (.nil :: l) = if deepL l = true then some (.nil :: l, s) else none := rfl
def renO (s : Sto) (d o g k i n : Nat) (l : List X) (x : SO) : Option (List X × Sto) := match x.o with
  | some ob => if g = x.g ∧ x.wr = true ∧ ¬ o = d ∧ deepL l = true then some (.ref d ((s d).g + 1) k i n :: l, mvO s o d ob) else none
  | none => none
@[simp] theorem renO_some (d o g k i n g' m : Nat) (wr : Bool) (ob : Ob) (l : List X) : renO s d o g k i n l ⟨g', wr, some ob, m⟩ = if g = g' ∧ wr = true ∧ ¬ o = d ∧ deepL l = true then some (.ref d ((s d).g + 1) k i n :: l, mvO s o d ob) else none := rfl
@[simp] theorem renL_ref (d o g k i n : Nat) (l : List X) : renL s d (.ref o g k i n :: l) = renO s d o g k i n l (s o) := rfl
theorem mvO_app (o d : Nat) (ob : Ob) (q : Nat) : mvO s o d ob q = if q = o then ⟨(s o).g, (s o).wr, none, (s o).n + 1⟩ else if q = d then ⟨(s d).g + 1, true, some ob, (s d).n + 1⟩ else s q := rfl
def bsnR (q k d : Nat) (i : Option Int) (x : X) (s : Sto) : Option (X × Sto) := match i, x with
    | some i, .agg cs => if 0 ≤ i ∧ cs.length = k ∧ cs.all X.one = true ∧ ¬ q = d + i.toNat then match renL s (d + i.toNat) cs with
        | some (cs', s') => some (.ref q ((s' q).g + 1) k 0 1, newO s' q (.row k [.agg cs']))
        | none => none
      else none
    | _, _ => none
def bsnF (q k : Nat) (o : Option (List X × Sto)) : Option (X × Sto) := match o with
  | some (cs', s') => some (.ref q ((s' q).g + 1) k 0 1, newO s' q (.row k [.agg cs']))
  | none => none
@[simp] theorem bsnF_some (q k : Nat) (cs : List X) (s' : Sto) : bsnF q k (some (cs, s')) = some (.ref q ((s' q).g + 1) k 0 1, newO s' q (.row k [.agg cs])) := rfl
@[simp] theorem bsnR_agg (q k d : Nat) (i : Int) (cs : List X) : bsnR q k d (some i) (.agg cs) s = if 0 ≤ i ∧ cs.length = k ∧ cs.all X.one = true ∧ ¬ q = d + i.toNat then bsnF q k (renL s (d + i.toNat) cs) else none := rfl
@[simp] theorem opR_bsn (q k : Nat) (z : X) (d : Nat) (ix a : Ar) : opR r T (.bsn q k z d ix a) e s = bsnR q k d (asI (ix.ev e)) (a.ev e) s := by
  simp only [opR, stepO, bsnR]
  cases asI (ix.ev e) with
  | none => rfl
  | some i =>
    cases a.ev e with
    | agg cs =>
      simp only
      split
      · cases renL s (d + i.toNat) cs <;> rfl
      · rfl
    | _ => rfl
@[simp] theorem dpA_nil : dpA s [] = some [] := rfl
@[simp] theorem dpA_cons (x : X) (l : List X) : dpA s (x :: l) = (match dpG s x, dpA s l with
    | some y, some m => some (y.shr :: m)
    | _, _ => none) := rfl
@[simp] theorem dpG_v (u : Value) : dpG s (.v u) = some (.v u) := rfl
@[simp] theorem dpG_agg (cs : List X) : dpG s (.agg cs) = (match dpL s cs with
    | some ds => some (.agg ds)
    | none => none) := rfl
@[simp] theorem dpG_sl (f : Bool) (es : List X) : dpG s (.sl f es) = if deepL es then some (.sl f es) else none := rfl
@[simp] theorem dpG_nil : dpG s .nil = some (.sl true []) := rfl
@[simp] theorem dpG_ref (o g k i n : Nat) : dpG s (.ref o g k i n) = dpR g k i n (s o) := rfl
@[simp] theorem dpG_fn (f : Nat) (cs : List X) : dpG s (.fn f cs) = (match dpHL s cs with
    | some ds => some (.fn f ds)
    | none => none) := rfl
@[simp] theorem dpHL_nil : dpHL s [] = some [] := rfl
@[simp] theorem dpHL_cons (x : X) (l : List X) : dpHL s (x :: l) = (match dpH s x, dpHL s l with
    | some y, some m => some (y :: m)
    | _, _ => none) := rfl
@[simp] theorem shr_v (u : Value) : (X.v u).shr = .v u := rfl
@[simp] theorem shr_agg (cs : List X) : (X.agg cs).shr = .agg (shrL cs) := rfl
@[simp] theorem shr_sl (f : Bool) (es : List X) : (X.sl f es).shr = .sl false (shrL es) := rfl
@[simp] theorem shr_fn (f : Nat) (cs : List X) : (X.fn f cs).shr = .fn f (shrL cs) := rfl
@[simp] theorem shr_ip (x : X) (j : Nat) : (X.ip x j).shr = .ip x.shr j := rfl
@[simp] theorem shrL_nil : shrL [] = [] := rfl
@[simp] theorem shrL_cons (x : X) (l : List X) : shrL (x :: l) = x.shr :: shrL l := rfl
@[simp] theorem deepL_nil : deepL [] = true := rfl
@[simp] theorem deepL_cons (x : X) (l : List X) : deepL (x :: l) = (x.deep && deepL l) := rfl
@[simp] theorem deep_v (u : Value) : (X.v u).deep = true := rfl
@[simp] theorem deep_sl (f : Bool) (es : List X) : (X.sl f es).deep = deepL es := rfl
@[simp] theorem deep_agg (es : List X) : (X.agg es).deep = deepL es := rfl
@[simp] theorem deep_tup (es : List X) : (X.tup es).deep = deepL es := rfl
@[simp] theorem deep_fn (f : Nat) (es : List X) : (X.fn f es).deep = deepL es := rfl
@[simp] theorem scal_v (u : Value) : (X.v u).scal = true := rfl
@[simp] theorem scal_agg (l : List X) : (X.agg l).scal = scalL l := rfl
@[simp] theorem scal_tup (l : List X) : (X.tup l).scal = scalL l := rfl
@[simp] theorem scal_sl (f : Bool) (l : List X) : (X.sl f l).scal = false := rfl
@[simp] theorem scalL_nil : scalL [] = true := rfl
@[simp] theorem scalL_cons (x : X) (l : List X) : scalL (x :: l) = (x.scal && scalL l) := rfl
@[simp] theorem nmG_v (u : Value) : nmG (.v u) = [] := rfl
@[simp] theorem nmG_sl (f : Bool) (es : List X) : nmG (.sl f es) = [] := rfl
@[simp] theorem nmG_nil : nmG .nil = [] := rfl
@[simp] theorem nmG_ref (o g k i n : Nat) : nmG (.ref o g k i n) = [o] := rfl
@[simp] theorem nmG_agg (cs : List X) : nmG (.agg cs) = cs.flatMap nmX := rfl
@[simp] theorem nmG_fn (f : Nat) (cs : List X) : nmG (.fn f cs) = cs.flatMap nmH := rfl
@[simp] theorem nmX_v (u : Value) : nmX (.v u) = [] := rfl
@[simp] theorem nmX_sl (f : Bool) (es : List X) : nmX (.sl f es) = [] := rfl
@[simp] theorem nmX_nil : nmX .nil = [] := rfl
@[simp] theorem nmX_ref (o g k i n : Nat) : nmX (.ref o g k i n) = [o] := rfl
@[simp] theorem nmC_v (u : Value) : nmC (.v u) = [] := rfl
@[simp] theorem nmC_sl (f : Bool) (es : List X) : nmC (.sl f es) = [] := rfl
@[simp] theorem nmC_nil : nmC .nil = [] := rfl
@[simp] theorem nmC_ref (o g k i n : Nat) : nmC (.ref o g k i n) = [o] := rfl
@[simp] theorem nmC_agg (cs : List X) : nmC (.agg cs) = cs.flatMap nmX := rfl
@[simp] theorem setC_agg (cs ys : List X) (j : Nat) : setC (.agg cs) j ys = .agg (spl cs j ys) := rfl
@[simp] theorem setC_v (u : Value) (y : X) (j : Nat) : setC (.v u) j [y] = y := rfl
@[simp] theorem setC_sl (f : Bool) (l : List X) (y : X) (j : Nat) : setC (.sl f l) j [y] = y := rfl
@[simp] theorem setC_nil (y : X) (j : Nat) : setC .nil j [y] = y := rfl
@[simp] theorem setC_ref (o g k i n : Nat) (y : X) (j : Nat) : setC (.ref o g k i n) j [y] = y := rfl
@[simp] theorem chkB_nil (s0 : Sto) : chkB [] [] s0 e s = true := rfl
@[simp] theorem chkB_ch (t : Nat) (ch : List Nat) (js : List GOp) (s0 : Sto) : chkB (t :: ch) js s0 e s = ((nmA (e t)).all (fun o => (s o).n == (s0 o).n) && chkB ch js s0 e s) := by
  simp [chkB, Bool.and_assoc]
def chkJ (s0 : Sto) (e : Env) (s : Sto) (g : GOp) : Bool := chkB [] [g] s0 e s
@[simp] theorem chkB_js (g : GOp) (js : List GOp) (s0 : Sto) : chkB [] (g :: js) s0 e s = (chkJ s0 e s g && chkB [] js s0 e s) := by
  simp [chkB, chkJ]
def chkM (e : Env) (d : Nat) (x y : Option (X × Sto)) : Bool := match x, y with
    | some (x, _), some (y, _) => sameV x (e d) && sameV y (e d)
    | _, _ => false
@[simp] theorem chkM_some (d : Nat) (x y : X) (s1 s2 : Sto) : chkM e d (some (x, s1)) (some (y, s2)) = (sameV x (e d) && sameV y (e d)) := rfl
@[simp] theorem chkJ_mk (d : Nat) (g : Option (Nat × Bool)) (op : IOp) (s0 : Sto) : chkJ s0 e s ⟨some d, g, op⟩ = chkM e d (stepO op e s0) (stepO op e s) := by
  simp only [chkJ, chkB, List.all_nil, List.all_cons, Bool.true_and, Bool.and_true, chkM]
  cases stepO op e s0 <;> cases stepO op e s <;> rfl
@[simp] theorem nmA_v (u : Value) : nmA (.v u) = [] := rfl
@[simp] theorem nmA_sl (f : Bool) (l : List X) : nmA (.sl f l) = [] := rfl
@[simp] theorem nmA_ip (x : X) (j : Nat) : nmA (.ip x j) = [] := rfl
@[simp] theorem nmA_nil : nmA .nil = [] := rfl
@[simp] theorem nmA_agg (l : List X) : nmA (.agg l) = nmL l := rfl
@[simp] theorem nmA_tup (l : List X) : nmA (.tup l) = nmL l := rfl
@[simp] theorem nmA_ptr (o g j : Nat) : nmA (.ptr o g j) = [o] := rfl
@[simp] theorem nmA_ref (o g k i n : Nat) : nmA (.ref o g k i n) = [o] := rfl
@[simp] theorem nmA_ep (o g k i j : Nat) : nmA (.ep o g k i j) = [o] := rfl
@[simp] theorem nmA_mp (o g : Nat) : nmA (.mp o g) = [o] := rfl
@[simp] theorem nmL_nil : nmL [] = [] := rfl
@[simp] theorem nmL_cons (x : X) (l : List X) : nmL (x :: l) = nmA x ++ nmL l := rfl
@[simp] theorem deepL_take {l : List X} (i : Nat) (h : deepL l = true) : deepL (l.take i) = true := by
  induction l generalizing i with
  | nil => simp
  | cons x l ih =>
    simp only [deepL_cons, Bool.and_eq_true] at h
    cases i with
    | zero => rfl
    | succ i => simp [h.1, ih i h.2]
@[simp] theorem deepL_drop {l : List X} (i : Nat) (h : deepL l = true) : deepL (l.drop i) = true := by
  induction l generalizing i with
  | nil => simp
  | cons x l ih =>
    simp only [deepL_cons, Bool.and_eq_true] at h
    cases i with
    | zero => simp [h.1, h.2]
    | succ i => simp [ih i h.2]
@[simp] theorem shrL_take (l : List X) (i : Nat) : shrL (l.take i) = (shrL l).take i := by
  simp only [shrL_eq, List.map_take]
@[simp] theorem shrL_drop (l : List X) (i : Nat) : shrL (l.drop i) = (shrL l).drop i := by
  simp only [shrL_eq, List.map_drop]
attribute [simp] partX spl okE
end
end Go.Proofs.YtoodknhlnifnlaaGreatDoor
