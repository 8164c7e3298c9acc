/- The engine, part Wk: rules by which a proof walks through a function's code. -/
import Derived.Test.YtoodknhlnifnlaaGreatDoorW
set_option linter.all false
set_option linter.unusedVariables false
set_option linter.unusedSimpArgs false
namespace Go.Proofs.YtoodknhlnifnlaaGreatDoor
open Go.RowKit

theorem opR_run {T : Nat → Option Fe} {op : IOp} {e : Env} {s : Sto} {x : X × Sto} : opR (run T) T op e s = some x ↔ ∃ n, opR (runN T n) T op e s = some x := by
  have hS : ∀ {st f l}, callS (run T) T st f l s = some x ↔ ∃ n, callS (runN T n) T st f l s = some x := by
    intro st f l
    constructor
    · intro h
      unfold callS at h
      split at h
      · simp at h
      · rename_i xs hx
        split at h
        · simp at h
        · rename_i r hr
          obtain ⟨n, hn⟩ := callA_run.1 hr
          exact ⟨n, by simp only [callS, hx, hn]; exact h⟩
    · rintro ⟨n, h⟩
      exact callS_mono (fun its e s x hx => run_of hx) h
  constructor
  · intro h
    unfold opR at h
    split at h
    · obtain ⟨n, hn⟩ := hS.1 h; exact ⟨n, hn⟩
    · split at h
      · rename_i hf
        obtain ⟨n, hn⟩ := hS.1 h
        exact ⟨n, by simp only [opR, hf]; exact hn⟩
      · simp at h
    · obtain ⟨n, hn⟩ := callI_run.1 h; exact ⟨n, hn⟩
    · refine ⟨0, ?_⟩
      unfold opR
      split
      · simp [stepO] at h
      · simp [stepO] at h
      · simp [stepO] at h
      · exact h
  · rintro ⟨n, h⟩
    exact opR_mono (fun its e s x hx => run_of hx) h

theorem run_ops_eq {T : Nat → Option Fe} {o : GOp} {l : List GOp} {k : List It} {e : Env} {s : Sto} : run T (.ops (o :: l) :: k) e s = match gd o e with
    | some true => (match opR (run T) T o.op e s with
      | some (x, s') => run T (.ops l :: k) (put e o.d x) s'
      | none => none)
    | some false => run T (.ops l :: k) (put e o.d (.tup [])) s
    | none => none := by
  have nn : ∀ {its : List It} {e : Env} {s : Sto}, (∀ n, runN T (n + 1) its e s = none) → run T its e s = none := by
    intro its e s h
    cases hr : run T its e s with
    | none => rfl
    | some x =>
      obtain ⟨n, hn⟩ := run_some hr
      have := runN_succ T n _ _ _ _ hn
      rw [h n] at this
      simp at this
  cases hg : gd o e with
  | none => exact nn fun n => by rw [runN]; simp only [hg]
  | some g =>
    cases g with
    | false => exact run_off hg
    | true =>
      simp only
      cases ho : opR (run T) T o.op e s with
      | some p =>
        obtain ⟨x, s'⟩ := p
        obtain ⟨m, hm⟩ := opR_run.1 ho
        simp only
        apply run_ext
        intro y
        constructor
        · rintro ⟨n, hn⟩
          have hn := runN_le T (Nat.le_add_right n (m + 1)) _ _ _ _ hn
          rw [show n + (m + 1) = (n + m) + 1 by omega, runN] at hn
          simp only [hg, opR_mono (runN_le T (by omega : m ≤ n + m)) hm] at hn
          exact ⟨_, hn⟩
        · rintro ⟨n, hn⟩
          have hn := runN_le T (Nat.le_add_right n m) _ _ _ _ hn
          refine ⟨n + m + 1, ?_⟩
          rw [runN]
          simp only [hg, opR_mono (runN_le T (by omega : m ≤ n + m)) hm]
          exact hn
      | none =>
        refine nn fun n => ?_
        rw [runN]
        simp only [hg]
        split
        · rename_i h
          rw [opR_run.2 ⟨n, h⟩] at ho
          simp at ho
        · rfl

/-- The run goes on to an end of which Q holds. -/
def wp (T : Nat → Option Fe) (its : List It) (e : Env) (s : Sto) (Q : Env → Sto → Prop) : Prop := ∃ e' s', run T its e s = some (e', s') ∧ Q e' s'
def wpC (T : Nat → Option Fe) (x : X) (a b : IC) (k : List It) (e : Env) (s : Sto) (Q : Env → Sto → Prop) : Prop :=
  match x with
  | .v (.bool t) => wp T (.code (cond t a b) :: k) e s Q
  | _ => False
def wpR (T : Nat → Option Fe) (r : Option (X × Sto)) (d : Option Nat) (l : List GOp) (k : List It) (e : Env) (Q : Env → Sto → Prop) : Prop :=
  match r with
  | some (x, s') => wp T (.ops l :: k) (put e d x) s' Q
  | none => False
def wpG (T : Nat → Option Fe) (x : X) (b : Bool) (d : Option Nat) (op : IOp) (l : List GOp) (k : List It) (e : Env) (s : Sto) (Q : Env → Sto → Prop) : Prop :=
  match x with
  | .v (.bool c) => if c = b then wpR T (opR (run T) T op e s) d l k e Q else wp T (.ops l :: k) (put e d (.tup [])) s Q
  | .tup [] => wp T (.ops l :: k) (put e d (.tup [])) s Q
  | _ => False
def wpK (T : Nat → Option Fe) (c : Bool) (k : List It) (e : Env) (s : Sto) (Q : Env → Sto → Prop) : Prop := c = true ∧ wp T k e s Q

section
variable {T : Nat → Option Fe} {k : List It} {e : Env} {s : Sto} {Q : Env → Sto → Prop}
theorem wp_run {its its' : List It} {e' : Env} {s' : Sto} (h : run T its e s = run T its' e' s') : wp T its e s Q = wp T its' e' s' Q := by unfold wp; rw [h]
theorem wp_nil : wp T [] e s Q = Q e s := by
  unfold wp; rw [run_nil]; simp [and_assoc]
theorem wp_ret : wp T (.code .ret :: k) e s Q = Q e s := by
  unfold wp; rw [run_ret]; simp [and_assoc]
theorem wp_skip : wp T (.code .skip :: k) e s Q = wp T k e s Q := wp_run run_skip
theorem wp_ops (l : List GOp) : wp T (.code (.ops l) :: k) e s Q = wp T (.ops l :: k) e s Q := wp_run (run_ops l)
theorem wp_dops (ch js : List Nat) (l m : List GOp) : wp T (.code (.dops ch js l m) :: k) e s Q = wp T (.ops l :: .chk ch (js.filterMap fun j => l[j]?) s :: .ops m :: k) e s Q := wp_run (run_dops ch js l m)
theorem wp_seq (a b : IC) : wp T (.code (.seq a b) :: k) e s Q = wp T (.code a :: .code b :: k) e s Q := wp_run (run_seq a b)
theorem wp_scope (c : IC) : wp T (.code (.scope c) :: k) e s Q = wp T (.code c :: k) e s Q := wp_run (run_scope c)
theorem wp_block (id : Nat) (c : IC) : wp T (.code (.block id c) :: k) e s Q = wp T (.code c :: .bl id :: k) e s Q := wp_run (run_block id c)
theorem wp_loop (c : IC) : wp T (.code (.loop c) :: k) e s Q = wp T (.lp c :: k) e s Q := wp_run (run_loop c)
theorem wp_lp (c : IC) : wp T (.lp c :: k) e s Q = wp T (.code c :: .lp c :: k) e s Q := wp_run (run_lp c)
theorem wp_bl (id : Nat) : wp T (.bl id :: k) e s Q = wp T k e s Q := wp_run (run_bl id)
theorem wp_ops_nil : wp T (.ops [] :: k) e s Q = wp T k e s Q := wp_run run_ops_nil
/-- Out of blocks. -/
def wpX (T : Nat → Option Fe) (k : Option (List It)) (e : Env) (s : Sto) (Q : Env → Sto → Prop) : Prop := match k with
  | some k => wp T k e s Q
  | none => False
theorem run_none {its : List It} (h : ∀ n, runN T (n + 1) its e s = none) : run T its e s = none := by
  cases hr : run T its e s with
  | none => rfl
  | some x =>
    obtain ⟨n, hn⟩ := run_some hr
    have := runN_succ T n _ _ _ _ hn
    rw [h n] at this
    simp at this
theorem wp_none {its : List It} (h : ∀ n, runN T (n + 1) its e s = none) : wp T its e s Q = False := by
  unfold wp; rw [run_none h]; simp
theorem wp_exit (id : Nat) : wp T (.code (.exit id) :: k) e s Q = wpX T (popTo id k) e s Q := by
  cases h : popTo id k with
  | some k' => exact wp_run (run_exit h)
  | none => exact wp_none fun n => by rw [runN, h]
theorem wpX_some : wpX T (some k) e s Q = wp T k e s Q := rfl
theorem popTo_bl (id : Nat) : popTo id (.bl id :: k) = some k := by simp [popTo]
theorem popTo_bl_ne {id id' : Nat} (h : (id' == id) = false) : popTo id (.bl id' :: k) = popTo id k := by simp [popTo, h]
theorem popTo_code (id : Nat) (c : IC) : popTo id (.code c :: k) = popTo id k := by simp [popTo]
theorem popTo_lp (id : Nat) (c : IC) : popTo id (.lp c :: k) = popTo id k := by simp [popTo]
theorem popTo_ops (id : Nat) (l : List GOp) : popTo id (.ops l :: k) = popTo id k := by simp [popTo]
theorem popTo_chk (id : Nat) (a : List Nat) (b : List GOp) (c : Sto) : popTo id (.chk a b c :: k) = popTo id k := by simp [popTo]
theorem wp_cond (c : Ar) (a b : IC) : wp T (.code (.cond c a b) :: k) e s Q = wpC T (c.ev e) a b k e s Q := by
  unfold wpC
  split
  · rename_i t h
    unfold wp
    rw [run_cond h]
    cases t <;> rfl
  · rename_i h
    refine wp_none fun n => ?_
    rw [runN]
    split
    · rename_i t h'; exact absurd h' (h t)
    · rfl
theorem wpC_true (a b : IC) : wpC T (.v (.bool true)) a b k e s Q = wp T (.code a :: k) e s Q := rfl
theorem wpC_false (a b : IC) : wpC T (.v (.bool false)) a b k e s Q = wp T (.code b :: k) e s Q := rfl
theorem wpC_split {c : Bool} {a b : IC} (h1 : c = true → wp T (.code a :: k) e s Q) (h2 : c = false → wp T (.code b :: k) e s Q) : wpC T (.v (.bool c)) a b k e s Q := by
  cases c
  · exact h2 rfl
  · exact h1 rfl
theorem wp_op (d : Option Nat) (op : IOp) (l : List GOp) : wp T (.ops (⟨d, none, op⟩ :: l) :: k) e s Q = wpR T (opR (run T) T op e s) d l k e Q := by
  unfold wp
  rw [run_ops_eq]
  simp only [gd]
  unfold wpR wp
  cases opR (run T) T op e s with
  | some p => rfl
  | none => simp
theorem wpR_some (x : X) (s' : Sto) (d : Nat) (l : List GOp) : wpR T (some (x, s')) (some d) l k e Q = wp T (.ops l :: k) (upd e d x) s' Q := rfl
theorem wpR_some' (x : X) (s' : Sto) (l : List GOp) : wpR T (some (x, s')) none l k e Q = wp T (.ops l :: k) e s' Q := rfl
theorem wp_gop (d : Option Nat) (t : Nat) (b : Bool) (op : IOp) (l : List GOp) : wp T (.ops (⟨d, some (t, b), op⟩ :: l) :: k) e s Q = wpG T (e t) b d op l k e s Q := by
  unfold wp
  rw [run_ops_eq]
  simp only [gd]
  unfold wpG
  split
  · rename_i h
    split at h
    · rename_i c hc
      simp only [Option.some.injEq, beq_iff_eq] at h
      subst h
      simp only [hc, if_true]
      unfold wpR wp
      cases opR (run T) T op e s with
      | none => simp
      | some p => rfl
    · simp at h
    · simp at h
  · rename_i h
    split at h
    · rename_i c hc
      simp only [Option.some.injEq, beq_eq_false_iff_ne] at h
      simp only [hc, if_neg h]
      rfl
    · rename_i hc
      simp only [hc]
      rfl
    · simp at h
  · rename_i h
    split at h
    · simp at h
    · simp at h
    · rename_i h1 h2
      split
      · rename_i c hc; exact absurd hc (h1 c)
      · rename_i hc; exact absurd hc h2
      · simp
theorem wpG_on (b : Bool) (d : Option Nat) (op : IOp) (l : List GOp) : wpG T (.v (.bool b)) b d op l k e s Q = wpR T (opR (run T) T op e s) d l k e Q := by simp [wpG]
theorem wpG_tf (d : Nat) (op : IOp) (l : List GOp) : wpG T (.v (.bool true)) false (some d) op l k e s Q = wp T (.ops l :: k) (upd e d (.tup [])) s Q := by simp [wpG, put]
theorem wpG_ft (d : Nat) (op : IOp) (l : List GOp) : wpG T (.v (.bool false)) true (some d) op l k e s Q = wp T (.ops l :: k) (upd e d (.tup [])) s Q := by simp [wpG, put]
theorem wpG_un (b : Bool) (d : Nat) (op : IOp) (l : List GOp) : wpG T (.tup []) b (some d) op l k e s Q = wp T (.ops l :: k) (upd e d (.tup [])) s Q := by simp [wpG, put]
theorem wpG_tf' (op : IOp) (l : List GOp) : wpG T (.v (.bool true)) false none op l k e s Q = wp T (.ops l :: k) e s Q := by simp [wpG, put]
theorem wpG_ft' (op : IOp) (l : List GOp) : wpG T (.v (.bool false)) true none op l k e s Q = wp T (.ops l :: k) e s Q := by simp [wpG, put]
theorem wpG_un' (b : Bool) (op : IOp) (l : List GOp) : wpG T (.tup []) b none op l k e s Q = wp T (.ops l :: k) e s Q := by simp [wpG, put]
theorem wpG_split {c b : Bool} {d : Option Nat} {op : IOp} {l : List GOp} (h1 : c = true → wpG T (.v (.bool true)) b d op l k e s Q) (h2 : c = false → wpG T (.v (.bool false)) b d op l k e s Q) : wpG T (.v (.bool c)) b d op l k e s Q := by
  cases c
  · exact h2 rfl
  · exact h1 rfl
theorem wp_chk (ch : List Nat) (js : List GOp) (s0 : Sto) : wp T (.chk ch js s0 :: k) e s Q = wpK T (chkB ch js s0 e s) k e s Q := by
  unfold wpK
  cases h : chkB ch js s0 e s with
  | true => rw [wp_run (run_chk h)]; simp
  | false => rw [wp_none fun n => by rw [runN, if_neg (by simp [h])]]; simp
theorem wpK_true : wpK T true k e s Q = wp T k e s Q := by simp [wpK]
theorem wp_mono {its : List It} {Q' : Env → Sto → Prop} (h : wp T its e s Q) (hq : ∀ e s, Q e s → Q' e s) : wp T its e s Q' := by
  obtain ⟨e', s', h1, h2⟩ := h
  exact ⟨e', s', h1, hq _ _ h2⟩

/-- A fact that simp does not use. -/
structure Hd (p : Prop) : Prop where
  out : p

/-- The rule of a loop: what is left of it grows less. -/
theorem wp_rounds {σ : Type} {c : IC} (I : σ → Env → Sto → Prop) (μ : σ → Nat)
    (h : ∀ x e s, I x e s → Hd (∀ y e' s', I y e' s' → μ y < μ x → wp T (.lp c :: k) e' s' Q) → wp T (.code c :: .lp c :: k) e s Q) :
    ∀ x e s, I x e s → wp T (.lp c :: k) e s Q := by
  have : ∀ n x e s, μ x < n → I x e s → wp T (.lp c :: k) e s Q := by
    intro n
    induction n with
    | zero => intro x e s hn; omega
    | succ n ih =>
      intro x e s hn hi
      rw [wp_lp]
      exact h x e s hi ⟨fun y e' s' hy hlt => ih y e' s' (by omega) hy⟩
  intro x e s hi
  exact this (μ x + 1) x e s (by omega) hi

theorem upd_app {α : Type} (f : Nat → α) (d : Nat) (x : α) (n : Nat) : upd f d x n = if n = d then x else f n := rfl
theorem frz_app (s : Sto) (l : List Nat) (o : Nat) : frz s l o = if o ∈ l then (s o).fz else s o := rfl
theorem ini_nil (n : Nat) : ini [] n = .junk := rfl
theorem ini_zero (x : X) (l : List X) : ini (x :: l) 0 = x := rfl
theorem ini_1 (x a : X) (l : List X) : ini (x :: a :: l) 1 = a := rfl
theorem ini_2 (x a b : X) (l : List X) : ini (x :: a :: b :: l) 2 = b := rfl
theorem ini_3 (x a b c : X) (l : List X) : ini (x :: a :: b :: c :: l) 3 = c := rfl
theorem ini_4 (x a b c d : X) (l : List X) : ini (x :: a :: b :: c :: d :: l) 4 = d := rfl
theorem ini_5 (x a b c d f : X) (l : List X) : ini (x :: a :: b :: c :: d :: f :: l) 5 = f := rfl

/-- What a call gives, looked at. -/
def callR (o : Option X) (st : Bool) (nm : List Nat) (s : Sto) : Option (X × Sto) := match o with
  | none => none
  | some r => if r.scal = true then some (r, s) else if st = true ∧ ¬ (nm = []) then none else some (r, frz s nm)
theorem callR_some (r : X) (st : Bool) (nm : List Nat) (s : Sto) : callR (some r) st nm s = if r.scal = true then some (r, s) else if st = true ∧ ¬ (nm = []) then none else some (r, frz s nm) := rfl
noncomputable def callD (T : Nat → Option Fe) (f : Nat) (xs : Option (List X)) (st : Bool) (nm : List Nat) (s : Sto) : Option (X × Sto) := match xs with
  | none => none
  | some xs => callR (call T f xs) st nm s
theorem callD_some (f : Nat) (xs : List X) (st : Bool) (nm : List Nat) (s : Sto) : callD T f (some xs) st nm s = callR (call T f xs) st nm s := rfl
theorem opR_call (st : Bool) (f : Nat) (l : List Ar) : opR (run T) T (.call st f l) e s = callD T f (dpA s (l.map (Ar.ev e))) st ((l.map (Ar.ev e)).flatMap nmG) s := by
  simp only [opR, callS, callD]
  cases dpA s (l.map (Ar.ev e)) with
  | none => rfl
  | some xs =>
    simp only
    cases h : callA (run T) T f xs with
    | none => simp [call, h, callR]
    | some r => simp [call, h, callR]
noncomputable def callF (T : Nat → Option Fe) (x : X) (l : List X) (st : Bool) (s : Sto) : Option (X × Sto) := match x with
  | .fn g cs => callD T g (dpA s (l ++ cs)) st ((l ++ cs).flatMap nmG) s
  | _ => none
theorem callF_fn (g : Nat) (cs l : List X) (st : Bool) (s : Sto) : callF T (.fn g cs) l st s = callD T g (dpA s (l ++ cs)) st ((l ++ cs).flatMap nmG) s := rfl
theorem opR_callv (st : Bool) (f : Ar) (l : List Ar) : opR (run T) T (.callv st f l) e s = callF T (f.ev e) (l.map (Ar.ev e)) st s := by
  simp only [opR, callF]
  cases h : f.ev e with
  | fn g cs =>
    simp only [callS, callD]
    cases dpA s (l.map (Ar.ev e) ++ cs) with
    | none => rfl
    | some xs =>
      simp only
      cases h : callA (run T) T g xs with
      | none => simp [call, h, callR]
      | some r => simp [call, h, callR]
  | _ => rfl
theorem opR_calli (f : Nat) (l : List Ar) : opR (run T) T (.calli f l) e s = callI (run T) T f (l.map (Ar.ev e)) s := rfl
theorem call_wp {f nt : Nat} {res : List Res} {body : IC} {xs : List X} {x : X} (hT : T f = some (.code nt res body)) (hn : xs.length ≤ nt)
    (h : wp T [.code body] (ini xs) s0 (fun e s => resT e s res = some x)) : call T f xs = some x := by
  obtain ⟨e', s', hr, hx⟩ := h
  exact call_code hT hn hr hx
theorem callI_wp {f nt : Nat} {res : List Res} {body : IC} {xs : List X} {s : Sto} {P : X × Sto → Prop} (hT : T f = some (.code nt res body)) (hn : xs.length ≤ nt)
    (h : wp T [.code body] (ini xs) s (fun e s' => ∃ x, resI e s' res = some x ∧ P (x, s'))) : ∃ r, callI (run T) T f xs s = some r ∧ P r := by
  obtain ⟨e', s', hr, x, hx, hp⟩ := h
  exact ⟨(x, s'), by simp only [callI, hT, if_pos hn, hr, hx], hp⟩
end
end Go.Proofs.YtoodknhlnifnlaaGreatDoor
