/- The engine, part C: the abstract machine runs. -/
import Derived.Test.YtoodknhlnifnlaaGreatDoorB
set_option linter.all false
set_option linter.unusedVariables false
set_option linter.unusedSimpArgs false
namespace Go.Proofs.YtoodknhlnifnlaaGreatDoor
open Go.RowKit

def popTo (id : Nat) : List It → Option (List It)
  | .bl id' :: k => if id' == id then some k else popTo id k
  | _ :: k => popTo id k
  | [] => none

def gd (o : GOp) (e : Env) : Option Bool :=
  match o.g with
  | none => some true
  | some (t, want) => match e t with
    | .v (.bool b) => some (b == want)
    | .tup [] => some false
    | _ => none

def put (e : Env) (d : Option Nat) (x : X) : Env :=
  match d with
  | some d => upd e d x
  | none => e

def ini (l : List X) : Env := fun n => l.getD n .junk
def s0 : Sto := fun _ => ⟨0, false, none, 0⟩

def resX (e : Env) (s : Sto) : Res → Option X
  | .tmp t => dpC s (e t)
  | .cell t w ag => match ldX s (e t) w ag with
    | some x => dpC s x
    | none => none
def resL (e : Env) (s : Sto) : List Res → Option (List X)
  | [] => some []
  | r :: l => match resX e s r, resL e s l with
    | some x, some m => some (x :: m)
    | _, _ => none
def resT (e : Env) (s : Sto) (l : List Res) : Option X :=
  match l with
  | [r] => resX e s r
  | _ => match resL e s l with
    | some m => some (.tup m)
    | none => none

def resN (e : Env) (s : Sto) : List Res → List Nat
  | [] => []
  | .tmp t :: l => nmC (e t) ++ resN e s l
  | .cell t w ag :: l => (match ldX s (e t) w ag with
    | some x => nmC x
    | none => []) ++ resN e s l

/-- Without names, and no variable is looked at. -/
def dpn0 : X → Option X
  | .nil => some (.sl true [])
  | .agg _ => none
  | .tup _ => none
  | x => if x.deep then some x else none
def dpL0 : List X → Option (List X)
  | [] => some []
  | x :: l => match dpn0 x, dpL0 l with
    | some y, some m => some (y :: m)
    | _, _ => none
def dpC0 : X → Option X
  | .agg cs => match dpL0 cs with
    | some ds => some (.agg ds)
    | none => none
  | x => dpn0 x
/-- What is handed over: a variable's address too; the variable is not written while it is out. -/
def dpH (s : Sto) : X → Option X
  | .ptr o g j => match (s o).o with
    | some (.box y) => if g = (s o).g then match dpC0 y with
        | some z => some (.ip z j)
        | none => none
      else none
    | _ => none
  | .ip x j => if x.deep then some (.ip x j) else none
  | x => dpn s x
def dpHL (s : Sto) : List X → Option (List X)
  | [] => some []
  | x :: l => match dpH s x, dpHL s l with
    | some y, some m => some (y :: m)
    | _, _ => none
def dpG (s : Sto) : X → Option X
  | .fn f cs => match dpHL s cs with
    | some ds => some (.fn f ds)
    | none => none
  | .ptr o g j => dpH s (.ptr o g j)
  | .ip x j => dpH s (.ip x j)
  | x => dpC s x
def nmH : X → List Nat
  | .ptr o _ _ => [o]
  | x => nmX x
def nmG : X → List Nat
  | .fn _ cs => cs.flatMap nmH
  | .ptr o _ _ => [o]
  | x => nmC x
def dpA (s : Sto) : List X → Option (List X)
  | [] => some []
  | x :: l => match dpG s x, dpA s l with
    | some y, some m => some (y.shr :: m)
    | _, _ => none

/-- A call: the arguments without names; behind it what was handed over under a name is not written any more, unless the result is numbers, texts and the like alone. -/
def callA (run : List It → Env → Sto → Option (Env × Sto)) (T : Nat → Option Fe) (f : Nat) (xs : List X) : Option X :=
  match T f with
  | none => none
  | some (.ext F) => F xs
  | some (.extI _) => none
  | some (.codez ..) => none
  | some (.code nt res body) =>
    if xs.length ≤ nt then
      match run [.code body] (ini xs) s0 with
      | some (e, s) => resT e s res
      | none => none
    else none

def resIX (e : Env) (s : Sto) : Res → Option X
  | .tmp t => some (e t)
  | .cell t w ag => ldX s (e t) w ag
def resIL (e : Env) (s : Sto) : List Res → Option (List X)
  | [] => some []
  | r :: l => match resIX e s r, resIL e s l with
    | some x, some m => some (x :: m)
    | _, _ => none
def resI (e : Env) (s : Sto) (l : List Res) : Option X :=
  match l with
  | [r] => resIX e s r
  | _ => match resIL e s l with
    | some m => some (.tup m)
    | none => none
/-- A call that is carried out in the midst of the caller's variables. -/
def callI (run : List It → Env → Sto → Option (Env × Sto)) (T : Nat → Option Fe) (f : Nat) (xs : List X) (s : Sto) : Option (X × Sto) :=
  match T f with
  | some (.code nt res body) =>
    if xs.length ≤ nt then
      match run [.code body] (ini xs) s with
      | some (e', s') => match resI e' s' res with
        | some x => some (x, s')
        | none => none
      | none => none
    else none
  | some (.codez nt res body) =>
    if xs.length ≤ nt then
      match run [.code body] (ini xs) s with
      | some (e', s') => match resT e' s' res with
        | some x => some (x, frz s' (resN e' s' res))
        | none => none
      | none => none
    else none
  | some (.extI F) => F xs s
  | _ => none

def callS (run : List It → Env → Sto → Option (Env × Sto)) (T : Nat → Option Fe) (still : Bool) (f : Nat) (l : List X) (s : Sto) : Option (X × Sto) :=
  match dpA s l with
  | none => none
  | some xs => match callA run T f xs with
    | none => none
    | some r => if r.scal = true then some (r, s) else if still = true ∧ ¬ (l.flatMap nmG = []) then none else some (r, frz s (l.flatMap nmG))

def opR (run : List It → Env → Sto → Option (Env × Sto)) (T : Nat → Option Fe) (op : IOp) (e : Env) (s : Sto) : Option (X × Sto) :=
  match op with
  | .call st f l => callS run T st f (l.map (Ar.ev e)) s
  | .callv st f l => match f.ev e with
    | .fn g cs => callS run T st g (l.map (Ar.ev e) ++ cs) s
    | _ => none
  | .calli f l => callI run T f (l.map (Ar.ev e)) s
  | op => stepO op e s

/-- Nothing that these slots lead to has been written since, and these operations give again what they gave. -/
def chkB (ch : List Nat) (js : List GOp) (s0 : Sto) (e : Env) (s : Sto) : Bool :=
  (ch.all fun t => (nmA (e t)).all fun o => (s o).n == (s0 o).n) &&
  js.all fun g => match g.d, stepO g.op e s0, stepO g.op e s with
    | some d, some (x, _), some (y, _) => sameV x (e d) && sameV y (e d)
    | _, _, _ => false

def runN (T : Nat → Option Fe) : Nat → List It → Env → Sto → Option (Env × Sto)
  | 0, _, _, _ => none
  | n + 1, its, e, s =>
    match its with
    | [] => some (e, s)
    | .code .skip :: k => runN T n k e s
    | .code .ret :: _ => some (e, s)
    | .code (.ops l) :: k => runN T n (.ops l :: k) e s
    | .code (.dops ch js l m) :: k => runN T n (.ops l :: .chk ch (js.filterMap fun j => l[j]?) s :: .ops m :: k) e s
    | .chk ch js s0 :: k => if chkB ch js s0 e s = true then runN T n k e s else none
    | .code (.seq a b) :: k => runN T n (.code a :: .code b :: k) e s
    | .code (.cond c a b) :: k =>
      match c.ev e with
      | .v (.bool t) => cond t (runN T n (.code a :: k) e s) (runN T n (.code b :: k) e s)
      | _ => none
    | .code (.scope c) :: k => runN T n (.code c :: k) e s
    | .code (.block id c) :: k => runN T n (.code c :: .bl id :: k) e s
    | .code (.loop c) :: k => runN T n (.code c :: .lp c :: k) e s
    | .code (.exit id) :: k =>
      match popTo id k with
      | some k' => runN T n k' e s
      | none => none
    | .ops [] :: k => runN T n k e s
    | .ops (o :: l) :: k =>
      match gd o e with
      | some true => match opR (runN T n) T o.op e s with
        | some (x, s') => runN T n (.ops l :: k) (put e o.d x) s'
        | none => none
      | some false => runN T n (.ops l :: k) (put e o.d (.tup [])) s
      | none => none
    | .lp c :: k => runN T n (.code c :: .lp c :: k) e s
    | .bl _ :: k => runN T n k e s

/-- More rounds give the same. -/
def Mon (r r' : List It → Env → Sto → Option (Env × Sto)) : Prop := ∀ its e s x, r its e s = some x → r' its e s = some x
theorem callA_mono {r r' : List It → Env → Sto → Option (Env × Sto)} (h : Mon r r') {T : Nat → Option Fe} {f : Nat} {xs : List X} {x : X} (hc : callA r T f xs = some x) : callA r' T f xs = some x := by
  unfold callA at *
  split at hc <;> first | (simp at hc; done) | exact hc | skip
  split at hc <;> first | (simp at hc; done) | skip
  rename_i hn
  simp only [hn, if_true]
  split at hc <;> first | (simp at hc; done) | skip
  rename_i hr
  rw [h _ _ _ _ hr]
  exact hc
theorem callS_mono {r r' : List It → Env → Sto → Option (Env × Sto)} (h : Mon r r') {T : Nat → Option Fe} {st : Bool} {f : Nat} {l : List X} {s : Sto} {x : X × Sto} (hc : callS r T st f l s = some x) : callS r' T st f l s = some x := by
  unfold callS at *
  split at hc <;> first | (simp at hc; done) | skip
  split at hc <;> first | (simp at hc; done) | skip
  rename_i hr
  rw [callA_mono h hr]
  exact hc
theorem callI_mono {r r' : List It → Env → Sto → Option (Env × Sto)} (h : Mon r r') {T : Nat → Option Fe} {f : Nat} {xs : List X} {s : Sto} {x : X × Sto} (hc : callI r T f xs s = some x) : callI r' T f xs s = some x := by
  unfold callI at *
  split at hc
  · split at hc <;> first | (simp at hc; done) | skip
    rename_i hn
    simp only [hn, if_true]
    split at hc <;> first | (simp at hc; done) | skip
    rename_i hr
    rw [h _ _ _ _ hr]
    exact hc
  · split at hc <;> first | (simp at hc; done) | skip
    rename_i hn
    simp only [hn, if_true]
    split at hc <;> first | (simp at hc; done) | skip
    rename_i hr
    rw [h _ _ _ _ hr]
    exact hc
  · exact hc
  · simp at hc
theorem opR_mono {r r' : List It → Env → Sto → Option (Env × Sto)} (h : Mon r r') {T : Nat → Option Fe} {op : IOp} {e : Env} {s : Sto} {x : X × Sto} (hc : opR r T op e s = some x) : opR r' T op e s = some x := by
  unfold opR at *
  split at hc
  · exact callS_mono h hc
  · split at hc <;> first | (simp at hc; done) | exact callS_mono h hc
  · exact callI_mono h hc
  · exact hc
theorem runN_mono1 (T : Nat → Option Fe) {n m : Nat} (ih : Mon (runN T n) (runN T m)) : Mon (runN T (n + 1)) (runN T (m + 1)) := by
  intro its e s x h
  rcases its with _ | ⟨it, k⟩
  · simpa only [runN] using h
  cases it with
  | code c =>
    cases c with
    | cond c a b =>
      simp only [runN] at h ⊢
      split at h
      · rename_i t hc
        cases t
        · exact ih _ _ _ _ h
        · exact ih _ _ _ _ h
      · simp at h
    | exit id =>
      simp only [runN] at h ⊢
      split at h
      · exact ih _ _ _ _ h
      · simp at h
    | ret => simpa only [runN] using h
    | _ => simp only [runN] at h ⊢; exact ih _ _ _ _ h
  | ops l =>
    rcases l with _ | ⟨o, l⟩
    · simp only [runN] at h ⊢; exact ih _ _ _ _ h
    · simp only [runN] at h ⊢
      split at h
      · split at h
        · rename_i hr
          simp only [opR_mono ih hr]
          exact ih _ _ _ _ h
        · simp at h
      · exact ih _ _ _ _ h
      · simp at h
  | lp c => simp only [runN] at h ⊢; exact ih _ _ _ _ h
  | bl id => simp only [runN] at h ⊢; exact ih _ _ _ _ h
  | chk ch js s0 =>
    simp only [runN] at h ⊢
    split at h
    · rename_i hc; rw [if_pos hc]; exact ih _ _ _ _ h
    · simp at h
theorem runN_succ (T : Nat → Option Fe) : ∀ n, Mon (runN T n) (runN T (n + 1)) := by
  intro n
  induction n with
  | zero => intro its e s x h; simp [runN] at h
  | succ n ih => exact runN_mono1 T ih
theorem runN_le (T : Nat → Option Fe) {n m : Nat} (h : n ≤ m) : Mon (runN T n) (runN T m) := by
  induction h with
  | refl => intro _ _ _ _ h; exact h
  | step _ ih => intro its e s x hx; exact runN_succ T _ _ _ _ _ (ih _ _ _ _ hx)

open Classical in
/-- The run, with as many rounds as it takes. -/
noncomputable def run (T : Nat → Option Fe) (its : List It) (e : Env) (s : Sto) : Option (Env × Sto) :=
  if h : ∃ x, ∃ n, runN T n its e s = some x then some h.choose else none
theorem run_of {T : Nat → Option Fe} {n : Nat} {its : List It} {e : Env} {s : Sto} {x : Env × Sto} (h : runN T n its e s = some x) : run T its e s = some x := by
  unfold run
  have hx : ∃ x, ∃ n, runN T n its e s = some x := ⟨x, n, h⟩
  rw [dif_pos hx]
  obtain ⟨m, hm⟩ := hx.choose_spec
  have h1 := runN_le T (Nat.le_max_left n m) _ _ _ _ h
  have h2 := runN_le T (Nat.le_max_right n m) _ _ _ _ hm
  rw [h1] at h2
  exact h2.symm
theorem run_some {T : Nat → Option Fe} {its : List It} {e : Env} {s : Sto} {x : Env × Sto} (h : run T its e s = some x) : ∃ n, runN T n its e s = some x := by
  unfold run at h
  split at h
  · rename_i hx
    obtain ⟨m, hm⟩ := hx.choose_spec
    injection h with h
    exact ⟨m, h ▸ hm⟩
  · simp at h
theorem run_ext {T : Nat → Option Fe} {its its' : List It} {e e' : Env} {s s' : Sto} (h : ∀ x, (∃ n, runN T n its e s = some x) ↔ (∃ n, runN T n its' e' s' = some x)) : run T its e s = run T its' e' s' := by
  cases hr : run T its e s with
  | some x => obtain ⟨n, hn⟩ := (h x).1 (run_some hr); exact (run_of hn).symm
  | none =>
    cases hr' : run T its' e' s' with
    | none => rfl
    | some x => obtain ⟨n, hn⟩ := (h x).2 (run_some hr'); rw [run_of hn] at hr; simp at hr
/-- One step. -/
theorem run_step {T : Nat → Option Fe} {its its' : List It} {e e' : Env} {s s' : Sto} (h : ∀ n, runN T (n + 1) its e s = runN T n its' e' s') : run T its e s = run T its' e' s' :=
  run_ext fun x => ⟨fun ⟨n, hn⟩ => by
    cases n with
    | zero => simp [runN] at hn
    | succ n => exact ⟨n, (h n) ▸ hn⟩, fun ⟨n, hn⟩ => ⟨n + 1, (h n).trans hn⟩⟩
section
variable {T : Nat → Option Fe} {k : List It} {e : Env} {s : Sto}
theorem run_done {its : List It} {x : Env × Sto} (h : ∀ n, runN T (n + 1) its e s = some x) : run T its e s = some x := run_of (h 0)
theorem run_nil : run T [] e s = some (e, s) := run_done fun n => by rw [runN]
theorem run_ret : run T (.code .ret :: k) e s = some (e, s) := run_done fun n => by rw [runN]
theorem run_skip : run T (.code .skip :: k) e s = run T k e s := run_step fun n => by rw [runN]
theorem run_ops (l : List GOp) : run T (.code (.ops l) :: k) e s = run T (.ops l :: k) e s := run_step fun n => by rw [runN]
theorem run_dops (ch js : List Nat) (l m : List GOp) : run T (.code (.dops ch js l m) :: k) e s = run T (.ops l :: .chk ch (js.filterMap fun j => l[j]?) s :: .ops m :: k) e s := run_step fun n => by rw [runN]
theorem run_chk {ch : List Nat} {js : List GOp} {s0 : Sto} (h : chkB ch js s0 e s = true) : run T (.chk ch js s0 :: k) e s = run T k e s := run_step fun n => by rw [runN, if_pos h]
theorem run_seq (a b : IC) : run T (.code (.seq a b) :: k) e s = run T (.code a :: .code b :: k) e s := run_step fun n => by rw [runN]
theorem run_scope (c : IC) : run T (.code (.scope c) :: k) e s = run T (.code c :: k) e s := run_step fun n => by rw [runN]
theorem run_block (id : Nat) (c : IC) : run T (.code (.block id c) :: k) e s = run T (.code c :: .bl id :: k) e s := run_step fun n => by rw [runN]
theorem run_loop (c : IC) : run T (.code (.loop c) :: k) e s = run T (.lp c :: k) e s := by
  rw [run_step (its' := .code c :: .lp c :: k) (e' := e) (s' := s) fun n => by rw [runN], run_step (its := .lp c :: k) (its' := .code c :: .lp c :: k) (e' := e) (s' := s) fun n => by rw [runN]]
theorem run_lp (c : IC) : run T (.lp c :: k) e s = run T (.code c :: .lp c :: k) e s := run_step fun n => by rw [runN]
theorem run_bl (id : Nat) : run T (.bl id :: k) e s = run T k e s := run_step fun n => by rw [runN]
theorem run_exit {id : Nat} {k' : List It} (h : popTo id k = some k') : run T (.code (.exit id) :: k) e s = run T k' e s := run_step fun n => by rw [runN, h]
theorem run_ops_nil : run T (.ops [] :: k) e s = run T k e s := run_step fun n => by rw [runN]
theorem run_cond {c : Ar} {a b : IC} {t : Bool} (h : c.ev e = .v (.bool t)) : run T (.code (.cond c a b) :: k) e s = cond t (run T (.code a :: k) e s) (run T (.code b :: k) e s) := by
  cases t
  · exact run_step fun n => by rw [runN]; simp only [h, cond]
  · exact run_step fun n => by rw [runN]; simp only [h, cond]
theorem run_off {o : GOp} {l : List GOp} (h : gd o e = some false) : run T (.ops (o :: l) :: k) e s = run T (.ops l :: k) (put e o.d (.tup [])) s := run_step fun n => by rw [runN]; simp only [h]
/-- An operation that is no call. -/
theorem run_op {o : GOp} {l : List GOp} {x : X} {s' : Sto} (h : gd o e = some true) (hs : stepO o.op e s = some (x, s')) : run T (.ops (o :: l) :: k) e s = run T (.ops l :: k) (put e o.d x) s' :=
  run_step fun n => by
    rw [runN]; simp only [h]
    have : opR (runN T n) T o.op e s = some (x, s') := by
      unfold opR
      split
      · rename_i hc; rw [hc] at hs; simp [stepO] at hs
      · rename_i hc; rw [hc] at hs; simp [stepO] at hs
      · rename_i hc; rw [hc] at hs; simp [stepO] at hs
      · exact hs
    simp only [this]

/-- What a call gives. -/
noncomputable def call (T : Nat → Option Fe) (f : Nat) (xs : List X) : Option X := callA (run T) T f xs
theorem callA_run {f : Nat} {xs : List X} {x : X} : call T f xs = some x ↔ ∃ n, callA (runN T n) T f xs = some x := by
  constructor
  · intro h
    unfold call callA at h
    split at h
    · simp at h
    · rename_i F hF; exact ⟨0, by simp only [callA, hF]; exact h⟩
    · simp at h
    · simp at h
    · rename_i nt res body hF
      split at h
      · rename_i hn
        split at h
        · rename_i hr
          obtain ⟨n, hn'⟩ := run_some hr
          exact ⟨n, by simp only [callA, hF, hn, hn', if_true]; exact h⟩
        · simp at h
      · simp at h
  · rintro ⟨n, h⟩
    exact callA_mono (fun its e s x hx => run_of hx) h
theorem run_call {o : GOp} {l : List GOp} {st : Bool} {f : Nat} {as : List Ar} {xs : List X} {r : X} {d : Option Nat} (h : gd ⟨d, o.g, .call st f as⟩ e = some true)
    (hx : dpA s (as.map (Ar.ev e)) = some xs) (hc : call T f xs = some r) (hn : r.scal = true ∨ (as.map (Ar.ev e)).flatMap nmG = []) :
    run T (.ops (⟨d, o.g, .call st f as⟩ :: l) :: k) e s = run T (.ops l :: k) (put e d r) s := by
  obtain ⟨m, hm⟩ := callA_run.1 hc
  have fz : frz s [] = s := by funext o; simp [frz]
  have key : ∀ n, m ≤ n → opR (runN T n) T (.call st f as) e s = some (r, s) := by
    intro n hmn
    have := callA_mono (runN_le T hmn) hm
    simp only [opR, callS, hx, this]
    rcases hn with hn | hn
    · simp [hn]
    · simp [hn, fz]
  apply run_ext
  intro x
  constructor
  · rintro ⟨n, hn'⟩
    have hn' := runN_le T (Nat.le_add_right n (m + 1)) _ _ _ _ hn'
    rw [show n + (m + 1) = (n + m) + 1 by omega, runN] at hn'
    simp only [h, key (n + m) (by omega)] at hn'
    exact ⟨_, hn'⟩
  · rintro ⟨n, hn'⟩
    have hn' := runN_le T (Nat.le_add_right n m) _ _ _ _ hn'
    refine ⟨n + m + 1, ?_⟩
    rw [runN]
    simp only [h, key (n + m) (by omega)]
    exact hn'
theorem run_callv {o : GOp} {l : List GOp} {st : Bool} {fa : Ar} {f : Nat} {cs : List X} {as : List Ar} {xs : List X} {r : X} {d : Option Nat} (h : gd ⟨d, o.g, .callv st fa as⟩ e = some true)
    (hf : fa.ev e = .fn f cs) (hx : dpA s (as.map (Ar.ev e) ++ cs) = some xs) (hc : call T f xs = some r) (hn : r.scal = true ∨ (as.map (Ar.ev e) ++ cs).flatMap nmG = []) :
    run T (.ops (⟨d, o.g, .callv st fa as⟩ :: l) :: k) e s = run T (.ops l :: k) (put e d r) s := by
  obtain ⟨m, hm⟩ := callA_run.1 hc
  have fz : frz s [] = s := by funext o; simp [frz]
  have key : ∀ n, m ≤ n → opR (runN T n) T (.callv st fa as) e s = some (r, s) := by
    intro n hmn
    have := callA_mono (runN_le T hmn) hm
    simp only [opR, hf, callS, hx, this]
    rcases hn with hn | hn
    · simp [hn]
    · simp only [hn, fz]; simp
  apply run_ext
  intro x
  constructor
  · rintro ⟨n, hn'⟩
    have hn' := runN_le T (Nat.le_add_right n (m + 1)) _ _ _ _ hn'
    rw [show n + (m + 1) = (n + m) + 1 by omega, runN] at hn'
    simp only [h, key (n + m) (by omega)] at hn'
    exact ⟨_, hn'⟩
  · rintro ⟨n, hn'⟩
    have hn' := runN_le T (Nat.le_add_right n m) _ _ _ _ hn'
    refine ⟨n + m + 1, ?_⟩
    rw [runN]
    simp only [h, key (n + m) (by omega)]
    exact hn'
/-- An inlined call. -/
theorem callI_run {f : Nat} {xs : List X} {s : Sto} {x : X × Sto} : callI (run T) T f xs s = some x ↔ ∃ n, callI (runN T n) T f xs s = some x := by
  constructor
  · intro h
    unfold callI at h
    split at h
    · rename_i nt res body hF
      split at h
      · rename_i hn
        split at h
        · rename_i hr
          obtain ⟨n, hn'⟩ := run_some hr
          exact ⟨n, by simp only [callI, hF, hn, hn', if_true]; exact h⟩
        · simp at h
      · simp at h
    · rename_i nt res body hF
      split at h
      · rename_i hn
        split at h
        · rename_i hr
          obtain ⟨n, hn'⟩ := run_some hr
          exact ⟨n, by simp only [callI, hF, hn, hn', if_true]; exact h⟩
        · simp at h
      · simp at h
    · rename_i F hF; exact ⟨0, by simp only [callI, hF]; exact h⟩
    · simp at h
  · rintro ⟨n, h⟩
    exact callI_mono (fun its e s x hx => run_of hx) h
theorem run_calli {o : GOp} {l : List GOp} {f : Nat} {as : List Ar} {r : X} {s' : Sto} {d : Option Nat} (h : gd ⟨d, o.g, .calli f as⟩ e = some true)
    (hc : callI (run T) T f (as.map (Ar.ev e)) s = some (r, s')) :
    run T (.ops (⟨d, o.g, .calli f as⟩ :: l) :: k) e s = run T (.ops l :: k) (put e d r) s' := by
  obtain ⟨m, hm⟩ := callI_run.1 hc
  have key : ∀ n, m ≤ n → opR (runN T n) T (.calli f as) e s = some (r, s') := by
    intro n hmn
    simpa only [opR] using callI_mono (runN_le T hmn) hm
  apply run_ext
  intro x
  constructor
  · rintro ⟨n, hn'⟩
    have hn' := runN_le T (Nat.le_add_right n (m + 1)) _ _ _ _ hn'
    rw [show n + (m + 1) = (n + m) + 1 by omega, runN] at hn'
    simp only [h, key (n + m) (by omega)] at hn'
    exact ⟨_, hn'⟩
  · rintro ⟨n, hn'⟩
    have hn' := runN_le T (Nat.le_add_right n m) _ _ _ _ hn'
    refine ⟨n + m + 1, ?_⟩
    rw [runN]
    simp only [h, key (n + m) (by omega)]
    exact hn'
theorem call_code {f nt : Nat} {res : List Res} {body : IC} {xs : List X} {e' : Env} {s' : Sto} {x : X} (hT : T f = some (.code nt res body)) (hn : xs.length ≤ nt)
    (hr : run T [.code body] (ini xs) s0 = some (e', s')) (hx : resT e' s' res = some x) : call T f xs = some x := by
  simp only [call, callA, hT, hn, if_true, hr, hx]
end
end Go.Proofs.YtoodknhlnifnlaaGreatDoor
