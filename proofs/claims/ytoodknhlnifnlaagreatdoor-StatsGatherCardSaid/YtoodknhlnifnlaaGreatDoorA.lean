/- The engine, part A: abstract values without a heap, and what it means that one stands for a value of the machine. -/
import Derived.Tactics
import Derived.Below
import Derived.Laws.Rows
import Derived.Laws.CopyRow
import Derived.Orders
import Derived.Test.YtoodknhlnifnlaaGreatDoorGl
set_option linter.all false
set_option linter.unusedVariables false
set_option linter.unusedSimpArgs false
namespace Go.Proofs.YtoodknhlnifnlaaGreatDoor
open Go.RowKit

/-- An abstract value. 'sl': an immutable slice with what it leads to (true: made by this call); 'ref', 'ptr', 'ep', 'mp': into variables that this call has made, by name and stamp; 'ip': a pointer into immutable memory. -/
inductive X where
  | v (u : Value)
  | nil
  | sl (f : Bool) (es : List X)
  | agg (cs : List X)
  | tup (cs : List X)
  | ref (o g k i n : Nat)
  | ptr (o g j : Nat)
  | ep (o g k i j : Nat)
  | ip (x : X) (j : Nat)
  | fn (f : Nat) (cs : List X)
  | mp (o g : Nat)
  | junk
  deriving Inhabited

def X.cells : X → List X
  | .agg cs => cs
  | x => [x]

/-- Values that hold no address. -/
def plain : Value → Bool
  | .int _ _ | .bool _ | .string _ | .nilFunc | .nilIface | .pointer none | .map none => true
  | _ => false

/-- What fills one cell. -/
def X.one : X → Bool
  | .agg _ | .tup _ | .junk => false
  | _ => true

/-- A variable in memory. -/
inductive Ob where
  | box (x : X)
  | row (k : Nat) (es : List X)
  | map (es : List (X × X))
  deriving Inhabited

structure SO where
  g : Nat
  wr : Bool
  o : Option Ob
  n : Nat
  deriving Inhabited

abbrev Env := Nat → X
abbrev Sto := Nat → SO
@[inline] def upd {α : Type} (f : Nat → α) (d : Nat) (x : α) : Nat → α := fun n => if n = d then x else f n
theorem upd_same {α : Type} (f : Nat → α) (d : Nat) (x : α) : upd f d x d = x := by simp [upd]
theorem upd_ne {α : Type} (f : Nat → α) {d n : Nat} (x : α) (h : n ≠ d) : upd f d x n = f n := by simp [upd, h]

mutual
def X.deep : X → Bool
  | .v _ => true
  | .sl _ es => deepL es
  | .agg cs => deepL cs
  | .tup cs => deepL cs
  | .fn _ cs => deepL cs
  | _ => false
def deepL : List X → Bool
  | [] => true
  | x :: l => x.deep && deepL l
end

mutual
/-- As an argument: nothing of it was made by the call that is handed it. -/
def X.shr : X → X
  | .sl _ es => .sl false (shrL es)
  | .agg cs => .agg (shrL cs)
  | .tup cs => .tup (shrL cs)
  | .fn f cs => .fn f (shrL cs)
  | .nil => .sl false []
  | .ip x j => .ip x.shr j
  | x => x
def shrL : List X → List X
  | [] => []
  | x :: l => x.shr :: shrL l
end

structure Cx where
  μ : Nat → Nat
  γ : Nat → Nat
  w : World
  sh : Nat → Prop
  fr : Nat → Prop

def Cx.blk (C : Cx) (f : Bool) (b : Nat) : Prop := C.fr b ∨ (f = false ∧ C.sh b)

inductive Rep (C : Cx) : X → Value → Prop
  | v {u : Value} : plain u = true → Rep C (.v u) u
  | nil {b : Option Addr} : Rep C .nil (.slice b 0 0)
  | sl0 {f : Bool} {a : Option Addr} {cap : Nat} : Rep C (.sl f []) (.slice a 0 cap)
  | sl {f : Bool} {es : List X} {b off cap k n : Nat} (val : Nat → Nat → Value) : n = es.length → n ≤ cap →
      es.length ≤ 9223372036854775807 → C.blk f b → (∀ e ∈ es, e.cells.length = k) →
      (∀ i e j c, es[i]? = some e → e.cells[j]? = some c → C.w.cell? ⟨b, off + i * k + j, none⟩ = some (val i j) ∧ c.one = true) →
      (f = true → ∀ j, C.w.frozen? ⟨b, j, none⟩ = false) →
      (∀ i e j c, es[i]? = some e → e.cells[j]? = some c → Rep C c (val i j)) →
      Rep C (.sl f es) (.slice (some ⟨b, off, none⟩) n cap)
  | agg {cs : List X} {vs : Array Value} : cs.length = vs.size → (∀ c ∈ cs, c.one = true) →
      (∀ (j : Nat) c v, cs[j]? = some c → vs[j]? = some v → Rep C c v) → Rep C (.agg cs) (.agg vs)
  | tup {cs : List X} {vs : Array Value} : cs.length = vs.size →
      (∀ (j : Nat) c v, cs[j]? = some c → vs[j]? = some v → Rep C c v) → Rep C (.tup cs) (.tuple vs)
  | fn {f : Nat} {cs : List X} {vs : Array Value} : cs.length = vs.size →
      (∀ (j : Nat) c v, cs[j]? = some c → vs[j]? = some v → Rep C c v) → Rep C (.fn f cs) (.func (.func f) #[] vs)
  | ref {o g k i n : Nat} {v : Value} : 1 ≤ g → g ≤ C.γ o → (C.γ o = g → ∃ cap, v = .slice (some ⟨C.μ o, i * k, none⟩) n cap ∧ n ≤ cap ∧
        ∃ cs t fz, C.w.heap[C.μ o]? = some (.cells cs t fz) ∧ (i + cap) * k = cs.size) → v.oneCell' = true → Rep C (.ref o g k i n) v
  | ptr {o g j : Nat} {v : Value} : 1 ≤ g → g ≤ C.γ o → (C.γ o = g → v = .pointer (some ⟨C.μ o, j, none⟩)) → v.oneCell' = true → Rep C (.ptr o g j) v
  | ep {o g k i j : Nat} {v : Value} : 1 ≤ g → g ≤ C.γ o → (C.γ o = g → v = .pointer (some ⟨C.μ o, i * k + j, none⟩)) → v.oneCell' = true → Rep C (.ep o g k i j) v
  | ip {x : X} {j b off : Nat} (val : Nat → Value) : (C.fr b ∨ C.sh b) →
      (∀ l c, x.cells[l]? = some c → C.w.cell? ⟨b, off + l, none⟩ = some (val l) ∧ c.one = true) →
      (∀ l c, x.cells[l]? = some c → Rep C c (val l)) → Rep C (.ip x j) (.pointer (some ⟨b, off + j, none⟩))
  | mp {o g : Nat} {v : Value} : 1 ≤ g → g ≤ C.γ o → (C.γ o = g → v = .map (some (C.μ o))) → v.oneCell' = true → Rep C (.mp o g) v
  | junk {v : Value} : Rep C .junk v

theorem Rep.one {C : Cx} {x : X} {v : Value} (h : Rep C x v) (ho : x.one = true) : v.oneCell' = true := by
  cases h <;> first | assumption | rfl | (simp [X.one] at ho; done) | skip
  rename_i hp
  cases v <;> first | rfl | (simp [plain] at hp; done)

/-- What lets a standing go over from one context to another. -/
structure Cx.Le (C D : Cx) : Prop where
  cell : ∀ b, C.fr b ∨ C.sh b → ∀ o v, C.w.cell? ⟨b, o, none⟩ = some v → D.w.cell? ⟨b, o, none⟩ = some v
  frozen : ∀ b, C.fr b → ∀ o, C.w.frozen? ⟨b, o, none⟩ = false → D.w.frozen? ⟨b, o, none⟩ = false
  sh : ∀ b, C.sh b → D.sh b ∨ D.fr b
  fr : ∀ b, C.fr b → D.fr b
  γ : ∀ o, C.γ o ≤ D.γ o
  μ : ∀ o, 1 ≤ C.γ o → D.γ o = C.γ o → D.μ o = C.μ o ∧ ∀ cs t fz, C.w.heap[C.μ o]? = some (.cells cs t fz) → ∃ cs' t' fz', D.w.heap[C.μ o]? = some (.cells cs' t' fz') ∧ cs.size = cs'.size

theorem Cx.Le.trans {C D E : Cx} (h : C.Le D) (k : D.Le E) : C.Le E := by
  refine ⟨?_, ?_, ?_, fun b hb => k.fr b (h.fr b hb), fun o => Nat.le_trans (h.γ o) (k.γ o), ?_⟩
  · intro b hb o v hv
    refine k.cell b ?_ o v (h.cell b hb o v hv)
    rcases hb with hb | hb
    · exact .inl (h.fr b hb)
    · rcases h.sh b hb with h1 | h1
      · exact .inr h1
      · exact .inl h1
  · intro b hb o hv
    exact k.frozen b (h.fr b hb) o (h.frozen b hb o hv)
  · intro b hb
    rcases h.sh b hb with h1 | h1
    · exact k.sh b h1
    · exact .inr (k.fr b h1)
  · intro o h1 h2
    have a1 := h.γ o
    have a2 := k.γ o
    obtain ⟨b1, b2⟩ := h.μ o h1 (by omega)
    obtain ⟨c1, c2⟩ := k.μ o (by omega) (by omega)
    refine ⟨c1.trans b1, fun cs t fz hcs => ?_⟩
    obtain ⟨cs', t', fz', d1, d2⟩ := b2 cs t fz hcs
    obtain ⟨cs2, t2, fz2, e1, e2⟩ := c2 cs' t' fz' (b1 ▸ d1)
    exact ⟨cs2, t2, fz2, b1 ▸ e1, d2.trans e2⟩
/-- The world at a call, and what is known there. -/
structure Bs extends World where
  base : Cx
  gok : GOK toWorld
instance : Coe Bs World := ⟨Bs.toWorld⟩

theorem Cx.Le.refl (C : Cx) : C.Le C := ⟨fun _ _ _ _ h => h, fun _ _ _ h => h, fun _ h => .inl h, fun _ h => h, fun _ => Nat.le_refl _, fun _ _ _ => ⟨rfl, fun cs t fz h => ⟨cs, t, fz, h, rfl⟩⟩⟩

theorem Rep.mono {C D : Cx} (h : C.Le D) {x : X} {v : Value} (hx : Rep C x v) : Rep D x v := by
  induction hx with
  | v hp => exact .v hp
  | nil => exact .nil
  | sl0 => exact .sl0
  | @sl f es b off cap k n val hn hcap hl hb hk hc hz _ ih =>
    refine .sl val hn hcap hl ?_ hk (fun i e j c hi hj => ⟨h.cell b ?_ _ _ (hc i e j c hi hj).1, (hc i e j c hi hj).2⟩) (fun hf j => h.frozen b ?_ _ (hz hf j)) ih
    · rcases hb with hb | ⟨hf, hb⟩
      · exact .inl (h.fr b hb)
      · rcases h.sh b hb with hb' | hb'
        · exact .inr ⟨hf, hb'⟩
        · exact .inl hb'
    · exact hb.imp id And.right
    · rcases hb with hb | ⟨hf', _⟩
      · exact hb
      · simp [hf] at hf'
  | agg hl ho _ ih => exact .agg hl ho ih
  | tup hl _ ih => exact .tup hl ih
  | fn hl _ ih => exact .fn hl ih
  | @ref o g k i n v h1 hg hv ho =>
    refine .ref h1 (Nat.le_trans hg (h.γ o)) (fun he => ?_) ho
    have hg' : C.γ o = g := by have := h.γ o; omega
    obtain ⟨cap, rfl, hn, cs, t, fz, hh, hs⟩ := hv hg'
    obtain ⟨hm, hm'⟩ := h.μ o (by omega) (by omega)
    obtain ⟨cs', t', fz', hh', hs'⟩ := hm' cs t fz hh
    exact ⟨cap, by rw [hm], hn, cs', t', fz', by rw [hm]; exact hh', by omega⟩
  | @ptr o g j v h1 hg hv ho =>
    refine .ptr h1 (Nat.le_trans hg (h.γ o)) (fun he => ?_) ho
    have hg' : C.γ o = g := by have := h.γ o; omega
    rw [hv hg', (h.μ o (by omega) (by omega)).1]
  | @ep o g k i j v h1 hg hv ho =>
    refine .ep h1 (Nat.le_trans hg (h.γ o)) (fun he => ?_) ho
    have hg' : C.γ o = g := by have := h.γ o; omega
    rw [hv hg', (h.μ o (by omega) (by omega)).1]
  | @ip x j b off val hb hc _ ih =>
    exact .ip val ((hb.symm.imp (h.sh b) (h.fr b)).elim (fun h => h.symm) .inl) (fun l c hl => ⟨h.cell b hb _ _ (hc l c hl).1, (hc l c hl).2⟩) ih
  | @mp o g v h1 hg hv ho =>
    refine .mp h1 (Nat.le_trans hg (h.γ o)) (fun he => ?_) ho
    have hg' : C.γ o = g := by have := h.γ o; omega
    rw [hv hg', (h.μ o (by omega) (by omega)).1]
  | junk => exact .junk

/-- What holds no address of this call's own asks nothing of names. -/
theorem Rep.deep_mono {C D : Cx} {x : X} {v : Value} (hx : Rep C x v) (hd : x.deep = true)
    (cell : ∀ b, C.fr b ∨ C.sh b → ∀ o v, C.w.cell? ⟨b, o, none⟩ = some v → D.w.cell? ⟨b, o, none⟩ = some v)
    (frozen : ∀ b, C.fr b → ∀ o, C.w.frozen? ⟨b, o, none⟩ = false → D.w.frozen? ⟨b, o, none⟩ = false)
    (sh : ∀ b, C.sh b → D.sh b ∨ D.fr b) (fr : ∀ b, C.fr b → D.fr b) : Rep D x v := by
  have mem : ∀ {l : List X}, deepL l = true → ∀ c ∈ l, c.deep = true := by
    intro l
    induction l with
    | nil => intro _ c hc; cases hc
    | cons a l ih =>
      intro h c hc
      simp only [deepL, Bool.and_eq_true] at h
      cases hc with
      | head => exact h.1
      | tail _ hc => exact ih h.2 c hc
  have cm : ∀ {e : X}, e.deep = true → ∀ c ∈ e.cells, c.deep = true := by
    intro e he c hc
    cases e
    case agg cs => exact mem (l := cs) (by simpa [X.deep] using he) c hc
    all_goals (simp only [X.cells, List.mem_singleton] at hc; subst hc; exact he)
  induction hx with
  | v hp => exact .v hp
  | nil => exact .nil
  | sl0 => exact .sl0
  | @sl f es b off cap k n val hn hcap hl hb hk hc hz _ ih =>
    have hes := mem (show deepL es = true by simpa [X.deep] using hd)
    refine .sl val hn hcap hl ?_ hk (fun i e j c hi hj => ⟨cell b ?_ _ _ (hc i e j c hi hj).1, (hc i e j c hi hj).2⟩) (fun hf j => frozen b ?_ _ (hz hf j)) (fun i e j c hi hj => ih i e j c hi hj (cm (hes e (List.mem_of_getElem? hi)) c (List.mem_of_getElem? hj)))
    · rcases hb with hb | ⟨hf, hb⟩
      · exact .inl (fr b hb)
      · rcases sh b hb with hb' | hb'
        · exact .inr ⟨hf, hb'⟩
        · exact .inl hb'
    · exact hb.imp id And.right
    · rcases hb with hb | ⟨hf', _⟩
      · exact hb
      · simp [hf] at hf'
  | agg hl ho _ ih =>
    have hes := mem (by simpa [X.deep] using hd)
    exact .agg hl ho fun j c v hj hv => ih j c v hj hv (hes c (List.mem_of_getElem? hj))
  | tup hl _ ih =>
    have hes := mem (by simpa [X.deep] using hd)
    exact .tup hl fun j c v hj hv => ih j c v hj hv (hes c (List.mem_of_getElem? hj))
  | fn hl _ ih =>
    have hes := mem (by simpa [X.deep] using hd)
    exact .fn hl fun j c v hj hv => ih j c v hj hv (hes c (List.mem_of_getElem? hj))
  | _ => simp [X.deep] at hd

end Go.Proofs.YtoodknhlnifnlaaGreatDoor

/- The engine, part B: the abstract machine. -/
set_option linter.unusedVariables false
set_option linter.unusedSimpArgs false
namespace Go.Proofs.YtoodknhlnifnlaaGreatDoor
open Go.RowKit

/-- An operand: a slot or a constant. -/
inductive Ar where
  | t (n : Nat)
  | k (x : X)
  deriving Inhabited

def Ar.ev (e : Env) : Ar → X
  | .t n => e n
  | .k x => x

/-- What a cell that is compared holds. -/
inductive LK where
  | i | s | b
  deriving DecidableEq, Inhabited

inductive IOp where
  | mov (a : Ar)
  | pick (c a b : Ar)
  | box (o : Nat) (a : Ar)
  | boxI (a : Ar)
  | build (z : List X) (ps : List (Nat × Nat × Ar))
  | bsl (o k n : Nat) (z : X) (ps : List (Nat × Ar))
  | bsn (o k : Nat) (z : X) (d : Nat) (ix a : Ar)
  | bslI (k n : Nat) (z : X) (ps : List (Nat × Ar))
  | ld (a : Ar) (w : Nat) (ag : Bool)
  | st (a b : Ar) (w : Nat)
  | nck (a : Ar)
  | bin (op : BinOp) (a b : Ar)
  | eqs (neg : Bool) (ks : List LK) (a b : Ar)
  | eqb (neg : Bool) (a b : Ar)
  | un (op : UnOp) (a : Ar)
  | cvs (a : Ar)
  | conv (k : IntKind) (a : Ar)
  | fa (a : Ar) (j : Nat)
  | fld (a : Ar) (j w : Nat) (ag : Bool)
  | ixa (a i : Ar) (w : Nat)
  | ixp (a i : Ar) (w n : Nat)
  | ixs (a i : Ar)
  | ixv (a i : Ar) (w n : Nat) (ag : Bool)
  | sls (a : Ar) (lo hi : Option Ar)
  | sli (w : Nat) (a : Ar) (lo hi : Option Ar)
  | mks (o k : Nat) (z : X) (len cap : Ar) (lim : Nat)
  | len (a : Ar)
  | lens (a : Ar)
  | app (o k lim : Nat) (a b : Ar)
  | mnmx (mx : Bool) (a : Ar) (l : List Ar)
  | ext (a : Ar) (i : Nat)
  | mkf (f : Nat) (l : List Ar)
  | call (still : Bool) (f : Nat) (l : List Ar)
  | callv (still : Bool) (f : Ar) (l : List Ar)
  | calli (f : Nat) (l : List Ar)
  | callb (f : Nat) (l : List Ar)
  | callo (st : Bool) (p : List Nat) (q f : Nat) (l : List Ar)
  | callw (f : Ar) (l : List Ar)
  | eqn (neg : Bool) (a : Ar)
  | mkm (o : Nat) (h : Option Ar)
  | mlk (ks : List LK) (ag : Bool) (m k : Ar) (z : X) (ok : Bool)
  | men (ks : List LK) (ag : Bool) (m k : Ar) (z : X)
  | mst (m st v : Ar)
  | mup (ks : List LK) (ag : Bool) (m k v : Ar)
  | mln (m : Ar)
  deriving Inhabited

structure GOp where
  d : Option Nat
  g : Option (Nat × Bool)
  op : IOp
  deriving Inhabited

inductive IC where
  | ops (l : List GOp)
  | dops (ch js : List Nat) (l m : List GOp)
  | seq (a b : IC)
  | cond (c : Ar) (t e : IC)
  | block (id : Nat) (c : IC)
  | loop (c : IC)
  | scope (c : IC)
  | exit (id : Nat)
  | ret
  | skip
  deriving Inhabited

inductive It where
  | code (c : IC)
  | ops (l : List GOp)
  | lp (c : IC)
  | bl (id : Nat)
  | chk (ch : List Nat) (js : List GOp) (s : Sto)
  deriving Inhabited

inductive Res where
  | tmp (t : Nat)
  | nst (t : Nat)
  | cell (t w : Nat) (ag : Bool)
  deriving Inhabited

inductive Fe where
  | code (nt : Nat) (res : List Res) (body : IC)
  | codez (nt : Nat) (res : List Res) (body : IC)
  | ext (F : List X → Option X)
  | extI (F : List X → Sto → Option (X × Sto))

def partX (cs : List X) (j w : Nat) (ag : Bool) : Option X :=
  if j + w ≤ cs.length then (if ag then some (.agg ((cs.drop j).take w)) else if w = 1 then cs[j]? else none) else none

def spl {α : Type} (cs : List α) (j : Nat) (ys : List α) : List α := cs.take j ++ ys ++ cs.drop (j + ys.length)

def setC (x : X) (j : Nat) (ys : List X) : X :=
  match x with
  | .agg cs => .agg (spl cs j ys)
  | _ => match ys with
    | [y] => y
    | _ => x

/-- A cell without names: what a row of this call's own holds becomes immutable. -/
def dpn (s : Sto) : X → Option X
  | .ref o g k i n =>
    match (s o).o with
    | some (.row k' es) => if g = (s o).g ∧ k = k' ∧ i + n ≤ es.length ∧ deepL es = true then some (.sl true ((es.drop i).take n)) else none
    | _ => none
  | .nil => some (.sl true [])
  | .agg _ => none
  | .tup _ => none
  | x => if x.deep then some x else none
def dpL (s : Sto) : List X → Option (List X)
  | [] => some []
  | x :: l => match dpn s x, dpL s l with
    | some y, some m => some (y :: m)
    | _, _ => none
def dpC (s : Sto) : X → Option X
  | .agg cs => match dpL s cs with
    | some ds => some (.agg ds)
    | none => none
  | x => dpn s x
def nmX : X → List Nat
  | .ref o _ _ _ _ => [o]
  | _ => []
def nmC : X → List Nat
  | .agg cs => cs.flatMap nmX
  | x => nmX x
@[simp] def SO.fz (x : SO) : SO := { x with wr := false, n := x.n + 1 }
def frz (s : Sto) (l : List Nat) : Sto := fun o => if o ∈ l then (s o).fz else s o

def fill (e : Env) (cs : List X) : List (Nat × Nat × Ar) → Option (List X)
  | [] => some cs
  | (j, w, a) :: r =>
    if (a.ev e).cells.length = w ∧ j + w ≤ cs.length ∧ (a.ev e).cells.all X.one = true then fill e (spl cs j (a.ev e).cells) r else none

def fillE (e : Env) (s : Sto) (k : Nat) (es : List X) : List (Nat × Ar) → Option (List X × List Nat)
  | [] => some (es, [])
  | (i, a) :: r =>
    match dpC s (a.ev e) with
    | some x => if x.cells.length = k ∧ i < es.length ∧ x.cells.all X.one = true then
        match fillE e s k (es.set i x) r with
        | some (es', nm) => some (es', nmC (a.ev e) ++ nm)
        | none => none
      else none
    | none => none

def bitsV (op : BinOp) (k : IntKind) (x y : Int) : Option Value :=
  let a := BitVec.ofInt k.bits x
  let b := BitVec.ofInt k.bits y
  match op with
  | .and => some (.int k (k.wrap (a &&& b).toNat))
  | .or => some (.int k (k.wrap (a ||| b).toNat))
  | .xor => some (.int k (k.wrap (a ^^^ b).toNat))
  | .andNot => some (.int k (k.wrap (a &&& ~~~b).toNat))
  | _ => none

def binV (op : BinOp) : Value → Value → Option Value
  | .int k a, .int k' b =>
    match op with
    | .shl => if b < 0 then none else some (.int k (k.wrap (a * 2 ^ min b.toNat k.bits)))
    | .shr => if b < 0 then none else some (.int k (a.fdiv (2 ^ min b.toNat k.bits)))
    | _ => if k ≠ k' then none else
      match op with
      | .add => some (.int k (k.wrap (a + b)))
      | .sub => some (.int k (k.wrap (a - b)))
      | .mul => some (.int k (k.wrap (a * b)))
      | .quo => if b = 0 then none else some (.int k (k.wrap (a.tdiv b)))
      | .rem => if b = 0 then none else some (.int k (a.tmod b))
      | .eql => some (.bool (a == b))
      | .neq => some (.bool (a != b))
      | .lss => some (.bool (decide (a < b)))
      | .leq => some (.bool (decide (a ≤ b)))
      | .gtr => some (.bool (decide (a > b)))
      | .geq => some (.bool (decide (a ≥ b)))
      | _ => bitsV op k a b
  | .string a, .string b =>
    match op with
    | .add => if ((a.size + b.size : Nat) : Int) > IntKind.i64.max then none else some (.string (a ++ b))
    | .eql => some (.bool (a.toList == b.toList))
    | .neq => some (.bool (!(a.toList == b.toList)))
    | .lss => some (.bool (Op.bytesLess a.toList b.toList))
    | .leq => some (.bool (Op.bytesLess a.toList b.toList || a.toList == b.toList))
    | .gtr => some (.bool (!(Op.bytesLess a.toList b.toList || a.toList == b.toList)))
    | .geq => some (.bool (!(Op.bytesLess a.toList b.toList)))
    | _ => none
  | _, _ => none

def eqV : LK → Value → Value → Option Bool
  | .i, .int k a, .int k' b => if k = k' then some (a == b) else none
  | .s, .string a, .string b => some (a.toList == b.toList)
  | .b, .bool a, .bool b => some (a == b)
  | _, _, _ => none
def eqL : List LK → List X → List X → Option Bool
  | [], [], [] => some true
  | k :: ks, .v a :: l, .v b :: m => match eqV k a b, eqL ks l m with
    | some p, some q => some (p && q)
    | _, _ => none
  | _, _, _ => none

def unV (op : UnOp) : Value → Option Value
  | .int k n => match op with
    | .neg => some (.int k (k.wrap (0 - n)))
    | .xor => bitsV .xor k (if k.signed then -1 else k.max) n
    | _ => none
  | .bool b => match op with
    | .not => some (.bool !b)
    | _ => none
  | _ => none

def mnx (mx : Bool) : Value → Value → Option Value
  | .int k x, .int k' y => if k = k' then some (.int k (if mx then (if y > x then y else x) else (if y < x then y else x))) else none
  | _, _ => none
def mnxL (mx : Bool) (e : Env) (u : Value) : List Ar → Option Value
  | [] => some u
  | a :: l => match a.ev e with
    | .v y => match mnx mx u y with
      | some z => mnxL mx e z l
      | none => none
    | _ => none

def asI : X → Option Int
  | .v (.int _ i) => some i
  | _ => none

/-- A bound of a cut: from 0 to y. -/
def bnd (e : Env) (a : Option Ar) (dflt y : Nat) : Option Nat :=
  match a with
  | none => some dflt
  | some a => match asI (a.ev e) with
    | some i => if 0 ≤ i ∧ i ≤ (y : Int) then some i.toNat else none
    | none => none

def elems (s : Sto) : X → Option (List X)
  | .nil => some []
  | .sl _ es => some es
  | .ref o g k i n =>
    match (s o).o with
    | some (.row k' es) => if g = (s o).g ∧ k = k' ∧ i + n ≤ es.length then some ((es.drop i).take n) else none
    | _ => none
  | _ => none

def X.isRef : X → Bool
  | .ref .. => true
  | .nil => true
  | _ => false
/-- What a row may hold: cells without names, or slices of this call's own. -/
def X.lit (y : X) : Bool := y.cells.all fun c => c.deep || c.isRef
def okE (k : Nat) (ys : List X) : Bool := ys.all fun y => y.cells.length == k && (y.deep || y.lit)

@[simp] def SO.nw (x : SO) (b : Ob) : SO := ⟨x.g + 1, true, some b, x.n + 1⟩
@[simp] def SO.sw (x : SO) (b : Ob) : SO := ⟨x.g, true, some b, x.n + 1⟩
def newO (s : Sto) (o : Nat) (b : Ob) : Sto := upd s o ((s o).nw b)
def setO (s : Sto) (o : Nat) (b : Ob) : Sto := upd s o ((s o).sw b)

def ldX (s : Sto) (x : X) (w : Nat) (ag : Bool) : Option X :=
  match x with
  | .ptr o g j => match (s o).o with
    | some (.box y) => if g = (s o).g then partX y.cells j w ag else none
    | _ => none
  | .ep o g k i j => match (s o).o with
    | some (.row k' es) => if g = (s o).g ∧ k = k' ∧ j + w ≤ k then match es[i]? with
      | some y => partX y.cells j w ag
      | none => none
      else none
    | _ => none
  | .ip y j => partX y.cells j w ag
  | _ => none

def stX (s : Sto) (x y : X) (w : Nat) : Option Sto :=
  match x with
  | .ptr o g j => match (s o).o with
    | some (.box z) =>
      if g = (s o).g ∧ (s o).wr = true ∧ y.cells.length = w ∧ j + w ≤ z.cells.length ∧ y.cells.all X.one = true then some (setO s o (.box (setC z j y.cells))) else none
    | _ => none
  | .ep o g k i j => match (s o).o, dpC s y with
    | some (.row k' es), some y' => match es[i]? with
      | some z =>
        if g = (s o).g ∧ k = k' ∧ (s o).wr = true ∧ y'.cells.length = w ∧ j + w ≤ k ∧ y'.cells.all X.one = true ∧ ¬ o ∈ nmC y then some (frz (setO s o (.row k (es.set i (setC z j y'.cells)))) (nmC y)) else none
      | none => none
    | _, _ => none
  | _ => none

mutual
def X.scal : X → Bool
  | .v _ => true
  | .agg cs => scalL cs
  | .tup cs => scalL cs
  | _ => false
def scalL : List X → Bool
  | [] => true
  | x :: l => x.scal && scalL l
end

mutual
/-- The names of this call's variables that a value holds. -/
def nmA : X → List Nat
  | .ref o _ _ _ _ => [o]
  | .ptr o _ _ => [o]
  | .ep o _ _ _ _ => [o]
  | .mp o _ => [o]
  | .agg cs => nmL cs
  | .tup cs => nmL cs
  | .fn _ cs => nmL cs
  | _ => []
def nmL : List X → List Nat
  | [] => []
  | x :: l => nmA x ++ nmL l
end

/-- Where a key stands among entries. -/
def eqX (ks : List LK) : Bool → X → X → Option Bool
  | true, .agg l, .agg m => eqL ks l m
  | false, .v a, .v b => match ks with
    | [k] => eqV k a b
    | _ => none
  | _, _, _ => none
def okKey (ks : List LK) : Bool → X → Bool
  | true, .agg l => l.length == ks.length
  | false, .v _ => ks.length == 1
  | _, _ => false
def mfind (ks : List LK) (ag : Bool) (key : X) : List (X × X) → Option (Option Nat)
  | [] => if okKey ks ag key = true then some none else none
  | p :: es => match eqX ks ag key p.1 with
    | some true => some (some 0)
    | some false => match mfind ks ag key es with
      | some r => some (r.map (· + 1))
      | none => none
    | none => none
def mpX (s : Sto) : X → Option (Nat × List (X × X))
  | .mp o g => match (s o).o with
    | some (.map es) => if g = (s o).g ∧ (s o).wr = true then some (o, es) else none
    | _ => none
  | _ => none
def hintB (e : Env) : Option Ar → Bool
  | none => true
  | some a => (asI (a.ev e)).isSome
def setV (es : List (X × X)) (i : Nat) (v : X) : List (X × X) := es.modify i fun p => (p.1, v)

/-- A variable of this call's own gets another name. -/
def mvO (s : Sto) (o d : Nat) (ob : Ob) : Sto := upd (upd s d ⟨(s d).g + 1, true, some ob, (s d).n + 1⟩) o ⟨(s o).g, (s o).wr, none, (s o).n + 1⟩
/-- Cells of which one may be a slice of this call's own: it gets a name of its own. -/
def renL (s : Sto) (d : Nat) : List X → Option (List X × Sto)
  | [] => some ([], s)
  | .ref o g k i n :: l => match (s o).o with
    | some ob => if g = (s o).g ∧ (s o).wr = true ∧ ¬ o = d ∧ deepL l = true then some (.ref d ((s d).g + 1) k i n :: l, mvO s o d ob) else none
    | none => none
  | .nil :: l => if deepL l = true then some (.nil :: l, s) else none
  | c :: l => if c.deep = true then match renL s d l with
    | some (l', s') => some (c :: l', s')
    | none => none else none
def retS (x : Option X) (s : Sto) : Option (X × Sto) := match x with
  | some x => some (x, s)
  | none => none

def stepO (op : IOp) (e : Env) (s : Sto) : Option (X × Sto) :=
  match op with
  | .mov a => some (a.ev e, s)
  | .pick c a b => match c.ev e with
    | .v (.bool t) => some (cond t (a.ev e) (b.ev e), s)
    | _ => none
  | .box o a => if (a.ev e).cells.all X.one = true then some (.ptr o ((s o).g + 1) 0, newO s o (.box (a.ev e))) else none
  | .boxI a => if (a.ev e).deep = true ∧ (a.ev e).cells.all X.one = true then some (.ip (a.ev e) 0, s) else none
  | .build z ps => match fill e z ps with
    | some cs => some (.agg cs, s)
    | none => none
  | .bsl o k n z ps => match fillE e s k (List.replicate n z) ps with
    | some (es, nm) => if o ∈ nm then none else some (.ref o ((s o).g + 1) k 0 n, frz (newO s o (.row k es)) nm)
    | none => none
  | .bslI k n z ps => match fillE e s k (List.replicate n z) ps with
    | some (es, []) => some (.sl true es, s)
    | _ => none
  | .bsn q k z d ix a => match asI (ix.ev e), a.ev e with
    | some i, .agg cs => if 0 ≤ i ∧ cs.length = k ∧ cs.all X.one = true ∧ ¬ q = d + i.toNat then match renL s (d + i.toNat) cs with
        | some (cs', s') => some (.ref q ((s' q).g + 1) k 0 1, newO s' q (.row k [.agg cs']))
        | none => none
      else none
    | _, _ => none
  | .ld a w ag => retS (ldX s (a.ev e) w ag) s
  | .st a b w => match stX s (a.ev e) (b.ev e) w with
    | some s' => some (.junk, s')
    | none => none
  | .nck a => match a.ev e with
    | .ptr o g j => if g = (s o).g then some (.ptr o g j, s) else none
    | .ep o g k i j => if g = (s o).g then some (.ep o g k i j, s) else none
    | .ip x j => some (.ip x j, s)
    | _ => none
  | .bin op a b => match a.ev e, b.ev e with
    | .v x, .v y => match binV op x y with
      | some z => some (.v z, s)
      | none => none
    | _, _ => none
  | .eqs neg ks a b => match a.ev e, b.ev e with
    | .agg x, .agg y => match eqL ks x y with
      | some z => some (.v (.bool (if neg then !z else z)), s)
      | none => none
    | _, _ => none
  | .eqb neg a b => match a.ev e, b.ev e with
    | .v (.bool x), .v (.bool y) => some (.v (.bool (if neg then !(x == y) else x == y)), s)
    | _, _ => none
  | .un op a => match a.ev e with
    | .v x => match unV op x with
      | some z => some (.v z, s)
      | none => none
    | _ => none
  | .cvs a => match a.ev e with
    | .v (.string b) => some (.v (.string b), s)
    | _ => none
  | .conv k a => match a.ev e with
    | .v (.int _ n) => some (.v (.int k (k.wrap n)), s)
    | _ => none
  | .fa a j => match a.ev e with
    | .ptr o g i => if g = (s o).g then some (.ptr o g (i + j), s) else none
    | .ep o g k i l => if g = (s o).g then some (.ep o g k i (l + j), s) else none
    | .ip x i => some (.ip x (i + j), s)
    | _ => none
  | .fld a j w ag => match a.ev e with
    | .agg cs => retS (partX cs j w ag) s
    | _ => none
  | .ixa a i w => match asI (i.ev e) with
    | some n => match a.ev e with
      | .sl _ es => if 0 ≤ n ∧ n < (es.length : Int) then match es[n.toNat]? with
          | some x => if x.cells.length = w then some (.ip x 0, s) else none
          | none => none
        else none
      | .ref o g k j m => if 0 ≤ n ∧ n < (m : Int) ∧ k = w ∧ g = (s o).g then some (.ep o g k (j + n.toNat) 0, s) else none
      | _ => none
    | none => none
  | .ixp a i w n => match asI (i.ev e) with
    | some m => if 0 ≤ m ∧ m < (n : Int) then match a.ev e with
      | .ptr o g j => if g = (s o).g then some (.ptr o g (j + m.toNat * w), s) else none
      | .ip x j => some (.ip x (j + m.toNat * w), s)
      | _ => none
      else none
    | none => none
  | .ixs a i => match a.ev e, asI (i.ev e) with
    | .v (.string b), some n => match (if 0 ≤ n then b[n.toNat]? else none) with
      | some c => some (.v (.int .u8 c.toNat), s)
      | none => none
    | _, _ => none
  | .ixv a i w n ag => match a.ev e, asI (i.ev e) with
    | .agg cs, some m => if 0 ≤ m ∧ m < (n : Int) then retS (partX cs (m.toNat * w) w ag) s else none
    | _, _ => none
  | .sls a lo hi => match a.ev e with
    | .v (.string b) => match bnd e hi b.size b.size with
      | some h => match bnd e lo 0 h with
        | some l => some (.v (.string (b.extract l h)), s)
        | none => none
      | none => none
    | _ => none
  | .sli w a lo hi => match a.ev e with
    | .sl f es => if es.all (fun y => y.cells.length == w) = false then none else match bnd e hi es.length es.length with
      | some h => match bnd e lo 0 h with
        | some l => some (.sl f ((es.drop l).take (h - l)), s)
        | none => none
      | none => none
    | .ref o g k i n => if ¬ (g = (s o).g ∧ k = w) then none else match bnd e hi n n with
      | some h => match bnd e lo 0 h with
        | some l => some (if l = 0 then .ref o g k i h else if h - l = 0 then .sl true [] else .ref o g k (i + l) (h - l), s)
        | none => none
      | none => none
    | .nil => match bnd e hi 0 0 with
      | some _ => match bnd e lo 0 0 with
        | some _ => some (.nil, s)
        | none => none
      | none => none
    | _ => none
  | .mks o k z len cap lim => match asI (len.ev e), asI (cap.ev e) with
    | some l, some c => if 0 ≤ l ∧ l ≤ c ∧ c ≤ (lim : Int) ∧ z.cells.length = k ∧ z.deep = true ∧ z.cells.all X.one = true then some (.ref o ((s o).g + 1) k 0 l.toNat, newO s o (.row k (List.replicate l.toNat z))) else none
    | _, _ => none
  | .len a => match a.ev e with
    | .sl _ es => some (.v (.int .i64 es.length), s)
    | .ref o g _ _ n => if g = (s o).g then some (.v (.int .i64 n), s) else none
    | .nil => some (.v (.int .i64 0), s)
    | _ => none
  | .lens a => match a.ev e with
    | .v (.string b) => some (.v (.int .i64 b.size), s)
    | _ => none
  | .app o k lim a b => match elems s (b.ev e) with
    | some ys => if okE k ys = false then none else match a.ev e with
      | .nil => if ys = [] then some (.nil, s) else
          if ys.length ≤ lim then some (.ref o ((s o).g + 1) k 0 ys.length, newO s o (.row k ys)) else none
      | .ref o' g k' i n => match (s o').o with
        | some (.row k'' es) =>
          if g = (s o').g ∧ k' = k ∧ k'' = k ∧ (s o').wr = true ∧ i = 0 ∧ n = es.length ∧ n + ys.length ≤ lim ∧ ¬ o' ∈ nmX (b.ev e) then
            some (.ref o' (g + 1) k i (n + ys.length), newO s o' (.row k (es ++ ys))) else none
        | _ => none
      | _ => none
    | none => none
  | .mnmx mx a l => match a.ev e with
    | .v u => match mnxL mx e u l with
      | some z => some (.v z, s)
      | none => none
    | _ => none
  | .ext a i => match a.ev e with
    | .tup cs => retS cs[i]? s
    | _ => none
  | .mkf f l => if (l.map (Ar.ev e)).all X.one = true then some (.fn f (l.map (Ar.ev e)), s) else none
  | .call .. => none
  | .callv .. => none
  | .calli .. => none
  | .callb .. => none
  | .callo .. => none
  | .callw .. => none
  | .eqn neg a => match a.ev e with
    | .sl _ (_ :: _) => some (.v (.bool neg), s)
    | .ref o g _ _ _ => if g = (s o).g then some (.v (.bool neg), s) else none
    | _ => none
  | .mkm o h => if hintB e h = true then some (.mp o ((s o).g + 1), newO s o (.map [])) else none
  | .mlk ks ag m k z ok => match mpX s (m.ev e) with
    | some (_, es) => match mfind ks ag (k.ev e) es with
      | some r => match (match r with
          | some i => es[i]?.map Prod.snd
          | none => some z) with
        | some v => some (if ok then .tup [v, .v (.bool r.isSome)] else v, s)
        | none => none
      | none => none
    | none => none
  | .men ks ag m k z => match mpX s (m.ev e) with
    | some (o, es) => match mfind ks ag (k.ev e) es with
      | some (some i) => match es[i]? with
        | some p => some (.tup [p.2, .v (.int .i64 i)], setO s o (.map es))
        | none => none
      | some none => if (k.ev e).scal = true ∧ z.scal = true then some (.tup [z, .v (.int .i64 es.length)], setO s o (.map (es ++ [(k.ev e, z)]))) else none
      | none => none
    | none => none
  | .mst m st v => match mpX s (m.ev e), asI (st.ev e) with
    | some (o, es), some i => if 0 ≤ i ∧ i < (es.length : Int) ∧ (v.ev e).scal = true then some (.junk, setO s o (.map (setV es i.toNat (v.ev e)))) else none
    | _, _ => none
  | .mup ks ag m k v => match mpX s (m.ev e) with
    | some (o, es) => if (k.ev e).scal = true ∧ (v.ev e).scal = true then match mfind ks ag (k.ev e) es with
      | some (some i) => some (.junk, setO s o (.map (setV es i (v.ev e))))
      | some none => some (.junk, setO s o (.map (es ++ [(k.ev e, v.ev e)])))
      | none => none
      else none
    | none => none
  | .mln m => match mpX s (m.ev e) with
    | some (_, es) => some (.v (.int .i64 es.length), s)
    | none => none

/-- Two values that are the same for sure. -/
def sameV : X → X → Bool
  | .v (.int k a), .v (.int k' b) => k == k' && a == b
  | .v (.bool a), .v (.bool b) => a == b
  | _, _ => false

end Go.Proofs.YtoodknhlnifnlaaGreatDoor

/- The engine, part C: the abstract machine runs. -/
set_option linter.unusedVariables false
set_option linter.unusedSimpArgs false
namespace Go.Proofs.YtoodknhlnifnlaaGreatDoor
open Go.RowKit

def popTo (id : Nat) : List It → Option (List It)
  | .bl id' :: k => if id' == id then some k else popTo id k
  | _ :: k => popTo id k
  | [] => none

def gd (o : GOp) (e : Env) : Option Bool :=
  match o.g with
  | none => some true
  | some (t, want) => match e t with
    | .v (.bool b) => some (b == want)
    | .tup [] => some false
    | _ => none

def put (e : Env) (d : Option Nat) (x : X) : Env :=
  match d with
  | some d => upd e d x
  | none => e

def ini (l : List X) : Env := fun n => l.getD n .junk
def s0 : Sto := fun _ => ⟨0, false, none, 0⟩

/-- Elements whose slices become immutable too. -/
def dpE (s : Sto) : List X → Option (List X)
  | [] => some []
  | .agg cs :: l => match dpL s cs, dpE s l with
    | some ds, some m => some (.agg ds :: m)
    | _, _ => none
  | _ :: _ => none
def dpm (s : Sto) : X → Option X
  | .ref o g k i n => match (s o).o with
    | some (.row k' es) => if g = (s o).g ∧ k = k' ∧ i + n ≤ es.length then match dpE s ((es.drop i).take n) with
        | some ds => some (.sl true ds)
        | none => none
      else none
    | _ => none
  | x => dpC s x
def nmm (s : Sto) : X → List Nat
  | .ref o _ _ _ _ => o :: match (s o).o with
    | some (.row _ es) => es.flatMap nmC
    | _ => []
  | x => nmC x
def resX (e : Env) (s : Sto) : Res → Option X
  | .tmp t => dpC s (e t)
  | .nst t => dpm s (e t)
  | .cell t w ag => match ldX s (e t) w ag with
    | some x => dpC s x
    | none => none
def resL (e : Env) (s : Sto) : List Res → Option (List X)
  | [] => some []
  | r :: l => match resX e s r, resL e s l with
    | some x, some m => some (x :: m)
    | _, _ => none
def resT (e : Env) (s : Sto) (l : List Res) : Option X :=
  match l with
  | [r] => resX e s r
  | _ => match resL e s l with
    | some m => some (.tup m)
    | none => none

def resN (e : Env) (s : Sto) : List Res → List Nat
  | [] => []
  | .tmp t :: l => nmC (e t) ++ resN e s l
  | .nst t :: l => nmm s (e t) ++ resN e s l
  | .cell t w ag :: l => (match ldX s (e t) w ag with
    | some x => nmC x
    | none => []) ++ resN e s l

/-- Without names, and no variable is looked at. -/
def dpn0 : X → Option X
  | .nil => some (.sl true [])
  | .agg _ => none
  | .tup _ => none
  | x => if x.deep then some x else none
def dpL0 : List X → Option (List X)
  | [] => some []
  | x :: l => match dpn0 x, dpL0 l with
    | some y, some m => some (y :: m)
    | _, _ => none
def dpC0 : X → Option X
  | .agg cs => match dpL0 cs with
    | some ds => some (.agg ds)
    | none => none
  | x => dpn0 x
/-- What is handed over: a variable's address too; the variable is not written while it is out. -/
def dpH (s : Sto) : X → Option X
  | .ptr o g j => match (s o).o with
    | some (.box y) => if g = (s o).g then match dpC0 y with
        | some z => some (.ip z j)
        | none => none
      else none
    | _ => none
  | .ip x j => if x.deep then some (.ip x j) else none
  | x => dpn s x
def dpHL (s : Sto) : List X → Option (List X)
  | [] => some []
  | x :: l => match dpH s x, dpHL s l with
    | some y, some m => some (y :: m)
    | _, _ => none
def dpG (s : Sto) : X → Option X
  | .fn f cs => match dpHL s cs with
    | some ds => some (.fn f ds)
    | none => none
  | .ptr o g j => dpH s (.ptr o g j)
  | .ip x j => dpH s (.ip x j)
  | x => dpC s x
def nmH : X → List Nat
  | .ptr o _ _ => [o]
  | x => nmX x
def nmG : X → List Nat
  | .fn _ cs => cs.flatMap nmH
  | .ptr o _ _ => [o]
  | x => nmC x
def dpA (s : Sto) : List X → Option (List X)
  | [] => some []
  | x :: l => match dpG s x, dpA s l with
    | some y, some m => some (y.shr :: m)
    | _, _ => none

/-- A call: the arguments without names; behind it what was handed over under a name is not written any more, unless the result is numbers, texts and the like alone. -/
def callA (run : List It → Env → Sto → Option (Env × Sto)) (T : Nat → Option Fe) (f : Nat) (xs : List X) : Option X :=
  match T f with
  | none => none
  | some (.ext F) => F xs
  | some (.extI _) => none
  | some (.codez ..) => none
  | some (.code nt res body) =>
    if xs.length ≤ nt then
      match run [.code body] (ini xs) s0 with
      | some (e, s) => resT e s res
      | none => none
    else none

def resIX (e : Env) (s : Sto) : Res → Option X
  | .tmp t => some (e t)
  | .nst t => some (e t)
  | .cell t w ag => ldX s (e t) w ag
def resIL (e : Env) (s : Sto) : List Res → Option (List X)
  | [] => some []
  | r :: l => match resIX e s r, resIL e s l with
    | some x, some m => some (x :: m)
    | _, _ => none
def resI (e : Env) (s : Sto) (l : List Res) : Option X :=
  match l with
  | [r] => resIX e s r
  | _ => match resIL e s l with
    | some m => some (.tup m)
    | none => none
/-- A call that is carried out in the midst of the caller's variables. -/
def callI (run : List It → Env → Sto → Option (Env × Sto)) (T : Nat → Option Fe) (f : Nat) (xs : List X) (s : Sto) : Option (X × Sto) :=
  match T f with
  | some (.code nt res body) =>
    if xs.length ≤ nt then
      match run [.code body] (ini xs) s with
      | some (e', s') => match resI e' s' res with
        | some x => some (x, s')
        | none => none
      | none => none
    else none
  | some (.codez nt res body) =>
    if xs.length ≤ nt then
      match run [.code body] (ini xs) s with
      | some (e', s') => match resT e' s' res with
        | some x => some (x, frz s' (resN e' s' res))
        | none => none
      | none => none
    else none
  | some (.extI F) => F xs s
  | _ => none

def callS (run : List It → Env → Sto → Option (Env × Sto)) (T : Nat → Option Fe) (still : Bool) (f : Nat) (l : List X) (s : Sto) : Option (X × Sto) :=
  match dpA s l with
  | none => none
  | some xs => match callA run T f xs with
    | none => none
    | some r => if r.scal = true then some (r, s) else if still = true ∧ ¬ (l.flatMap nmG = []) then none else some (r, frz s (l.flatMap nmG))

/-- Arguments whose rows may hold slices. -/
def dpGm (s : Sto) : X → Option X
  | .ref o g k i n => dpm s (.ref o g k i n)
  | x => dpG s x
def nmGm (s : Sto) : X → List Nat
  | .ref o g k i n => nmm s (.ref o g k i n)
  | x => nmG x
def dpAm (s : Sto) : List X → Option (List X)
  | [] => some []
  | x :: l => match dpGm s x, dpAm s l with
    | some y, some m => some (y.shr :: m)
    | _, _ => none
/-- A call that gives numbers, texts and the like alone: nothing is frozen behind it. -/
def callB (run : List It → Env → Sto → Option (Env × Sto)) (T : Nat → Option Fe) (f : Nat) (l : List X) (s : Sto) : Option (X × Sto) :=
  match dpAm s l with
  | none => none
  | some xs => match callA run T f xs with
    | none => none
    | some r => if r.scal = true then some (r, s) else none

/-- What is handed back, in parts. -/
def dpT (s : Sto) : List X → Option (List X)
  | [] => some []
  | x :: l => match dpC s x, dpT s l with
    | some y, some m => some (y :: m)
    | _, _ => none
/-- One row of what is handed back stays a variable: its place, and the rest without names. -/
def ownX (s : Sto) : List Nat → X → Option (X × X)
  | [], x => some (.nil, x)
  | i :: p, .tup cs => match cs[i]? with
    | some c => match ownX s p c, dpT s (cs.set i .nil) with
      | some (h, y), some ds => some (.tup (ds.set i h), y)
      | _, _ => none
    | none => none
  | [i], .agg cs => match cs[i]?, dpL s (cs.set i .nil) with
    | some c, some ds => some (.agg (ds.set i .nil), c)
    | _, _ => none
  | _, _ => none
def ownN : List Nat → X → List Nat
  | [], _ => []
  | i :: p, .tup cs => (cs.set i .nil).flatMap nmC ++ (match cs[i]? with
    | some c => ownN p c
    | none => [])
  | i :: _, .agg cs => (cs.set i .nil).flatMap nmX
  | _, _ => []
def plug : List Nat → X → X → X
  | [], _, y => y
  | i :: p, .tup cs, y => .tup (cs.set i (plug p (cs.getD i .nil) y))
  | i :: _, .agg cs, y => .agg (cs.set i y)
  | _, x, _ => x
/-- The row that is handed over. -/
def ownR (s : Sto) (nm : List Nat) : Option (X × X) → Option (X × Option (Nat × List X))
  | some (r, .nil) => some (r, none)
  | some (r, .ref o g k i n) => match (s o).o with
    | some (.row k' es) => if g = (s o).g ∧ (s o).wr = true ∧ k = k' ∧ i = 0 ∧ n = es.length ∧ deepL es = true ∧ ¬ o ∈ nm then some (r, some (k, es)) else none
    | _ => none
  | _ => none
def ownA (run : List It → Env → Sto → Option (Env × Sto)) (T : Nat → Option Fe) (p : List Nat) (f : Nat) (xs : List X) : Option (X × Option (Nat × List X)) :=
  match T f with
  | some (.code nt res body) =>
    if xs.length ≤ nt then
      match run [.code body] (ini xs) s0 with
      | some (e, s) => match resI e s res with
        | some r => ownR s (ownN p r) (ownX s p r)
        | none => none
      | none => none
    else none
  | _ => none
/-- The row comes under a name of the caller's. -/
def callOR (st : Bool) (p : List Nat) (q : Nat) (nm : List Nat) (s : Sto) : Option (X × Option (Nat × List X)) → Option (X × Sto)
  | some (r, none) => if st = true ∧ ¬ (nm = []) then none else some (plug p r .nil, frz s nm)
  | some (r, some (k, es)) => if (st = true ∧ ¬ (nm = [])) ∨ q ∈ nm then none else some (plug p r (.ref q ((s q).g + 1) k 0 es.length), newO (frz s nm) q (.row k es))
  | none => none
def callO (run : List It → Env → Sto → Option (Env × Sto)) (T : Nat → Option Fe) (st : Bool) (p : List Nat) (q f : Nat) (l : List X) (s : Sto) : Option (X × Sto) :=
  match dpA s l with
  | none => none
  | some xs => callOR st p q (l.flatMap nmG) s (ownA run T p f xs)

def opR (run : List It → Env → Sto → Option (Env × Sto)) (T : Nat → Option Fe) (op : IOp) (e : Env) (s : Sto) : Option (X × Sto) :=
  match op with
  | .call st f l => callS run T st f (l.map (Ar.ev e)) s
  | .callv st f l => match f.ev e with
    | .fn g cs => callS run T st g (l.map (Ar.ev e) ++ cs) s
    | _ => none
  | .calli f l => callI run T f (l.map (Ar.ev e)) s
  | .callb f l => callB run T f (l.map (Ar.ev e)) s
  | .callo st p q f l => callO run T st p q f (l.map (Ar.ev e)) s
  | .callw f l => match f.ev e with
    | .fn g cs => callI run T g (l.map (Ar.ev e) ++ cs) s
    | _ => none
  | op => stepO op e s

/-- Nothing that these slots lead to has been written since, and these operations give again what they gave. -/
def chkB (ch : List Nat) (js : List GOp) (s0 : Sto) (e : Env) (s : Sto) : Bool :=
  (ch.all fun t => (nmA (e t)).all fun o => (s o).n == (s0 o).n) &&
  js.all fun g => match g.d, stepO g.op e s0, stepO g.op e s with
    | some d, some (x, _), some (y, _) => sameV x (e d) && sameV y (e d)
    | _, _, _ => false

def runN (T : Nat → Option Fe) : Nat → List It → Env → Sto → Option (Env × Sto)
  | 0, _, _, _ => none
  | n + 1, its, e, s =>
    match its with
    | [] => some (e, s)
    | .code .skip :: k => runN T n k e s
    | .code .ret :: _ => some (e, s)
    | .code (.ops l) :: k => runN T n (.ops l :: k) e s
    | .code (.dops ch js l m) :: k => runN T n (.ops l :: .chk ch (js.filterMap fun j => l[j]?) s :: .ops m :: k) e s
    | .chk ch js s0 :: k => if chkB ch js s0 e s = true then runN T n k e s else none
    | .code (.seq a b) :: k => runN T n (.code a :: .code b :: k) e s
    | .code (.cond c a b) :: k =>
      match c.ev e with
      | .v (.bool t) => cond t (runN T n (.code a :: k) e s) (runN T n (.code b :: k) e s)
      | _ => none
    | .code (.scope c) :: k => runN T n (.code c :: k) e s
    | .code (.block id c) :: k => runN T n (.code c :: .bl id :: k) e s
    | .code (.loop c) :: k => runN T n (.code c :: .lp c :: k) e s
    | .code (.exit id) :: k =>
      match popTo id k with
      | some k' => runN T n k' e s
      | none => none
    | .ops [] :: k => runN T n k e s
    | .ops (o :: l) :: k =>
      match gd o e with
      | some true => match opR (runN T n) T o.op e s with
        | some (x, s') => runN T n (.ops l :: k) (put e o.d x) s'
        | none => none
      | some false => runN T n (.ops l :: k) (put e o.d (.tup [])) s
      | none => none
    | .lp c :: k => runN T n (.code c :: .lp c :: k) e s
    | .bl _ :: k => runN T n k e s

/-- More rounds give the same. -/
def Mon (r r' : List It → Env → Sto → Option (Env × Sto)) : Prop := ∀ its e s x, r its e s = some x → r' its e s = some x
theorem callA_mono {r r' : List It → Env → Sto → Option (Env × Sto)} (h : Mon r r') {T : Nat → Option Fe} {f : Nat} {xs : List X} {x : X} (hc : callA r T f xs = some x) : callA r' T f xs = some x := by
  unfold callA at *
  split at hc <;> first | (simp at hc; done) | exact hc | skip
  split at hc <;> first | (simp at hc; done) | skip
  rename_i hn
  simp only [hn, if_true]
  split at hc <;> first | (simp at hc; done) | skip
  rename_i hr
  rw [h _ _ _ _ hr]
  exact hc
theorem callS_mono {r r' : List It → Env → Sto → Option (Env × Sto)} (h : Mon r r') {T : Nat → Option Fe} {st : Bool} {f : Nat} {l : List X} {s : Sto} {x : X × Sto} (hc : callS r T st f l s = some x) : callS r' T st f l s = some x := by
  unfold callS at *
  split at hc <;> first | (simp at hc; done) | skip
  split at hc <;> first | (simp at hc; done) | skip
  rename_i hr
  rw [callA_mono h hr]
  exact hc
theorem callI_mono {r r' : List It → Env → Sto → Option (Env × Sto)} (h : Mon r r') {T : Nat → Option Fe} {f : Nat} {xs : List X} {s : Sto} {x : X × Sto} (hc : callI r T f xs s = some x) : callI r' T f xs s = some x := by
  unfold callI at *
  split at hc
  · split at hc <;> first | (simp at hc; done) | skip
    rename_i hn
    simp only [hn, if_true]
    split at hc <;> first | (simp at hc; done) | skip
    rename_i hr
    rw [h _ _ _ _ hr]
    exact hc
  · split at hc <;> first | (simp at hc; done) | skip
    rename_i hn
    simp only [hn, if_true]
    split at hc <;> first | (simp at hc; done) | skip
    rename_i hr
    rw [h _ _ _ _ hr]
    exact hc
  · exact hc
  · simp at hc
theorem callB_mono {r r' : List It → Env → Sto → Option (Env × Sto)} (h : Mon r r') {T : Nat → Option Fe} {f : Nat} {l : List X} {s : Sto} {x : X × Sto} (hc : callB r T f l s = some x) : callB r' T f l s = some x := by
  unfold callB at *
  split at hc <;> first | (simp at hc; done) | skip
  split at hc <;> first | (simp at hc; done) | skip
  rename_i hr
  rw [callA_mono h hr]
  exact hc
theorem ownA_mono {r r' : List It → Env → Sto → Option (Env × Sto)} (h : Mon r r') {T : Nat → Option Fe} {p : List Nat} {f : Nat} {xs : List X} {x : X × Option (Nat × List X)} (hc : ownA r T p f xs = some x) : ownA r' T p f xs = some x := by
  unfold ownA at *
  split at hc <;> first | (simp at hc; done) | skip
  split at hc <;> first | (simp at hc; done) | skip
  rename_i hn
  simp only [hn, if_true]
  split at hc <;> first | (simp at hc; done) | skip
  rename_i hr
  rw [h _ _ _ _ hr]
  exact hc
theorem callO_mono {r r' : List It → Env → Sto → Option (Env × Sto)} (h : Mon r r') {T : Nat → Option Fe} {st : Bool} {p : List Nat} {q f : Nat} {l : List X} {s : Sto} {x : X × Sto} (hc : callO r T st p q f l s = some x) : callO r' T st p q f l s = some x := by
  unfold callO at *
  split at hc <;> first | (simp at hc; done) | skip
  rename_i xs hxs
  cases ho : ownA r T p f xs with
  | none => rw [ho] at hc; simp [callOR] at hc
  | some y => rw [ho] at hc; rw [ownA_mono h ho]; exact hc
theorem opR_mono {r r' : List It → Env → Sto → Option (Env × Sto)} (h : Mon r r') {T : Nat → Option Fe} {op : IOp} {e : Env} {s : Sto} {x : X × Sto} (hc : opR r T op e s = some x) : opR r' T op e s = some x := by
  unfold opR at *
  split at hc
  · exact callS_mono h hc
  · split at hc <;> first | (simp at hc; done) | exact callS_mono h hc
  · exact callI_mono h hc
  · exact callB_mono h hc
  · exact callO_mono h hc
  · split at hc <;> first | (simp at hc; done) | exact callI_mono h hc
  · exact hc
theorem runN_mono1 (T : Nat → Option Fe) {n m : Nat} (ih : Mon (runN T n) (runN T m)) : Mon (runN T (n + 1)) (runN T (m + 1)) := by
  intro its e s x h
  rcases its with _ | ⟨it, k⟩
  · simpa only [runN] using h
  cases it with
  | code c =>
    cases c with
    | cond c a b =>
      simp only [runN] at h ⊢
      split at h
      · rename_i t hc
        cases t
        · exact ih _ _ _ _ h
        · exact ih _ _ _ _ h
      · simp at h
    | exit id =>
      simp only [runN] at h ⊢
      split at h
      · exact ih _ _ _ _ h
      · simp at h
    | ret => simpa only [runN] using h
    | _ => simp only [runN] at h ⊢; exact ih _ _ _ _ h
  | ops l =>
    rcases l with _ | ⟨o, l⟩
    · simp only [runN] at h ⊢; exact ih _ _ _ _ h
    · simp only [runN] at h ⊢
      split at h
      · split at h
        · rename_i hr
          simp only [opR_mono ih hr]
          exact ih _ _ _ _ h
        · simp at h
      · exact ih _ _ _ _ h
      · simp at h
  | lp c => simp only [runN] at h ⊢; exact ih _ _ _ _ h
  | bl id => simp only [runN] at h ⊢; exact ih _ _ _ _ h
  | chk ch js s0 =>
    simp only [runN] at h ⊢
    split at h
    · rename_i hc; rw [if_pos hc]; exact ih _ _ _ _ h
    · simp at h
theorem runN_succ (T : Nat → Option Fe) : ∀ n, Mon (runN T n) (runN T (n + 1)) := by
  intro n
  induction n with
  | zero => intro its e s x h; simp [runN] at h
  | succ n ih => exact runN_mono1 T ih
theorem runN_le (T : Nat → Option Fe) {n m : Nat} (h : n ≤ m) : Mon (runN T n) (runN T m) := by
  induction h with
  | refl => intro _ _ _ _ h; exact h
  | step _ ih => intro its e s x hx; exact runN_succ T _ _ _ _ _ (ih _ _ _ _ hx)

open Classical in
/-- The run, with as many rounds as it takes. -/
noncomputable def run (T : Nat → Option Fe) (its : List It) (e : Env) (s : Sto) : Option (Env × Sto) :=
  if h : ∃ x, ∃ n, runN T n its e s = some x then some h.choose else none
theorem run_of {T : Nat → Option Fe} {n : Nat} {its : List It} {e : Env} {s : Sto} {x : Env × Sto} (h : runN T n its e s = some x) : run T its e s = some x := by
  unfold run
  have hx : ∃ x, ∃ n, runN T n its e s = some x := ⟨x, n, h⟩
  rw [dif_pos hx]
  obtain ⟨m, hm⟩ := hx.choose_spec
  have h1 := runN_le T (Nat.le_max_left n m) _ _ _ _ h
  have h2 := runN_le T (Nat.le_max_right n m) _ _ _ _ hm
  rw [h1] at h2
  exact h2.symm
theorem run_some {T : Nat → Option Fe} {its : List It} {e : Env} {s : Sto} {x : Env × Sto} (h : run T its e s = some x) : ∃ n, runN T n its e s = some x := by
  unfold run at h
  split at h
  · rename_i hx
    obtain ⟨m, hm⟩ := hx.choose_spec
    injection h with h
    exact ⟨m, h ▸ hm⟩
  · simp at h
theorem run_ext {T : Nat → Option Fe} {its its' : List It} {e e' : Env} {s s' : Sto} (h : ∀ x, (∃ n, runN T n its e s = some x) ↔ (∃ n, runN T n its' e' s' = some x)) : run T its e s = run T its' e' s' := by
  cases hr : run T its e s with
  | some x => obtain ⟨n, hn⟩ := (h x).1 (run_some hr); exact (run_of hn).symm
  | none =>
    cases hr' : run T its' e' s' with
    | none => rfl
    | some x => obtain ⟨n, hn⟩ := (h x).2 (run_some hr'); rw [run_of hn] at hr; simp at hr
/-- One step. -/
theorem run_step {T : Nat → Option Fe} {its its' : List It} {e e' : Env} {s s' : Sto} (h : ∀ n, runN T (n + 1) its e s = runN T n its' e' s') : run T its e s = run T its' e' s' :=
  run_ext fun x => ⟨fun ⟨n, hn⟩ => by
    cases n with
    | zero => simp [runN] at hn
    | succ n => exact ⟨n, (h n) ▸ hn⟩, fun ⟨n, hn⟩ => ⟨n + 1, (h n).trans hn⟩⟩
section
variable {T : Nat → Option Fe} {k : List It} {e : Env} {s : Sto}
theorem run_done {its : List It} {x : Env × Sto} (h : ∀ n, runN T (n + 1) its e s = some x) : run T its e s = some x := run_of (h 0)
theorem run_nil : run T [] e s = some (e, s) := run_done fun n => by rw [runN]
theorem run_ret : run T (.code .ret :: k) e s = some (e, s) := run_done fun n => by rw [runN]
theorem run_skip : run T (.code .skip :: k) e s = run T k e s := run_step fun n => by rw [runN]
theorem run_ops (l : List GOp) : run T (.code (.ops l) :: k) e s = run T (.ops l :: k) e s := run_step fun n => by rw [runN]
theorem run_dops (ch js : List Nat) (l m : List GOp) : run T (.code (.dops ch js l m) :: k) e s = run T (.ops l :: .chk ch (js.filterMap fun j => l[j]?) s :: .ops m :: k) e s := run_step fun n => by rw [runN]
theorem run_chk {ch : List Nat} {js : List GOp} {s0 : Sto} (h : chkB ch js s0 e s = true) : run T (.chk ch js s0 :: k) e s = run T k e s := run_step fun n => by rw [runN, if_pos h]
theorem run_seq (a b : IC) : run T (.code (.seq a b) :: k) e s = run T (.code a :: .code b :: k) e s := run_step fun n => by rw [runN]
theorem run_scope (c : IC) : run T (.code (.scope c) :: k) e s = run T (.code c :: k) e s := run_step fun n => by rw [runN]
theorem run_block (id : Nat) (c : IC) : run T (.code (.block id c) :: k) e s = run T (.code c :: .bl id :: k) e s := run_step fun n => by rw [runN]
theorem run_loop (c : IC) : run T (.code (.loop c) :: k) e s = run T (.lp c :: k) e s := by
  rw [run_step (its' := .code c :: .lp c :: k) (e' := e) (s' := s) fun n => by rw [runN], run_step (its := .lp c :: k) (its' := .code c :: .lp c :: k) (e' := e) (s' := s) fun n => by rw [runN]]
theorem run_lp (c : IC) : run T (.lp c :: k) e s = run T (.code c :: .lp c :: k) e s := run_step fun n => by rw [runN]
theorem run_bl (id : Nat) : run T (.bl id :: k) e s = run T k e s := run_step fun n => by rw [runN]
theorem run_exit {id : Nat} {k' : List It} (h : popTo id k = some k') : run T (.code (.exit id) :: k) e s = run T k' e s := run_step fun n => by rw [runN, h]
theorem run_ops_nil : run T (.ops [] :: k) e s = run T k e s := run_step fun n => by rw [runN]
theorem run_cond {c : Ar} {a b : IC} {t : Bool} (h : c.ev e = .v (.bool t)) : run T (.code (.cond c a b) :: k) e s = cond t (run T (.code a :: k) e s) (run T (.code b :: k) e s) := by
  cases t
  · exact run_step fun n => by rw [runN]; simp only [h, cond]
  · exact run_step fun n => by rw [runN]; simp only [h, cond]
theorem run_off {o : GOp} {l : List GOp} (h : gd o e = some false) : run T (.ops (o :: l) :: k) e s = run T (.ops l :: k) (put e o.d (.tup [])) s := run_step fun n => by rw [runN]; simp only [h]
/-- An operation that is no call. -/
theorem run_op {o : GOp} {l : List GOp} {x : X} {s' : Sto} (h : gd o e = some true) (hs : stepO o.op e s = some (x, s')) : run T (.ops (o :: l) :: k) e s = run T (.ops l :: k) (put e o.d x) s' :=
  run_step fun n => by
    rw [runN]; simp only [h]
    have : opR (runN T n) T o.op e s = some (x, s') := by
      unfold opR
      split
      · rename_i hc; rw [hc] at hs; simp [stepO] at hs
      · rename_i hc; rw [hc] at hs; simp [stepO] at hs
      · rename_i hc; rw [hc] at hs; simp [stepO] at hs
      · rename_i hc; rw [hc] at hs; simp [stepO] at hs
      · rename_i hc; rw [hc] at hs; simp [stepO] at hs
      · rename_i hc; rw [hc] at hs; simp [stepO] at hs
      · exact hs
    simp only [this]

/-- What a call gives. -/
noncomputable def call (T : Nat → Option Fe) (f : Nat) (xs : List X) : Option X := callA (run T) T f xs
theorem callA_run {f : Nat} {xs : List X} {x : X} : call T f xs = some x ↔ ∃ n, callA (runN T n) T f xs = some x := by
  constructor
  · intro h
    unfold call callA at h
    split at h
    · simp at h
    · rename_i F hF; exact ⟨0, by simp only [callA, hF]; exact h⟩
    · simp at h
    · simp at h
    · rename_i nt res body hF
      split at h
      · rename_i hn
        split at h
        · rename_i hr
          obtain ⟨n, hn'⟩ := run_some hr
          exact ⟨n, by simp only [callA, hF, hn, hn', if_true]; exact h⟩
        · simp at h
      · simp at h
  · rintro ⟨n, h⟩
    exact callA_mono (fun its e s x hx => run_of hx) h
theorem run_call {o : GOp} {l : List GOp} {st : Bool} {f : Nat} {as : List Ar} {xs : List X} {r : X} {d : Option Nat} (h : gd ⟨d, o.g, .call st f as⟩ e = some true)
    (hx : dpA s (as.map (Ar.ev e)) = some xs) (hc : call T f xs = some r) (hn : r.scal = true ∨ (as.map (Ar.ev e)).flatMap nmG = []) :
    run T (.ops (⟨d, o.g, .call st f as⟩ :: l) :: k) e s = run T (.ops l :: k) (put e d r) s := by
  obtain ⟨m, hm⟩ := callA_run.1 hc
  have fz : frz s [] = s := by funext o; simp [frz]
  have key : ∀ n, m ≤ n → opR (runN T n) T (.call st f as) e s = some (r, s) := by
    intro n hmn
    have := callA_mono (runN_le T hmn) hm
    simp only [opR, callS, hx, this]
    rcases hn with hn | hn
    · simp [hn]
    · simp [hn, fz]
  apply run_ext
  intro x
  constructor
  · rintro ⟨n, hn'⟩
    have hn' := runN_le T (Nat.le_add_right n (m + 1)) _ _ _ _ hn'
    rw [show n + (m + 1) = (n + m) + 1 by omega, runN] at hn'
    simp only [h, key (n + m) (by omega)] at hn'
    exact ⟨_, hn'⟩
  · rintro ⟨n, hn'⟩
    have hn' := runN_le T (Nat.le_add_right n m) _ _ _ _ hn'
    refine ⟨n + m + 1, ?_⟩
    rw [runN]
    simp only [h, key (n + m) (by omega)]
    exact hn'
theorem run_callv {o : GOp} {l : List GOp} {st : Bool} {fa : Ar} {f : Nat} {cs : List X} {as : List Ar} {xs : List X} {r : X} {d : Option Nat} (h : gd ⟨d, o.g, .callv st fa as⟩ e = some true)
    (hf : fa.ev e = .fn f cs) (hx : dpA s (as.map (Ar.ev e) ++ cs) = some xs) (hc : call T f xs = some r) (hn : r.scal = true ∨ (as.map (Ar.ev e) ++ cs).flatMap nmG = []) :
    run T (.ops (⟨d, o.g, .callv st fa as⟩ :: l) :: k) e s = run T (.ops l :: k) (put e d r) s := by
  obtain ⟨m, hm⟩ := callA_run.1 hc
  have fz : frz s [] = s := by funext o; simp [frz]
  have key : ∀ n, m ≤ n → opR (runN T n) T (.callv st fa as) e s = some (r, s) := by
    intro n hmn
    have := callA_mono (runN_le T hmn) hm
    simp only [opR, hf, callS, hx, this]
    rcases hn with hn | hn
    · simp [hn]
    · simp only [hn, fz]; simp
  apply run_ext
  intro x
  constructor
  · rintro ⟨n, hn'⟩
    have hn' := runN_le T (Nat.le_add_right n (m + 1)) _ _ _ _ hn'
    rw [show n + (m + 1) = (n + m) + 1 by omega, runN] at hn'
    simp only [h, key (n + m) (by omega)] at hn'
    exact ⟨_, hn'⟩
  · rintro ⟨n, hn'⟩
    have hn' := runN_le T (Nat.le_add_right n m) _ _ _ _ hn'
    refine ⟨n + m + 1, ?_⟩
    rw [runN]
    simp only [h, key (n + m) (by omega)]
    exact hn'
/-- An inlined call. -/
theorem callI_run {f : Nat} {xs : List X} {s : Sto} {x : X × Sto} : callI (run T) T f xs s = some x ↔ ∃ n, callI (runN T n) T f xs s = some x := by
  constructor
  · intro h
    unfold callI at h
    split at h
    · rename_i nt res body hF
      split at h
      · rename_i hn
        split at h
        · rename_i hr
          obtain ⟨n, hn'⟩ := run_some hr
          exact ⟨n, by simp only [callI, hF, hn, hn', if_true]; exact h⟩
        · simp at h
      · simp at h
    · rename_i nt res body hF
      split at h
      · rename_i hn
        split at h
        · rename_i hr
          obtain ⟨n, hn'⟩ := run_some hr
          exact ⟨n, by simp only [callI, hF, hn, hn', if_true]; exact h⟩
        · simp at h
      · simp at h
    · rename_i F hF; exact ⟨0, by simp only [callI, hF]; exact h⟩
    · simp at h
  · rintro ⟨n, h⟩
    exact callI_mono (fun its e s x hx => run_of hx) h
theorem run_calli {o : GOp} {l : List GOp} {f : Nat} {as : List Ar} {r : X} {s' : Sto} {d : Option Nat} (h : gd ⟨d, o.g, .calli f as⟩ e = some true)
    (hc : callI (run T) T f (as.map (Ar.ev e)) s = some (r, s')) :
    run T (.ops (⟨d, o.g, .calli f as⟩ :: l) :: k) e s = run T (.ops l :: k) (put e d r) s' := by
  obtain ⟨m, hm⟩ := callI_run.1 hc
  have key : ∀ n, m ≤ n → opR (runN T n) T (.calli f as) e s = some (r, s') := by
    intro n hmn
    simpa only [opR] using callI_mono (runN_le T hmn) hm
  apply run_ext
  intro x
  constructor
  · rintro ⟨n, hn'⟩
    have hn' := runN_le T (Nat.le_add_right n (m + 1)) _ _ _ _ hn'
    rw [show n + (m + 1) = (n + m) + 1 by omega, runN] at hn'
    simp only [h, key (n + m) (by omega)] at hn'
    exact ⟨_, hn'⟩
  · rintro ⟨n, hn'⟩
    have hn' := runN_le T (Nat.le_add_right n m) _ _ _ _ hn'
    refine ⟨n + m + 1, ?_⟩
    rw [runN]
    simp only [h, key (n + m) (by omega)]
    exact hn'
theorem call_code {f nt : Nat} {res : List Res} {body : IC} {xs : List X} {e' : Env} {s' : Sto} {x : X} (hT : T f = some (.code nt res body)) (hn : xs.length ≤ nt)
    (hr : run T [.code body] (ini xs) s0 = some (e', s')) (hx : resT e' s' res = some x) : call T f xs = some x := by
  simp only [call, callA, hT, hn, if_true, hr, hx]
end
end Go.Proofs.YtoodknhlnifnlaaGreatDoor

/- The engine, part D: when an operation of the abstract machine is one of the program's; small lemmas on standing for. -/
set_option linter.unusedVariables false
set_option linter.unusedSimpArgs false
namespace Go.Proofs.YtoodknhlnifnlaaGreatDoor
open Go.RowKit

def okK : Value → X → Bool
  | .int k n, .v (.int k' n') => k == k' && n == n'
  | .bool b, .v (.bool b') => b == b'
  | .string s, .v (.string s') => s.data.toList == s'.data.toList
  | .nilIface, .v .nilIface => true
  | .nilFunc, .v .nilFunc => true
  | .pointer none, .v (.pointer none) => true
  | .map none, .v (.map none) => true
  | .slice none 0 0, .nil => true
  | .slice none 0 0, .sl _ [] => true
  | _, _ => false
def okKL : List Value → List X → Bool
  | [], [] => true
  | v :: l, x :: m => okK v x && okKL l m
  | _, _ => false
def okZ : Value → X → Bool
  | .agg vs, .agg cs => okKL vs.toList cs
  | v, x => okK v x
def okA : Operand → Ar → Bool
  | .tmp t, .t n => t == n
  | .const v, .k x => okK v x
  | .func f, .k (.fn g []) => f == g
  | _, _ => false
def okAL : List Operand → List Ar → Bool
  | [], [] => true
  | x :: l, a :: m => okA x a && okAL l m
  | _, _ => false
def okAO : Option Operand → Option Ar → Bool
  | none, none => true
  | some x, some a => okA x a
  | _, _ => false

def szB (P : Program) (t : TypeId) (w : Nat) : Bool := match P.info? t with
  | some i => i.size == w
  | none => false
def aggB (P : Program) (t : TypeId) (ag : Bool) : Bool := match P.underlying t with
  | some (.struct _) | some (.array _ _) => ag
  | some _ => !ag
  | none => false
def zeroB (P : Program) (t : TypeId) (z : X) : Bool := match P.info? t with
  | some i => match i.zero with
    | some v => okZ v z
    | none => false
  | none => false
def byB (P : Program) (t : TypeId) (lim : Nat) : Bool := match P.info? t with
  | some i => decide (0 < i.bytes) && decide (lim * i.bytes ≤ 140737488355328)
  | none => false
def okFs (P : Program) (fs : Array Field) : List (Nat × Operand) → List (Nat × Nat × Ar) → Bool
  | [], [] => true
  | (i, x) :: l, (j, w, a) :: m => (match fs[i]? with
    | some f => f.offset == j && szB P f.type w
    | none => false) && okA x a && okFs P fs l m
  | _, _ => false
def okIs (k : Nat) : List (Nat × Operand) → List (Nat × Nat × Ar) → Bool
  | [], [] => true
  | (i, x) :: l, (j, w, a) :: m => (i * k == j && w == k) && okA x a && okIs k l m
  | _, _ => false
def okEs : List (Nat × Operand) → List (Nat × Ar) → Bool
  | [], [] => true
  | (i, x) :: l, (j, a) :: m => i == j && okA x a && okEs l m
  | _, _ => false
def scalT (P : Program) (t : TypeId) : Bool := match P.underlying t with
  | some (.int _) | some .string => true
  | _ => false
def boolT (P : Program) (t : TypeId) : Bool := match P.underlying t with
  | some .bool => true
  | _ => false

def okOp (P : Program) : Op → IOp → Bool
  | .move x, .mov a => okA x a
  | .assign x, .mov a => okA x a
  | .pick c x y, .pick c' a b => okA c c' && okA x a && okA y b
  | .alloc t, .box _ (.k z) => zeroB P t z
  | .box _ x, .box _ a => okA x a
  | .box _ x, .boxI a => okA x a
  | .alloc t, .boxI (.k z) => zeroB P t z
  | .build t ps, .build z qs => zeroB P t (.agg z) && (match P.underlying t with
    | some (.struct fs) => (fs.toList.all fun f => (P.info? f.type).isSome) && okFs P fs ps.toList qs
    | some (.array _ e) => match P.info? e with
      | some i => okIs i.size ps.toList qs
      | none => false
    | _ => false)
  | .buildSlice t n ps, .bsl _ k m z qs => (match P.underlying t with
    | some (.slice e) => szB P e k && zeroB P e z && decide (0 < k) && decide (z.cells.length = k)
    | _ => false) && n == m && decide (n * k ≤ 16777216) && okEs ps.toList qs && z.deep && z.cells.all X.one
  | .buildSlice t n ps, .bsn _ k z _ _ a => (match P.underlying t with
    | some (.slice e) => szB P e k && zeroB P e z && decide (0 < k) && decide (z.cells.length = k)
    | _ => false) && n == 1 && decide (n * k ≤ 16777216) && okEs ps.toList [(0, a)] && z.deep && z.cells.all X.one
  | .buildSlice t n ps, .bslI k m z qs => (match P.underlying t with
    | some (.slice e) => szB P e k && zeroB P e z && decide (0 < k) && decide (z.cells.length = k)
    | _ => false) && n == m && decide (n * k ≤ 16777216) && okEs ps.toList qs && z.deep && z.cells.all X.one
  | .load t x, .ld a w ag => szB P t w && aggB P t ag && okA x a
  | .store t x y, .st a b w => szB P t w && okA x a && okA y b
  | .nilCheck x, .nck a => okA x a
  | .binOp op t x y _, .bin op' a b => op == op' && okA x a && okA y b && scalT P t
  | .binOp .eql t x y _, .eqb false a b => okA x a && okA y b && boolT P t
  | .binOp .neq t x y _, .eqb true a b => okA x a && okA y b && boolT P t
  | .unOp op _ x, .un op' a => op == op' && okA x a
  | .convert src dst x, .conv k a => (P.underlying src).isSome && (match P.underlying dst with
    | some (.int k') => k == k'
    | _ => false) && okA x a
  | .convert src dst x, .cvs a => (match P.underlying src, P.underlying dst with
    | some .string, some .string => true
    | _, _ => false) && okA x a
  | .fieldAddr t x f, .fa a j => (match P.underlying t with
    | some (.struct fs) => match fs[f]? with
      | some f => f.offset == j && (match P.info? f.type with
        | some i => decide (i.size ≠ 0)
        | none => false)
      | none => false
    | _ => false) && okA x a
  | .field t x f, .fld a j w ag => (match P.underlying t with
    | some (.struct fs) => match fs[f]? with
      | some f => f.offset == j && szB P f.type w && aggB P f.type ag
      | none => false
    | _ => false) && okA x a
  | .indexAddr t x i, .ixa a b w => (match P.underlying t with
    | some (.slice e) => szB P e w
    | _ => false) && okA x a && okA i b
  | .indexAddr t x i, .ixp a b w n => (match P.underlying t with
    | some (.array m e) => szB P e w && m == n
    | _ => false) && okA x a && okA i b
  | .index t x i, .ixs a b => (match P.underlying t with
    | some .string => true
    | _ => false) && okA x a && okA i b
  | .index t x i, .ixv a b w n ag => (match P.underlying t with
    | some (.array m e) => szB P e w && aggB P e ag && m == n
    | _ => false) && okA x a && okA i b
  | .slice t x lo hi none, .sls a lo' hi' => (match P.underlying t with
    | some .string => true
    | _ => false) && okA x a && okAO lo lo' && okAO hi hi'
  | .slice t x lo hi none, .sli w a lo' hi' => (match P.underlying t with
    | some (.slice e) => szB P e w
    | _ => false) && okA x a && okAO lo lo' && okAO hi hi'
  | .makeSlice t n c, .mks _ k z a b lim => (match P.underlying t with
    | some (.slice e) => szB P e k && zeroB P e z && byB P e lim && decide (0 < k) && decide (z.cells.length = k)
    | _ => false) && okA n a && okA c b
  | .extract x i, .ext a j => okA x a && i == j
  | .makeFunc (.func f) fst cap, .mkf g l => f == g && fst.isEmpty && okAL cap.toList l
  | .call c, .len a => (match c.callee with
    | .builtin .len => true
    | _ => false) && (match c.argTypes[0]? with
    | some t => match P.underlying t with
      | some (.slice _) => true
      | _ => false
    | none => false) && okAL c.args.toList [a]
  | .call c, .lens a => (match c.callee with
    | .builtin .len => true
    | _ => false) && (match c.argTypes[0]? with
    | some t => match P.underlying t with
      | some .string => true
      | _ => false
    | none => false) && okAL c.args.toList [a]
  | .call c, .app _ k lim a b => (match c.callee with
    | .builtin .append => true
    | _ => false) && (match c.argTypes.toList with
    | [t, u] => t == u && (match P.underlying t with
      | some (.slice e) => szB P e k && byB P e lim && decide (0 < k) && (match P.info? e with
        | some i => i.zero.any fun z => z.cells.size == k
        | none => false)
      | _ => false)
    | _ => false) && okAL c.args.toList [a, b]
  | .call c, .mnmx mx a l => (match c.callee, mx with
    | .builtin .max, true => true
    | .builtin .min, false => true
    | _, _ => false) && okAL c.args.toList (a :: l)
  | _, _ => false

/-- A function that the machine enters. -/
def okFn (P : Program) (f : Nat) : Bool := match P.funcs[f]? with
  | some fn => fn.body.isSome && fn.name != "runtime.NumGoroutine"
  | none => false
def okCall (P : Program) : Op → IOp → Bool
  | .call c, .call _ f l => match c.callee with
    | .value (.func g) => f == g && okAL c.args.toList l && okFn P f
    | _ => false
  | .call c, .calli f l => match c.callee with
    | .value (.func g) => f == g && okAL c.args.toList l && okFn P f
    | _ => false
  | .call c, .callb f l => match c.callee with
    | .value (.func g) => f == g && okAL c.args.toList l && okFn P f
    | _ => false
  | .call c, .callv _ f l => match c.callee with
    | .value x => okA x f && okAL c.args.toList l
    | _ => false
  | .call c, .callo _ _ _ f l => match c.callee with
    | .value (.func g) => f == g && okAL c.args.toList l && okFn P f
    | _ => false
  | .call c, .callw f l => match c.callee with
    | .value x => okA x f && okAL c.args.toList l
    | _ => false
  | _, _ => false

/-! ### what the tests say -/
theorem okK_rep {v : Value} {x : X} (h : okK v x = true) (C : Cx) : Rep C x v := by
  unfold okK at h
  split at h
  case h_1 => simp only [Bool.and_eq_true, beq_iff_eq] at h; obtain ⟨rfl, rfl⟩ := h; exact .v rfl
  case h_2 => simp only [beq_iff_eq] at h; subst h; exact .v rfl
  case h_3 s s' =>
    simp only [beq_iff_eq] at h
    have : s = s' := by
      cases s; cases s'
      simp only [ByteArray.mk.injEq]
      exact Array.toList_inj.1 h
    subst this
    exact .v rfl
  case h_8 => exact .nil
  case h_9 => exact .sl0
  case h_10 => simp at h
  all_goals exact .v rfl
theorem okK_one {v : Value} {x : X} (h : okK v x = true) : x.one = true ∧ x.cells = [x] ∧ v.cells = #[v] ∧ v.oneCell' = true := by
  unfold okK at h
  split at h <;> first | exact ⟨rfl, rfl, rfl, rfl⟩ | simp at h
theorem okKL_rep : ∀ {l : List Value} {m : List X}, okKL l m = true → ∀ C, m.length = l.length ∧ (∀ c ∈ m, c.one = true) ∧ ∀ (j : Nat) c v, m[j]? = some c → l[j]? = some v → Rep C c v := by
  intro l
  induction l with
  | nil => intro m h C; cases m with
    | nil => exact ⟨rfl, by simp, by simp⟩
    | cons => simp [okKL] at h
  | cons v l ih => intro m h C; cases m with
    | nil => simp [okKL] at h
    | cons x m =>
      simp only [okKL, Bool.and_eq_true] at h
      obtain ⟨h1, h2, h3⟩ := ih h.2 C
      refine ⟨by simp [h1], ?_, ?_⟩
      · intro c hc
        cases hc with
        | head => exact (okK_one h.1).1
        | tail _ hc => exact h2 c hc
      · intro j c u hc hu
        cases j with
        | zero => simp at hc hu; subst hc; subst hu; exact okK_rep h.1 C
        | succ j => exact h3 j c u (by simpa using hc) (by simpa using hu)
theorem okZ_rep {v : Value} {x : X} (h : okZ v x = true) (C : Cx) : Rep C x v := by
  unfold okZ at h
  split at h
  · obtain ⟨h1, h2, h3⟩ := okKL_rep h C
    exact .agg (by simpa using h1) h2 (by simpa using h3)
  · exact okK_rep h C
theorem okZ_cells {v : Value} {x : X} (h : okZ v x = true) : x.cells.length = v.cells.size := by
  unfold okZ at h
  split at h
  · have := (okKL_rep h ⟨fun _ => 0, fun _ => 0, default, fun _ => False, fun _ => False⟩).1
    simpa [X.cells, Value.cells] using this
  · obtain ⟨_, h2, h3, _⟩ := okK_one h
    simp [h2, h3]

def EnvR (C : Cx) (e : Env) (a : Act) : Prop := ∀ n, Rep C (e n) (a.tmps.getD n undef)
theorem okA_rep {C : Cx} {e : Env} {a : Act} (hE : EnvR C e a) {x : Operand} {r : Ar} (h : okA x r = true) : Rep C (r.ev e) (a.eval x) := by
  unfold okA at h
  split at h
  · simp only [beq_iff_eq] at h; subst h; exact hE _
  · exact okK_rep h C
  · simp only [beq_iff_eq] at h; subst h; exact .fn rfl (by simp)
  · simp at h

variable {P : Program}
theorem szB_run {t : TypeId} {k : Nat} (h : szB P t k = true) (w : World) : (sizeOf t).run P w = .ok k w := by
  unfold szB at h
  split at h
  · rename_i i hi
    simp only [beq_iff_eq] at h
    simp [sizeOf, typeInfo, hi, h]
  · simp at h
theorem aggB_run {t : TypeId} {b : Bool} (h : aggB P t b = true) (w : World) : (isAgg t).run P w = .ok b w := by
  unfold aggB at h
  split at h
  · rename_i hu; simp [isAgg, run_underlying hu, h]
  · rename_i hu; simp [isAgg, run_underlying hu, h]
  · rename_i d h1 h2 hu
    have hb : b = false := by simpa using h
    subst hb
    simp only [isAgg, Sem.run_bind, run_underlying hu, Result.andThen_ok]
    cases d <;> first | rfl | (exfalso; exact h1 _ rfl) | (exfalso; exact h2 _ _ rfl)
  · simp at h
theorem zeroB_spec {t : TypeId} {z : X} (h : zeroB P t z = true) : ∃ i v, P.info? t = some i ∧ i.zero = some v ∧ okZ v z = true := by
  unfold zeroB at h
  split at h
  · rename_i i hi
    split at h
    · rename_i v hv; exact ⟨i, v, hi, hv, h⟩
    · simp at h
  · simp at h
theorem zeroB_run {t : TypeId} {z : X} (h : zeroB P t z = true) (w : World) : ∃ v, (zeroValue t).run P w = .ok v w ∧ okZ v z = true := by
  obtain ⟨i, v, hi, hv, hz⟩ := zeroB_spec h
  exact ⟨v, by simp [zeroValue, typeInfo, hi, hv], hz⟩

theorem one_cells {v : Value} (h : v.oneCell' = true) : v.cells = #[v] := by
  cases v <;> first | rfl | (simp [Value.oneCell'] at h; done)
theorem rep_cells1 {C : Cx} {x : X} {v : Value} (h : Rep C x v) (hc : x.cells = [x]) (ho : x.one = true) :
    v.cells.size = x.cells.length ∧ (∀ (j : Nat) c u, x.cells[j]? = some c → v.cells[j]? = some u → Rep C c u) ∧ ∀ u ∈ v.cells, u.oneCell' = true := by
  have h1 := h.one ho
  have h2 := one_cells h1
  rw [h2, hc]
  refine ⟨rfl, fun j c u hj hu => ?_, fun u hu => ?_⟩
  · cases j with
    | zero => simp at hj hu; subst hj; subst hu; exact h
    | succ j => simp at hj
  · simp at hu; subst hu; exact h1
/-- The cells of a value. -/
theorem rep_cells {C : Cx} {x : X} {v : Value} (h : Rep C x v) (ho : x.cells.all X.one = true) :
    v.cells.size = x.cells.length ∧ (∀ (j : Nat) c u, x.cells[j]? = some c → v.cells[j]? = some u → Rep C c u) ∧ ∀ u ∈ v.cells, u.oneCell' = true := by
  cases x with
  | agg cs =>
    cases h with
    | agg hl hone hc =>
      rename_i vs
      refine ⟨by simpa [Value.cells, X.cells] using hl.symm, by simpa [Value.cells, X.cells] using hc, ?_⟩
      intro u hu
      obtain ⟨j, hj, rfl⟩ := Array.mem_iff_getElem.1 hu
      have hj0 : j < vs.size := by simpa [Value.cells] using hj
      have hj' : j < cs.length := by omega
      exact (hc j cs[j] _ (List.getElem?_eq_getElem hj') (by simp [Value.cells, Array.getElem?_eq_getElem hj0])).one (hone _ (List.getElem_mem hj'))
  | _ => exact rep_cells1 h rfl (by simpa [X.cells] using ho)

/-- A part of cells that lie in memory, as it is loaded. -/
theorem load_part {C : Cx} {cs : List X} {b off : Nat} {val : Nat → Value} {t : TypeId} {j k : Nat} {ag : Bool} {x : X}
    (hc : ∀ l c, cs[l]? = some c → C.w.cell? ⟨b, off + l, none⟩ = some (val l) ∧ c.one = true) (hr : ∀ l c, cs[l]? = some c → Rep C c (val l))
    (hs : szB P t k = true) (ha : aggB P t ag = true) (hp : partX cs j k ag = some x) : ∃ v, (loadVar t ⟨b, off + j, none⟩).run P C.w = .ok v C.w ∧ Rep C x v := by
  unfold partX at hp
  split at hp
  case isFalse => simp at hp
  rename_i hle
  cases ag with
  | true =>
    simp only [if_true, Option.some.injEq] at hp
    subst hp
    have hl := run_loadCells (P := P) C.w ⟨b, off + j, none⟩ k (fun l => val (j + l)) (fun l hlt => by
      have h1 : ((⟨b, off + j, none⟩ : Addr).add l) = ⟨b, off + (j + l), none⟩ := by unfold Addr.add; split <;> simp_all <;> omega
      rw [h1]
      exact (hc (j + l) cs[j + l] (List.getElem?_eq_getElem (by omega))).1)
    refine ⟨.agg ((List.range k).map fun l => val (j + l)).toArray, by simp [loadVar, aggB_run ha, szB_run hs, hl], ?_⟩
    refine .agg (by simp; omega) ?_ ?_
    · intro c hcm
      obtain ⟨l, hl', he⟩ := List.mem_iff_getElem.1 hcm
      simp only [List.length_take, List.length_drop] at hl'
      exact (hc (j + l) c (by rw [← he]; simp)).2
    · intro l c v hlc hlv
      rw [List.getElem?_take] at hlc
      split at hlc
      · rename_i hlk
        rw [List.getElem?_drop] at hlc
        have : v = val (j + l) := by simp [hlk] at hlv; exact hlv.symm
        subst this
        exact hr _ _ hlc
      · simp at hlc
  | false =>
    simp only [Bool.false_eq_true, if_false] at hp
    split at hp
    · exact ⟨val j, by simp [loadVar, aggB_run ha, (hc _ _ hp).1], hr _ _ hp⟩
    · simp at hp

/-- A part of a value. -/
theorem part_part {C : Cx} {cs : List X} {vs : Array Value} {t : TypeId} {j k : Nat} {ag : Bool} {x : X} (h : Rep C (.agg cs) (.agg vs))
    (hs : szB P t k = true) (ha : aggB P t ag = true) (hp : partX cs j k ag = some x) (w : World) : ∃ v, (part t vs j).run P w = .ok v w ∧ Rep C x v := by
  cases h with
  | agg hl hone hr =>
    unfold partX at hp
    split at hp
    case isFalse => simp at hp
    rename_i hle
    cases ag with
    | true =>
      simp only [if_true, Option.some.injEq] at hp
      subst hp
      refine ⟨.agg (vs.extract j (j + k)), by simp [part, aggB_run ha, szB_run hs], .agg (by simp; omega) ?_ ?_⟩
      · intro c hcm
        exact hone c (List.mem_of_mem_drop (List.mem_of_mem_take hcm))
      · intro l c v hlc hlv
        rw [List.getElem?_take] at hlc
        split at hlc
        · rw [List.getElem?_drop] at hlc
          refine hr _ _ _ hlc ?_
          rw [Array.getElem?_extract] at hlv
          split at hlv
          · exact hlv
          · simp at hlv
        · simp at hlc
    | false =>
      simp only [Bool.false_eq_true, if_false] at hp
      split at hp
      · have hj : j < vs.size := by omega
        exact ⟨vs[j], by simp [part, aggB_run ha, Array.getElem?_eq_getElem hj], hr _ _ _ hp (Array.getElem?_eq_getElem hj)⟩
      · simp at hp

end Go.Proofs.YtoodknhlnifnlaaGreatDoor
