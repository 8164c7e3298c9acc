/- The engine, part B: the abstract machine. -/
import Derived.Test.YtoodknhlnifnlaaGreatDoorA
set_option linter.all false
set_option linter.unusedVariables false
set_option linter.unusedSimpArgs false
namespace Go.Proofs.YtoodknhlnifnlaaGreatDoor
open Go.RowKit

/-- An operand: a slot or a constant. -/
inductive Ar where
  | t (n : Nat)
  | k (x : X)
  deriving Inhabited

def Ar.ev (e : Env) : Ar → X
  | .t n => e n
  | .k x => x

/-- What a cell that is compared holds. -/
inductive LK where
  | i | s | b
  deriving DecidableEq, Inhabited

inductive IOp where
  | mov (a : Ar)
  | pick (c a b : Ar)
  | box (o : Nat) (a : Ar)
  | boxI (a : Ar)
  | build (z : List X) (ps : List (Nat × Nat × Ar))
  | bsl (o k n : Nat) (z : X) (ps : List (Nat × Ar))
  | bslI (k n : Nat) (z : X) (ps : List (Nat × Ar))
  | ld (a : Ar) (w : Nat) (ag : Bool)
  | st (a b : Ar) (w : Nat)
  | nck (a : Ar)
  | bin (op : BinOp) (a b : Ar)
  | eqs (neg : Bool) (ks : List LK) (a b : Ar)
  | eqb (neg : Bool) (a b : Ar)
  | un (op : UnOp) (a : Ar)
  | cvs (a : Ar)
  | conv (k : IntKind) (a : Ar)
  | fa (a : Ar) (j : Nat)
  | fld (a : Ar) (j w : Nat) (ag : Bool)
  | ixa (a i : Ar) (w : Nat)
  | ixp (a i : Ar) (w n : Nat)
  | ixs (a i : Ar)
  | ixv (a i : Ar) (w n : Nat) (ag : Bool)
  | sls (a : Ar) (lo hi : Option Ar)
  | sli (w : Nat) (a : Ar) (lo hi : Option Ar)
  | mks (o k : Nat) (z : X) (len cap : Ar) (lim : Nat)
  | len (a : Ar)
  | lens (a : Ar)
  | app (o k lim : Nat) (a b : Ar)
  | mnmx (mx : Bool) (a : Ar) (l : List Ar)
  | ext (a : Ar) (i : Nat)
  | mkf (f : Nat) (l : List Ar)
  | call (still : Bool) (f : Nat) (l : List Ar)
  | callv (still : Bool) (f : Ar) (l : List Ar)
  | calli (f : Nat) (l : List Ar)
  | eqn (neg : Bool) (a : Ar)
  | mkm (o : Nat) (h : Option Ar)
  | mlk (ks : List LK) (ag : Bool) (m k : Ar) (z : X) (ok : Bool)
  | men (ks : List LK) (ag : Bool) (m k : Ar) (z : X)
  | mst (m st v : Ar)
  | mup (ks : List LK) (ag : Bool) (m k v : Ar)
  | mln (m : Ar)
  deriving Inhabited

structure GOp where
  d : Option Nat
  g : Option (Nat × Bool)
  op : IOp
  deriving Inhabited

inductive IC where
  | ops (l : List GOp)
  | dops (ch js : List Nat) (l m : List GOp)
  | seq (a b : IC)
  | cond (c : Ar) (t e : IC)
  | block (id : Nat) (c : IC)
  | loop (c : IC)
  | scope (c : IC)
  | exit (id : Nat)
  | ret
  | skip
  deriving Inhabited

inductive It where
  | code (c : IC)
  | ops (l : List GOp)
  | lp (c : IC)
  | bl (id : Nat)
  | chk (ch : List Nat) (js : List GOp) (s : Sto)
  deriving Inhabited

inductive Res where
  | tmp (t : Nat)
  | cell (t w : Nat) (ag : Bool)
  deriving Inhabited

inductive Fe where
  | code (nt : Nat) (res : List Res) (body : IC)
  | codez (nt : Nat) (res : List Res) (body : IC)
  | ext (F : List X → Option X)
  | extI (F : List X → Sto → Option (X × Sto))

def partX (cs : List X) (j w : Nat) (ag : Bool) : Option X :=
  if j + w ≤ cs.length then (if ag then some (.agg ((cs.drop j).take w)) else if w = 1 then cs[j]? else none) else none

def spl {α : Type} (cs : List α) (j : Nat) (ys : List α) : List α := cs.take j ++ ys ++ cs.drop (j + ys.length)

def setC (x : X) (j : Nat) (ys : List X) : X :=
  match x with
  | .agg cs => .agg (spl cs j ys)
  | _ => match ys with
    | [y] => y
    | _ => x

/-- A cell without names: what a row of this call's own holds becomes immutable. -/
def dpn (s : Sto) : X → Option X
  | .ref o g k i n =>
    match (s o).o with
    | some (.row k' es) => if g = (s o).g ∧ k = k' ∧ i + n ≤ es.length then some (.sl true ((es.drop i).take n)) else none
    | _ => none
  | .nil => some (.sl true [])
  | .agg _ => none
  | .tup _ => none
  | x => if x.deep then some x else none
def dpL (s : Sto) : List X → Option (List X)
  | [] => some []
  | x :: l => match dpn s x, dpL s l with
    | some y, some m => some (y :: m)
    | _, _ => none
def dpC (s : Sto) : X → Option X
  | .agg cs => match dpL s cs with
    | some ds => some (.agg ds)
    | none => none
  | x => dpn s x
def nmX : X → List Nat
  | .ref o _ _ _ _ => [o]
  | _ => []
def nmC : X → List Nat
  | .agg cs => cs.flatMap nmX
  | x => nmX x
@[simp] def SO.fz (x : SO) : SO := { x with wr := false, n := x.n + 1 }
def frz (s : Sto) (l : List Nat) : Sto := fun o => if o ∈ l then (s o).fz else s o

def fill (e : Env) (cs : List X) : List (Nat × Nat × Ar) → Option (List X)
  | [] => some cs
  | (j, w, a) :: r =>
    if (a.ev e).cells.length = w ∧ j + w ≤ cs.length ∧ (a.ev e).cells.all X.one = true then fill e (spl cs j (a.ev e).cells) r else none

def fillE (e : Env) (s : Sto) (k : Nat) (es : List X) : List (Nat × Ar) → Option (List X × List Nat)
  | [] => some (es, [])
  | (i, a) :: r =>
    match dpC s (a.ev e) with
    | some x => if x.cells.length = k ∧ i < es.length ∧ x.cells.all X.one = true then
        match fillE e s k (es.set i x) r with
        | some (es', nm) => some (es', nmC (a.ev e) ++ nm)
        | none => none
      else none
    | none => none

def bitsV (op : BinOp) (k : IntKind) (x y : Int) : Option Value :=
  let a := BitVec.ofInt k.bits x
  let b := BitVec.ofInt k.bits y
  match op with
  | .and => some (.int k (k.wrap (a &&& b).toNat))
  | .or => some (.int k (k.wrap (a ||| b).toNat))
  | .xor => some (.int k (k.wrap (a ^^^ b).toNat))
  | .andNot => some (.int k (k.wrap (a &&& ~~~b).toNat))
  | _ => none

def binV (op : BinOp) : Value → Value → Option Value
  | .int k a, .int k' b =>
    match op with
    | .shl => if b < 0 then none else some (.int k (k.wrap (a * 2 ^ min b.toNat k.bits)))
    | .shr => if b < 0 then none else some (.int k (a.fdiv (2 ^ min b.toNat k.bits)))
    | _ => if k ≠ k' then none else
      match op with
      | .add => some (.int k (k.wrap (a + b)))
      | .sub => some (.int k (k.wrap (a - b)))
      | .mul => some (.int k (k.wrap (a * b)))
      | .quo => if b = 0 then none else some (.int k (k.wrap (a.tdiv b)))
      | .rem => if b = 0 then none else some (.int k (a.tmod b))
      | .eql => some (.bool (a == b))
      | .neq => some (.bool (a != b))
      | .lss => some (.bool (decide (a < b)))
      | .leq => some (.bool (decide (a ≤ b)))
      | .gtr => some (.bool (decide (a > b)))
      | .geq => some (.bool (decide (a ≥ b)))
      | _ => bitsV op k a b
  | .string a, .string b =>
    match op with
    | .add => if ((a.size + b.size : Nat) : Int) > IntKind.i64.max then none else some (.string (a ++ b))
    | .eql => some (.bool (a.toList == b.toList))
    | .neq => some (.bool (!(a.toList == b.toList)))
    | .lss => some (.bool (Op.bytesLess a.toList b.toList))
    | .leq => some (.bool (Op.bytesLess a.toList b.toList || a.toList == b.toList))
    | .gtr => some (.bool (!(Op.bytesLess a.toList b.toList || a.toList == b.toList)))
    | .geq => some (.bool (!(Op.bytesLess a.toList b.toList)))
    | _ => none
  | _, _ => none

def eqV : LK → Value → Value → Option Bool
  | .i, .int k a, .int k' b => if k = k' then some (a == b) else none
  | .s, .string a, .string b => some (a.toList == b.toList)
  | .b, .bool a, .bool b => some (a == b)
  | _, _, _ => none
def eqL : List LK → List X → List X → Option Bool
  | [], [], [] => some true
  | k :: ks, .v a :: l, .v b :: m => match eqV k a b, eqL ks l m with
    | some p, some q => some (p && q)
    | _, _ => none
  | _, _, _ => none

def unV (op : UnOp) : Value → Option Value
  | .int k n => match op with
    | .neg => some (.int k (k.wrap (0 - n)))
    | .xor => bitsV .xor k (if k.signed then -1 else k.max) n
    | _ => none
  | .bool b => match op with
    | .not => some (.bool !b)
    | _ => none
  | _ => none

def mnx (mx : Bool) : Value → Value → Option Value
  | .int k x, .int k' y => if k = k' then some (.int k (if mx then (if y > x then y else x) else (if y < x then y else x))) else none
  | _, _ => none
def mnxL (mx : Bool) (e : Env) (u : Value) : List Ar → Option Value
  | [] => some u
  | a :: l => match a.ev e with
    | .v y => match mnx mx u y with
      | some z => mnxL mx e z l
      | none => none
    | _ => none

def asI : X → Option Int
  | .v (.int _ i) => some i
  | _ => none

/-- A bound of a cut: from 0 to y. -/
def bnd (e : Env) (a : Option Ar) (dflt y : Nat) : Option Nat :=
  match a with
  | none => some dflt
  | some a => match asI (a.ev e) with
    | some i => if 0 ≤ i ∧ i ≤ (y : Int) then some i.toNat else none
    | none => none

def elems (s : Sto) : X → Option (List X)
  | .nil => some []
  | .sl _ es => some es
  | .ref o g k i n =>
    match (s o).o with
    | some (.row k' es) => if g = (s o).g ∧ k = k' ∧ i + n ≤ es.length then some ((es.drop i).take n) else none
    | _ => none
  | _ => none

def okE (k : Nat) (ys : List X) : Bool := ys.all fun y => y.cells.length == k && y.deep

@[simp] def SO.nw (x : SO) (b : Ob) : SO := ⟨x.g + 1, true, some b, x.n + 1⟩
@[simp] def SO.sw (x : SO) (b : Ob) : SO := ⟨x.g, true, some b, x.n + 1⟩
def newO (s : Sto) (o : Nat) (b : Ob) : Sto := upd s o ((s o).nw b)
def setO (s : Sto) (o : Nat) (b : Ob) : Sto := upd s o ((s o).sw b)

def ldX (s : Sto) (x : X) (w : Nat) (ag : Bool) : Option X :=
  match x with
  | .ptr o g j => match (s o).o with
    | some (.box y) => if g = (s o).g then partX y.cells j w ag else none
    | _ => none
  | .ep o g k i j => match (s o).o with
    | some (.row k' es) => if g = (s o).g ∧ k = k' ∧ j + w ≤ k then match es[i]? with
      | some y => partX y.cells j w ag
      | none => none
      else none
    | _ => none
  | .ip y j => partX y.cells j w ag
  | _ => none

def stX (s : Sto) (x y : X) (w : Nat) : Option Sto :=
  match x with
  | .ptr o g j => match (s o).o with
    | some (.box z) =>
      if g = (s o).g ∧ (s o).wr = true ∧ y.cells.length = w ∧ j + w ≤ z.cells.length ∧ y.cells.all X.one = true then some (setO s o (.box (setC z j y.cells))) else none
    | _ => none
  | .ep o g k i j => match (s o).o, dpC s y with
    | some (.row k' es), some y' => match es[i]? with
      | some z =>
        if g = (s o).g ∧ k = k' ∧ (s o).wr = true ∧ y'.cells.length = w ∧ j + w ≤ k ∧ y'.cells.all X.one = true ∧ ¬ o ∈ nmC y then some (frz (setO s o (.row k (es.set i (setC z j y'.cells)))) (nmC y)) else none
      | none => none
    | _, _ => none
  | _ => none

mutual
def X.scal : X → Bool
  | .v _ => true
  | .agg cs => scalL cs
  | .tup cs => scalL cs
  | _ => false
def scalL : List X → Bool
  | [] => true
  | x :: l => x.scal && scalL l
end

mutual
/-- The names of this call's variables that a value holds. -/
def nmA : X → List Nat
  | .ref o _ _ _ _ => [o]
  | .ptr o _ _ => [o]
  | .ep o _ _ _ _ => [o]
  | .mp o _ => [o]
  | .agg cs => nmL cs
  | .tup cs => nmL cs
  | .fn _ cs => nmL cs
  | _ => []
def nmL : List X → List Nat
  | [] => []
  | x :: l => nmA x ++ nmL l
end

/-- Where a key stands among entries. -/
def eqX (ks : List LK) : Bool → X → X → Option Bool
  | true, .agg l, .agg m => eqL ks l m
  | false, .v a, .v b => match ks with
    | [k] => eqV k a b
    | _ => none
  | _, _, _ => none
def okKey (ks : List LK) : Bool → X → Bool
  | true, .agg l => l.length == ks.length
  | false, .v _ => ks.length == 1
  | _, _ => false
def mfind (ks : List LK) (ag : Bool) (key : X) : List (X × X) → Option (Option Nat)
  | [] => if okKey ks ag key = true then some none else none
  | p :: es => match eqX ks ag key p.1 with
    | some true => some (some 0)
    | some false => match mfind ks ag key es with
      | some r => some (r.map (· + 1))
      | none => none
    | none => none
def mpX (s : Sto) : X → Option (Nat × List (X × X))
  | .mp o g => match (s o).o with
    | some (.map es) => if g = (s o).g ∧ (s o).wr = true then some (o, es) else none
    | _ => none
  | _ => none
def hintB (e : Env) : Option Ar → Bool
  | none => true
  | some a => (asI (a.ev e)).isSome
def setV (es : List (X × X)) (i : Nat) (v : X) : List (X × X) := es.modify i fun p => (p.1, v)

def retS (x : Option X) (s : Sto) : Option (X × Sto) := match x with
  | some x => some (x, s)
  | none => none

def stepO (op : IOp) (e : Env) (s : Sto) : Option (X × Sto) :=
  match op with
  | .mov a => some (a.ev e, s)
  | .pick c a b => match c.ev e with
    | .v (.bool t) => some (cond t (a.ev e) (b.ev e), s)
    | _ => none
  | .box o a => if (a.ev e).cells.all X.one = true then some (.ptr o ((s o).g + 1) 0, newO s o (.box (a.ev e))) else none
  | .boxI a => if (a.ev e).deep = true ∧ (a.ev e).cells.all X.one = true then some (.ip (a.ev e) 0, s) else none
  | .build z ps => match fill e z ps with
    | some cs => some (.agg cs, s)
    | none => none
  | .bsl o k n z ps => match fillE e s k (List.replicate n z) ps with
    | some (es, nm) => if o ∈ nm then none else some (.ref o ((s o).g + 1) k 0 n, frz (newO s o (.row k es)) nm)
    | none => none
  | .bslI k n z ps => match fillE e s k (List.replicate n z) ps with
    | some (es, []) => some (.sl true es, s)
    | _ => none
  | .ld a w ag => retS (ldX s (a.ev e) w ag) s
  | .st a b w => match stX s (a.ev e) (b.ev e) w with
    | some s' => some (.junk, s')
    | none => none
  | .nck a => match a.ev e with
    | .ptr o g j => if g = (s o).g then some (.ptr o g j, s) else none
    | .ep o g k i j => if g = (s o).g then some (.ep o g k i j, s) else none
    | .ip x j => some (.ip x j, s)
    | _ => none
  | .bin op a b => match a.ev e, b.ev e with
    | .v x, .v y => match binV op x y with
      | some z => some (.v z, s)
      | none => none
    | _, _ => none
  | .eqs neg ks a b => match a.ev e, b.ev e with
    | .agg x, .agg y => match eqL ks x y with
      | some z => some (.v (.bool (if neg then !z else z)), s)
      | none => none
    | _, _ => none
  | .eqb neg a b => match a.ev e, b.ev e with
    | .v (.bool x), .v (.bool y) => some (.v (.bool (if neg then !(x == y) else x == y)), s)
    | _, _ => none
  | .un op a => match a.ev e with
    | .v x => match unV op x with
      | some z => some (.v z, s)
      | none => none
    | _ => none
  | .cvs a => match a.ev e with
    | .v (.string b) => some (.v (.string b), s)
    | _ => none
  | .conv k a => match a.ev e with
    | .v (.int _ n) => some (.v (.int k (k.wrap n)), s)
    | _ => none
  | .fa a j => match a.ev e with
    | .ptr o g i => if g = (s o).g then some (.ptr o g (i + j), s) else none
    | .ep o g k i l => if g = (s o).g then some (.ep o g k i (l + j), s) else none
    | .ip x i => some (.ip x (i + j), s)
    | _ => none
  | .fld a j w ag => match a.ev e with
    | .agg cs => retS (partX cs j w ag) s
    | _ => none
  | .ixa a i w => match asI (i.ev e) with
    | some n => match a.ev e with
      | .sl _ es => if 0 ≤ n ∧ n < (es.length : Int) then match es[n.toNat]? with
          | some x => if x.cells.length = w then some (.ip x 0, s) else none
          | none => none
        else none
      | .ref o g k j m => if 0 ≤ n ∧ n < (m : Int) ∧ k = w ∧ g = (s o).g then some (.ep o g k (j + n.toNat) 0, s) else none
      | _ => none
    | none => none
  | .ixp a i w n => match asI (i.ev e) with
    | some m => if 0 ≤ m ∧ m < (n : Int) then match a.ev e with
      | .ptr o g j => if g = (s o).g then some (.ptr o g (j + m.toNat * w), s) else none
      | .ip x j => some (.ip x (j + m.toNat * w), s)
      | _ => none
      else none
    | none => none
  | .ixs a i => match a.ev e, asI (i.ev e) with
    | .v (.string b), some n => match (if 0 ≤ n then b[n.toNat]? else none) with
      | some c => some (.v (.int .u8 c.toNat), s)
      | none => none
    | _, _ => none
  | .ixv a i w n ag => match a.ev e, asI (i.ev e) with
    | .agg cs, some m => if 0 ≤ m ∧ m < (n : Int) then retS (partX cs (m.toNat * w) w ag) s else none
    | _, _ => none
  | .sls a lo hi => match a.ev e with
    | .v (.string b) => match bnd e hi b.size b.size with
      | some h => match bnd e lo 0 h with
        | some l => some (.v (.string (b.extract l h)), s)
        | none => none
      | none => none
    | _ => none
  | .sli w a lo hi => match a.ev e with
    | .sl f es => if es.all (fun y => y.cells.length == w) = false then none else match bnd e hi es.length es.length with
      | some h => match bnd e lo 0 h with
        | some l => some (.sl f ((es.drop l).take (h - l)), s)
        | none => none
      | none => none
    | .ref o g k i n => if ¬ (g = (s o).g ∧ k = w) then none else match bnd e hi n n with
      | some h => match bnd e lo 0 h with
        | some l => some (if l = 0 then .ref o g k i h else if h - l = 0 then .sl true [] else .ref o g k (i + l) (h - l), s)
        | none => none
      | none => none
    | .nil => match bnd e hi 0 0 with
      | some _ => match bnd e lo 0 0 with
        | some _ => some (.nil, s)
        | none => none
      | none => none
    | _ => none
  | .mks o k z len cap lim => match asI (len.ev e), asI (cap.ev e) with
    | some l, some c => if 0 ≤ l ∧ l ≤ c ∧ c ≤ (lim : Int) ∧ z.cells.length = k ∧ z.deep = true ∧ z.cells.all X.one = true then some (.ref o ((s o).g + 1) k 0 l.toNat, newO s o (.row k (List.replicate l.toNat z))) else none
    | _, _ => none
  | .len a => match a.ev e with
    | .sl _ es => some (.v (.int .i64 es.length), s)
    | .ref o g _ _ n => if g = (s o).g then some (.v (.int .i64 n), s) else none
    | .nil => some (.v (.int .i64 0), s)
    | _ => none
  | .lens a => match a.ev e with
    | .v (.string b) => some (.v (.int .i64 b.size), s)
    | _ => none
  | .app o k lim a b => match elems s (b.ev e) with
    | some ys => if okE k ys = false then none else match a.ev e with
      | .nil => if ys = [] then some (.nil, s) else
          if ys.length ≤ lim then some (.ref o ((s o).g + 1) k 0 ys.length, newO s o (.row k ys)) else none
      | .ref o' g k' i n => match (s o').o with
        | some (.row k'' es) =>
          if g = (s o').g ∧ k' = k ∧ k'' = k ∧ (s o').wr = true ∧ i = 0 ∧ n = es.length ∧ n + ys.length ≤ lim ∧ ¬ o' ∈ nmX (b.ev e) then
            some (.ref o' (g + 1) k i (n + ys.length), newO s o' (.row k (es ++ ys))) else none
        | _ => none
      | _ => none
    | none => none
  | .mnmx mx a l => match a.ev e with
    | .v u => match mnxL mx e u l with
      | some z => some (.v z, s)
      | none => none
    | _ => none
  | .ext a i => match a.ev e with
    | .tup cs => retS cs[i]? s
    | _ => none
  | .mkf f l => if (l.map (Ar.ev e)).all X.one = true then some (.fn f (l.map (Ar.ev e)), s) else none
  | .call .. => none
  | .callv .. => none
  | .calli .. => none
  | .eqn neg a => match a.ev e with
    | .nil => some (.v (.bool !neg), s)
    | .sl _ (_ :: _) => some (.v (.bool neg), s)
    | .ref o g _ _ _ => if g = (s o).g then some (.v (.bool neg), s) else none
    | _ => none
  | .mkm o h => if hintB e h = true then some (.mp o ((s o).g + 1), newO s o (.map [])) else none
  | .mlk ks ag m k z ok => match mpX s (m.ev e) with
    | some (_, es) => match mfind ks ag (k.ev e) es with
      | some r => match (match r with
          | some i => es[i]?.map Prod.snd
          | none => some z) with
        | some v => some (if ok then .tup [v, .v (.bool r.isSome)] else v, s)
        | none => none
      | none => none
    | none => none
  | .men ks ag m k z => match mpX s (m.ev e) with
    | some (o, es) => match mfind ks ag (k.ev e) es with
      | some (some i) => match es[i]? with
        | some p => some (.tup [p.2, .v (.int .i64 i)], setO s o (.map es))
        | none => none
      | some none => if (k.ev e).scal = true ∧ z.scal = true then some (.tup [z, .v (.int .i64 es.length)], setO s o (.map (es ++ [(k.ev e, z)]))) else none
      | none => none
    | none => none
  | .mst m st v => match mpX s (m.ev e), asI (st.ev e) with
    | some (o, es), some i => if 0 ≤ i ∧ i < (es.length : Int) ∧ (v.ev e).scal = true then some (.junk, setO s o (.map (setV es i.toNat (v.ev e)))) else none
    | _, _ => none
  | .mup ks ag m k v => match mpX s (m.ev e) with
    | some (o, es) => if (k.ev e).scal = true ∧ (v.ev e).scal = true then match mfind ks ag (k.ev e) es with
      | some (some i) => some (.junk, setO s o (.map (setV es i (v.ev e))))
      | some none => some (.junk, setO s o (.map (es ++ [(k.ev e, v.ev e)])))
      | none => none
      else none
    | none => none
  | .mln m => match mpX s (m.ev e) with
    | some (_, es) => some (.v (.int .i64 es.length), s)
    | none => none

/-- Two values that are the same for sure. -/
def sameV : X → X → Bool
  | .v (.int k a), .v (.int k' b) => k == k' && a == b
  | .v (.bool a), .v (.bool b) => a == b
  | _, _ => false

end Go.Proofs.YtoodknhlnifnlaaGreatDoor
