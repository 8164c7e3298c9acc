/- A part of the proof. -/
import Derived.Tactics
import Derived.Below
import Derived.Laws.Rows
import Derived.Laws.CopyRow
import Derived.Orders
import Derived.Test.YtbmkfjmlepjpfaaGreatDoorGl
set_option linter.all false
set_option maxRecDepth 100000
namespace Go.Proofs.YtbmkfjmlepjpfaaGreatDoor
universe u v
theorem aR{α:Type u}{a b:α}:(some a=some b)=(a=b):=Option.some.injEq _ _
theorem bq{α:Type u}{β:Type v}{a c:α}{b d:β}:((a,b)=(c,d))=(a=c/\b=d):=Prod.mk.injEq _ _ _ _
theorem bE(a b:Bool):((a&&b)=true)=(a=true/\b=true):=Bool.and_eq_true a b
theorem jI:(false=true)=False:=Bool.false_eq_true
theorem nk{α:Type u}{p:α->Bool}{l:List α}:l.all p=true<->∀x∈l,p x=true:=List.all_eq_true
theorem gJ{n m k:Nat}:n<=m->m<=k->n<=k:=Nat.le_trans
theorem jM{α:Type u}{l:List α}{i:Nat}{a:α}:l[i]?=some a->a∈l:=List.mem_of_getElem?
open Go.RowKit
inductive X where
 | v (u:Value)
 | nil
 | sl (f:Bool) (es:List X)
 | agg (cs:List X)
 | bU (cs:List X)
 | ref (o g k i n:Nat)
 | ptr (o g j:Nat)
 | ep (o g k i j:Nat)
 | ip (x:X) (j:Nat)
 | fn (f:Nat) (cs:List X)
 | fm (f:Nat) (ps:List X)
 | mp (o g:Nat)
 | Dx (o g:Nat)
 | junk
 deriving Inhabited
def X.cells:X->List X
 | .agg cs=>cs
 | x=>[x]
def plain:Value->Bool
 | .int _ _|.bool _|.string _|.nilFunc|.nilIface|.pointer none|.map none=>true
 | _=>false
def X.one:X->Bool
 | .agg _|.bU _|.junk=>false
 | _=>true
abbrev Env:=Nat->X
@[inline] def upd{α:Type}(f:Nat->α)(d:Nat)(x:α):Nat->α:=fun n=>if n=d then x else f n
theorem upd_same{α:Type}(f:Nat->α)(d:Nat)(x:α):upd f d x d=x:=by simp[upd]
theorem upd_ne{α:Type}(f:Nat->α){d n:Nat}(x:α)(h:n≠d):upd f d x n=f n:=by simp[upd,h]
mutual
def X.deep:X->Bool
 | .v _=>true
 | .sl _ es=>aP es
 | .agg cs=>aP cs
 | .bU cs=>aP cs
 | .fn _ cs=>aP cs
 | .fm _ cs=>aP cs
 | .ip x _=>x.deep
 | _=>false
def aP:List X->Bool
 | []=>true
 | x::l=>x.deep&&aP l
end
mutual
def X.shr:X->X
 | .sl _ es=>.sl false (fu es)
 | .agg cs=>.agg (fu cs)
 | .bU cs=>.bU (fu cs)
 | .fn f cs=>.fn f (fu cs)
 | .fm f cs=>.fm f (fu cs)
 | .nil=>.sl false []
 | .ip x j=>.ip x.shr j
 | x=>x
def fu:List X->List X
 | []=>[]
 | x::l=>x.shr::fu l
end
structure Cx where
 μ:Nat->Nat
 γ:Nat->Nat
 w:World
 sh:Nat->Prop
 fr:Nat->Prop
def Cx.blk(C:Cx)(f:Bool)(b:Nat):Prop:=C.fr b\/(f=false/\C.sh b)
inductive aW (C:Cx):X->Value->Prop
 | v {u:Value}:plain u=true->aW C (.v u) u
 | nil {b:Option Addr}:aW C .nil (.slice b 0 0)
 | sl0 {f:Bool} {a:Option Addr} {cap:Nat}:aW C (.sl f []) (.slice a 0 cap)
 | sl {f:Bool} {es:List X} {b off cap k n:Nat} (val:Nat->Nat->Value):n=es.length->n<=cap->
  es.length<=9223372036854775807->C.blk f b->(∀e∈es,e.cells.length=k)->
  (∀i e j c,es[i]?=some e->e.cells[j]?=some c->C.w.cell? ⟨b,off+i*k+j,none⟩=some (val i j)/\c.one=true)->
  (f=true->∀j,C.w.frozen? ⟨b,j,none⟩=false)->
  (∀i e j c,es[i]?=some e->e.cells[j]?=some c->aW C c (val i j))->
  aW C (.sl f es) (.slice (some ⟨b,off,none⟩) n cap)
 | agg {cs:List X} {vs:Array Value}:cs.length=vs.size->(∀c∈cs,c.one=true)->
  (∀(j:Nat) c v,cs[j]?=some c->vs[j]?=some v->aW C c v)->aW C (.agg cs) (.agg vs)
 | bU {cs:List X} {vs:Array Value}:cs.length=vs.size->
  (∀(j:Nat) c v,cs[j]?=some c->vs[j]?=some v->aW C c v)->aW C (.bU cs) (.tuple vs)
 | fn {f:Nat} {cs:List X} {vs:Array Value}:cs.length=vs.size->
  (∀(j:Nat) c v,cs[j]?=some c->vs[j]?=some v->aW C c v)->aW C (.fn f cs) (.func (.func f) #[] vs)
 | fm {f:Nat} {cs:List X} {vs:Array Value}:cs.length=vs.size->
  (∀(j:Nat) c v,cs[j]?=some c->vs[j]?=some v->aW C c v)->aW C (.fm f cs) (.func (.func f) vs #[])
 | ref {o g k i n:Nat} {v:Value}:1<=g->g<=C.γ o->(C.γ o=g->∃cap,v=.slice (some ⟨C.μ o,i*k,none⟩) n cap/\n<=cap/\
  ∃cs t fz,C.w.heap[C.μ o]?=some (.cells cs t fz)/\(i+cap)*k=cs.size)->v.oneCell'=true->aW C (.ref o g k i n) v
 | ptr {o g j:Nat} {v:Value}:1<=g->g<=C.γ o->(C.γ o=g->v=.pointer (some ⟨C.μ o,j,none⟩))->v.oneCell'=true->aW C (.ptr o g j) v
 | ep {o g k i j:Nat} {v:Value}:1<=g->g<=C.γ o->(C.γ o=g->v=.pointer (some ⟨C.μ o,i*k+j,none⟩))->v.oneCell'=true->aW C (.ep o g k i j) v
 | ip {x:X} {j b off:Nat} (val:Nat->Value):(C.fr b\/C.sh b)->
  (∀l c,x.cells[l]?=some c->C.w.cell? ⟨b,off+l,none⟩=some (val l)/\c.one=true)->
  (∀l c,x.cells[l]?=some c->aW C c (val l))->aW C (.ip x j) (.pointer (some ⟨b,off+j,none⟩))
 | mp {o g:Nat} {v:Value}:1<=g->g<=C.γ o->(C.γ o=g->v=.map (some (C.μ o)))->v.oneCell'=true->aW C (.mp o g) v
 | Dx {o g:Nat} {v:Value}:1<=g->g<=C.γ o->(C.γ o=g->v=.func (.yield (C.μ o)) #[] #[])->v.oneCell'=true->aW C (.Dx o g) v
 | junk {v:Value}:aW C .junk v
theorem aW.one{C:Cx}{x:X}{v:Value}(h:aW C x v)(ho:x.one=true):v.oneCell'=true:=by
 cases h<;>first|assumption|rfl|(simp[X.one]at ho;done)|skip
 rename_i hp;cases v<;>first|rfl|(simp[plain]at hp;done)
structure Cx.Le (C D:Cx):Prop where
 cell:∀b,C.fr b\/C.sh b->∀o v,C.w.cell? ⟨b,o,none⟩=some v->D.w.cell? ⟨b,o,none⟩=some v
 frozen:∀b,C.fr b->∀o,C.w.frozen? ⟨b,o,none⟩=false->D.w.frozen? ⟨b,o,none⟩=false
 sh:∀b,C.sh b->D.sh b\/D.fr b
 fr:∀b,C.fr b->D.fr b
 γ:∀o,C.γ o<=D.γ o
 μ:∀o,1<=C.γ o->D.γ o=C.γ o->D.μ o=C.μ o/\∀cs t fz,C.w.heap[C.μ o]?=some (.cells cs t fz)->∃cs' t' fz',D.w.heap[C.μ o]?=some (.cells cs' t' fz')/\cs.size=cs'.size
theorem Cx.Le.trans{C D E:Cx}(h:C.Le D)(k:D.Le E):C.Le E:=by
 refine⟨?_,?_,?_,fun b hb=>k.fr b (h.fr b hb),fun o=>gJ (h.γ o) (k.γ o),?_⟩
 ·intro b hb o v hv;refine k.cell b ?_ o v (h.cell b hb o v hv);rcases hb with hb|hb
  ·exact .inl (h.fr b hb)
  ·rcases h.sh b hb with h1|h1
   ·exact .inr h1
   ·exact .inl h1
 ·intro b hb o hv;exact k.frozen b (h.fr b hb) o (h.frozen b hb o hv)
 ·intro b hb;rcases h.sh b hb with h1|h1
  ·exact k.sh b h1
  ·exact .inr (k.fr b h1)
 ·intro o h1 h2;have a1:=h.γ o;have a2:=k.γ o;obtain⟨b1,b2⟩:=h.μ o h1 (by omega);obtain⟨c1,c2⟩:=k.μ o (by omega) (by omega);refine⟨c1.trans b1,fun cs t fz hcs=>?_⟩;obtain⟨cs',t',fz',d1,d2⟩:=b2 cs t fz hcs;obtain⟨cs2,t2,fz2,e1,e2⟩:=c2 cs' t' fz' (b1▸d1);exact⟨cs2,t2,fz2,b1▸e1,d2.trans e2⟩
theorem Cx.Le.refl(C:Cx):C.Le C:=⟨fun _ _ _ _ h=>h,fun _ _ _ h=>h,fun _ h=>.inl h,fun _ h=>h,fun _=>Nat.le_refl _,fun _ _ _=>⟨rfl,fun cs t fz h=>⟨cs,t,fz,h,rfl⟩⟩⟩
theorem aW.mono{C D:Cx}(h:C.Le D){x:X}{v:Value}(hx:aW C x v):aW D x v:=by
 induction hx with
 | v hp=>exact .v hp
 | nil=>exact .nil
 | sl0=>exact .sl0
 | @sl f es b off cap k n val hn hcap hl hb hk hc hz _ ih=>
  refine .sl val hn hcap hl ?_ hk (fun i e j c hi hj=>⟨h.cell b ?_ _ _ (hc i e j c hi hj).1,(hc i e j c hi hj).2⟩) (fun hf j=>h.frozen b ?_ _ (hz hf j)) ih
  ·rcases hb with hb|⟨hf,hb⟩
   ·exact .inl (h.fr b hb)
   ·rcases h.sh b hb with hb'|hb'
    ·exact .inr ⟨hf,hb'⟩
    ·exact .inl hb'
  ·exact hb.imp id And.right
  ·rcases hb with hb|⟨hf',_⟩
   ·exact hb
   ·simp[hf]at hf'
 | agg hl ho _ ih=>exact .agg hl ho ih
 | bU hl _ ih=>exact .bU hl ih
 | fn hl _ ih=>exact .fn hl ih
 | fm hl _ ih=>exact .fm hl ih
 | @ref o g k i n v h1 hg hv ho=>
  refine .ref h1 (gJ hg (h.γ o)) (fun he=>?_) ho;have hg':C.γ o=g:=by have:=h.γ o;omega
  obtain⟨cap,rfl,hn,cs,t,fz,hh,hs⟩:=hv hg';obtain⟨hm,hm'⟩:=h.μ o (by omega) (by omega);obtain⟨cs',t',fz',hh',hs'⟩:=hm' cs t fz hh;exact⟨cap,by rw[hm],hn,cs',t',fz',by rw[hm];exact hh',by omega⟩
 | @ptr o g j v h1 hg hv ho=>
  refine .ptr h1 (gJ hg (h.γ o)) (fun he=>?_) ho;have hg':C.γ o=g:=by have:=h.γ o;omega
  rw[hv hg',(h.μ o (by omega) (by omega)).1]
 | @ep o g k i j v h1 hg hv ho=>
  refine .ep h1 (gJ hg (h.γ o)) (fun he=>?_) ho;have hg':C.γ o=g:=by have:=h.γ o;omega
  rw[hv hg',(h.μ o (by omega) (by omega)).1]
 | @ip x j b off val hb hc _ ih=>
  exact .ip val ((hb.symm.imp (h.sh b) (h.fr b)).elim (fun h=>h.symm) .inl) (fun l c hl=>⟨h.cell b hb _ _ (hc l c hl).1,(hc l c hl).2⟩) ih
 | @mp o g v h1 hg hv ho=>
  refine .mp h1 (gJ hg (h.γ o)) (fun he=>?_) ho;have hg':C.γ o=g:=by have:=h.γ o;omega
  rw[hv hg',(h.μ o (by omega) (by omega)).1]
 | @Dx o g v h1 hg hv ho=>
  refine .Dx h1 (gJ hg (h.γ o)) (fun he=>?_) ho;have hg':C.γ o=g:=by have:=h.γ o;omega
  rw[hv hg',(h.μ o (by omega) (by omega)).1]
 | junk=>exact .junk
theorem aW.kQ{C D:Cx}{x:X}{v:Value}(hx:aW C x v)(hd:x.deep=true)
 (cell:∀b,C.fr b\/C.sh b->∀o v,C.w.cell? ⟨b,o,none⟩=some v->D.w.cell? ⟨b,o,none⟩=some v)
 (frozen:∀b,C.fr b->∀o,C.w.frozen? ⟨b,o,none⟩=false->D.w.frozen? ⟨b,o,none⟩=false)
 (sh:∀b,C.sh b->D.sh b\/D.fr b) (fr:∀b,C.fr b->D.fr b):aW D x v:=by
 have mem:∀ {l:List X},aP l=true->∀c∈l,c.deep=true:=by
  intro l;induction l with
  | nil=>intro _ c hc;cases hc
  | cons a l ih=>
   intro h c hc;simp only[aP,bE]at h;cases hc with
   | head=>exact h.1
   | tail _ hc=>exact ih h.2 c hc
 have cm:∀ {e:X},e.deep=true->∀c∈e.cells,c.deep=true:=by
  intro e he c hc;cases e
  case agg cs=>exact mem (l:=cs) (by simpa[X.deep]using he) c hc
  all_goals (simp only[X.cells,List.mem_singleton]at hc;subst hc;exact he)
 induction hx with
 | v hp=>exact .v hp
 | nil=>exact .nil
 | sl0=>exact .sl0
 | @sl f es b off cap k n val hn hcap hl hb hk hc hz _ ih=>
  have hes:=mem (show aP es=true by simpa[X.deep]using hd);refine .sl val hn hcap hl ?_ hk (fun i e j c hi hj=>⟨cell b ?_ _ _ (hc i e j c hi hj).1,(hc i e j c hi hj).2⟩) (fun hf j=>frozen b ?_ _ (hz hf j)) (fun i e j c hi hj=>ih i e j c hi hj (cm (hes e (jM hi)) c (jM hj)))
  ·rcases hb with hb|⟨hf,hb⟩
   ·exact .inl (fr b hb)
   ·rcases sh b hb with hb'|hb'
    ·exact .inr ⟨hf,hb'⟩
    ·exact .inl hb'
  ·exact hb.imp id And.right
  ·rcases hb with hb|⟨hf',_⟩
   ·exact hb
   ·simp[hf]at hf'
 | agg hl ho _ ih=>
  have hes:=mem (by simpa[X.deep]using hd);exact .agg hl ho fun j c v hj hv=>ih j c v hj hv (hes c (jM hj))
 | bU hl _ ih=>
  have hes:=mem (by simpa[X.deep]using hd);exact .bU hl fun j c v hj hv=>ih j c v hj hv (hes c (jM hj))
 | fn hl _ ih=>
  have hes:=mem (by simpa[X.deep]using hd);exact .fn hl fun j c v hj hv=>ih j c v hj hv (hes c (jM hj))
 | fm hl _ ih=>
  have hes:=mem (by simpa[X.deep]using hd);exact .fm hl fun j c v hj hv=>ih j c v hj hv (hes c (jM hj))
 | @ip x j b off val hb hc _ ih=>
  have hx:x.deep=true:=by simpa[X.deep]using hd
  exact .ip val (hb.elim (fun h=>.inl (fr b h)) (fun h=>(sh b h).elim .inr .inl)) (fun l c hl=>⟨cell b hb _ _ (hc l c hl).1,(hc l c hl).2⟩) (fun l c hl=>ih l c hl (cm hx c (jM hl)))
 | _=>simp[X.deep]at hd
inductive Ar where
 | t (n:Nat)
 | k (x:X)
 deriving Inhabited
def Ar.ev(e:Env):Ar->X
 | .t n=>e n
 | .k x=>x
inductive LK where
 | i|s|b
 deriving DecidableEq,Inhabited
inductive gm where
 | bF (a:Ar)
 | pick (c a b:Ar)
 | box (o:Nat) (a:Ar)
 | xZ (a:Ar)
 | build (z:List X) (ps:List (Nat×Nat×Ar))
 | kG (o k n:Nat) (z:X) (ps:List (Nat×Ar))
 | ZH (o k:Nat) (z:X) (d:Nat) (ix a:Ar)
 | jA (k n:Nat) (z:X) (ps:List (Nat×Ar))
 | ld (a:Ar) (w:Nat) (ag:Bool)
 | st (a b:Ar) (w:Nat)
 | Sg (a:Ar)
 | bin (op:BinOp) (a b:Ar)
 | eqs (neg:Bool) (ks:List LK) (a b:Ar)
 | ZX (neg:Bool) (a b:Ar)
 | un (op:UnOp) (a:Ar)
 | cvs (a:Ar)
 | conv (k:IntKind) (a:Ar)
 | fa (a:Ar) (j:Nat)
 | JF (a:Ar) (j w:Nat) (ag:Bool)
 | dK (a i:Ar) (w:Nat)
 | Bo (a i:Ar) (w n:Nat)
 | F_ (a i:Ar)
 | ixv (a i:Ar) (w n:Nat) (ag:Bool)
 | sls (a:Ar) (lo hi:Option Ar)
 | RB (w:Nat) (a:Ar) (lo hi:Option Ar)
 | Mw (o k:Nat) (z:X) (len cap:Ar) (lim:Nat)
 | len (a:Ar)
 | lens (a:Ar)
 | app (o k lim:Nat) (a b:Ar)
 | NK (o k lim:Nat) (a b:Ar)
 | a_ (mx:Bool) (a:Ar) (l:List Ar)
 | ext (a:Ar) (i:Nat)
 | GY (f:Nat) (l:List Ar)
 | EX (f:Nat) (l:List Ar)
 | Sb (neg:Bool) (a:Ar)
 | no
 | call (still:Bool) (f:Nat) (l:List Ar)
 | fG (still:Bool) (f:Ar) (l:List Ar)
 | bB (f:Nat) (l:List Ar)
 | j6 (f:Nat) (l:List Ar)
 | bL (st:Bool) (p:List Nat) (q f:Nat) (l:List Ar)
 | fK (f:Ar) (l:List Ar)
 | Sc (neg:Bool) (a:Ar)
 | GZ (o:Nat) (h:Option Ar)
 | G5 (ks:List LK) (ag:Bool) (m k:Ar) (z:X) (ok:Bool)
 | O9 (ks:List LK) (ag:Bool) (m k:Ar) (z:X)
 | Pb (m st v:Ar)
 | NN (ks:List LK) (ag:Bool) (m k v:Ar)
 | Mx (m:Ar)
 deriving Inhabited
structure d9 where
 d:Option Nat
 g:Option (Nat×Bool)
 op:gm
 deriving Inhabited
inductive IC where
 | ops (l:List d9)
 | aL (ch js:List Nat) (l m:List d9)
 | seq (a b:IC)
 | cond (c:Ar) (t e:IC)
 | block (id:Nat) (c:IC)
 | loop (c:IC)
 | scope (c:IC)
 | exit (id:Nat)
 | ret
 | skip
 | Rj (q:Nat) (g:Ar) (ps:List Nat) (a b:IC)
 | Rl (q:Nat)
 | FO (q id:Nat)
 deriving Inhabited
inductive LS where
 | ready
 | busy
 | done (j:Option Nat)
 deriving DecidableEq,Inhabited
inductive Ob where
 | box (x:X)
 | row (k:Nat) (es:List X)
 | map (es:List (X×X))
 | lp (e:Env) (ps:List Nat) (a b:IC) (st:LS)
 deriving Inhabited
structure SO where
 g:Nat
 wr:Bool
 o:Option Ob
 n:Nat
 deriving Inhabited
abbrev ay:=Nat->SO
structure Bs extends World where
 base:Cx
 F9:Jk toWorld
 keep:List Nat
 ze:Nat->Nat->Code->IC->Prop
instance:Coe Bs World:=⟨Bs.toWorld⟩
inductive It where
 | code (c:IC)
 | ops (l:List d9)
 | lp (c:IC)
 | bl (id:Nat)
 | Sw (ch:List Nat) (js:List d9) (s:ay)
 | NZ (q g:Nat)
 | Oz (q g:Nat)
 deriving Inhabited
inductive fI where
 | tmp (t:Nat)
 | Tz (t:Nat)
 | cell (t w:Nat) (ag:Bool)
 deriving Inhabited
inductive Fe where
 | code (nt:Nat) (res:List fI) (body:IC)
 | vX (nt:Nat) (res:List fI) (body:IC)
 | ext (F:List X->Option X)
 | rQ (F:List X->ay->Option (X×ay))
def iI(cs:List X)(j w:Nat)(ag:Bool):Option X:=
 if j+w<=cs.length then(if ag then some (.agg ((cs.drop j).take w))else if w=1 then cs[j]? else none)else none
def spl{α:Type}(cs:List α)(j:Nat)(ys:List α):List α:=cs.take j++ys++cs.drop (j+ys.length)
def p_(x:X)(j:Nat)(ys:List X):X:=
 match x with
 | .agg cs=>.agg (spl cs j ys)
 | _=>match ys with
  | [y]=>y
  | _=>x
def rZ(s:ay):X->Option X
 | .ref o g k i n=>
  match (s o).o with
  | some (.row k' es)=>if g=(s o).g/\k=k'/\i+n<=es.length/\aP es=true then some (.sl true ((es.drop i).take n))else none
  | _=>none
 | .nil=>some (.sl true [])
 | .agg _=>none
 | .bU _=>none
 | x=>if x.deep then some x else none
def uM(s:ay):List X->Option (List X)
 | []=>some []
 | x::l=>match rZ s x,uM s l with
  | some y,some m=>some (y::m)
  | _,_=>none
def oh(s:ay):X->Option X
 | .agg cs=>match uM s cs with
  | some ds=>some (.agg ds)
  | none=>none
 | x=>rZ s x
def r_:X->List Nat
 | .ref o _ _ _ _=>[o]
 | _=>[]
def nR:X->List Nat
 | .agg cs=>cs.flatMap r_
 | x=>r_ x
@[simp] def SO.fz(x:SO):SO:={x with wr:=false,n:=x.n+1}
def gB(s:ay)(l:List Nat):ay:=fun o=>if o∈l then(s o).fz else s o
def fill(e:Env)(cs:List X):List (Nat×Nat×Ar)->Option (List X)
 | []=>some cs
 | (j,w,a)::r=>
  if(a.ev e).cells.length=w/\j+w<=cs.length/\(a.ev e).cells.all X.one=true then fill e (spl cs j (a.ev e).cells) r else none
def iY(e:Env)(s:ay)(k:Nat)(es:List X):List (Nat×Ar)->Option (List X×List Nat)
 | []=>some (es,[])
 | (i,a)::r=>
  match oh s (a.ev e)with
  | some x=>if x.cells.length=k/\i<es.length/\x.cells.all X.one=true then
   match iY e s k (es.set i x) r with
   | some (es',nm)=>some (es',nR (a.ev e)++nm)
   | none=>none
   else none
  | none=>none
def DJ(op:BinOp)(k:IntKind)(x y:Int):Option Value:=
 let a:=BitVec.ofInt k.bits x
 let b:=BitVec.ofInt k.bits y
 match op with
 | .and=>some (.int k (k.wrap (a&&& b).toNat))
 | .or=>some (.int k (k.wrap (a||| b).toNat))
 | .xor=>some (.int k (k.wrap (a ^^^ b).toNat))
 | .andNot=>some (.int k (k.wrap (a&&& ~~~b).toNat))
 | _=>none
def jy(op:BinOp):Value->Value->Option Value
 | .int k a,.int k' b=>
  match op with
  | .shl=>if b<0 then none else some (.int k (k.wrap (a*2 ^ min b.toNat k.bits)))
  | .shr=>if b<0 then none else some (.int k (a.fdiv (2 ^ min b.toNat k.bits)))
  | _=>if k≠k' then none else
   match op with
   | .add=>some (.int k (k.wrap (a+b)))
   | .sub=>some (.int k (k.wrap (a-b)))
   | .mul=>some (.int k (k.wrap (a*b)))
   | .quo=>if b=0 then none else some (.int k (k.wrap (a.tdiv b)))
   | .rem=>if b=0 then none else some (.int k (a.tmod b))
   | .eql=>some (.bool (a==b))
   | .neq=>some (.bool (a != b))
   | .lss=>some (.bool (decide (a<b)))
   | .leq=>some (.bool (decide (a<=b)))
   | .gtr=>some (.bool (decide (a > b)))
   | .geq=>some (.bool (decide (a≥b)))
   | _=>DJ op k a b
 | .string a,.string b=>
  match op with
  | .add=>if((a.size+b.size:Nat):Int) > IntKind.i64.max then none else some (.string (a++b))
  | .eql=>some (.bool (a.toList==b.toList))
  | .neq=>some (.bool (!(a.toList==b.toList)))
  | .lss=>some (.bool (Op.bytesLess a.toList b.toList))
  | .leq=>some (.bool (Op.bytesLess a.toList b.toList||a.toList==b.toList))
  | .gtr=>some (.bool (!(Op.bytesLess a.toList b.toList||a.toList==b.toList)))
  | .geq=>some (.bool (!(Op.bytesLess a.toList b.toList)))
  | _=>none
 | _,_=>none
def Dt:LK->Value->Value->Option Bool
 | .i,.int k a,.int k' b=>if k=k' then some (a==b)else none
 | .s,.string a,.string b=>some (a.toList==b.toList)
 | .b,.bool a,.bool b=>some (a==b)
 | _,_,_=>none
def Cy:List LK->List X->List X->Option Bool
 | [],[],[]=>some true
 | k::ks,.v a::l,.v b::m=>match Dt k a b,Cy ks l m with
  | some p,some q=>some (p&&q)
  | _,_=>none
 | _,_,_=>none
def unV(op:UnOp):Value->Option Value
 | .int k n=>match op with
  | .neg=>some (.int k (k.wrap (0-n)))
  | .xor=>DJ .xor k (if k.signed then -1 else k.max) n
  | _=>none
 | .bool b=>match op with
  | .not=>some (.bool !b)
  | _=>none
 | _=>none
def mnx(mx:Bool):Value->Value->Option Value
 | .int k x,.int k' y=>if k=k' then some (.int k (if mx then(if y > x then y else x)else(if y<x then y else x)))else none
 | _,_=>none
def pK(mx:Bool)(e:Env)(u:Value):List Ar->Option Value
 | []=>some u
 | a::l=>match a.ev e with
  | .v y=>match mnx mx u y with
   | some z=>pK mx e z l
   | none=>none
  | _=>none
def uT:X->Option Int
 | .v (.int _ i)=>some i
 | _=>none
def bnd(e:Env)(a:Option Ar)(dflt y:Nat):Option Nat:=
 match a with
 | none=>some dflt
 | some a=>match uT (a.ev e)with
  | some i=>if 0<=i/\i<=(y:Int)then some i.toNat else none
  | none=>none
def elems(s:ay):X->Option (List X)
 | .nil=>some []
 | .sl _ es=>some es
 | .ref o g k i n=>
  match (s o).o with
  | some (.row k' es)=>if g=(s o).g/\k=k'/\i+n<=es.length then some ((es.drop i).take n)else none
  | _=>none
 | _=>none
def X.JM:X->Bool
 | .ref ..=>true
 | .nil=>true
 | _=>false
def X.lit(y:X):Bool:=y.cells.all fun c=>c.deep||c.JM
def NP(k:Nat)(ys:List X):Bool:=ys.all fun y=>y.cells.length==k&&(y.deep||y.lit)
@[simp] def SO.nw(x:SO)(b:Ob):SO:=⟨x.g+1,true,some b,x.n+1⟩
@[simp] def SO.sw(x:SO)(b:Ob):SO:=⟨x.g,true,some b,x.n+1⟩
def aO(s:ay)(o:Nat)(b:Ob):ay:=upd s o ((s o).nw b)
def bK(s:ay)(o:Nat)(b:Ob):ay:=upd s o ((s o).sw b)
def ES(s:ay)(x:X)(w:Nat)(ag:Bool):Option X:=
 match x with
 | .ptr o g j=>match (s o).o with
  | some (.box y)=>if g=(s o).g then iI y.cells j w ag else none
  | _=>none
 | .ep o g k i j=>match (s o).o with
  | some (.row k' es)=>if g=(s o).g/\k=k'/\j+w<=k then match es[i]? with
   | some y=>iI y.cells j w ag
   | none=>none
   else none
  | _=>none
 | .ip y j=>iI y.cells j w ag
 | _=>none
def stX(s:ay)(x y:X)(w:Nat):Option ay:=
 match x with
 | .ptr o g j=>match (s o).o with
  | some (.box z)=>
   if g=(s o).g/\(s o).wr=true/\y.cells.length=w/\j+w<=z.cells.length/\y.cells.all X.one=true then some (bK s o (.box (p_ z j y.cells)))else none
  | _=>none
 | .ep o g k i j=>match (s o).o,oh s y with
  | some (.row k' es),some y'=>match es[i]? with
   | some z=>
    if g=(s o).g/\k=k'/\(s o).wr=true/\y'.cells.length=w/\j+w<=k/\y'.cells.all X.one=true/\¬o∈nR y then some (gB (bK s o (.row k (es.set i (p_ z j y'.cells)))) (nR y))else none
   | none=>none
  | _,_=>none
 | _=>none
mutual
def X.eG:X->Bool
 | .v _=>true
 | .agg cs=>p9 cs
 | .bU cs=>p9 cs
 | _=>false
def p9:List X->Bool
 | []=>true
 | x::l=>x.eG&&p9 l
end
mutual
def kz:X->List Nat
 | .ref o _ _ _ _=>[o]
 | .ptr o _ _=>[o]
 | .ep o _ _ _ _=>[o]
 | .mp o _=>[o]
 | .Dx o _=>[o]
 | .agg cs=>zf cs
 | .bU cs=>zf cs
 | .fn _ cs=>zf cs
 | .fm _ cs=>zf cs
 | _=>[]
def zf:List X->List Nat
 | []=>[]
 | x::l=>kz x++zf l
end
def eqX(ks:List LK):Bool->X->X->Option Bool
 | true,.agg l,.agg m=>Cy ks l m
 | false,.v a,.v b=>match ks with
  | [k]=>Dt k a b
  | _=>none
 | _,_,_=>none
def zk(ks:List LK):Bool->X->Bool
 | true,.agg l=>l.length==ks.length
 | false,.v _=>ks.length==1
 | _,_=>false
def jE(ks:List LK)(ag:Bool)(key:X):List (X×X)->Option (Option Nat)
 | []=>if zk ks ag key=true then some none else none
 | p::es=>match eqX ks ag key p.1 with
  | some true=>some (some 0)
  | some false=>match jE ks ag key es with
   | some r=>some (r.map (·+1))
   | none=>none
  | none=>none
def Dv(s:ay):X->Option (Nat×List (X×X))
 | .mp o g=>match (s o).o with
  | some (.map es)=>if g=(s o).g/\(s o).wr=true then some (o,es)else none
  | _=>none
 | _=>none
def yU(e:Env):Option Ar->Bool
 | none=>true
 | some a=>(uT (a.ev e)).isSome
def vP(es:List (X×X))(i:Nat)(v:X):List (X×X):=es.modify i fun p=>(p.1,v)
def AB(s:ay)(o d:Nat)(ob:Ob):ay:=upd (upd s d ⟨(s d).g+1,true,some ob,(s d).n+1⟩) o ⟨(s o).g,(s o).wr,none,(s o).n+1⟩
def kD(s:ay)(d:Nat):List X->Option (List X×ay)
 | []=>some ([],s)
 | .ref o g k i n::l=>match (s o).o with
  | some (.row k' es)=>if g=(s o).g/\(s o).wr=true/\¬o=d/\aP l=true then some (.ref d ((s d).g+1) k i n::l,AB s o d (.row k' es))else none
  | _=>none
 | .nil::l=>if aP l=true then some (.nil::l,s)else none
 | c::l=>if c.deep=true then match kD s d l with
  | some (l',s')=>some (c::l',s')
  | none=>none else none
def qL(x:Option X)(s:ay):Option (X×ay):=match x with
 | some x=>some (x,s)
 | none=>none
def Ah(s:ay)(o k lim:Nat)(x y:X):Option (X×ay):=match elems s y with
 | some ys=>if NP k ys=false then none else match x with
  | .nil=>if ys=[]then some (.nil,s)else
   if ys.length<=lim then some (.ref o ((s o).g+1) k 0 ys.length,aO s o (.row k ys))else none
  | .ref o' g k' i n=>match (s o').o with
   | some (.row k'' es)=>
    if g=(s o').g/\k'=k/\k''=k/\(s o').wr=true/\i=0/\n=es.length/\n+ys.length<=lim/\¬o'∈r_ y then
     some (.ref o' (g+1) k i (n+ys.length),aO s o' (.row k (es++ys)))else none
   | _=>none
  | _=>none
 | none=>none
def wV(s:ay)(o k lim:Nat)(x y:X):Option (X×ay):=match x,y with
 | .nil,.sl f es=>Ah s o k lim .nil (.sl f es)
 | .ref o' g k' i n,.sl f es=>if o'=o then Ah s o k lim (.ref o' g k' i n) (.sl f es)else none
 | _,_=>none
def aA(op:gm)(e:Env)(s:ay):Option (X×ay):=
 match op with
 | .bF a=>some (a.ev e,s)
 | .pick c a b=>match c.ev e with
  | .v (.bool t)=>some (cond t (a.ev e) (b.ev e),s)
  | _=>none
 | .box o a=>if(a.ev e).cells.all X.one=true then some (.ptr o ((s o).g+1) 0,aO s o (.box (a.ev e)))else none
 | .xZ a=>if(a.ev e).deep=true/\(a.ev e).cells.all X.one=true then some (.ip (a.ev e) 0,s)else none
 | .build z ps=>match fill e z ps with
  | some cs=>some (.agg cs,s)
  | none=>none
 | .kG o k n z ps=>match iY e s k (List.replicate n z) ps with
  | some (es,nm)=>if o∈nm then none else some (.ref o ((s o).g+1) k 0 n,gB (aO s o (.row k es)) nm)
  | none=>none
 | .jA k n z ps=>match iY e s k (List.replicate n z) ps with
  | some (es,[])=>some (.sl true es,s)
  | _=>none
 | .ZH q k z d ix a=>match uT (ix.ev e),a.ev e with
  | some i,.agg cs=>if 0<=i/\cs.length=k/\cs.all X.one=true/\¬q=d+i.toNat then match kD s (d+i.toNat) cs with
   | some (cs',s')=>some (.ref q ((s' q).g+1) k 0 1,aO s' q (.row k [.agg cs']))
   | none=>none
   else none
  | _,_=>none
 | .ld a w ag=>qL (ES s (a.ev e) w ag) s
 | .st a b w=>match stX s (a.ev e) (b.ev e) w with
  | some s'=>some (.junk,s')
  | none=>none
 | .Sg a=>match a.ev e with
  | .ptr o g j=>if g=(s o).g then some (.ptr o g j,s)else none
  | .ep o g k i j=>if g=(s o).g then some (.ep o g k i j,s)else none
  | .ip x j=>some (.ip x j,s)
  | _=>none
 | .bin op a b=>match a.ev e,b.ev e with
  | .v x,.v y=>match jy op x y with
   | some z=>some (.v z,s)
   | none=>none
  | _,_=>none
 | .eqs neg ks a b=>match a.ev e,b.ev e with
  | .agg x,.agg y=>match Cy ks x y with
   | some z=>some (.v (.bool (if neg then !z else z)),s)
   | none=>none
  | _,_=>none
 | .ZX neg a b=>match a.ev e,b.ev e with
  | .v (.bool x),.v (.bool y)=>some (.v (.bool (if neg then !(x==y)else x==y)),s)
  | _,_=>none
 | .un op a=>match a.ev e with
  | .v x=>match unV op x with
   | some z=>some (.v z,s)
   | none=>none
  | _=>none
 | .cvs a=>match a.ev e with
  | .v (.string b)=>some (.v (.string b),s)
  | _=>none
 | .conv k a=>match a.ev e with
  | .v (.int _ n)=>some (.v (.int k (k.wrap n)),s)
  | _=>none
 | .fa a j=>match a.ev e with
  | .ptr o g i=>if g=(s o).g then some (.ptr o g (i+j),s)else none
  | .ep o g k i l=>if g=(s o).g then some (.ep o g k i (l+j),s)else none
  | .ip x i=>some (.ip x (i+j),s)
  | _=>none
 | .JF a j w ag=>match a.ev e with
  | .agg cs=>qL (iI cs j w ag) s
  | _=>none
 | .dK a i w=>match uT (i.ev e)with
  | some n=>match a.ev e with
   | .sl _ es=>if 0<=n/\n<(es.length:Int)then match es[n.toNat]? with
    | some x=>if x.cells.length=w then some (.ip x 0,s)else none
    | none=>none
    else none
   | .ref o g k j m=>if 0<=n/\n<(m:Int)/\k=w/\g=(s o).g then some (.ep o g k (j+n.toNat) 0,s)else none
   | _=>none
  | none=>none
 | .Bo a i w n=>match uT (i.ev e)with
  | some m=>if 0<=m/\m<(n:Int)then match a.ev e with
   | .ptr o g j=>if g=(s o).g then some (.ptr o g (j+m.toNat*w),s)else none
   | .ip x j=>some (.ip x (j+m.toNat*w),s)
   | _=>none
   else none
  | none=>none
 | .F_ a i=>match a.ev e,uT (i.ev e)with
  | .v (.string b),some n=>match (if 0<=n then b[n.toNat]? else none)with
   | some c=>some (.v (.int .u8 c.toNat),s)
   | none=>none
  | _,_=>none
 | .ixv a i w n ag=>match a.ev e,uT (i.ev e)with
  | .agg cs,some m=>if 0<=m/\m<(n:Int)then qL (iI cs (m.toNat*w) w ag) s else none
  | _,_=>none
 | .sls a lo hi=>match a.ev e with
  | .v (.string b)=>match bnd e hi b.size b.size with
   | some h=>match bnd e lo 0 h with
    | some l=>some (.v (.string (b.extract l h)),s)
    | none=>none
   | none=>none
  | _=>none
 | .RB w a lo hi=>match a.ev e with
  | .sl f es=>if es.all (fun y=>y.cells.length==w)=false then none else match bnd e hi es.length es.length with
   | some h=>match bnd e lo 0 h with
    | some l=>some (.sl f ((es.drop l).take (h-l)),s)
    | none=>none
   | none=>none
  | .ref o g k i n=>if ¬(g=(s o).g/\k=w)then none else match bnd e hi n n with
   | some h=>match bnd e lo 0 h with
    | some l=>some (if l=0 then .ref o g k i h else if h-l=0 then .sl true []else .ref o g k (i+l) (h-l),s)
    | none=>none
   | none=>none
  | .nil=>match bnd e hi 0 0 with
   | some _=>match bnd e lo 0 0 with
    | some _=>some (.nil,s)
    | none=>none
   | none=>none
  | _=>none
 | .Mw o k z len cap lim=>match uT (len.ev e),uT (cap.ev e)with
  | some l,some c=>if 0<=l/\l<=c/\c<=(lim:Int)/\z.cells.length=k/\z.deep=true/\z.cells.all X.one=true then some (.ref o ((s o).g+1) k 0 l.toNat,aO s o (.row k (List.replicate l.toNat z)))else none
  | _,_=>none
 | .len a=>match a.ev e with
  | .sl _ es=>some (.v (.int .i64 es.length),s)
  | .ref o g _ _ n=>if g=(s o).g then some (.v (.int .i64 n),s)else none
  | .nil=>some (.v (.int .i64 0),s)
  | _=>none
 | .lens a=>match a.ev e with
  | .v (.string b)=>some (.v (.int .i64 b.size),s)
  | _=>none
 | .app o k lim a b=>Ah s o k lim (a.ev e) (b.ev e)
 | .NK o k lim a b=>wV s o k lim (a.ev e) (b.ev e)
 | .a_ mx a l=>match a.ev e with
  | .v u=>match pK mx e u l with
   | some z=>some (.v z,s)
   | none=>none
  | _=>none
 | .ext a i=>match a.ev e with
  | .bU cs=>qL cs[i]? s
  | _=>none
 | .GY f l=>if(l.map (Ar.ev e)).all X.one=true then some (.fn f (l.map (Ar.ev e)),s)else none
 | .EX f l=>if(l.map (Ar.ev e)).all X.one=true then some (.fm f (l.map (Ar.ev e)),s)else none
 | .Sb neg a=>match a.ev e with
  | .fn _ _=>some (.v (.bool neg),s)
  | .fm _ _=>some (.v (.bool neg),s)
  | .v .nilFunc=>some (.v (.bool !neg),s)
  | _=>none
 | .no=>none
 | .call ..=>none
 | .fG ..=>none
 | .bB ..=>none
 | .j6 ..=>none
 | .bL ..=>none
 | .fK ..=>none
 | .Sc neg a=>match a.ev e with
  | .sl _ (_::_)=>some (.v (.bool neg),s)
  | .ref o g _ _ _=>if g=(s o).g then some (.v (.bool neg),s)else none
  | _=>none
 | .GZ o h=>if yU e h=true then some (.mp o ((s o).g+1),aO s o (.map []))else none
 | .G5 ks ag m k z ok=>match Dv s (m.ev e)with
  | some (_,es)=>match jE ks ag (k.ev e) es with
   | some r=>match (match r with
    | some i=>es[i]?.map Prod.snd
    | none=>some z)with
    | some v=>some (if ok then .bU [v,.v (.bool r.isSome)]else v,s)
    | none=>none
   | none=>none
  | none=>none
 | .O9 ks ag m k z=>match Dv s (m.ev e)with
  | some (o,es)=>match jE ks ag (k.ev e) es with
   | some (some i)=>match es[i]? with
    | some p=>some (.bU [p.2,.v (.int .i64 i)],bK s o (.map es))
    | none=>none
   | some none=>if(k.ev e).eG=true/\z.eG=true then some (.bU [z,.v (.int .i64 es.length)],bK s o (.map (es++[(k.ev e,z)])))else none
   | none=>none
  | none=>none
 | .Pb m st v=>match Dv s (m.ev e),uT (st.ev e)with
  | some (o,es),some i=>if 0<=i/\i<(es.length:Int)/\(v.ev e).eG=true then some (.junk,bK s o (.map (vP es i.toNat (v.ev e))))else none
  | _,_=>none
 | .NN ks ag m k v=>match Dv s (m.ev e)with
  | some (o,es)=>if(k.ev e).eG=true/\(v.ev e).eG=true then match jE ks ag (k.ev e) es with
   | some (some i)=>some (.junk,bK s o (.map (vP es i (v.ev e))))
   | some none=>some (.junk,bK s o (.map (es++[(k.ev e,v.ev e)])))
   | none=>none
   else none
  | none=>none
 | .Mx m=>match Dv s (m.ev e)with
  | some (_,es)=>some (.v (.int .i64 es.length),s)
  | none=>none
def p8:X->X->Bool
 | .v (.int k a),.v (.int k' b)=>k==k'&&a==b
 | .v (.bool a),.v (.bool b)=>a==b
 | _,_=>false
def bD(id:Nat):List It->Option (List It)
 | .bl id'::k=>if id'==id then some k else bD id k
 | _::k=>bD id k
 | []=>none
def gd(o:d9)(e:Env):Option Bool:=
 match o.g with
 | none=>some true
 | some (t,want)=>match e t with
  | .v (.bool b)=>some (b==want)
  | .bU []=>some false
  | _=>none
def put(e:Env)(d:Option Nat)(x:X):Env:=
 match d with
 | some d=>upd e d x
 | none=>e
def bn(l:List X):Env:=fun n=>l.getD n .junk
def s0:ay:=fun _=>⟨0,false,none,0⟩
def ZV(s:ay):List X->Option (List X)
 | []=>some []
 | .agg cs::l=>match uM s cs,ZV s l with
  | some ds,some m=>some (.agg ds::m)
  | _,_=>none
 | _::_=>none
def Ow(s:ay):X->Option X
 | .ref o g k i n=>match (s o).o with
  | some (.row k' es)=>if g=(s o).g/\k=k'/\i+n<=es.length then match ZV s ((es.drop i).take n)with
   | some ds=>some (.sl true ds)
   | none=>none
   else none
  | _=>none
 | x=>oh s x
def nmm(s:ay):X->List Nat
 | .ref o _ _ _ _=>o::match (s o).o with
  | some (.row _ es)=>es.flatMap nR
  | _=>[]
 | x=>nR x
def zO(e:Env)(s:ay):fI->Option X
 | .tmp t=>oh s (e t)
 | .Tz t=>Ow s (e t)
 | .cell t w ag=>match ES s (e t) w ag with
  | some x=>oh s x
  | none=>none
def uK(e:Env)(s:ay):List fI->Option (List X)
 | []=>some []
 | r::l=>match zO e s r,uK e s l with
  | some x,some m=>some (x::m)
  | _,_=>none
def aC(e:Env)(s:ay)(l:List fI):Option X:=
 match l with
 | [r]=>zO e s r
 | _=>match uK e s l with
  | some m=>some (.bU m)
  | none=>none
def vL(e:Env)(s:ay):List fI->List Nat
 | []=>[]
 | .tmp t::l=>nR (e t)++vL e s l
 | .Tz t::l=>nmm s (e t)++vL e s l
 | .cell t w ag::l=>(match ES s (e t) w ag with
  | some x=>nR x
  | none=>[])++vL e s l
def xw:X->Option X
 | .nil=>some (.sl true [])
 | .agg _=>none
 | .bU _=>none
 | x=>if x.deep then some x else none
def Ov:List X->Option (List X)
 | []=>some []
 | x::l=>match xw x,Ov l with
  | some y,some m=>some (y::m)
  | _,_=>none
def Ay:X->Option X
 | .agg cs=>match Ov cs with
  | some ds=>some (.agg ds)
  | none=>none
 | x=>xw x
def xI(s:ay):X->Option X
 | .ptr o g j=>match (s o).o with
  | some (.box y)=>if g=(s o).g then match Ay y with
   | some z=>some (.ip z j)
   | none=>none
   else none
  | _=>none
 | .ip x j=>if x.deep then some (.ip x j)else none
 | x=>rZ s x
def qJ(s:ay):List X->Option (List X)
 | []=>some []
 | x::l=>match xI s x,qJ s l with
  | some y,some m=>some (y::m)
  | _,_=>none
def wh(s:ay):X->Option X
 | .fn f cs=>match qJ s cs with
  | some ds=>some (.fn f ds)
  | none=>none
 | .ptr o g j=>xI s (.ptr o g j)
 | .ip x j=>xI s (.ip x j)
 | x=>oh s x
def Pg:X->List Nat
 | .ptr o _ _=>[o]
 | x=>r_ x
def lU:X->List Nat
 | .fn _ cs=>cs.flatMap Pg
 | .ptr o _ _=>[o]
 | x=>nR x
def tq(s:ay):List X->Option (List X)
 | []=>some []
 | x::l=>match wh s x,tq s l with
  | some y,some m=>some (y.shr::m)
  | _,_=>none
def iW(run:List It->Env->ay->Option (Env×ay))(T:Nat->Option Fe)(f:Nat)(xs:List X):Option X:=
 match T f with
 | none=>none
 | some (.ext F)=>F xs
 | some (.rQ _)=>none
 | some (.vX ..)=>none
 | some (.code nt res body)=>
  if xs.length<=nt then
   match run [.code body] (bn xs) s0 with
   | some (e,s)=>aC e s res
   | none=>none
  else none
def f_(e:Env)(s:ay):fI->Option X
 | .tmp t=>some (e t)
 | .Tz t=>some (e t)
 | .cell t w ag=>ES s (e t) w ag
def fq(e:Env)(s:ay):List fI->Option (List X)
 | []=>some []
 | r::l=>match f_ e s r,fq e s l with
  | some x,some m=>some (x::m)
  | _,_=>none
def iJ(e:Env)(s:ay)(l:List fI):Option X:=
 match l with
 | [r]=>f_ e s r
 | _=>match fq e s l with
  | some m=>some (.bU m)
  | none=>none
def FU(s:ay):X->Option (X×ay)
 | .ptr o g j=>match (s o).o with
  | some (.box (.agg cs))=>if g=(s o).g/\(s o).wr=true/\¬o∈cs.flatMap r_ then match uM s cs with
   | some ds=>some (.ptr o g j,bK (gB s (cs.flatMap r_)) o (.box (.agg ds)))
   | none=>none
   else none
  | _=>none
 | _=>none
def dD(run:List It->Env->ay->Option (Env×ay))(T:Nat->Option Fe)(f:Nat)(xs:List X)(s:ay):Option (X×ay):=
 match T f with
 | some (.code nt res body)=>
  if xs.length<=nt then
   match run [.code body] (bn xs) s with
   | some (e',s')=>match iJ e' s' res with
    | some x=>some (x,s')
    | none=>none
   | none=>none
  else none
 | some (.vX nt res body)=>
  if xs.length<=nt then
   match run [.code body] (bn xs) s with
   | some (e',s')=>match aC e' s' res with
    | some x=>some (x,gB s' (vL e' s' res))
    | none=>match iJ e' s' res with
     | some x=>FU s' x
     | none=>none
   | none=>none
  else none
 | some (.rQ F)=>F xs s
 | _=>none
def qt(s:ay)(l:List Nat):Bool:=l.all fun o=>(s o).o.isSome&&!(s o).wr
@[simp] theorem qt_nil(s:ay):qt s []=true:=rfl
def gP(run:List It->Env->ay->Option (Env×ay))(T:Nat->Option Fe)(still:Bool)(f:Nat)(l:List X)(s:ay):Option (X×ay):=
 match tq s l with
 | none=>none
 | some xs=>match iW run T f xs with
  | none=>none
  | some r=>if r.eG=true then some (r,s)else if still=true then(if qt s (l.flatMap lU)=true then some (r,s)else none)else some (r,gB s (l.flatMap lU))
def Az(s:ay):X->Option X
 | .ref o g k i n=>Ow s (.ref o g k i n)
 | x=>wh s x
def Pf(s:ay):X->List Nat
 | .ref o g k i n=>nmm s (.ref o g k i n)
 | x=>lU x
def xu(s:ay):List X->Option (List X)
 | []=>some []
 | x::l=>match Az s x,xu s l with
  | some y,some m=>some (y.shr::m)
  | _,_=>none
def qR(run:List It->Env->ay->Option (Env×ay))(T:Nat->Option Fe)(f:Nat)(l:List X)(s:ay):Option (X×ay):=
 match xu s l with
 | none=>none
 | some xs=>match iW run T f xs with
  | none=>none
  | some r=>if r.eG=true then some (r,s)else none
def dpT(s:ay):List X->Option (List X)
 | []=>some []
 | x::l=>match oh s x,dpT s l with
  | some y,some m=>some (y::m)
  | _,_=>none
def zn(s:ay):List Nat->X->Option (X×X)
 | [],x=>some (.nil,x)
 | i::p,.bU cs=>match cs[i]? with
  | some c=>match zn s p c,dpT s (cs.set i .nil)with
   | some (h,y),some ds=>some (.bU (ds.set i h),y)
   | _,_=>none
  | none=>none
 | [i],.agg cs=>match cs[i]?,uM s (cs.set i .nil)with
  | some c,some ds=>some (.agg (ds.set i .nil),c)
  | _,_=>none
 | _,_=>none
def Fg:List Nat->X->List Nat
 | [],_=>[]
 | i::p,.bU cs=>(cs.set i .nil).flatMap nR++(match cs[i]? with
  | some c=>Fg p c
  | none=>[])
 | i::_,.agg cs=>(cs.set i .nil).flatMap r_
 | _,_=>[]
def plug:List Nat->X->X->X
 | [],_,y=>y
 | i::p,.bU cs,y=>.bU (cs.set i (plug p (cs.getD i .nil) y))
 | i::_,.agg cs,y=>.agg (cs.set i y)
 | _,x,_=>x
def ownR(s:ay)(nm:List Nat):Option (X×X)->Option (X×Option (Nat×List X))
 | some (r,.nil)=>some (r,none)
 | some (r,.ref o g k i n)=>match (s o).o with
  | some (.row k' es)=>if g=(s o).g/\(s o).wr=true/\k=k'/\i=0/\n=es.length/\aP es=true/\¬o∈nm then some (r,some (k,es))else none
  | _=>none
 | _=>none
def um(run:List It->Env->ay->Option (Env×ay))(T:Nat->Option Fe)(p:List Nat)(f:Nat)(xs:List X):Option (X×Option (Nat×List X)):=
 match T f with
 | some (.code nt res body)=>
  if xs.length<=nt then
   match run [.code body] (bn xs) s0 with
   | some (e,s)=>match iJ e s res with
    | some r=>ownR s (Fg p r) (zn s p r)
    | none=>none
   | none=>none
  else none
 | _=>none
def ji(st:Bool)(p:List Nat)(q:Nat)(nm:List Nat)(s:ay):Option (X×Option (Nat×List X))->Option (X×ay)
 | some (r,none)=>if st=true/\¬(nm=[])then none else some (plug p r .nil,gB s nm)
 | some (r,some (k,es))=>if(st=true/\¬(nm=[]))\/q∈nm then none else some (plug p r (.ref q ((s q).g+1) k 0 es.length),aO (gB s nm) q (.row k es))
 | none=>none
def pq(run:List It->Env->ay->Option (Env×ay))(T:Nat->Option Fe)(st:Bool)(p:List Nat)(q f:Nat)(l:List X)(s:ay):Option (X×ay):=
 match tq s l with
 | none=>none
 | some xs=>ji st p q (l.flatMap lU) s (um run T p f xs)
def puts(e:Env):List Nat->List X->Env
 | p::ps,x::l=>puts (upd e p x) ps l
 | _,_=>e
def LF(s:ay)(q g:Nat):Option ay:=match (s q).o with
 | some (.lp e ps a b .ready)=>if(s q).g=g/\(s q).wr=true then some (bK s q (.lp e ps a b .busy))else none
 | _=>none
def Mc(s:ay)(q g:Nat):Option ay:=match (s q).o with
 | some (.lp e ps a b .busy)=>if(s q).g=g/\(s q).wr=true then some (bK s q (.lp e ps a b .ready))else none
 | _=>none
def xA(s:ay)(q:Nat)(j:Option Nat):Option ay:=match (s q).o with
 | some (.lp e ps a b .busy)=>if(s q).wr=true then some (bK s q (.lp e ps a b (.done j)))else none
 | _=>none
def Di(g q:Nat):Option (Env×ay)->Option (X×ay)
 | some (_,s)=>match (s q).o with
  | some (.lp _ _ _ _ .ready)=>if(s q).g=g/\(s q).wr=true then some (.v (.bool true),s)else none
  | some (.lp _ _ _ _ (.done _))=>if(s q).g=g/\(s q).wr=true then some (.v (.bool false),s)else none
  | _=>none
 | none=>none
def iR(run:List It->Env->ay->Option (Env×ay))(q g:Nat)(l:List X)(s:ay):Option (X×ay):=match (s q).o with
 | some (.lp e ps a b .ready)=>if g=(s q).g/\(s q).wr=true/\l.length=ps.length then Di g q (run [.code a,.NZ q g,.code b,.Oz q g] (puts e ps l) s)else none
 | _=>none
def vB(s:ay)(q:Nat):ay:=upd s q ⟨(s q).g,(s q).wr,none,(s q).n+1⟩
def lpE(g q:Nat):Option (X×ay)->Option (Option (Option Nat)×ay)
 | some (_,s)=>match (s q).o with
  | some (.lp _ _ _ _ .ready)=>if(s q).g=g/\(s q).wr=true then some (none,vB s q)else none
  | some (.lp _ _ _ _ (.done j))=>if(s q).g=g/\(s q).wr=true then some (some j,vB s q)else none
  | _=>none
 | none=>none
def nX(run:List It->Env->ay->Option (Env×ay))(T:Nat->Option Fe)(q:Nat)(x:X)(ps:List Nat)(a b:IC)(e:Env)(s:ay):Option (Option (Option Nat)×ay):=match x with
 | .fn f cs=>lpE ((s q).g+1) q (dD run T f (.Dx q ((s q).g+1)::cs) (aO s q (.lp e ps a b .ready)))
 | _=>none
def bW(run:List It->Env->ay->Option (Env×ay))(T:Nat->Option Fe)(op:gm)(e:Env)(s:ay):Option (X×ay):=
 match op with
 | .call st f l=>gP run T st f (l.map (Ar.ev e)) s
 | .fG st f l=>match f.ev e with
  | .fn g cs=>gP run T st g (l.map (Ar.ev e)++cs) s
  | _=>none
 | .bB f l=>dD run T f (l.map (Ar.ev e)) s
 | .j6 f l=>qR run T f (l.map (Ar.ev e)) s
 | .bL st p q f l=>pq run T st p q f (l.map (Ar.ev e)) s
 | .fK f l=>match f.ev e with
  | .fn g cs=>if aP cs=true then gP run T false g (l.map (Ar.ev e)++cs) s else dD run T g (l.map (Ar.ev e)++cs) s
  | .fm g cs=>dD run T g (cs++l.map (Ar.ev e)) s
  | .Dx q g=>iR run q g (l.map (Ar.ev e)) s
  | _=>none
 | op=>aA op e s
def sU(ch:List Nat)(js:List d9)(s0:ay)(e:Env)(s:ay):Bool:=
 (ch.all fun t=>(kz (e t)).all fun o=>(s o).n==(s0 o).n)&&
 js.all fun g=>match g.d,aA g.op e s0,aA g.op e s with
  | some d,some (x,_),some (y,_)=>p8 x (e d)&&p8 y (e d)
  | _,_,_=>false
def runN(T:Nat->Option Fe):Nat->List It->Env->ay->Option (Env×ay)
 | 0,_,_,_=>none
 | n+1,its,e,s=>
  match its with
  | []=>some (e,s)
  | .code .skip::k=>runN T n k e s
  | .code .ret::_=>some (e,s)
  | .code (.ops l)::k=>runN T n (.ops l::k) e s
  | .code (.aL ch js l m)::k=>runN T n (.ops l::.Sw ch (js.filterMap fun j=>l[j]?) s::.ops m::k) e s
  | .Sw ch js s0::k=>if sU ch js s0 e s=true then runN T n k e s else none
  | .code (.seq a b)::k=>runN T n (.code a::.code b::k) e s
  | .code (.cond c a b)::k=>
   match c.ev e with
   | .v (.bool t)=>cond t (runN T n (.code a::k) e s) (runN T n (.code b::k) e s)
   | _=>none
  | .code (.scope c)::k=>runN T n (.code c::k) e s
  | .code (.block id c)::k=>runN T n (.code c::.bl id::k) e s
  | .code (.loop c)::k=>runN T n (.code c::.lp c::k) e s
  | .code (.exit id)::k=>
   match bD id k with
   | some k'=>runN T n k' e s
   | none=>none
  | .code (.Rl q)::_=>match xA s q none with
   | some s'=>some (e,s')
   | none=>none
  | .code (.FO q id)::k=>match bD id k,xA s q (some id)with
   | none,some s'=>some (e,s')
   | _,_=>none
  | .NZ q g::k=>match LF s q g with
   | some s'=>runN T n k e s'
   | none=>none
  | .Oz q g::_=>match Mc s q g with
   | some s'=>some (e,s')
   | none=>none
  | .code (.Rj q g ps a b)::k=>match nX (runN T n) T q (g.ev e) ps a b e s with
   | some (none,s')=>runN T n k e s'
   | some (some none,s')=>some (e,s')
   | some (some (some id),s')=>(match bD id k with
    | some k'=>runN T n k' e s'
    | none=>none)
   | none=>none
  | .ops []::k=>runN T n k e s
  | .ops (o::l)::k=>
   match gd o e with
   | some true=>match bW (runN T n) T o.op e s with
    | some (x,s')=>runN T n (.ops l::k) (put e o.d x) s'
    | none=>none
   | some false=>runN T n (.ops l::k) (put e o.d (.bU [])) s
   | none=>none
  | .lp c::k=>runN T n (.code c::.lp c::k) e s
  | .bl _::k=>runN T n k e s
def Mon(r r':List It->Env->ay->Option (Env×ay)):Prop:=∀its e s x,r its e s=some x->r' its e s=some x
theorem rH{r r':List It->Env->ay->Option (Env×ay)}(h:Mon r r'){T:Nat->Option Fe}{f:Nat}{xs:List X}{x:X}(hc:iW r T f xs=some x):iW r' T f xs=some x:=by
 unfold iW at *
 split at hc<;>first|(simp at hc;done)|exact hc|skip
 split at hc<;>first|(simp at hc;done)|skip
 rename_i hn;simp only[hn,if_true];split at hc<;>first|(simp at hc;done)|skip
 rename_i hr;rw[h _ _ _ _ hr];exact hc
theorem nE{r r':List It->Env->ay->Option (Env×ay)}(h:Mon r r'){T:Nat->Option Fe}{st:Bool}{f:Nat}{l:List X}{s:ay}{x:X×ay}(hc:gP r T st f l s=some x):gP r' T st f l s=some x:=by
 unfold gP at *
 split at hc<;>first|(simp at hc;done)|skip
 split at hc<;>first|(simp at hc;done)|skip
 rename_i hr;rw[rH h hr];exact hc
theorem kZ{r r':List It->Env->ay->Option (Env×ay)}(h:Mon r r'){T:Nat->Option Fe}{f:Nat}{xs:List X}{s:ay}{x:X×ay}(hc:dD r T f xs s=some x):dD r' T f xs s=some x:=by
 unfold dD at *
 split at hc
 ·split at hc<;>first|(simp at hc;done)|skip
  rename_i hn;simp only[hn,if_true];split at hc<;>first|(simp at hc;done)|skip
  rename_i hr;rw[h _ _ _ _ hr];exact hc
 ·split at hc<;>first|(simp at hc;done)|skip
  rename_i hn;simp only[hn,if_true];split at hc<;>first|(simp at hc;done)|skip
  rename_i hr;rw[h _ _ _ _ hr];exact hc
 ·exact hc
 ·simp at hc
theorem Gv{r r':List It->Env->ay->Option (Env×ay)}(h:Mon r r'){T:Nat->Option Fe}{f:Nat}{l:List X}{s:ay}{x:X×ay}(hc:qR r T f l s=some x):qR r' T f l s=some x:=by
 unfold qR at *
 split at hc<;>first|(simp at hc;done)|skip
 split at hc<;>first|(simp at hc;done)|skip
 rename_i hr;rw[rH h hr];exact hc
theorem BA{r r':List It->Env->ay->Option (Env×ay)}(h:Mon r r'){T:Nat->Option Fe}{p:List Nat}{f:Nat}{xs:List X}{x:X×Option (Nat×List X)}(hc:um r T p f xs=some x):um r' T p f xs=some x:=by
 unfold um at *
 split at hc<;>first|(simp at hc;done)|skip
 split at hc<;>first|(simp at hc;done)|skip
 rename_i hn;simp only[hn,if_true];split at hc<;>first|(simp at hc;done)|skip
 rename_i hr;rw[h _ _ _ _ hr];exact hc
theorem Gy{r r':List It->Env->ay->Option (Env×ay)}(h:Mon r r'){T:Nat->Option Fe}{st:Bool}{p:List Nat}{q f:Nat}{l:List X}{s:ay}{x:X×ay}(hc:pq r T st p q f l s=some x):pq r' T st p q f l s=some x:=by
 unfold pq at *
 split at hc<;>first|(simp at hc;done)|skip
 rename_i xs hxs;cases ho:um r T p f xs with
 | none=>rw[ho]at hc;simp[ji]at hc
 | some y=>rw[ho]at hc;rw[BA h ho];exact hc
theorem wU{r r':List It->Env->ay->Option (Env×ay)}(h:Mon r r'){q g:Nat}{l:List X}{s:ay}{x:X×ay}(hc:iR r q g l s=some x):iR r' q g l s=some x:=by
 unfold iR at *
 split at hc<;>first|(simp at hc;done)|skip
 split at hc<;>first|(simp at hc;done)|skip
 rename_i e ps a b ho hn;rw[if_pos hn];cases hr:r [.code a,.NZ q g,.code b,.Oz q g] (puts e ps l) s with
 | none=>rw[hr]at hc;simp[Di]at hc
 | some y=>rw[hr]at hc;rw[h _ _ _ _ hr];exact hc
theorem vM{r r':List It->Env->ay->Option (Env×ay)}(h:Mon r r'){T:Nat->Option Fe}{q:Nat}{x:X}{ps:List Nat}{a b:IC}{e:Env}{s:ay}{y:Option (Option Nat)×ay}(hc:nX r T q x ps a b e s=some y):nX r' T q x ps a b e s=some y:=by
 unfold nX at *
 split at hc<;>first|(simp at hc;done)|skip
 rename_i f cs;cases hr:dD r T f (.Dx q ((s q).g+1)::cs) (aO s q (.lp e ps a b .ready))with
 | none=>rw[hr]at hc;simp[lpE]at hc
 | some z=>rw[hr]at hc;rw[kZ h hr];exact hc
theorem ul{r r':List It->Env->ay->Option (Env×ay)}(h:Mon r r'){T:Nat->Option Fe}{op:gm}{e:Env}{s:ay}{x:X×ay}(hc:bW r T op e s=some x):bW r' T op e s=some x:=by
 unfold bW at *
 split at hc
 ·exact nE h hc
 ·split at hc<;>first|(simp at hc;done)|exact nE h hc
 ·exact kZ h hc
 ·exact Gv h hc
 ·exact Gy h hc
 ·split at hc
  ·split at hc
   ·rename_i hd;rw[if_pos hd];exact nE h hc
   ·rename_i hd;rw[if_neg hd];exact kZ h hc
  ·exact kZ h hc
  ·exact wU h hc
  ·simp at hc
 ·exact hc
theorem II(T:Nat->Option Fe){n m:Nat}(ih:Mon (runN T n) (runN T m)):Mon (runN T (n+1)) (runN T (m+1)):=by
 intro its e s x h;rcases its with _|⟨it,k⟩
 ·simpa only[runN]using h
 cases it with
 | code c=>
  cases c with
  | cond c a b=>
   simp only[runN]at h ⊢;split at h
   ·rename_i t hc;cases t
    ·exact ih _ _ _ _ h
    ·exact ih _ _ _ _ h
   ·simp at h
  | exit id=>
   simp only[runN]at h ⊢;split at h
   ·exact ih _ _ _ _ h
   ·simp at h
  | ret=>simpa only[runN]using h
  | Rl q=>simpa only[runN]using h
  | FO q id=>simpa only[runN]using h
  | Rj q g ps a b=>
   simp only[runN]at h ⊢;cases hr:nX (runN T n) T q (g.ev e) ps a b e s with
   | none=>rw[hr]at h;simp at h
   | some y=>
    obtain⟨j,s'⟩:=y;rw[hr]at h
    rw[vM ih hr];rcases j with _|_|id
    ·exact ih _ _ _ _ h
    ·exact h
    ·simp only at h ⊢;split at h
     ·exact ih _ _ _ _ h
     ·simp at h
  | _=>simp only[runN]at h ⊢;exact ih _ _ _ _ h
 | ops l=>
  rcases l with _|⟨o,l⟩
  ·simp only[runN]at h ⊢;exact ih _ _ _ _ h
  ·simp only[runN]at h ⊢;split at h
   ·split at h
    ·rename_i hr;simp only[ul ih hr];exact ih _ _ _ _ h
    ·simp at h
   ·exact ih _ _ _ _ h
   ·simp at h
 | lp c=>simp only[runN]at h ⊢;exact ih _ _ _ _ h
 | bl id=>simp only[runN]at h ⊢;exact ih _ _ _ _ h
 | Sw ch js s0=>
  simp only[runN]at h ⊢;split at h
  ·rename_i hc;rw[if_pos hc];exact ih _ _ _ _ h
  ·simp at h
 | NZ q g=>
  simp only[runN]at h ⊢;split at h
  ·exact ih _ _ _ _ h
  ·simp at h
 | Oz q g=>simpa only[runN]using h
theorem vN(T:Nat->Option Fe):∀n,Mon (runN T n) (runN T (n+1)):=by
 intro n;induction n with
 | zero=>intro its e s x h;simp[runN]at h
 | succ n ih=>exact II T ih
theorem iL(T:Nat->Option Fe){n m:Nat}(h:n<=m):Mon (runN T n) (runN T m):=by
 induction h with
 | refl=>intro _ _ _ _ h;exact h
 | step _ ih=>intro its e s x hx;exact vN T _ _ _ _ _ (ih _ _ _ _ hx)
open Classical in
noncomputable def run(T:Nat->Option Fe)(its:List It)(e:Env)(s:ay):Option (Env×ay):=
 if h:∃x,∃n,runN T n its e s=some x then some h.choose else none
theorem lI{T:Nat->Option Fe}{n:Nat}{its:List It}{e:Env}{s:ay}{x:Env×ay}(h:runN T n its e s=some x):run T its e s=some x:=by
 unfold run;have hx:∃x,∃n,runN T n its e s=some x:=⟨x,n,h⟩
 rw[dif_pos hx];obtain⟨m,hm⟩:=hx.choose_spec;have h1:=iL T (Nat.le_max_left n m) _ _ _ _ h;have h2:=iL T (Nat.le_max_right n m) _ _ _ _ hm;rw[h1]at h2
 exact h2.symm
theorem iK{T:Nat->Option Fe}{its:List It}{e:Env}{s:ay}{x:Env×ay}(h:run T its e s=some x):∃n,runN T n its e s=some x:=by
 unfold run at h;split at h
 ·rename_i hx;obtain⟨m,hm⟩:=hx.choose_spec;injection h with h;exact⟨m,h▸hm⟩
 ·simp at h
theorem xV{T:Nat->Option Fe}{its its':List It}{e e':Env}{s s':ay}(h:∀x,(∃n,runN T n its e s=some x)↔(∃n,runN T n its' e' s'=some x)):run T its e s=run T its' e' s':=by
 cases hr:run T its e s with
 | some x=>obtain⟨n,hn⟩:=(h x).1 (iK hr);exact(lI hn).symm
 | none=>
  cases hr':run T its' e' s' with
  | none=>rfl
  | some x=>obtain⟨n,hn⟩:=(h x).2 (iK hr');rw[lI hn]at hr;simp at hr
theorem dQ{T:Nat->Option Fe}{its its':List It}{e e':Env}{s s':ay}(h:∀n,runN T (n+1) its e s=runN T n its' e' s'):run T its e s=run T its' e' s':=
 xV fun x=>⟨fun⟨n,hn⟩=>by
  cases n with
  | zero=>simp[runN]at hn
  | succ n=>exact⟨n,(h n)▸hn⟩,fun⟨n,hn⟩=>⟨n+1,(h n).trans hn⟩⟩
section
variable {T:Nat->Option Fe} {k:List It} {e:Env} {s:ay}
theorem zR{its:List It}{x:Env×ay}(h:∀n,runN T (n+1) its e s=some x):run T its e s=some x:=lI (h 0)
theorem YR:run T [] e s=some (e,s):=zR fun n=>by rw[runN]
theorem YU:run T (.code .ret::k) e s=some (e,s):=zR fun n=>by rw[runN]
theorem Rv:run T (.code .skip::k) e s=run T k e s:=dQ fun n=>by rw[runN]
theorem YT(l:List d9):run T (.code (.ops l)::k) e s=run T (.ops l::k) e s:=dQ fun n=>by rw[runN]
theorem Ro(ch js:List Nat)(l m:List d9):run T (.code (.aL ch js l m)::k) e s=run T (.ops l::.Sw ch (js.filterMap fun j=>l[j]?) s::.ops m::k) e s:=dQ fun n=>by rw[runN]
theorem YQ{ch:List Nat}{js:List d9}{s0:ay}(h:sU ch js s0 e s=true):run T (.Sw ch js s0::k) e s=run T k e s:=dQ fun n=>by rw[runN,if_pos h]
theorem run_seq(a b:IC):run T (.code (.seq a b)::k) e s=run T (.code a::.code b::k) e s:=dQ fun n=>by rw[runN]
theorem Nk(c:IC):run T (.code (.scope c)::k) e s=run T (.code c::k) e s:=dQ fun n=>by rw[runN]
theorem Nj(id:Nat)(c:IC):run T (.code (.block id c)::k) e s=run T (.code c::.bl id::k) e s:=dQ fun n=>by rw[runN]
theorem Rt(c:IC):run T (.code (.loop c)::k) e s=run T (.lp c::k) e s:=by rw[dQ (its':=.code c::.lp c::k) (e':=e) (s':=s) fun n=>by rw[runN],dQ (its:=.lp c::k) (its':=.code c::.lp c::k) (e':=e) (s':=s) fun n=>by rw[runN]]
theorem run_lp(c:IC):run T (.lp c::k) e s=run T (.code c::.lp c::k) e s:=dQ fun n=>by rw[runN]
theorem run_bl(id:Nat):run T (.bl id::k) e s=run T k e s:=dQ fun n=>by rw[runN]
theorem Rs{id:Nat}{k':List It}(h:bD id k=some k'):run T (.code (.exit id)::k) e s=run T k' e s:=dQ fun n=>by rw[runN,h]
theorem FQ:run T (.ops []::k) e s=run T k e s:=dQ fun n=>by rw[runN]
theorem Rn{c:Ar}{a b:IC}{t:Bool}(h:c.ev e=.v (.bool t)):run T (.code (.cond c a b)::k) e s=cond t (run T (.code a::k) e s) (run T (.code b::k) e s):=by
 cases t
 ·exact dQ fun n=>by rw[runN];simp only[h,cond]
 ·exact dQ fun n=>by rw[runN];simp only[h,cond]
theorem YS{o:d9}{l:List d9}(h:gd o e=some false):run T (.ops (o::l)::k) e s=run T (.ops l::k) (put e o.d (.bU [])) s:=dQ fun n=>by rw[runN];simp only[h]
noncomputable def call(T:Nat->Option Fe)(f:Nat)(xs:List X):Option X:=iW (run T) T f xs
theorem mM{f:Nat}{xs:List X}{x:X}:call T f xs=some x↔∃n,iW (runN T n) T f xs=some x:=by
 constructor
 ·intro h;unfold call iW at h;split at h
  ·simp at h
  ·rename_i F hF;exact⟨0,by simp only[iW,hF];exact h⟩
  ·simp at h
  ·simp at h
  ·rename_i nt res body hF;split at h
   ·rename_i hn;split at h
    ·rename_i hr;obtain⟨n,hn'⟩:=iK hr;exact⟨n,by simp only[iW,hF,hn,hn',if_true];exact h⟩
    ·simp at h
   ·simp at h
 ·rintro⟨n,h⟩;exact rH (fun its e s x hx=>lI hx) h
theorem mO{f:Nat}{xs:List X}{s:ay}{x:X×ay}:dD (run T) T f xs s=some x↔∃n,dD (runN T n) T f xs s=some x:=by
 constructor
 ·intro h;unfold dD at h;split at h
  ·rename_i nt res body hF;split at h
   ·rename_i hn;split at h
    ·rename_i hr;obtain⟨n,hn'⟩:=iK hr;exact⟨n,by simp only[dD,hF,hn,hn',if_true];exact h⟩
    ·simp at h
   ·simp at h
  ·rename_i nt res body hF;split at h
   ·rename_i hn;split at h
    ·rename_i hr;obtain⟨n,hn'⟩:=iK hr;exact⟨n,by simp only[dD,hF,hn,hn',if_true];exact h⟩
    ·simp at h
   ·simp at h
  ·rename_i F hF;exact⟨0,by simp only[dD,hF];exact h⟩
  ·simp at h
 ·rintro⟨n,h⟩;exact kZ (fun its e s x hx=>lI hx) h
theorem A9{f nt:Nat}{res:List fI}{body:IC}{xs:List X}{e':Env}{s':ay}{x:X}(hT:T f=some (.code nt res body))(hn:xs.length<=nt)
 (hr:run T [.code body] (bn xs) s0=some (e',s')) (hx:aC e' s' res=some x):call T f xs=some x:=by
 simp only[call,iW,hT,hn,if_true,hr,hx]
end
def okK:Value->X->Bool
 | .int k n,.v (.int k' n')=>k==k'&&n==n'
 | .bool b,.v (.bool b')=>b==b'
 | .string s,.v (.string s')=>s.data.toList==s'.data.toList
 | .nilIface,.v .nilIface=>true
 | .nilFunc,.v .nilFunc=>true
 | .pointer none,.v (.pointer none)=>true
 | .map none,.v (.map none)=>true
 | .slice none 0 0,.nil=>true
 | .slice none 0 0,.sl _ []=>true
 | _,_=>false
def MH:List Value->List X->Bool
 | [],[]=>true
 | v::l,x::m=>okK v x&&MH l m
 | _,_=>false
def TG:Value->X->Bool
 | .agg vs,.agg cs=>MH vs.toList cs
 | v,x=>okK v x
def dA:Operand->Ar->Bool
 | .tmp t,.t n=>t==n
 | .const v,.k x=>okK v x
 | .func f,.k (.fn g [])=>f==g
 | _,_=>false
def iy:List Operand->List Ar->Bool
 | [],[]=>true
 | x::l,a::m=>dA x a&&iy l m
 | _,_=>false
def uh:Option Operand->Option Ar->Bool
 | none,none=>true
 | some x,some a=>dA x a
 | _,_=>false
def lJ(P:Program)(t:TypeId)(w:Nat):Bool:=match P.info? t with
 | some i=>i.size==w
 | none=>false
def jw(P:Program)(t:TypeId)(ag:Bool):Bool:=match P.underlying t with
 | some (.struct _)|some (.array _ _)=>ag
 | some _=>!ag
 | none=>false
def ni(P:Program)(t:TypeId)(z:X):Bool:=match P.info? t with
 | some i=>match i.zero with
  | some v=>TG v z
  | none=>false
 | none=>false
def byB(P:Program)(t:TypeId)(lim:Nat):Bool:=match P.info? t with
 | some i=>decide (0<i.bytes)&&decide (lim*i.bytes<=140737488355328)
 | none=>false
def MC(P:Program)(fs:Array Field):List (Nat×Operand)->List (Nat×Nat×Ar)->Bool
 | [],[]=>true
 | (i,x)::l,(j,w,a)::m=>(match fs[i]? with
  | some f=>f.offset==j&&lJ P f.type w
  | none=>false)&&dA x a&&MC P fs l m
 | _,_=>false
def MF(k:Nat):List (Nat×Operand)->List (Nat×Nat×Ar)->Bool
 | [],[]=>true
 | (i,x)::l,(j,w,a)::m=>(i*k==j&&w==k)&&dA x a&&MF k l m
 | _,_=>false
def xC:List (Nat×Operand)->List (Nat×Ar)->Bool
 | [],[]=>true
 | (i,x)::l,(j,a)::m=>i==j&&dA x a&&xC l m
 | _,_=>false
def K7(P:Program)(t:TypeId):Bool:=match P.underlying t with
 | some (.int _)|some .string=>true
 | _=>false
def boolT(P:Program)(t:TypeId):Bool:=match P.underlying t with
 | some .bool=>true
 | _=>false
def bO(P:Program):Op->gm->Bool
 | .move x,.bF a=>dA x a
 | .assign x,.bF a=>dA x a
 | .pick c x y,.pick c' a b=>dA c c'&&dA x a&&dA y b
 | .alloc t,.box _ (.k z)=>ni P t z
 | .box _ x,.box _ a=>dA x a
 | .box _ x,.xZ a=>dA x a
 | .alloc t,.xZ (.k z)=>ni P t z
 | .build t ps,.build z qs=>ni P t (.agg z)&&(match P.underlying t with
  | some (.struct fs)=>(fs.toList.all fun f=>(P.info? f.type).isSome)&&MC P fs ps.toList qs
  | some (.array _ e)=>match P.info? e with
   | some i=>MF i.size ps.toList qs
   | none=>false
  | _=>false)
 | .buildSlice t n ps,.kG _ k m z qs=>(match P.underlying t with
  | some (.slice e)=>lJ P e k&&ni P e z&&decide (0<k)&&decide (z.cells.length=k)
  | _=>false)&&n==m&&decide (n*k<=16777216)&&xC ps.toList qs&&z.deep&&z.cells.all X.one
 | .buildSlice t n ps,.ZH _ k z _ _ a=>(match P.underlying t with
  | some (.slice e)=>lJ P e k&&ni P e z&&decide (0<k)&&decide (z.cells.length=k)
  | _=>false)&&n==1&&decide (n*k<=16777216)&&xC ps.toList [(0,a)]&&z.deep&&z.cells.all X.one
 | .buildSlice t n ps,.jA k m z qs=>(match P.underlying t with
  | some (.slice e)=>lJ P e k&&ni P e z&&decide (0<k)&&decide (z.cells.length=k)
  | _=>false)&&n==m&&decide (n*k<=16777216)&&xC ps.toList qs&&z.deep&&z.cells.all X.one
 | .load t x,.ld a w ag=>lJ P t w&&jw P t ag&&dA x a
 | .store t x y,.st a b w=>lJ P t w&&dA x a&&dA y b
 | .nilCheck x,.Sg a=>dA x a
 | .binOp op t x y _,.bin op' a b=>op==op'&&dA x a&&dA y b&&K7 P t
 | .binOp .eql t x y _,.ZX false a b=>dA x a&&dA y b&&boolT P t
 | .binOp .neq t x y _,.ZX true a b=>dA x a&&dA y b&&boolT P t
 | .unOp op _ x,.un op' a=>op==op'&&dA x a
 | .convert src dst x,.conv k a=>(P.underlying src).isSome&&(match P.underlying dst with
  | some (.int k')=>k==k'
  | _=>false)&&dA x a
 | .convert src dst x,.cvs a=>(match P.underlying src,P.underlying dst with
  | some .string,some .string=>true
  | _,_=>false)&&dA x a
 | .fieldAddr t x f,.fa a j=>(match P.underlying t with
  | some (.struct fs)=>match fs[f]? with
   | some f=>f.offset==j&&(match P.info? f.type with
    | some i=>decide (i.size≠0)
    | none=>false)
   | none=>false
  | _=>false)&&dA x a
 | .field t x f,.JF a j w ag=>(match P.underlying t with
  | some (.struct fs)=>match fs[f]? with
   | some f=>f.offset==j&&lJ P f.type w&&jw P f.type ag
   | none=>false
  | _=>false)&&dA x a
 | .indexAddr t x i,.dK a b w=>(match P.underlying t with
  | some (.slice e)=>lJ P e w
  | _=>false)&&dA x a&&dA i b
 | .indexAddr t x i,.Bo a b w n=>(match P.underlying t with
  | some (.array m e)=>lJ P e w&&m==n
  | _=>false)&&dA x a&&dA i b
 | .index t x i,.F_ a b=>(match P.underlying t with
  | some .string=>true
  | _=>false)&&dA x a&&dA i b
 | .index t x i,.ixv a b w n ag=>(match P.underlying t with
  | some (.array m e)=>lJ P e w&&jw P e ag&&m==n
  | _=>false)&&dA x a&&dA i b
 | .slice t x lo hi none,.sls a lo' hi'=>(match P.underlying t with
  | some .string=>true
  | _=>false)&&dA x a&&uh lo lo'&&uh hi hi'
 | .slice t x lo hi none,.RB w a lo' hi'=>(match P.underlying t with
  | some (.slice e)=>lJ P e w
  | _=>false)&&dA x a&&uh lo lo'&&uh hi hi'
 | .makeSlice t n c,.Mw _ k z a b lim=>(match P.underlying t with
  | some (.slice e)=>lJ P e k&&ni P e z&&byB P e lim&&decide (0<k)&&decide (z.cells.length=k)
  | _=>false)&&dA n a&&dA c b
 | .extract x i,.ext a j=>dA x a&&i==j
 | .makeFunc (.func f) fst cap,.GY g l=>f==g&&fst.isEmpty&&iy cap.toList l
 | .makeFunc (.func f) fst cap,.EX g l=>f==g&&cap.isEmpty&&iy fst.toList l
 | .call c,.len a=>(match c.callee with
  | .builtin .len=>true
  | _=>false)&&(match c.argTypes[0]? with
  | some t=>match P.underlying t with
   | some (.slice _)=>true
   | _=>false
  | none=>false)&&iy c.args.toList [a]
 | .call c,.lens a=>(match c.callee with
  | .builtin .len=>true
  | _=>false)&&(match c.argTypes[0]? with
  | some t=>match P.underlying t with
   | some .string=>true
   | _=>false
  | none=>false)&&iy c.args.toList [a]
 | .call c,.app _ k lim a b=>(match c.callee with
  | .builtin .append=>true
  | _=>false)&&(match c.argTypes.toList with
  | [t,u]=>t==u&&(match P.underlying t with
   | some (.slice e)=>lJ P e k&&byB P e lim&&decide (0<k)&&(match P.info? e with
    | some i=>i.zero.any fun z=>z.cells.size==k
    | none=>false)
   | _=>false)
  | _=>false)&&iy c.args.toList [a,b]
 | .call c,.NK _ k lim a b=>(match c.callee with
  | .builtin .append=>true
  | _=>false)&&(match c.argTypes.toList with
  | [t,u]=>t==u&&(match P.underlying t with
   | some (.slice e)=>lJ P e k&&byB P e lim&&decide (0<k)&&(match P.info? e with
    | some i=>i.zero.any fun z=>z.cells.size==k
    | none=>false)
   | _=>false)
  | _=>false)&&iy c.args.toList [a,b]
 | .call c,.a_ mx a l=>(match c.callee,mx with
  | .builtin .max,true=>true
  | .builtin .min,false=>true
  | _,_=>false)&&iy c.args.toList (a::l)
 | _,_=>false
def kC(P:Program)(f:Nat):Bool:=match P.funcs[f]? with
 | some fn=>fn.body.isSome&&fn.name != "runtime.NumGoroutine"
 | none=>false
def fE(P:Program):Op->gm->Bool
 | .call c,.call _ f l=>match c.callee with
  | .value (.func g)=>f==g&&iy c.args.toList l&&kC P f
  | _=>false
 | .call c,.bB f l=>match c.callee with
  | .value (.func g)=>f==g&&iy c.args.toList l&&kC P f
  | _=>false
 | .call c,.j6 f l=>match c.callee with
  | .value (.func g)=>f==g&&iy c.args.toList l&&kC P f
  | _=>false
 | .call c,.fG _ f l=>match c.callee with
  | .value x=>dA x f&&iy c.args.toList l
  | _=>false
 | .call c,.bL _ _ _ f l=>match c.callee with
  | .value (.func g)=>f==g&&iy c.args.toList l&&kC P f
  | _=>false
 | .call c,.fK f l=>match c.callee with
  | .value x=>dA x f&&iy c.args.toList l
  | _=>false
 | _,_=>false
theorem CR{v:Value}{x:X}(h:okK v x=true)(C:Cx):aW C x v:=by
 unfold okK at h;split at h
 case h_1=>simp only[bE,beq_iff_eq]at h;obtain⟨rfl,rfl⟩:=h;exact .v rfl
 case h_2=>simp only[beq_iff_eq]at h;subst h;exact .v rfl
 case h_3 s s'=>
  simp only[beq_iff_eq]at h;have:s=s':=by cases s;cases s';simp only[ByteArray.mk.injEq];exact Array.toList_inj.1 h
  subst this;exact .v rfl
 case h_8=>exact .nil
 case h_9=>exact .sl0
 case h_10=>simp at h
 all_goals exact .v rfl
theorem TF{v:Value}{x:X}(h:okK v x=true):x.one=true/\x.cells=[x]/\v.cells=#[v]/\v.oneCell'=true:=by unfold okK at h;split at h<;>first|exact⟨rfl,rfl,rfl,rfl⟩|simp at h
theorem Pj:∀ {l:List Value} {m:List X},MH l m=true->∀C,m.length=l.length/\(∀c∈m,c.one=true)/\∀(j:Nat) c v,m[j]?=some c->l[j]?=some v->aW C c v:=by
 intro l;induction l with
 | nil=>intro m h C;cases m with
  | nil=>exact⟨rfl,by simp,by simp⟩
  | cons=>simp[MH]at h
 | cons v l ih=>intro m h C;cases m with
  | nil=>simp[MH]at h
  | cons x m=>
   simp only[MH,bE]at h;obtain⟨h1,h2,h3⟩:=ih h.2 C;refine⟨by simp[h1],?_,?_⟩
   ·intro c hc;cases hc with
    | head=>exact(TF h.1).1
    | tail _ hc=>exact h2 c hc
   ·intro j c u hc hu;cases j with
    | zero=>simp at hc hu;subst hc;subst hu;exact CR h.1 C
    | succ j=>exact h3 j c u (by simpa using hc) (by simpa using hu)
theorem nS{v:Value}{x:X}(h:TG v x=true)(C:Cx):aW C x v:=by
 unfold TG at h;split at h
 ·obtain⟨h1,h2,h3⟩:=Pj h C;exact .agg (by simpa using h1) h2 (by simpa using h3)
 ·exact CR h C
def sD(C:Cx)(e:Env)(a:Act):Prop:=∀n,aW C (e n) (a.tmps.getD n undef)
theorem aD{C:Cx}{e:Env}{a:Act}(hE:sD C e a){x:Operand}{r:Ar}(h:dA x r=true):aW C (r.ev e) (a.eval x):=by
 unfold dA at h;split at h
 ·simp only[beq_iff_eq]at h;subst h;exact hE _
 ·exact CR h C
 ·simp only[beq_iff_eq]at h;subst h;exact .fn rfl (by simp)
 ·simp at h
variable {P:Program}
theorem bR{t:TypeId}{k:Nat}(h:lJ P t k=true)(w:World):(sizeOf t).run P w=.ok k w:=by
 unfold lJ at h;split at h
 ·rename_i i hi;simp only[beq_iff_eq]at h;simp[sizeOf,typeInfo,hi,h]
 ·simp at h
theorem dV{t:TypeId}{b:Bool}(h:jw P t b=true)(w:World):(isAgg t).run P w=.ok b w:=by
 unfold jw at h;split at h
 ·rename_i hu;simp[isAgg,run_underlying hu,h]
 ·rename_i hu;simp[isAgg,run_underlying hu,h]
 ·rename_i d h1 h2 hu;have hb:b=false:=by simpa using h
  subst hb;simp only[isAgg,Sem.run_bind,run_underlying hu,Result.andThen_ok];cases d<;>first|rfl|(exfalso;exact h1 _ rfl)|(exfalso;exact h2 _ _ rfl)
 ·simp at h
theorem Ac{t:TypeId}{z:X}(h:ni P t z=true):∃i v,P.info? t=some i/\i.zero=some v/\TG v z=true:=by
 unfold ni at h;split at h
 ·rename_i i hi;split at h
  ·rename_i v hv;exact⟨i,v,hi,hv,h⟩
  ·simp at h
 ·simp at h
theorem kU{t:TypeId}{z:X}(h:ni P t z=true)(w:World):∃v,(zeroValue t).run P w=.ok v w/\TG v z=true:=by obtain⟨i,v,hi,hv,hz⟩:=Ac h;exact⟨v,by simp[zeroValue,typeInfo,hi,hv],hz⟩
theorem MJ{v:Value}(h:v.oneCell'=true):v.cells=#[v]:=by cases v<;>first|rfl|(simp[Value.oneCell']at h;done)
theorem Iy{C:Cx}{x:X}{v:Value}(h:aW C x v)(hc:x.cells=[x])(ho:x.one=true) :
 v.cells.size=x.cells.length/\(∀(j:Nat) c u,x.cells[j]?=some c->v.cells[j]?=some u->aW C c u)/\∀u∈v.cells,u.oneCell'=true:=by
 have h1:=h.one ho;have h2:=MJ h1;rw[h2,hc];refine⟨rfl,fun j c u hj hu=>?_,fun u hu=>?_⟩
 ·cases j with
  | zero=>simp at hj hu;subst hj;subst hu;exact h
  | succ j=>simp at hj
 ·simp at hu;subst hu;exact h1
theorem jc{C:Cx}{x:X}{v:Value}(h:aW C x v)(ho:x.cells.all X.one=true) :
 v.cells.size=x.cells.length/\(∀(j:Nat) c u,x.cells[j]?=some c->v.cells[j]?=some u->aW C c u)/\∀u∈v.cells,u.oneCell'=true:=by
 cases x with
 | agg cs=>
  cases h with
  | agg hl hone hc=>
   rename_i vs;refine⟨by simpa[Value.cells,X.cells]using hl.symm,by simpa[Value.cells,X.cells]using hc,?_⟩;intro u hu;obtain⟨j,hj,rfl⟩:=Array.mem_iff_getElem.1 hu;have hj0:j<vs.size:=by simpa[Value.cells]using hj
   have hj':j<cs.length:=by omega
   exact(hc j cs[j] _ (List.getElem?_eq_getElem hj') (by simp[Value.cells,Array.getElem?_eq_getElem hj0])).one (hone _ (List.getElem_mem hj'))
 | _=>exact Iy h rfl (by simpa[X.cells]using ho)
theorem vF{C:Cx}{cs:List X}{b off:Nat}{val:Nat->Value}{t:TypeId}{j k:Nat}{ag:Bool}{x:X}
 (hc:∀l c,cs[l]?=some c->C.w.cell? ⟨b,off+l,none⟩=some (val l)/\c.one=true) (hr:∀l c,cs[l]?=some c->aW C c (val l))
 (hs:lJ P t k=true) (ha:jw P t ag=true) (hp:iI cs j k ag=some x):∃v,(loadVar t ⟨b,off+j,none⟩).run P C.w=.ok v C.w/\aW C x v:=by
 unfold iI at hp;split at hp
 case isFalse=>simp at hp
 rename_i hle;cases ag with
 | true=>
  simp only[if_true,aR]at hp;subst hp;have hl:=run_loadCells (P:=P) C.w ⟨b,off+j,none⟩ k (fun l=>val (j+l)) (fun l hlt=>by
   have h1:((⟨b,off+j,none⟩:Addr).add l)=⟨b,off+(j+l),none⟩:=by unfold Addr.add;split<;>simp_all<;>omega
   rw[h1];exact(hc (j+l) cs[j+l] (List.getElem?_eq_getElem (by omega))).1)
  refine⟨.agg ((List.range k).map fun l=>val (j+l)).toArray,by simp[loadVar,dV ha,bR hs,hl],?_⟩;refine .agg (by simp;omega) ?_ ?_
  ·intro c hcm;obtain⟨l,hl',he⟩:=List.mem_iff_getElem.1 hcm;simp only[List.length_take,List.length_drop]at hl';exact(hc (j+l) c (by rw[<-he];simp)).2
  ·intro l c v hlc hlv;rw[List.getElem?_take]at hlc
   split at hlc
   ·rename_i hlk;rw[List.getElem?_drop]at hlc
    have:v=val (j+l):=by simp[hlk]at hlv;exact hlv.symm
    subst this;exact hr _ _ hlc
   ·simp at hlc
 | false=>
  simp only[jI,if_false]at hp;split at hp
  ·exact⟨val j,by simp[loadVar,dV ha,(hc _ _ hp).1],hr _ _ hp⟩
  ·simp at hp
theorem BB{C:Cx}{cs:List X}{vs:Array Value}{t:TypeId}{j k:Nat}{ag:Bool}{x:X}(h:aW C (.agg cs) (.agg vs))
 (hs:lJ P t k=true) (ha:jw P t ag=true) (hp:iI cs j k ag=some x) (w:World):∃v,(part t vs j).run P w=.ok v w/\aW C x v:=by
 cases h with
 | agg hl hone hr=>
  unfold iI at hp;split at hp
  case isFalse=>simp at hp
  rename_i hle;cases ag with
  | true=>
   simp only[if_true,aR]at hp;subst hp;refine⟨.agg (vs.extract j (j+k)),by simp[part,dV ha,bR hs],.agg (by simp;omega) ?_ ?_⟩
   ·intro c hcm;exact hone c (List.mem_of_mem_drop (List.mem_of_mem_take hcm))
   ·intro l c v hlc hlv;rw[List.getElem?_take]at hlc
    split at hlc
    ·rw[List.getElem?_drop]at hlc
     refine hr _ _ _ hlc ?_;rw[Array.getElem?_extract]at hlv
     split at hlv
     ·exact hlv
     ·simp at hlv
    ·simp at hlc
  | false=>
   simp only[jI,if_false]at hp;split at hp
   ·have hj:j<vs.size:=by omega
    exact⟨vs[j],by simp[part,dV ha,Array.getElem?_eq_getElem hj],hr _ _ _ hp (Array.getElem?_eq_getElem hj)⟩
   ·simp at hp
end Go.Proofs.YtbmkfjmlepjpfaaGreatDoor
