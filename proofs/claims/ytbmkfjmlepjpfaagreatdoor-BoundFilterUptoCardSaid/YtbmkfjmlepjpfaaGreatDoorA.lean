/- A part of the proof. -/
import Derived.Tactics
import Derived.Below
import Derived.Laws.Rows
import Derived.Laws.CopyRow
import Derived.Orders
import Derived.Test.YtbmkfjmlepjpfaaGreatDoorGl
set_option linter.all false
set_option maxRecDepth 100000
namespace Go.Proofs.YtbmkfjmlepjpfaaGreatDoor
universe u v
theorem aW{α:Type u}{a b:α}:(some a=some b)=(a=b):=Option.some.injEq _ _
theorem bK{α:Type u}{β:Type v}{a c:α}{b d:β}:((a,b)=(c,d))=(a=c/\b=d):=Prod.mk.injEq _ _ _ _
theorem bN(a b:Bool):((a&&b)=true)=(a=true/\b=true):=Bool.and_eq_true a b
theorem kG:(false=true)=False:=Bool.false_eq_true
theorem oH{α:Type u}{p:α->Bool}{l:List α}:l.all p=true<->∀x∈l,p x=true:=List.all_eq_true
theorem kF{α:Type u}{xs:Array α}{i:Nat}(h:i<xs.size):xs[i]?=some xs[i]:=Array.getElem?_eq_getElem h
theorem mq{α:Type u}{xs:Array α}{i:Nat}{d:α}:xs.getD i d=xs[i]?.getD d:=Array.getD_eq_getD_getElem?
theorem gG{α:Type u}{l:List α}{n:Nat}(h:n<l.length):l[n]∈l:=List.getElem_mem h
theorem qP{n m:Nat}:n<=m->n<m\/n=m:=Nat.lt_or_eq_of_le
theorem qQ{m n:Nat}:m<n+1->m<=n:=Nat.le_of_lt_succ
theorem wU{α:Type u}{i:Nat}{l:List α}:l.length<=i->l.take i=l:=List.take_of_length_le
theorem tu{α:Type u}{β:Type v}{x:Option α}{b:β}{f:α->β}:Option.map f x=some b<->∃a,x=some a/\f a=b:=Option.map_eq_some_iff
theorem ku{α:Type u}{β:Type v}{f:α->β}{a:α}{l:List α}:List.map f (a::l)=f a::List.map f l:=List.map_cons
theorem iq{n m k:Nat}:n<=m->m<=k->n<=k:=Nat.le_trans
theorem kK{α:Type u}{l:List α}{i:Nat}{a:α}:l[i]?=some a->a∈l:=List.mem_of_getElem?
open Go.RowKit
inductive X where
 | v (u:Value)
 | nil
 | sl (f:Bool) (es:List X)
 | agg (cs:List X)
 | cZ (cs:List X)
 | ref (o g k i n:Nat)
 | ptr (o g j:Nat)
 | ep (o g k i j:Nat)
 | ip (x:X) (j:Nat)
 | fn (f:Nat) (cs:List X)
 | fm (f:Nat) (ps:List X)
 | mp (o g:Nat)
 | Dq (o g:Nat)
 | junk
 deriving Inhabited
def X.cells:X->List X
 | .agg cs=>cs
 | x=>[x]
def plain:Value->Bool
 | .int _ _|.bool _|.string _|.nilFunc|.nilIface|.pointer none|.map none=>true
 | _=>false
def X.one:X->Bool
 | .agg _|.cZ _|.junk=>false
 | _=>true
abbrev Env:=Nat->X
@[inline] def upd{α:Type}(f:Nat->α)(d:Nat)(x:α):Nat->α:=fun n=>if n=d then x else f n
theorem upd_same{α:Type}(f:Nat->α)(d:Nat)(x:α):upd f d x d=x:=by simp[upd]
theorem upd_ne{α:Type}(f:Nat->α){d n:Nat}(x:α)(h:n≠d):upd f d x n=f n:=by simp[upd,h]
mutual
def X.deep:X->Bool
 | .v _=>true
 | .sl _ es=>aT es
 | .agg cs=>aT cs
 | .cZ cs=>aT cs
 | .fn _ cs=>aT cs
 | .fm _ cs=>aT cs
 | .ip x _=>x.deep
 | _=>false
def aT:List X->Bool
 | []=>true
 | x::l=>x.deep&&aT l
end
mutual
def X.shr:X->X
 | .sl _ es=>.sl false (gB es)
 | .agg cs=>.agg (gB cs)
 | .cZ cs=>.cZ (gB cs)
 | .fn f cs=>.fn f (gB cs)
 | .fm f cs=>.fm f (gB cs)
 | .nil=>.sl false []
 | .ip x j=>.ip x.shr j
 | x=>x
def gB:List X->List X
 | []=>[]
 | x::l=>x.shr::gB l
end
structure Cx where
 μ:Nat->Nat
 γ:Nat->Nat
 w:World
 sh:Nat->Prop
 fr:Nat->Prop
def Cx.blk(C:Cx)(f:Bool)(b:Nat):Prop:=C.fr b\/(f=false/\C.sh b)
inductive aZ (C:Cx):X->Value->Prop
 | v {u:Value}:plain u=true->aZ C (.v u) u
 | nil {b:Option Addr}:aZ C .nil (.slice b 0 0)
 | sl0 {f:Bool} {a:Option Addr} {cap:Nat}:aZ C (.sl f []) (.slice a 0 cap)
 | sl {f:Bool} {es:List X} {b off cap k n:Nat} (val:Nat->Nat->Value):n=es.length->n<=cap->
  es.length<=9223372036854775807->C.blk f b->(∀e∈es,e.cells.length=k)->
  (∀i e j c,es[i]?=some e->e.cells[j]?=some c->C.w.cell? ⟨b,off+i*k+j,none⟩=some (val i j)/\c.one=true)->
  (f=true->∀j,C.w.frozen? ⟨b,j,none⟩=false)->
  (∀i e j c,es[i]?=some e->e.cells[j]?=some c->aZ C c (val i j))->
  aZ C (.sl f es) (.slice (some ⟨b,off,none⟩) n cap)
 | agg {cs:List X} {vs:Array Value}:cs.length=vs.size->(∀c∈cs,c.one=true)->
  (∀(j:Nat) c v,cs[j]?=some c->vs[j]?=some v->aZ C c v)->aZ C (.agg cs) (.agg vs)
 | cZ {cs:List X} {vs:Array Value}:cs.length=vs.size->
  (∀(j:Nat) c v,cs[j]?=some c->vs[j]?=some v->aZ C c v)->aZ C (.cZ cs) (.tuple vs)
 | fn {f:Nat} {cs:List X} {vs:Array Value}:cs.length=vs.size->
  (∀(j:Nat) c v,cs[j]?=some c->vs[j]?=some v->aZ C c v)->aZ C (.fn f cs) (.func (.func f) #[] vs)
 | fm {f:Nat} {cs:List X} {vs:Array Value}:cs.length=vs.size->
  (∀(j:Nat) c v,cs[j]?=some c->vs[j]?=some v->aZ C c v)->aZ C (.fm f cs) (.func (.func f) vs #[])
 | ref {o g k i n:Nat} {v:Value}:1<=g->g<=C.γ o->(C.γ o=g->∃cap,v=.slice (some ⟨C.μ o,i*k,none⟩) n cap/\n<=cap/\
  ∃cs t fz,C.w.heap[C.μ o]?=some (.cells cs t fz)/\(i+cap)*k=cs.size)->v.oneCell'=true->aZ C (.ref o g k i n) v
 | ptr {o g j:Nat} {v:Value}:1<=g->g<=C.γ o->(C.γ o=g->v=.pointer (some ⟨C.μ o,j,none⟩))->v.oneCell'=true->aZ C (.ptr o g j) v
 | ep {o g k i j:Nat} {v:Value}:1<=g->g<=C.γ o->(C.γ o=g->v=.pointer (some ⟨C.μ o,i*k+j,none⟩))->v.oneCell'=true->aZ C (.ep o g k i j) v
 | ip {x:X} {j b off:Nat} (val:Nat->Value):(C.fr b\/C.sh b)->
  (∀l c,x.cells[l]?=some c->C.w.cell? ⟨b,off+l,none⟩=some (val l)/\c.one=true)->
  (∀l c,x.cells[l]?=some c->aZ C c (val l))->aZ C (.ip x j) (.pointer (some ⟨b,off+j,none⟩))
 | mp {o g:Nat} {v:Value}:1<=g->g<=C.γ o->(C.γ o=g->v=.map (some (C.μ o)))->v.oneCell'=true->aZ C (.mp o g) v
 | Dq {o g:Nat} {v:Value}:1<=g->g<=C.γ o->(C.γ o=g->v=.func (.yield (C.μ o)) #[] #[])->v.oneCell'=true->aZ C (.Dq o g) v
 | junk {v:Value}:aZ C .junk v
theorem aZ.one{C:Cx}{x:X}{v:Value}(h:aZ C x v)(ho:x.one=true):v.oneCell'=true:=by
 cases h<;>first|assumption|rfl|(simp[X.one]at ho;done)|skip
 rename_i hp;cases v<;>first|rfl|(simp[plain]at hp;done)
structure Cx.Le (C D:Cx):Prop where
 cell:∀b,C.fr b\/C.sh b->∀o v,C.w.cell? ⟨b,o,none⟩=some v->D.w.cell? ⟨b,o,none⟩=some v
 frozen:∀b,C.fr b->∀o,C.w.frozen? ⟨b,o,none⟩=false->D.w.frozen? ⟨b,o,none⟩=false
 sh:∀b,C.sh b->D.sh b\/D.fr b
 fr:∀b,C.fr b->D.fr b
 γ:∀o,C.γ o<=D.γ o
 μ:∀o,1<=C.γ o->D.γ o=C.γ o->D.μ o=C.μ o/\∀cs t fz,C.w.heap[C.μ o]?=some (.cells cs t fz)->∃cs' t' fz',D.w.heap[C.μ o]?=some (.cells cs' t' fz')/\cs.size=cs'.size
theorem Cx.Le.trans{C D E:Cx}(h:C.Le D)(k:D.Le E):C.Le E:=by
 refine⟨?_,?_,?_,fun b hb=>k.fr b (h.fr b hb),fun o=>iq (h.γ o) (k.γ o),?_⟩
 ·intro b hb o v hv;refine k.cell b ?_ o v (h.cell b hb o v hv);rcases hb with hb|hb
  ·exact .inl (h.fr b hb)
  ·rcases h.sh b hb with h1|h1
   ·exact .inr h1
   ·exact .inl h1
 ·intro b hb o hv;exact k.frozen b (h.fr b hb) o (h.frozen b hb o hv)
 ·intro b hb;rcases h.sh b hb with h1|h1
  ·exact k.sh b h1
  ·exact .inr (k.fr b h1)
 ·intro o h1 h2;have a1:=h.γ o;have a2:=k.γ o;obtain⟨b1,b2⟩:=h.μ o h1 (by omega);obtain⟨c1,c2⟩:=k.μ o (by omega) (by omega);refine⟨c1.trans b1,fun cs t fz hcs=>?_⟩;obtain⟨cs',t',fz',d1,d2⟩:=b2 cs t fz hcs;obtain⟨cs2,t2,fz2,e1,e2⟩:=c2 cs' t' fz' (b1▸d1);exact⟨cs2,t2,fz2,b1▸e1,d2.trans e2⟩
theorem Cx.Le.refl(C:Cx):C.Le C:=⟨fun _ _ _ _ h=>h,fun _ _ _ h=>h,fun _ h=>.inl h,fun _ h=>h,fun _=>Nat.le_refl _,fun _ _ _=>⟨rfl,fun cs t fz h=>⟨cs,t,fz,h,rfl⟩⟩⟩
theorem aZ.mono{C D:Cx}(h:C.Le D){x:X}{v:Value}(hx:aZ C x v):aZ D x v:=by
 induction hx with
 | v hp=>exact .v hp
 | nil=>exact .nil
 | sl0=>exact .sl0
 | @sl f es b off cap k n val hn hcap hl hb hk hc hz _ ih=>
  refine .sl val hn hcap hl ?_ hk (fun i e j c hi hj=>⟨h.cell b ?_ _ _ (hc i e j c hi hj).1,(hc i e j c hi hj).2⟩) (fun hf j=>h.frozen b ?_ _ (hz hf j)) ih
  ·rcases hb with hb|⟨hf,hb⟩
   ·exact .inl (h.fr b hb)
   ·rcases h.sh b hb with hb'|hb'
    ·exact .inr ⟨hf,hb'⟩
    ·exact .inl hb'
  ·exact hb.imp id And.right
  ·rcases hb with hb|⟨hf',_⟩
   ·exact hb
   ·simp[hf]at hf'
 | agg hl ho _ ih=>exact .agg hl ho ih
 | cZ hl _ ih=>exact .cZ hl ih
 | fn hl _ ih=>exact .fn hl ih
 | fm hl _ ih=>exact .fm hl ih
 | @ref o g k i n v h1 hg hv ho=>
  refine .ref h1 (iq hg (h.γ o)) (fun he=>?_) ho;have hg':C.γ o=g:=by have:=h.γ o;omega
  obtain⟨cap,rfl,hn,cs,t,fz,hh,hs⟩:=hv hg';obtain⟨hm,hm'⟩:=h.μ o (by omega) (by omega);obtain⟨cs',t',fz',hh',hs'⟩:=hm' cs t fz hh;exact⟨cap,by rw[hm],hn,cs',t',fz',by rw[hm];exact hh',by omega⟩
 | @ptr o g j v h1 hg hv ho=>
  refine .ptr h1 (iq hg (h.γ o)) (fun he=>?_) ho;have hg':C.γ o=g:=by have:=h.γ o;omega
  rw[hv hg',(h.μ o (by omega) (by omega)).1]
 | @ep o g k i j v h1 hg hv ho=>
  refine .ep h1 (iq hg (h.γ o)) (fun he=>?_) ho;have hg':C.γ o=g:=by have:=h.γ o;omega
  rw[hv hg',(h.μ o (by omega) (by omega)).1]
 | @ip x j b off val hb hc _ ih=>
  exact .ip val ((hb.symm.imp (h.sh b) (h.fr b)).elim (fun h=>h.symm) .inl) (fun l c hl=>⟨h.cell b hb _ _ (hc l c hl).1,(hc l c hl).2⟩) ih
 | @mp o g v h1 hg hv ho=>
  refine .mp h1 (iq hg (h.γ o)) (fun he=>?_) ho;have hg':C.γ o=g:=by have:=h.γ o;omega
  rw[hv hg',(h.μ o (by omega) (by omega)).1]
 | @Dq o g v h1 hg hv ho=>
  refine .Dq h1 (iq hg (h.γ o)) (fun he=>?_) ho;have hg':C.γ o=g:=by have:=h.γ o;omega
  rw[hv hg',(h.μ o (by omega) (by omega)).1]
 | junk=>exact .junk
theorem aZ.mJ{C D:Cx}{x:X}{v:Value}(hx:aZ C x v)(hd:x.deep=true)
 (cell:∀b,C.fr b\/C.sh b->∀o v,C.w.cell? ⟨b,o,none⟩=some v->D.w.cell? ⟨b,o,none⟩=some v)
 (frozen:∀b,C.fr b->∀o,C.w.frozen? ⟨b,o,none⟩=false->D.w.frozen? ⟨b,o,none⟩=false)
 (sh:∀b,C.sh b->D.sh b\/D.fr b) (fr:∀b,C.fr b->D.fr b):aZ D x v:=by
 have mem:∀ {l:List X},aT l=true->∀c∈l,c.deep=true:=by
  intro l;induction l with
  | nil=>intro _ c hc;cases hc
  | cons a l ih=>
   intro h c hc;simp only[aT,bN]at h;cases hc with
   | head=>exact h.1
   | tail _ hc=>exact ih h.2 c hc
 have cm:∀ {e:X},e.deep=true->∀c∈e.cells,c.deep=true:=by
  intro e he c hc;cases e
  case agg cs=>exact mem (l:=cs) (by simpa[X.deep]using he) c hc
  all_goals (simp only[X.cells,List.mem_singleton]at hc;subst hc;exact he)
 induction hx with
 | v hp=>exact .v hp
 | nil=>exact .nil
 | sl0=>exact .sl0
 | @sl f es b off cap k n val hn hcap hl hb hk hc hz _ ih=>
  have hes:=mem (show aT es=true by simpa[X.deep]using hd);refine .sl val hn hcap hl ?_ hk (fun i e j c hi hj=>⟨cell b ?_ _ _ (hc i e j c hi hj).1,(hc i e j c hi hj).2⟩) (fun hf j=>frozen b ?_ _ (hz hf j)) (fun i e j c hi hj=>ih i e j c hi hj (cm (hes e (kK hi)) c (kK hj)))
  ·rcases hb with hb|⟨hf,hb⟩
   ·exact .inl (fr b hb)
   ·rcases sh b hb with hb'|hb'
    ·exact .inr ⟨hf,hb'⟩
    ·exact .inl hb'
  ·exact hb.imp id And.right
  ·rcases hb with hb|⟨hf',_⟩
   ·exact hb
   ·simp[hf]at hf'
 | agg hl ho _ ih=>
  have hes:=mem (by simpa[X.deep]using hd);exact .agg hl ho fun j c v hj hv=>ih j c v hj hv (hes c (kK hj))
 | cZ hl _ ih=>
  have hes:=mem (by simpa[X.deep]using hd);exact .cZ hl fun j c v hj hv=>ih j c v hj hv (hes c (kK hj))
 | fn hl _ ih=>
  have hes:=mem (by simpa[X.deep]using hd);exact .fn hl fun j c v hj hv=>ih j c v hj hv (hes c (kK hj))
 | fm hl _ ih=>
  have hes:=mem (by simpa[X.deep]using hd);exact .fm hl fun j c v hj hv=>ih j c v hj hv (hes c (kK hj))
 | @ip x j b off val hb hc _ ih=>
  have hx:x.deep=true:=by simpa[X.deep]using hd
  exact .ip val (hb.elim (fun h=>.inl (fr b h)) (fun h=>(sh b h).elim .inr .inl)) (fun l c hl=>⟨cell b hb _ _ (hc l c hl).1,(hc l c hl).2⟩) (fun l c hl=>ih l c hl (cm hx c (kK hl)))
 | _=>simp[X.deep]at hd
inductive Ar where
 | t (n:Nat)
 | k (x:X)
 deriving Inhabited
def Ar.ev(e:Env):Ar->X
 | .t n=>e n
 | .k x=>x
inductive LK where
 | i|s|b
 deriving DecidableEq,Inhabited
inductive iw where
 | bM (a:Ar)
 | pick (c a b:Ar)
 | box (o:Nat) (a:Ar)
 | Aj (a:Ar)
 | build (z:List X) (ps:List (Nat×Nat×Ar))
 | lg (o k n:Nat) (z:X) (ps:List (Nat×Ar))
 | Zt (o k:Nat) (z:X) (d:Nat) (ix a:Ar)
 | jP (k n:Nat) (z:X) (ps:List (Nat×Ar))
 | ld (a:Ar) (w:Nat) (ag:Bool)
 | st (a b:Ar) (w:Nat)
 | VX (a:Ar)
 | bin (op:BinOp) (a b:Ar)
 | eqs (neg:Bool) (ks:List LK) (a b:Ar)
 | ZJ (neg:Bool) (a b:Ar)
 | un (op:UnOp) (a:Ar)
 | cvs (a:Ar)
 | conv (k:IntKind) (a:Ar)
 | fa (a:Ar) (j:Nat)
 | M4 (a:Ar) (j w:Nat) (ag:Bool)
 | dN (a i:Ar) (w:Nat)
 | DX (a i:Ar) (w n:Nat)
 | JZ (a i:Ar)
 | ixv (a i:Ar) (w n:Nat) (ag:Bool)
 | sls (a:Ar) (lo hi:Option Ar)
 | Vp (w:Nat) (a:Ar) (lo hi:Option Ar)
 | P6 (o k:Nat) (z:X) (len cap:Ar) (lim:Nat)
 | len (a:Ar)
 | lens (a:Ar)
 | app (o k lim:Nat) (a b:Ar)
 | Rh (o k lim:Nat) (a b:Ar)
 | bA (mx:Bool) (a:Ar) (l:List Ar)
 | ext (a:Ar) (i:Nat)
 | KI (f:Nat) (l:List Ar)
 | IX (f:Nat) (l:List Ar)
 | VT (neg:Bool) (a:Ar)
 | no
 | call (still:Bool) (f:Nat) (l:List Ar)
 | gN (still:Bool) (f:Ar) (l:List Ar)
 | bO (f:Nat) (l:List Ar)
 | lu (f:Nat) (l:List Ar)
 | bU (st:Bool) (p:List Nat) (q f:Nat) (l:List Ar)
 | gW (f:Ar) (l:List Ar)
 | VU (neg:Bool) (a:Ar)
 | KJ (o:Nat) (h:Option Ar)
 | KL (ks:List LK) (ag:Bool) (m k:Ar) (z:X) (ok:Bool)
 | SK (ks:List LK) (ag:Bool) (m k:Ar) (z:X)
 | SQ (m st v:Ar)
 | Rl (ks:List LK) (ag:Bool) (m k v:Ar)
 | P7 (m:Ar)
 deriving Inhabited
structure fE where
 d:Option Nat
 g:Option (Nat×Bool)
 op:iw
 deriving Inhabited
inductive IC where
 | ops (l:List fE)
 | aH (ch js:List Nat) (l m:List fE)
 | seq (a b:IC)
 | cond (c:Ar) (t e:IC)
 | block (id:Nat) (c:IC)
 | loop (c:IC)
 | scope (c:IC)
 | exit (id:Nat)
 | ret
 | skip
 | U_ (q:Nat) (g:Ar) (ps:List Nat) (a b:IC)
 | Vb (q:Nat)
 | JF (q id:Nat)
 deriving Inhabited
inductive LS where
 | ready
 | busy
 | done (j:Option Nat)
 deriving DecidableEq,Inhabited
inductive Ob where
 | box (x:X)
 | row (k:Nat) (es:List X)
 | map (es:List (X×X))
 | lp (e:Env) (ps:List Nat) (a b:IC) (st:LS)
 deriving Inhabited
structure SO where
 g:Nat
 wr:Bool
 o:Option Ob
 n:Nat
 deriving Inhabited
abbrev ax:=Nat->SO
structure Bs extends World where
 base:Cx
 JY:MF toWorld
 keep:List Nat
 Bt:Nat->Nat->Code->IC->Prop
instance:Coe Bs World:=⟨Bs.toWorld⟩
inductive It where
 | code (c:IC)
 | ops (l:List fE)
 | lp (c:IC)
 | bl (id:Nat)
 | Wd (ch:List Nat) (js:List fE) (s:ax)
 | Ri (q g:Nat)
 | Rj (q g:Nat)
 deriving Inhabited
inductive gQ where
 | tmp (t:Nat)
 | WZ (t:Nat)
 | cell (t w:Nat) (ag:Bool)
 deriving Inhabited
inductive Fe where
 | code (nt:Nat) (res:List gQ) (body:IC)
 | yx (nt:Nat) (res:List gQ) (body:IC)
 | ext (F:List X->Option X)
 | uK (F:List X->ax->Option (X×ax))
def jl(cs:List X)(j w:Nat)(ag:Bool):Option X:=
 if j+w<=cs.length then(if ag then some (.agg ((cs.drop j).take w))else if w=1 then cs[j]? else none)else none
def spl{α:Type}(cs:List α)(j:Nat)(ys:List α):List α:=cs.take j++ys++cs.drop (j+ys.length)
def rJ(x:X)(j:Nat)(ys:List X):X:=
 match x with
 | .agg cs=>.agg (spl cs j ys)
 | _=>match ys with
  | [y]=>y
  | _=>x
def mK(s:ax):X->Option X
 | .ref o g k i n=>
  match (s o).o with
  | some (.row k' es)=>if g=(s o).g/\k=k'/\i+n<=es.length/\aT es=true then some (.sl true ((es.drop i).take n))else none
  | _=>none
 | .nil=>some (.sl true [])
 | .agg _=>none
 | .cZ _=>none
 | x=>if x.deep then some x else none
def tq(s:ax):List X->Option (List X)
 | []=>some []
 | x::l=>match mK s x,tq s l with
  | some y,some m=>some (y::m)
  | _,_=>none
def nI(s:ax):X->Option X
 | .agg cs=>match tq s cs with
  | some ds=>some (.agg ds)
  | none=>none
 | x=>mK s x
def p_:X->List Nat
 | .ref o _ _ _ _=>[o]
 | _=>[]
def nX:X->List Nat
 | .agg cs=>cs.flatMap p_
 | x=>p_ x
@[simp] def SO.fz(x:SO):SO:={x with wr:=false,n:=x.n+1}
def gX(s:ax)(l:List Nat):ax:=fun o=>if o∈l then(s o).fz else s o
def fill(e:Env)(cs:List X):List (Nat×Nat×Ar)->Option (List X)
 | []=>some cs
 | (j,w,a)::r=>
  if(a.ev e).cells.length=w/\j+w<=cs.length/\(a.ev e).cells.all X.one=true then fill e (spl cs j (a.ev e).cells) r else none
def jH(e:Env)(s:ax)(k:Nat)(es:List X):List (Nat×Ar)->Option (List X×List Nat)
 | []=>some (es,[])
 | (i,a)::r=>
  match nI s (a.ev e)with
  | some x=>if x.cells.length=k/\i<es.length/\x.cells.all X.one=true then
   match jH e s k (es.set i x) r with
   | some (es',nm)=>some (es',nX (a.ev e)++nm)
   | none=>none
   else none
  | none=>none
def GQ(op:BinOp)(k:IntKind)(x y:Int):Option Value:=
 let a:=BitVec.ofInt k.bits x
 let b:=BitVec.ofInt k.bits y
 match op with
 | .and=>some (.int k (k.wrap (a&&& b).toNat))
 | .or=>some (.int k (k.wrap (a||| b).toNat))
 | .xor=>some (.int k (k.wrap (a ^^^ b).toNat))
 | .andNot=>some (.int k (k.wrap (a&&& ~~~b).toNat))
 | _=>none
def jY(op:BinOp):Value->Value->Option Value
 | .int k a,.int k' b=>
  match op with
  | .shl=>if b<0 then none else some (.int k (k.wrap (a*2 ^ min b.toNat k.bits)))
  | .shr=>if b<0 then none else some (.int k (a.fdiv (2 ^ min b.toNat k.bits)))
  | _=>if k≠k' then none else
   match op with
   | .add=>some (.int k (k.wrap (a+b)))
   | .sub=>some (.int k (k.wrap (a-b)))
   | .mul=>some (.int k (k.wrap (a*b)))
   | .quo=>if b=0 then none else some (.int k (k.wrap (a.tdiv b)))
   | .rem=>if b=0 then none else some (.int k (a.tmod b))
   | .eql=>some (.bool (a==b))
   | .neq=>some (.bool (a != b))
   | .lss=>some (.bool (decide (a<b)))
   | .leq=>some (.bool (decide (a<=b)))
   | .gtr=>some (.bool (decide (a > b)))
   | .geq=>some (.bool (decide (a≥b)))
   | _=>GQ op k a b
 | .string a,.string b=>
  match op with
  | .add=>if((a.size+b.size:Nat):Int) > IntKind.i64.max then none else some (.string (a++b))
  | .eql=>some (.bool (a.toList==b.toList))
  | .neq=>some (.bool (!(a.toList==b.toList)))
  | .lss=>some (.bool (Op.bytesLess a.toList b.toList))
  | .leq=>some (.bool (Op.bytesLess a.toList b.toList||a.toList==b.toList))
  | .gtr=>some (.bool (!(Op.bytesLess a.toList b.toList||a.toList==b.toList)))
  | .geq=>some (.bool (!(Op.bytesLess a.toList b.toList)))
  | _=>none
 | _,_=>none
def Gz:LK->Value->Value->Option Bool
 | .i,.int k a,.int k' b=>if k=k' then some (a==b)else none
 | .s,.string a,.string b=>some (a.toList==b.toList)
 | .b,.bool a,.bool b=>some (a==b)
 | _,_,_=>none
def EP:List LK->List X->List X->Option Bool
 | [],[],[]=>some true
 | k::ks,.v a::l,.v b::m=>match Gz k a b,EP ks l m with
  | some p,some q=>some (p&&q)
  | _,_=>none
 | _,_,_=>none
def unV(op:UnOp):Value->Option Value
 | .int k n=>match op with
  | .neg=>some (.int k (k.wrap (0-n)))
  | .xor=>GQ .xor k (if k.signed then -1 else k.max) n
  | _=>none
 | .bool b=>match op with
  | .not=>some (.bool !b)
  | _=>none
 | _=>none
def mnx(mx:Bool):Value->Value->Option Value
 | .int k x,.int k' y=>if k=k' then some (.int k (if mx then(if y > x then y else x)else(if y<x then y else x)))else none
 | _,_=>none
def qU(mx:Bool)(e:Env)(u:Value):List Ar->Option Value
 | []=>some u
 | a::l=>match a.ev e with
  | .v y=>match mnx mx u y with
   | some z=>qU mx e z l
   | none=>none
  | _=>none
def w9:X->Option Int
 | .v (.int _ i)=>some i
 | _=>none
def bnd(e:Env)(a:Option Ar)(dflt y:Nat):Option Nat:=
 match a with
 | none=>some dflt
 | some a=>match w9 (a.ev e)with
  | some i=>if 0<=i/\i<=(y:Int)then some i.toNat else none
  | none=>none
def elems(s:ax):X->Option (List X)
 | .nil=>some []
 | .sl _ es=>some es
 | .ref o g k i n=>
  match (s o).o with
  | some (.row k' es)=>if g=(s o).g/\k=k'/\i+n<=es.length then some ((es.drop i).take n)else none
  | _=>none
 | _=>none
def X.Na:X->Bool
 | .ref ..=>true
 | .nil=>true
 | _=>false
def X.lit(y:X):Bool:=y.cells.all fun c=>c.deep||c.Na
def Dj(k:Nat)(ys:List X):Bool:=ys.all fun y=>y.cells.length==k&&(y.deep||y.lit)
@[simp] def SO.nw(x:SO)(b:Ob):SO:=⟨x.g+1,true,some b,x.n+1⟩
@[simp] def SO.sw(x:SO)(b:Ob):SO:=⟨x.g,true,some b,x.n+1⟩
def aN(s:ax)(o:Nat)(b:Ob):ax:=upd s o ((s o).nw b)
def bF(s:ax)(o:Nat)(b:Ob):ax:=upd s o ((s o).sw b)
def EX(s:ax)(x:X)(w:Nat)(ag:Bool):Option X:=
 match x with
 | .ptr o g j=>match (s o).o with
  | some (.box y)=>if g=(s o).g then jl y.cells j w ag else none
  | _=>none
 | .ep o g k i j=>match (s o).o with
  | some (.row k' es)=>if g=(s o).g/\k=k'/\j+w<=k then match es[i]? with
   | some y=>jl y.cells j w ag
   | none=>none
   else none
  | _=>none
 | .ip y j=>jl y.cells j w ag
 | _=>none
def stX(s:ax)(x y:X)(w:Nat):Option ax:=
 match x with
 | .ptr o g j=>match (s o).o with
  | some (.box z)=>
   if g=(s o).g/\(s o).wr=true/\y.cells.length=w/\j+w<=z.cells.length/\y.cells.all X.one=true then some (bF s o (.box (rJ z j y.cells)))else none
  | _=>none
 | .ep o g k i j=>match (s o).o,nI s y with
  | some (.row k' es),some y'=>match es[i]? with
   | some z=>
    if g=(s o).g/\k=k'/\(s o).wr=true/\y'.cells.length=w/\j+w<=k/\y'.cells.all X.one=true/\¬o∈nX y then some (gX (bF s o (.row k (es.set i (rJ z j y'.cells)))) (nX y))else none
   | none=>none
  | _,_=>none
 | _=>none
mutual
def X.fM:X->Bool
 | .v _=>true
 | .agg cs=>rH cs
 | .cZ cs=>rH cs
 | _=>false
def rH:List X->Bool
 | []=>true
 | x::l=>x.fM&&rH l
end
mutual
def lK:X->List Nat
 | .ref o _ _ _ _=>[o]
 | .ptr o _ _=>[o]
 | .ep o _ _ _ _=>[o]
 | .mp o _=>[o]
 | .Dq o _=>[o]
 | .agg cs=>BA cs
 | .cZ cs=>BA cs
 | .fn _ cs=>BA cs
 | .fm _ cs=>BA cs
 | _=>[]
def BA:List X->List Nat
 | []=>[]
 | x::l=>lK x++BA l
end
def eqX(ks:List LK):Bool->X->X->Option Bool
 | true,.agg l,.agg m=>EP ks l m
 | false,.v a,.v b=>match ks with
  | [k]=>Gz k a b
  | _=>none
 | _,_,_=>none
def BG(ks:List LK):Bool->X->Bool
 | true,.agg l=>l.length==ks.length
 | false,.v _=>ks.length==1
 | _,_=>false
def kz(ks:List LK)(ag:Bool)(key:X):List (X×X)->Option (Option Nat)
 | []=>if BG ks ag key=true then some none else none
 | p::es=>match eqX ks ag key p.1 with
  | some true=>some (some 0)
  | some false=>match kz ks ag key es with
   | some r=>some (r.map (·+1))
   | none=>none
  | none=>none
def GD(s:ax):X->Option (Nat×List (X×X))
 | .mp o g=>match (s o).o with
  | some (.map es)=>if g=(s o).g/\(s o).wr=true then some (o,es)else none
  | _=>none
 | _=>none
def Bf(e:Env):Option Ar->Bool
 | none=>true
 | some a=>(w9 (a.ev e)).isSome
def x9(es:List (X×X))(i:Nat)(v:X):List (X×X):=es.modify i fun p=>(p.1,v)
def Dh(s:ax)(o d:Nat)(ob:Ob):ax:=upd (upd s d ⟨(s d).g+1,true,some ob,(s d).n+1⟩) o ⟨(s o).g,(s o).wr,none,(s o).n+1⟩
def lQ(s:ax)(d:Nat):List X->Option (List X×ax)
 | []=>some ([],s)
 | .ref o g k i n::l=>match (s o).o with
  | some (.row k' es)=>if g=(s o).g/\(s o).wr=true/\¬o=d/\aT l=true then some (.ref d ((s d).g+1) k i n::l,Dh s o d (.row k' es))else none
  | _=>none
 | .nil::l=>if aT l=true then some (.nil::l,s)else none
 | c::l=>if c.deep=true then match lQ s d l with
  | some (l',s')=>some (c::l',s')
  | none=>none else none
def tC(x:Option X)(s:ax):Option (X×ax):=match x with
 | some x=>some (x,s)
 | none=>none
def CQ(s:ax)(o k lim:Nat)(x y:X):Option (X×ax):=match elems s y with
 | some ys=>if Dj k ys=false then none else match x with
  | .nil=>if ys=[]then some (.nil,s)else
   if ys.length<=lim then some (.ref o ((s o).g+1) k 0 ys.length,aN s o (.row k ys))else none
  | .ref o' g k' i n=>match (s o').o with
   | some (.row k'' es)=>
    if g=(s o').g/\k'=k/\k''=k/\(s o').wr=true/\i=0/\n=es.length/\n+ys.length<=lim/\¬o'∈p_ y then
     some (.ref o' (g+1) k i (n+ys.length),aN s o' (.row k (es++ys)))else none
   | _=>none
  | _=>none
 | none=>none
def y9(s:ax)(o k lim:Nat)(x y:X):Option (X×ax):=match x,y with
 | .nil,.sl f es=>CQ s o k lim .nil (.sl f es)
 | .ref o' g k' i n,.sl f es=>if o'=o then CQ s o k lim (.ref o' g k' i n) (.sl f es)else none
 | _,_=>none
def aB(op:iw)(e:Env)(s:ax):Option (X×ax):=
 match op with
 | .bM a=>some (a.ev e,s)
 | .pick c a b=>match c.ev e with
  | .v (.bool t)=>some (cond t (a.ev e) (b.ev e),s)
  | _=>none
 | .box o a=>if(a.ev e).cells.all X.one=true then some (.ptr o ((s o).g+1) 0,aN s o (.box (a.ev e)))else none
 | .Aj a=>if(a.ev e).deep=true/\(a.ev e).cells.all X.one=true then some (.ip (a.ev e) 0,s)else none
 | .build z ps=>match fill e z ps with
  | some cs=>some (.agg cs,s)
  | none=>none
 | .lg o k n z ps=>match jH e s k (List.replicate n z) ps with
  | some (es,nm)=>if o∈nm then none else some (.ref o ((s o).g+1) k 0 n,gX (aN s o (.row k es)) nm)
  | none=>none
 | .jP k n z ps=>match jH e s k (List.replicate n z) ps with
  | some (es,[])=>some (.sl true es,s)
  | _=>none
 | .Zt q k z d ix a=>match w9 (ix.ev e),a.ev e with
  | some i,.agg cs=>if 0<=i/\cs.length=k/\cs.all X.one=true/\¬q=d+i.toNat then match lQ s (d+i.toNat) cs with
   | some (cs',s')=>some (.ref q ((s' q).g+1) k 0 1,aN s' q (.row k [.agg cs']))
   | none=>none
   else none
  | _,_=>none
 | .ld a w ag=>tC (EX s (a.ev e) w ag) s
 | .st a b w=>match stX s (a.ev e) (b.ev e) w with
  | some s'=>some (.junk,s')
  | none=>none
 | .VX a=>match a.ev e with
  | .ptr o g j=>if g=(s o).g then some (.ptr o g j,s)else none
  | .ep o g k i j=>if g=(s o).g then some (.ep o g k i j,s)else none
  | .ip x j=>some (.ip x j,s)
  | _=>none
 | .bin op a b=>match a.ev e,b.ev e with
  | .v x,.v y=>match jY op x y with
   | some z=>some (.v z,s)
   | none=>none
  | _,_=>none
 | .eqs neg ks a b=>match a.ev e,b.ev e with
  | .agg x,.agg y=>match EP ks x y with
   | some z=>some (.v (.bool (if neg then !z else z)),s)
   | none=>none
  | _,_=>none
 | .ZJ neg a b=>match a.ev e,b.ev e with
  | .v (.bool x),.v (.bool y)=>some (.v (.bool (if neg then !(x==y)else x==y)),s)
  | _,_=>none
 | .un op a=>match a.ev e with
  | .v x=>match unV op x with
   | some z=>some (.v z,s)
   | none=>none
  | _=>none
 | .cvs a=>match a.ev e with
  | .v (.string b)=>some (.v (.string b),s)
  | _=>none
 | .conv k a=>match a.ev e with
  | .v (.int _ n)=>some (.v (.int k (k.wrap n)),s)
  | _=>none
 | .fa a j=>match a.ev e with
  | .ptr o g i=>if g=(s o).g then some (.ptr o g (i+j),s)else none
  | .ep o g k i l=>if g=(s o).g then some (.ep o g k i (l+j),s)else none
  | .ip x i=>some (.ip x (i+j),s)
  | _=>none
 | .M4 a j w ag=>match a.ev e with
  | .agg cs=>tC (jl cs j w ag) s
  | _=>none
 | .dN a i w=>match w9 (i.ev e)with
  | some n=>match a.ev e with
   | .sl _ es=>if 0<=n/\n<(es.length:Int)then match es[n.toNat]? with
    | some x=>if x.cells.length=w then some (.ip x 0,s)else none
    | none=>none
    else none
   | .ref o g k j m=>if 0<=n/\n<(m:Int)/\k=w/\g=(s o).g then some (.ep o g k (j+n.toNat) 0,s)else none
   | _=>none
  | none=>none
 | .DX a i w n=>match w9 (i.ev e)with
  | some m=>if 0<=m/\m<(n:Int)then match a.ev e with
   | .ptr o g j=>if g=(s o).g then some (.ptr o g (j+m.toNat*w),s)else none
   | .ip x j=>some (.ip x (j+m.toNat*w),s)
   | _=>none
   else none
  | none=>none
 | .JZ a i=>match a.ev e,w9 (i.ev e)with
  | .v (.string b),some n=>match (if 0<=n then b[n.toNat]? else none)with
   | some c=>some (.v (.int .u8 c.toNat),s)
   | none=>none
  | _,_=>none
 | .ixv a i w n ag=>match a.ev e,w9 (i.ev e)with
  | .agg cs,some m=>if 0<=m/\m<(n:Int)then tC (jl cs (m.toNat*w) w ag) s else none
  | _,_=>none
 | .sls a lo hi=>match a.ev e with
  | .v (.string b)=>match bnd e hi b.size b.size with
   | some h=>match bnd e lo 0 h with
    | some l=>some (.v (.string (b.extract l h)),s)
    | none=>none
   | none=>none
  | _=>none
 | .Vp w a lo hi=>match a.ev e with
  | .sl f es=>if es.all (fun y=>y.cells.length==w)=false then none else match bnd e hi es.length es.length with
   | some h=>match bnd e lo 0 h with
    | some l=>some (.sl f ((es.drop l).take (h-l)),s)
    | none=>none
   | none=>none
  | .ref o g k i n=>if ¬(g=(s o).g/\k=w)then none else match bnd e hi n n with
   | some h=>match bnd e lo 0 h with
    | some l=>some (if l=0 then .ref o g k i h else if h-l=0 then .sl true []else .ref o g k (i+l) (h-l),s)
    | none=>none
   | none=>none
  | .nil=>match bnd e hi 0 0 with
   | some _=>match bnd e lo 0 0 with
    | some _=>some (.nil,s)
    | none=>none
   | none=>none
  | _=>none
 | .P6 o k z len cap lim=>match w9 (len.ev e),w9 (cap.ev e)with
  | some l,some c=>if 0<=l/\l<=c/\c<=(lim:Int)/\z.cells.length=k/\z.deep=true/\z.cells.all X.one=true then some (.ref o ((s o).g+1) k 0 l.toNat,aN s o (.row k (List.replicate l.toNat z)))else none
  | _,_=>none
 | .len a=>match a.ev e with
  | .sl _ es=>some (.v (.int .i64 es.length),s)
  | .ref o g _ _ n=>if g=(s o).g then some (.v (.int .i64 n),s)else none
  | .nil=>some (.v (.int .i64 0),s)
  | _=>none
 | .lens a=>match a.ev e with
  | .v (.string b)=>some (.v (.int .i64 b.size),s)
  | _=>none
 | .app o k lim a b=>CQ s o k lim (a.ev e) (b.ev e)
 | .Rh o k lim a b=>y9 s o k lim (a.ev e) (b.ev e)
 | .bA mx a l=>match a.ev e with
  | .v u=>match qU mx e u l with
   | some z=>some (.v z,s)
   | none=>none
  | _=>none
 | .ext a i=>match a.ev e with
  | .cZ cs=>tC cs[i]? s
  | _=>none
 | .KI f l=>if(l.map (Ar.ev e)).all X.one=true then some (.fn f (l.map (Ar.ev e)),s)else none
 | .IX f l=>if(l.map (Ar.ev e)).all X.one=true then some (.fm f (l.map (Ar.ev e)),s)else none
 | .VT neg a=>match a.ev e with
  | .fn _ _=>some (.v (.bool neg),s)
  | .fm _ _=>some (.v (.bool neg),s)
  | .v .nilFunc=>some (.v (.bool !neg),s)
  | _=>none
 | .no=>none
 | .call ..=>none
 | .gN ..=>none
 | .bO ..=>none
 | .lu ..=>none
 | .bU ..=>none
 | .gW ..=>none
 | .VU neg a=>match a.ev e with
  | .sl _ (_::_)=>some (.v (.bool neg),s)
  | .ref o g _ _ _=>if g=(s o).g then some (.v (.bool neg),s)else none
  | _=>none
 | .KJ o h=>if Bf e h=true then some (.mp o ((s o).g+1),aN s o (.map []))else none
 | .KL ks ag m k z ok=>match GD s (m.ev e)with
  | some (_,es)=>match kz ks ag (k.ev e) es with
   | some r=>match (match r with
    | some i=>es[i]?.map Prod.snd
    | none=>some z)with
    | some v=>some (if ok then .cZ [v,.v (.bool r.isSome)]else v,s)
    | none=>none
   | none=>none
  | none=>none
 | .SK ks ag m k z=>match GD s (m.ev e)with
  | some (o,es)=>match kz ks ag (k.ev e) es with
   | some (some i)=>match es[i]? with
    | some p=>some (.cZ [p.2,.v (.int .i64 i)],bF s o (.map es))
    | none=>none
   | some none=>if(k.ev e).fM=true/\z.fM=true then some (.cZ [z,.v (.int .i64 es.length)],bF s o (.map (es++[(k.ev e,z)])))else none
   | none=>none
  | none=>none
 | .SQ m st v=>match GD s (m.ev e),w9 (st.ev e)with
  | some (o,es),some i=>if 0<=i/\i<(es.length:Int)/\(v.ev e).fM=true then some (.junk,bF s o (.map (x9 es i.toNat (v.ev e))))else none
  | _,_=>none
 | .Rl ks ag m k v=>match GD s (m.ev e)with
  | some (o,es)=>if(k.ev e).fM=true/\(v.ev e).fM=true then match kz ks ag (k.ev e) es with
   | some (some i)=>some (.junk,bF s o (.map (x9 es i (v.ev e))))
   | some none=>some (.junk,bF s o (.map (es++[(k.ev e,v.ev e)])))
   | none=>none
   else none
  | none=>none
 | .P7 m=>match GD s (m.ev e)with
  | some (_,es)=>some (.v (.int .i64 es.length),s)
  | none=>none
def rG:X->X->Bool
 | .v (.int k a),.v (.int k' b)=>k==k'&&a==b
 | .v (.bool a),.v (.bool b)=>a==b
 | _,_=>false
def bS(id:Nat):List It->Option (List It)
 | .bl id'::k=>if id'==id then some k else bS id k
 | _::k=>bS id k
 | []=>none
def gd(o:fE)(e:Env):Option Bool:=
 match o.g with
 | none=>some true
 | some (t,want)=>match e t with
  | .v (.bool b)=>some (b==want)
  | .cZ []=>some false
  | _=>none
def put(e:Env)(d:Option Nat)(x:X):Env:=
 match d with
 | some d=>upd e d x
 | none=>e
def bG(l:List X):Env:=fun n=>l.getD n .junk
def s0:ax:=fun _=>⟨0,false,none,0⟩
def ZH(s:ax):List X->Option (List X)
 | []=>some []
 | .agg cs::l=>match tq s cs,ZH s l with
  | some ds,some m=>some (.agg ds::m)
  | _,_=>none
 | _::_=>none
def RY(s:ax):X->Option X
 | .ref o g k i n=>match (s o).o with
  | some (.row k' es)=>if g=(s o).g/\k=k'/\i+n<=es.length then match ZH s ((es.drop i).take n)with
   | some ds=>some (.sl true ds)
   | none=>none
   else none
  | _=>none
 | x=>nI s x
def nmm(s:ax):X->List Nat
 | .ref o _ _ _ _=>o::match (s o).o with
  | some (.row _ es)=>es.flatMap nX
  | _=>[]
 | x=>nX x
def zx(e:Env)(s:ax):gQ->Option X
 | .tmp t=>nI s (e t)
 | .WZ t=>RY s (e t)
 | .cell t w ag=>match EX s (e t) w ag with
  | some x=>nI s x
  | none=>none
def uU(e:Env)(s:ax):List gQ->Option (List X)
 | []=>some []
 | r::l=>match zx e s r,uU e s l with
  | some x,some m=>some (x::m)
  | _,_=>none
def aC(e:Env)(s:ax)(l:List gQ):Option X:=
 match l with
 | [r]=>zx e s r
 | _=>match uU e s l with
  | some m=>some (.cZ m)
  | none=>none
def xX(e:Env)(s:ax):List gQ->List Nat
 | []=>[]
 | .tmp t::l=>nX (e t)++xX e s l
 | .WZ t::l=>nmm s (e t)++xX e s l
 | .cell t w ag::l=>(match EX s (e t) w ag with
  | some x=>nX x
  | none=>[])++xX e s l
def zn:X->Option X
 | .nil=>some (.sl true [])
 | .agg _=>none
 | .cZ _=>none
 | x=>if x.deep then some x else none
def RX:List X->Option (List X)
 | []=>some []
 | x::l=>match zn x,RX l with
  | some y,some m=>some (y::m)
  | _,_=>none
def Da:X->Option X
 | .agg cs=>match RX cs with
  | some ds=>some (.agg ds)
  | none=>none
 | x=>zn x
def zF(s:ax):X->Option X
 | .ptr o g j=>match (s o).o with
  | some (.box y)=>if g=(s o).g then match Da y with
   | some z=>some (.ip z j)
   | none=>none
   else none
  | _=>none
 | .ip x j=>if x.deep then some (.ip x j)else none
 | x=>mK s x
def sZ(s:ax):List X->Option (List X)
 | []=>some []
 | x::l=>match zF s x,sZ s l with
  | some y,some m=>some (y::m)
  | _,_=>none
def yD(s:ax):X->Option X
 | .fn f cs=>match sZ s cs with
  | some ds=>some (.fn f ds)
  | none=>none
 | .ptr o g j=>zF s (.ptr o g j)
 | .ip x j=>zF s (.ip x j)
 | x=>nI s x
def S9:X->List Nat
 | .ptr o _ _=>[o]
 | x=>p_ x
def nJ:X->List Nat
 | .fn _ cs=>cs.flatMap S9
 | .ptr o _ _=>[o]
 | x=>nX x
def vO(s:ax):List X->Option (List X)
 | []=>some []
 | x::l=>match yD s x,vO s l with
  | some y,some m=>some (y.shr::m)
  | _,_=>none
def jG(run:List It->Env->ax->Option (Env×ax))(T:Nat->Option Fe)(f:Nat)(xs:List X):Option X:=
 match T f with
 | none=>none
 | some (.ext F)=>F xs
 | some (.uK _)=>none
 | some (.yx ..)=>none
 | some (.code nt res body)=>
  if xs.length<=nt then
   match run [.code body] (bG xs) s0 with
   | some (e,s)=>aC e s res
   | none=>none
  else none
def dZ(e:Env)(s:ax):gQ->Option X
 | .tmp t=>some (e t)
 | .WZ t=>some (e t)
 | .cell t w ag=>EX s (e t) w ag
def bV(e:Env)(s:ax):List gQ->Option (List X)
 | []=>some []
 | r::l=>match dZ e s r,bV e s l with
  | some x,some m=>some (x::m)
  | _,_=>none
def dX(e:Env)(s:ax)(l:List gQ):Option X:=
 match l with
 | [r]=>dZ e s r
 | _=>match bV e s l with
  | some m=>some (.cZ m)
  | none=>none
def JK(s:ax):X->Option (X×ax)
 | .ptr o g j=>match (s o).o with
  | some (.box (.agg cs))=>if g=(s o).g/\(s o).wr=true/\¬o∈cs.flatMap p_ then match tq s cs with
   | some ds=>some (.ptr o g j,bF (gX s (cs.flatMap p_)) o (.box (.agg ds)))
   | none=>none
   else none
  | _=>none
 | _=>none
def bZ(run:List It->Env->ax->Option (Env×ax))(T:Nat->Option Fe)(f:Nat)(xs:List X)(s:ax):Option (X×ax):=
 match T f with
 | some (.code nt res body)=>
  if xs.length<=nt then
   match run [.code body] (bG xs) s with
   | some (e',s')=>match dX e' s' res with
    | some x=>some (x,s')
    | none=>none
   | none=>none
  else none
 | some (.yx nt res body)=>
  if xs.length<=nt then
   match run [.code body] (bG xs) s with
   | some (e',s')=>match aC e' s' res with
    | some x=>some (x,gX s' (xX e' s' res))
    | none=>match dX e' s' res with
     | some x=>JK s' x
     | none=>none
   | none=>none
  else none
 | some (.uK F)=>F xs s
 | _=>none
def qt(s:ax)(l:List Nat):Bool:=l.all fun o=>(s o).o.isSome&&!(s o).wr
@[simp] theorem qt_nil(s:ax):qt s []=true:=rfl
def iM(run:List It->Env->ax->Option (Env×ax))(T:Nat->Option Fe)(still:Bool)(f:Nat)(l:List X)(s:ax):Option (X×ax):=
 match vO s l with
 | none=>none
 | some xs=>match jG run T f xs with
  | none=>none
  | some r=>if r.fM=true then some (r,s)else if still=true then(if qt s (l.flatMap nJ)=true then some (r,s)else none)else some (r,gX s (l.flatMap nJ))
def Db(s:ax):X->Option X
 | .ref o g k i n=>RY s (.ref o g k i n)
 | x=>yD s x
def SY(s:ax):X->List Nat
 | .ref o g k i n=>nmm s (.ref o g k i n)
 | x=>nJ x
def zm(s:ax):List X->Option (List X)
 | []=>some []
 | x::l=>match Db s x,zm s l with
  | some y,some m=>some (y.shr::m)
  | _,_=>none
def tO(run:List It->Env->ax->Option (Env×ax))(T:Nat->Option Fe)(f:Nat)(l:List X)(s:ax):Option (X×ax):=
 match zm s l with
 | none=>none
 | some xs=>match jG run T f xs with
  | none=>none
  | some r=>if r.fM=true then some (r,s)else none
def Wl(s:ax):List X->Option (List X)
 | []=>some []
 | x::l=>match nI s x,Wl s l with
  | some y,some m=>some (y::m)
  | _,_=>none
def nk(s:ax):List Nat->X->Option (X×X)
 | [],x=>some (.nil,x)
 | i::p,.cZ cs=>match cs[i]? with
  | some c=>match nk s p c,Wl s (cs.set i .nil)with
   | some (h,y),some ds=>some (.cZ (ds.set i h),y)
   | _,_=>none
  | none=>none
 | [i],.agg cs=>match cs[i]?,tq s (cs.set i .nil)with
  | some c,some ds=>some (.agg (ds.set i .nil),c)
  | _,_=>none
 | _,_=>none
def oM:List Nat->X->List Nat
 | [],_=>[]
 | i::p,.cZ cs=>(cs.set i .nil).flatMap nX++(match cs[i]? with
  | some c=>oM p c
  | none=>[])
 | i::_,.agg cs=>(cs.set i .nil).flatMap p_
 | _,_=>[]
def plug:List Nat->X->X->X
 | [],_,y=>y
 | i::p,.cZ cs,y=>.cZ (cs.set i (plug p (cs.getD i .nil) y))
 | i::_,.agg cs,y=>.agg (cs.set i y)
 | _,x,_=>x
def uP(s:ax)(nm:List Nat):Option (X×X)->Option (X×Option (Nat×List X))
 | some (r,.nil)=>some (r,none)
 | some (r,.ref o g k i n)=>match (s o).o with
  | some (.row k' es)=>if g=(s o).g/\(s o).wr=true/\k=k'/\i=0/\n=es.length/\aT es=true/\¬o∈nm then some (r,some (k,es))else none
  | _=>none
 | _=>none
def uO(run:List It->Env->ax->Option (Env×ax))(T:Nat->Option Fe)(p:List Nat)(f:Nat)(xs:List X):Option (X×Option (Nat×List X)):=
 match T f with
 | some (.code nt res body)=>
  if xs.length<=nt then
   match run [.code body] (bG xs) s0 with
   | some (e,s)=>match dX e s res with
    | some r=>uP s (oM p r) (nk s p r)
    | none=>none
   | none=>none
  else none
 | _=>none
def jy(st:Bool)(p:List Nat)(q:Nat)(nm:List Nat)(s:ax):Option (X×Option (Nat×List X))->Option (X×ax)
 | some (r,none)=>if st=true/\¬(nm=[])then none else some (plug p r .nil,gX s nm)
 | some (r,some (k,es))=>if(st=true/\¬(nm=[]))\/q∈nm then none else some (plug p r (.ref q ((s q).g+1) k 0 es.length),aN (gX s nm) q (.row k es))
 | none=>none
def qH(run:List It->Env->ax->Option (Env×ax))(T:Nat->Option Fe)(st:Bool)(p:List Nat)(q f:Nat)(l:List X)(s:ax):Option (X×ax):=
 match vO s l with
 | none=>none
 | some xs=>jy st p q (l.flatMap nJ) s (uO run T p f xs)
def puts(e:Env):List Nat->List X->Env
 | p::ps,x::l=>puts (upd e p x) ps l
 | _,_=>e
def J6(s:ax)(q g:Nat):Option ax:=match (s q).o with
 | some (.lp e ps a b .ready)=>if(s q).g=g/\(s q).wr=true then some (bF s q (.lp e ps a b .busy))else none
 | _=>none
def Kz(s:ax)(q g:Nat):Option ax:=match (s q).o with
 | some (.lp e ps a b .busy)=>if(s q).g=g/\(s q).wr=true then some (bF s q (.lp e ps a b .ready))else none
 | _=>none
def zq(s:ax)(q:Nat)(j:Option Nat):Option ax:=match (s q).o with
 | some (.lp e ps a b .busy)=>if(s q).wr=true then some (bF s q (.lp e ps a b (.done j)))else none
 | _=>none
def Dm(g q:Nat):Option (Env×ax)->Option (X×ax)
 | some (_,s)=>match (s q).o with
  | some (.lp _ _ _ _ .ready)=>if(s q).g=g/\(s q).wr=true then some (.v (.bool true),s)else none
  | some (.lp _ _ _ _ (.done _))=>if(s q).g=g/\(s q).wr=true then some (.v (.bool false),s)else none
  | _=>none
 | none=>none
def gZ(run:List It->Env->ax->Option (Env×ax))(q g:Nat)(l:List X)(s:ax):Option (X×ax):=match (s q).o with
 | some (.lp e ps a b .ready)=>if g=(s q).g/\(s q).wr=true/\l.length=ps.length then Dm g q (run [.code a,.Ri q g,.code b,.Rj q g] (puts e ps l) s)else none
 | _=>none
def nD(s:ax)(q:Nat):ax:=upd s q ⟨(s q).g,(s q).wr,none,(s q).n+1⟩
def ZM(g q:Nat):Option (X×ax)->Option (Option (Option Nat)×ax)
 | some (_,s)=>match (s q).o with
  | some (.lp _ _ _ _ .ready)=>if(s q).g=g/\(s q).wr=true then some (none,nD s q)else none
  | some (.lp _ _ _ _ (.done j))=>if(s q).g=g/\(s q).wr=true then some (some j,nD s q)else none
  | _=>none
 | none=>none
def n_(run:List It->Env->ax->Option (Env×ax))(T:Nat->Option Fe)(q:Nat)(x:X)(ps:List Nat)(a b:IC)(e:Env)(s:ax):Option (Option (Option Nat)×ax):=match x with
 | .fn f cs=>ZM ((s q).g+1) q (bZ run T f (.Dq q ((s q).g+1)::cs) (aN s q (.lp e ps a b .ready)))
 | _=>none
def dB(run:List It->Env->ax->Option (Env×ax))(T:Nat->Option Fe)(op:iw)(e:Env)(s:ax):Option (X×ax):=
 match op with
 | .call st f l=>iM run T st f (l.map (Ar.ev e)) s
 | .gN st f l=>match f.ev e with
  | .fn g cs=>iM run T st g (l.map (Ar.ev e)++cs) s
  | _=>none
 | .bO f l=>bZ run T f (l.map (Ar.ev e)) s
 | .lu f l=>tO run T f (l.map (Ar.ev e)) s
 | .bU st p q f l=>qH run T st p q f (l.map (Ar.ev e)) s
 | .gW f l=>match f.ev e with
  | .fn g cs=>if aT cs=true then iM run T false g (l.map (Ar.ev e)++cs) s else bZ run T g (l.map (Ar.ev e)++cs) s
  | .fm g cs=>bZ run T g (cs++l.map (Ar.ev e)) s
  | .Dq q g=>gZ run q g (l.map (Ar.ev e)) s
  | _=>none
 | op=>aB op e s
def vJ(ch:List Nat)(js:List fE)(s0:ax)(e:Env)(s:ax):Bool:=
 (ch.all fun t=>(lK (e t)).all fun o=>(s o).n==(s0 o).n)&&
 js.all fun g=>match g.d,aB g.op e s0,aB g.op e s with
  | some d,some (x,_),some (y,_)=>rG x (e d)&&rG y (e d)
  | _,_,_=>false
def runN(T:Nat->Option Fe):Nat->List It->Env->ax->Option (Env×ax)
 | 0,_,_,_=>none
 | n+1,its,e,s=>
  match its with
  | []=>some (e,s)
  | .code .skip::k=>runN T n k e s
  | .code .ret::_=>some (e,s)
  | .code (.ops l)::k=>runN T n (.ops l::k) e s
  | .code (.aH ch js l m)::k=>runN T n (.ops l::.Wd ch (js.filterMap fun j=>l[j]?) s::.ops m::k) e s
  | .Wd ch js s0::k=>if vJ ch js s0 e s=true then runN T n k e s else none
  | .code (.seq a b)::k=>runN T n (.code a::.code b::k) e s
  | .code (.cond c a b)::k=>
   match c.ev e with
   | .v (.bool t)=>cond t (runN T n (.code a::k) e s) (runN T n (.code b::k) e s)
   | _=>none
  | .code (.scope c)::k=>runN T n (.code c::k) e s
  | .code (.block id c)::k=>runN T n (.code c::.bl id::k) e s
  | .code (.loop c)::k=>runN T n (.code c::.lp c::k) e s
  | .code (.exit id)::k=>
   match bS id k with
   | some k'=>runN T n k' e s
   | none=>none
  | .code (.Vb q)::_=>match zq s q none with
   | some s'=>some (e,s')
   | none=>none
  | .code (.JF q id)::k=>match bS id k,zq s q (some id)with
   | none,some s'=>some (e,s')
   | _,_=>none
  | .Ri q g::k=>match J6 s q g with
   | some s'=>runN T n k e s'
   | none=>none
  | .Rj q g::_=>match Kz s q g with
   | some s'=>some (e,s')
   | none=>none
  | .code (.U_ q g ps a b)::k=>match n_ (runN T n) T q (g.ev e) ps a b e s with
   | some (none,s')=>runN T n k e s'
   | some (some none,s')=>some (e,s')
   | some (some (some id),s')=>(match bS id k with
    | some k'=>runN T n k' e s'
    | none=>none)
   | none=>none
  | .ops []::k=>runN T n k e s
  | .ops (o::l)::k=>
   match gd o e with
   | some true=>match dB (runN T n) T o.op e s with
    | some (x,s')=>runN T n (.ops l::k) (put e o.d x) s'
    | none=>none
   | some false=>runN T n (.ops l::k) (put e o.d (.cZ [])) s
   | none=>none
  | .lp c::k=>runN T n (.code c::.lp c::k) e s
  | .bl _::k=>runN T n k e s
def Mon(r r':List It->Env->ax->Option (Env×ax)):Prop:=∀its e s x,r its e s=some x->r' its e s=some x
theorem uD{r r':List It->Env->ax->Option (Env×ax)}(h:Mon r r'){T:Nat->Option Fe}{f:Nat}{xs:List X}{x:X}(hc:jG r T f xs=some x):jG r' T f xs=some x:=by
 unfold jG at *
 split at hc<;>first|(simp at hc;done)|exact hc|skip
 split at hc<;>first|(simp at hc;done)|skip
 rename_i hn;simp only[hn,if_true];split at hc<;>first|(simp at hc;done)|skip
 rename_i hr;rw[h _ _ _ _ hr];exact hc
theorem pq{r r':List It->Env->ax->Option (Env×ax)}(h:Mon r r'){T:Nat->Option Fe}{st:Bool}{f:Nat}{l:List X}{s:ax}{x:X×ax}(hc:iM r T st f l s=some x):iM r' T st f l s=some x:=by
 unfold iM at *
 split at hc<;>first|(simp at hc;done)|skip
 split at hc<;>first|(simp at hc;done)|skip
 rename_i hr;rw[uD h hr];exact hc
theorem mU{r r':List It->Env->ax->Option (Env×ax)}(h:Mon r r'){T:Nat->Option Fe}{f:Nat}{xs:List X}{s:ax}{x:X×ax}(hc:bZ r T f xs s=some x):bZ r' T f xs s=some x:=by
 unfold bZ at *
 split at hc
 ·split at hc<;>first|(simp at hc;done)|skip
  rename_i hn;simp only[hn,if_true];split at hc<;>first|(simp at hc;done)|skip
  rename_i hr;rw[h _ _ _ _ hr];exact hc
 ·split at hc<;>first|(simp at hc;done)|skip
  rename_i hn;simp only[hn,if_true];split at hc<;>first|(simp at hc;done)|skip
  rename_i hr;rw[h _ _ _ _ hr];exact hc
 ·exact hc
 ·simp at hc
theorem Kj{r r':List It->Env->ax->Option (Env×ax)}(h:Mon r r'){T:Nat->Option Fe}{f:Nat}{l:List X}{s:ax}{x:X×ax}(hc:tO r T f l s=some x):tO r' T f l s=some x:=by
 unfold tO at *
 split at hc<;>first|(simp at hc;done)|skip
 split at hc<;>first|(simp at hc;done)|skip
 rename_i hr;rw[uD h hr];exact hc
theorem D8{r r':List It->Env->ax->Option (Env×ax)}(h:Mon r r'){T:Nat->Option Fe}{p:List Nat}{f:Nat}{xs:List X}{x:X×Option (Nat×List X)}(hc:uO r T p f xs=some x):uO r' T p f xs=some x:=by
 unfold uO at *
 split at hc<;>first|(simp at hc;done)|skip
 split at hc<;>first|(simp at hc;done)|skip
 rename_i hn;simp only[hn,if_true];split at hc<;>first|(simp at hc;done)|skip
 rename_i hr;rw[h _ _ _ _ hr];exact hc
theorem Km{r r':List It->Env->ax->Option (Env×ax)}(h:Mon r r'){T:Nat->Option Fe}{st:Bool}{p:List Nat}{q f:Nat}{l:List X}{s:ax}{x:X×ax}(hc:qH r T st p q f l s=some x):qH r' T st p q f l s=some x:=by
 unfold qH at *
 split at hc<;>first|(simp at hc;done)|skip
 rename_i xs hxs;cases ho:uO r T p f xs with
 | none=>rw[ho]at hc;simp[jy]at hc
 | some y=>rw[ho]at hc;rw[D8 h ho];exact hc
theorem y5{r r':List It->Env->ax->Option (Env×ax)}(h:Mon r r'){q g:Nat}{l:List X}{s:ax}{x:X×ax}(hc:gZ r q g l s=some x):gZ r' q g l s=some x:=by
 unfold gZ at *
 split at hc<;>first|(simp at hc;done)|skip
 split at hc<;>first|(simp at hc;done)|skip
 rename_i e ps a b ho hn;rw[if_pos hn];cases hr:r [.code a,.Ri q g,.code b,.Rj q g] (puts e ps l) s with
 | none=>rw[hr]at hc;simp[Dm]at hc
 | some y=>rw[hr]at hc;rw[h _ _ _ _ hr];exact hc
theorem xY{r r':List It->Env->ax->Option (Env×ax)}(h:Mon r r'){T:Nat->Option Fe}{q:Nat}{x:X}{ps:List Nat}{a b:IC}{e:Env}{s:ax}{y:Option (Option Nat)×ax}(hc:n_ r T q x ps a b e s=some y):n_ r' T q x ps a b e s=some y:=by
 unfold n_ at *
 split at hc<;>first|(simp at hc;done)|skip
 rename_i f cs;cases hr:bZ r T f (.Dq q ((s q).g+1)::cs) (aN s q (.lp e ps a b .ready))with
 | none=>rw[hr]at hc;simp[ZM]at hc
 | some z=>rw[hr]at hc;rw[mU h hr];exact hc
theorem wJ{r r':List It->Env->ax->Option (Env×ax)}(h:Mon r r'){T:Nat->Option Fe}{op:iw}{e:Env}{s:ax}{x:X×ax}(hc:dB r T op e s=some x):dB r' T op e s=some x:=by
 unfold dB at *
 split at hc
 ·exact pq h hc
 ·split at hc<;>first|(simp at hc;done)|exact pq h hc
 ·exact mU h hc
 ·exact Kj h hc
 ·exact Km h hc
 ·split at hc
  ·split at hc
   ·rename_i hd;rw[if_pos hd];exact pq h hc
   ·rename_i hd;rw[if_neg hd];exact mU h hc
  ·exact mU h hc
  ·exact y5 h hc
  ·simp at hc
 ·exact hc
theorem LU(T:Nat->Option Fe){n m:Nat}(ih:Mon (runN T n) (runN T m)):Mon (runN T (n+1)) (runN T (m+1)):=by
 intro its e s x h;rcases its with _|⟨it,k⟩
 ·simpa only[runN]using h
 cases it with
 | code c=>
  cases c with
  | cond c a b=>
   simp only[runN]at h ⊢;split at h
   ·rename_i t hc;cases t
    ·exact ih _ _ _ _ h
    ·exact ih _ _ _ _ h
   ·simp at h
  | exit id=>
   simp only[runN]at h ⊢;split at h
   ·exact ih _ _ _ _ h
   ·simp at h
  | ret=>simpa only[runN]using h
  | Vb q=>simpa only[runN]using h
  | JF q id=>simpa only[runN]using h
  | U_ q g ps a b=>
   simp only[runN]at h ⊢;cases hr:n_ (runN T n) T q (g.ev e) ps a b e s with
   | none=>rw[hr]at h;simp at h
   | some y=>
    obtain⟨j,s'⟩:=y;rw[hr]at h
    rw[xY ih hr];rcases j with _|_|id
    ·exact ih _ _ _ _ h
    ·exact h
    ·simp only at h ⊢;split at h
     ·exact ih _ _ _ _ h
     ·simp at h
  | _=>simp only[runN]at h ⊢;exact ih _ _ _ _ h
 | ops l=>
  rcases l with _|⟨o,l⟩
  ·simp only[runN]at h ⊢;exact ih _ _ _ _ h
  ·simp only[runN]at h ⊢;split at h
   ·split at h
    ·rename_i hr;simp only[wJ ih hr];exact ih _ _ _ _ h
    ·simp at h
   ·exact ih _ _ _ _ h
   ·simp at h
 | lp c=>simp only[runN]at h ⊢;exact ih _ _ _ _ h
 | bl id=>simp only[runN]at h ⊢;exact ih _ _ _ _ h
 | Wd ch js s0=>
  simp only[runN]at h ⊢;split at h
  ·rename_i hc;rw[if_pos hc];exact ih _ _ _ _ h
  ·simp at h
 | Ri q g=>
  simp only[runN]at h ⊢;split at h
  ·exact ih _ _ _ _ h
  ·simp at h
 | Rj q g=>simpa only[runN]using h
theorem xZ(T:Nat->Option Fe):∀n,Mon (runN T n) (runN T (n+1)):=by
 intro n;induction n with
 | zero=>intro its e s x h;simp[runN]at h
 | succ n ih=>exact LU T ih
theorem jr(T:Nat->Option Fe){n m:Nat}(h:n<=m):Mon (runN T n) (runN T m):=by
 induction h with
 | refl=>intro _ _ _ _ h;exact h
 | step _ ih=>intro its e s x hx;exact xZ T _ _ _ _ _ (ih _ _ _ _ hx)
open Classical in
noncomputable def run(T:Nat->Option Fe)(its:List It)(e:Env)(s:ax):Option (Env×ax):=
 if h:∃x,∃n,runN T n its e s=some x then some h.choose else none
theorem nA{T:Nat->Option Fe}{n:Nat}{its:List It}{e:Env}{s:ax}{x:Env×ax}(h:runN T n its e s=some x):run T its e s=some x:=by
 unfold run;have hx:∃x,∃n,runN T n its e s=some x:=⟨x,n,h⟩
 rw[dif_pos hx];obtain⟨m,hm⟩:=hx.choose_spec;have h1:=jr T (Nat.le_max_left n m) _ _ _ _ h;have h2:=jr T (Nat.le_max_right n m) _ _ _ _ hm;rw[h1]at h2
 exact h2.symm
theorem jm{T:Nat->Option Fe}{its:List It}{e:Env}{s:ax}{x:Env×ax}(h:run T its e s=some x):∃n,runN T n its e s=some x:=by
 unfold run at h;split at h
 ·rename_i hx;obtain⟨m,hm⟩:=hx.choose_spec;injection h with h;exact⟨m,h▸hm⟩
 ·simp at h
theorem Ab{T:Nat->Option Fe}{its its':List It}{e e':Env}{s s':ax}(h:∀x,(∃n,runN T n its e s=some x)↔(∃n,runN T n its' e' s'=some x)):run T its e s=run T its' e' s':=by
 cases hr:run T its e s with
 | some x=>obtain⟨n,hn⟩:=(h x).1 (jm hr);exact(nA hn).symm
 | none=>
  cases hr':run T its' e' s' with
  | none=>rfl
  | some x=>obtain⟨n,hn⟩:=(h x).2 (jm hr');rw[nA hn]at hr;simp at hr
theorem eD{T:Nat->Option Fe}{its its':List It}{e e':Env}{s s':ax}(h:∀n,runN T (n+1) its e s=runN T n its' e' s'):run T its e s=run T its' e' s':=
 Ab fun x=>⟨fun⟨n,hn⟩=>by
  cases n with
  | zero=>simp[runN]at hn
  | succ n=>exact⟨n,(h n)▸hn⟩,fun⟨n,hn⟩=>⟨n+1,(h n).trans hn⟩⟩
section
variable {T:Nat->Option Fe} {k:List It} {e:Env} {s:ax}
theorem Cs{its:List It}{x:Env×ax}(h:∀n,runN T (n+1) its e s=some x):run T its e s=some x:=nA (h 0)
theorem YC:run T [] e s=some (e,s):=Cs fun n=>by rw[runN]
theorem YF:run T (.code .ret::k) e s=some (e,s):=Cs fun n=>by rw[runN]
theorem Vj:run T (.code .skip::k) e s=run T k e s:=eD fun n=>by rw[runN]
theorem YE(l:List fE):run T (.code (.ops l)::k) e s=run T (.ops l::k) e s:=eD fun n=>by rw[runN]
theorem Vf(ch js:List Nat)(l m:List fE):run T (.code (.aH ch js l m)::k) e s=run T (.ops l::.Wd ch (js.filterMap fun j=>l[j]?) s::.ops m::k) e s:=eD fun n=>by rw[runN]
theorem YB{ch:List Nat}{js:List fE}{s0:ax}(h:vJ ch js s0 e s=true):run T (.Wd ch js s0::k) e s=run T k e s:=eD fun n=>by rw[runN,if_pos h]
theorem run_seq(a b:IC):run T (.code (.seq a b)::k) e s=run T (.code a::.code b::k) e s:=eD fun n=>by rw[runN]
theorem QN(c:IC):run T (.code (.scope c)::k) e s=run T (.code c::k) e s:=eD fun n=>by rw[runN]
theorem QM(id:Nat)(c:IC):run T (.code (.block id c)::k) e s=run T (.code c::.bl id::k) e s:=eD fun n=>by rw[runN]
theorem Vh(c:IC):run T (.code (.loop c)::k) e s=run T (.lp c::k) e s:=by rw[eD (its':=.code c::.lp c::k) (e':=e) (s':=s) fun n=>by rw[runN],eD (its:=.lp c::k) (its':=.code c::.lp c::k) (e':=e) (s':=s) fun n=>by rw[runN]]
theorem run_lp(c:IC):run T (.lp c::k) e s=run T (.code c::.lp c::k) e s:=eD fun n=>by rw[runN]
theorem run_bl(id:Nat):run T (.bl id::k) e s=run T k e s:=eD fun n=>by rw[runN]
theorem Vg{id:Nat}{k':List It}(h:bS id k=some k'):run T (.code (.exit id)::k) e s=run T k' e s:=eD fun n=>by rw[runN,h]
theorem JH:run T (.ops []::k) e s=run T k e s:=eD fun n=>by rw[runN]
theorem Ve{c:Ar}{a b:IC}{t:Bool}(h:c.ev e=.v (.bool t)):run T (.code (.cond c a b)::k) e s=cond t (run T (.code a::k) e s) (run T (.code b::k) e s):=by
 cases t
 ·exact eD fun n=>by rw[runN];simp only[h,cond]
 ·exact eD fun n=>by rw[runN];simp only[h,cond]
theorem YD{o:fE}{l:List fE}(h:gd o e=some false):run T (.ops (o::l)::k) e s=run T (.ops l::k) (put e o.d (.cZ [])) s:=eD fun n=>by rw[runN];simp only[h]
noncomputable def call(T:Nat->Option Fe)(f:Nat)(xs:List X):Option X:=jG (run T) T f xs
theorem oC{f:Nat}{xs:List X}{x:X}:call T f xs=some x↔∃n,jG (runN T n) T f xs=some x:=by
 constructor
 ·intro h;unfold call jG at h;split at h
  ·simp at h
  ·rename_i F hF;exact⟨0,by simp only[jG,hF];exact h⟩
  ·simp at h
  ·simp at h
  ·rename_i nt res body hF;split at h
   ·rename_i hn;split at h
    ·rename_i hr;obtain⟨n,hn'⟩:=jm hr;exact⟨n,by simp only[jG,hF,hn,hn',if_true];exact h⟩
    ·simp at h
   ·simp at h
 ·rintro⟨n,h⟩;exact uD (fun its e s x hx=>nA hx) h
theorem oD{f:Nat}{xs:List X}{s:ax}{x:X×ax}:bZ (run T) T f xs s=some x↔∃n,bZ (runN T n) T f xs s=some x:=by
 constructor
 ·intro h;unfold bZ at h;split at h
  ·rename_i nt res body hF;split at h
   ·rename_i hn;split at h
    ·rename_i hr;obtain⟨n,hn'⟩:=jm hr;exact⟨n,by simp only[bZ,hF,hn,hn',if_true];exact h⟩
    ·simp at h
   ·simp at h
  ·rename_i nt res body hF;split at h
   ·rename_i hn;split at h
    ·rename_i hr;obtain⟨n,hn'⟩:=jm hr;exact⟨n,by simp only[bZ,hF,hn,hn',if_true];exact h⟩
    ·simp at h
   ·simp at h
  ·rename_i F hF;exact⟨0,by simp only[bZ,hF];exact h⟩
  ·simp at h
 ·rintro⟨n,h⟩;exact mU (fun its e s x hx=>nA hx) h
theorem DC{f nt:Nat}{res:List gQ}{body:IC}{xs:List X}{e':Env}{s':ax}{x:X}(hT:T f=some (.code nt res body))(hn:xs.length<=nt)
 (hr:run T [.code body] (bG xs) s0=some (e',s')) (hx:aC e' s' res=some x):call T f xs=some x:=by
 simp only[call,jG,hT,hn,if_true,hr,hx]
end
def okK:Value->X->Bool
 | .int k n,.v (.int k' n')=>k==k'&&n==n'
 | .bool b,.v (.bool b')=>b==b'
 | .string s,.v (.string s')=>s.data.toList==s'.data.toList
 | .nilIface,.v .nilIface=>true
 | .nilFunc,.v .nilFunc=>true
 | .pointer none,.v (.pointer none)=>true
 | .map none,.v (.map none)=>true
 | .slice none 0 0,.nil=>true
 | .slice none 0 0,.sl _ []=>true
 | _,_=>false
def Qf:List Value->List X->Bool
 | [],[]=>true
 | v::l,x::m=>okK v x&&Qf l m
 | _,_=>false
def Xb:Value->X->Bool
 | .agg vs,.agg cs=>Qf vs.toList cs
 | v,x=>okK v x
def dU:Operand->Ar->Bool
 | .tmp t,.t n=>t==n
 | .const v,.k x=>okK v x
 | .func f,.k (.fn g [])=>f==g
 | _,_=>false
def iY:List Operand->List Ar->Bool
 | [],[]=>true
 | x::l,a::m=>dU x a&&iY l m
 | _,_=>false
def wG:Option Operand->Option Ar->Bool
 | none,none=>true
 | some x,some a=>dU x a
 | _,_=>false
def nC(P:Program)(t:TypeId)(w:Nat):Bool:=match P.info? t with
 | some i=>i.size==w
 | none=>false
def jX(P:Program)(t:TypeId)(ag:Bool):Bool:=match P.underlying t with
 | some (.struct _)|some (.array _ _)=>ag
 | some _=>!ag
 | none=>false
def oQ(P:Program)(t:TypeId)(z:X):Bool:=match P.info? t with
 | some i=>match i.zero with
  | some v=>Xb v z
  | none=>false
 | none=>false
def byB(P:Program)(t:TypeId)(lim:Nat):Bool:=match P.info? t with
 | some i=>decide (0<i.bytes)&&decide (lim*i.bytes<=140737488355328)
 | none=>false
def Qb(P:Program)(fs:Array Field):List (Nat×Operand)->List (Nat×Nat×Ar)->Bool
 | [],[]=>true
 | (i,x)::l,(j,w,a)::m=>(match fs[i]? with
  | some f=>f.offset==j&&nC P f.type w
  | none=>false)&&dU x a&&Qb P fs l m
 | _,_=>false
def Qd(k:Nat):List (Nat×Operand)->List (Nat×Nat×Ar)->Bool
 | [],[]=>true
 | (i,x)::l,(j,w,a)::m=>(i*k==j&&w==k)&&dU x a&&Qd k l m
 | _,_=>false
def zw:List (Nat×Operand)->List (Nat×Ar)->Bool
 | [],[]=>true
 | (i,x)::l,(j,a)::m=>i==j&&dU x a&&zw l m
 | _,_=>false
def OL(P:Program)(t:TypeId):Bool:=match P.underlying t with
 | some (.int _)|some .string=>true
 | _=>false
def boolT(P:Program)(t:TypeId):Bool:=match P.underlying t with
 | some .bool=>true
 | _=>false
def dn(P:Program):Op->iw->Bool
 | .move x,.bM a=>dU x a
 | .assign x,.bM a=>dU x a
 | .pick c x y,.pick c' a b=>dU c c'&&dU x a&&dU y b
 | .alloc t,.box _ (.k z)=>oQ P t z
 | .box _ x,.box _ a=>dU x a
 | .box _ x,.Aj a=>dU x a
 | .alloc t,.Aj (.k z)=>oQ P t z
 | .build t ps,.build z qs=>oQ P t (.agg z)&&(match P.underlying t with
  | some (.struct fs)=>(fs.toList.all fun f=>(P.info? f.type).isSome)&&Qb P fs ps.toList qs
  | some (.array _ e)=>match P.info? e with
   | some i=>Qd i.size ps.toList qs
   | none=>false
  | _=>false)
 | .buildSlice t n ps,.lg _ k m z qs=>(match P.underlying t with
  | some (.slice e)=>nC P e k&&oQ P e z&&decide (0<k)&&decide (z.cells.length=k)
  | _=>false)&&n==m&&decide (n*k<=16777216)&&zw ps.toList qs&&z.deep&&z.cells.all X.one
 | .buildSlice t n ps,.Zt _ k z _ _ a=>(match P.underlying t with
  | some (.slice e)=>nC P e k&&oQ P e z&&decide (0<k)&&decide (z.cells.length=k)
  | _=>false)&&n==1&&decide (n*k<=16777216)&&zw ps.toList [(0,a)]&&z.deep&&z.cells.all X.one
 | .buildSlice t n ps,.jP k m z qs=>(match P.underlying t with
  | some (.slice e)=>nC P e k&&oQ P e z&&decide (0<k)&&decide (z.cells.length=k)
  | _=>false)&&n==m&&decide (n*k<=16777216)&&zw ps.toList qs&&z.deep&&z.cells.all X.one
 | .load t x,.ld a w ag=>nC P t w&&jX P t ag&&dU x a
 | .store t x y,.st a b w=>nC P t w&&dU x a&&dU y b
 | .nilCheck x,.VX a=>dU x a
 | .binOp op t x y _,.bin op' a b=>op==op'&&dU x a&&dU y b&&OL P t
 | .binOp .eql t x y _,.ZJ false a b=>dU x a&&dU y b&&boolT P t
 | .binOp .neq t x y _,.ZJ true a b=>dU x a&&dU y b&&boolT P t
 | .unOp op _ x,.un op' a=>op==op'&&dU x a
 | .convert src dst x,.conv k a=>(P.underlying src).isSome&&(match P.underlying dst with
  | some (.int k')=>k==k'
  | _=>false)&&dU x a
 | .convert src dst x,.cvs a=>(match P.underlying src,P.underlying dst with
  | some .string,some .string=>true
  | _,_=>false)&&dU x a
 | .fieldAddr t x f,.fa a j=>(match P.underlying t with
  | some (.struct fs)=>match fs[f]? with
   | some f=>f.offset==j&&(match P.info? f.type with
    | some i=>decide (i.size≠0)
    | none=>false)
   | none=>false
  | _=>false)&&dU x a
 | .field t x f,.M4 a j w ag=>(match P.underlying t with
  | some (.struct fs)=>match fs[f]? with
   | some f=>f.offset==j&&nC P f.type w&&jX P f.type ag
   | none=>false
  | _=>false)&&dU x a
 | .indexAddr t x i,.dN a b w=>(match P.underlying t with
  | some (.slice e)=>nC P e w
  | _=>false)&&dU x a&&dU i b
 | .indexAddr t x i,.DX a b w n=>(match P.underlying t with
  | some (.array m e)=>nC P e w&&m==n
  | _=>false)&&dU x a&&dU i b
 | .index t x i,.JZ a b=>(match P.underlying t with
  | some .string=>true
  | _=>false)&&dU x a&&dU i b
 | .index t x i,.ixv a b w n ag=>(match P.underlying t with
  | some (.array m e)=>nC P e w&&jX P e ag&&m==n
  | _=>false)&&dU x a&&dU i b
 | .slice t x lo hi none,.sls a lo' hi'=>(match P.underlying t with
  | some .string=>true
  | _=>false)&&dU x a&&wG lo lo'&&wG hi hi'
 | .slice t x lo hi none,.Vp w a lo' hi'=>(match P.underlying t with
  | some (.slice e)=>nC P e w
  | _=>false)&&dU x a&&wG lo lo'&&wG hi hi'
 | .makeSlice t n c,.P6 _ k z a b lim=>(match P.underlying t with
  | some (.slice e)=>nC P e k&&oQ P e z&&byB P e lim&&decide (0<k)&&decide (z.cells.length=k)
  | _=>false)&&dU n a&&dU c b
 | .extract x i,.ext a j=>dU x a&&i==j
 | .makeFunc (.func f) fst cap,.KI g l=>f==g&&fst.isEmpty&&iY cap.toList l
 | .makeFunc (.func f) fst cap,.IX g l=>f==g&&cap.isEmpty&&iY fst.toList l
 | .call c,.len a=>(match c.callee with
  | .builtin .len=>true
  | _=>false)&&(match c.argTypes[0]? with
  | some t=>match P.underlying t with
   | some (.slice _)=>true
   | _=>false
  | none=>false)&&iY c.args.toList [a]
 | .call c,.lens a=>(match c.callee with
  | .builtin .len=>true
  | _=>false)&&(match c.argTypes[0]? with
  | some t=>match P.underlying t with
   | some .string=>true
   | _=>false
  | none=>false)&&iY c.args.toList [a]
 | .call c,.app _ k lim a b=>(match c.callee with
  | .builtin .append=>true
  | _=>false)&&(match c.argTypes.toList with
  | [t,u]=>t==u&&(match P.underlying t with
   | some (.slice e)=>nC P e k&&byB P e lim&&decide (0<k)&&(match P.info? e with
    | some i=>i.zero.any fun z=>z.cells.size==k
    | none=>false)
   | _=>false)
  | _=>false)&&iY c.args.toList [a,b]
 | .call c,.Rh _ k lim a b=>(match c.callee with
  | .builtin .append=>true
  | _=>false)&&(match c.argTypes.toList with
  | [t,u]=>t==u&&(match P.underlying t with
   | some (.slice e)=>nC P e k&&byB P e lim&&decide (0<k)&&(match P.info? e with
    | some i=>i.zero.any fun z=>z.cells.size==k
    | none=>false)
   | _=>false)
  | _=>false)&&iY c.args.toList [a,b]
 | .call c,.bA mx a l=>(match c.callee,mx with
  | .builtin .max,true=>true
  | .builtin .min,false=>true
  | _,_=>false)&&iY c.args.toList (a::l)
 | _,_=>false
def lM(P:Program)(f:Nat):Bool:=match P.funcs[f]? with
 | some fn=>fn.body.isSome&&fn.name != "runtime.NumGoroutine"
 | none=>false
def gL(P:Program):Op->iw->Bool
 | .call c,.call _ f l=>match c.callee with
  | .value (.func g)=>f==g&&iY c.args.toList l&&lM P f
  | _=>false
 | .call c,.bO f l=>match c.callee with
  | .value (.func g)=>f==g&&iY c.args.toList l&&lM P f
  | _=>false
 | .call c,.lu f l=>match c.callee with
  | .value (.func g)=>f==g&&iY c.args.toList l&&lM P f
  | _=>false
 | .call c,.gN _ f l=>match c.callee with
  | .value x=>dU x f&&iY c.args.toList l
  | _=>false
 | .call c,.bU _ _ _ f l=>match c.callee with
  | .value (.func g)=>f==g&&iY c.args.toList l&&lM P f
  | _=>false
 | .call c,.gW f l=>match c.callee with
  | .value x=>dU x f&&iY c.args.toList l
  | _=>false
 | _,_=>false
theorem Fa{v:Value}{x:X}(h:okK v x=true)(C:Cx):aZ C x v:=by
 unfold okK at h;split at h
 case h_1=>simp only[bN,beq_iff_eq]at h;obtain⟨rfl,rfl⟩:=h;exact .v rfl
 case h_2=>simp only[beq_iff_eq]at h;subst h;exact .v rfl
 case h_3 s s'=>
  simp only[beq_iff_eq]at h;have:s=s':=by cases s;cases s';simp only[ByteArray.mk.injEq];exact Array.toList_inj.1 h
  subst this;exact .v rfl
 case h_8=>exact .nil
 case h_9=>exact .sl0
 case h_10=>simp at h
 all_goals exact .v rfl
theorem Xa{v:Value}{x:X}(h:okK v x=true):x.one=true/\x.cells=[x]/\v.cells=#[v]/\v.oneCell'=true:=by unfold okK at h;split at h<;>first|exact⟨rfl,rfl,rfl,rfl⟩|simp at h
theorem S_:∀ {l:List Value} {m:List X},Qf l m=true->∀C,m.length=l.length/\(∀c∈m,c.one=true)/\∀(j:Nat) c v,m[j]?=some c->l[j]?=some v->aZ C c v:=by
 intro l;induction l with
 | nil=>intro m h C;cases m with
  | nil=>exact⟨rfl,by simp,by simp⟩
  | cons=>simp[Qf]at h
 | cons v l ih=>intro m h C;cases m with
  | nil=>simp[Qf]at h
  | cons x m=>
   simp only[Qf,bN]at h;obtain⟨h1,h2,h3⟩:=ih h.2 C;refine⟨by simp[h1],?_,?_⟩
   ·intro c hc;cases hc with
    | head=>exact(Xa h.1).1
    | tail _ hc=>exact h2 c hc
   ·intro j c u hc hu;cases j with
    | zero=>simp at hc hu;subst hc;subst hu;exact Fa h.1 C
    | succ j=>exact h3 j c u (by simpa using hc) (by simpa using hu)
theorem pQ{v:Value}{x:X}(h:Xb v x=true)(C:Cx):aZ C x v:=by
 unfold Xb at h;split at h
 ·obtain⟨h1,h2,h3⟩:=S_ h C;exact .agg (by simpa using h1) h2 (by simpa using h3)
 ·exact Fa h C
def ve(C:Cx)(e:Env)(a:Act):Prop:=∀n,aZ C (e n) (a.tmps.getD n undef)
theorem aD{C:Cx}{e:Env}{a:Act}(hE:ve C e a){x:Operand}{r:Ar}(h:dU x r=true):aZ C (r.ev e) (a.eval x):=by
 unfold dU at h;split at h
 ·simp only[beq_iff_eq]at h;subst h;exact hE _
 ·exact Fa h C
 ·simp only[beq_iff_eq]at h;subst h;exact .fn rfl (by simp)
 ·simp at h
variable {P:Program}
theorem dx{t:TypeId}{k:Nat}(h:nC P t k=true)(w:World):(sizeOf t).run P w=.ok k w:=by
 unfold nC at h;split at h
 ·rename_i i hi;simp only[beq_iff_eq]at h;simp[sizeOf,typeInfo,hi,h]
 ·simp at h
theorem eP{t:TypeId}{b:Bool}(h:jX P t b=true)(w:World):(isAgg t).run P w=.ok b w:=by
 unfold jX at h;split at h
 ·rename_i hu;simp[isAgg,run_underlying hu,h]
 ·rename_i hu;simp[isAgg,run_underlying hu,h]
 ·rename_i d h1 h2 hu;have hb:b=false:=by simpa using h
  subst hb;simp only[isAgg,Sem.run_bind,run_underlying hu,Result.andThen_ok];cases d<;>first|rfl|(exfalso;exact h1 _ rfl)|(exfalso;exact h2 _ _ rfl)
 ·simp at h
theorem CJ{t:TypeId}{z:X}(h:oQ P t z=true):∃i v,P.info? t=some i/\i.zero=some v/\Xb v z=true:=by
 unfold oQ at h;split at h
 ·rename_i i hi;split at h
  ·rename_i v hv;exact⟨i,v,hi,hv,h⟩
  ·simp at h
 ·simp at h
theorem mP{t:TypeId}{z:X}(h:oQ P t z=true)(w:World):∃v,(zeroValue t).run P w=.ok v w/\Xb v z=true:=by obtain⟨i,v,hi,hv,hz⟩:=CJ h;exact⟨v,by simp[zeroValue,typeInfo,hi,hv],hz⟩
theorem Qh{v:Value}(h:v.oneCell'=true):v.cells=#[v]:=by cases v<;>first|rfl|(simp[Value.oneCell']at h;done)
theorem LF{C:Cx}{x:X}{v:Value}(h:aZ C x v)(hc:x.cells=[x])(ho:x.one=true) :
 v.cells.size=x.cells.length/\(∀(j:Nat) c u,x.cells[j]?=some c->v.cells[j]?=some u->aZ C c u)/\∀u∈v.cells,u.oneCell'=true:=by
 have h1:=h.one ho;have h2:=Qh h1;rw[h2,hc];refine⟨rfl,fun j c u hj hu=>?_,fun u hu=>?_⟩
 ·cases j with
  | zero=>simp at hj hu;subst hj;subst hu;exact h
  | succ j=>simp at hj
 ·simp at hu;subst hu;exact h1
theorem jM{C:Cx}{x:X}{v:Value}(h:aZ C x v)(ho:x.cells.all X.one=true) :
 v.cells.size=x.cells.length/\(∀(j:Nat) c u,x.cells[j]?=some c->v.cells[j]?=some u->aZ C c u)/\∀u∈v.cells,u.oneCell'=true:=by
 cases x with
 | agg cs=>
  cases h with
  | agg hl hone hc=>
   rename_i vs;refine⟨by simpa[Value.cells,X.cells]using hl.symm,by simpa[Value.cells,X.cells]using hc,?_⟩;intro u hu;obtain⟨j,hj,rfl⟩:=Array.mem_iff_getElem.1 hu;have hj0:j<vs.size:=by simpa[Value.cells]using hj
   have hj':j<cs.length:=by omega
   exact(hc j cs[j] _ (List.getElem?_eq_getElem hj') (by simp[Value.cells,kF hj0])).one (hone _ (gG hj'))
 | _=>exact LF h rfl (by simpa[X.cells]using ho)
theorem xN{C:Cx}{cs:List X}{b off:Nat}{val:Nat->Value}{t:TypeId}{j k:Nat}{ag:Bool}{x:X}
 (hc:∀l c,cs[l]?=some c->C.w.cell? ⟨b,off+l,none⟩=some (val l)/\c.one=true) (hr:∀l c,cs[l]?=some c->aZ C c (val l))
 (hs:nC P t k=true) (ha:jX P t ag=true) (hp:jl cs j k ag=some x):∃v,(loadVar t ⟨b,off+j,none⟩).run P C.w=.ok v C.w/\aZ C x v:=by
 unfold jl at hp;split at hp
 case isFalse=>simp at hp
 rename_i hle;cases ag with
 | true=>
  simp only[if_true,aW]at hp;subst hp;have hl:=run_loadCells (P:=P) C.w ⟨b,off+j,none⟩ k (fun l=>val (j+l)) (fun l hlt=>by
   have h1:((⟨b,off+j,none⟩:Addr).add l)=⟨b,off+(j+l),none⟩:=by unfold Addr.add;split<;>simp_all<;>omega
   rw[h1];exact(hc (j+l) cs[j+l] (List.getElem?_eq_getElem (by omega))).1)
  refine⟨.agg ((List.range k).map fun l=>val (j+l)).toArray,by simp[loadVar,eP ha,dx hs,hl],?_⟩;refine .agg (by simp;omega) ?_ ?_
  ·intro c hcm;obtain⟨l,hl',he⟩:=List.mem_iff_getElem.1 hcm;simp only[List.length_take,List.length_drop]at hl';exact(hc (j+l) c (by rw[<-he];simp)).2
  ·intro l c v hlc hlv;rw[List.getElem?_take]at hlc
   split at hlc
   ·rename_i hlk;rw[List.getElem?_drop]at hlc
    have:v=val (j+l):=by simp[hlk]at hlv;exact hlv.symm
    subst this;exact hr _ _ hlc
   ·simp at hlc
 | false=>
  simp only[kG,if_false]at hp;split at hp
  ·exact⟨val j,by simp[loadVar,eP ha,(hc _ _ hp).1],hr _ _ hp⟩
  ·simp at hp
theorem D9{C:Cx}{cs:List X}{vs:Array Value}{t:TypeId}{j k:Nat}{ag:Bool}{x:X}(h:aZ C (.agg cs) (.agg vs))
 (hs:nC P t k=true) (ha:jX P t ag=true) (hp:jl cs j k ag=some x) (w:World):∃v,(part t vs j).run P w=.ok v w/\aZ C x v:=by
 cases h with
 | agg hl hone hr=>
  unfold jl at hp;split at hp
  case isFalse=>simp at hp
  rename_i hle;cases ag with
  | true=>
   simp only[if_true,aW]at hp;subst hp;refine⟨.agg (vs.extract j (j+k)),by simp[part,eP ha,dx hs],.agg (by simp;omega) ?_ ?_⟩
   ·intro c hcm;exact hone c (List.mem_of_mem_drop (List.mem_of_mem_take hcm))
   ·intro l c v hlc hlv;rw[List.getElem?_take]at hlc
    split at hlc
    ·rw[List.getElem?_drop]at hlc
     refine hr _ _ _ hlc ?_;rw[Array.getElem?_extract]at hlv
     split at hlv
     ·exact hlv
     ·simp at hlv
    ·simp at hlc
  | false=>
   simp only[kG,if_false]at hp;split at hp
   ·have hj:j<vs.size:=by omega
    exact⟨vs[j],by simp[part,eP ha,kF hj],hr _ _ _ hp (kF hj)⟩
   ·simp at hp
end Go.Proofs.YtbmkfjmlepjpfaaGreatDoor
