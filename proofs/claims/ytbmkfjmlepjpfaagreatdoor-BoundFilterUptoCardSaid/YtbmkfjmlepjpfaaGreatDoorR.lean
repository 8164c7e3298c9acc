/- A part of the proof. -/
import Derived.Test.YtbmkfjmlepjpfaaGreatDoorP
import Derived.Scope
import Derived.RangeFuncRecord
import Derived.RangeFuncLeaves
import Derived.OrdersIn
import Derived.TacticsIn
set_option linter.all false
set_option maxRecDepth 100000
namespace Go.Proofs.YtbmkfjmlepjpfaaGreatDoor
open Go.RowKit
variable {P:Program}
def W_(P:Program)(nt:Nat)(ops:Array Oper)(o:Oper)(g:fE):Bool:=
 (match o.dst,g.d with
  | none,none=>true
  | some d,some d'=>d==d'&&decide (d<nt)
  | _,_=>false)&&
 (match o.guard,g.g with
  | none,none=>true
  | some (j,want),some (t,want')=>want==want'&&(match ops[j]? with
   | some oj=>oj.dst==some t
   | none=>false)
  | _,_=>false)&&
 (iJ P o.op g.op||gL P o.op g.op)
def wH(P:Program)(nt:Nat)(ops:Array Oper):List Oper->List fE->Bool
 | [],[]=>true
 | o::l,g::m=>W_ P nt ops o g&&wH P nt ops l m
 | _,_=>false
def dF:iw->Bool
 | .call st _ _=>st
 | .gN st _ _=>st
 | io=>dM io
def Qn:Option Ar->List Ar
 | some a=>[a]
 | none=>[]
def iw.p8:iw->List Ar
 | .bM a|.box _ a|.Aj a|.ld a _ _|.VX a|.un _ a|.cvs a|.conv _ a|.fa a _|.M4 a _ _ _|.len a|.lens a|.ext a _|.VU _ a|.P7 a=>[a]
 | .pick c a b|.SQ c a b|.Rl _ _ c a b=>[c,a,b]
 | .build _ ps=>ps.map fun p=>p.2.2
 | .lg _ _ _ _ ps|.jP _ _ _ ps=>ps.map fun p=>p.2
 | .st a b _|.app _ _ _ a b|.Rh _ _ _ a b|.bin _ a b|.eqs _ _ a b|.ZJ _ a b|.dN a b _|.DX a b _ _|.JZ a b|.ixv a b _ _ _|.P6 _ _ _ a b _|.KL _ _ a b _ _|.SK _ _ a b _|.Zt _ _ _ _ a b=>[a,b]
 | .sls a lo hi|.Vp _ a lo hi=>a::(Qn lo++Qn hi)
 | .bA _ a l=>a::l
 | .KI _ l|.IX _ l|.call _ _ l|.bO _ l|.lu _ l|.bU _ _ _ _ l=>l
 | .VT _ a=>[a]
 | .no=>[]
 | .gW f l=>f::l
 | .gN _ f l=>f::l
 | .KJ _ h=>Qn h
def Ar.sl:Ar->List Nat
 | .t n=>[n]
 | .k _=>[]
def iw.rd(op:iw):List Nat:=op.p8.flatMap Ar.sl
def fE.rd(g:fE):List Nat:=g.op.rd++(match g.g with
 | some (t,_)=>[t]
 | none=>[])
def Bb:iw->Bool
 | .bM ..|.pick ..|.Aj ..|.build ..|.bin ..|.eqs ..|.ZJ ..|.un ..|.cvs ..|.conv ..|.M4 ..|.JZ ..|.ixv ..|.sls ..|.lens ..|.bA ..|.ext ..|.KI ..|.IX ..|.no=>true
 | _=>false
def d1(ops:Array Oper)(i j:Nat):Bool:=match ops[i]? with
 | some o=>o.after.toList.any fun e=>Region.binds .any e&&e.on==j
 | none=>false
def dd(ops:Array Oper):Nat->Nat->Nat->Bool
 | 0,i,j=>d1 ops i j
 | n+1,i,j=>d1 ops i j||(match ops[i]? with
  | some o=>o.after.toList.any fun e=>Region.binds .any e&&dd ops n e.on j
  | none=>false)
def d2(ops:Array Oper)(i j:Nat):Bool:=dd ops 20 i j
def mD(gl:List fE)(i:Nat):Option Nat:=match gl[i]? with
 | some g=>g.d
 | none=>none
def zC:iw->Nat
 | .box _ _=>1
 | .Rh ..=>1
 | .bU true _ _ _ _=>1
 | op=>if dF op=true then 0 else 2
def J8:iw->Option Nat
 | .box o _=>some o
 | .Rh o _ _ _ _=>some o
 | .bU _ _ q _ _=>some q
 | _=>none
def uM:iw->Bool
 | .call ..|.gN ..|.bO ..|.lu ..|.bU ..|.gW ..=>false
 | _=>true
def arK:Ar->Bool
 | .k x=>(lK x).isEmpty
 | .t _=>true
def Xc(ops:Array Oper)(i j:Nat):Bool:=(decide (j<i)&&d2 ops i j)||(decide (i<j)&&d2 ops j i)
def SF(gl:List fE)(p j:Nat)(g:fE):Bool:=g.rd.all fun t=>(List.range p).all fun q=>mD gl q != some t||decide (q<j)
def Kw(ops:Array Oper)(gl:List fE)(p:Nat)(ch js:List Nat):Bool:=
 decide (ops.size=gl.length)&&decide (p<=gl.length)&&
 ((
  List.range gl.length).all fun i=>match ops[i]? with
  | some o=>o.after.toList.all fun e=>!Region.binds .any e||decide (e.on<i)
  | none=>false)&&
 ((List.range gl.length).all fun i=>(List.range i).all fun j=>(mD gl i).isNone||(mD gl i != mD gl j))&&
 ((
  List.range p).all fun i=>match gl[i]? with
  | some g=>g.op.p8.all arK&&(g.rd.all fun t=>(List.range p).all fun j=>j==i||mD gl j != some t||Xc ops i j)
  | none=>false)&&
 ((List.range gl.length).all fun i=>decide (i<p)||(List.range i).all fun j=>d2 ops i j)&&
 ((
  List.range p).all fun i=>match gl[i]? with
  | some gi=>zC gi.op==0||((List.range p).all fun j=>match gl[j]? with
   | some gj=>j==i||Xc ops i j||(zC gj.op==1&&zC gi.op==1&&J8 gi.op != J8 gj.op)||
    (zC gj.op==0&&(Bb gj.op||(SF gl p j gj&&((gj.op.rd.all fun t=>ch.contains t)||(js.contains j&&gj.g.isNone&&gj.d.isSome&&uM gj.op&&
     (List.range p).all fun k=>match gl[k]? with
      | some gk=>k==i||zC gk.op==0
      | none=>false)))))
   | none=>false)
  | none=>false)
def zQ(P:Program)(nt:Nat):Option Nat->Code->IC->Bool
 | _,.skip,.skip=>true
 | _,.label _,.skip=>true
 | none,.ret,.ret=>true
 | some q,.ret,.Vb q'=>q==q'
 | _,.exit i,.exit j=>i==j
 | some q,.exit i,.JF q' j=>i==j&&q==q'
 | r,.seq a b,.seq a' b'=>zQ P nt r a a'&&zQ P nt r b b'
 | r,.cond c a b,.cond c' a' b'=>dU c c'&&zQ P nt r a a'&&zQ P nt r b b'
 | r,.block i c,.block j c'=>i==j&&zQ P nt r c c'
 | r,.loop c,.loop c'=>zQ P nt r c c'
 | r,.scope c,.scope c'=>zQ P nt r c c'
 | _,.region _ ops false,.ops gl=>wH P nt ops ops.toList gl
 | _,.region _ ops true,.aH ch js l m=>wH P nt ops ops.toList (l++m)&&Kw ops (l++m) l.length ch js
 | none,.rangeFunc g ps a b,.U_ q g' ps' a' b'=>dU g g'&&ps.toList==ps'&&(ps'.all fun p=>decide (p<nt))&&zR a'&&zQ P nt (some q) a a'&&zQ P nt (some q) b b'
 | _,_,_=>false
def uN(P:Program)(nt q:Nat)(c:Code)(ic:IC):Prop:=zQ P nt (some q) c ic=true
def MR(w:World)(sh fr:Nat->Prop):Cx:=⟨fun _=>0,fun _=>0,w,sh,fr⟩
def lW(P:Program)(f:Nat)(xs:List X)(r:X):Prop:=
 ∀(w:World) (sh:Nat->Prop) (vs:Array Value),MF w->(∀b,sh b->b<w.heap.size)->xs.length=vs.size->
  (∀(j:Nat) x v,xs[j]?=some x->vs[j]?=some v->aZ (MR w sh fun _=>False) x v)->
  Calls P f vs w fun e w'=>∃v fr',e=.returned v/\Below w.heap.size w w'/\(∀b,fr' b->w.heap.size<=b/\b<w'.heap.size)/\aZ (MR w' sh fr') r v/\r.deep=true
def GJ(P:Program)(f:Nat)(xs:List X)(s:ax)(r:X)(s':ax):Prop:=
 ∀ {w0:Bs} {sh:Nat->Prop} {nt:Nat} {μ:Nat->Nat} {fr:Nat->Prop} {e:Env} {a:Act} {w:World},Inv w0 sh nt μ fr e s a w->w0.Bt=uN P->∀(vs:Array Value),xs.length=vs.size->
 (∀(j:Nat) x v,xs[j]?=some x->vs[j]?=some v->aZ (aU μ s w sh fr) x v)->
 Calls P f vs w (fun e' w'=>∃v μ' fr',e'=.returned v/\Inv w0 sh nt μ' fr' e s' a w'/\aZ (aU μ' s' w' sh fr') r v/\(aU μ s w sh fr).Le (aU μ' s' w' sh fr'))
def Zq(P:Program)(q g:Nat)(l:List X)(s:ax)(x:X)(s':ax):Prop:=
 ∀ {w0:Bs} {sh:Nat->Prop} {nt:Nat} {μ:Nat->Nat} {fr:Nat->Prop} {e:Env} {a:Act} {w:World},Inv w0 sh nt μ fr e s a w->w0.Bt=uN P->1<=g->∀(vs:Array Value),l.length=vs.size->
 (∀(j:Nat) x v,l[j]?=some x->vs[j]?=some v->aZ (aU μ s w sh fr) x v)->
 g=(s q).g/\∃f tm cA cB,(Instr.yield (μ q) vs).run P w=.ok (.round (μ q) f tm cA cB) w/\
  RoundIn Fence.wide 0 P (μ q) f tm cA cB w (fun e' w'=>∃v μ' fr',e'=.returned v/\Inv w0 sh nt μ' fr' e s' a w'/\aZ (aU μ' s' w' sh fr') x v)
def Ovr(w:World)(sh fr:Nat->Prop)(D:Cx):Prop:=D.w=w/\(∀b,sh b->D.sh b\/D.fr b)/\∀b,fr b->D.fr b
def OwnQ(p:List Nat)(r:X)(ok:Option (Nat×List X))(w w':World)(sh fr':Nat->Prop)(v:Value):Prop:=match ok with
 | none=>∀D,Ovr w' sh fr' D->aZ D (plug p r .nil) v
 | some (k,es)=>∃b,w.heap.size<=b/\¬fr' b/\(∀D,Ovr w' sh fr' D->Gy D (.row k es) b)/\
  ∀D q g,Ovr w' sh fr' D->1<=g->g<=D.γ q->D.μ q=b->aZ D (plug p r (.ref q g k 0 es.length)) v
def OwnAt(P:Program)(p:List Nat)(f:Nat)(xs:List X)(r:X)(ok:Option (Nat×List X)):Prop:=
 ∀(w:World) (sh:Nat->Prop) (vs:Array Value),MF w->(∀b,sh b->b<w.heap.size)->xs.length=vs.size->
  (∀(j:Nat) x v,xs[j]?=some x->vs[j]?=some v->aZ (MR w sh fun _=>False) x v)->
  Calls P f vs w fun e w'=>∃v fr',e=.returned v/\Below w.heap.size w w'/\(∀b,fr' b->w.heap.size<=b/\b<w'.heap.size)/\
   OwnQ p r ok w w' sh fr' v
def om(P:Program)(T:Nat->Option Fe)(n:Nat):Prop:=(∀f xs s r s',bZ (runN T n) T f xs s=some (r,s')->GJ P f xs s r s')/\
 (∀p f xs r ok,uO (runN T n) T p f xs=some (r,ok)->OwnAt P p f xs r ok)/\
 ∀q g l s x s',gZ (runN T n) q g l s=some (x,s')->Zq P q g l s x s'
def lV(P:Program)(T:Nat->Option Fe)(n:Nat):Prop:=∀f xs r,jG (runN T n) T f xs=some r->lW P f xs r
theorem iQ(l:List X):gB l=l.map X.shr:=by
 induction l with
 | nil=>rfl
 | cons x l ih=>simp[gB,ih]
theorem kP(x:X)(h:x.deep=true):x.shr.cells=x.cells.map X.shr:=by cases x<;>first|rfl|(simp only[X.shr,X.cells,iQ])|(simp[X.deep]at h;done)
theorem Ac(x:X)(h:x.one=true):x.shr.one=true:=by cases x<;>first|rfl|(simp[X.one]at h;done)
mutual
theorem Cz:(x:X)->x.deep=true->x.shr.deep=true
 | .v _,_=>rfl
 | .nil,_=>rfl
 | .sl _ es,h=>mM es h
 | .agg es,h=>mM es h
 | .cZ es,h=>mM es h
 | .fn _ es,h=>mM es h
 | .fm _ es,h=>mM es h
 | .ref ..,h=>h
 | .ptr ..,h=>h
 | .ep ..,h=>h
 | .ip x _,h=>Cz x h
 | .mp ..,h=>h
 | .Dq ..,h=>h
 | .junk,h=>h
theorem mM:(l:List X)->aT l=true->aT (gB l)=true
 | [],_=>rfl
 | x::l,h=>by simp only[aT,bN]at h;simp only[gB,aT,bN];exact⟨Cz x h.1,mM l h.2⟩
end
theorem aZ.shr{C:Cx}{x:X}{v:Value}(hx:aZ C x v)(hd:x.deep=true):aZ (MR C.w (fun b=>C.sh b\/C.fr b) fun _=>False) x.shr v:=by
 induction hx with
 | v hp=>exact .v hp
 | nil=>exact .sl0
 | sl0=>exact .sl0
 | @sl f es b off cap k n val hn hcap hl hb hk hc hz hr ih=>
  simp only[X.shr,iQ];simp only[X.deep]at hd;have hdm:=bf.1 hd;have hidx:∀ {i:Nat} {e':X},(es.map X.shr)[i]?=some e'->∃e,es[i]?=some e/\e'=e.shr:=by
   intro i e' h;rw[List.getElem?_map,tu]at h
   obtain⟨e,he,rfl⟩:=h;exact⟨e,he,rfl⟩
  refine .sl (k:=k) val (by simpa using hn) hcap (by simpa using hl) (.inr ⟨rfl,?_⟩) ?_ ?_ (by simp) ?_
  ·rcases hb with hb|⟨_,hb⟩
   ·exact .inr hb
   ·exact .inl hb
  ·intro e' he';obtain⟨e,he,rfl⟩:=List.mem_map.1 he';rw[kP e (hdm e he)];simpa using hk e he
  ·intro i e' j c hi hj;obtain⟨e,he,rfl⟩:=hidx hi;rw[kP e (hdm e (kK he)),List.getElem?_map,tu]at hj
   obtain⟨c',hc',rfl⟩:=hj;exact⟨(hc i e j c' he hc').1,Ac _ (hc i e j c' he hc').2⟩
  ·intro i e' j c hi hj;obtain⟨e,he,rfl⟩:=hidx hi;rw[kP e (hdm e (kK he)),List.getElem?_map,tu]at hj
   obtain⟨c',hc',rfl⟩:=hj;exact ih i e j c' he hc' (mW (hdm e (kK he)) c' (kK hc'))
 | agg hl ho hr ih=>
  simp only[X.shr,iQ];simp only[X.deep]at hd;refine .agg (by simpa using hl) ?_ ?_
  ·intro c hc;obtain⟨y,hy,rfl⟩:=List.mem_map.1 hc;exact Ac _ (ho y hy)
  ·intro j c v hj hv;rw[List.getElem?_map,tu]at hj
   obtain⟨y,hy,rfl⟩:=hj;exact ih j y v hy hv (bf.1 hd y (kK hy))
 | cZ hl hr ih=>
  simp only[X.shr,iQ];simp only[X.deep]at hd;refine .cZ (by simpa using hl) ?_;intro j c v hj hv;rw[List.getElem?_map,tu]at hj
  obtain⟨y,hy,rfl⟩:=hj;exact ih j y v hy hv (bf.1 hd y (kK hy))
 | fn hl hr ih=>
  simp only[X.shr,iQ];simp only[X.deep]at hd;refine .fn (by simpa using hl) ?_;intro j c v hj hv;rw[List.getElem?_map,tu]at hj
  obtain⟨y,hy,rfl⟩:=hj;exact ih j y v hy hv (bf.1 hd y (kK hy))
 | fm hl hr ih=>
  simp only[X.shr,iQ];simp only[X.deep]at hd;refine .fm (by simpa using hl) ?_;intro j c v hj hv;rw[List.getElem?_map,tu]at hj
  obtain⟨y,hy,rfl⟩:=hj;exact ih j y v hy hv (bf.1 hd y (kK hy))
 | @ip x j b off val hb hc hr ih=>
  have hx:x.deep=true:=by simpa[X.deep]using hd
  simp only[X.shr];refine .ip val (.inr (hb.elim .inr .inl)) ?_ ?_
  ·intro l c hl;rw[kP x hx,List.getElem?_map,tu]at hl
   obtain⟨y,hy,rfl⟩:=hl;exact⟨(hc l y hy).1,Ac _ (hc l y hy).2⟩
  ·intro l c hl;rw[kP x hx,List.getElem?_map,tu]at hl
   obtain⟨y,hy,rfl⟩:=hl;exact ih l y hy (mW hx y (kK hy))
 | _=>simp[X.deep]at hd
section
variable {w0:Bs} {sh:Nat->Prop} {nt:Nat} {μ:Nat->Nat} {fr:Nat->Prop} {e:Env} {s:ax} {a:Act} {w:World}
theorem Ii{C:Cx}{x y:X}{v:Value}(hx:aZ C x v)(hy:zn x=some y):aZ C y v/\y.deep=true/\(x.one=true->y.one=true)/\y.cells=[y]:=by
 cases x<;>simp only[zn]at hy
 case nil=>
  injection hy with hy;subst hy;cases hx with
  | nil=>exact⟨.sl0,rfl,fun _=>rfl,rfl⟩
 all_goals first
  | (simp at hy;done)
  | (
   split at hy
   ·injection hy with hy;subst hy;exact⟨hx,by assumption,id,rfl⟩
   ·simp at hy)
theorem Ig:∀ {cs ds:List X},RX cs=some ds->ds.length=cs.length/\∀(j:Nat) c d,cs[j]?=some c->ds[j]?=some d->zn c=some d:=by
 intro cs;induction cs with
 | nil=>intro ds h;simp only[RX,aW]at h;subst h;exact⟨rfl,by simp⟩
 | cons c cs ih=>
  intro ds h;simp only[RX]at h;split at h
  case h_2=>simp at h
  rename_i y m hy hm;injection h with h;subst h;obtain⟨i1,i2⟩:=ih hm;refine⟨by simp[i1],?_⟩;intro j c' d hc hd;cases j with
  | zero=>simp at hc hd;subst hc;subst hd;exact hy
  | succ j=>exact i2 j c' d (by simpa using hc) (by simpa using hd)
theorem Ku{x y:X}(hy:Da x=some y):y.cells.length=x.cells.length/\∀(j:Nat) c d,x.cells[j]?=some c->y.cells[j]?=some d->zn c=some d:=by
 have one:∀ {x y:X},zn x=some y->x.cells=[x]->y.cells.length=x.cells.length/\∀(j:Nat) c d,x.cells[j]?=some c->y.cells[j]?=some d->zn c=some d:=by
  intro x y h hx;have hy:y.cells=[y]:=by cases x<;>simp only[zn]at h<;>first|(simp at h;done)|(split at h<;>first|(injection h with h;subst h;rfl)|(simp at h;done))|(injection h with h;subst h;rfl)
  rw[hx,hy];refine⟨rfl,fun j c d hc hd=>?_⟩;cases j with
  | zero=>simp at hc hd;subst hc;subst hd;exact h
  | succ j=>simp at hc
 cases x
 case agg cs=>
  simp only[Da]at hy;split at hy
  case h_2=>simp at hy
  rename_i ds hds;injection hy with hy;subst hy;exact Ig hds
 all_goals exact one hy rfl
theorem DR{x y:X}(hy:zn x=some y):y.deep=true:=by cases x<;>simp only[zn]at hy<;>first|(simp at hy;done)|(split at hy<;>first|(injection hy with hy;subst hy;assumption)|(simp at hy;done))|(injection hy with hy;subst hy;rfl)
theorem Pv{x y:X}(hy:Da x=some y):y.deep=true:=by
 cases x
 case agg cs=>
  simp only[Da]at hy;split at hy
  case h_2=>simp at hy
  rename_i ds hds;injection hy with hy;subst hy;simp only[X.deep];obtain⟨i1,i2⟩:=Ig hds;refine bf.2 fun d hd=>?_
  obtain⟨j,hj⟩:=List.getElem?_of_mem hd;have hjl:j<cs.length:=by have:=(List.getElem?_eq_some_iff.1 hj).1;omega
  exact DR (i2 j _ d (List.getElem?_eq_getElem hjl) hj)
 all_goals (simp only[Da]at hy;exact DR hy)
theorem Inv.zF(h:Inv w0 sh nt μ fr e s a w){x y:X}{v:Value}(hx:aZ (aU μ s w sh fr) x v)(hy:Go.Proofs.YtbmkfjmlepjpfaaGreatDoor.zF s x=some y){l:List Nat}(hl:∀o∈S9 x,o∈l) :
 aZ (MR w (fun b=>sh b\/(fr b\/∃o∈l,(s o).o.isSome=true/\b=μ o)) fun _=>False) y.shr v:=by
 have ip:∀ {z:X} {j:Nat} {C:Cx},(∀c∈z.cells,c.deep=true)->z.shr.cells=z.cells.map X.shr->aZ C (.ip z j) v->C.w=w->(∀b,C.sh b\/C.fr b->sh b\/(fr b\/∃o∈l,(s o).o.isSome=true/\b=μ o))->
  aZ (MR w (fun b=>sh b\/(fr b\/∃o∈l,(s o).o.isSome=true/\b=μ o)) fun _=>False) (X.ip z j).shr v:=by
  intro z j C hd hz hr hw hC;subst hw;cases hr with
  | ip val hb hc hr=>
   simp only[X.shr];have up:∀ {l:Nat} {c:X},z.shr.cells[l]?=some c->∃d,z.cells[l]?=some d/\c=d.shr:=by
    intro l c hl;rw[hz,List.getElem?_map,tu]at hl
    obtain⟨d,hd,rfl⟩:=hl;exact⟨d,hd,rfl⟩
   refine .ip val (.inr (hC _ hb.symm)) ?_ ?_
   ·intro l c hl;obtain⟨d,hd',rfl⟩:=up hl;exact⟨(hc l d hd').1,Ac _ (hc l d hd').2⟩
   ·intro l c hl;obtain⟨d,hd',rfl⟩:=up hl;have:=(hr l d hd').shr (hd d (kK hd'));exact this.mJ (Cz _ (hd d (kK hd'))) (fun _ _ _ _ h=>h) (fun _ _ _ h=>h) (fun b hb=>.inl (hC b hb)) (fun _ h=>h)
 cases x
 case ptr o g j=>
  simp only[Go.Proofs.YtbmkfjmlepjpfaaGreatDoor.zF]at hy;split at hy
  case h_2=>simp at hy
  rename_i z ho;split at hy
  case isFalse=>simp at hy
  rename_i hg;split at hy
  case h_2=>simp at hy
  rename_i z' hz;injection hy with hy;subst hy;have hol:o∈l:=hl o (by simp[S9]);obtain⟨⟨cs,t,o1,o2,o3,o4⟩,_⟩:=h.obj o _ ho;obtain⟨hlen,hcells⟩:=Ku hz;have hv:v=.pointer (some ⟨μ o,j,none⟩):=by
   cases hx with
   | ptr _ _ h3 _=>exact h3 hg.symm
  subst hv;have hle:=KE μ s w sh fr l;have cell:∀ {i:Nat} {c:X},z'.cells[i]?=some c->∃d u,z.cells[i]?=some d/\cs[i]?=some u/\zn d=some c/\d.one=true/\aZ (xH μ s w sh fr l) d u:=by
   intro i c hc;have hi:i<z.cells.length:=by have:=(List.getElem?_eq_some_iff.1 hc).1;omega
   have hi':i<cs.size:=by omega
   have hd:=List.getElem?_eq_getElem hi;have hu:=kF hi';exact⟨_,_,hd,hu,hcells i _ c hd hc,o3 _ (kK hd),(o4 i _ _ hd hu).mono hle⟩
  have hdeep:=Pv hz;refine ip (C:=xH μ s w sh fr l) (mW hdeep) (kP z' hdeep) ?_ rfl (fun b hb=>hb.elim .inl fun h=>.inr h);have:=aZ.ip (C:=xH μ s w sh fr l) (x:=z') (j:=j) (b:=μ o) (off:=0) (fun i=>cs.getD i undef) (.inl (.inr ⟨o,hol,by simp[ho],rfl⟩)) (by
   intro i c hc;obtain⟨d,u,hd,hu,hn,ho',hr⟩:=cell hc;refine⟨?_,(Ii hr hn).2.2.1 ho'⟩;rw[Nat.zero_add];have hw:(xH μ s w sh fr l).w=w:=rfl;have o1':w.heap[μ o]?=some (.cells cs t (0,0)):=o1;rw[hw,cell_of_row _ _ _ _ t (0,0) o1'];simp[mq,hu]) (by
   intro i c hc;obtain⟨d,u,hd,hu,hn,ho',hr⟩:=cell hc;have:=(Ii hr hn).1;simpa[mq,hu]using this)
  simpa using this
 case ip z j=>
  simp only[Go.Proofs.YtbmkfjmlepjpfaaGreatDoor.zF]at hy;split at hy
  case isFalse=>simp at hy
  rename_i hd;injection hy with hy;subst hy;exact ip (mW hd) (kP z hd) hx rfl (fun b hb=>hb.elim .inl (fun h=>.inr (.inl h)))
 all_goals
  obtain⟨h1,h2,_⟩:=h.mK hx hy (l:=l) hl;exact h1.shr h2
theorem RV{s:ax}:∀ {cs ds:List X},sZ s cs=some ds->ds.length=cs.length/\∀(j:Nat) c d,cs[j]?=some c->ds[j]?=some d->Go.Proofs.YtbmkfjmlepjpfaaGreatDoor.zF s c=some d:=by
 intro cs;induction cs with
 | nil=>intro ds h;simp only[sZ,aW]at h;subst h;exact⟨rfl,by simp⟩
 | cons c cs ih=>
  intro ds h;simp only[sZ]at h;split at h
  case h_2=>simp at h
  rename_i y m hy hm;injection h with h;subst h;obtain⟨i1,i2⟩:=ih hm;refine⟨by simp[i1],?_⟩;intro j c' d hc hd;cases j with
  | zero=>simp at hc hd;subst hc;subst hd;exact hy
  | succ j=>exact i2 j c' d (by simpa using hc) (by simpa using hd)
theorem Inv.yD(h:Inv w0 sh nt μ fr e s a w){x y:X}{v:Value}(hx:aZ (aU μ s w sh fr) x v)(hy:Go.Proofs.YtbmkfjmlepjpfaaGreatDoor.yD s x=some y){l:List Nat}(hl:∀o∈nJ x,o∈l) :
 aZ (MR w (fun b=>sh b\/(fr b\/∃o∈l,(s o).o.isSome=true/\b=μ o)) fun _=>False) y.shr v:=by
 cases x
 case fn f cs=>
  simp only[Go.Proofs.YtbmkfjmlepjpfaaGreatDoor.yD]at hy;split at hy
  case h_2=>simp at hy
  rename_i ds hds;injection hy with hy;subst hy;obtain⟨i1,i2⟩:=RV hds;cases hx with
  | fn hlen hr=>
   simp only[X.shr,iQ];refine .fn (by simpa[i1]using hlen) ?_;intro j c v' hj hv';rw[List.getElem?_map,tu]at hj
   obtain⟨d,hd,rfl⟩:=hj;have hjl:j<cs.length:=by have:=(List.getElem?_eq_some_iff.1 hd).1;omega
   have hc:=List.getElem?_eq_getElem hjl;exact h.zF (hr j _ v' hc hv') (i2 j _ d hc hd) (fun o ho=>hl o (by simp only[nJ];exact List.mem_flatMap.2 ⟨_,kK hc,ho⟩))
 case ptr=>exact h.zF hx hy hl
 case ip=>exact h.zF hx hy hl
 all_goals
  obtain⟨h1,h2⟩:=h.nI hx hy (l:=l) hl;exact h1.shr h2
theorem Inv.vO(h:Inv w0 sh nt μ fr e s a w){l:List Nat}:∀ {xs ys:List X},Go.Proofs.YtbmkfjmlepjpfaaGreatDoor.vO s xs=some ys->(∀o∈xs.flatMap nJ,o∈l)->
 ys.length=xs.length/\∀vs:Nat->Value,(∀j x,xs[j]?=some x->aZ (aU μ s w sh fr) x (vs j))->∀j y,ys[j]?=some y->aZ (MR w (fun b=>sh b\/(fr b\/∃o∈l,(s o).o.isSome=true/\b=μ o)) fun _=>False) y (vs j):=by
 intro xs;induction xs with
 | nil=>intro ys hy _;simp only[Go.Proofs.YtbmkfjmlepjpfaaGreatDoor.vO,aW]at hy;subst hy;exact⟨rfl,by simp⟩
 | cons x xs ih=>
  intro ys hy hl;simp only[Go.Proofs.YtbmkfjmlepjpfaaGreatDoor.vO]at hy;split at hy
  case h_2=>simp at hy
  rename_i z m hz hm;injection hy with hy;subst hy;obtain⟨i1,i2⟩:=ih hm (fun o ho=>hl o (by simp only[List.flatMap_cons,List.mem_append];exact .inr ho));refine⟨by simp[i1],?_⟩;intro vs hv j y hj;cases j with
  | zero=>
   simp at hj;subst hj;exact h.yD (hv 0 x rfl) hz (l:=l) (fun o ho=>hl o (by simp only[List.flatMap_cons,List.mem_append];exact .inl ho))
  | succ j=>exact i2 (fun j=>vs (j+1)) (fun j x hx=>hv (j+1) x (by simpa using hx)) j y (by simpa using hj)
theorem Ko(h:Inv w0 sh nt μ fr e s a w){T:Nat->Option Fe}{n:Nat}(hT:lV P T n){st:Bool}{f:Nat}{l:List X}{vs:Array Value}(hl:l.length=vs.size)
 (hv:∀(j:Nat) x v,l[j]?=some x->vs[j]?=some v->aZ (aU μ s w sh fr) x v) {x:X} {s':ax} (hs:iM (runN T n) T st f l s=some (x,s')) :
 Calls P f vs w (fun e' w'=>∃v μ' fr',e'=.returned v/\Inv w0 sh nt μ' fr' e s' a w'/\aZ (aU μ' s' w' sh fr') x v/\(st=true->s'=s/\μ'=μ)):=by
 unfold iM at hs;split at hs
 case h_1=>simp at hs
 rename_i ys hys;split at hs
 case h_1=>simp at hs
 rename_i r hr;obtain⟨i1,i2⟩:=h.vO hys (l:=l.flatMap nJ) (fun _ h=>h);obtain⟨hI0,hle0⟩:=h.gX (l.flatMap nJ);have hP:=hT f ys r hr w (fun b=>sh b\/(fr b\/∃o∈l.flatMap nJ,(s o).o.isSome=true/\b=μ o)) vs (w0.JY.below w0.JY.1 h.below) (by
  rintro b (hb|hb)
  ·exact Nat.lt_of_lt_of_le (h.kD b hb) h.below.size
  ·exact(hI0.iF b hb).2) (by omega) (by
  intro j y v hy hjv;have hj:=(List.getElem?_eq_some_iff.1 hy).1;have:=i2 (fun j=>vs.getD j undef) (fun j x hx=>hv j x _ hx (by have:=(List.getElem?_eq_some_iff.1 hx).1;simp[mq,kF (show j<vs.size by omega)])) j y hy
  simpa[mq,hjv]using this)
 refine hP.mono ?_;rintro e' w' ⟨v,fr',rfl,hb,hfr',hrep,hd⟩;split at hs
 ·rename_i hsc;simp only[aW,bK]at hs;obtain⟨rfl,rfl⟩:=hs;obtain⟨hI,_⟩:=h.news w' hb (fun b=>fr b) (fun _ h=>h) (fun b hb=>.inl hb);exact⟨v,μ,_,rfl,hI,hrep.fM hsc,fun _=>⟨rfl,rfl⟩⟩
 ·split at hs
  ·split at hs
   case isFalse=>simp at hs
   rename_i hqt;simp only[aW,bK]at hs;obtain⟨rfl,rfl⟩:=hs;have hq:∀b,(∃o∈l.flatMap nJ,(s o).o.isSome=true/\b=μ o)->fr b:=by rintro b ⟨o,ho,h1,rfl⟩;obtain⟨ob,hob⟩:=Option.isSome_iff_exists.1 h1;have h2:=List.all_eq_true.1 hqt o ho;simp only[bN,Bool.not_eq_true']at h2;exact(h.obj o ob hob).2.2.2 h2.2
   obtain⟨hI,hle⟩:=h.news w' hb (fun b=>fr b\/fr' b) (fun _ h=>.inl h) (fun b hb=>by
    rcases hb with hb|hb
    ·exact .inl hb
    ·exact .inr (hfr' b hb))
   refine⟨v,μ,_,rfl,hI,?_,fun _=>⟨rfl,rfl⟩⟩;refine hrep.mJ hd (fun _ _ _ _ h=>h) (fun _ _ _ h=>h) ?_ ?_
   ·rintro b (hb|hb)
    ·exact .inl hb
    ·exact .inr (.inl (hb.elim id (hq b)))
   ·intro b hb;exact .inr hb
  rename_i hnn;simp only[aW,bK]at hs;obtain⟨rfl,rfl⟩:=hs;obtain⟨hI,hle⟩:=hI0.news w' hb (fun b=>(fr b\/∃o∈l.flatMap nJ,(s o).o.isSome=true/\b=μ o)\/fr' b) (fun _ h=>.inl h) (fun b hb=>hb.imp id (hfr' b));refine⟨v,μ,_,rfl,hI,?_,fun hst=>absurd hst hnn⟩;refine hrep.mJ hd (fun _ _ _ _ h=>h) (fun _ _ _ h=>h) ?_ ?_
  ·rintro b (hb|hb)
   ·exact .inl hb
   ·exact .inr (.inl hb)
  ·intro b hb;exact .inr hb
theorem Inv.Db(h:Inv w0 sh nt μ fr e s a w){x y:X}{v:Value}(hx:aZ (aU μ s w sh fr) x v)(hy:Go.Proofs.YtbmkfjmlepjpfaaGreatDoor.Db s x=some y){l:List Nat}(hl:∀o∈SY s x,o∈l) :
 aZ (MR w (fun b=>sh b\/(fr b\/∃o∈l,(s o).o.isSome=true/\b=μ o)) fun _=>False) y.shr v:=by
 cases x
 case ref=>
  obtain⟨h1,h2⟩:=h.RY hx hy (l:=l) hl;exact h1.shr h2
 all_goals exact h.yD hx hy hl
theorem Inv.zm(h:Inv w0 sh nt μ fr e s a w){l:List Nat}:∀ {xs ys:List X},Go.Proofs.YtbmkfjmlepjpfaaGreatDoor.zm s xs=some ys->(∀o∈xs.flatMap (SY s),o∈l)->
 ys.length=xs.length/\∀vs:Nat->Value,(∀j x,xs[j]?=some x->aZ (aU μ s w sh fr) x (vs j))->∀j y,ys[j]?=some y->aZ (MR w (fun b=>sh b\/(fr b\/∃o∈l,(s o).o.isSome=true/\b=μ o)) fun _=>False) y (vs j):=by
 intro xs;induction xs with
 | nil=>intro ys hy _;simp only[Go.Proofs.YtbmkfjmlepjpfaaGreatDoor.zm,aW]at hy;subst hy;exact⟨rfl,by simp⟩
 | cons x xs ih=>
  intro ys hy hl;simp only[Go.Proofs.YtbmkfjmlepjpfaaGreatDoor.zm]at hy;split at hy
  case h_2=>simp at hy
  rename_i z m hz hm;injection hy with hy;subst hy;obtain⟨i1,i2⟩:=ih hm (fun o ho=>hl o (by simp only[List.flatMap_cons,List.mem_append];exact .inr ho));refine⟨by simp[i1],?_⟩;intro vs hv j y hj;cases j with
  | zero=>
   simp at hj;subst hj;exact h.Db (hv 0 x rfl) hz (l:=l) (fun o ho=>hl o (by simp only[List.flatMap_cons,List.mem_append];exact .inl ho))
  | succ j=>exact i2 (fun j=>vs (j+1)) (fun j x hx=>hv (j+1) x (by simpa using hx)) j y (by simpa using hj)
theorem G9(h:Inv w0 sh nt μ fr e s a w){T:Nat->Option Fe}{n:Nat}(hT:lV P T n){f:Nat}{l:List X}{vs:Array Value}(hl:l.length=vs.size)
 (hv:∀(j:Nat) x v,l[j]?=some x->vs[j]?=some v->aZ (aU μ s w sh fr) x v) {x:X} {s':ax} (hs:tO (runN T n) T f l s=some (x,s')) :
 Calls P f vs w (fun e' w'=>∃v μ' fr',e'=.returned v/\Inv w0 sh nt μ' fr' e s' a w'/\aZ (aU μ' s' w' sh fr') x v):=by
 unfold tO at hs;split at hs
 case h_1=>simp at hs
 rename_i ys hys;split at hs
 case h_1=>simp at hs
 rename_i r hr;obtain⟨i1,i2⟩:=h.zm hys (l:=l.flatMap (SY s)) (fun _ h=>h);obtain⟨hI0,hle0⟩:=h.gX (l.flatMap (SY s));have hP:=hT f ys r hr w (fun b=>sh b\/(fr b\/∃o∈l.flatMap (SY s),(s o).o.isSome=true/\b=μ o)) vs (w0.JY.below w0.JY.1 h.below) (by
  rintro b (hb|hb)
  ·exact Nat.lt_of_lt_of_le (h.kD b hb) h.below.size
  ·exact(hI0.iF b hb).2) (by omega) (by
  intro j y v hy hjv;have hj:=(List.getElem?_eq_some_iff.1 hy).1;have:=i2 (fun j=>vs.getD j undef) (fun j x hx=>hv j x _ hx (by have:=(List.getElem?_eq_some_iff.1 hx).1;simp[mq,kF (show j<vs.size by omega)])) j y hy
  simpa[mq,hjv]using this)
 refine hP.mono ?_;rintro e' w' ⟨v,fr',rfl,hb,hfr',hrep,hd⟩;split at hs
 case isFalse=>simp at hs
 rename_i hsc;simp only[aW,bK]at hs;obtain⟨rfl,rfl⟩:=hs;obtain⟨hI,_⟩:=h.news w' hb (fun b=>fr b) (fun _ h=>h) (fun b hb=>.inl hb);exact⟨v,μ,_,rfl,hI,hrep.fM hsc⟩
theorem Inv.Wl(h:Inv w0 sh nt μ fr e s a w){l:List Nat}:∀ {cs ds:List X},Go.Proofs.YtbmkfjmlepjpfaaGreatDoor.Wl s cs=some ds->(∀o∈cs.flatMap nX,o∈l)->
 ds.length=cs.length/\∀(j:Nat) c d v,cs[j]?=some c->ds[j]?=some d->aZ (aU μ s w sh fr) c v->aZ (xH μ s w sh fr l) d v/\d.deep=true:=by
 intro cs;induction cs with
 | nil=>intro ds hd _;simp[Go.Proofs.YtbmkfjmlepjpfaaGreatDoor.Wl]at hd;subst hd;exact⟨rfl,by simp⟩
 | cons c cs ih=>
  intro ds hd hl;simp only[Go.Proofs.YtbmkfjmlepjpfaaGreatDoor.Wl]at hd;split at hd
  case h_2=>simp at hd
  rename_i y m hy hm;injection hd with hd;subst hd;obtain⟨i1,i2⟩:=ih hm (fun o ho=>hl o (by simp only[List.flatMap_cons,List.mem_append];exact .inr ho));refine⟨by simp[i1],?_⟩;intro j c' d v hc hdj hv;cases j with
  | zero=>
   simp at hc hdj;subst hc;subst hdj;exact h.nI hv hy (fun o ho=>hl o (by simp only[List.flatMap_cons,List.mem_append];exact .inl ho))
  | succ j=>exact i2 j c' d v (by simpa using hc) (by simpa using hdj) hv
theorem Inv.nk(h:Inv w0 sh nt μ fr e s a w){l:List Nat}:∀ {p:List Nat} {x r y:X} {v:Value},Go.Proofs.YtbmkfjmlepjpfaaGreatDoor.nk s p x=some (r,y)->(∀o∈oM p x,o∈l)->aZ (aU μ s w sh fr) x v->
 ∃u,aZ (aU μ s w sh fr) y u/\∀(D:Cx) (z:X),Ovr w sh (fun b=>fr b\/∃o∈l,(s o).o.isSome=true/\b=μ o) D->z.one=true->aZ D z u->aZ D (plug p r z) v:=by
 have tr:∀ {D:Cx} {y:X} {v:Value},Ovr w sh (fun b=>fr b\/∃o∈l,(s o).o.isSome=true/\b=μ o) D->aZ (xH μ s w sh fr l) y v->y.deep=true->aZ D y v:=by intro D y v hD hy hd;obtain⟨h1,h2,h3⟩:=hD;exact hy.mJ hd (fun _ _ _ _ hc=>by rw[h1];exact hc) (fun _ _ _ hc=>by rw[h1];exact hc) h2 h3
 intro p;induction p with
 | nil=>
  intro x r y v hx _ hv;simp only[Go.Proofs.YtbmkfjmlepjpfaaGreatDoor.nk,aW,bK]at hx;obtain⟨rfl,rfl⟩:=hx;exact⟨v,hv,fun D z _ _ hz=>by simpa[plug]using hz⟩
 | cons i p ih=>
  intro x r y v hx hl hv;cases x
  case cZ cs=>
   simp only[Go.Proofs.YtbmkfjmlepjpfaaGreatDoor.nk]at hx;split at hx
   case h_2=>simp at hx
   rename_i c hc;split at hx
   case h_2=>simp at hx
   rename_i hh y' ds hrec hds;simp only[aW,bK]at hx;obtain⟨rfl,rfl⟩:=hx;cases hv with
   | cZ hlen hr=>
    rename_i vs;have hi:i<cs.length:=(List.getElem?_eq_some_iff.1 hc).1;obtain⟨u,hu,hpl⟩:=ih hrec (fun o ho=>hl o (by simp only[oM,hc,List.mem_append];exact .inr ho)) (hr i c vs[i] hc (kF (by omega)));refine⟨u,hu,fun D z hD ho hz=>?_⟩;obtain⟨i1,i2⟩:=h.Wl hds (l:=l) (fun o ho=>hl o (by simp only[oM,List.mem_append];exact .inl ho));have i1:ds.length=cs.length:=by simpa using i1
    simp only[plug];refine .cZ (by simp[i1,hlen]) ?_;intro j c' v' hcj hvj;by_cases hj:j=i
    ·subst hj;have hvj':vs[j]?=some vs[j]:=kF (by omega);rw[hvj']at hvj
     injection hvj with hvj;subst hvj;rw[List.getElem?_set_self (by simp;omega)]at hcj
     injection hcj with hcj;subst hcj;simp only[List.getD_eq_getElem?_getD,List.getElem?_set_self (show j<ds.length by omega),Option.getD_some];exact hpl D z hD ho hz
    ·rw[List.getElem?_set_ne (Ne.symm hj),List.getElem?_set_ne (Ne.symm hj)]at hcj
     have hjl:j<cs.length:=by have:=(List.getElem?_eq_some_iff.1 hcj).1;omega
     have:=i2 j cs[j] c' v' (by rw[List.getElem?_set_ne (Ne.symm hj)];exact List.getElem?_eq_getElem hjl) hcj (hr j _ v' (List.getElem?_eq_getElem hjl) hvj);exact tr hD this.1 this.2
  case agg cs=>
   cases p with
   | cons=>simp[Go.Proofs.YtbmkfjmlepjpfaaGreatDoor.nk]at hx
   | nil=>
    simp only[Go.Proofs.YtbmkfjmlepjpfaaGreatDoor.nk]at hx;split at hx
    case h_2=>simp at hx
    rename_i c ds hc hds;simp only[aW,bK]at hx;obtain⟨rfl,rfl⟩:=hx;cases hv with
    | agg hlen hone hr=>
     rename_i vs;have hi:i<cs.length:=(List.getElem?_eq_some_iff.1 hc).1;refine⟨vs[i],hr i c _ hc (kF (by omega)),fun D z hD ho hz=>?_⟩;obtain⟨i1,i2,i3,i4⟩:=h.tq hds (l:=l) (fun o ho=>hl o (by simpa only[oM]using ho));have i1:ds.length=cs.length:=by simpa using i1
     have i3:∀c∈ds,c.one=true:=i3 (fun c hc=>by
      rcases List.mem_or_eq_of_mem_set hc with hc|rfl
      ·exact hone c hc
      ·rfl)
     have i4:=i4 (fun j=>if j=i then .slice none 0 0 else vs.getD j undef) (fun j c hcj=>by
      by_cases hj:j=i
      ·subst hj;rw[List.getElem?_set_self (by omega)]at hcj
       injection hcj with hcj;subst hcj;simp only[if_true];exact .nil
      ·rw[List.getElem?_set_ne (Ne.symm hj)]at hcj
       have hjl:j<cs.length:=(List.getElem?_eq_some_iff.1 hcj).1;simp only[if_neg hj];refine hr j c _ hcj ?_;simp[mq,kF (show j<vs.size by omega)])
     simp only[plug];refine .agg (by simp[i1,hlen]) ?_ ?_
     ·intro c' hc';rcases List.mem_or_eq_of_mem_set hc' with hc'|rfl
      ·rcases List.mem_or_eq_of_mem_set hc' with hc'|rfl
       ·exact i3 c' hc'
       ·rfl
      ·exact ho
     ·intro j c' v' hcj hvj;by_cases hj:j=i
      ·subst hj;have hvj':vs[j]?=some vs[j]:=kF (by omega);rw[hvj']at hvj
       injection hvj with hvj;subst hvj;rw[List.getElem?_set_self (by simp;omega)]at hcj
       injection hcj with hcj;subst hcj;exact hz
      ·rw[List.getElem?_set_ne (Ne.symm hj),List.getElem?_set_ne (Ne.symm hj)]at hcj
       have:=i4 j c' hcj;simp only[if_neg hj,mq,hvj,Option.getD_some]at this;exact tr hD this (bf.1 i2 c' (kK hcj))
  all_goals simp[Go.Proofs.YtbmkfjmlepjpfaaGreatDoor.nk]at hx
theorem G_(h:Inv w0 sh nt μ fr e s a w){T:Nat->Option Fe}{n:Nat}(hT:om P T n){st:Bool}{p:List Nat}{q f:Nat}{l:List X}{vs:Array Value}(hl:l.length=vs.size)
 (hv:∀(j:Nat) x v,l[j]?=some x->vs[j]?=some v->aZ (aU μ s w sh fr) x v) {x:X} {s':ax} (hs:qH (runN T n) T st p q f l s=some (x,s')) :
 Calls P f vs w (fun e' w'=>∃v μ' fr',e'=.returned v/\Inv w0 sh nt μ' fr' e s' a w'/\aZ (aU μ' s' w' sh fr') x v):=by
 unfold qH at hs;split at hs
 case h_1=>simp at hs
 rename_i ys hys;cases hr:uO (runN T n) T p f ys with
 | none=>rw[hr]at hs;simp[jy]at hs
 | some ro=>
 obtain⟨r,ok⟩:=ro;rw[hr]at hs
 obtain⟨i1,i2⟩:=h.vO hys (l:=l.flatMap nJ) (fun _ h=>h);obtain⟨hI0,hle0⟩:=h.gX (l.flatMap nJ);have hP:=hT.2.1 p f ys r ok hr w (fun b=>sh b\/(fr b\/∃o∈l.flatMap nJ,(s o).o.isSome=true/\b=μ o)) vs (w0.JY.below w0.JY.1 h.below) (by
  rintro b (hb|hb)
  ·exact Nat.lt_of_lt_of_le (h.kD b hb) h.below.size
  ·exact(hI0.iF b hb).2) (by omega) (by
  intro j y v hy hjv;have hj:=(List.getElem?_eq_some_iff.1 hy).1;have:=i2 (fun j=>vs.getD j undef) (fun j x hx=>hv j x _ hx (by have:=(List.getElem?_eq_some_iff.1 hx).1;simp[mq,kF (show j<vs.size by omega)])) j y hy
  simpa[mq,hjv]using this)
 refine hP.mono ?_;rintro e' w' ⟨v,fr',rfl,hb,hfr',hrest⟩;obtain⟨hI,hle⟩:=hI0.news w' hb (fun b=>(fr b\/∃o∈l.flatMap nJ,(s o).o.isSome=true/\b=μ o)\/fr' b) (fun _ h=>.inl h) (fun b hb=>hb.imp id (hfr' b));have ov:∀ {D:Cx},D.w=w'->(∀b,sh b->D.sh b\/D.fr b)->(∀b,((fr b\/∃o∈l.flatMap nJ,(s o).o.isSome=true/\b=μ o)\/fr' b)->D.fr b)->
  Ovr w' (fun b=>sh b\/(fr b\/∃o∈l.flatMap nJ,(s o).o.isSome=true/\b=μ o)) fr' D:=by
  intro D h1 h2 h3;refine⟨h1,?_,fun b hb=>h3 b (.inr hb)⟩;rintro b (hb|hb)
  ·exact h2 b hb
  ·exact .inr (h3 b (.inl hb))
 cases ok with
 | none=>
  simp only[jy]at hs;split at hs
  ·simp at hs
  simp only[aW,bK]at hs;obtain⟨rfl,rfl⟩:=hs;exact⟨v,μ,_,rfl,hI,hrest _ (ov rfl (fun _ h=>.inl h) (fun _ h=>h))⟩
 | some kes=>
  obtain⟨k,es⟩:=kes;simp only[jy]at hs;split at hs
  ·simp at hs
  simp only[aW,bK]at hs;obtain⟨rfl,rfl⟩:=hs;obtain⟨b,hb1,hb2,hob,hrp⟩:=hrest;have hlt:∀ {c:Nat},(fr c\/∃o∈l.flatMap nJ,(s o).o.isSome=true/\c=μ o)->c<w.heap.size:=fun hc=>(hI0.iF _ hc).2;obtain⟨hA,hleA⟩:=hI.Zr q b (.row k es) (iq h.below.size hb1) (by
   rintro(hc|hc)
   ·have:=hlt hc;omega
   ·exact hb2 hc) (by
   intro o' ho' hm;obtain⟨ob',hob'⟩:=Option.isSome_iff_exists.1 ho';obtain⟨_,hcs⟩:=(hI0.obj o' ob' hob').1.block;have:=dA hcs;simp only[aU]at this;omega) (fun C' hC hw h1 h2=>hob C' (ov hw (fun b hb=>.inl (h1 b hb)) h2))
  refine⟨v,_,_,rfl,hA,?_⟩;have hq:(gX s (l.flatMap nJ) q).g=(s q).g:=by unfold Go.Proofs.YtbmkfjmlepjpfaaGreatDoor.gX;split<;>rfl
  refine hrp _ q _ (ov rfl (fun _ h=>.inl h) (fun _ h=>h)) (by omega) ?_ (by simp[aU,upd_same]);simp[aU,aN,upd_same,hq]
end
variable {P:Program}
section
variable {w0:Bs} {sh:Nat->Prop} {nt:Nat} {μ:Nat->Nat} {fr:Nat->Prop} {e:Env} {s:ax} {a:Act} {w:World}
theorem Nk{ops:Array Oper}{o:Oper}{g:fE}(h:W_ P nt ops o g=true):o.dst=g.d/\∀n,g.d=some n->n<nt:=by
 simp only[W_,bN]at h;have h:=h.1.1;cases hd:o.dst<;>cases hg:g.d<;>simp only[hd,hg,kG,bN,beq_iff_eq,decide_eq_true_eq]at h
 ·exact⟨rfl,by simp⟩
 ·obtain⟨rfl,h⟩:=h;exact⟨rfl,by simpa using h⟩
theorem sj(h:Inv w0 sh nt μ fr e s a w){ops:Array Oper}{o:Oper}{g:fE}(hok:W_ P nt ops o g=true){t:Bool}(ht:gd g e=some t):Region.wanted o (yielded ops a.tmps)=t:=by
 simp only[W_,bN]at hok;have hok:=hok.1.2;unfold gd at ht;unfold Region.wanted;cases hd:o.guard<;>cases hg:g.g<;>simp only[hd,hg,kG,bN,beq_iff_eq]at hok ht
 ·simpa using ht
 ·rename_i p q;obtain⟨j,want⟩:=p;obtain⟨t',want'⟩:=q;simp only[bN,beq_iff_eq]at hok ht ⊢;obtain⟨rfl,hj⟩:=hok;split at hj
  case h_2=>simp at hj
  rename_i oj hoj;simp only[beq_iff_eq]at hj;split at ht
  case h_3=>simp at ht
  case h_2=>
   rename_i hb;injection ht with ht;subst ht;have hr:=h.env t';rw[hb]at hr
   generalize hv:a.tmps.getD t' undef=v at hr;cases hr with
   | @cZ _ vs hl _=>
    have hy:yielded ops a.tmps j=none:=by
     unfold yielded;simp only[hoj,Option.bind_some,hj];by_cases hlt:t'<a.tmps.size
     ·simp only[mq,kF hlt,Option.getD_some]at hv;simp[kF hlt,hv]
     ·simp[Array.getElem?_eq_none (Nat.le_of_not_lt hlt)]
    rw[hy];rfl
  rename_i b hb;injection ht with ht;subst ht;have hr:=h.env t';rw[hb]at hr
  have hv:=(iP hr).1;have hlt:t'<a.tmps.size:=by
   by_cases hlt:t'<a.tmps.size
   ·exact hlt
   ·simp[mq,Array.getElem?_eq_none (Nat.le_of_not_lt hlt),undef]at hv
  have hy:yielded ops a.tmps j=some b:=by unfold yielded;simp only[hoj,Option.bind_some,hj];simp only[mq,kF hlt,Option.getD_some]at hv;simp[kF hlt,hv]
  rw[hy];cases b<;>cases want<;>rfl
def rF:Option Nat->Fence
 | none=>Fence.wide
 | some l=>Fence.wide.inRound l
theorem OI(r:Option Nat)(f:Nat):(rF r).fn f:=by cases r<;>trivial
theorem rC{r:Option Nat}{n:Nat}:(rF r).depth.isSome=true->1<=n:=by cases r<;>(intro h;simp[rF,Fence.wide,Fence.inRound]at h)
theorem ny{r:Option Nat}{n f:Nat}{args:Array Value}{w:World}{R:Ending->World->Prop}(h:Calls P f args w R):CallsIn (rF r) n P f args w R:=by
 have:=(callsIn_wide (n:=n)).2 h;cases r
 ·exact this
 ·exact this
theorem U6{r:Option Nat}{n l f:Nat}{tm:Array Value}{cA cB:Code}{w:World}{R:Ending->World->Prop}(h:RoundIn Fence.wide 0 P l f tm cA cB w R):RoundIn (rF r) n P l f tm cA cB w R:=by
 have h2:RoundIn Fence.wide n P l f tm cA cB w R:=⟨h.1,fun c cs hr=>h.2 c cs (room_wide _)⟩
 cases r
 ·exact h2
 ·exact h2
theorem yM{o:Oper}{r:Option Nat}(hd:∀c,o.op≠.defer c){K:Act->World->Prop}{Q:Exit->Act->World->Prop}(h:o.uponIn (rF r) 0 P a K Q ((execOp a.eval o).run P w)):o.wpIn (rF r) 0 P a w K Q:=by
 refine⟨fun f _=>OI r f,?_⟩;have:o.semAt (rF r).round a.eval=execOp a.eval o:=by
  cases r with
  | none=>rfl
  | some l=>exact Oper.semAt_some l _ _ hd
 rw[this];exact h
theorem KV{op:Op}{io:iw}(h:(iJ P op io||gL P op io)=true):∀c,op≠.defer c:=by rintro c rfl;cases io<;>simp[iJ,dn,gL,oK]at h
theorem Qg{op:Op}{st:Bool}{f:Nat}{l:List Ar}:iJ P op (.call st f l)=false:=by
 cases h:iJ P op (.call st f l)
 ·rfl
 ·have:=aM h (by simp);cases op<;>simp[dn]at this
theorem KT{op:Op}{st:Bool}{f:Ar}{l:List Ar}:iJ P op (.gN st f l)=false:=by
 cases h:iJ P op (.gN st f l)
 ·rfl
 ·have:=aM h (by simp);cases op<;>simp[dn]at this
theorem KR{op:Op}{f:Nat}{l:List Ar}:iJ P op (.bO f l)=false:=by
 cases h:iJ P op (.bO f l)
 ·rfl
 ·have:=aM h (by simp);cases op<;>simp[dn]at this
theorem KQ{op:Op}{f:Nat}{l:List Ar}:iJ P op (.lu f l)=false:=by
 cases h:iJ P op (.lu f l)
 ·rfl
 ·have:=aM h (by simp);cases op<;>simp[dn]at this
theorem KS{op:Op}{st:Bool}{p:List Nat}{q f:Nat}{l:List Ar}:iJ P op (.bU st p q f l)=false:=by
 cases h:iJ P op (.bU st p q f l)
 ·rfl
 ·have:=aM h (by simp);cases op<;>simp[dn]at this
theorem KU{op:Op}{f:Ar}{l:List Ar}:iJ P op (.gW f l)=false:=by
 cases h:iJ P op (.gW f l)
 ·rfl
 ·have:=aM h (by simp);cases op<;>simp[dn]at this
theorem EI{r:List It->Env->ax->Option (Env×ax)}{T:Nat->Option Fe}{f:Nat}{l:List X}{s:ax}{x:X×ax}(h:bZ r T f l s=some x):(T f).isSome=true:=by
 unfold bZ at h;split at h
 all_goals first|(rename_i hT;simp[hT];done)|(simp at h;done)
theorem MO{r:List It->Env->ax->Option (Env×ax)}{T:Nat->Option Fe}{st:Bool}{f:Nat}{l:List X}{s:ax}{x:X×ax}(h:iM r T st f l s=some x):(T f).isSome=true:=by
 unfold iM at h;split at h
 ·simp at h
 ·split at h
  ·simp at h
  ·rename_i hr;unfold jG at hr;split at hr
   ·simp at hr
   all_goals (rename_i hT;simp[hT])
theorem opW(h:Inv w0 sh nt μ fr e s a w)(hLP:w0.Bt=uN P){rq:Option Nat}{T:Nat->Option Fe}{n:Nat}(hT:lV P T n)(hI:om P T n)(hF:∀f,(T f).isSome=true->lM P f=true){o:Oper}{io:iw}(hok:(iJ P o.op io||gL P o.op io)=true){x:X}{s':ax}(hs:dB (runN T n) T io e s=some (x,s'))
 {K:Act->World->Prop} {Q:Exit->Act->World->Prop} (hK:∀v w' μ' fr',Inv w0 sh nt μ' fr' e s' a w'->aZ (aU μ' s' w' sh fr') x v->(dF io=true->s'=s/\μ'=μ)->K (a.put o.dst v) w'):o.wpIn (rF rq) 0 P a w K Q:=by
 have hnd:=KV hok;have plainOp:iJ P o.op io=true->aB io e s=some (x,s')->(dF io=dM io)->o.wpIn (rF rq) 0 P a w K Q:=by
  intro hok hs hsg;have fin:∀n v w' μ' fr',(execOp a.eval o).run P w=.ok n w'->(n=.value v\/n=.skip/\v=undef)->Inv w0 sh nt μ' fr' e s' a w'->aZ (aU μ' s' w' sh fr') x v->(dF io=true->s'=s/\μ'=μ)->o.wpIn (rF rq) 0 P a w K Q:=by
   intro n v w' μ' fr' h1 h2 h3 h4 h5;refine yM hnd ?_;rw[h1];rcases h2 with rfl|⟨rfl,rfl⟩
   ·exact hK v w' μ' fr' h3 h4 h5
   ·exact hK undef w' μ' fr' h3 h4 h5
  by_cases hst:dM io=true
  ·obtain⟨rfl,n,v,w',fr',h1,h2,h3,h4⟩:=yX h hok hst hs;exact fin n v w' μ fr' h1 h2 h3 h4 (fun _=>⟨rfl,rfl⟩)
  ·obtain⟨n,v,w',μ',fr',h1,h2,h3,h4⟩:=Mj h hok hs;exact fin n v w' μ' fr' h1 h2 h3 h4 (fun hq=>absurd (hsg▸hq) hst)
 have viaCall:∀ {st:Bool} {f:Nat} {l:List X} {vs:Array Value},l.length=vs.size->(∀(j:Nat) x v,l[j]?=some x->vs[j]?=some v->aZ (aU μ s w sh fr) x v)->iM (runN T n) T st f l s=some (x,s')->(dF io=st)->
  (execOp a.eval o).run P w=.ok (.enter f vs) w->o.wpIn (rF rq) 0 P a w K Q:=by
  intro st f l vs hl hv hs hsg hrun;refine yM hnd ?_;rw[hrun,Oper.uponIn_enter];refine⟨rC,ny ((Ko h hT hl hv hs).mono ?_)⟩;rintro e' w' ⟨v,μ',fr',rfl,hI,hr,hst⟩;exact hK v w' μ' fr' hI hr (fun hq=>hst (hsg▸hq))
 cases io
 case call st f l=>
  have hok:gL P o.op (.call st f l)=true:=by have:iJ P o.op (.call st f l)=false:=Qg;simpa[this]using hok
  cases hop:o.op<;>simp only[hop,gL,kG]at hok;rename_i c;split at hok
  case h_2=>simp at hok
  rename_i g hc;simp only[bN,beq_iff_eq]at hok;obtain⟨⟨rfl,hl⟩,hf⟩:=hok;obtain⟨h1,h2⟩:=gY h.env hl;unfold lM at hf;split at hf
  case h_2=>simp at hf
  rename_i fn hfn;simp only[bN,bne_iff_ne,ne_eq]at hf;obtain⟨body,hbody⟩:=Option.isSome_iff_exists.1 hf.1;refine viaCall (st:=st) (l:=l.map (Ar.ev e)) (vs:=c.args.map a.eval) (by simpa using h1) ?_ (by simpa[dB]using hs) rfl ?_
  ·intro j x' v hx hv;simp only[List.getElem?_map,tu]at hx;obtain⟨r,hr,rfl⟩:=hx;simp only[Array.getElem?_map,tu]at hv;obtain⟨y,hy,rfl⟩:=hv;exact h2 j r y hr (by simpa using hy)
  ·simp[execOp,hop,resolve,hc,Act.eval,Deferred.ofValue,invoke,callFunc,hfn,hf.2,hbody]
 case bO f l=>
  have hok:gL P o.op (.bO f l)=true:=by have:iJ P o.op (.bO f l)=false:=KR;simpa[this]using hok
  cases hop:o.op<;>simp only[hop,gL,kG]at hok;rename_i c;split at hok
  case h_2=>simp at hok
  rename_i g hc;simp only[bN,beq_iff_eq]at hok;obtain⟨⟨rfl,hl⟩,hf⟩:=hok;obtain⟨h1,h2⟩:=gY h.env hl;unfold lM at hf;split at hf
  case h_2=>simp at hf
  rename_i fn hfn;simp only[bN,bne_iff_ne,ne_eq]at hf;obtain⟨body,hbody⟩:=Option.isSome_iff_exists.1 hf.1;have hrun:(execOp a.eval o).run P w=.ok (.enter f (c.args.map a.eval)) w:=by simp[execOp,hop,resolve,hc,Act.eval,Deferred.ofValue,invoke,callFunc,hfn,hf.2,hbody]
  refine yM hnd ?_;rw[hrun,Oper.uponIn_enter];refine⟨rC,ny ((hI.1 f _ s x s' (by simpa[dB]using hs) h hLP (c.args.map a.eval) (by simpa using h1) ?_).mono ?_)⟩
  ·intro j x' v hx hv;simp only[List.getElem?_map,tu]at hx;obtain⟨r,hr,rfl⟩:=hx;simp only[Array.getElem?_map,tu]at hv;obtain⟨y,hy,rfl⟩:=hv;exact h2 j r y hr (by simpa using hy)
  ·rintro e' w' ⟨v,μ',fr',rfl,hI,hr,_⟩;exact hK v w' μ' fr' hI hr (fun hq=>by simp[dF,dM]at hq)
 case lu f l=>
  have hok:gL P o.op (.lu f l)=true:=by have:iJ P o.op (.lu f l)=false:=KQ;simpa[this]using hok
  cases hop:o.op<;>simp only[hop,gL,kG]at hok;rename_i c;split at hok
  case h_2=>simp at hok
  rename_i g hc;simp only[bN,beq_iff_eq]at hok;obtain⟨⟨rfl,hl⟩,hf⟩:=hok;obtain⟨h1,h2⟩:=gY h.env hl;unfold lM at hf;split at hf
  case h_2=>simp at hf
  rename_i fn hfn;simp only[bN,bne_iff_ne,ne_eq]at hf;obtain⟨body,hbody⟩:=Option.isSome_iff_exists.1 hf.1;have hrun:(execOp a.eval o).run P w=.ok (.enter f (c.args.map a.eval)) w:=by simp[execOp,hop,resolve,hc,Act.eval,Deferred.ofValue,invoke,callFunc,hfn,hf.2,hbody]
  refine yM hnd ?_;rw[hrun,Oper.uponIn_enter];refine⟨rC,ny ((G9 h hT (l:=l.map (Ar.ev e)) (vs:=c.args.map a.eval) (by simpa using h1) ?_ (by simpa[dB]using hs)).mono ?_)⟩
  ·intro j x' v hx hv;simp only[List.getElem?_map,tu]at hx;obtain⟨r,hr,rfl⟩:=hx;simp only[Array.getElem?_map,tu]at hv;obtain⟨y,hy,rfl⟩:=hv;exact h2 j r y hr (by simpa using hy)
  ·rintro e' w' ⟨v,μ',fr',rfl,hI,hr⟩;exact hK v w' μ' fr' hI hr (fun hq=>by simp[dF,dM]at hq)
 case bU st p q f l=>
  have hok:gL P o.op (.bU st p q f l)=true:=by have:iJ P o.op (.bU st p q f l)=false:=KS;simpa[this]using hok
  cases hop:o.op<;>simp only[hop,gL,kG]at hok;rename_i c;split at hok
  case h_2=>simp at hok
  rename_i g hc;simp only[bN,beq_iff_eq]at hok;obtain⟨⟨rfl,hl⟩,hf⟩:=hok;obtain⟨h1,h2⟩:=gY h.env hl;unfold lM at hf;split at hf
  case h_2=>simp at hf
  rename_i fn hfn;simp only[bN,bne_iff_ne,ne_eq]at hf;obtain⟨body,hbody⟩:=Option.isSome_iff_exists.1 hf.1;have hrun:(execOp a.eval o).run P w=.ok (.enter f (c.args.map a.eval)) w:=by simp[execOp,hop,resolve,hc,Act.eval,Deferred.ofValue,invoke,callFunc,hfn,hf.2,hbody]
  refine yM hnd ?_;rw[hrun,Oper.uponIn_enter];refine⟨rC,ny ((G_ h hI (l:=l.map (Ar.ev e)) (vs:=c.args.map a.eval) (by simpa using h1) ?_ (by simpa[dB]using hs)).mono ?_)⟩
  ·intro j x' v hx hv;simp only[List.getElem?_map,tu]at hx;obtain⟨r,hr,rfl⟩:=hx;simp only[Array.getElem?_map,tu]at hv;obtain⟨y,hy,rfl⟩:=hv;exact h2 j r y hr (by simpa using hy)
  ·rintro e' w' ⟨v,μ',fr',rfl,hI,hr⟩;exact hK v w' μ' fr' hI hr (fun hq=>by simp[dF,dM]at hq)
 case gW f l=>
  have hok:gL P o.op (.gW f l)=true:=by have:iJ P o.op (.gW f l)=false:=KU;simpa[this]using hok
  simp only[dB]at hs;split at hs
  case h_4=>simp at hs
  ·rename_i g cs hg;cases hop:o.op<;>simp only[hop,gL,kG]at hok;rename_i c;split at hok
   case h_2=>simp at hok
   rename_i y hc;simp only[bN]at hok;obtain⟨hy,hl⟩:=hok;obtain⟨h1,h2⟩:=gY h.env hl;have hr:=aD h.env hy;rw[hg]at hr
   have hf:=hF g (by
    split at hs
    ·exact MO hs
    ·exact EI hs)
   unfold lM at hf;split at hf
   case h_2=>simp at hf
   rename_i fn hfn;simp only[bN,bne_iff_ne,ne_eq]at hf;obtain⟨body,hbody⟩:=Option.isSome_iff_exists.1 hf.1;generalize hv:a.eval y=v at hr;cases hr with
   | @fn _ _ us hl' hr'=>
    have hrun:(execOp a.eval o).run P w=.ok (.enter g (c.args.map a.eval++us)) w:=by simp[execOp,hop,resolve,hc,hv,Deferred.ofValue,invoke,callFunc,hfn,hf.2,hbody]
    have hargs:∀(j:Nat) x' v,(l.map (Ar.ev e)++cs)[j]?=some x'->(c.args.map a.eval++us)[j]?=some v->aZ (aU μ s w sh fr) x' v:=by
     have hsz:(c.args.map a.eval).size=(l.map (Ar.ev e)).length:=by simpa using h1.symm
     intro j x' v hx hv;by_cases hj:j<(l.map (Ar.ev e)).length
     ·rw[List.getElem?_append_left hj]at hx
      rw[Array.getElem?_append_left (by omega)]at hv
      simp only[List.getElem?_map,tu]at hx;obtain⟨r,hr,rfl⟩:=hx;simp only[Array.getElem?_map,tu]at hv;obtain⟨y',hy',rfl⟩:=hv;exact h2 j r y' hr (by simpa using hy')
     ·rw[List.getElem?_append_right (by omega)]at hx
      rw[Array.getElem?_append_right (by omega),hsz]at hv
      exact hr' _ x' v hx hv
    have hlen:(l.map (Ar.ev e)++cs).length=(c.args.map a.eval++us).size:=by simp[hl'];simpa using h1
    split at hs
    ·exact viaCall hlen hargs hs rfl hrun
    ·refine yM hnd ?_;rw[hrun,Oper.uponIn_enter];refine⟨rC,ny ((hI.1 g _ s x s' hs h hLP (c.args.map a.eval++us) hlen hargs).mono ?_)⟩;rintro e' w' ⟨v,μ',fr',rfl,hI,hr,_⟩;exact hK v w' μ' fr' hI hr (fun hq=>by simp[dF,dM]at hq)
  ·rename_i g cs hg;cases hop:o.op<;>simp only[hop,gL,kG]at hok;rename_i c;split at hok
   case h_2=>simp at hok
   rename_i y hc;simp only[bN]at hok;obtain⟨hy,hl⟩:=hok;obtain⟨h1,h2⟩:=gY h.env hl;have hr:=aD h.env hy;rw[hg]at hr
   have hf:=hF g (EI hs);unfold lM at hf;split at hf
   case h_2=>simp at hf
   rename_i fn hfn;simp only[bN,bne_iff_ne,ne_eq]at hf;obtain⟨body,hbody⟩:=Option.isSome_iff_exists.1 hf.1;generalize hv:a.eval y=v at hr;cases hr with
   | @fm _ _ us hl' hr'=>
    have hrun:(execOp a.eval o).run P w=.ok (.enter g (us++c.args.map a.eval)) w:=by simp[execOp,hop,resolve,hc,hv,Deferred.ofValue,invoke,callFunc,hfn,hf.2,hbody]
    refine yM hnd ?_;rw[hrun,Oper.uponIn_enter];refine⟨rC,ny ((hI.1 g _ s x s' hs h hLP (us++c.args.map a.eval) (by simp[hl'];simpa using h1) ?_).mono ?_)⟩
    ·intro j x' v hx hv;by_cases hj:j<cs.length
     ·rw[List.getElem?_append_left hj]at hx
      rw[Array.getElem?_append_left (by omega)]at hv
      exact hr' _ x' v hx hv
     ·rw[List.getElem?_append_right (by omega)]at hx
      rw[Array.getElem?_append_right (by omega),<-hl']at hv
      simp only[List.getElem?_map,tu]at hx;obtain⟨r,hr,rfl⟩:=hx;simp only[Array.getElem?_map,tu]at hv;obtain⟨y',hy',rfl⟩:=hv;exact h2 _ r y' hr (by simpa using hy')
    ·rintro e' w' ⟨v,μ',fr',rfl,hI,hr,_⟩;exact hK v w' μ' fr' hI hr (fun hq=>by simp[dF,dM]at hq)
  ·rename_i q g hg;cases hop:o.op<;>simp only[hop,gL,kG]at hok;rename_i c;split at hok
   case h_2=>simp at hok
   rename_i y hc;simp only[bN]at hok;obtain⟨hy,hl⟩:=hok;obtain⟨h1,h2⟩:=gY h.env hl;have hr:=aD h.env hy;rw[hg]at hr
   generalize hv:a.eval y=v at hr;cases hr with
   | Dq g1 g2 g3 g4=>
    obtain⟨hgq,f',tm,cA,cB,hyr,hR⟩:=hI.2.2 q g _ s x s' hs h hLP g1 (c.args.map a.eval) (by simpa using h1) (by intro j x' v hx hv;simp only[List.getElem?_map,tu]at hx;obtain⟨r,hr,rfl⟩:=hx;simp only[Array.getElem?_map,tu]at hv;obtain⟨y,hy,rfl⟩:=hv;exact h2 j r y hr (by simpa using hy))
    have hvv:=g3 hgq.symm;have hrun:(execOp a.eval o).run P w=.ok (.round (μ q) f' tm cA cB) w:=by rw[<-hyr];simp[execOp,hop,resolve,hc,hv,hvv,aU,Deferred.ofValue,invoke,callFunc]
    refine yM hnd ?_;rw[hrun,Oper.uponIn_round];refine⟨rC,U6 (hR.mono ?_)⟩;rintro e' w' ⟨v,μ',fr',rfl,hI,hr⟩;exact hK v w' μ' fr' hI hr (fun hq=>by simp[dF,dM]at hq)
 case gN st f l=>
  have hok:gL P o.op (.gN st f l)=true:=by have:iJ P o.op (.gN st f l)=false:=KT;simpa[this]using hok
  simp only[dB]at hs;split at hs
  case h_2=>simp at hs
  rename_i g cs hg;cases hop:o.op<;>simp only[hop,gL,kG]at hok;rename_i c;split at hok
  case h_2=>simp at hok
  rename_i y hc;simp only[bN]at hok;obtain⟨hy,hl⟩:=hok;obtain⟨h1,h2⟩:=gY h.env hl;have hr:=aD h.env hy;rw[hg]at hr
  have hf:=hF g (MO hs);unfold lM at hf;split at hf
  case h_2=>simp at hf
  rename_i fn hfn;simp only[bN,bne_iff_ne,ne_eq]at hf;obtain⟨body,hbody⟩:=Option.isSome_iff_exists.1 hf.1;generalize hv:a.eval y=v at hr;cases hr with
  | @fn _ _ us hl' hr'=>
   refine viaCall (l:=l.map (Ar.ev e)++cs) (vs:=c.args.map a.eval++us) (by simp[hl'];simpa using h1) ?_ hs rfl ?_
   ·have hsz:(c.args.map a.eval).size=(l.map (Ar.ev e)).length:=by simpa using h1.symm
    intro j x' v hx hv;by_cases hj:j<(l.map (Ar.ev e)).length
    ·rw[List.getElem?_append_left hj]at hx
     rw[Array.getElem?_append_left (by omega)]at hv
     simp only[List.getElem?_map,tu]at hx;obtain⟨r,hr,rfl⟩:=hx;simp only[Array.getElem?_map,tu]at hv;obtain⟨y',hy',rfl⟩:=hv;exact h2 j r y' hr (by simpa using hy')
    ·rw[List.getElem?_append_right (by omega)]at hx
     rw[Array.getElem?_append_right (by omega),hsz]at hv
     exact hr' _ x' v hx hv
   ·simp[execOp,hop,resolve,hc,hv,Deferred.ofValue,invoke,callFunc,hfn,hf.2,hbody]
 all_goals
  refine plainOp ?_ (by simpa[dB]using hs) rfl;refine(Bool.or_eq_true _ _▸hok).resolve_right ?_;cases o.op<;>simp[gL]
end
variable {P:Program}
def Qk(T:Nat->Option Fe)(w0:Bs)(sh:Nat->Prop)(nt n:Nat)(k:List It)(rq:Option Nat)(x:Env×ax):Exit->Act->World->Prop
 | .normal,a,w=>∃m,m<n/\∃μ fr e s,Inv w0 sh nt μ fr e s a w/\runN T m k e s=some x
 | .exit id,a,w=>(∃k' m,bS id k=some k'/\m<n/\∃μ fr e s,Inv w0 sh nt μ fr e s a w/\runN T m k' e s=some x)\/
  ∃q μ fr s,rq=some q/\bS id k=none/\Inv w0 sh nt μ fr x.1 s a w/\zq s q (some id)=some x.2
 | .ret,a,w=>(rq=none/\∃μ fr,Inv w0 sh nt μ fr x.1 x.2 a w)\/∃q μ fr s,rq=some q/\Inv w0 sh nt μ fr x.1 s a w/\zq s q none=some x.2
 | _,_,_=>False
theorem Qk.mono{T:Nat->Option Fe}{w0:Bs}{sh:Nat->Prop}{nt n m:Nat}{k:List It}{rq:Option Nat}{x:Env×ax}(h:n<=m){e:Exit}{a:Act}{w:World}(hq:Qk T w0 sh nt n k rq x e a w):Qk T w0 sh nt m k rq x e a w:=by
 cases e with
 | normal=>obtain⟨q,hq,r⟩:=hq;exact⟨q,by omega,r⟩
 | exit id=>
  rcases hq with⟨k',q,h1,hq,r⟩|hq
  ·exact .inl ⟨k',q,h1,by omega,r⟩
  ·exact .inr hq
 | ret=>exact hq
 | _=>exact hq
section
variable {T:Nat->Option Fe} {w0:Bs} {sh:Nat->Prop} {nt:Nat} {k:List It} {x:Env×ax} {ops:Array Oper}
theorem BI(hLP:w0.Bt=uN P){r:Option Nat}{Q:Exit->Act->World->Prop}(hF:∀f,(T f).isSome=true->lM P f=true):∀ {l:List Oper} {gl:List fE} {n N:Nat} {μ:Nat->Nat} {fr:Nat->Prop} {e:Env} {s:ax} {a:Act} {w:World},wH P nt ops l gl=true->n<=N->(∀m,m<N->lV P T m/\om P T m)->(∀m μ fr e s a w,m<N->Inv w0 sh nt μ fr e s a w->runN T m k e s=some x->Q .normal a w)->
 Inv w0 sh nt μ fr e s a w->runN T n (.ops gl::k) e s=some x->wpListIn (rF r) 0 P ops Q l a w:=by
 intro l;induction l with
 | nil=>
  intro gl n N μ fr e s a w hok hn hT hQ h hr;cases gl with
  | cons=>simp[wH]at hok
  | nil=>
   cases n with
   | zero=>simp[runN]at hr
   | succ n=>exact wpListIn_nil (hQ n μ fr e s a w (by omega) h (by simpa only[runN]using hr))
 | cons o l ih=>
  intro gl n N μ fr e s a w hok hn hT hQ h hr;cases gl with
  | nil=>simp[wH]at hok
  | cons g gl=>
   cases n with
   | zero=>simp[runN]at hr
   | succ n=>
    simp only[wH,bN]at hok;obtain⟨hd,hdn⟩:=Nk hok.1;have hop:(iJ P o.op g.op||gL P o.op g.op)=true:=by have:=hok.1;simp only[W_,bN]at this;exact this.2
    simp only[runN]at hr;unfold wpListIn;split at hr
    ·rename_i hg;rw[if_pos (sj h hok.1 hg)];split at hr
     case h_2=>simp at hr
     rename_i y s' hy;refine opW h hLP (hT n (by omega)).1 (hT n (by omega)).2 hF hop hy fun v w' μ' fr' hI hrep _=>?_
     rw[hd];exact ih hok.2 (by omega) hT hQ (hI.put hdn hrep) hr
    ·rename_i hg;rw[if_neg (by rw[sj h hok.1 hg];simp)];rw[hd];refine⟨fun f _=>OI r f,?_⟩;exact ih hok.2 (by omega) hT hQ (h.put hdn (.cZ rfl (by simp))) hr
    ·simp at hr
theorem Td(hLP:w0.Bt=uN P){rq r:Option Nat}(hF:∀f,(T f).isSome=true->lM P f=true){l:List Oper}{gl:List fE}{n N:Nat}{μ:Nat->Nat}{fr:Nat->Prop}{e:Env}{s:ax}{a:Act}{w:World}(hok:wH P nt ops l gl=true)(hn:n<=N)(hT:∀m,m<N->lV P T m/\om P T m)
 (h:Inv w0 sh nt μ fr e s a w) (hr:runN T n (.ops gl::k) e s=some x):wpListIn (rF r) 0 P ops (Qk T w0 sh nt N k rq x) l a w:=
 BI hLP hF hok hn hT (fun m μ fr e s a w hm hI hr=>⟨m,hm,μ,fr,e,s,hI,hr⟩) h hr
end
theorem R6{e e':Env}{a:Ar}(h:∀n∈a.sl,e n=e' n):a.ev e=a.ev e':=by
 cases a with
 | t n=>exact h n (by simp[Ar.sl])
 | k x=>rfl
theorem U7{op:iw}{e e':Env}(h:∀n∈op.rd,e n=e' n):∀a∈op.p8,a.ev e=a.ev e':=fun a ha=>R6 fun n hn=>h n (List.mem_flatMap.2 ⟨a,ha,hn⟩)
theorem rR{e e':Env}{a:Option Ar}{d y:Nat}(h:∀b∈Qn a,b.ev e=b.ev e'):bnd e a d y=bnd e' a d y:=by
 cases a with
 | none=>rfl
 | some a=>simp only[bnd,h a (by simp[Qn])]
theorem KC{e e':Env}:∀ {ps:List (Nat×Nat×Ar)} {cs:List X},(∀a∈ps.map fun p=>p.2.2,a.ev e=a.ev e')->fill e cs ps=fill e' cs ps:=by
 intro ps;induction ps with
 | nil=>intro cs _;rfl
 | cons p ps ih=>
  intro cs h;obtain⟨j,w,a⟩:=p;have ha:a.ev e=a.ev e':=h a (by simp);simp only[fill,ha];split
  ·exact ih (fun n hn=>h n (by simp only[ku];exact List.mem_cons_of_mem _ hn))
  ·rfl
theorem qL{e e':Env}{s s':ax}{k:Nat}:∀ {ps:List (Nat×Ar)} {es:List X},(∀a∈ps.map fun p=>p.2,a.ev e=a.ev e'/\nI s (a.ev e')=nI s' (a.ev e'))->jH e s k es ps=jH e' s' k es ps:=by
 intro ps;induction ps with
 | nil=>intro cs _;rfl
 | cons p ps ih=>
  intro es h;obtain⟨j,a⟩:=p;obtain⟨ha,hb⟩:=h a (by simp);simp only[jH,ha,hb,ih (fun n hn=>h n (by simp only[ku];exact List.mem_cons_of_mem _ hn))]
theorem KM{e e':Env}{mx:Bool}:∀ {l:List Ar} {u:Value},(∀a∈l,a.ev e=a.ev e')->qU mx e u l=qU mx e' u l:=by
 intro l;induction l with
 | nil=>intro u _;rfl
 | cons a l ih=>
  intro u h;have ha:a.ev e=a.ev e':=h a (by simp);simp only[qU,ha,fun u=>ih (u:=u) (fun n hn=>h n (List.mem_cons_of_mem _ hn))]
theorem yV{e e':Env}{s:ax}{io:iw}(h:∀a∈io.p8,a.ev e=a.ev e'):aB io e s=aB io e' s:=by
 have at1:∀ {a:Ar},io.p8=[a]->a.ev e=a.ev e':=fun hq=>h _ (by simp[hq]);have at2:∀ {a b:Ar},io.p8=[a,b]->a.ev e=a.ev e'/\b.ev e=b.ev e':=fun hq=>⟨h _ (by simp[hq]),h _ (by simp[hq])⟩
 have at3:∀ {a b c:Ar},io.p8=[a,b,c]->a.ev e=a.ev e'/\b.ev e=b.ev e'/\c.ev e=c.ev e':=fun hq=>⟨h _ (by simp[hq]),h _ (by simp[hq]),h _ (by simp[hq])⟩
 cases io
 case call=>rfl
 case gN=>rfl
 case bO=>rfl
 case lu=>rfl
 case bU=>rfl
 case gW=>rfl
 case build z ps=>simp only[aB,KC (e:=e) (e':=e') (ps:=ps) h]
 case jP k n z ps=>simp only[aB,qL (e:=e) (e':=e') (s':=s) (ps:=ps) (fun a ha=>⟨h a ha,rfl⟩)]
 case lg o k n z ps=>simp only[aB,qL (e:=e) (e':=e') (s':=s) (ps:=ps) (fun a ha=>⟨h a ha,rfl⟩)]
 case sls a lo hi=>
  have h1:a.ev e=a.ev e':=h a (by simp[iw.p8]);have h2:∀d y,bnd e lo d y=bnd e' lo d y:=fun d y=>rR fun b hb=>h b (by simp[iw.p8,hb]);have h3:∀d y,bnd e hi d y=bnd e' hi d y:=fun d y=>rR fun b hb=>h b (by simp[iw.p8,hb]);simp only[aB,h1,h2,h3]
 case Vp k a lo hi=>
  have h1:a.ev e=a.ev e':=h a (by simp[iw.p8]);have h2:∀d y,bnd e lo d y=bnd e' lo d y:=fun d y=>rR fun b hb=>h b (by simp[iw.p8,hb]);have h3:∀d y,bnd e hi d y=bnd e' hi d y:=fun d y=>rR fun b hb=>h b (by simp[iw.p8,hb]);simp only[aB,h1,h2,h3]
 case bA mx a l=>
  have h1:a.ev e=a.ev e':=h a (by simp[iw.p8]);have h2:∀u,qU mx e u l=qU mx e' u l:=fun u=>KM fun b hb=>h b (by simp[iw.p8,hb]);simp only[aB,h1,h2]
 case KI f l=>
  have h1:l.map (Ar.ev e)=l.map (Ar.ev e'):=List.map_congr_left h;simp only[aB,h1]
 case IX f l=>
  have h1:l.map (Ar.ev e)=l.map (Ar.ev e'):=List.map_congr_left h;simp only[aB,h1]
 case KJ o hh=>
  cases hh with
  | none=>rfl
  | some a=>
   have h1:a.ev e=a.ev e':=h a (by simp[iw.p8,Qn]);have h2:Bf e (some a)=Bf e' (some a):=by simp only[Bf,h1]
   simp only[aB,h2]
 case pick a b c=>obtain⟨h1,h2,h3⟩:=at3 (a:=a) (b:=b) (c:=c) rfl;simp only[aB,h1,h2,h3]
 case SQ a b c=>obtain⟨h1,h2,h3⟩:=at3 (a:=a) (b:=b) (c:=c) rfl;simp only[aB,h1,h2,h3]
 case Rl ks ag a b c=>obtain⟨h1,h2,h3⟩:=at3 (a:=a) (b:=b) (c:=c) rfl;simp only[aB,h1,h2,h3]
 case st a b w=>obtain⟨h1,h2⟩:=at2 (a:=a) (b:=b) rfl;simp only[aB,h1,h2]
 case app o k lim a b=>obtain⟨h1,h2⟩:=at2 (a:=a) (b:=b) rfl;simp only[aB,h1,h2]
 case Rh o k lim a b=>obtain⟨h1,h2⟩:=at2 (a:=a) (b:=b) rfl;simp only[aB,h1,h2]
 case Zt o k z d a b=>obtain⟨h1,h2⟩:=at2 (a:=a) (b:=b) rfl;simp only[aB,h1,h2]
 case P6 o k z a b lim=>obtain⟨h1,h2⟩:=at2 (a:=a) (b:=b) rfl;simp only[aB,h1,h2]
 case KL ks ag a b z ok=>obtain⟨h1,h2⟩:=at2 (a:=a) (b:=b) rfl;simp only[aB,h1,h2]
 case SK ks ag a b z=>obtain⟨h1,h2⟩:=at2 (a:=a) (b:=b) rfl;simp only[aB,h1,h2]
 case bin op a b=>obtain⟨h1,h2⟩:=at2 (a:=a) (b:=b) rfl;simp only[aB,h1,h2]
 case eqs neg ks a b=>obtain⟨h1,h2⟩:=at2 (a:=a) (b:=b) rfl;simp only[aB,h1,h2]
 case ZJ neg a b=>obtain⟨h1,h2⟩:=at2 (a:=a) (b:=b) rfl;simp only[aB,h1,h2]
 case dN a b w=>obtain⟨h1,h2⟩:=at2 (a:=a) (b:=b) rfl;simp only[aB,h1,h2]
 case DX a b w n=>obtain⟨h1,h2⟩:=at2 (a:=a) (b:=b) rfl;simp only[aB,h1,h2]
 case JZ a b=>obtain⟨h1,h2⟩:=at2 (a:=a) (b:=b) rfl;simp only[aB,h1,h2]
 case ixv a b w n ag=>obtain⟨h1,h2⟩:=at2 (a:=a) (b:=b) rfl;simp only[aB,h1,h2]
 case bM a=>have h1:=at1 (a:=a) rfl;simp only[aB,h1]
 case box o a=>have h1:=at1 (a:=a) rfl;simp only[aB,h1]
 case Aj a=>have h1:=at1 (a:=a) rfl;simp only[aB,h1]
 case ld a w ag=>have h1:=at1 (a:=a) rfl;simp only[aB,h1]
 case VX a=>have h1:=at1 (a:=a) rfl;simp only[aB,h1]
 case un op a=>have h1:=at1 (a:=a) rfl;simp only[aB,h1]
 case cvs a=>have h1:=at1 (a:=a) rfl;simp only[aB,h1]
 case conv k a=>have h1:=at1 (a:=a) rfl;simp only[aB,h1]
 case fa a j=>have h1:=at1 (a:=a) rfl;simp only[aB,h1]
 case M4 a j w ag=>have h1:=at1 (a:=a) rfl;simp only[aB,h1]
 case len a=>have h1:=at1 (a:=a) rfl;simp only[aB,h1]
 case lens a=>have h1:=at1 (a:=a) rfl;simp only[aB,h1]
 case ext a i=>have h1:=at1 (a:=a) rfl;simp only[aB,h1]
 case VU neg a=>have h1:=at1 (a:=a) rfl;simp only[aB,h1]
 case VT neg a=>have h1:=at1 (a:=a) rfl;simp only[aB,h1]
 case no=>rfl
 case P7 a=>have h1:=at1 (a:=a) rfl;simp only[aB,h1]
theorem Ql{r:List It->Env->ax->Option (Env×ax)}{T:Nat->Option Fe}{e e':Env}{s:ax}{io:iw}(h:∀n∈io.rd,e n=e' n):dB r T io e s=dB r T io e' s:=by
 replace h:=U7 h;cases io
 case call st f l=>simp only[dB,show l.map (Ar.ev e)=l.map (Ar.ev e')from List.map_congr_left h]
 case bO f l=>simp only[dB,show l.map (Ar.ev e)=l.map (Ar.ev e')from List.map_congr_left h]
 case bU st p q f l=>simp only[dB,show l.map (Ar.ev e)=l.map (Ar.ev e')from List.map_congr_left h]
 case gW f l=>
  have h1:f.ev e=f.ev e':=h f (by simp[iw.p8]);have h2:l.map (Ar.ev e)=l.map (Ar.ev e'):=List.map_congr_left fun a ha=>h a (by simp[iw.p8,ha]);simp only[dB,h1,h2]
 case lu f l=>simp only[dB,show l.map (Ar.ev e)=l.map (Ar.ev e')from List.map_congr_left h]
 case gN st f l=>
  have h1:f.ev e=f.ev e':=h f (by simp[iw.p8]);have h2:l.map (Ar.ev e)=l.map (Ar.ev e'):=List.map_congr_left fun a ha=>h a (by simp[iw.p8,ha]);simp only[dB,h1,h2]
 all_goals
  simp only[dB];exact yV h
theorem IG{e e':Env}{g:fE}(h:∀n∈g.rd,e n=e' n):gd g e=gd g e':=by
 unfold gd;split
 ·rfl
 ·rename_i t want hg;have:e t=e' t:=h t (by simp[fE.rd,hg]);rw[this]
theorem pY{io:iw}{e:Env}{s s':ax}{x:X}(hst:dM io=true)(h:aB io e s=some (x,s')):s'=s:=by
 cases io<;>simp only[dM,kG]at hst<;>simp only[aB,tC]at h
 all_goals
  repeat' split at h
  all_goals first
   | (simp only[aW,bK]at h;exact h.2.symm)
   | (simp at h;done)
theorem yu{r:List It->Env->ax->Option (Env×ax)}{T:Nat->Option Fe}{f:Nat}{l:List X}{s s':ax}{x:X}(h:iM r T true f l s=some (x,s')):s'=s:=by
 unfold iM at h;split at h
 ·simp at h
 split at h
 ·simp at h
 split at h
 ·simp only[aW,bK]at h;exact h.2.symm
 rw[if_pos rfl]at h
 split at h
 ·simp only[aW,bK]at h;exact h.2.symm
 ·simp at h
theorem JP{r:List It->Env->ax->Option (Env×ax)}{T:Nat->Option Fe}{io:iw}{e:Env}{s s':ax}{x:X}(hst:dF io=true)(h:dB r T io e s=some (x,s')):s'=s:=by
 cases io
 case call st f l=>
  simp only[dF]at hst;subst hst;exact yu h
 case gN st f l=>
  simp only[dF]at hst;subst hst;simp only[dB]at h;split at h
  ·exact yu h
  ·simp at h
 case bO=>simp[dF,dM]at hst
 case lu=>simp[dF,dM]at hst
 case bU=>simp[dF,dM]at hst
 case gW=>simp[dF,dM]at hst
 all_goals
  simp only[dB]at h;exact pY (by simpa only[dF]using hst) h
variable {P:Program}
theorem CB{io:iw}{e:Env}{s s' s2:ax}{x:X}(hf:Bb io=true)(h:aB io e s=some (x,s')):aB io e s2=some (x,s2):=by
 cases io<;>simp only[Bb,kG]at hf<;>simp only[aB,tC]at h ⊢
 all_goals
  repeat' split at h
  all_goals first
   | (simp only[aW,bK]at h;obtain⟨rfl,rfl⟩:=h;simp[*])
   | (simp at h;done)
theorem PZ{s s2:ax}{x:X}{w:Nat}{ag:Bool}(h:∀o∈lK x,s2 o=s o):EX s2 x w ag=EX s x w ag:=by
 cases x<;>simp only[EX]
 ·rw[h _ (by simp[lK])]
 ·rw[h _ (by simp[lK])]
theorem xI{s s2:ax}{x:X}(h:∀o∈lK x,s2 o=s o):mK s2 x=mK s x:=by cases x<;>simp only[mK];rw[h _ (by simp[lK])]
theorem Px{s s2:ax}:∀ {l:List X},(∀o∈BA l,s2 o=s o)->tq s2 l=tq s l:=by
 intro l;induction l with
 | nil=>intro _;rfl
 | cons x l ih=>
  intro h;simp only[tq,xI (x:=x) (fun o ho=>h o (by simp[BA,ho])),ih (fun o ho=>h o (by simp[BA,ho]))]
theorem DL{s s2:ax}{x:X}(h:∀o∈lK x,s2 o=s o):nI s2 x=nI s x:=by
 cases x
 case agg cs=>simp only[nI,Px (l:=cs) (by simpa[lK]using h)]
 all_goals exact xI h
theorem DN{s s2:ax}{x:X}(h:∀o∈lK x,s2 o=s o):zF s2 x=zF s x:=by
 cases x
 case ptr o g j=>simp only[zF,h o (by simp[lK])]
 case ip=>rfl
 all_goals exact xI h
theorem Kv{s s2:ax}:∀ {l:List X},(∀o∈BA l,s2 o=s o)->sZ s2 l=sZ s l:=by
 intro l;induction l with
 | nil=>intro _;rfl
 | cons x l ih=>
  intro h;simp only[sZ,DN (x:=x) (fun o ho=>h o (by simp[BA,ho])),ih (fun o ho=>h o (by simp[BA,ho]))]
theorem Pw{s s2:ax}{x:X}(h:∀o∈lK x,s2 o=s o):yD s2 x=yD s x:=by
 cases x
 case fn f cs=>simp only[yD,Kv (l:=cs) (by simpa[lK]using h)]
 case ptr=>exact DN h
 case ip=>rfl
 all_goals exact DL h
theorem Pt{s s2:ax}:∀ {l:List X},(∀x∈l,∀o∈lK x,s2 o=s o)->vO s2 l=vO s l:=by
 intro l;induction l with
 | nil=>intro _;rfl
 | cons x l ih=>
  intro h;simp only[vO,Pw (x:=x) (h x (by simp)),ih (fun y hy=>h y (by simp[hy]))]
theorem DZ{s s2:ax}{x:X}(h:∀o∈lK x,s2 o=s o):GD s2 x=GD s x:=by cases x<;>simp only[GD];rw[h _ (by simp[lK])]
theorem JO{io:iw}{e:Env}{s s' s2:ax}{x:X}(hst:dM io=true)(hl:∀a∈io.p8,∀o∈lK (a.ev e),s2 o=s o)(h:aB io e s=some (x,s')):aB io e s2=some (x,s2):=by
 by_cases hf:Bb io=true
 ·exact CB hf h
 have h1:∀ {a:Ar},a∈io.p8->∀o∈lK (a.ev e),s2 o=s o:=fun ha=>hl _ ha;cases io<;>simp only[dM,Bb,kG,not_true_eq_false]at hst hf
 case ld a w ag=>
  simp only[aB]at h ⊢;obtain⟨h2,rfl⟩:=oP h;rw[PZ (h1 (by simp[iw.p8])),h2];rfl
 case VX a=>
  have h1:=h1 (a:=a) (by simp[iw.p8]);simp only[aB]at h ⊢;split at h
  ·rename_i o g j hx
   try simp only[hx]at h1 ⊢
   rw[h1 o (by simp[lK])];split at h
   ·rename_i hg;simp only[aW,bK]at h;obtain⟨rfl,rfl⟩:=h;rw[if_pos hg]
   ·simp at h
  ·rename_i o g k i j hx
   try simp only[hx]at h1 ⊢
   rw[h1 o (by simp[lK])];split at h
   ·rename_i hg;simp only[aW,bK]at h;obtain⟨rfl,rfl⟩:=h;rw[if_pos hg]
   ·simp at h
  ·rename_i y j hx
   try simp only[hx]
   simp only[aW,bK]at h;obtain⟨rfl,rfl⟩:=h;rfl
  ·simp at h
 case fa a j=>
  have h1:=h1 (a:=a) (by simp[iw.p8]);simp only[aB]at h ⊢;split at h
  ·rename_i o g i hx
   try simp only[hx]at h1 ⊢
   rw[h1 o (by simp[lK])];split at h
   ·rename_i hg;simp only[aW,bK]at h;obtain⟨rfl,rfl⟩:=h;rw[if_pos hg]
   ·simp at h
  ·rename_i o g k i l hx
   try simp only[hx]at h1 ⊢
   rw[h1 o (by simp[lK])];split at h
   ·rename_i hg;simp only[aW,bK]at h;obtain⟨rfl,rfl⟩:=h;rw[if_pos hg]
   ·simp at h
  ·rename_i y i hx
   try simp only[hx]
   simp only[aW,bK]at h;obtain⟨rfl,rfl⟩:=h;rfl
  ·simp at h
 case dN a b w=>
  have h1:=h1 (a:=a) (by simp[iw.p8]);simp only[aB]at h ⊢;split at h
  case h_2=>simp at h
  rename_i n hn
  try simp only[hn]
  split at h
  ·rename_i f es hx
   try simp only[hx]
   split at h
   ·rename_i hc;rw[if_pos hc];split at h
    ·rename_i y hy
     try simp only[hy]
     split at h
     ·rename_i hw;simp only[aW,bK]at h;obtain⟨rfl,rfl⟩:=h;rw[if_pos hw]
     ·simp at h
    ·simp at h
   ·simp at h
  ·rename_i o g k j m hx
   try simp only[hx]at h1 ⊢
   rw[h1 o (by simp[lK])];split at h
   ·rename_i hg;simp only[aW,bK]at h;obtain⟨rfl,rfl⟩:=h;rw[if_pos hg]
   ·simp at h
  ·simp at h
 case DX a b w n=>
  have h1:=h1 (a:=a) (by simp[iw.p8]);simp only[aB]at h ⊢;split at h
  case h_2=>simp at h
  rename_i m hm
  try simp only[hm]
  split at h
  case isFalse=>simp at h
  rename_i hc;rw[if_pos hc];split at h
  ·rename_i o g j hx
   try simp only[hx]at h1 ⊢
   rw[h1 o (by simp[lK])];split at h
   ·rename_i hg;simp only[aW,bK]at h;obtain⟨rfl,rfl⟩:=h;rw[if_pos hg]
   ·simp at h
  ·rename_i y j hx
   try simp only[hx]
   simp only[aW,bK]at h;obtain⟨rfl,rfl⟩:=h;rfl
  ·simp at h
 case Vp w a lo hi=>
  have h1:=h1 (a:=a) (by simp[iw.p8]);simp only[aB]at h ⊢;cases hx:a.ev e<;>simp only[hx]at h h1 ⊢<;>first|(simp at h;done)|skip
  ·split at h
   case h_2=>simp at h
   rename_i hh
   try simp only[hh]
   split at h
   case h_2=>simp at h
   rename_i hh2
   try simp only[hh2]
   simp only[aW,bK]at h;obtain⟨rfl,rfl⟩:=h;rfl
  ·split at h
   ·simp at h
   rename_i hc;rw[if_neg hc];split at h
   case h_2=>simp at h
   rename_i hh
   try simp only[hh]
   split at h
   case h_2=>simp at h
   rename_i hh2
   try simp only[hh2]
   simp only[aW,bK]at h;obtain⟨rfl,rfl⟩:=h;rfl
  ·rename_i o g k i n;rw[h1 o (by simp[lK])];split at h
   ·simp at h
   rename_i hc;rw[if_neg hc];split at h
   case h_2=>simp at h
   rename_i hh
   try simp only[hh]
   split at h
   case h_2=>simp at h
   rename_i hh2
   try simp only[hh2]
   simp only[aW,bK]at h;obtain⟨rfl,rfl⟩:=h;rfl
 case jP k n z ps=>
  simp only[aB]at h ⊢;rw[qL (e:=e) (e':=e) (s:=s2) (s':=s) (ps:=ps) (fun a ha=>⟨rfl,DL (h1 (by simpa[iw.p8]using ha))⟩)];split at h
  ·rename_i hc
   try simp only[hc]
   simp only[aW,bK]at h;obtain⟨rfl,rfl⟩:=h;rfl
  ·simp at h
 case len a=>
  have h1:=h1 (a:=a) (by simp[iw.p8]);simp only[aB]at h ⊢;split at h
  ·rename_i f es hx
   try simp only[hx]
   simp only[aW,bK]at h;obtain⟨rfl,rfl⟩:=h;rfl
  ·rename_i o g k i n hx
   try simp only[hx]at h1 ⊢
   rw[h1 o (by simp[lK])];split at h
   ·rename_i hg;simp only[aW,bK]at h;obtain⟨rfl,rfl⟩:=h;rw[if_pos hg]
   ·simp at h
  ·rename_i hx
   try simp only[hx]
   simp only[aW,bK]at h;obtain⟨rfl,rfl⟩:=h;rfl
  ·simp at h
 case VT neg a=>
  simp only[aB]at h ⊢;split at h
  ·rename_i hx
   try simp only[hx]
   simp only[aW,bK]at h;obtain⟨rfl,rfl⟩:=h;rfl
  ·rename_i hx
   try simp only[hx]
   simp only[aW,bK]at h;obtain⟨rfl,rfl⟩:=h;rfl
  ·rename_i hx
   try simp only[hx]
   simp only[aW,bK]at h;obtain⟨rfl,rfl⟩:=h;rfl
  ·simp at h
 case VU neg a=>
  have h1:=h1 (a:=a) (by simp[iw.p8]);simp only[aB]at h ⊢;split at h
  ·rename_i hx
   try simp only[hx]
   simp only[aW,bK]at h;obtain⟨rfl,rfl⟩:=h;rfl
  ·rename_i o g k i n hx
   try simp only[hx]at h1 ⊢
   rw[h1 o (by simp[lK])];split at h
   ·rename_i hg;simp only[aW,bK]at h;obtain⟨rfl,rfl⟩:=h;rw[if_pos hg]
   ·simp at h
  ·simp at h
 case KL ks ag m k z ok=>
  simp only[aB]at h ⊢;rw[DZ (h1 (a:=m) (by simp[iw.p8]))];split at h
  case h_2=>simp at h
  rename_i q es hq
  try simp only[hq]
  split at h
  case h_2=>simp at h
  rename_i r hr
  try simp only[hr]
  split at h
  case h_2=>simp at h
  rename_i v hv
  try simp only[hv]
  simp only[aW,bK]at h;obtain⟨rfl,rfl⟩:=h;rfl
 case P7 m=>
  simp only[aB]at h ⊢;rw[DZ (h1 (a:=m) (by simp[iw.p8]))];split at h
  case h_2=>simp at h
  rename_i q es hq
  try simp only[hq]
  simp only[aW,bK]at h;obtain⟨rfl,rfl⟩:=h;rfl
theorem qI{s s2:ax}{x:X}{y:X}(hn:p_ x=[])(h:mK s x=some y):mK s2 x=some y:=by
 cases x
 case ref=>simp[p_]at hn
 all_goals (simp only[mK]at h ⊢;exact h)
theorem Ih{s s2:ax}:∀ {l m:List X},l.flatMap p_=[]->tq s l=some m->tq s2 l=some m:=by
 intro l;induction l with
 | nil=>intro m _ h;simpa only[tq]using h
 | cons x l ih=>
  intro m hn h;simp only[List.flatMap_cons,List.append_eq_nil_iff]at hn;simp only[tq]at h ⊢;split at h
  case h_2=>simp at h
  rename_i y k hy hk;rw[qI hn.1 hy,ih hn.2 hk];exact h
theorem H9{s s2:ax}{x:X}{y:X}(hn:nX x=[])(h:nI s x=some y):nI s2 x=some y:=by
 cases x
 case agg cs=>
  simp only[nI]at h ⊢;split at h
  case h_2=>simp at h
  rename_i ds hd;rw[Ih (by simpa[nX]using hn) hd];exact h
 all_goals (simp only[nX]at hn;simp only[nI]at h ⊢;exact qI hn h)
theorem Ie{s s2:ax}{x:X}{y:X}(hn:S9 x=[])(h:zF s x=some y):zF s2 x=some y:=by
 cases x
 case ptr=>simp[S9]at hn
 case ip=>simpa only[zF]using h
 all_goals (simp only[S9]at hn;simp only[zF]at h ⊢;exact qI hn h)
theorem EM{s s2:ax}:∀ {l m:List X},l.flatMap S9=[]->sZ s l=some m->sZ s2 l=some m:=by
 intro l;induction l with
 | nil=>intro m _ h;simpa only[sZ]using h
 | cons x l ih=>
  intro m hn h;simp only[List.flatMap_cons,List.append_eq_nil_iff]at hn;simp only[sZ]at h ⊢;split at h
  case h_2=>simp at h
  rename_i y k hy hk;rw[Ie hn.1 hy,ih hn.2 hk];exact h
theorem H_{s s2:ax}{x:X}{y:X}(hn:nJ x=[])(h:yD s x=some y):yD s2 x=some y:=by
 cases x
 case fn f cs=>
  simp only[yD]at h ⊢;split at h
  case h_2=>simp at h
  rename_i ds hd;rw[EM (by simpa[nJ]using hn) hd];exact h
 case ptr=>simp[nJ]at hn
 case ip=>simpa only[yD,zF]using h
 all_goals (simp only[nJ]at hn;simp only[yD]at h ⊢;exact H9 hn h)
theorem H8{s s2:ax}:∀ {l m:List X},l.flatMap nJ=[]->vO s l=some m->vO s2 l=some m:=by
 intro l;induction l with
 | nil=>intro m _ h;simpa only[vO]using h
 | cons x l ih=>
  intro m hn h;simp only[List.flatMap_cons,List.append_eq_nil_iff]at hn;simp only[vO]at h ⊢;split at h
  case h_2=>simp at h
  rename_i y k hy hk;rw[H_ hn.1 hy,ih hn.2 hk];exact h
theorem WW{x:X}{o:Nat}(h:o∈p_ x):o∈lK x:=by cases x<;>simp[p_]at h<;>simp[lK,h]
theorem WX{l:List X}{o:Nat}(h:o∈l.flatMap p_):o∈BA l:=by
 induction l with
 | nil=>simp at h
 | cons x l ih=>
  simp only[List.flatMap_cons,List.mem_append]at h;simp only[BA,List.mem_append];exact h.imp WW ih
theorem WU{l:List X}{o:Nat}(h:o∈l.flatMap S9):o∈BA l:=by
 induction l with
 | nil=>simp at h
 | cons x l ih=>
  simp only[List.flatMap_cons,List.mem_append]at h;simp only[BA,List.mem_append];refine h.imp (fun h=>?_) ih;cases x<;>simp[S9,p_]at h<;>simp[lK,h]
theorem WT{x:X}{o:Nat}(h:o∈nJ x):o∈lK x:=by
 cases x
 case fn f cs=>simp only[nJ]at h;simp only[lK];exact WU h
 case agg cs=>simp only[nJ,nX]at h;simp only[lK];exact WX h
 all_goals simp[nJ,nX,p_]at h
 all_goals simp[lK,h]
theorem yj{r:List It->Env->ax->Option (Env×ax)}{T:Nat->Option Fe}{f:Nat}{l:List X}{s s' s2:ax}{x:X}(hl:∀x∈l,∀o∈lK x,s2 o=s o)(h:iM r T true f l s=some (x,s')):iM r T true f l s2=some (x,s2):=by
 unfold iM at h ⊢;rw[Pt hl];split at h
 ·simp at h
 rename_i hd
 try simp only[hd]
 split at h
 ·simp at h
 rename_i hc
 try simp only[hc]
 split at h
 ·rename_i hs;simp only[aW,bK]at h;obtain⟨rfl,rfl⟩:=h;rw[if_pos hs]
 rename_i hs;rw[if_neg hs,if_pos (by trivial)];rw[if_pos rfl]at h
 split at h
 case isFalse=>simp at h
 rename_i hn;simp only[aW,bK]at h;obtain⟨rfl,_⟩:=h;have hn':qt s2 (l.flatMap nJ)=true:=by refine List.all_eq_true.2 fun o ho=>?_;obtain⟨x,hx,ho'⟩:=List.mem_flatMap.1 ho;rw[hl x hx o (WT ho')];exact List.all_eq_true.1 hn o ho
 rw[if_pos hn']
theorem WV{l:List X}{o:Nat}:o∈BA l↔∃x∈l,o∈lK x:=by
 induction l with
 | nil=>simp[BA]
 | cons x l ih=>simp[BA,ih]
theorem Qm{r:List It->Env->ax->Option (Env×ax)}{T:Nat->Option Fe}{io:iw}{e:Env}{s s' s2:ax}{x:X}(hst:dF io=true)(hl:∀a∈io.p8,∀o∈lK (a.ev e),s2 o=s o)(h:dB r T io e s=some (x,s')):dB r T io e s2=some (x,s2):=by
 cases io
 case call st f l=>
  simp only[dF]at hst;subst hst;exact yj (fun x hx=>by obtain⟨a,ha,rfl⟩:=List.mem_map.1 hx;exact hl a ha) h
 case gN st f l=>
  simp only[dF]at hst;subst hst;simp only[dB]at h ⊢;split at h
  ·rename_i g cs hf
   try simp only[hf]
   refine yj (fun x hx=>?_) h;rcases List.mem_append.1 hx with hx|hx
   ·obtain⟨a,ha,rfl⟩:=List.mem_map.1 hx;exact hl a (by simp[iw.p8,ha])
   ·have:=hl f (by simp[iw.p8]);rw[hf]at this
    exact fun o ho=>this o (by simp only[lK];exact WV.2 ⟨x,hx,ho⟩)
  ·simp at h
 case bO=>simp[dF,dM]at hst
 case lu=>simp[dF,dM]at hst
 case bU=>simp[dF,dM]at hst
 case gW=>simp[dF,dM]at hst
 all_goals
  simp only[dB]at h ⊢;exact JO (by simpa only[dF]using hst) hl h
def iC(s s':ax):Prop:=∀o,s' o=s o\/(s o).n<(s' o).n
theorem iC.refl(s:ax):iC s s:=fun _=>.inl rfl
theorem iC.trans{a b c:ax}(h:iC a b)(k:iC b c):iC a c:=fun o=>by
 rcases h o with h|h<;>rcases k o with k|k
 ·exact .inl (k.trans h)
 ·right;rw[h]at k;exact k
 ·right;rw[k];exact h
 ·right;omega
theorem iC.aN(s:ax)(o:Nat)(b:Ob):iC s (Go.Proofs.YtbmkfjmlepjpfaaGreatDoor.aN s o b):=fun q=>by
 unfold Go.Proofs.YtbmkfjmlepjpfaaGreatDoor.aN upd;split
 ·rename_i h;subst h;right;simp
 ·exact .inl rfl
theorem iC.bF(s:ax)(o:Nat)(b:Ob):iC s (Go.Proofs.YtbmkfjmlepjpfaaGreatDoor.bF s o b):=fun q=>by
 unfold Go.Proofs.YtbmkfjmlepjpfaaGreatDoor.bF upd;split
 ·rename_i h;subst h;right;simp
 ·exact .inl rfl
theorem iC.gX(s:ax)(l:List Nat):iC s (Go.Proofs.YtbmkfjmlepjpfaaGreatDoor.gX s l):=fun q=>by
 unfold Go.Proofs.YtbmkfjmlepjpfaaGreatDoor.gX;split
 ·right;simp
 ·exact .inl rfl
theorem iC.Dh(s:ax)(o d:Nat)(b:Ob):iC s (Go.Proofs.YtbmkfjmlepjpfaaGreatDoor.Dh s o d b):=fun q=>by
 by_cases h1:q=o
 ·subst h1;right;unfold Go.Proofs.YtbmkfjmlepjpfaaGreatDoor.Dh;rw[upd_same];simp
 ·by_cases h2:q=d
  ·subst h2;right;unfold Go.Proofs.YtbmkfjmlepjpfaaGreatDoor.Dh;rw[upd_ne _ _ h1,upd_same];simp
  ·left;unfold Go.Proofs.YtbmkfjmlepjpfaaGreatDoor.Dh;rw[upd_ne _ _ h1,upd_ne _ _ h2]
theorem iC.lQ{s:ax}{d:Nat}:∀ {cs cs':List X} {s':ax},Go.Proofs.YtbmkfjmlepjpfaaGreatDoor.lQ s d cs=some (cs',s')->iC s s':=by
 intro cs;induction cs with
 | nil=>intro cs' s' h;simp only[Go.Proofs.YtbmkfjmlepjpfaaGreatDoor.lQ,aW,bK]at h;obtain⟨_,rfl⟩:=h;exact iC.refl _
 | cons c cs ih=>
  intro cs' s' h;cases c<;>simp only[Go.Proofs.YtbmkfjmlepjpfaaGreatDoor.lQ]at h<;>repeat' split at h
  all_goals first
   | (simp at h;done)
   | (simp only[aW,bK]at h;obtain⟨_,rfl⟩:=h;first|exact iC.refl _|exact iC.Dh _ _ _ _|exact ih (by assumption))
theorem Zb{s s':ax}{x y:X}{w:Nat}(h:stX s x y w=some s'):iC s s':=by
 unfold stX at h
 repeat' split at h
 all_goals first
  | (simp at h;done)
  | (simp only[aW]at h;subst h;first|exact iC.bF _ _ _|exact(iC.bF _ _ _).trans (iC.gX _ _))
theorem QX{io:iw}{e:Env}{s s':ax}{x:X}(h:aB io e s=some (x,s')):iC s s':=by
 by_cases hst:dM io=true
 ·rw[pY hst h];exact iC.refl _
 cases io<;>simp only[dM,not_true_eq_false]at hst<;>simp only[aB,CQ,y9]at h
 case st=>
  split at h
  ·rename_i hs;simp only[aW,bK]at h;obtain⟨_,rfl⟩:=h;exact Zb hs
  ·simp at h
 all_goals
  repeat' split at h
  all_goals first
   | (simp at h;done)
   | (simp only[aW,bK]at h;obtain⟨_,rfl⟩:=h;first|exact iC.refl _|exact iC.aN _ _ _|exact iC.bF _ _ _|exact(iC.lQ (by assumption)).trans (iC.aN _ _ _)|exact(iC.aN _ _ _).trans (iC.gX _ _))
theorem xD{r:List It->Env->ax->Option (Env×ax)}{T:Nat->Option Fe}{st:Bool}{f:Nat}{l:List X}{s s':ax}{x:X}(h:iM r T st f l s=some (x,s')):iC s s':=by
 unfold iM at h
 repeat' split at h
 all_goals first
  | (simp at h;done)
  | (simp only[aW,bK]at h;obtain⟨_,rfl⟩:=h;first|exact iC.refl _|exact iC.gX _ _)
def TC(T:Nat->Option Fe):Prop:=∀f F,T f=some (.uK F)->∀xs s r s',F xs s=some (r,s')->iC s s'
theorem Vk{s s':ax}{x y:X}(h:JK s x=some (y,s')):iC s s':=by
 unfold JK at h
 repeat' split at h
 all_goals first
  | (simp at h;done)
  | (simp only[aW,bK]at h;obtain⟨_,rfl⟩:=h;exact(iC.gX _ _).trans (iC.bF _ _ _))
theorem rU{r:List It->Env->ax->Option (Env×ax)}(hr:∀its e s x,r its e s=some x->iC s x.2){T:Nat->Option Fe}(hC:TC T){f:Nat}{l:List X}{s s':ax}{x:X}(h:bZ r T f l s=some (x,s')):iC s s':=by
 unfold bZ at h;split at h
 ·split at h
  case isFalse=>simp at h
  split at h
  case h_2=>simp at h
  rename_i hq;split at h
  case h_2=>simp at h
  simp only[aW,bK]at h;obtain⟨_,rfl⟩:=h;exact hr _ _ _ _ hq
 ·split at h
  case isFalse=>simp at h
  split at h
  case h_2=>simp at h
  rename_i hq;split at h
  ·simp only[aW,bK]at h;obtain⟨_,rfl⟩:=h;exact iC.trans (hr _ _ _ _ hq) (iC.gX _ _)
  ·split at h
   case h_2=>simp at h
   exact iC.trans (hr _ _ _ _ hq) (Vk h)
 ·rename_i hF;exact hC _ _ hF _ _ _ _ h
 ·simp at h
theorem Rw{s s':ax}{q g:Nat}(h:J6 s q g=some s'):iC s s':=by
 unfold J6 at h
 repeat' split at h
 all_goals first
  | (simp at h;done)
  | (simp only[aW]at h;subst h;exact iC.bF _ _ _)
theorem R4{s s':ax}{q g:Nat}(h:Kz s q g=some s'):iC s s':=by
 unfold Kz at h
 repeat' split at h
 all_goals first
  | (simp at h;done)
  | (simp only[aW]at h;subst h;exact iC.bF _ _ _)
theorem Il{s s':ax}{q:Nat}{j:Option Nat}(h:zq s q j=some s'):iC s s':=by
 unfold zq at h
 repeat' split at h
 all_goals first
  | (simp at h;done)
  | (simp only[aW]at h;subst h;exact iC.bF _ _ _)
theorem iC.nD(s:ax)(q:Nat):iC s (Go.Proofs.YtbmkfjmlepjpfaaGreatDoor.nD s q):=fun o=>by
 unfold Go.Proofs.YtbmkfjmlepjpfaaGreatDoor.nD;by_cases h:o=q
 ·subst h;right;rw[upd_same];simp
 ·left;rw[upd_ne _ _ h]
theorem MB{r:List It->Env->ax->Option (Env×ax)}(hr:∀its e s x,r its e s=some x->iC s x.2){q g:Nat}{l:List X}{s s':ax}{x:X}(h:gZ r q g l s=some (x,s')):iC s s':=by
 unfold gZ at h;split at h
 case h_2=>simp at h
 split at h
 case isFalse=>simp at h
 rename_i e ps a b _ _;cases hq:r [.code a,.Ri q g,.code b,.Rj q g] (puts e ps l) s with
 | none=>rw[hq]at h;simp[Dm]at h
 | some z=>
  obtain⟨e1,s1⟩:=z;rw[hq]at h
  have:=hr _ _ _ _ hq;unfold Dm at h;simp only at h
  repeat' split at h
  all_goals first
   | (simp at h;done)
   | (simp only[aW,bK]at h;obtain⟨_,rfl⟩:=h;exact this)
theorem Va{r:List It->Env->ax->Option (Env×ax)}(hr:∀its e s x,r its e s=some x->iC s x.2){T:Nat->Option Fe}(hC:TC T){q:Nat}{x:X}{ps:List Nat}{a b:IC}{e:Env}{s s':ax}{j:Option (Option Nat)}(h:n_ r T q x ps a b e s=some (j,s')):iC s s':=by
 unfold n_ at h;split at h
 case h_2=>simp at h
 rename_i f cs;cases hq:bZ r T f (.Dq q ((s q).g+1)::cs) (aN s q (.lp e ps a b .ready))with
 | none=>rw[hq]at h;simp[ZM]at h
 | some z=>
  obtain⟨e1,s1⟩:=z;rw[hq]at h
  have:=(iC.aN s q (.lp e ps a b .ready)).trans (rU hr hC hq);unfold ZM at h;simp only at h
  repeat' split at h
  all_goals first
   | (simp at h;done)
   | (simp only[aW,bK]at h;obtain⟨_,rfl⟩:=h;exact this.trans (iC.nD _ _))
theorem Nq{r:List It->Env->ax->Option (Env×ax)}(hr:∀its e s x,r its e s=some x->iC s x.2){T:Nat->Option Fe}(hC:TC T){io:iw}{e:Env}{s s':ax}{x:X}(h:dB r T io e s=some (x,s')):iC s s':=by
 unfold dB at h;split at h
 ·exact xD h
 ·split at h
  ·exact xD h
  ·simp at h
 ·exact rU hr hC h
 ·unfold tO at h
  repeat' split at h
  all_goals first
   | (simp at h;done)
   | (simp only[aW,bK]at h;obtain⟨_,rfl⟩:=h;exact iC.refl _)
 ·unfold qH at h;split at h
  ·simp at h
  unfold jy at h;split at h
  ·split at h
   ·simp at h
   ·simp only[aW,bK]at h;obtain⟨_,rfl⟩:=h;exact iC.gX _ _
  ·split at h
   ·simp at h
   ·simp only[aW,bK]at h;obtain⟨_,rfl⟩:=h;exact(iC.gX _ _).trans (iC.aN _ _ _)
  ·simp at h
 ·split at h
  ·split at h
   ·exact xD h
   ·exact rU hr hC h
  ·exact rU hr hC h
  ·exact MB hr h
  ·simp at h
 ·exact QX h
theorem Vd(T:Nat->Option Fe)(hC:TC T):∀(n:Nat) its e s x,runN T n its e s=some x->iC s x.2:=by
 intro n;induction n with
 | zero=>intro its e s x h;simp[runN]at h
 | succ n ih=>
  intro its e s x h;rcases its with _|⟨it,k⟩
  ·simp only[runN,aW]at h;subst h;exact iC.refl _
  cases it with
  | code c=>
   cases c with
   | cond c a b=>
    simp only[runN]at h;split at h
    ·rename_i t hc;cases t
     ·exact ih _ _ _ _ h
     ·exact ih _ _ _ _ h
    ·simp at h
   | exit id=>
    simp only[runN]at h;split at h
    ·exact ih _ _ _ _ h
    ·simp at h
   | ret=>simp only[runN,aW]at h;subst h;exact iC.refl _
   | Vb q=>
    simp only[runN]at h;split at h
    case h_2=>simp at h
    rename_i s' hb;simp only[aW]at h;subst h;exact Il hb
   | JF q id=>
    simp only[runN]at h;split at h
    case h_2=>simp at h
    rename_i s' _ hb;simp only[aW]at h;subst h;exact Il hb
   | U_ q g ps a b=>
    simp only[runN]at h;cases hr:n_ (runN T n) T q (g.ev e) ps a b e s with
    | none=>rw[hr]at h;simp at h
    | some y=>
     obtain⟨j,s'⟩:=y;rw[hr]at h
     have hc:=Va (fun its e s x hx=>ih its e s x hx) hC hr;rcases j with _|_|id
     ·exact hc.trans (ih _ _ _ _ h)
     ·simp only[aW]at h;subst h;exact hc
     ·simp only at h;split at h
      ·exact hc.trans (ih _ _ _ _ h)
      ·simp at h
   | _=>simp only[runN]at h;exact ih _ _ _ _ h
  | ops l=>
   rcases l with _|⟨o,l⟩
   ·simp only[runN]at h;exact ih _ _ _ _ h
   ·simp only[runN]at h;split at h
    ·split at h
     ·rename_i y s' hr;exact(Nq (fun its e s x hx=>ih its e s x hx) hC hr).trans (ih _ _ _ _ h)
     ·simp at h
    ·exact ih _ _ _ _ h
    ·simp at h
  | lp c=>simp only[runN]at h;exact ih _ _ _ _ h
  | bl id=>simp only[runN]at h;exact ih _ _ _ _ h
  | Wd ch js s0=>
   simp only[runN]at h;split at h
   ·exact ih _ _ _ _ h
   ·simp at h
  | Ri q g=>
   simp only[runN]at h;split at h
   case h_2=>simp at h
   rename_i s' hb;exact(Rw hb).trans (ih _ _ _ _ h)
  | Rj q g=>
   simp only[runN]at h;split at h
   case h_2=>simp at h
   rename_i s' hb;simp only[aW]at h;subst h;exact R4 hb
variable {P:Program}
structure u_ (ops:Array Oper) (gl:List fE) (p:Nat) (ch js:List Nat):Prop where
 size:ops.size=gl.length
 le:p<=gl.length
 edge:∀i o,ops[i]?=some o->∀e∈o.after,Region.binds .any e=true->e.on<i
 dist:∀i j t,i<gl.length->j<gl.length->mD gl i=some t->mD gl j=some t->i=j
 kst:∀i g,i<p->gl[i]?=some g->∀a∈g.op.p8,arK a=true
 reads:∀i g t j,i<p->gl[i]?=some g->t∈g.rd->j<p->j≠i->mD gl j=some t->(j<i/\d2 ops i j=true)\/(i<j/\d2 ops j i=true)
 tail:∀i j,p<=i->i<gl.length->j<i->d2 ops i j=true
 sep:∀i j gi gj,i<p->j<p->j≠i->gl[i]?=some gi->gl[j]?=some gj->zC gi.op≠0->((j<i/\d2 ops i j=true)\/(i<j/\d2 ops j i=true))\/
  (zC gj.op=1/\zC gi.op=1/\J8 gi.op≠J8 gj.op)\/
  (zC gj.op=0/\(Bb gj.op=true\/(∀t∈gj.rd,∀q,q<p->mD gl q=some t->q<j)/\((∀t∈gj.op.rd,t∈ch)\/j∈js/\gj.g=none/\(∃d,gj.d=some d)/\uM gj.op=true/\∀k gk,k<p->gl[k]?=some gk->k≠i->zC gk.op=0)))
theorem Ij{ops:Array Oper}{gl:List fE}{p:Nat}{ch js:List Nat}(h:Kw ops gl p ch js=true):u_ ops gl p ch js:=by
 simp only[Kw,bN,decide_eq_true_eq,oH,List.mem_range]at h;obtain⟨⟨⟨⟨⟨⟨h1,h2⟩,h3⟩,h4⟩,h5⟩,h6⟩,h7⟩:=h;have dist':∀i j t,i<gl.length->j<i->mD gl i=some t->mD gl j=some t->False:=by intro i j t hi hj h7 h8;have:=h4 i hi j hj;simp[h7,h8]at this
 refine⟨h1,h2,?_,?_,?_,?_,?_,?_⟩
 ·intro i o ho e he hb;have hi:i<gl.length:=by have:=(Array.getElem?_eq_some_iff.1 ho).1;omega
  have:=h3 i hi;rw[ho]at this
  have:=(List.all_eq_true.1 this) e (by simpa using he);simpa[hb]using this
 ·intro i j t hi hj h7 h8;rcases Nat.lt_trichotomy i j with hlt|heq|hgt
  ·exact(dist' j i t hj hlt h8 h7).elim
  ·exact heq
  ·exact(dist' i j t hi hgt h7 h8).elim
 ·intro i g hi hg;have:=h5 i hi;rw[hg]at this
  simp only[bN,oH]at this;exact this.1
 ·intro i g t j hi hg ht hj hne hd;have:=h5 i hi;rw[hg]at this
  simp only[bN,oH,List.mem_range]at this;have:=this.2 t ht j hj;simp[hne,hd,Xc]at this
  exact this
 ·intro i j hp hi hj;have:=h6 i hi;simp only[Bool.or_eq_true,decide_eq_true_eq,oH,List.mem_range]at this;exact(this.resolve_left (by omega)) j hj
 ·intro i j gi gj hi hj hne hgi hgj hc;have:=h7 i hi;rw[hgi]at this
  simp only[Bool.or_eq_true,beq_iff_eq,oH,List.mem_range]at this;have:=(this.resolve_left hc) j hj;rw[hgj]at this
  simp only[Xc,Bool.or_eq_true,bN,beq_iff_eq,decide_eq_true_eq,bne_iff_ne,ne_eq,oH,List.mem_range,List.contains_eq_mem,Option.isNone_iff_eq_none]at this;rcases this with((h|h)|h)|h
  ·exact absurd h hne
  ·exact .inl h
  ·exact .inr (.inl ⟨h.1.1,h.1.2,h.2⟩)
  ·refine .inr (.inr ⟨h.1,?_⟩);have late:SF gl p j gj=true->∀t∈gj.rd,∀q,q<p->mD gl q=some t->q<j:=by intro hl t ht q hq hd;simp only[SF,oH,List.mem_range]at hl;have:=hl t ht q hq;simpa[hd]using this
   rcases h.2 with h|⟨hl,h|h⟩
   ·exact .inl h
   ·exact .inr ⟨late hl,.inl h⟩
   ·refine .inr ⟨late hl,.inr ⟨h.1.1.1.1,h.1.1.1.2,Option.isSome_iff_exists.1 h.1.1.2,h.1.2,?_⟩⟩;intro k gk hk hgk hki;have:=h.2 k hk;rw[hgk]at this
    simp only[Bool.or_eq_true,beq_iff_eq]at this;exact this.resolve_left hki
open Classical in
noncomputable def iA(e:Env)(gl:List fE)(xs:Nat->X)(L:Nat->Prop):Env:=fun n=>
 if h:∃j,L j/\j<gl.length/\mD gl j=some n then xs h.choose else e n
section
variable {ops:Array Oper} {gl:List fE} {p:Nat} {e:Env} {xs:Nat->X} {L L':Nat->Prop} {ch js:List Nat}
theorem rV(hD:u_ ops gl p ch js){j n:Nat}(hL:L j)(hj:j<gl.length)(hd:mD gl j=some n):iA e gl xs L n=xs j:=by
 unfold iA;have h:∃j,L j/\j<gl.length/\mD gl j=some n:=⟨j,hL,hj,hd⟩
 rw[dif_pos h];obtain⟨h1,h2,h3⟩:=h.choose_spec;rw[hD.dist _ _ n h2 hj h3 hd]
theorem qK{n:Nat}(h:∀j,L j->j<gl.length->mD gl j≠some n):iA e gl xs L n=e n:=by unfold iA;rw[dif_neg];rintro⟨j,h1,h2,h3⟩;exact h j h1 h2 h3
theorem DU(h:∀j,¬L j):iA e gl xs L=e:=by funext n;exact qK fun j hj=>absurd hj (h j)
theorem mX{n:Nat}(h:∀j,j<gl.length->mD gl j=some n->(L j↔L' j))(hD:u_ ops gl p ch js):iA e gl xs L n=iA e gl xs L' n:=by
 by_cases hx:∃j,L j/\j<gl.length/\mD gl j=some n
 ·obtain⟨j,h1,h2,h3⟩:=hx;rw[rV hD h1 h2 h3,rV hD ((h j h2 h3).1 h1) h2 h3]
 ·rw[qK (fun j h1 h2 h3=>hx ⟨j,h1,h2,h3⟩),qK (fun j h1 h2 h3=>hx ⟨j,(h j h2 h3).2 h1,h2,h3⟩)]
theorem qJ(h:∀j,j<gl.length->(L j↔L' j))(hD:u_ ops gl p ch js):iA e gl xs L=iA e gl xs L':=by funext n;exact mX (fun j hj _=>h j hj) hD
theorem Im(hD:u_ ops gl p ch js){i:Nat}(hi:i<gl.length)(hL:¬L i):put (iA e gl xs L) (mD gl i) (xs i)=iA e gl xs (fun j=>L j\/j=i):=by
 funext n;cases hd:mD gl i with
 | none=>
  simp only[put];refine mX (fun j hj hjn=>⟨fun h=>.inl h,fun h=>h.elim id fun he=>?_⟩) hD;rw[he,hd]at hjn;simp at hjn
 | some d=>
  simp only[put];by_cases hn:n=d
  ·subst hn;rw[upd_same];exact(rV hD (L:=fun j=>L j\/j=i) (.inr rfl) hi hd).symm
  ·rw[upd_ne _ _ hn];refine mX (fun j hj hjn=>⟨fun h=>.inl h,fun h=>h.elim id fun he=>?_⟩) hD;rw[he,hd]at hjn
   injection hjn with hjn;exact absurd hjn.symm hn
end
theorem Bc{gl:List fE}{i:Nat}{g:fE}(h:gl[i]?=some g):mD gl i=g.d:=by simp[mD,h]
def J2(T:Nat->Option Fe)(N:Nat)(g:fE)(e:Env)(s:ax)(y:X)(s':ax):Prop:=
 (gd g e=some false/\y=.cZ []/\s'=s)\/(gd g e=some true/\∃m,m<N/\dB (runN T m) T g.op e s=some (y,s'))
theorem Mq{T:Nat->Option Fe}{k:List It}{x:Env×ax}{s:ax}{e:Env}{l m:List fE}{ops:Array Oper}{n N:Nat}{ch js:List Nat}(hD:u_ ops (l++m) l.length ch js)(hn:n<=N)(hr:runN T n (.ops l::k) e s=some x) :
 ∀q,q<=l.length->∃(xs:Nat->X) (ss:Nat->ax),ss 0=s/\(∀i g,i<q->(l++m)[i]?=some g->J2 T N g (iA e (l++m) xs (·<i)) (ss i) (xs i) (ss (i+1)))/\
  ∃c,c<=n/\runN T c (.ops (l.drop q)::k) (iA e (l++m) xs (·<q)) (ss q)=some x:=by
 intro q;induction q with
 | zero=>
  intro _;exact⟨fun _=>.junk,fun _=>s,rfl,fun i g hi=>absurd hi (Nat.not_lt_zero i),n,Nat.le_refl _,by rw[DU (fun j hj=>absurd hj (Nat.not_lt_zero j))];simpa using hr⟩
 | succ q ih=>
  intro hq;obtain⟨xs,ss,h0,h1,c,hc,h2⟩:=ih (by omega);have hlt:q<l.length:=by omega
  have hltg:q<(l++m).length:=by simp;omega
  rw[List.drop_eq_getElem_cons hlt]at h2
  cases c with
  | zero=>simp[runN]at h2
  | succ c=>
   simp only[runN]at h2;have hg:(l++m)[q]?=some l[q]:=by rw[List.getElem?_append_left hlt];exact List.getElem?_eq_getElem hlt
   have fin:∀y s',runN T c (.ops (l.drop (q+1))::k) (put (iA e (l++m) xs (·<q)) l[q].d y) s'=some x->J2 T N l[q] (iA e (l++m) xs (·<q)) (ss q) y s'->
    ∃(xs:Nat->X) (ss:Nat->ax),ss 0=s/\(∀i g,i<q+1->(l++m)[i]?=some g->J2 T N g (iA e (l++m) xs (·<i)) (ss i) (xs i) (ss (i+1)))/\
    ∃c',c'<=n/\runN T c' (.ops (l.drop (q+1))::k) (iA e (l++m) xs (·<q+1)) (ss (q+1))=some x:=by
    intro y s' hy hd;have k3:∀i,i<=q->iA e (l++m) (fun i=>if i=q then y else xs i) (·<i)=iA e (l++m) xs (·<i):=by
     intro i hi;funext n;by_cases hx:∃j,j<i/\j<(l++m).length/\mD (l++m) j=some n
     ·obtain⟨j,a1,a2,a3⟩:=hx;rw[rV (L:=(·<i)) hD a1 a2 a3,rV (L:=(·<i)) hD a1 a2 a3];simp[show j≠q by omega]
     ·rw[qK (L:=(·<i)) (fun j a1 a2 a3=>hx ⟨j,a1,a2,a3⟩),qK (L:=(·<i)) (fun j a1 a2 a3=>hx ⟨j,a1,a2,a3⟩)]
    refine⟨fun i=>if i=q then y else xs i,fun i=>if i=q+1 then s' else ss i,by simp[h0],?_,c,by omega,?_⟩
    ·intro i g hi hgi;rw[k3 i (by omega)];by_cases hiq:i=q
     ·subst hiq;rw[hg]at hgi
      injection hgi with hgi;subst hgi;simpa using hd
     ·have:=h1 i g (by omega) hgi;simpa[hiq,show i≠q+1 by omega]using this
    ·have:=Im (e:=e) (xs:=fun i=>if i=q then y else xs i) (L:=(·<q)) hD hltg (Nat.lt_irrefl q);rw[k3 q (Nat.le_refl _),Bc hg]at this
     simp only[if_true]at this;rw[this]at hy
     rw[qJ (L':=fun j=>j<q\/j=q) (fun j _=>by omega) hD];simpa using hy
   split at h2
   ·rename_i hgd;split at h2
    case h_2=>simp at h2
    rename_i y s' hy;exact fin y s' h2 (.inr ⟨hgd,c,by omega,hy⟩)
   ·rename_i hgd;exact fin (.cZ []) (ss q) h2 (.inl ⟨hgd,rfl,rfl⟩)
   ·simp at h2
variable {P:Program}
theorem I_{nt:Nat}{ops:Array Oper}:∀ {l:List Oper} {gl:List fE},wH P nt ops l gl=true->∀(i:Nat) (o:Oper),l[i]?=some o->∃g,gl[i]?=some g/\W_ P nt ops o g=true:=by
 intro l;induction l with
 | nil=>intro gl _ i o h;simp at h
 | cons o l ih=>
  intro gl hok i o' h;cases gl with
  | nil=>simp[wH]at hok
  | cons g gl=>
   simp only[wH,bN]at hok;cases i with
   | zero=>simp at h;subst h;exact⟨g,rfl,hok.1⟩
   | succ i=>simpa using ih hok.2 i o' (by simpa using h)
section
variable {T:Nat->Option Fe} {w0:Bs} {sh:Nat->Prop} {nt:Nat} {k:List It} {x:Env×ax} {ops:Array Oper} {gl:List fE} {p N:Nat} {ch js:List Nat}
theorem KW(hLP:w0.Bt=uN P){r:Option Nat}(hF:∀f,(T f).isSome=true->lM P f=true){μ:Nat->Nat}{fr:Nat->Prop}{e:Env}{s:ax}{a:Act}{w:World}{i:Nat}{o:Oper}{g:fE}(ho:ops[i]?=some o)(hok:W_ P nt ops o g=true)
 (h:Inv w0 sh nt μ fr e s a w) {y:X} {s':ax} (hT:∀m,m<N->lV P T m/\om P T m)
 (hs:J2 T N g e s y s')
 {K:Act->World->Prop} {Q:Exit->Act->World->Prop} (hK:∀a' w' μ' fr',Inv w0 sh nt μ' fr' (put e g.d y) s' a' w'->K a' w'):wpOpIn (rF r) 0 P ops Q i K a w:=by
 obtain⟨hd,hdn⟩:=Nk hok;have hop:(iJ P o.op g.op||gL P o.op g.op)=true:=by have:=hok;simp only[W_,bN]at this;exact this.2
 unfold wpOpIn;simp only[ho];rcases hs with⟨hg,rfl,rfl⟩|⟨hg,m,hm,hr⟩
 ·rw[if_neg (by rw[sj h hok hg];simp),hd];exact⟨fun f _=>OI r f,hK _ _ _ _ (h.put hdn (.cZ rfl (by simp)))⟩
 ·rw[if_pos (sj h hok hg)];refine opW h hLP (hT m hm).1 (hT m hm).2 hF hop hr ?_;intro v w' μ' fr' hI hrep _;rw[hd];exact hK _ _ _ _ (hI.put hdn hrep)
theorem MS{i j:Nat}{l:Array Bool}(hi:i∈Region.ready .any ops l)(h:d1 ops i j=true):l.getD j false=true:=by obtain⟨_,o,ho,he⟩:=mem_ready.1 hi;simp only[d1,ho,List.any_eq_true,bN,beq_iff_eq]at h;obtain⟨e,h1,h2,rfl⟩:=h;exact he e (by simpa using h1) h2
theorem MV{l:Array Bool}(hdn:∀i j,l.getD i false=true->d1 ops i j=true->l.getD j false=true):∀ {n i j:Nat},(∀j,d1 ops i j=true->l.getD j false=true)->dd ops n i j=true->l.getD j false=true:=by
 intro n;induction n with
 | zero=>intro i j hi h;exact hi j h
 | succ n ih=>
  intro i j hi h;simp only[dd,Bool.or_eq_true]at h;rcases h with h|h
  ·exact hi j h
  ·split at h
   case h_2=>simp at h
   rename_i o ho;simp only[List.any_eq_true,bN]at h;obtain⟨e,h1,h2,h3⟩:=h;have hle:l.getD e.on false=true:=hi e.on (by simp only[d1,ho,List.any_eq_true,bN,beq_iff_eq];exact⟨e,h1,h2,rfl⟩)
   exact ih (fun j hj=>hdn _ j hle hj) h3
theorem MU{i j:Nat}{l:Array Bool}(hdn:∀i j,l.getD i false=true->d1 ops i j=true->l.getD j false=true)(hi:i∈Region.ready .any ops l)(h:d2 ops i j=true):l.getD j false=true:=
 MV hdn (fun j hj=>MS hi hj) h
theorem ZC(hD:u_ ops gl p ch js){i j:Nat}(h:d1 ops i j=true):j<i:=by
 unfold d1 at h;split at h
 case h_2=>simp at h
 rename_i o ho;simp only[List.any_eq_true,bN,beq_iff_eq]at h;obtain⟨e,h1,h2,rfl⟩:=h;exact hD.edge i o ho e (by simpa using h1) h2
theorem vN{l:Array Bool}{i F:Nat}(hi:l.getD i true=false)(h:l.count false<=F+1):(l.setIfInBounds i true).count false<=F:=by
 have hlt:i<l.size:=by
  by_cases hlt:i<l.size
  ·exact hlt
  ·simp[mq,Array.getElem?_eq_none (Nat.le_of_not_lt hlt)]at hi
 have hv:l[i]=false:=by simpa[mq,kF hlt]using hi
 simp only[Array.setIfInBounds,hlt,dif_pos];rw[Array.count_set];simp[hv];omega
theorem xG{l:Array Bool}{i:Nat}(hi:l.getD i true=false):0<l.count false:=by
 have hlt:i<l.size:=by
  by_cases hlt:i<l.size
  ·exact hlt
  ·simp[mq,Array.getElem?_eq_none (Nat.le_of_not_lt hlt)]at hi
 have hv:l[i]=false:=by simpa[mq,kF hlt]using hi
 exact Array.count_pos_iff.2 (hv▸Array.getElem_mem hlt)
theorem iO{l:Array Bool}{j:Nat}(h:j<l.size):l.getD j true=l.getD j false:=by simp[mq,kF h]
theorem vX{l:Array Bool}{i j:Nat}(hj:j<l.size):(l.setIfInBounds i true).getD j true=(l.getD j true||decide (i=j)):=by
 by_cases h:i=j
 ·subst h;simp[mq,hj]
 ·simp[mq,Array.getElem?_setIfInBounds_ne h,h]
theorem JR(hLP:w0.Bt=uN P){rq r:Option Nat}(hF:∀f,(T f).isSome=true->lM P f=true)(hT:∀m,m<N->lV P T m/\om P T m)(hD:u_ ops gl p ch js)(hok:wH P nt ops ops.toList gl=true):∀ {F q n:Nat} {l:Array Bool} {μ:Nat->Nat} {fr:Nat->Prop} {e:Env} {s:ax} {a:Act} {w:World},
 p<=q->q<=gl.length->l.size=ops.size->l.count false<=F->(∀j,j<gl.length->l.getD j true=decide (j<q))->n<=N->Inv w0 sh nt μ fr e s a w->runN T n (.ops (gl.drop q)::k) e s=some x->
 wpAnyIn (rF r) 0 P .any ops (Qk T w0 sh nt N k rq x) F l a w:=by
 intro F;induction F with
 | zero=>
  intro q n l μ fr e s a w hp hq hl hc hL hn h hr;have hqe:q=gl.length:=by
   by_cases hlt:q<gl.length
   ·have:=xG (l:=l) (i:=q) (by rw[hL q hlt];simp);omega
   ·omega
  subst hqe;refine⟨?_,?_⟩
  ·cases hrd:Region.ready .any ops l with
   | nil=>rfl
   | cons i r=>
    have hi:i∈Region.ready .any ops l:=by rw[hrd];exact List.mem_cons_self
    have:=xG (mem_ready.1 hi).1;omega
  ·rw[List.drop_length]at hr
   cases n with
   | zero=>simp[runN]at hr
   | succ n=>exact⟨n,by omega,μ,fr,e,s,h,by simpa only[runN]using hr⟩
 | succ F ih=>
  intro q n l μ fr e s a w hp hq hl hc hL hn h hr;by_cases hlt:q<gl.length
  ·have hone:∀i∈Region.ready .any ops l,i=q:=by
    intro i hi;obtain⟨h0,o,ho,he⟩:=mem_ready.1 hi;have hil:i<gl.length:=by have:=(Array.getElem?_eq_some_iff.1 ho).1;have:=hD.size;omega
    have hge:q<=i:=by
     have:=hL i hil;rw[h0]at this
     have:=of_decide_eq_false this.symm;omega
    by_cases heq:i=q
    ·exact heq
    ·exfalso;have hlq:l.getD q false=false:=by rw[<-iO (by have:=hD.size;omega),hL q hlt];simp
     have h1:=MU (fun m j h1 h2=>by
      have hm:=ZC hD h2;by_cases hml:m<gl.length
      ·rw[<-iO (by have:=hD.size;omega),hL m hml]at h1
       have:=of_decide_eq_true h1;rw[<-iO (by have:=hD.size;omega),hL j (by omega)];simp;omega
      ·have:l.size<=m:=by have:=hD.size;omega
       simp[mq,Array.getElem?_eq_none this]at h1) hi (hD.tail i q (by omega) hil (by omega))
     rw[hlq]at h1;simp at h1
   have hqr:q∈Region.ready .any ops l:=by
    have hqs:q<ops.size:=by have:=hD.size;omega
    refine mem_ready.2 ⟨by rw[hL q hlt];simp,ops[q],kF hqs,?_⟩;intro e he hb;have:=hD.edge q _ (kF hqs) e he hb;rw[<-iO (by have:=hD.size;omega),hL e.on (by omega)];simpa using this
   refine⟨fun hnil=>by rw[hnil]at hqr;simp at hqr,?_⟩;intro i hi;obtain rfl:=hone i hi;have hqs:i<ops.size:=by have:=hD.size;omega
   obtain⟨g,hg,hokg⟩:=I_ hok i ops[i] (by simp[hqs]);rw[List.drop_eq_getElem_cons hlt]at hr
   have hge:gl[i]=g:=by simpa[List.getElem?_eq_getElem hlt]using hg
   rw[hge]at hr
   cases n with
   | zero=>simp[runN]at hr
   | succ n=>
    simp only[runN]at hr;have next:∀ {μ' fr' e' s' a' w'},Inv w0 sh nt μ' fr' e' s' a' w'->runN T n (.ops (gl.drop (i+1))::k) e' s'=some x->wpAnyIn (rF r) 0 P .any ops (Qk T w0 sh nt N k rq x) F (l.setIfInBounds i true) a' w':=by intro μ' fr' e' s' a' w' h' hr';refine ih (q:=i+1) (by omega) hlt (by simpa using hl) (vN (by rw[hL i hlt];simp) hc) ?_ (by omega) h' hr';intro j hj;rw[vX (by have:=hD.size;omega),hL j hj];rw[<-Bool.decide_or];exact decide_eq_decide.2 (by omega)
    split at hr
    ·rename_i hgd;split at hr
     case h_2=>simp at hr
     rename_i y s' hy;exact KW hLP hF (kF hqs) hokg h hT (.inr ⟨hgd,n,by omega,hy⟩) (fun a' w' μ' fr' hI=>next hI hr)
    ·rename_i hgd;exact KW hLP hF (kF hqs) hokg h hT (.inl ⟨hgd,rfl,rfl⟩) (fun a' w' μ' fr' hI=>next hI hr)
    ·simp at hr
  ·have hqe:q=gl.length:=by omega
   subst hqe;have hnone:Region.ready .any ops l=[]:=by
    cases hrd:Region.ready .any ops l with
    | nil=>rfl
    | cons i r=>
     exfalso;have hi:i∈Region.ready .any ops l:=by rw[hrd];exact List.mem_cons_self
     obtain⟨h0,o,ho,_⟩:=mem_ready.1 hi;have hil:i<gl.length:=by have:=(Array.getElem?_eq_some_iff.1 ho).1;have:=hD.size;omega
     rw[hL i hil]at h0
     exact(of_decide_eq_false h0) hil
   refine⟨fun _=>?_,fun i hi=>by rw[hnone]at hi;simp at hi⟩;rw[List.drop_length]at hr
   cases n with
   | zero=>simp[runN]at hr
   | succ n=>exact⟨n,by omega,μ,fr,e,s,h,by simpa only[runN]using hr⟩
theorem pG{p:Nat->Prop}:∀ {n:Nat},p n->∃m,m<=n/\p m/\∀j,j<m->¬p j:=by
 intro n;induction n using Nat.strongRecOn with
 | _ n ih=>
  intro h;by_cases hx:∃j,j<n/\p j
  ·obtain⟨j,h1,h2⟩:=hx;obtain⟨m,h3,h4⟩:=ih j h1 h2;exact⟨m,by omega,h4⟩
  ·exact⟨n,Nat.le_refl _,h,fun j hj hp=>hx ⟨j,hj,hp⟩⟩
open Classical in
noncomputable def SL(ss:Nat->ax)(L:Nat->Prop):Nat->ax
 | 0=>ss 0
 | i+1=>fun o=>if L i/\ss (i+1) o≠ss i o then ss (i+1) o else SL ss L i o
theorem ji{ss:Nat->ax}{L:Nat->Prop}{o i:Nat}:∀ {q:Nat},(∀j,j<q->ss (j+1) o≠ss j o->(L j↔j<i))->SL ss L q o=ss (min q i) o:=by
 intro q;induction q with
 | zero=>intro _;simp[SL]
 | succ q ih=>
  intro h;have ih:=ih (fun j hj=>h j (by omega));simp only[SL];by_cases hc:L q/\ss (q+1) o≠ss q o
  ·rw[if_pos hc];have:=(h q (by omega) hc.2).1 hc.1;rw[show min (q+1) i=q+1 by omega]
  ·rw[if_neg hc,ih];by_cases hqi:q<i
   ·rw[show min q i=q by omega,show min (q+1) i=q+1 by omega];by_cases he:ss (q+1) o=ss q o
    ·exact he.symm
    ·exact absurd ⟨(h q (by omega) he).2 hqi,he⟩ hc
   ·rw[show min q i=i by omega,show min (q+1) i=i by omega]
theorem Ev{ss:Nat->ax}{L L':Nat->Prop}{o:Nat}:∀ {q:Nat},(∀j,j<q->ss (j+1) o≠ss j o->(L j↔L' j))->SL ss L q o=SL ss L' q o:=by
 intro q;induction q with
 | zero=>intro _;rfl
 | succ q ih=>
  intro h;have ih:=ih (fun j hj=>h j (by omega));simp only[SL];by_cases he:ss (q+1) o=ss q o
  ·simp[he,ih]
  ·have h1:=h q (by omega) he;by_cases hL:L q
   ·rw[if_pos ⟨hL,he⟩,if_pos ⟨h1.1 hL,he⟩]
   ·rw[if_neg (fun h=>hL h.1),if_neg (fun h=>hL (h1.2 h.1)),ih]
theorem Pq{ss:Nat->ax}{p:Nat}(h:∀i,i<p->iC (ss i) (ss (i+1))){o:Nat}(he:(ss p o).n=(ss 0 o).n):∀i,i<=p->ss i o=ss 0 o:=by
 have mono:∀(i d:Nat),i+d<=p->(ss i o).n<=(ss (i+d) o).n:=by
  intro i d;induction d with
  | zero=>intro _;exact Nat.le_refl _
  | succ d ih=>
   intro hd;have h1:=ih (by omega);rcases h (i+d) (by omega) o with h2|h2
   ·rw[show i+(d+1)=i+d+1 by omega,h2];exact h1
   ·rw[show i+(d+1)=i+d+1 by omega];omega
 intro i;induction i with
 | zero=>intro _;rfl
 | succ i ih=>
  intro hi;have ih:=ih (by omega);rcases h i (by omega) o with h2|h2
  ·rw[h2,ih]
  ·exfalso;have h3:=mono (i+1) (p-(i+1)) (by omega);rw[show i+1+(p-(i+1))=p by omega]at h3
   rw[ih]at h2
   omega
theorem JJ{x y:X}(h:rG x y=true):x=y:=by
 unfold rG at h;split at h
 ·simp only[bN,beq_iff_eq]at h;obtain⟨rfl,rfl⟩:=h;rfl
 ·simp only[beq_iff_eq]at h;rw[h]
 ·simp at h
theorem BH{r:List It->Env->ax->Option (Env×ax)}{op:iw}{e:Env}{s:ax}(h:uM op=true):dB r T op e s=aB op e s:=by cases op<;>first|rfl|(simp[uM]at h;done)
theorem DI{op:iw}(h:zC op=0):dF op=true:=by
 cases op
 case bU st _ _ _ _=>cases st<;>simp[zC,dF,dM]at h
 all_goals simp only[zC]at h<;>first|(simp at h;done)|(split at h<;>first|assumption|(simp at h;done))
theorem J2.cnt(hC:TC T){g:fE}{e:Env}{s s':ax}{y:X}(h:J2 T N g e s y s'):iC s s':=by
 rcases h with⟨_,_,rfl⟩|⟨_,m,_,h⟩
 ·exact iC.refl _
 ·exact Nq (fun its e s x hx=>Vd T hC m its e s x hx) hC h
theorem J2.still{g:fE}{e:Env}{s s':ax}{y:X}(h:J2 T N g e s y s')(hc:zC g.op=0):s'=s:=by
 rcases h with⟨_,_,rfl⟩|⟨_,m,_,h⟩
 ·rfl
 ·exact JP (DI hc) h
theorem MK{q k lim:Nat}{x y z:X}{s s':ax}(h:y9 s q k lim x y=some (z,s')):(∀o,o≠q->s' o=s o)/\∀s2:ax,s2 q=s q->y9 s2 q k lim x y=some (z,fun o=>if o=q then s' q else s2 o):=by
 have same:∀s2:ax,s2 q=s q->(fun o=>if o=q then s q else s2 o)=s2:=by
  intro s2 h2;funext o;by_cases ho:o=q
  ·subst ho;simp[h2]
  ·simp[ho]
 have new:∀(s2:ax) (ob:Ob),s2 q=s q->(fun o=>if o=q then aN s q ob q else s2 o)=aN s2 q ob:=by
  intro s2 ob h2;funext o;by_cases ho:o=q
  ·subst ho;simp[aN,upd,h2]
  ·simp[aN,upd,ho]
 have keep:∀ob o,o≠q->aN s q ob o=s o:=fun ob o ho=>by simp[aN,upd,ho]
 unfold y9 at h;split at h
 ·rename_i f es;simp only[CQ,elems]at h;split at h
  ·simp at h
  rename_i hok;split at h
  ·rename_i h0;simp only[aW,bK]at h;obtain⟨rfl,rfl⟩:=h;refine⟨fun _ _=>rfl,fun s2 h2=>?_⟩;simp only[y9,CQ,elems];rw[if_neg hok,if_pos h0,same s2 h2]
  ·rename_i h0;split at h
   case isFalse=>simp at h
   rename_i hl;simp only[aW,bK]at h;obtain⟨rfl,rfl⟩:=h;refine⟨keep _,fun s2 h2=>?_⟩;simp only[y9,CQ,elems];rw[if_neg hok,if_neg h0,if_pos hl,new s2 _ h2,h2]
 ·rename_i o' g k' i n f es;split at h
  case isFalse=>simp at h
  rename_i hq;subst hq;simp only[CQ,elems]at h;split at h
  ·simp at h
  rename_i hok;split at h
  case h_2=>simp at h
  rename_i k'' es' ho;split at h
  case isFalse=>simp at h
  rename_i hc;simp only[aW,bK]at h;obtain⟨rfl,rfl⟩:=h;refine⟨keep _,fun s2 h2=>?_⟩;simp only[y9,CQ,elems,if_true,h2,ho];rw[if_neg hok,if_pos hc,new s2 _ h2]
 ·simp at h
theorem J2.box{g:fE}{e:Env}{s s':ax}{y:X}(h:J2 T N g e s y s')(hc:zC g.op=1):∃q,J8 g.op=some q/\(∀o,o≠q->s' o=s o)/\
 ∀s2:ax,s2 q=s q->J2 T N g e s2 y (fun o=>if o=q then s' q else s2 o):=by
 obtain⟨d,gg,op⟩:=g;cases op
 case box q a=>
  refine⟨q,rfl,?_,?_⟩
  ·intro o ho;rcases h with⟨_,_,rfl⟩|⟨_,m,_,h⟩
   ·rfl
   ·simp only[dB,aB]at h;split at h
    ·simp only[aW,bK]at h;obtain⟨_,rfl⟩:=h;simp[aN,upd,ho]
    ·simp at h
  ·intro s2 hs2;rcases h with⟨h1,h2,rfl⟩|⟨h1,m,hm,h⟩
   ·refine .inl ⟨h1,h2,?_⟩;funext o;by_cases ho:o=q
    ·subst ho;simp[hs2]
    ·simp[ho]
   ·refine .inr ⟨h1,m,hm,?_⟩;simp only[dB,aB]at h ⊢;split at h
    ·rename_i hc;rw[if_pos hc];simp only[aW,bK]at h;obtain⟨rfl,rfl⟩:=h;rw[hs2];simp only[aW,bK,true_and];funext o;by_cases ho:o=q
     ·subst ho;simp[aN,upd,hs2]
     ·simp[aN,upd,ho]
    ·simp at h
 case Rh q k lim a b=>
  refine⟨q,rfl,?_,?_⟩
  ·rcases h with⟨_,_,rfl⟩|⟨_,m,_,h⟩
   ·intro o _;rfl
   ·exact(MK (by simpa only[dB,aB]using h)).1
  ·intro s2 hs2;rcases h with⟨h1,h2,rfl⟩|⟨h1,m,hm,h⟩
   ·refine .inl ⟨h1,h2,?_⟩;funext o;by_cases ho:o=q
    ·subst ho;simp[hs2]
    ·simp[ho]
   ·exact .inr ⟨h1,m,hm,by simp only[dB,aB];exact(MK (by simpa only[dB,aB]using h)).2 s2 hs2⟩
 case bU st p q f l=>
  cases st with
  | false=>simp[zC,dF,dM]at hc
  | true=>
  have key:∀ {m e} {s s':ax} {y:X},dB (runN T m) T (.bU true p q f l) e s=some (y,s')->(∀o,o≠q->s' o=s o)/\
   ∀s2:ax,s2 q=s q->dB (runN T m) T (.bU true p q f l) e s2=some (y,fun o=>if o=q then s' q else s2 o):=by
   intro m e s s' y h;simp only[dB,qH]at h ⊢;split at h
   ·simp at h
   rename_i xs hxs;have hnm:(l.map (Ar.ev e)).flatMap nJ=[]:=by
    unfold jy at h;split at h
    ·split at h
     ·simp at h
     ·rename_i hn;exact Classical.byContradiction fun hq=>hn ⟨rfl,hq⟩
    ·split at h
     ·simp at h
     ·rename_i hn;exact Classical.byContradiction fun hq=>hn (.inl ⟨rfl,hq⟩)
    ·simp at h
   have hA:∀s2,vO s2 (l.map (Ar.ev e))=some xs:=fun s2=>H8 hnm hxs;refine⟨?_,fun s2 hs2=>?_⟩
   ·intro o ho;unfold jy at h;split at h
    ·split at h
     ·simp at h
     ·simp only[aW,bK]at h;obtain⟨_,rfl⟩:=h;simp[gX,hnm]
    ·split at h
     ·simp at h
     ·simp only[aW,bK]at h;obtain⟨_,rfl⟩:=h;simp[gX,hnm,aN,upd,ho]
    ·simp at h
   ·rw[hA s2];simp only;unfold jy at h ⊢;rw[hnm]at h ⊢
    split at h
    ·rw[if_neg (show ¬(true=true/\¬(([]:List Nat)=[]))by simp)]at h ⊢
     simp only[aW,bK]at h ⊢;obtain⟨rfl,rfl⟩:=h;refine⟨rfl,?_⟩;funext o;by_cases ho:o=q
     ·subst ho;simp[gX,hs2]
     ·simp[gX,ho]
    ·rw[if_neg (show ¬((true=true/\¬(([]:List Nat)=[]))\/q∈([]:List Nat))by simp)]at h ⊢
     simp only[aW,bK]at h ⊢;obtain⟨rfl,rfl⟩:=h;refine⟨by rw[hs2],?_⟩;funext o;by_cases ho:o=q
     ·subst ho;simp[gX,aN,upd,hs2]
     ·simp[gX,aN,upd,ho]
    ·simp at h
  refine⟨q,rfl,?_,?_⟩
  ·rcases h with⟨_,_,rfl⟩|⟨_,m,_,h⟩
   ·intro o _;rfl
   ·exact(key h).1
  ·intro s2 hs2;rcases h with⟨h1,h2,rfl⟩|⟨h1,m,hm,h⟩
   ·refine .inl ⟨h1,h2,?_⟩;funext o;by_cases ho:o=q
    ·subst ho;simp[hs2]
    ·simp[ho]
   ·exact .inr ⟨h1,m,hm,(key h).2 s2 hs2⟩
 all_goals (simp only[zC]at hc;split at hc<;>simp at hc)
theorem RZ(hLP:w0.Bt=uN P){rq r:Option Nat}(hC:TC T)(hF:∀f,(T f).isSome=true->lM P f=true)(hT:∀m,m<N->lV P T m/\om P T m)(hD:u_ ops gl p ch js)(hok:wH P nt ops ops.toList gl=true){e:Env}{xs:Nat->X}{ss:Nat->ax}
 (hxs:∀i g,i<p->gl[i]?=some g->J2 T N g (iA e gl xs (·<i)) (ss i) (xs i) (ss (i+1)))
 (hch:∀t∈ch,∀o∈lK (iA e gl xs (·<p) t),(ss p o).n=(ss 0 o).n)
 (hjs:∀j g d,j∈js->j<p->gl[j]?=some g->g.d=some d->∃x y s1 s2,aB g.op (iA e gl xs (·<p)) (ss 0)=some (x,s1)/\aB g.op (iA e gl xs (·<p)) (ss p)=some (y,s2)/\x=iA e gl xs (·<p) d/\y=iA e gl xs (·<p) d)
 {n:Nat} (hn:n<=N) (hr:runN T n (.ops (gl.drop p)::k) (iA e gl xs (·<p)) (ss p)=some x) :
 ∀ {F:Nat} {l:Array Bool} {μ:Nat->Nat} {fr:Nat->Prop} {a:Act} {w:World},l.size=ops.size->l.count false<=F->(∀j,j<gl.length->l.getD j true=true->j<p)->
 (∀i j,l.getD i false=true->d1 ops i j=true->l.getD j false=true)->Inv w0 sh nt μ fr (iA e gl xs (fun j=>l.getD j true=true)) (SL ss (fun j=>l.getD j true=true) p) a w->wpAnyIn (rF r) 0 P .any ops (Qk T w0 sh nt N k rq x) F l a w:=by
 have hple:=hD.le;have hsz:=hD.size;have hcnt:∀i,i<p->iC (ss i) (ss (i+1)):=fun i hi=>(hxs i gl[i] hi (List.getElem?_eq_getElem (by omega))).cnt hC;have hall':∀ {L:Nat->Prop},(∀j,j<p->L j)->SL ss L p=ss p:=by intro L hL;funext o;rw[ji (i:=p) (fun j hj _=>⟨fun _=>hj,fun _=>hL j hj⟩),Nat.min_self]
 intro F;induction F with
 | zero=>
  intro l μ fr a w hl hc hlt hdn h;have hall:∀j,j<gl.length->l.getD j true=true:=by
   intro j hj;cases hq:l.getD j true with
   | true=>rfl
   | false=>have:=xG hq;omega
  refine JR hLP hF hT hD hok (μ:=μ) (fr:=fr) (q:=p) (Nat.le_refl _) hD.le hl hc ?_ hn ?_ hr
  ·intro j hj;rw[hall j hj];exact(decide_eq_true (hlt j hj (hall j hj))).symm
  ·rw[qJ (L':=fun j=>l.getD j true=true) (fun j hj=>by rw[hall j hj];simp[hlt j hj (hall j hj)]) hD,<-hall' (L:=fun j=>l.getD j true=true) (fun j hj=>hall j (by omega))];exact h
 | succ F ih=>
  intro l μ fr a w hl hc hlt hdn h;by_cases hall:∀j,j<p->l.getD j true=true
  ·refine JR hLP hF hT hD hok (μ:=μ) (fr:=fr) (q:=p) (Nat.le_refl _) hD.le hl hc ?_ hn ?_ hr
   ·intro j hj;by_cases hjp:j<p
    ·rw[hall j hjp];simp[hjp]
    ·cases hq:l.getD j true with
     | true=>exact absurd (hlt j hj hq) hjp
     | false=>simp[hjp]
   ·rw[qJ (L':=fun j=>l.getD j true=true) (fun j hj=>⟨fun h1=>hall j h1,hlt j hj⟩) hD,<-hall' (L:=fun j=>l.getD j true=true) hall];exact h
  ·obtain⟨j0,hj0⟩:=Classical.not_forall.1 hall;obtain⟨hj0,hj0u⟩:=Classical.not_imp.1 hj0;have hj0u:l.getD j0 true=false:=by simpa using hj0u
   obtain⟨j,hjle,hju,hjmin⟩:=pG (p:=fun j=>l.getD j true=false) hj0u;have hjp:j<p:=by omega
   have hready:j∈Region.ready .any ops l:=by
    have hjs:j<ops.size:=by omega
    refine mem_ready.2 ⟨hju,ops[j],kF hjs,?_⟩;intro e he hb;have h1:=hD.edge j _ (kF hjs) e he hb;rw[<-iO (by omega)];simpa using hjmin e.on h1
   refine⟨fun hnil=>by rw[hnil]at hready;simp at hready,?_⟩;intro i hi;obtain⟨h0,o,ho,he⟩:=mem_ready.1 hi;have his:=(Array.getElem?_eq_some_iff.1 ho).1;have hd2:∀j,d2 ops i j=true->l.getD j false=true:=fun j hj=>MU hdn hi hj;have hd2':∀j,j<p->d2 ops i j=true->l.getD j true=true:=fun j hj h=>by rw[iO (by omega)];exact hd2 j h
   have hd3:∀j,j<p->d2 ops j i=true->¬l.getD j true=true:=by
    intro j hj h1 h2;have h3:l.getD i false=true:=MV hdn (fun q hq=>hdn j q (by rw[<-iO (by omega)];exact h2) hq) h1;rw[<-iO (by omega),h0]at h3
    simp at h3
   have hip:i<p:=by
    by_cases hip:i<p
    ·exact hip
    ·have:=hd2 j (hD.tail i j (by omega) (by omega) (by omega));rw[<-iO (by omega),hju]at this
     simp at this
   obtain⟨g,hg,hokg⟩:=I_ hok i o (by simpa using ho);have hrd:∀t∈g.rd,iA e gl xs (fun j=>l.getD j true=true) t=iA e gl xs (·<i) t:=by
    intro t ht;refine mX (fun j hj hjt=>?_) hD;by_cases hji:j=i
    ·subst hji;simp[h0]
    by_cases hjp':j<p
    case neg=>exact⟨fun hq=>absurd (hlt j hj hq) hjp',fun hq=>by omega⟩
    ·rcases hD.reads i g t j hip hg ht hjp' hji hjt with⟨h1,h2⟩|⟨h1,h2⟩
     ·have:=hd2 j h2;rw[<-iO (by omega)]at this
      simp[this,h1]
     ·exact⟨fun hq=>absurd hq (hd3 j hjp' h2),fun hq=>by omega⟩
   have hrdp:(∀t∈g.rd,∀q,q<p->mD gl q=some t->q<i)->∀t∈g.rd,iA e gl xs (·<p) t=iA e gl xs (·<i) t:=by intro hlate t ht;exact mX (fun j hj hjt=>⟨fun hq=>hlate t ht j hq hjt,fun hq=>by omega⟩) hD
   have hsub:∀n∈g.op.rd,n∈g.rd:=fun n hn=>List.mem_append_left _ hn;have hdid:J2 T N g (iA e gl xs (fun j=>l.getD j true=true)) (SL ss (fun j=>l.getD j true=true) p) (xs i) (SL ss (fun j=>l.getD j true=true\/j=i) p):=by
    have hx:=hxs i g hip hg;have tr:∀ {s y s'},J2 T N g (iA e gl xs (·<i)) s y s'->J2 T N g (iA e gl xs (fun j=>l.getD j true=true)) s y s':=by
     intro s y s' hd;rcases hd with⟨h1,h2,h3⟩|⟨h1,m,hm,h2⟩
     ·exact .inl ⟨by rw[IG hrd];exact h1,h2,h3⟩
     ·exact .inr ⟨by rw[IG hrd];exact h1,m,hm,by rw[Ql (fun n hn=>hrd n (hsub n hn))];exact h2⟩
    refine tr ?_;have wr:∀j o,j<p->ss (j+1) o≠ss j o->∃gj,gl[j]?=some gj/\zC gj.op≠0:=by intro j o hj hne;have hgj:gl[j]?=some gl[j]:=List.getElem?_eq_getElem (by omega);refine⟨_,hgj,fun h0=>hne ?_⟩;rw[(hxs j _ hj hgj).still h0]
    have ordL:∀j,j<p->j≠i->(j<i/\d2 ops i j=true)\/(i<j/\d2 ops j i=true)->(l.getD j true=true↔j<i):=by
     intro j hj hne ho;rcases ho with⟨h1,h2⟩|⟨h1,h2⟩
     ·exact⟨fun _=>h1,fun _=>hd2' j hj h2⟩
     ·exact⟨fun h=>absurd h (hd3 j hj h2),fun h=>by omega⟩
    by_cases c0:zC g.op=0
    ·
     have hs1:ss (i+1)=ss i:=hx.still c0;have hSL:SL ss (fun j=>l.getD j true=true\/j=i) p=SL ss (fun j=>l.getD j true=true) p:=by
      funext o;refine Ev fun j hj hne=>⟨fun h=>h.elim id fun h=>?_,.inl⟩
      subst h;exact absurd (by rw[hs1]) hne
     rw[hSL];rcases hx with⟨h1,h2,h3⟩|⟨h1,m,hm,h2⟩
     ·exact .inl ⟨h1,h2,rfl⟩
     refine .inr ⟨h1,m,hm,?_⟩;rw[hs1]at h2
     have hst:=DI c0;have loc:(∀a∈g.op.p8,∀q∈lK (a.ev (iA e gl xs (·<i))),SL ss (fun j=>l.getD j true=true) p q=ss i q)->dB (runN T m) T g.op (iA e gl xs (·<i)) (SL ss (fun j=>l.getD j true=true) p)=some (xs i,SL ss (fun j=>l.getD j true=true) p):=
      fun hl=>Qm hst hl h2
     by_cases hun:∃j gj,j<p/\j≠i/\gl[j]?=some gj/\zC gj.op≠0/\¬((j<i/\d2 ops i j=true)\/(i<j/\d2 ops j i=true))
     ·obtain⟨j,gj,hj,hne,hgj,hcj,hno⟩:=hun;rcases hD.sep j i gj g hj hip (Ne.symm hne) hgj hg hcj with h3|h3|⟨_,h3⟩
      ·exact absurd (h3.symm) hno
      ·have:=h3.1;omega
      rcases h3 with h3|⟨hlate,h3|⟨hjm,hgg,⟨d,hd⟩,hnc,hone⟩⟩
      ·have hnc:uM g.op=true:=by cases hgo:g.op<;>simp[hgo,Bb]at h3<;>simp[uM]
       rw[BH hnc]at h2 ⊢
       exact CB h3 h2
      ·refine loc fun a ha q hq=>?_;cases a with
       | k y=>
        have:=hD.kst i g hip hg _ ha;simp only[arK,List.isEmpty_iff]at this;simp only[Ar.ev]at hq;rw[this]at hq
        simp at hq
       | t z=>
        have hz:z∈g.op.rd:=List.mem_flatMap.2 ⟨_,ha,by simp[Ar.sl]⟩;simp only[Ar.ev]at hq;rw[<-hrdp hlate z (hsub z hz)]at hq
        have hun:=Pq hcnt (hch z (h3 z hz) q hq);rw[ji (i:=i) (fun j hj hne=>absurd ((hun (j+1) (by omega)).trans (hun j (by omega)).symm) hne),show min p i=i by omega]
      ·
       rw[BH hnc]at h2 ⊢
       obtain⟨x1,x2,s1,s2,e1,e2,e3,e4⟩:=hjs i g d hjm hip hg hd;have hxi:iA e gl xs (·<p) d=xs i:=rV (L:=(·<p)) hD hip (by omega) (by rw[Bc hg,hd]);have hcg:∀s,aB g.op (iA e gl xs (·<p)) s=aB g.op (iA e gl xs (·<i)) s:=fun s=>yV (U7 fun n hn=>hrdp hlate n (hsub n hn));have hsti:dM g.op=true:=by have:=hst;cases hgo:g.op<;>simp[hgo,uM]at hnc<;>simpa[hgo,dF]using this
       rw[hcg]at e1 e2
       rw[e3,hxi]at e1
       rw[e4,hxi]at e2
       have only:∀q o,q<p->ss (q+1) o≠ss q o->q=j:=by
        intro q o hq hne;obtain⟨gq,hgq,hcq⟩:=wr q o hq hne;by_cases hqj:q=j
        ·exact hqj
        ·exact absurd (hone q gq hq hgq hqj) hcq
       by_cases hLj:l.getD j true=true
       ·have:SL ss (fun j=>l.getD j true=true) p=ss p:=by funext o;rw[ji (i:=p) (fun q hq hne=>by rw[only q o hq hne];simp[hLj,hj]),Nat.min_self]
        rw[this,e2,pY hsti e2]
       ·have:SL ss (fun j=>l.getD j true=true) p=ss 0:=by funext o;rw[ji (i:=0) (fun q hq hne=>by rw[only q o hq hne];simp[hLj]),Nat.min_zero]
        rw[this,e1,pY hsti e1]
     ·have:SL ss (fun j=>l.getD j true=true) p=ss i:=by
       funext o;rw[ji (i:=i) (fun j hj hne=>?_),show min p i=i by omega];obtain⟨gj,hgj,hcj⟩:=wr j o hj hne;by_cases hji:j=i
       ·subst hji;exact absurd (by rw[hs1]) hne
       ·refine ordL j hj hji ?_;exact Classical.byContradiction fun hno=>hun ⟨j,gj,hj,hji,hgj,hcj,hno⟩
      rw[this];exact h2
    ·have sepW:∀j gj,j<p->j≠i->gl[j]?=some gj->zC gj.op≠0->((j<i/\d2 ops i j=true)\/(i<j/\d2 ops j i=true))\/(zC gj.op=1/\zC g.op=1/\J8 g.op≠J8 gj.op):=by
      intro j gj hj hne hgj hcj;rcases hD.sep i j g gj hip hj hne hg hgj c0 with h3|h3|⟨h3,_⟩
      ·exact .inl h3
      ·exact .inr h3
      ·exact absurd h3 hcj
     by_cases c1:zC g.op=1
     ·obtain⟨q,hq,hkeep,hbox⟩:=hx.box c1;have atq:∀j,j<p->ss (j+1) q≠ss j q->j≠i->(l.getD j true=true↔j<i):=by
       intro j hj hne hji;obtain⟨gj,hgj,hcj⟩:=wr j q hj hne;rcases sepW j gj hj hji hgj hcj with h3|⟨h3,_,h4⟩
       ·exact ordL j hj hji h3
       ·obtain⟨q',hq',hk',_⟩:=(hxs j gj hj hgj).box h3;by_cases hqq:q=q'
        ·subst hqq;exact absurd (hq.trans hq'.symm) h4
        ·exact absurd (hk' q hqq) hne
      have e1:SL ss (fun j=>l.getD j true=true) p q=ss i q:=by
       rw[ji (i:=i) (fun j hj hne=>?_),show min p i=i by omega];by_cases hji:j=i
       ·subst hji;simp[h0]
       ·exact atq j hj hne hji
      have e2:SL ss (fun j=>l.getD j true=true\/j=i) p q=ss (i+1) q:=by
       rw[ji (i:=i+1) (fun j hj hne=>?_),show min p (i+1)=i+1 by omega];by_cases hji:j=i
       ·subst hji;exact⟨fun _=>by omega,fun _=>.inr rfl⟩
       ·have:=atq j hj hne hji;simp only[hji,or_false];rw[this];omega
      have e3:(fun o=>if o=q then ss (i+1) q else SL ss (fun j=>l.getD j true=true) p o)=SL ss (fun j=>l.getD j true=true\/j=i) p:=by
       funext o;by_cases hoq:o=q
       ·subst hoq;simp only[if_true];exact e2.symm
       ·simp only[hoq,if_false];refine Ev fun j hj hne=>⟨.inl,fun h=>h.elim id fun h=>?_⟩
        subst h;exact absurd (hkeep o hoq) hne
      rw[<-e3];exact hbox _ e1
     ·have atA:∀o j,j<p->ss (j+1) o≠ss j o->j≠i->(l.getD j true=true↔j<i):=by
       intro o j hj hne hji;obtain⟨gj,hgj,hcj⟩:=wr j o hj hne;rcases sepW j gj hj hji hgj hcj with h3|⟨_,h4,_⟩
       ·exact ordL j hj hji h3
       ·exact absurd h4 c1
      have e1:SL ss (fun j=>l.getD j true=true) p=ss i:=by
       funext o;rw[ji (i:=i) (fun j hj hne=>?_),show min p i=i by omega];by_cases hji:j=i
       ·subst hji;simp[h0]
       ·exact atA o j hj hne hji
      have e2:SL ss (fun j=>l.getD j true=true\/j=i) p=ss (i+1):=by
       funext o;rw[ji (i:=i+1) (fun j hj hne=>?_),show min p (i+1)=i+1 by omega];by_cases hji:j=i
       ·subst hji;exact⟨fun _=>by omega,fun _=>.inr rfl⟩
       ·have:=atA o j hj hne hji;simp only[hji,or_false];rw[this];omega
      rw[e1,e2];exact hx
   refine KW hLP hF ho hokg h hT hdid ?_;intro a' w' μ' fr' hI;have hLL:∀j,j<gl.length->((l.setIfInBounds i true).getD j true=true↔(l.getD j true=true\/j=i)):=by intro j hj;rw[vX (by omega)];simp only[Bool.or_eq_true,decide_eq_true_eq];exact or_congr Iff.rfl eq_comm
   refine ih (μ:=μ') (fr:=fr') (by simpa using hl) (vN h0 hc) ?_ ?_ ?_
   ·intro j' hj' hq;rcases(hLL j' hj').1 hq with hq|rfl
    ·exact hlt j' hj' hq
    ·exact hip
   ·intro i' j' h1 h2;have hj':j'<i':=ZC hD h2;have hi's:i'<l.size:=by
     by_cases hq:i'<l.size
     ·exact hq
     ·have:(l.setIfInBounds i true).size<=i':=by rw[Array.size_setIfInBounds];omega
      simp[mq,Array.getElem?_eq_none this]at h1
    rw[<-iO (by rw[Array.size_setIfInBounds];omega),vX (by omega)]at h1
    rw[<-iO (by rw[Array.size_setIfInBounds];omega),vX (by omega)];simp only[Bool.or_eq_true,decide_eq_true_eq]at h1 ⊢;left;rw[iO (by omega)];rcases h1 with h1|rfl
    ·rw[iO (by omega)]at h1
     exact hdn i' j' h1 h2
    ·exact MS hi h2
   ·rw[qJ (L':=fun j=>l.getD j true=true\/j=i) hLL hD];rw[<-Im hD (by omega) (by simp[h0])];rw[Bc hg];have:SL ss (fun j=>(l.setIfInBounds i true).getD j true=true) p=SL ss (fun j=>l.getD j true=true\/j=i) p:=by funext q;exact Ev fun j hj _=>hLL j (by omega)
    rw[this];exact hI
end
variable {P:Program}
noncomputable def least(p:Nat->Prop):Nat:=by
 classical
 exact if h:∃n,p n then(pG h.choose_spec).choose else 0
theorem Bp{p:Nat->Prop}{n:Nat}(h:p n):p (least p)/\least p<=n:=by
 have hx:∃n,p n:=⟨n,h⟩
 have:=(pG hx.choose_spec).choose_spec;unfold least;rw[dif_pos hx];refine⟨this.2.1,?_⟩;by_cases hq:n<(pG hx.choose_spec).choose
 ·exact absurd h (this.2.2 n hq)
 ·omega
theorem Rc{r:Option Nat}{c:Code}{Q:Exit->Act->World->Prop}{a:Act}{w:World}(J:Nat->Act->World->Prop){n:Nat}(h:J n a w)
 (round:∀n a w,J n a w->c.wpIn (rF r) 0 P (Exit.then (fun a' w'=>∃m,m<n/\J m a' w') Q) a w):(Code.loop c).wpIn (rF r) 0 P Q a w:=by
 refine wpIn_loop (fun a w=>∃n,J n a w) (fun a w=>least fun n=>J n a w) ⟨n,h⟩ ?_;rintro a w ⟨n,hn⟩;have hl:=Bp (p:=fun n=>J n a w) hn;refine Code.wpIn_mono ?_ (round _ a w hl.1);intro e a' w' he;cases e with
 | normal=>
  obtain⟨m,hm,hj⟩:=he;exact⟨⟨m,hj⟩,Nat.lt_of_le_of_lt (Bp (p:=fun n=>J n a' w') hj).2 hm⟩
 | _=>exact he
theorem tH{F:Fence}{n:Nat}{c:Code}{Q:Exit->Act->World->Prop}{a:Act}{w:World}(h:c.wpIn F n P (Exit.noGoto Q) a w):(Code.scope c).wpIn F n P Q a w:=by
 intro b k cs hro hb hr;have s1:step P (lone (b.atR a (.code (.scope c)::k)) cs w)=.next (lone (b.atR a (.code c::.inScope c::k)) cs w):=step_lone_go (by simp[stepG,stepG.exec,Frame.atR]);obtain⟨e,a₁,w₁,hq,harr⟩:=h b (.inScope c::k) cs hro hb hr;have s2:step P (lone (b.atR a₁ (.inScope c::k)) cs w₁)=.next (lone (b.atR a₁ k) cs w₁):=step_lone_go (by simp[stepG,stepG.exec,Frame.atR]);have h1:StepsIn (Machine.fenced P F) P (lone (b.atR a (.code (.scope c)::k)) cs w) (lone (b.atR a (.code c::.inScope c::k)) cs w):=.one (fenced_calm (fr:=b.atR a (.code (.scope c)::k)) hb hr rfl) s1;cases e with
 | normal=>exact⟨.normal,a₁,w₁,hq,.of_steps h1 (StepsIn.trans harr (.one (fenced_calm (fr:=b.atR a₁ (.inScope c::k)) hb hr rfl) s2))⟩
 | exit id=>exact⟨_,a₁,w₁,hq,.of_steps h1 ⟨fun k' hk=>harr.1 k' (by simp[exitTo,hk]),fun hr hk=>harr.2 hr (by simp[exitTo,hk])⟩⟩
 | goto l=>exact hq.elim
 | ret=>exact⟨_,a₁,w₁,hq,.of_steps h1 harr⟩
 | panic ch=>exact⟨_,a₁,w₁,hq,.of_steps h1 harr⟩
 | outgrown=>exact⟨_,a₁,w₁,hq,.of_steps h1 harr⟩
section
variable {w0:Bs} {sh:Nat->Prop} {nt:Nat} {μ:Nat->Nat} {fr:Nat->Prop} {e:Env} {s:ax} {a:Act} {w:World}
theorem Tq{w:World}{b:Nat}{o o':Obj}(hb:w.heap[b]?=some o)(hc:∀cs t fz,o≠.cells cs t fz){p:Addr}{v:Value}(h:w.cell? p=some v):(w.putObj b o').cell? p=some v:=by
 by_cases hp:p.block=b
 ·exfalso;unfold World.cell? at h;rw[hp,hb]at h
  cases o<;>first|exact hc _ _ _ rfl|simp at h
 ·rw[World.cell?_of_block (w:=w) (World.putObj_heap_other hp)];exact h
theorem K4{w:World}{b:Nat}{o o':Obj}(hb:w.heap[b]?=some o)(hc':∀cs t fz,o'≠.cells cs t fz){p:Addr}(h:w.frozen? p=false):(w.putObj b o').frozen? p=false:=by
 by_cases hp:p.block=b
 ·have hlt:=(Array.getElem?_eq_some_iff.1 hb).1;unfold World.frozen?;rw[hp,World.putObj_heap_same hlt];cases o'<;>first|exact absurd rfl (hc' _ _ _)|rfl
 ·rw[World.frozen?_of_block (w:=w) (World.putObj_heap_other hp)];exact h
theorem Tv{s':ax}{b:Nat}{o o':Obj}(hb:w.heap[b]?=some o)(hc:∀cs t fz,o≠.cells cs t fz)(hc':∀cs t fz,o'≠.cells cs t fz)(hg:∀q,(s' q).g=(s q).g) :
 (aU μ s w sh fr).Le (aU μ s' (w.putObj b o') sh fr):=by
 refine⟨fun k _ off v hv=>Tq hb hc hv,fun k _ off hv=>K4 hb hc' hv,fun _ h=>.inl h,fun _ h=>h,fun q=>by simp[aU,hg],fun q _ _=>⟨rfl,fun cs t fz hcs=>?_⟩⟩;simp only[aU]at hcs ⊢;refine⟨cs,t,fz,(World.putObj_heap_other ?_).trans hcs,rfl⟩;rintro rfl;rw[hb]at hcs
 injection hcs with hcs;exact hc _ _ _ hcs
theorem Dy{w0 w:World}{n b:Nat}{o:Obj}(h:Below n w0 w)(hb:n<=b):Below n w0 (w.putObj b o):=
 h.trans ⟨rfl,rfl,rfl,by simp,fun k hk=>World.putObj_heap_other (by omega)⟩
theorem Inv.unmark(h:Inv w0 sh nt μ fr e s a w){D:Nat}{ds:List Nat}(hd:a.defers=(D::ds).map KH) :
 w.heap[D]?=some (.deferred (some []))/\Inv w0 sh nt μ fr e s {a with defers:=ds.map KH} (w.putObj D (.deferred none)):=by
 obtain⟨ds',e1,e2,e3⟩:=h.defers.ds;have hinj:∀ {l m:List Nat},l.map KH=m.map KH->l=m:=by
  intro l;induction l with
  | nil=>intro m hm;cases m with
   | nil=>rfl
   | cons=>simp at hm
  | cons x l ih=>intro m hm;cases m with
   | nil=>simp at hm
   | cons y m=>
    simp only[ku,List.cons.injEq,KH,Deferred.mk.injEq,Target.collected.injEq,and_true]at hm;rw[hm.1,ih hm.2]
 obtain rfl:=hinj (e1.symm.trans hd);obtain⟨k1,k2,k3⟩:=e3 D (by simp);have hle:=Tv (μ:=μ) (s:=s) (s':=s) (sh:=sh) (fr:=fr) (o':=.deferred none) k2 (fun _ _ _ h=>by cases h) (fun _ _ _ h=>by cases h) (fun _=>rfl);refine⟨k2,Dy h.below k1,h.kD,by simpa using h.iF,?_,h.inj,fun n=>(h.env n).mono hle,⟨⟨ds,rfl,?_,?_⟩,?_⟩,h.size,h.base.trans hle⟩
 ·intro o ob ho;obtain⟨h1,h2⟩:=h.obj o ob ho;exact⟨h1.mono hle (World.putObj_heap_other (k3 o (by simp[ho]))),h2⟩
 ·simp only[List.cons_append,List.nodup_cons]at e2;exact e2.2
 ·intro D' hD';obtain⟨m1,m2,m3⟩:=e3 D' (by simp only[List.cons_append,List.mem_cons];exact .inr hD');refine⟨m1,(World.putObj_heap_other ?_).trans m2,m3⟩;rintro rfl;simp only[List.cons_append,List.nodup_cons]at e2;exact e2.1 hD'
 ·intro q ob ho e ps x y st hl r hr;exact h.defers.KG q ob ho e ps x y st hl r ((World.putObj_heap_other (k3 q (by simp[ho])))▸hr)
theorem IU{fn:Func}{R:Ending->World->Prop}:∀(ds:List Nat) {a:Act} {w:World},a.defers=ds.map KH->Inv w0 sh nt μ fr e s a w->
 (∀w',Inv w0 sh nt μ fr e s {a with defers:=[]} w'->∃v,(results fn a.tmps).run P w'=.ok v w'/\R (.returned v) w')->LeavesInM Fence.wide 0 P fn a.tmps R a.defers .returning w:=by
 intro ds;induction ds with
 | nil=>
  intro a w hd h k;rw[hd];exact k w (by
   have:a={a with defers:=[]}:=by cases a;simp_all
   rw[<-this];exact h)
 | cons D ds ih=>
  intro a w hd h k;obtain⟨h1,h2⟩:=h.unmark hd;rw[hd];refine⟨by simp,.inl ⟨D,_,rfl,run_takeDeferred h1,?_⟩⟩;exact ih (a:={a with defers:=ds.map KH}) rfl h2 k
theorem Inv.OM(h:Inv w0 sh nt μ fr e s a w){q:Nat}{e0:Env}{ps:List Nat}{ca cb:IC}{st st':LS}(ho:(s q).o=some (.lp e0 ps ca cb st))(hwr:(s q).wr=true){r r':Loop}(hr:w.heap[μ q]?=some (.loop r))
 (ht:r'.tmps=r.tmps) (hp:r'.params=r.params) (ha:r'.assign=r.assign) (hb:r'.body=r.body) (hst:lsR st' r') :
 Inv w0 sh nt μ fr e (bF s q (.lp e0 ps ca cb st')) a (w.putObj (μ q) (.loop r')):=by
 obtain⟨⟨rc,hrc,henv,hps,_⟩,hge,_⟩:=h.obj q _ ho;simp only[aU]at hrc;rw[hr]at hrc
 injection hrc with hrc;injection hrc with hrc;subst hrc;have hlt:=dA hr;have:=(h.change q (μ q) (s q).g ((s q).n+1) (.lp e0 ps ca cb st') (w.putObj (μ q) (.loop r')) (Nat.le_refl _) (fun _=>rfl) ⟨rfl,rfl,rfl,by simp,fun k hk=>World.putObj_heap_other (by omega)⟩ (fun k _ hk=>World.putObj_heap_other hk)
  (.inr ⟨rfl,by simp[ho],hwr,fun cs t fz hcs=>by rw[hr]at hcs;simp at hcs⟩) (fun hle=>⟨r',World.putObj_heap_same hlt,fun n=>by rw[ht];exact(henv n).mono hle,by rw[hp];exact hps,hst⟩)
  (by
   intro e ps' x y st2 hl r2 hr2;rw[World.putObj_heap_same hlt]at hr2
   injection hr2 with hr2;injection hr2 with hr2;subst hr2;injection hl with l1 l2 l3 l4 l5;subst l1 l2 l3 l4;have:=h.defers.KG q _ ho _ _ _ _ _ rfl r hr;rw[ht,ha,hb];exact this)).1
 rw[JX]at this
 exact this
theorem Inv.R3(h:Inv w0 sh nt μ fr e s a w){q:Nat}{e0:Env}{ps:List Nat}{ca cb:IC}{st:LS}(ho:(s q).o=some (.lp e0 ps ca cb st)){r:Loop}(hr:w.heap[μ q]?=some (.loop r))(r':Loop) :
 Inv w0 sh nt μ fr e (nD s q) a (w.putObj (μ q) (.loop r')):=by
 have hge:=(h.obj q _ ho).2.1;have gq:nD s q q=⟨(s q).g,(s q).wr,none,(s q).n+1⟩:=by unfold nD;rw[upd_same]
 have gx:∀o,¬o=q->nD s q o=s o:=fun o ho=>by unfold nD;rw[upd_ne _ _ ho]
 have hle:=Tv (μ:=μ) (s:=s) (s':=nD s q) (sh:=sh) (fr:=fr) (o':=.loop r') hr (fun _ _ _ h=>by cases h) (fun _ _ _ h=>by cases h) (fun o=>by
  by_cases hh:o=q
  ·rw[hh,gq]
  ·rw[gx o hh])
 have hne:∀o,¬o=q->(s o).o.isSome=true->μ o≠μ q:=fun o hn hs hm=>hn (h.inj o q hs (by simp[ho]) hm);have some_ne:∀ {o ob},(nD s q o).o=some ob->¬o=q:=by
  intro o ob hob hq;subst hq;rw[gq]at hob
  simp at hob
 refine⟨Dy h.below hge,h.kD,by simpa using h.iF,?_,?_,fun n=>(h.env n).mono hle,⟨?_,?_⟩,h.size,h.base.trans hle⟩
 ·intro o ob hob;have hoq:=some_ne hob;rw[gx o hoq]at hob ⊢
  obtain⟨h1,h2⟩:=h.obj o ob hob;exact⟨h1.mono hle (World.putObj_heap_other (hne o hoq (by simp[hob]))),h2⟩
 ·intro o o' h1 h2 hm;obtain⟨b1,e1⟩:=Option.isSome_iff_exists.1 h1;obtain⟨b2,e2⟩:=Option.isSome_iff_exists.1 h2;rw[gx o (some_ne e1)]at h1
  rw[gx o' (some_ne e2)]at h2
  exact h.inj o o' h1 h2 hm
 ·obtain⟨ds,e1,e2,e3⟩:=h.defers.ds;refine⟨ds,e1,e2,fun D hD=>?_⟩;obtain⟨k1,k2,k3⟩:=e3 D hD;refine⟨k1,(World.putObj_heap_other (Ne.symm (k3 q (by simp[ho])))).trans k2,fun o hs=>?_⟩;obtain⟨b1,e1⟩:=Option.isSome_iff_exists.1 hs;rw[gx o (some_ne e1)]at hs
  exact k3 o hs
 ·intro o ob hob;have hoq:=some_ne hob;rw[gx o hoq]at hob
  intro e ps x y st hl r2 hr2;exact h.defers.KG o ob hob e ps x y st hl r2 ((World.putObj_heap_other (hne o hoq (by simp[hob])))▸hr2)
theorem Mk.back{B:Cx}{ds:List Nat}{μ':Nat->Nat}{s':ax}{a':Act}{w':World}(hm:Mk ⟨w0.toWorld,B,w0.JY,ds++w0.keep,w0.Bt⟩ μ' s' a' w')(d1:a.defers=ds.map KH)(d2:(ds++w0.keep).Nodup):Mk w0 μ' s' a w':=
 ⟨⟨ds,d1,d2,fun D hD=>by obtain⟨ds',_,_,h3⟩:=hm.ds;exact h3 D (List.mem_append.2 (.inr hD))⟩,hm.KG⟩
theorem Inv.back{ds:List Nat}{nt':Nat}{μ':Nat->Nat}{fr':Nat->Prop}{e':Env}{s':ax}{a':Act}{w':World}(h:Inv w0 sh nt μ fr e s a w)(hI:Inv ⟨w0.toWorld,aU μ s w sh fr,w0.JY,ds++w0.keep,w0.Bt⟩ sh nt' μ' fr' e' s' a' w')(d1:a.defers=ds.map KH)(d2:(ds++w0.keep).Nodup) :
 Inv w0 sh nt μ' fr' e s' a w'/\(aU μ s w sh fr).Le (aU μ' s' w' sh fr'):=
 ⟨⟨hI.below,hI.kD,hI.iF,hI.obj,hI.inj,fun n=>(h.env n).mono hI.base,hI.defers.back d1 d2,h.size,h.base.trans hI.base⟩,hI.base⟩
theorem Tw{C:Cx}:∀(ps:List Nat) (l:List X) (vs:List Value) {e:Env} {tm:Array Value},(∀p∈ps,p<tm.size)->l.length=vs.length->(∀(j:Nat) x v,l[j]?=some x->vs[j]?=some v->aZ C x v)->ve C e {tmps:=tm,defers:=[]}->
 ve C (puts e ps l) {tmps:=(ps.zip vs).foldl (fun t p=>t.setIfInBounds p.1 p.2) tm,defers:=[]}/\((ps.zip vs).foldl (fun t p=>t.setIfInBounds p.1 p.2) tm).size=tm.size:=by
 intro ps;induction ps with
 | nil=>intro l vs e tm _ _ _ hE;exact⟨by simpa[puts]using hE,rfl⟩
 | cons p ps ih=>
  intro l vs e tm hp hl hv hE;cases l with
  | nil=>
   obtain rfl:vs=[]:=List.eq_nil_of_length_eq_zero (by simpa using hl.symm);exact⟨by simpa[puts]using hE,rfl⟩
  | cons x l=>
   cases vs with
   | nil=>simp at hl
   | cons v vs=>
    have hpp:p<tm.size:=hp p (by simp);have:=ih l vs (e:=upd e p x) (tm:=tm.setIfInBounds p v) (fun p' h'=>by simpa using hp p' (by simp[h'])) (by simpa using hl) (fun j x v hx hv'=>hv (j+1) x v (by simpa using hx) (by simpa using hv')) (by
     intro n;by_cases hn:n=p
     ·subst hn;rw[upd_same];simpa[mq,hpp]using hv 0 x v rfl rfl
     ·rw[upd_ne _ _ hn];have:=hE n;simpa[mq,Array.getElem?_setIfInBounds,Ne.symm hn]using this)
    refine⟨by simpa[puts]using this.1,?_⟩;simpa using this.2
def jmpE:Option (Option Nat)->Exit
 | none=>.normal
 | some none=>.ret
 | some (some id)=>.exit id
set_option maxHeartbeats 600000 in
theorem QL(h:Inv w0 sh nt μ fr e s a w)(hLP:w0.Bt=uN P){T:Nat->Option Fe}{n:Nat}(hI:om P T n)(hF:∀f,(T f).isSome=true->lM P f=true){g:Operand}{psO:Array Nat}{cA cB:Code}{q:Nat}{g':Ar}{ps:List Nat}{ca cb:IC}
 (hg:dU g g'=true) (hps:psO.toList=ps) (hpn:∀p∈ps,p<nt) (hoo:zR ca=true) (hA:zQ P nt (some q) cA ca=true) (hB:zQ P nt (some q) cB cb=true) {j:Option (Option Nat)} {s':ax} (hr:n_ (runN T n) T q (g'.ev e) ps ca cb e s=some (j,s'))
 {Q:Exit->Act->World->Prop} (hQ:∀a1 w1 μ' fr',Inv w0 sh nt μ' fr' e s' a1 w1->Q (jmpE j) a1 w1):(Code.rangeFunc g psO cA cB).wpIn (rF none) 0 P Q a w:=by
 unfold n_ at hr;split at hr
 case h_2=>simp at hr
 rename_i f cs hgv;have hrep:=aD h.env hg;rw[hgv]at hrep
 generalize hv:a.eval g=v at hrep;cases hrep with
 | @fn _ _ us hl' hr'=>
 cases hc:bZ (runN T n) T f (.Dq q ((s q).g+1)::cs) (aN s q (.lp e ps ca cb .ready))with
 | none=>rw[hc]at hr;simp[ZM]at hr
 | some z=>
 obtain⟨z1,s2⟩:=z;rw[hc]at hr
 have hf:=hF f (EI hc);unfold lM at hf;split at hf
 case h_2=>simp at hf
 rename_i fn hfn;simp only[bN,bne_iff_ne,ne_eq]at hf;obtain⟨body,hbody⟩:=Option.isSome_iff_exists.1 hf.1;refine wpIn_rangeFunc ?_;intro fnn _;obtain⟨r0,hr0⟩:∃r0:Loop,r0={state:=.ready,pending:=none,fn:=fnn,tmps:=a.tmps,params:=psO,assign:=cA,body:=cB,defers:=w.heap.size}:=⟨_,rfl⟩
 obtain⟨w1,hw1⟩:∃w1,(w.alloc (.deferred (some []))).alloc (.loop r0)=w1:=⟨_,rfl⟩
 have hL:w1.heap[w.heap.size+1]?=some (.loop r0):=by rw[<-hw1];have:=World.alloc_heap_new (w.alloc (.deferred (some []))) (.loop r0);rwa [World.size_alloc]at this
 have hD:w1.heap[w.heap.size]?=some (.deferred (some [])):=by rw[<-hw1];exact(Below.heap_alloc _ _ _ (by simp)).trans (World.alloc_heap_new w _)
 have hbw:Below w.heap.size w w1:=by rw[<-hw1];exact((Below.refl _ w).alloc (Nat.le_refl _) _).alloc (by simp) _
 obtain⟨hN,hleN⟩:=h.news w1 hbw fr (fun _ h=>h) (fun b hb=>.inl hb);have hold:∀o,(s o).o.isSome=true->μ o<w.heap.size:=by intro o ho;obtain⟨ob,hob⟩:=Option.isSome_iff_exists.1 ho;obtain⟨_,hcs⟩:=(h.obj o ob hob).1.block;exact dA hcs
 have hM:Inv w0 sh nt μ fr e s {a with defers:=KH w.heap.size::a.defers} w1:=by
  refine⟨hN.below,hN.kD,hN.iF,hN.obj,hN.inj,hN.env,⟨?_,hN.defers.KG⟩,hN.size,hN.base⟩;obtain⟨ds,e1,e2,e3⟩:=hN.defers.ds;obtain⟨ds',e1',_,e3'⟩:=h.defers.ds;have hds:∀D∈ds++w0.keep,D≠w.heap.size:=by
   intro D hD hDw;subst hDw;obtain⟨ds2,f1,f2,f3⟩:=h.defers.ds;have hinj:∀ {l m:List Nat},l.map KH=m.map KH->l=m:=by
    intro l;induction l with
    | nil=>intro m hm;cases m with
     | nil=>rfl
     | cons=>simp at hm
    | cons x l ih=>intro m hm;cases m with
     | nil=>simp at hm
     | cons y m=>
      simp only[ku,List.cons.injEq,KH,Deferred.mk.injEq,Target.collected.injEq,and_true]at hm;rw[hm.1,ih hm.2]
   obtain rfl:=hinj (f1.symm.trans e1);have:=dA (f3 _ hD).2.1;omega
  refine⟨w.heap.size::ds,by simp[e1],?_,?_⟩
  ·simp only[List.cons_append,List.nodup_cons];exact⟨fun hD=>hds _ hD rfl,e2⟩
  ·intro D hD';simp only[List.cons_append,List.mem_cons]at hD';rcases hD' with rfl|hD'
   ·exact⟨h.below.size,hD,fun o ho=>Nat.ne_of_lt (hold o ho)⟩
   ·exact e3 D hD'
 obtain⟨hA1,hleA⟩:=hM.Zr q (w.heap.size+1) (.lp e ps ca cb .ready) (iq h.below.size (Nat.le_succ _)) (fun hb=>by have:=(h.iF _ hb).2;omega) (fun o ho=>by have:=hold o ho;omega)
  (fun C' hle hw _ _=>⟨r0,by rw[hw];exact hL,fun n=>by rw[hr0];exact(hN.env n).mono hle,by rw[hr0];exact hps,by rw[hr0];exact⟨rfl,rfl⟩⟩)
  (by
   intro e' ps' x y st hl r hr;rw[hL]at hr
   injection hr with hr;injection hr with hr;subst hr;injection hl with l1 l2 l3 l4 l5;subst l1 l2 l3 l4;rw[hLP,hr0];refine⟨?_,?_,hoo,by simpa only[h.size]using hpn⟩
   ·simp only[uN,h.size];exact hA
   ·simp only[uN,h.size];exact hB)
 have hargs:∀(j:Nat) x v,(X.Dq q ((s q).g+1)::cs)[j]?=some x->(#[Value.func (.yield (w.heap.size+1)) #[] #[]]++us)[j]?=some v->aZ (aU (upd μ q (w.heap.size+1)) (aN s q (.lp e ps ca cb .ready)) w1 sh fr) x v:=by
  intro j x v hx hvj;cases j with
  | zero=>
   rw[Array.getElem?_append_left (by simp)]at hvj
   simp at hx hvj;subst hx hvj;exact .Dq (by omega) (by simp[aU,aN,upd_same]) (fun _=>by simp[aU,upd_same]) rfl
  | succ j=>
   simp only[List.getElem?_cons_succ]at hx;rw[Array.getElem?_append_right (by simp)]at hvj
   exact((hr' j x v hx (by simpa using hvj)).mono hleN).mono hleA
 have hcall:=hI.1 f (X.Dq q ((s q).g+1)::cs) (aN s q (.lp e ps ca cb .ready)) z1 s2 hc hA1 hLP (#[.func (.yield (w.heap.size+1)) #[] #[]]++us) (by rw[Array.size_append,List.length_cons,hl'];simp;omega) hargs;refine⟨w.heap.size+1,[KH w.heap.size],w1,{target:=.fn (.func f) us,args:=#[.func (.yield (w.heap.size+1)) #[] #[]]},w1,f,#[.func (.yield (w.heap.size+1)) #[] #[]]++us,w1,?_,?_,?_,?_,?_,?_⟩
 ·rw[<-hw1,hr0];exact run_enterLoop_outer _ _ _ _ _
 ·simp only[resolve,hv];simp[go_sem]
 ·exact fun f' _=>OI none f'
 ·simp[invoke,callFunc,hfn,hf.2,hbody]
 ·exact rC
 ·refine ny (hcall.mono ?_);rintro e' w' ⟨v,μ',fr',rfl,hI2,_,hLe⟩;have hγ1:(aU (upd μ q (w.heap.size+1)) (aN s q (.lp e ps ca cb .ready)) w1 sh fr).γ q=(s q).g+1:=by simp[aU,aN,upd_same]
  have same:(s2 q).g=(s q).g+1->μ' q=w.heap.size+1:=by intro hg2;have:=(hLe.μ q (by rw[hγ1];omega) (by rw[hγ1];exact hg2)).1;simpa[aU,upd_same]using this
  simp only[ZM]at hr;split at hr
  ·rename_i ho;split at hr
   case isFalse=>simp at hr
   rename_i hcnd;simp only[aW,bK]at hr;obtain⟨rfl,rfl⟩:=hr;obtain⟨r2,hr2,_,_,hst⟩:=(hI2.obj q _ ho).1;simp only[aU]at hr2;have hend:=run_endLoop (P:=P) hr2 (by rw[hst.1];simp);rw[hst.2]at hend
   have hfin:=hQ _ _ _ _ (hI2.R3 ho hr2 {r2 with state:=.exhausted,pending:=none});rw[same hcnd.1]at hend hfin
   exact⟨none,_,hend,hfin⟩
  ·rename_i jj ho;split at hr
   case isFalse=>simp at hr
   rename_i hcnd;simp only[aW,bK]at hr;obtain⟨rfl,rfl⟩:=hr;obtain⟨r2,hr2,_,_,hst⟩:=(hI2.obj q _ ho).1;simp only[aU]at hr2;have hend:=run_endLoop (P:=P) hr2 (by rw[hst.1];simp);rw[hst.2]at hend
   have hfin:=hQ _ _ _ _ (hI2.R3 ho hr2 {r2 with state:=.exhausted,pending:=some (ZK jj)});rw[same hcnd.1]at hend hfin
   refine⟨some _,_,hend,?_⟩;cases jj with
   | none=>exact wpIn_ret hfin
   | some id=>exact wpIn_exit hfin
  ·simp at hr
end
section
variable {T:Nat->Option Fe} {w0:Bs} {sh:Nat->Prop} {nt:Nat} {x:Env×ax}
theorem AY(hC:TC T)(hm:P.follows .mixedOrders=true)(hF:∀f,(T f).isSome=true->lM P f=true)(hLP:w0.Bt=uN P){rq r:Option Nat}(hrr:rq=none->r=none) :
 ∀(n:Nat),(∀m,m<n->lV P T m/\om P T m)->∀ {c:Code} {ic:IC} {k:List It} {μ:Nat->Nat} {fr:Nat->Prop} {e:Env} {s:ax} {a:Act} {w:World},zQ P nt rq c ic=true->
 Inv w0 sh nt μ fr e s a w->runN T n (.code ic::k) e s=some x->c.wpIn (rF r) 0 P (Qk T w0 sh nt n k rq x) a w:=by
 intro n;induction n using Nat.strongRecOn with
 | _ n ih=>
  intro hT c ic k μ fr e s a w hok h hr;cases n with
  | zero=>simp[runN]at hr
  | succ n=>
   have ih':∀ {m},m<=n->∀ {c:Code} {ic:IC} {k:List It} {μ:Nat->Nat} {fr:Nat->Prop} {e:Env} {s:ax} {a:Act} {w:World},zQ P nt rq c ic=true->
    Inv w0 sh nt μ fr e s a w->runN T m (.code ic::k) e s=some x->c.wpIn (rF r) 0 P (Qk T w0 sh nt m k rq x) a w:=
    fun hmn=>ih _ (by omega) (fun q hq=>hT q (by omega))
   unfold zQ at hok;split at hok
   ·simp only[runN]at hr;exact wpIn_skip ⟨n,by omega,μ,fr,e,s,h,hr⟩
   ·simp only[runN]at hr;exact wpIn_label ⟨n,by omega,μ,fr,e,s,h,hr⟩
   ·simp only[runN,aW]at hr;subst hr;exact wpIn_ret (.inl ⟨rfl,μ,fr,h⟩)
   ·rename_i q q';simp only[beq_iff_eq]at hok;subst hok;simp only[runN]at hr;split at hr
    case h_2=>simp at hr
    rename_i s' hs';simp only[aW]at hr;subst hr;exact wpIn_ret (.inr ⟨_,μ,fr,s,rfl,h,hs'⟩)
   ·simp only[beq_iff_eq]at hok;subst hok;simp only[runN]at hr;split at hr
    case h_2=>simp at hr
    rename_i k' hk;exact wpIn_exit (.inl ⟨k',n,hk,by omega,μ,fr,e,s,h,hr⟩)
   ·simp only[bN,beq_iff_eq]at hok;obtain⟨rfl,rfl⟩:=hok;simp only[runN]at hr;split at hr
    case h_2=>simp at hr
    rename_i s' hk hs';simp only[aW]at hr;subst hr;exact wpIn_exit (.inr ⟨_,μ,fr,s,rfl,hk,h,hs'⟩)
   ·rename_i a1 b1 a2 b2;simp only[bN]at hok;simp only[runN]at hr;refine wpIn_seq (Code.wpIn_mono ?_ (ih' (Nat.le_refl n) hok.1 h hr));intro ex a' w' hq;cases ex with
    | normal=>
     obtain⟨m,hmn,μ',fr',e',s',h',hr'⟩:=hq;exact Code.wpIn_mono (fun ex a' w' hq=>hq.mono (by omega)) (ih' (by omega) hok.2 h' hr')
    | exit id=>
     rcases hq with⟨k',m,hk,hmn,hrest⟩|⟨q,μ',fr',s',h1,h2,h3⟩
     ·exact .inl ⟨k',m,by simpa[bS]using hk,by omega,hrest⟩
     ·exact .inr ⟨q,μ',fr',s',h1,by simpa[bS]using h2,h3⟩
    | ret=>exact hq
    | _=>exact hq
   ·simp only[bN]at hok;obtain⟨⟨hc,h1⟩,h2⟩:=hok;simp only[runN]at hr;split at hr
    case h_2=>simp at hr
    rename_i t hv;have hrep:=aD h.env hc;rw[hv]at hrep
    have hev:=(iP hrep).1;cases t with
    | true=>exact wpIn_cond_true hev (Code.wpIn_mono (fun ex a' w' hq=>hq.mono (by omega)) (ih' (Nat.le_refl n) h1 h hr))
    | false=>exact wpIn_cond_false hev (Code.wpIn_mono (fun ex a' w' hq=>hq.mono (by omega)) (ih' (Nat.le_refl n) h2 h hr))
   ·rename_i i c1 j c2;simp only[bN,beq_iff_eq]at hok;obtain⟨rfl,hok⟩:=hok;simp only[runN]at hr;refine wpIn_block (Code.wpIn_mono ?_ (ih' (Nat.le_refl n) hok h hr));intro ex a' w' hq;cases ex with
    | normal=>
     obtain⟨m,hmn,μ',fr',e',s',h',hr'⟩:=hq;cases m with
     | zero=>simp[runN]at hr'
     | succ m=>exact⟨m,by omega,μ',fr',e',s',h',by simpa only[runN]using hr'⟩
    | exit id=>
     simp only[Exit.inBlock];by_cases hid:id=i
     ·subst hid;rcases hq with⟨k',m,hk,hmn,hrest⟩|⟨q,μ',fr',s',h1,h2,h3⟩
      ·simp only[bS,beq_self_eq_true,if_true,aW]at hk;subst hk;rw[if_pos rfl];exact⟨m,by omega,hrest⟩
      ·simp[bS]at h2
     ·rw[if_neg hid];have:(id==i)=false:=by simpa using hid
      have h2:(i==id)=false:=by simpa using fun h=>hid h.symm
      rcases hq with⟨k',m,hk,hmn,hrest⟩|⟨q,μ',fr',s',h1,h2',h3⟩
      ·exact .inl ⟨k',m,by simpa[bS,this,h2]using hk,by omega,hrest⟩
      ·exact .inr ⟨q,μ',fr',s',h1,by simpa[bS,this,h2]using h2',h3⟩
    | ret=>exact hq
    | _=>exact hq
   ·rename_i c1 c2;simp only[runN]at hr;refine Rc (fun m a w=>m<=n/\∃μ fr e s,Inv w0 sh nt μ fr e s a w/\runN T m (.code c2::.lp c2::k) e s=some x) ⟨Nat.le_refl n,μ,fr,e,s,h,hr⟩ ?_;rintro m a w ⟨hmn,μ,fr,e,s,h,hr⟩;refine Code.wpIn_mono ?_ (ih' hmn hok h hr);intro ex a' w' hq;cases ex with
    | normal=>
     obtain⟨m',hm',μ',fr',e',s',h',hr'⟩:=hq;cases m' with
     | zero=>simp[runN]at hr'
     | succ m'=>exact⟨m',by omega,by omega,μ',fr',e',s',h',by simpa only[runN]using hr'⟩
    | exit id=>
     rcases hq with⟨k',m',hk,hmn',hrest⟩|⟨q,μ',fr',s',h1,h2,h3⟩
     ·exact .inl ⟨k',m',by simpa[bS]using hk,by omega,hrest⟩
     ·exact .inr ⟨q,μ',fr',s',h1,by simpa[bS]using h2,h3⟩
    | ret=>exact hq
    | _=>exact hq
   ·simp only[runN]at hr;refine tH (Code.wpIn_mono ?_ (ih' (Nat.le_refl n) hok h hr));intro ex a' w' hq;cases ex with
    | goto=>exact hq
    | _=>exact Qk.mono (Nat.le_succ n) hq
   ·simp only[runN]at hr;exact wpIn_region_list (Td hLP hF hok (by omega) hT h hr)
   ·rename_i ops ch js l m;simp only[bN]at hok;have hD:=Ij hok.2;simp only[runN]at hr;obtain⟨xs,ss,hs0,hxs,c,hcn,hr'⟩:=Mq (N:=n+1) hD (Nat.le_succ n) hr l.length (Nat.le_refl _);rw[List.drop_length]at hr'
    cases c with
    | zero=>simp[runN]at hr'
    | succ c=>
    simp only[runN]at hr';cases c with
    | zero=>simp[runN]at hr'
    | succ c=>
    simp only[runN]at hr';split at hr'
    case isFalse=>simp at hr'
    rename_i hchk;simp only[vJ,bN,oH,beq_iff_eq]at hchk;obtain⟨hch,hjs⟩:=hchk;have hnone:∀j,¬(Array.replicate ops.size false).getD j true=true\/ops.size<=j:=by
     intro j;by_cases hj:j<ops.size
     ·left;simp[mq,hj]
     ·right;omega
    refine wpIn_region_any hm (RZ hLP hC hF hT hD hok.1 hxs (fun t ht o ho=>by rw[hs0];exact hch t ht o ho) ?_ (n:=c) (by omega) (by rw[List.drop_left];exact hr') (by simp) ?_ ?_ ?_ (?_:Inv w0 sh nt μ fr _ _ a _))
    ·intro j g d hj hjp hg hd;rw[List.getElem?_append_left hjp]at hg
     have:=hjs g (List.mem_filterMap.2 ⟨j,hj,hg⟩);rw[hd,hs0.symm]at this
     split at this
     ·rename_i d' x1 s1 y1 s2 e0 e1 e2;injection e0 with e0;subst e0;simp only[bN]at this;exact⟨x1,y1,s1,s2,e1,e2,JJ this.1,JJ this.2⟩
     ·simp at this
    ·rw[Array.count_replicate_self];exact Nat.le_refl _
    ·intro j hj hq;rcases hnone j with h1|h1
     ·exact absurd hq h1
     ·have:=hD.size;omega
    ·intro i j h1;exfalso;by_cases hi:i<ops.size<;>simp[mq,hi]at h1
    ·rw[qJ (L':=fun _=>False) (fun j hj=>⟨fun hq=>by
      rcases hnone j with h1|h1
      ·exact h1 hq
      ·have:=hD.size;omega,fun h=>h.elim⟩) hD,DU (fun _ h=>h)]
     have:SL ss (fun j=>(Array.replicate ops.size false).getD j true=true) l.length=s:=by
      funext o;rw[ji (i:=0) (fun j hj _=>⟨fun hq=>by
       rcases hnone j with h1|h1
       ·exact absurd hq h1
       ·have:=hD.size;simp at this;omega,fun h=>absurd h (Nat.not_lt_zero j)⟩),Nat.min_zero,hs0]
     rw[this];exact h.drew
   ·rename_i g psO cA cB q g' ps' ca cb;simp only[bN,beq_iff_eq]at hok;obtain⟨⟨⟨⟨⟨o1,o2⟩,o6⟩,o3⟩,o4⟩,o5⟩:=hok;have o6:∀p∈ps',p<nt:=fun p hp=>of_decide_eq_true (List.all_eq_true.1 o6 p hp)
    obtain rfl:=hrr rfl;simp only[runN]at hr;cases hrg:n_ (runN T n) T q (g'.ev e) ps' ca cb e s with
    | none=>rw[hrg]at hr;simp at hr
    | some y=>
    obtain⟨j,s'⟩:=y;rw[hrg]at hr
    refine QL h hLP (hT n (by omega)).2 hF o1 o2 o6 o3 o4 o5 hrg (fun a1 w1 μ' fr' hI=>?_);rcases j with _|_|id
    ·exact⟨n,by omega,μ',fr',e,s',hI,hr⟩
    ·simp only[aW]at hr;subst hr;exact .inl ⟨rfl,μ',fr',hI⟩
    ·simp only at hr;split at hr
     case h_2=>simp at hr
     rename_i k' hk;exact .inl ⟨k',n,hk,by omega,μ',fr',e,s',hI,hr⟩
   ·simp at hok
end
def gy(P:Program):List ResultVar->List gQ->Bool
 | [],[]=>true
 | .tmp t::l,.tmp t'::m=>t==t'&&gy P l m
 | .tmp t::l,.WZ t'::m=>t==t'&&gy P l m
 | .cell a t::l,.cell a' w ag::m=>a==a'&&nC P t w&&jX P t ag&&gy P l m
 | _,_=>false
def xP(P:Program)(f nt:Nat)(res:List gQ)(body:IC):Bool:=match P.funcs[f]? with
 | some fn=>(match fn.body with
  | some c=>zQ P nt none c body
  | none=>false)&&fn.ntmps==nt&&gy P fn.results.toList res
 | none=>false
theorem Sem.run_pure{α:Type}{P:Program}{w:World}(x:α):(pure x:Sem α).run P w=.ok x w:=rfl
def LH(tmps:Array Value):ResultVar->Sem Value
 | .tmp t=>pure (tmps.getD t undef)
 | .cell a t=>do loadVar t (<-asAddr (tmps.getD a undef))
def tupV:List Value->Value
 | [v]=>v
 | vs=>.tuple vs.toArray
theorem Co(fn:Func)(tmps:Array Value):results fn tmps=(do
 let vs <-fn.results.toList.mapM (LH tmps)
 pure (tupV vs)):=by
 unfold results;rw[Array.mapM_eq_mapM_toList];simp only[map_eq_pure_bind,bind_assoc,pure_bind];congr 1;congr 1;funext vs;rcases vs with _|⟨v,_|⟨u,vs⟩⟩
 ·rfl
 ·rfl
 ·rfl
section
variable {w0:Bs} {sh:Nat->Prop} {nt:Nat} {μ:Nat->Nat} {fr:Nat->Prop} {e:Env} {s:ax} {a:Act} {w:World}
theorem U9(h:Inv w0 sh nt μ fr e s a w)(N:List Nat) :
 ∀ {l:List ResultVar} {m:List gQ} {xs:List X},gy P l m=true->uU e s m=some xs->(∀o∈xX e s m,o∈N)->
 ∃vs,(l.mapM (LH a.tmps)).run P w=.ok vs w/\xs.length=vs.length/\∀(j:Nat) y v,xs[j]?=some y->vs[j]?=some v->aZ (xH μ s w sh fr N) y v/\y.deep=true:=by
 intro l;induction l with
 | nil=>
  intro m xs hok hr _;cases m with
  | cons=>simp[gy]at hok
  | nil=>
   simp only[uU,aW]at hr;subst hr;exact⟨[],rfl,rfl,by simp⟩
 | cons r l ih=>
  intro m xs hok hr hN;cases m with
  | nil=>cases r<;>simp[gy]at hok
  | cons q m=>
   simp only[uU]at hr;split at hr
   case h_2=>simp at hr
   rename_i y ys hy hys;injection hr with hr;subst hr;have one:∃v,(LH a.tmps r).run P w=.ok v w/\aZ (xH μ s w sh fr N) y v/\y.deep=true:=by
    cases r with
    | tmp t=>
     cases q with
     | cell=>simp[gy]at hok
     | tmp t'=>
      simp only[gy,bN,beq_iff_eq]at hok;obtain⟨rfl,_⟩:=hok;exact⟨_,rfl,h.nI (h.env t) (by simpa[zx]using hy) (fun o ho=>hN o (by simp[xX,ho]))⟩
     | WZ t'=>
      simp only[gy,bN,beq_iff_eq]at hok;obtain⟨rfl,_⟩:=hok;exact⟨_,rfl,h.RY (h.env t) (by simpa[zx]using hy) (fun o ho=>hN o (by simp[xX,ho]))⟩
    | cell t ty=>
     cases q with
     | tmp=>simp[gy]at hok
     | WZ=>simp[gy]at hok
     | cell t' k ag=>
      simp only[gy,bN,beq_iff_eq]at hok;obtain⟨⟨⟨rfl,h1⟩,h2⟩,_⟩:=hok;simp only[zx]at hy;split at hy
      case h_2=>simp at hy
      rename_i z hz;obtain⟨ad,u,hv,hu,hu'⟩:=EY (P:=P) h (h.env t) hz h1 h2;refine⟨u,?_,h.nI hu' hy (fun o ho=>hN o (by simp[xX,hz,ho]))⟩;simp[LH,hv,asAddr,hu]
   obtain⟨v,hv,hrep⟩:=one;obtain⟨vs,h1,h2,h3⟩:=ih (m:=m) (by cases r<;>cases q<;>simp[gy]at hok<;>first|exact hok.2|(simp[gy,hok])) hys (fun o ho=>hN o (by cases q<;>simp[xX,ho]))
   refine⟨v::vs,?_,by simp[h2],?_⟩
   ·simp[hv,h1]
   ·intro j y' v' hj hv';cases j with
    | zero=>simp at hj hv';subst hj;subst hv';exact hrep
    | succ j=>exact h3 j y' v' (by simpa using hj) (by simpa using hv')
theorem JD(h:Inv w0 sh nt μ fr e s a w){fn:Func}{m:List gQ}{r:X}(hok:gy P fn.results.toList m=true)(hr:aC e s m=some r) :
 ∃v,(results fn a.tmps).run P w=.ok v w/\aZ (xH μ s w sh fr (xX e s m)) r v/\r.deep=true:=by
 have hl:∃xs,uU e s m=some xs/\(match xs with
  | [x]=>x
  | xs=>X.cZ xs)=r/\xs.length=m.length:=by
  unfold aC at hr;split at hr
  ·exact⟨[r],by simp[uU,hr],rfl,rfl⟩
  ·rename_i hne;split at hr
   case h_2=>simp at hr
   rename_i xs hxs;injection hr with hr;have hlen:xs.length=m.length:=by
    clear hok hne hr h;induction m generalizing xs with
    | nil=>simp only[uU,aW]at hxs;subst hxs;rfl
    | cons q m ih=>
     simp only[uU]at hxs;split at hxs
     case h_2=>simp at hxs
     rename_i hm;injection hxs with hxs;subst hxs;simp[ih _ hm]
   refine⟨xs,hxs,?_,hlen⟩;rcases xs with _|⟨x,_|⟨y,xs⟩⟩
   ·exact hr
   ·rcases m with _|⟨q,_|⟨q',m⟩⟩
    ·simp at hlen
    ·exact absurd rfl (hne q)
    ·simp at hlen
   ·exact hr
 obtain⟨xs,hxs,hx,_⟩:=hl;obtain⟨vs,h1,h2,h3⟩:=U9 h (xX e s m) hok hxs (fun _ h=>h);refine⟨tupV vs,?_,?_⟩
 ·rw[Co];simp only[Sem.run_bind,h1];rfl
 ·rcases xs with _|⟨x,_|⟨y,xs⟩⟩
  ·rcases vs with _|⟨v,vs⟩
   ·simp only at hx;subst hx;exact⟨.cZ rfl (by simp),rfl⟩
   ·simp at h2
  ·rcases vs with _|⟨v,_|⟨u,vs⟩⟩
   ·simp at h2
   ·simp only at hx;subst hx;exact h3 0 x v rfl rfl
   ·simp at h2
  ·rcases vs with _|⟨v,_|⟨u,vs⟩⟩
   ·simp at h2
   ·simp at h2
   ·simp only at hx;subst hx;refine⟨.cZ (by simpa using h2) ?_,?_⟩
    ·intro j c v' hj hv';exact(h3 j c v' hj (by simpa using hv')).1
    ·simp only[X.deep];refine bf.2 fun c hc=>?_;obtain⟨j,hj⟩:=List.getElem?_of_mem hc;have hjl:j<(v::u::vs).length:=by have:=(List.getElem?_eq_some_iff.1 hj).1;omega
     exact(h3 j c _ hj (List.getElem?_eq_getElem hjl)).2
end
section
variable {w0:Bs} {sh:Nat->Prop} {nt:Nat} {μ:Nat->Nat} {fr:Nat->Prop} {e:Env} {s:ax} {a:Act} {w:World}
theorem QJ(h:Inv w0 sh nt μ fr e s a w) :
 ∀ {l:List ResultVar} {m:List gQ} {xs:List X},gy P l m=true->bV e s m=some xs->
 ∃vs,(l.mapM (LH a.tmps)).run P w=.ok vs w/\xs.length=vs.length/\∀(j:Nat) y v,xs[j]?=some y->vs[j]?=some v->aZ (aU μ s w sh fr) y v:=by
 intro l;induction l with
 | nil=>
  intro m xs hok hr;cases m with
  | cons=>simp[gy]at hok
  | nil=>
   simp only[bV,aW]at hr;subst hr;exact⟨[],rfl,rfl,by simp⟩
 | cons r l ih=>
  intro m xs hok hr;cases m with
  | nil=>cases r<;>simp[gy]at hok
  | cons q m=>
   simp only[bV]at hr;split at hr
   case h_2=>simp at hr
   rename_i y ys hy hys;injection hr with hr;subst hr;have one:∃v,(LH a.tmps r).run P w=.ok v w/\aZ (aU μ s w sh fr) y v:=by
    cases r with
    | tmp t=>
     cases q with
     | cell=>simp[gy]at hok
     | tmp t'=>
      simp only[gy,bN,beq_iff_eq]at hok;obtain⟨rfl,_⟩:=hok;simp only[dZ,aW]at hy;subst hy;exact⟨_,rfl,h.env t⟩
     | WZ t'=>
      simp only[gy,bN,beq_iff_eq]at hok;obtain⟨rfl,_⟩:=hok;simp only[dZ,aW]at hy;subst hy;exact⟨_,rfl,h.env t⟩
    | cell t ty=>
     cases q with
     | tmp=>simp[gy]at hok
     | WZ=>simp[gy]at hok
     | cell t' k ag=>
      simp only[gy,bN,beq_iff_eq]at hok;obtain⟨⟨⟨rfl,h1⟩,h2⟩,_⟩:=hok;simp only[dZ]at hy;obtain⟨ad,u,hv,hu,hu'⟩:=EY (P:=P) h (h.env t) hy h1 h2;exact⟨u,by simp[LH,hv,asAddr,hu],hu'⟩
   obtain⟨v,hv,hrep⟩:=one;obtain⟨vs,h1,h2,h3⟩:=ih (m:=m) (by cases r<;>cases q<;>simp[gy]at hok<;>first|exact hok.2|(simp[gy,hok])) hys
   refine⟨v::vs,?_,by simp[h2],?_⟩
   ·simp[hv,h1]
   ·intro j y' v' hj hv';cases j with
    | zero=>simp at hj hv';subst hj;subst hv';exact hrep
    | succ j=>exact h3 j y' v' (by simpa using hj) (by simpa using hv')
theorem Cn(h:Inv w0 sh nt μ fr e s a w){fn:Func}{m:List gQ}{r:X}(hok:gy P fn.results.toList m=true)(hr:dX e s m=some r) :
 ∃v,(results fn a.tmps).run P w=.ok v w/\aZ (aU μ s w sh fr) r v:=by
 have hl:∃xs,bV e s m=some xs/\(match xs with
  | [x]=>x
  | xs=>X.cZ xs)=r/\xs.length=m.length:=by
  unfold dX at hr;split at hr
  ·exact⟨[r],by simp[bV,hr],rfl,rfl⟩
  ·rename_i hne;split at hr
   case h_2=>simp at hr
   rename_i xs hxs;injection hr with hr;have hlen:xs.length=m.length:=by
    clear hok hne hr h;induction m generalizing xs with
    | nil=>simp only[bV,aW]at hxs;subst hxs;rfl
    | cons q m ih=>
     simp only[bV]at hxs;split at hxs
     case h_2=>simp at hxs
     rename_i hm;injection hxs with hxs;subst hxs;simp[ih _ hm]
   refine⟨xs,hxs,?_,hlen⟩;rcases xs with _|⟨x,_|⟨y,xs⟩⟩
   ·exact hr
   ·rcases m with _|⟨q,_|⟨q',m⟩⟩
    ·simp at hlen
    ·exact absurd rfl (hne q)
    ·simp at hlen
   ·exact hr
 obtain⟨xs,hxs,hx,_⟩:=hl;obtain⟨vs,h1,h2,h3⟩:=QJ h hok hxs;refine⟨tupV vs,?_,?_⟩
 ·rw[Co];simp only[Sem.run_bind,h1];rfl
 ·rcases xs with _|⟨x,_|⟨y,xs⟩⟩
  ·rcases vs with _|⟨v,vs⟩
   ·simp only at hx;subst hx;exact .cZ rfl (by simp)
   ·simp at h2
  ·rcases vs with _|⟨v,_|⟨u,vs⟩⟩
   ·simp at h2
   ·simp only at hx;subst hx;exact h3 0 x v rfl rfl
   ·simp at h2
  ·rcases vs with _|⟨v,_|⟨u,vs⟩⟩
   ·simp at h2
   ·simp at h2
   ·simp only at hx;subst hx;refine .cZ (by simpa using h2) ?_;intro j c v' hj hv';exact h3 j c v' hj (by simpa using hv')
end
theorem EO{C:Cx}{xs:List X}{vs:Array Value}{k:Nat}(hl:xs.length=vs.size)(hv:∀(j:Nat) x v,xs[j]?=some x->vs[j]?=some v->aZ C x v) :
 ve C (bG xs) {tmps:=vs++Array.replicate k undef,defers:=[]}:=by
 intro j;by_cases hj:j<xs.length
 ·have hjv:j<vs.size:=by omega
  have:=hv j xs[j] vs[j] (List.getElem?_eq_getElem hj) (kF hjv);simp only[bG,List.getD_eq_getElem?_getD,List.getElem?_eq_getElem hj,Option.getD_some];simp only[mq,Array.getElem?_append_left hjv,kF hjv,Option.getD_some];exact this
 ·simp only[bG,List.getD_eq_getElem?_getD,List.getElem?_eq_none (Nat.le_of_not_lt hj),Option.getD_none];exact .junk
theorem mR{T:Nat->Option Fe}(hC:TC T)(hm:P.follows .mixedOrders=true)(hF:∀f,(T f).isSome=true->lM P f=true){n:Nat}(hT:∀m,m<n->lV P T m/\om P T m){w0:Bs}(hLP:w0.Bt=uN P){sh:Nat->Prop}{nt:Nat}
 {f:Nat} {fn:Func} {c:Code} {body:IC} (hfn:P.funcs[f]?=some fn) (hbody:fn.body=some c) (hb:zQ P nt none c body=true) {e0 e:Env} {s1 s:ax} {vs:Array Value} {μ:Nat->Nat} {fr:Nat->Prop} {w:World} (hr:runN T n [.code body] e0 s1=some (e,s))
 (hinv:Inv w0 sh nt μ fr e0 s1 {tmps:=vs++Array.replicate (fn.ntmps-vs.size) undef,defers:=[]} w) {R:Ending->World->Prop}
 (fin:∀a' w' μ' fr',Inv w0 sh nt μ' fr' e s a' w'->∃v,(results fn a'.tmps).run P w'=.ok v w'/\R (.returned v) w'):Calls P f vs w R:=by
 refine callsIn_wide.1 (callsIn_of_wp_marks (F:=Fence.wide) (n:=0) hfn hbody trivial (Code.wpIn_mono ?_ (AY (x:=(e,s)) (rq:=none) (r:=none) hC hm hF hLP (fun _=>rfl) n hT hb hinv hr)) rfl);have fin':∀ {a' w' μ' fr'},Inv w0 sh nt μ' fr' e s a' w'->LeavesInM Fence.wide 0 P fn a'.tmps R a'.defers .returning w':=by intro a' w' μ' fr' h;obtain⟨ds,d1,_,_⟩:=h.defers.ds;exact IU ds d1 h (fun w'' h'=>fin {a' with defers:=[]} w'' μ' fr' h')
 intro ex a' w' hq;cases ex with
 | normal=>
  obtain⟨m,hmn,μ,fr,e',s',h,hr'⟩:=hq;cases m with
  | zero=>simp[runN]at hr'
  | succ m=>
   simp only[runN,aW,bK]at hr';obtain⟨rfl,rfl⟩:=hr';exact fin' h
 | ret=>
  rcases hq with⟨_,μ,fr,h⟩|⟨q,_,_,_,hq,_⟩
  ·exact fin' h
  ·cases hq
 | exit id=>
  rcases hq with⟨k',m,hk,_⟩|⟨q,_,_,_,hq,_⟩
  ·simp[bS]at hk
  ·cases hq
 | _=>exact hq.elim
theorem QK{T:Nat->Option Fe}(hC:TC T)(hm:P.follows .mixedOrders=true)(hF:∀f,(T f).isSome=true->lM P f=true){n:Nat}(ih:∀m,m<n->lV P T m/\om P T m){q g:Nat}{l:List X}{s s':ax}{x:X}(hy:gZ (runN T n) q g l s=some (x,s')):Zq P q g l s x s':=by
 intro w0 sh nt μ fr e a w h hLP hg1 vs hl hv;unfold gZ at hy;split at hy
 case h_2=>simp at hy
 rename_i e0 ps ca cb ho;split at hy
 case isFalse=>simp at hy
 rename_i hcond;obtain⟨hgq,hwr,hlen⟩:=hcond;cases hr:runN T n [.code ca,.Ri q g,.code cb,.Rj q g] (puts e0 ps l) s with
 | none=>rw[hr]at hy;simp[Dm]at hy
 | some z=>
 obtain⟨e1,s1⟩:=z;rw[hr]at hy
 obtain⟨⟨rc,hrc,henv,hps,hst⟩,hge,_⟩:=h.obj q _ ho;simp only[aU]at hrc;have hlp:=h.defers.KG q _ ho _ _ _ _ _ rfl rc hrc;rw[hLP]at hlp
 obtain⟨oA,oB,oo,opn⟩:=hlp;obtain⟨ds,d1,d2,d3⟩:=h.defers.ds;have hpl:ps.length=rc.params.size:=by rw[<-hps];simp
 have hsz:vs.size=rc.params.size:=by omega
 refine⟨hgq,rc.fn,_,rc.assign,rc.body,run_yield hrc hsz,roundIn_of_wpIn (F:=Fence.wide) trivial ?_⟩;have htm:(rc.params.zip vs).foldl (fun tmps (t,a)=>tmps.setIfInBounds t a) rc.tmps=(ps.zip vs.toList).foldl (fun t p=>t.setIfInBounds p.1 p.2) rc.tmps:=by rw[<-Array.foldl_toList,Array.toList_zip,hps]
 obtain⟨hE,hS⟩:=Tw (C:=aU μ s w sh fr) (tm:=rc.tmps) (e:=e0) ps l vs.toList opn (by simpa using hl) (fun j x v hx hv'=>hv j x v hx (by simpa using hv')) henv;rw[htm];have hI0:Inv ⟨w0.toWorld,aU μ s w sh fr,w0.JY,ds++w0.keep,w0.Bt⟩ sh rc.tmps.size μ fr (puts e0 ps l) s {tmps:=(ps.zip vs.toList).foldl (fun t p=>t.setIfInBounds p.1 p.2) rc.tmps,defers:=[]} w:=
  ⟨h.below,h.kD,h.iF,h.obj,h.inj,hE,⟨⟨[],rfl,by simpa using d2,by simpa using d3⟩,h.defers.KG⟩,hS,Cx.Le.refl _⟩
 have after:∀m μ1 fr1 eA sA a1 wA,m<n->Inv ⟨w0.toWorld,aU μ s w sh fr,w0.JY,ds++w0.keep,w0.Bt⟩ sh rc.tmps.size μ1 fr1 eA sA a1 wA->runN T m [.Ri q g,.code cb,.Rj q g] eA sA=some (e1,s1)->
  Exit.then (fun a₁ w₁=>∃w₂,(Instr.beginRound (μ q)).run P w₁=.ok () w₂/\rc.body.wpIn (Fence.wide.inRound (μ q)) 0 P (roundPost P (μ q) (fun e' w'=>∃v μ' fr',e'=.returned v/\Inv w0 sh nt μ' fr' e s' a w'/\aZ (aU μ' s' w' sh fr') x v)) a₁ w₂) (fun _ _ _=>False) .normal a1 wA:=by
  intro m μ1 fr1 eA sA a1 wA hmn hIA hrA;cases m with
  | zero=>simp[runN]at hrA
  | succ m=>
  simp only[runN]at hrA;split at hrA
  case h_2=>simp at hrA
  rename_i sB hB;unfold J6 at hB;split at hB
  case h_2=>simp at hB
  rename_i eL psL caL cbL hoA;split at hB
  case isFalse=>simp at hB
  rename_i hcA;simp only[aW]at hB;subst hB;have hμ1:μ1 q=μ q:=(hIA.base.μ q (by simp only[aU];omega) (by simp only[aU];omega)).1;obtain⟨rA,hrA1,_,_,hstA⟩:=(hIA.obj q _ hoA).1;simp only[aU]at hrA1;have hbg:=run_beginRound (P:=P) hrA1 hstA.1;have hIB:=hIA.OM (st':=.busy) (r':={rA with state:=.busy}) hoA hcA.2 hrA1 rfl rfl rfl rfl rfl;rw[hμ1]at hbg hIB
  refine⟨_,hbg,?_⟩;have hbody:=AY (w0:=⟨w0.toWorld,aU μ s w sh fr,w0.JY,ds++w0.keep,w0.Bt⟩) (x:=(e1,s1)) (rq:=some q) (r:=some (μ q)) hC hm hF hLP (fun hq=>by cases hq) m (fun k hk=>ih k (by omega)) oB hIB hrA;refine Code.wpIn_mono ?_ hbody;intro ex a2 wB hq;cases ex with
  | normal=>
   obtain⟨m2,_,μ2,fr2,eB,sB,hI2,hrB⟩:=hq;cases m2 with
   | zero=>simp[runN]at hrB
   | succ m2=>
   simp only[runN]at hrB;split at hrB
   case h_2=>simp at hrB
   rename_i sC hC';simp only[aW,bK]at hrB;obtain⟨rfl,rfl⟩:=hrB;unfold Kz at hC';split at hC'
   case h_2=>simp at hC'
   rename_i e2 ps2 ca2 cb2 ho2;split at hC'
   case isFalse=>simp at hC'
   rename_i hc2;simp only[aW]at hC';subst hC';have hμ2:μ2 q=μ q:=(hI2.base.μ q (by simp only[aU];omega) (by simp only[aU];omega)).1;obtain⟨r2,hr2,_,_,hst2⟩:=(hI2.obj q _ ho2).1;simp only[aU]at hr2;have hend:=run_endRound (P:=P) none hr2;simp only[Option.isNone_none,if_true]at hend;have hI3:=hI2.OM (st':=.ready) (r':={r2 with state:=.ready,pending:=none}) ho2 hc2.2 hr2 rfl rfl rfl rfl ⟨rfl,rfl⟩;have hq2:bF sB q (.lp e2 ps2 ca2 cb2 .ready) q=⟨(sB q).g,true,some (.lp e2 ps2 ca2 cb2 .ready),(sB q).n+1⟩:=by simp[bF,upd_same]
   simp only[Dm,hq2]at hy;rw[if_pos ⟨hc2.1,trivial⟩]at hy
   simp only[aW,bK]at hy;obtain⟨rfl,rfl⟩:=hy;obtain⟨hb1,_⟩:=h.back hI3 d1 d2;rw[hμ2]at hend hb1
   exact⟨_,_,hend,.bool true,_,_,rfl,hb1,.v rfl⟩
  | ret=>
   rcases hq with⟨hq,_⟩|⟨q',μ2,fr2,sB,hq',hI2,hen⟩
   ·cases hq
   ·cases hq';unfold zq at hen;split at hen
    case h_2=>simp at hen
    rename_i e2 ps2 ca2 cb2 ho2;split at hen
    case isFalse=>simp at hen
    rename_i hw2;simp only[aW]at hen;subst hen;have hq2:bF sB q (.lp e2 ps2 ca2 cb2 (.done none)) q=⟨(sB q).g,true,some (.lp e2 ps2 ca2 cb2 (.done none)),(sB q).n+1⟩:=by simp[bF,upd_same]
    simp only[Dm,hq2,and_true]at hy;split at hy
    case isFalse=>simp at hy
    rename_i hgB;simp only[aW,bK]at hy;obtain⟨rfl,rfl⟩:=hy;have hμ2:μ2 q=μ q:=(hI2.base.μ q (by simp only[aU];omega) (by simp only[aU];omega)).1;obtain⟨r2,hr2,_,_,hst2⟩:=(hI2.obj q _ ho2).1;simp only[aU]at hr2;have hend:=run_endRound (P:=P) (some .ret) hr2;simp only[Option.isNone_some,kG,if_false]at hend;have hI3:=hI2.OM (st':=.done none) (r':={r2 with state:=.done,pending:=some .ret}) ho2 hw2 hr2 rfl rfl rfl rfl ⟨rfl,rfl⟩;obtain⟨hb1,_⟩:=h.back hI3 d1 d2;rw[hμ2]at hend hb1
    exact⟨_,_,hend,.bool false,_,_,rfl,hb1,.v rfl⟩
  | exit id=>
   rcases hq with⟨k',m2,hk,_⟩|⟨q',μ2,fr2,sB,hq',_,hI2,hen⟩
   ·simp[bS]at hk
   ·cases hq';unfold zq at hen;split at hen
    case h_2=>simp at hen
    rename_i e2 ps2 ca2 cb2 ho2;split at hen
    case isFalse=>simp at hen
    rename_i hw2;simp only[aW]at hen;subst hen;have hq2:bF sB q (.lp e2 ps2 ca2 cb2 (.done (some id))) q=⟨(sB q).g,true,some (.lp e2 ps2 ca2 cb2 (.done (some id))),(sB q).n+1⟩:=by simp[bF,upd_same]
    simp only[Dm,hq2,and_true]at hy;split at hy
    case isFalse=>simp at hy
    rename_i hgB;simp only[aW,bK]at hy;obtain⟨rfl,rfl⟩:=hy;have hμ2:μ2 q=μ q:=(hI2.base.μ q (by simp only[aU];omega) (by simp only[aU];omega)).1;obtain⟨r2,hr2,_,_,hst2⟩:=(hI2.obj q _ ho2).1;simp only[aU]at hr2;have hend:=run_endRound (P:=P) (some (.exit id)) hr2;simp only[Option.isNone_some,kG,if_false]at hend;have hI3:=hI2.OM (st':=.done (some id)) (r':={r2 with state:=.done,pending:=some (.exit id)}) ho2 hw2 hr2 rfl rfl rfl rfl ⟨rfl,rfl⟩;obtain⟨hb1,_⟩:=h.back hI3 d1 d2;rw[hμ2]at hend hb1
    exact⟨_,_,hend,.bool false,_,_,rfl,hb1,.v rfl⟩
  | _=>exact hq.elim
 unfold zR at oo;split at oo
 ·rename_i gl;cases n with
  | zero=>simp[runN]at hr
  | succ n=>
  simp only[runN]at hr;have key:∀cA,zQ P rc.tmps.size (some q) cA (.ops gl)=true->cA.wpIn (Fence.wide.inRound (μ q)) 0 P (Exit.then (fun a₁ w₁=>∃w₂,(Instr.beginRound (μ q)).run P w₁=.ok () w₂/\rc.body.wpIn (Fence.wide.inRound (μ q)) 0 P (roundPost P (μ q) (fun e' w'=>∃v μ' fr',e'=.returned v/\Inv w0 sh nt μ' fr' e s' a w'/\aZ (aU μ' s' w' sh fr') x v)) a₁ w₂) (fun _ _ _=>False)) {tmps:=(ps.zip vs.toList).foldl (fun t p=>t.setIfInBounds p.1 p.2) rc.tmps,defers:=[]} w:=by
   intro cA hA;cases cA<;>try (simp[zQ]at hA;done)
   rename_i id ops dr;cases dr with
   | true=>simp[zQ]at hA
   | false=>
    have hA:wH P rc.tmps.size ops ops.toList gl=true:=by simpa[zQ]using hA
    exact wpIn_region_list (BI (w0:=⟨w0.toWorld,aU μ s w sh fr,w0.JY,ds++w0.keep,w0.Bt⟩) (r:=some (μ q)) (x:=(e1,s1)) hLP hF hA (Nat.le_succ n) ih (fun m μ1 fr1 eA sA a1 wA hmn hI hrr=>after m μ1 fr1 eA sA a1 wA hmn hI hrr) hI0 hr)
  exact key _ oA
 ·cases n with
  | zero=>simp[runN]at hr
  | succ n=>
  simp only[runN]at hr;have key:∀cA,zQ P rc.tmps.size (some q) cA .skip=true->cA.wpIn (Fence.wide.inRound (μ q)) 0 P (Exit.then (fun a₁ w₁=>∃w₂,(Instr.beginRound (μ q)).run P w₁=.ok () w₂/\rc.body.wpIn (Fence.wide.inRound (μ q)) 0 P (roundPost P (μ q) (fun e' w'=>∃v μ' fr',e'=.returned v/\Inv w0 sh nt μ' fr' e s' a w'/\aZ (aU μ' s' w' sh fr') x v)) a₁ w₂) (fun _ _ _=>False)) {tmps:=(ps.zip vs.toList).foldl (fun t p=>t.setIfInBounds p.1 p.2) rc.tmps,defers:=[]} w:=by
   intro cA hA;cases cA<;>try (simp[zQ]at hA;done)
   ·exact wpIn_skip (after n _ _ _ _ _ _ (Nat.lt_succ_self n) hI0 hr)
   ·exact wpIn_label (after n _ _ _ _ _ _ (Nat.lt_succ_self n) hI0 hr)
  exact key _ oA
 ·simp at oo
theorem LZ{w0:Bs}{sh:Nat->Prop}{nt:Nat}{μ:Nat->Nat}{fr:Nat->Prop}{e:Env}{s:ax}{a:Act}{w:World}(h:Inv w0 sh nt μ fr e s a w){x x':X}{s':ax}{v:Value}(hx:aZ (aU μ s w sh fr) x v)(hs:JK s x=some (x',s')) :
 ∃fr',Inv w0 sh nt μ fr' e s' a w/\aZ (aU μ s' w sh fr') x' v:=by
 cases x<;>simp only[JK]at hs
 case ptr o g j=>
  split at hs
  case h_2=>simp at hs
  rename_i cs ho;split at hs
  case isFalse=>simp at hs
  rename_i hc;obtain⟨hg,hwr,hno⟩:=hc;split at hs
  case h_2=>simp at hs
  rename_i ds hd;simp only[aW,bK]at hs;obtain⟨rfl,rfl⟩:=hs;obtain⟨hI,hle⟩:=h.gX (cs.flatMap p_);have hs1:gX s (cs.flatMap p_) o=s o:=by simp only[gX];rw[if_neg hno]
  obtain⟨i1,i2,i3,i4⟩:=h.tq hd (l:=cs.flatMap p_) (fun _ h=>h);obtain⟨blk,t,b1,b2,b3,b4⟩:=(h.obj o _ ho).1;have:=hI.change o (μ o) (s o).g ((s o).n+1) (.box (.agg ds)) w (by rw[hs1];exact Nat.le_refl _) (fun _=>rfl) (Below.refl _ _) (fun _ _ _=>rfl)
   (.inr ⟨rfl,by rw[hs1,ho];rfl,by rw[hs1];exact hwr,fun cs t fz h=>⟨cs,t,fz,h,rfl⟩⟩) (by
    intro hle2;refine⟨blk,t,b1,by simp only[X.cells]at b2 ⊢;omega,by simpa[X.cells]using i3 (by simpa[X.cells]using b3),?_⟩;intro q c u hc hu;simp only[X.cells]at hc b4 b2;have:=i4 (fun q=>blk.getD q undef) (fun q c hc=>b4 q c _ hc (by have:=(List.getElem?_eq_some_iff.1 hc).1;simp[mq,kF (show q<blk.size by omega)])) q c hc
    rw[mq,hu,Option.getD_some]at this
    exact aZ.mono hle2 this)
  rw[JX]at this
  have hst:bF (gX s (cs.flatMap p_)) o (.box (.agg ds))=upd (gX s (cs.flatMap p_)) o ⟨(s o).g,true,some (.box (.agg ds)),(s o).n+1⟩:=by simp only[bF,SO.sw,hs1]
  rw[hst];exact⟨_,this.1,(hx.mono hle).mono this.2⟩
 all_goals (simp at hs)
theorem sound{T:Nat->Option Fe}(hm:P.follows .mixedOrders=true)(hF:∀f,(T f).isSome=true->lM P f=true)
 (hB:∀f nt res body,T f=some (.code nt res body)\/T f=some (.yx nt res body)->xP P f nt res body=true)
 (hX:∀f F xs r,T f=some (.ext F)->F xs=some r->lW P f xs r) (hC:TC T) (hXI:∀f F xs s r s',T f=some (.uK F)->F xs s=some (r,s')->GJ P f xs s r s'):∀n,lV P T n/\om P T n:=by
 intro n;induction n using Nat.strongRecOn with
 | _ n ih=>
  have bodyOf:∀ {f nt res body},T f=some (.code nt res body)\/T f=some (.yx nt res body)->∃fn c,P.funcs[f]?=some fn/\fn.body=some c/\zQ P nt none c body=true/\fn.ntmps=nt/\gy P fn.results.toList res=true:=by
   intro f nt res body hT;have hb:=hB f nt res body hT;unfold xP at hb;split at hb
   case h_2=>simp at hb
   rename_i fn hfn;simp only[bN,beq_iff_eq]at hb;obtain⟨⟨hb,hnt⟩,hres⟩:=hb;split at hb
   case h_2=>simp at hb
   rename_i c hbody;exact⟨fn,c,hfn,hbody,hb,hnt,hres⟩
  refine⟨?_,?_,?_,?_⟩
  ·intro f xs r hc;unfold jG at hc;split at hc
   ·simp at hc
   ·rename_i F hT;exact hX f F xs r hT hc
   ·simp at hc
   ·simp at hc
   ·rename_i nt res body hT;split at hc
    case isFalse=>simp at hc
    rename_i hlen;split at hc
    case h_2=>simp at hc
    rename_i e s hr;intro w sh vs hgok hsh hl hv;obtain⟨fn,c,hfn,hbody,hb,hnt,hres⟩:=bodyOf (.inl hT);refine mR (nt:=nt) (sh:=sh) (w0:=⟨w,aU (fun _=>0) s0 w sh (fun _=>False),hgok,[],uN P⟩) (μ:=fun _=>0) (fr:=fun _=>False) hC hm hF ih rfl hfn hbody hb hr ?_ ?_
    ·refine⟨Below.refl _ _,hsh,by simp,?_,?_,?_,⟨⟨[],rfl,by simp,by simp⟩,?_⟩,?_,Cx.Le.refl _⟩
     ·intro o ob ho;simp[s0]at ho
     ·intro o o' ho;simp[s0]at ho
     ·exact EO hl hv
     ·intro o ob ho;simp[s0]at ho
     ·simp;omega
    ·intro a' w' μ fr h;obtain⟨v,h1,h2,h3⟩:=JD h hres hc;have hI:=(h.gX (xX e s res)).1;exact⟨v,h1,v,_,rfl,h.below,hI.iF,h2.mJ h3 (fun _ _ _ _ h=>h) (fun _ _ _ h=>h) (fun _ h=>.inl h) (fun _ h=>h),h3⟩
  ·intro f xs s r s' hc w0 sh nt μ fr e a w h hLP vs hl hv;unfold bZ at hc;obtain⟨ds,d1,d2,d3⟩:=h.defers.ds;have start:∀ {nt':Nat} {fn:Func},xs.length<=nt'->fn.ntmps=nt'->Inv ⟨w0.toWorld,aU μ s w sh fr,w0.JY,ds++w0.keep,w0.Bt⟩ sh nt' μ fr (bG xs) s {tmps:=vs++Array.replicate (fn.ntmps-vs.size) undef,defers:=[]} w:=
    fun h1 h2=>⟨h.below,h.kD,h.iF,h.obj,h.inj,EO hl hv,⟨⟨[],rfl,by simpa using d2,by simpa using d3⟩,h.defers.KG⟩,by simp;omega,Cx.Le.refl _⟩
   split at hc
   case h_4=>simp at hc
   case h_3=>rename_i F hF;exact hXI f F xs s r s' hF hc h hLP vs hl hv
   case h_1=>
    rename_i nt' res body hT;split at hc
    case isFalse=>simp at hc
    rename_i hlen;split at hc
    case h_2=>simp at hc
    rename_i e' s2 hr;split at hc
    case h_2=>simp at hc
    rename_i r' hres';simp only[aW,bK]at hc;obtain⟨rfl,rfl⟩:=hc;obtain⟨fn,c,hfn,hbody,hb,hnt,hres⟩:=bodyOf (.inl hT);refine mR (nt:=nt') (sh:=sh) (w0:=⟨w0.toWorld,aU μ s w sh fr,w0.JY,ds++w0.keep,w0.Bt⟩) (μ:=μ) (fr:=fr) hC hm hF ih hLP hfn hbody hb hr (start hlen hnt) ?_;intro a' w' μ' fr' hI;obtain⟨v,h1,h2⟩:=Cn hI hres hres';obtain⟨hb1,hb2⟩:=h.back hI d1 d2;exact⟨v,h1,v,μ',fr',rfl,hb1,h2,hb2⟩
   case h_2=>
    rename_i nt' res body hT;split at hc
    case isFalse=>simp at hc
    rename_i hlen;split at hc
    case h_2=>simp at hc
    rename_i e' s2 hr;split at hc
    ·rename_i r' hres';simp only[aW,bK]at hc;obtain⟨rfl,rfl⟩:=hc;obtain⟨fn,c,hfn,hbody,hb,hnt,hres⟩:=bodyOf (.inr hT);refine mR (nt:=nt') (sh:=sh) (w0:=⟨w0.toWorld,aU μ s w sh fr,w0.JY,ds++w0.keep,w0.Bt⟩) (μ:=μ) (fr:=fr) hC hm hF ih hLP hfn hbody hb hr (start hlen hnt) ?_;intro a' w' μ' fr' hI;obtain⟨v,h1,h2,_⟩:=JD hI hres hres';obtain⟨hb1,hb2⟩:=h.back (hI.gX (xX e' s2 res)).1 d1 d2;exact⟨v,h1,v,μ',_,rfl,hb1,h2,hb2⟩
    ·split at hc
     case h_2=>simp at hc
     rename_i r' hres';obtain⟨fn,c,hfn,hbody,hb,hnt,hres⟩:=bodyOf (.inr hT);refine mR (nt:=nt') (sh:=sh) (w0:=⟨w0.toWorld,aU μ s w sh fr,w0.JY,ds++w0.keep,w0.Bt⟩) (μ:=μ) (fr:=fr) hC hm hF ih hLP hfn hbody hb hr (start hlen hnt) ?_;intro a' w' μ' fr' hI;obtain⟨v,h1,h2⟩:=Cn hI hres hres';obtain⟨fr2,hI2,h3⟩:=LZ hI h2 hc;obtain⟨hb1,hb2⟩:=h.back hI2 d1 d2;exact⟨v,h1,v,μ',fr2,rfl,hb1,h3,hb2⟩
  ·intro p f xs r ok hc;unfold uO at hc;split at hc
   case h_2=>simp at hc
   rename_i nt res body hT;split at hc
   case isFalse=>simp at hc
   rename_i hlen;split at hc
   case h_2=>simp at hc
   rename_i e s hr;split at hc
   case h_2=>simp at hc
   rename_i r0 hr0;intro w sh vs hgok hsh hl hv;obtain⟨fn,c,hfn,hbody,hb,hnt,hres⟩:=bodyOf (.inl hT);refine mR (nt:=nt) (sh:=sh) (w0:=⟨w,aU (fun _=>0) s0 w sh (fun _=>False),hgok,[],uN P⟩) (μ:=fun _=>0) (fr:=fun _=>False) hC hm hF ih rfl hfn hbody hb hr ?_ ?_
   ·refine⟨Below.refl _ _,hsh,by simp,?_,?_,?_,⟨⟨[],rfl,by simp,by simp⟩,?_⟩,?_,Cx.Le.refl _⟩
    ·intro o ob ho;simp[s0]at ho
    ·intro o o' ho;simp[s0]at ho
    ·exact EO hl hv
    ·intro o ob ho;simp[s0]at ho
    ·simp;omega
   ·intro a' w' μ fr h;obtain⟨v,h1,h2⟩:=Cn h hres hr0;have hI:=(h.gX (oM p r0)).1;refine⟨v,h1,v,_,rfl,h.below,hI.iF,?_⟩;cases hx:nk s p r0 with
    | none=>rw[hx]at hc;simp[uP]at hc
    | some ry=>
     obtain⟨r1,y⟩:=ry;rw[hx]at hc
     obtain⟨u,hu,hpl⟩:=h.nk (l:=oM p r0) hx (fun _ h=>h) h2;cases y<;>simp only[uP]at hc<;>first|(simp at hc;done)|skip
     ·simp only[aW,bK]at hc;obtain⟨rfl,rfl⟩:=hc;cases hu with
      | nil=>exact fun D hD=>hpl D .nil hD rfl .nil
     ·rename_i o g k i m;split at hc
      case h_2=>simp at hc
      rename_i k' es ho;split at hc
      case isFalse=>simp at hc
      rename_i hcond;obtain⟨hg,hwr,rfl,rfl,rfl,hde,hno⟩:=hcond;simp only[aW,bK]at hc;obtain⟨rfl,rfl⟩:=hc;obtain⟨hob,hbge,hnf,_⟩:=h.obj o _ ho;refine⟨μ o,hbge,?_,?_,?_⟩
      ·rintro(hf|⟨o',ho',hs',hm'⟩)
       ·exact hnf hwr hf
       ·exact hno ((h.inj o o' (by simp[ho]) hs' hm')▸ho')
      ·intro D hD;obtain⟨cs,t,q1,q2,q3,q4,q5,q6⟩:=hob;refine⟨cs,t,by rw[hD.1];exact q1,q2,q3,q4,q5,fun i e j c v hi hc hv=>?_⟩;have hd:c.deep=true:=yC (bf.1 hde e (kK hi)) c (kK hc);exact(q6 i e j c v hi hc hv).mJ hd (fun _ _ _ _ hc=>by rw[hD.1];exact hc) (fun _ _ _ hc=>by rw[hD.1];exact hc) hD.2.1 (fun b hb=>hD.2.2 b (.inl hb))
      ·intro D q g' hD h1 h2 hq;refine hpl D _ hD rfl ?_;cases hu with
       | ref g1 g2 g3 g4=>
        refine .ref h1 h2 (fun _=>?_) g4;obtain⟨cap,e1,e2,cs,t,fz,e3,e4⟩:=g3 hg.symm;exact⟨cap,by rw[hq];exact e1,e2,cs,t,fz,by rw[hq,hD.1];exact e3,e4⟩
  ·intro q g l s x s' hy;exact QK hC hm hF ih hy
theorem Pk{T:Nat->Option Fe}(hm:P.follows .mixedOrders=true)(hF:∀f,(T f).isSome=true->lM P f=true)
 (hB:∀f nt res body,T f=some (.code nt res body)\/T f=some (.yx nt res body)->xP P f nt res body=true)
 (hX:∀f F xs r,T f=some (.ext F)->F xs=some r->lW P f xs r) (hC:TC T) (hXI:∀f F xs s r s',T f=some (.uK F)->F xs s=some (r,s')->GJ P f xs s r s') {f:Nat} {xs:List X} {r:X} (h:call T f xs=some r):lW P f xs r:=by
 obtain⟨n,hn⟩:=oC.1 h;exact(sound hm hF hB hX hC hXI n).1 f xs r hn
end Go.Proofs.YtbmkfjmlepjpfaaGreatDoor
