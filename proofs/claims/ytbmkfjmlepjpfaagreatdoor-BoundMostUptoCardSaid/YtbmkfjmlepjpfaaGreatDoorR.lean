/- A part of the proof. -/
import Derived.Test.YtbmkfjmlepjpfaaGreatDoorP
import Derived.Scope
import Derived.RangeFuncRecord
import Derived.RangeFuncLeaves
import Derived.OrdersIn
import Derived.TacticsIn
set_option linter.all false
set_option maxRecDepth 100000
namespace Go.Proofs.YtbmkfjmlepjpfaaGreatDoor
open Go.RowKit
variable {P:Program}
def TB(P:Program)(nt:Nat)(ops:Array Oper)(o:Oper)(g:d9):Bool:=
 (match o.dst,g.d with
  | none,none=>true
  | some d,some d'=>d==d'&&decide (d<nt)
  | _,_=>false)&&
 (match o.guard,g.g with
  | none,none=>true
  | some (j,want),some (t,want')=>want==want'&&(match ops[j]? with
   | some oj=>oj.dst==some t
   | none=>false)
  | _,_=>false)&&
 (gL P o.op g.op||fE P o.op g.op)
def uj(P:Program)(nt:Nat)(ops:Array Oper):List Oper->List d9->Bool
 | [],[]=>true
 | o::l,g::m=>TB P nt ops o g&&uj P nt ops l m
 | _,_=>false
def b_:gm->Bool
 | .call st _ _=>st
 | .fG st _ _=>st
 | io=>dn io
def MP:Option Ar->List Ar
 | some a=>[a]
 | none=>[]
def gm.og:gm->List Ar
 | .bF a|.box _ a|.xZ a|.ld a _ _|.Sg a|.un _ a|.cvs a|.conv _ a|.fa a _|.JF a _ _ _|.len a|.lens a|.ext a _|.Sc _ a|.Mx a=>[a]
 | .pick c a b|.Pb c a b|.NN _ _ c a b=>[c,a,b]
 | .build _ ps=>ps.map fun p=>p.2.2
 | .kG _ _ _ _ ps|.jA _ _ _ ps=>ps.map fun p=>p.2
 | .st a b _|.app _ _ _ a b|.NK _ _ _ a b|.bin _ a b|.eqs _ _ a b|.ZX _ a b|.dK a b _|.Bo a b _ _|.F_ a b|.ixv a b _ _ _|.Mw _ _ _ a b _|.G5 _ _ a b _ _|.O9 _ _ a b _|.ZH _ _ _ _ a b=>[a,b]
 | .sls a lo hi|.RB _ a lo hi=>a::(MP lo++MP hi)
 | .a_ _ a l=>a::l
 | .GY _ l|.EX _ l|.call _ _ l|.bB _ l|.j6 _ l|.bL _ _ _ _ l=>l
 | .Sb _ a=>[a]
 | .no=>[]
 | .fK f l=>f::l
 | .fG _ f l=>f::l
 | .GZ _ h=>MP h
def Ar.sl:Ar->List Nat
 | .t n=>[n]
 | .k _=>[]
def gm.rd(op:gm):List Nat:=op.og.flatMap Ar.sl
def d9.rd(g:d9):List Nat:=g.op.rd++(match g.g with
 | some (t,_)=>[t]
 | none=>[])
def yS:gm->Bool
 | .bF ..|.pick ..|.xZ ..|.build ..|.bin ..|.eqs ..|.ZX ..|.un ..|.cvs ..|.conv ..|.JF ..|.F_ ..|.ixv ..|.sls ..|.lens ..|.a_ ..|.ext ..|.GY ..|.EX ..|.no=>true
 | _=>false
def d1(ops:Array Oper)(i j:Nat):Bool:=match ops[i]? with
 | some o=>o.after.toList.any fun e=>Region.binds .any e&&e.on==j
 | none=>false
def dd(ops:Array Oper):Nat->Nat->Nat->Bool
 | 0,i,j=>d1 ops i j
 | n+1,i,j=>d1 ops i j||(match ops[i]? with
  | some o=>o.after.toList.any fun e=>Region.binds .any e&&dd ops n e.on j
  | none=>false)
def d2(ops:Array Oper)(i j:Nat):Bool:=dd ops 20 i j
def kL(gl:List d9)(i:Nat):Option Nat:=match gl[i]? with
 | some g=>g.d
 | none=>none
def xG:gm->Nat
 | .box _ _=>1
 | .NK ..=>1
 | .bL true _ _ _ _=>1
 | op=>if b_ op=true then 0 else 2
def Gh:gm->Option Nat
 | .box o _=>some o
 | .NK o _ _ _ _=>some o
 | .bL _ _ q _ _=>some q
 | _=>none
def rT:gm->Bool
 | .call ..|.fG ..|.bB ..|.j6 ..|.bL ..|.fK ..=>false
 | _=>true
def arK:Ar->Bool
 | .k x=>(kz x).isEmpty
 | .t _=>true
def TH(ops:Array Oper)(i j:Nat):Bool:=(decide (j<i)&&d2 ops i j)||(decide (i<j)&&d2 ops j i)
def O5(gl:List d9)(p j:Nat)(g:d9):Bool:=g.rd.all fun t=>(List.range p).all fun q=>kL gl q != some t||decide (q<j)
def GJ(ops:Array Oper)(gl:List d9)(p:Nat)(ch js:List Nat):Bool:=
 decide (ops.size=gl.length)&&decide (p<=gl.length)&&
 ((
  List.range gl.length).all fun i=>match ops[i]? with
  | some o=>o.after.toList.all fun e=>!Region.binds .any e||decide (e.on<i)
  | none=>false)&&
 ((List.range gl.length).all fun i=>(List.range i).all fun j=>(kL gl i).isNone||(kL gl i != kL gl j))&&
 ((
  List.range p).all fun i=>match gl[i]? with
  | some g=>g.op.og.all arK&&(g.rd.all fun t=>(List.range p).all fun j=>j==i||kL gl j != some t||TH ops i j)
  | none=>false)&&
 ((List.range gl.length).all fun i=>decide (i<p)||(List.range i).all fun j=>d2 ops i j)&&
 ((
  List.range p).all fun i=>match gl[i]? with
  | some gi=>xG gi.op==0||((List.range p).all fun j=>match gl[j]? with
   | some gj=>j==i||TH ops i j||(xG gj.op==1&&xG gi.op==1&&Gh gi.op != Gh gj.op)||
    (xG gj.op==0&&(yS gj.op||(O5 gl p j gj&&((gj.op.rd.all fun t=>ch.contains t)||(js.contains j&&gj.g.isNone&&gj.d.isSome&&rT gj.op&&
     (List.range p).all fun k=>match gl[k]? with
      | some gk=>k==i||xG gk.op==0
      | none=>false)))))
   | none=>false)
  | none=>false)
def xQ(P:Program)(nt:Nat):Option Nat->Code->IC->Bool
 | _,.skip,.skip=>true
 | _,.label _,.skip=>true
 | none,.ret,.ret=>true
 | some q,.ret,.Rl q'=>q==q'
 | _,.exit i,.exit j=>i==j
 | some q,.exit i,.FO q' j=>i==j&&q==q'
 | r,.seq a b,.seq a' b'=>xQ P nt r a a'&&xQ P nt r b b'
 | r,.cond c a b,.cond c' a' b'=>dA c c'&&xQ P nt r a a'&&xQ P nt r b b'
 | r,.block i c,.block j c'=>i==j&&xQ P nt r c c'
 | r,.loop c,.loop c'=>xQ P nt r c c'
 | r,.scope c,.scope c'=>xQ P nt r c c'
 | _,.region _ ops false,.ops gl=>uj P nt ops ops.toList gl
 | _,.region _ ops true,.aL ch js l m=>uj P nt ops ops.toList (l++m)&&GJ ops (l++m) l.length ch js
 | none,.rangeFunc g ps a b,.Rj q g' ps' a' b'=>dA g g'&&ps.toList==ps'&&(ps'.all fun p=>decide (p<nt))&&xR a'&&xQ P nt (some q) a a'&&xQ P nt (some q) b b'
 | _,_,_=>false
def rU(P:Program)(nt q:Nat)(c:Code)(ic:IC):Prop:=xQ P nt (some q) c ic=true
def Jw(w:World)(sh fr:Nat->Prop):Cx:=⟨fun _=>0,fun _=>0,w,sh,fr⟩
def kF(P:Program)(f:Nat)(xs:List X)(r:X):Prop:=
 ∀(w:World) (sh:Nat->Prop) (vs:Array Value),Jk w->(∀b,sh b->b<w.heap.size)->xs.length=vs.size->
  (∀(j:Nat) x v,xs[j]?=some x->vs[j]?=some v->aW (Jw w sh fun _=>False) x v)->
  Calls P f vs w fun e w'=>∃v fr',e=.returned v/\Below w.heap.size w w'/\(∀b,fr' b->w.heap.size<=b/\b<w'.heap.size)/\aW (Jw w' sh fr') r v/\r.deep=true
def Dz(P:Program)(f:Nat)(xs:List X)(s:ay)(r:X)(s':ay):Prop:=
 ∀ {w0:Bs} {sh:Nat->Prop} {nt:Nat} {μ:Nat->Nat} {fr:Nat->Prop} {e:Env} {a:Act} {w:World},Inv w0 sh nt μ fr e s a w->w0.ze=rU P->∀(vs:Array Value),xs.length=vs.size->
 (∀(j:Nat) x v,xs[j]?=some x->vs[j]?=some v->aW (aQ μ s w sh fr) x v)->
 Calls P f vs w (fun e' w'=>∃v μ' fr',e'=.returned v/\Inv w0 sh nt μ' fr' e s' a w'/\aW (aQ μ' s' w' sh fr') r v/\(aQ μ s w sh fr).Le (aQ μ' s' w' sh fr'))
def ZF(P:Program)(q g:Nat)(l:List X)(s:ay)(x:X)(s':ay):Prop:=
 ∀ {w0:Bs} {sh:Nat->Prop} {nt:Nat} {μ:Nat->Nat} {fr:Nat->Prop} {e:Env} {a:Act} {w:World},Inv w0 sh nt μ fr e s a w->w0.ze=rU P->1<=g->∀(vs:Array Value),l.length=vs.size->
 (∀(j:Nat) x v,l[j]?=some x->vs[j]?=some v->aW (aQ μ s w sh fr) x v)->
 g=(s q).g/\∃f tm cA cB,(Instr.yield (μ q) vs).run P w=.ok (.round (μ q) f tm cA cB) w/\
  RoundIn Fence.wide 0 P (μ q) f tm cA cB w (fun e' w'=>∃v μ' fr',e'=.returned v/\Inv w0 sh nt μ' fr' e s' a w'/\aW (aQ μ' s' w' sh fr') x v)
def Ovr(w:World)(sh fr:Nat->Prop)(D:Cx):Prop:=D.w=w/\(∀b,sh b->D.sh b\/D.fr b)/\∀b,fr b->D.fr b
def OwnQ(p:List Nat)(r:X)(ok:Option (Nat×List X))(w w':World)(sh fr':Nat->Prop)(v:Value):Prop:=match ok with
 | none=>∀D,Ovr w' sh fr' D->aW D (plug p r .nil) v
 | some (k,es)=>∃b,w.heap.size<=b/\¬fr' b/\(∀D,Ovr w' sh fr' D->Dr D (.row k es) b)/\
  ∀D q g,Ovr w' sh fr' D->1<=g->g<=D.γ q->D.μ q=b->aW D (plug p r (.ref q g k 0 es.length)) v
def OwnAt(P:Program)(p:List Nat)(f:Nat)(xs:List X)(r:X)(ok:Option (Nat×List X)):Prop:=
 ∀(w:World) (sh:Nat->Prop) (vs:Array Value),Jk w->(∀b,sh b->b<w.heap.size)->xs.length=vs.size->
  (∀(j:Nat) x v,xs[j]?=some x->vs[j]?=some v->aW (Jw w sh fun _=>False) x v)->
  Calls P f vs w fun e w'=>∃v fr',e=.returned v/\Below w.heap.size w w'/\(∀b,fr' b->w.heap.size<=b/\b<w'.heap.size)/\
   OwnQ p r ok w w' sh fr' v
def mE(P:Program)(T:Nat->Option Fe)(n:Nat):Prop:=(∀f xs s r s',dD (runN T n) T f xs s=some (r,s')->Dz P f xs s r s')/\
 (∀p f xs r ok,um (runN T n) T p f xs=some (r,ok)->OwnAt P p f xs r ok)/\
 ∀q g l s x s',iR (runN T n) q g l s=some (x,s')->ZF P q g l s x s'
def kE(P:Program)(T:Nat->Option Fe)(n:Nat):Prop:=∀f xs r,iW (runN T n) T f xs=some r->kF P f xs r
theorem gX(l:List X):fu l=l.map X.shr:=by
 induction l with
 | nil=>rfl
 | cons x l ih=>simp[fu,ih]
theorem jP(x:X)(h:x.deep=true):x.shr.cells=x.cells.map X.shr:=by cases x<;>first|rfl|(simp only[X.shr,X.cells,gX])|(simp[X.deep]at h;done)
theorem xW(x:X)(h:x.one=true):x.shr.one=true:=by cases x<;>first|rfl|(simp[X.one]at h;done)
mutual
theorem zX:(x:X)->x.deep=true->x.shr.deep=true
 | .v _,_=>rfl
 | .nil,_=>rfl
 | .sl _ es,h=>kR es h
 | .agg es,h=>kR es h
 | .bU es,h=>kR es h
 | .fn _ es,h=>kR es h
 | .fm _ es,h=>kR es h
 | .ref ..,h=>h
 | .ptr ..,h=>h
 | .ep ..,h=>h
 | .ip x _,h=>zX x h
 | .mp ..,h=>h
 | .Dx ..,h=>h
 | .junk,h=>h
theorem kR:(l:List X)->aP l=true->aP (fu l)=true
 | [],_=>rfl
 | x::l,h=>by simp only[aP,bE]at h;simp only[fu,aP,bE];exact⟨zX x h.1,kR l h.2⟩
end
theorem aW.shr{C:Cx}{x:X}{v:Value}(hx:aW C x v)(hd:x.deep=true):aW (Jw C.w (fun b=>C.sh b\/C.fr b) fun _=>False) x.shr v:=by
 induction hx with
 | v hp=>exact .v hp
 | nil=>exact .sl0
 | sl0=>exact .sl0
 | @sl f es b off cap k n val hn hcap hl hb hk hc hz hr ih=>
  simp only[X.shr,gX];simp only[X.deep]at hd;have hdm:=aX.1 hd;have hidx:∀ {i:Nat} {e':X},(es.map X.shr)[i]?=some e'->∃e,es[i]?=some e/\e'=e.shr:=by
   intro i e' h;rw[List.getElem?_map,Option.map_eq_some_iff]at h
   obtain⟨e,he,rfl⟩:=h;exact⟨e,he,rfl⟩
  refine .sl (k:=k) val (by simpa using hn) hcap (by simpa using hl) (.inr ⟨rfl,?_⟩) ?_ ?_ (by simp) ?_
  ·rcases hb with hb|⟨_,hb⟩
   ·exact .inr hb
   ·exact .inl hb
  ·intro e' he';obtain⟨e,he,rfl⟩:=List.mem_map.1 he';rw[jP e (hdm e he)];simpa using hk e he
  ·intro i e' j c hi hj;obtain⟨e,he,rfl⟩:=hidx hi;rw[jP e (hdm e (jM he)),List.getElem?_map,Option.map_eq_some_iff]at hj
   obtain⟨c',hc',rfl⟩:=hj;exact⟨(hc i e j c' he hc').1,xW _ (hc i e j c' he hc').2⟩
  ·intro i e' j c hi hj;obtain⟨e,he,rfl⟩:=hidx hi;rw[jP e (hdm e (jM he)),List.getElem?_map,Option.map_eq_some_iff]at hj
   obtain⟨c',hc',rfl⟩:=hj;exact ih i e j c' he hc' (lg (hdm e (jM he)) c' (jM hc'))
 | agg hl ho hr ih=>
  simp only[X.shr,gX];simp only[X.deep]at hd;refine .agg (by simpa using hl) ?_ ?_
  ·intro c hc;obtain⟨y,hy,rfl⟩:=List.mem_map.1 hc;exact xW _ (ho y hy)
  ·intro j c v hj hv;rw[List.getElem?_map,Option.map_eq_some_iff]at hj
   obtain⟨y,hy,rfl⟩:=hj;exact ih j y v hy hv (aX.1 hd y (jM hy))
 | bU hl hr ih=>
  simp only[X.shr,gX];simp only[X.deep]at hd;refine .bU (by simpa using hl) ?_;intro j c v hj hv;rw[List.getElem?_map,Option.map_eq_some_iff]at hj
  obtain⟨y,hy,rfl⟩:=hj;exact ih j y v hy hv (aX.1 hd y (jM hy))
 | fn hl hr ih=>
  simp only[X.shr,gX];simp only[X.deep]at hd;refine .fn (by simpa using hl) ?_;intro j c v hj hv;rw[List.getElem?_map,Option.map_eq_some_iff]at hj
  obtain⟨y,hy,rfl⟩:=hj;exact ih j y v hy hv (aX.1 hd y (jM hy))
 | fm hl hr ih=>
  simp only[X.shr,gX];simp only[X.deep]at hd;refine .fm (by simpa using hl) ?_;intro j c v hj hv;rw[List.getElem?_map,Option.map_eq_some_iff]at hj
  obtain⟨y,hy,rfl⟩:=hj;exact ih j y v hy hv (aX.1 hd y (jM hy))
 | @ip x j b off val hb hc hr ih=>
  have hx:x.deep=true:=by simpa[X.deep]using hd
  simp only[X.shr];refine .ip val (.inr (hb.elim .inr .inl)) ?_ ?_
  ·intro l c hl;rw[jP x hx,List.getElem?_map,Option.map_eq_some_iff]at hl
   obtain⟨y,hy,rfl⟩:=hl;exact⟨(hc l y hy).1,xW _ (hc l y hy).2⟩
  ·intro l c hl;rw[jP x hx,List.getElem?_map,Option.map_eq_some_iff]at hl
   obtain⟨y,hy,rfl⟩:=hl;exact ih l y hy (lg hx y (jM hy))
 | _=>simp[X.deep]at hd
section
variable {w0:Bs} {sh:Nat->Prop} {nt:Nat} {μ:Nat->Nat} {fr:Nat->Prop} {e:Env} {s:ay} {a:Act} {w:World}
theorem Ev{C:Cx}{x y:X}{v:Value}(hx:aW C x v)(hy:xw x=some y):aW C y v/\y.deep=true/\(x.one=true->y.one=true)/\y.cells=[y]:=by
 cases x<;>simp only[xw]at hy
 case nil=>
  injection hy with hy;subst hy;cases hx with
  | nil=>exact⟨.sl0,rfl,fun _=>rfl,rfl⟩
 all_goals first
  | (simp at hy;done)
  | (
   split at hy
   ·injection hy with hy;subst hy;exact⟨hx,by assumption,id,rfl⟩
   ·simp at hy)
theorem Et:∀ {cs ds:List X},Ov cs=some ds->ds.length=cs.length/\∀(j:Nat) c d,cs[j]?=some c->ds[j]?=some d->xw c=some d:=by
 intro cs;induction cs with
 | nil=>intro ds h;simp only[Ov,aR]at h;subst h;exact⟨rfl,by simp⟩
 | cons c cs ih=>
  intro ds h;simp only[Ov]at h;split at h
  case h_2=>simp at h
  rename_i y m hy hm;injection h with h;subst h;obtain⟨i1,i2⟩:=ih hm;refine⟨by simp[i1],?_⟩;intro j c' d hc hd;cases j with
  | zero=>simp at hc hd;subst hc;subst hd;exact hy
  | succ j=>exact i2 j c' d (by simpa using hc) (by simpa using hd)
theorem GH{x y:X}(hy:Ay x=some y):y.cells.length=x.cells.length/\∀(j:Nat) c d,x.cells[j]?=some c->y.cells[j]?=some d->xw c=some d:=by
 have one:∀ {x y:X},xw x=some y->x.cells=[x]->y.cells.length=x.cells.length/\∀(j:Nat) c d,x.cells[j]?=some c->y.cells[j]?=some d->xw c=some d:=by
  intro x y h hx;have hy:y.cells=[y]:=by cases x<;>simp only[xw]at h<;>first|(simp at h;done)|(split at h<;>first|(injection h with h;subst h;rfl)|(simp at h;done))|(injection h with h;subst h;rfl)
  rw[hx,hy];refine⟨rfl,fun j c d hc hd=>?_⟩;cases j with
  | zero=>simp at hc hd;subst hc;subst hd;exact h
  | succ j=>simp at hc
 cases x
 case agg cs=>
  simp only[Ay]at hy;split at hy
  case h_2=>simp at hy
  rename_i ds hds;injection hy with hy;subst hy;exact Et hds
 all_goals exact one hy rfl
theorem Bf{x y:X}(hy:xw x=some y):y.deep=true:=by cases x<;>simp only[xw]at hy<;>first|(simp at hy;done)|(split at hy<;>first|(injection hy with hy;subst hy;assumption)|(simp at hy;done))|(injection hy with hy;subst hy;rfl)
theorem L8{x y:X}(hy:Ay x=some y):y.deep=true:=by
 cases x
 case agg cs=>
  simp only[Ay]at hy;split at hy
  case h_2=>simp at hy
  rename_i ds hds;injection hy with hy;subst hy;simp only[X.deep];obtain⟨i1,i2⟩:=Et hds;refine aX.2 fun d hd=>?_
  obtain⟨j,hj⟩:=List.getElem?_of_mem hd;have hjl:j<cs.length:=by have:=(List.getElem?_eq_some_iff.1 hj).1;omega
  exact Bf (i2 j _ d (List.getElem?_eq_getElem hjl) hj)
 all_goals (simp only[Ay]at hy;exact Bf hy)
theorem Inv.xI(h:Inv w0 sh nt μ fr e s a w){x y:X}{v:Value}(hx:aW (aQ μ s w sh fr) x v)(hy:Go.Proofs.YtbmkfjmlepjpfaaGreatDoor.xI s x=some y){l:List Nat}(hl:∀o∈Pg x,o∈l) :
 aW (Jw w (fun b=>sh b\/(fr b\/∃o∈l,(s o).o.isSome=true/\b=μ o)) fun _=>False) y.shr v:=by
 have ip:∀ {z:X} {j:Nat} {C:Cx},(∀c∈z.cells,c.deep=true)->z.shr.cells=z.cells.map X.shr->aW C (.ip z j) v->C.w=w->(∀b,C.sh b\/C.fr b->sh b\/(fr b\/∃o∈l,(s o).o.isSome=true/\b=μ o))->
  aW (Jw w (fun b=>sh b\/(fr b\/∃o∈l,(s o).o.isSome=true/\b=μ o)) fun _=>False) (X.ip z j).shr v:=by
  intro z j C hd hz hr hw hC;subst hw;cases hr with
  | ip val hb hc hr=>
   simp only[X.shr];have up:∀ {l:Nat} {c:X},z.shr.cells[l]?=some c->∃d,z.cells[l]?=some d/\c=d.shr:=by
    intro l c hl;rw[hz,List.getElem?_map,Option.map_eq_some_iff]at hl
    obtain⟨d,hd,rfl⟩:=hl;exact⟨d,hd,rfl⟩
   refine .ip val (.inr (hC _ hb.symm)) ?_ ?_
   ·intro l c hl;obtain⟨d,hd',rfl⟩:=up hl;exact⟨(hc l d hd').1,xW _ (hc l d hd').2⟩
   ·intro l c hl;obtain⟨d,hd',rfl⟩:=up hl;have:=(hr l d hd').shr (hd d (jM hd'));exact this.kQ (zX _ (hd d (jM hd'))) (fun _ _ _ _ h=>h) (fun _ _ _ h=>h) (fun b hb=>.inl (hC b hb)) (fun _ h=>h)
 cases x
 case ptr o g j=>
  simp only[Go.Proofs.YtbmkfjmlepjpfaaGreatDoor.xI]at hy;split at hy
  case h_2=>simp at hy
  rename_i z ho;split at hy
  case isFalse=>simp at hy
  rename_i hg;split at hy
  case h_2=>simp at hy
  rename_i z' hz;injection hy with hy;subst hy;have hol:o∈l:=hl o (by simp[Pg]);obtain⟨⟨cs,t,o1,o2,o3,o4⟩,_⟩:=h.obj o _ ho;obtain⟨hlen,hcells⟩:=GH hz;have hv:v=.pointer (some ⟨μ o,j,none⟩):=by
   cases hx with
   | ptr _ _ h3 _=>exact h3 hg.symm
  subst hv;have hle:=GQ μ s w sh fr l;have cell:∀ {i:Nat} {c:X},z'.cells[i]?=some c->∃d u,z.cells[i]?=some d/\cs[i]?=some u/\xw d=some c/\d.one=true/\aW (vw μ s w sh fr l) d u:=by
   intro i c hc;have hi:i<z.cells.length:=by have:=(List.getElem?_eq_some_iff.1 hc).1;omega
   have hi':i<cs.size:=by omega
   have hd:=List.getElem?_eq_getElem hi;have hu:=Array.getElem?_eq_getElem hi';exact⟨_,_,hd,hu,hcells i _ c hd hc,o3 _ (jM hd),(o4 i _ _ hd hu).mono hle⟩
  have hdeep:=L8 hz;refine ip (C:=vw μ s w sh fr l) (lg hdeep) (jP z' hdeep) ?_ rfl (fun b hb=>hb.elim .inl fun h=>.inr h);have:=aW.ip (C:=vw μ s w sh fr l) (x:=z') (j:=j) (b:=μ o) (off:=0) (fun i=>cs.getD i undef) (.inl (.inr ⟨o,hol,by simp[ho],rfl⟩)) (by
   intro i c hc;obtain⟨d,u,hd,hu,hn,ho',hr⟩:=cell hc;refine⟨?_,(Ev hr hn).2.2.1 ho'⟩;rw[Nat.zero_add];have hw:(vw μ s w sh fr l).w=w:=rfl;have o1':w.heap[μ o]?=some (.cells cs t (0,0)):=o1;rw[hw,cell_of_row _ _ _ _ t (0,0) o1'];simp[Array.getD_eq_getD_getElem?,hu]) (by
   intro i c hc;obtain⟨d,u,hd,hu,hn,ho',hr⟩:=cell hc;have:=(Ev hr hn).1;simpa[Array.getD_eq_getD_getElem?,hu]using this)
  simpa using this
 case ip z j=>
  simp only[Go.Proofs.YtbmkfjmlepjpfaaGreatDoor.xI]at hy;split at hy
  case isFalse=>simp at hy
  rename_i hd;injection hy with hy;subst hy;exact ip (lg hd) (jP z hd) hx rfl (fun b hb=>hb.elim .inl (fun h=>.inr (.inl h)))
 all_goals
  obtain⟨h1,h2,_⟩:=h.rZ hx hy (l:=l) hl;exact h1.shr h2
theorem Ou{s:ay}:∀ {cs ds:List X},qJ s cs=some ds->ds.length=cs.length/\∀(j:Nat) c d,cs[j]?=some c->ds[j]?=some d->Go.Proofs.YtbmkfjmlepjpfaaGreatDoor.xI s c=some d:=by
 intro cs;induction cs with
 | nil=>intro ds h;simp only[qJ,aR]at h;subst h;exact⟨rfl,by simp⟩
 | cons c cs ih=>
  intro ds h;simp only[qJ]at h;split at h
  case h_2=>simp at h
  rename_i y m hy hm;injection h with h;subst h;obtain⟨i1,i2⟩:=ih hm;refine⟨by simp[i1],?_⟩;intro j c' d hc hd;cases j with
  | zero=>simp at hc hd;subst hc;subst hd;exact hy
  | succ j=>exact i2 j c' d (by simpa using hc) (by simpa using hd)
theorem Inv.wh(h:Inv w0 sh nt μ fr e s a w){x y:X}{v:Value}(hx:aW (aQ μ s w sh fr) x v)(hy:Go.Proofs.YtbmkfjmlepjpfaaGreatDoor.wh s x=some y){l:List Nat}(hl:∀o∈lU x,o∈l) :
 aW (Jw w (fun b=>sh b\/(fr b\/∃o∈l,(s o).o.isSome=true/\b=μ o)) fun _=>False) y.shr v:=by
 cases x
 case fn f cs=>
  simp only[Go.Proofs.YtbmkfjmlepjpfaaGreatDoor.wh]at hy;split at hy
  case h_2=>simp at hy
  rename_i ds hds;injection hy with hy;subst hy;obtain⟨i1,i2⟩:=Ou hds;cases hx with
  | fn hlen hr=>
   simp only[X.shr,gX];refine .fn (by simpa[i1]using hlen) ?_;intro j c v' hj hv';rw[List.getElem?_map,Option.map_eq_some_iff]at hj
   obtain⟨d,hd,rfl⟩:=hj;have hjl:j<cs.length:=by have:=(List.getElem?_eq_some_iff.1 hd).1;omega
   have hc:=List.getElem?_eq_getElem hjl;exact h.xI (hr j _ v' hc hv') (i2 j _ d hc hd) (fun o ho=>hl o (by simp only[lU];exact List.mem_flatMap.2 ⟨_,jM hc,ho⟩))
 case ptr=>exact h.xI hx hy hl
 case ip=>exact h.xI hx hy hl
 all_goals
  obtain⟨h1,h2⟩:=h.oh hx hy (l:=l) hl;exact h1.shr h2
theorem Inv.tq(h:Inv w0 sh nt μ fr e s a w){l:List Nat}:∀ {xs ys:List X},Go.Proofs.YtbmkfjmlepjpfaaGreatDoor.tq s xs=some ys->(∀o∈xs.flatMap lU,o∈l)->
 ys.length=xs.length/\∀vs:Nat->Value,(∀j x,xs[j]?=some x->aW (aQ μ s w sh fr) x (vs j))->∀j y,ys[j]?=some y->aW (Jw w (fun b=>sh b\/(fr b\/∃o∈l,(s o).o.isSome=true/\b=μ o)) fun _=>False) y (vs j):=by
 intro xs;induction xs with
 | nil=>intro ys hy _;simp only[Go.Proofs.YtbmkfjmlepjpfaaGreatDoor.tq,aR]at hy;subst hy;exact⟨rfl,by simp⟩
 | cons x xs ih=>
  intro ys hy hl;simp only[Go.Proofs.YtbmkfjmlepjpfaaGreatDoor.tq]at hy;split at hy
  case h_2=>simp at hy
  rename_i z m hz hm;injection hy with hy;subst hy;obtain⟨i1,i2⟩:=ih hm (fun o ho=>hl o (by simp only[List.flatMap_cons,List.mem_append];exact .inr ho));refine⟨by simp[i1],?_⟩;intro vs hv j y hj;cases j with
  | zero=>
   simp at hj;subst hj;exact h.wh (hv 0 x rfl) hz (l:=l) (fun o ho=>hl o (by simp only[List.flatMap_cons,List.mem_append];exact .inl ho))
  | succ j=>exact i2 (fun j=>vs (j+1)) (fun j x hx=>hv (j+1) x (by simpa using hx)) j y (by simpa using hj)
theorem GA(h:Inv w0 sh nt μ fr e s a w){T:Nat->Option Fe}{n:Nat}(hT:kE P T n){st:Bool}{f:Nat}{l:List X}{vs:Array Value}(hl:l.length=vs.size)
 (hv:∀(j:Nat) x v,l[j]?=some x->vs[j]?=some v->aW (aQ μ s w sh fr) x v) {x:X} {s':ay} (hs:gP (runN T n) T st f l s=some (x,s')) :
 Calls P f vs w (fun e' w'=>∃v μ' fr',e'=.returned v/\Inv w0 sh nt μ' fr' e s' a w'/\aW (aQ μ' s' w' sh fr') x v/\(st=true->s'=s/\μ'=μ)):=by
 unfold gP at hs;split at hs
 case h_1=>simp at hs
 rename_i ys hys;split at hs
 case h_1=>simp at hs
 rename_i r hr;obtain⟨i1,i2⟩:=h.tq hys (l:=l.flatMap lU) (fun _ h=>h);obtain⟨hI0,hle0⟩:=h.gB (l.flatMap lU);have hP:=hT f ys r hr w (fun b=>sh b\/(fr b\/∃o∈l.flatMap lU,(s o).o.isSome=true/\b=μ o)) vs (w0.F9.below w0.F9.1 h.below) (by
  rintro b (hb|hb)
  ·exact Nat.lt_of_lt_of_le (h.jG b hb) h.below.size
  ·exact(hI0.gH b hb).2) (by omega) (by
  intro j y v hy hjv;have hj:=(List.getElem?_eq_some_iff.1 hy).1;have:=i2 (fun j=>vs.getD j undef) (fun j x hx=>hv j x _ hx (by have:=(List.getElem?_eq_some_iff.1 hx).1;simp[Array.getD_eq_getD_getElem?,Array.getElem?_eq_getElem (show j<vs.size by omega)])) j y hy
  simpa[Array.getD_eq_getD_getElem?,hjv]using this)
 refine hP.mono ?_;rintro e' w' ⟨v,fr',rfl,hb,hfr',hrep,hd⟩;split at hs
 ·rename_i hsc;simp only[aR,bq]at hs;obtain⟨rfl,rfl⟩:=hs;obtain⟨hI,_⟩:=h.news w' hb (fun b=>fr b) (fun _ h=>h) (fun b hb=>.inl hb);exact⟨v,μ,_,rfl,hI,hrep.eG hsc,fun _=>⟨rfl,rfl⟩⟩
 ·split at hs
  ·split at hs
   case isFalse=>simp at hs
   rename_i hqt;simp only[aR,bq]at hs;obtain⟨rfl,rfl⟩:=hs;have hq:∀b,(∃o∈l.flatMap lU,(s o).o.isSome=true/\b=μ o)->fr b:=by rintro b ⟨o,ho,h1,rfl⟩;obtain⟨ob,hob⟩:=Option.isSome_iff_exists.1 h1;have h2:=List.all_eq_true.1 hqt o ho;simp only[bE,Bool.not_eq_true']at h2;exact(h.obj o ob hob).2.2.2 h2.2
   obtain⟨hI,hle⟩:=h.news w' hb (fun b=>fr b\/fr' b) (fun _ h=>.inl h) (fun b hb=>by
    rcases hb with hb|hb
    ·exact .inl hb
    ·exact .inr (hfr' b hb))
   refine⟨v,μ,_,rfl,hI,?_,fun _=>⟨rfl,rfl⟩⟩;refine hrep.kQ hd (fun _ _ _ _ h=>h) (fun _ _ _ h=>h) ?_ ?_
   ·rintro b (hb|hb)
    ·exact .inl hb
    ·exact .inr (.inl (hb.elim id (hq b)))
   ·intro b hb;exact .inr hb
  rename_i hnn;simp only[aR,bq]at hs;obtain⟨rfl,rfl⟩:=hs;obtain⟨hI,hle⟩:=hI0.news w' hb (fun b=>(fr b\/∃o∈l.flatMap lU,(s o).o.isSome=true/\b=μ o)\/fr' b) (fun _ h=>.inl h) (fun b hb=>hb.imp id (hfr' b));refine⟨v,μ,_,rfl,hI,?_,fun hst=>absurd hst hnn⟩;refine hrep.kQ hd (fun _ _ _ _ h=>h) (fun _ _ _ h=>h) ?_ ?_
  ·rintro b (hb|hb)
   ·exact .inl hb
   ·exact .inr (.inl hb)
  ·intro b hb;exact .inr hb
theorem Inv.Az(h:Inv w0 sh nt μ fr e s a w){x y:X}{v:Value}(hx:aW (aQ μ s w sh fr) x v)(hy:Go.Proofs.YtbmkfjmlepjpfaaGreatDoor.Az s x=some y){l:List Nat}(hl:∀o∈Pf s x,o∈l) :
 aW (Jw w (fun b=>sh b\/(fr b\/∃o∈l,(s o).o.isSome=true/\b=μ o)) fun _=>False) y.shr v:=by
 cases x
 case ref=>
  obtain⟨h1,h2⟩:=h.Ow hx hy (l:=l) hl;exact h1.shr h2
 all_goals exact h.wh hx hy hl
theorem Inv.xu(h:Inv w0 sh nt μ fr e s a w){l:List Nat}:∀ {xs ys:List X},Go.Proofs.YtbmkfjmlepjpfaaGreatDoor.xu s xs=some ys->(∀o∈xs.flatMap (Pf s),o∈l)->
 ys.length=xs.length/\∀vs:Nat->Value,(∀j x,xs[j]?=some x->aW (aQ μ s w sh fr) x (vs j))->∀j y,ys[j]?=some y->aW (Jw w (fun b=>sh b\/(fr b\/∃o∈l,(s o).o.isSome=true/\b=μ o)) fun _=>False) y (vs j):=by
 intro xs;induction xs with
 | nil=>intro ys hy _;simp only[Go.Proofs.YtbmkfjmlepjpfaaGreatDoor.xu,aR]at hy;subst hy;exact⟨rfl,by simp⟩
 | cons x xs ih=>
  intro ys hy hl;simp only[Go.Proofs.YtbmkfjmlepjpfaaGreatDoor.xu]at hy;split at hy
  case h_2=>simp at hy
  rename_i z m hz hm;injection hy with hy;subst hy;obtain⟨i1,i2⟩:=ih hm (fun o ho=>hl o (by simp only[List.flatMap_cons,List.mem_append];exact .inr ho));refine⟨by simp[i1],?_⟩;intro vs hv j y hj;cases j with
  | zero=>
   simp at hj;subst hj;exact h.Az (hv 0 x rfl) hz (l:=l) (fun o ho=>hl o (by simp only[List.flatMap_cons,List.mem_append];exact .inl ho))
  | succ j=>exact i2 (fun j=>vs (j+1)) (fun j x hx=>hv (j+1) x (by simpa using hx)) j y (by simpa using hj)
theorem D5(h:Inv w0 sh nt μ fr e s a w){T:Nat->Option Fe}{n:Nat}(hT:kE P T n){f:Nat}{l:List X}{vs:Array Value}(hl:l.length=vs.size)
 (hv:∀(j:Nat) x v,l[j]?=some x->vs[j]?=some v->aW (aQ μ s w sh fr) x v) {x:X} {s':ay} (hs:qR (runN T n) T f l s=some (x,s')) :
 Calls P f vs w (fun e' w'=>∃v μ' fr',e'=.returned v/\Inv w0 sh nt μ' fr' e s' a w'/\aW (aQ μ' s' w' sh fr') x v):=by
 unfold qR at hs;split at hs
 case h_1=>simp at hs
 rename_i ys hys;split at hs
 case h_1=>simp at hs
 rename_i r hr;obtain⟨i1,i2⟩:=h.xu hys (l:=l.flatMap (Pf s)) (fun _ h=>h);obtain⟨hI0,hle0⟩:=h.gB (l.flatMap (Pf s));have hP:=hT f ys r hr w (fun b=>sh b\/(fr b\/∃o∈l.flatMap (Pf s),(s o).o.isSome=true/\b=μ o)) vs (w0.F9.below w0.F9.1 h.below) (by
  rintro b (hb|hb)
  ·exact Nat.lt_of_lt_of_le (h.jG b hb) h.below.size
  ·exact(hI0.gH b hb).2) (by omega) (by
  intro j y v hy hjv;have hj:=(List.getElem?_eq_some_iff.1 hy).1;have:=i2 (fun j=>vs.getD j undef) (fun j x hx=>hv j x _ hx (by have:=(List.getElem?_eq_some_iff.1 hx).1;simp[Array.getD_eq_getD_getElem?,Array.getElem?_eq_getElem (show j<vs.size by omega)])) j y hy
  simpa[Array.getD_eq_getD_getElem?,hjv]using this)
 refine hP.mono ?_;rintro e' w' ⟨v,fr',rfl,hb,hfr',hrep,hd⟩;split at hs
 case isFalse=>simp at hs
 rename_i hsc;simp only[aR,bq]at hs;obtain⟨rfl,rfl⟩:=hs;obtain⟨hI,_⟩:=h.news w' hb (fun b=>fr b) (fun _ h=>h) (fun b hb=>.inl hb);exact⟨v,μ,_,rfl,hI,hrep.eG hsc⟩
theorem Inv.dpT(h:Inv w0 sh nt μ fr e s a w){l:List Nat}:∀ {cs ds:List X},Go.Proofs.YtbmkfjmlepjpfaaGreatDoor.dpT s cs=some ds->(∀o∈cs.flatMap nR,o∈l)->
 ds.length=cs.length/\∀(j:Nat) c d v,cs[j]?=some c->ds[j]?=some d->aW (aQ μ s w sh fr) c v->aW (vw μ s w sh fr l) d v/\d.deep=true:=by
 intro cs;induction cs with
 | nil=>intro ds hd _;simp[Go.Proofs.YtbmkfjmlepjpfaaGreatDoor.dpT]at hd;subst hd;exact⟨rfl,by simp⟩
 | cons c cs ih=>
  intro ds hd hl;simp only[Go.Proofs.YtbmkfjmlepjpfaaGreatDoor.dpT]at hd;split at hd
  case h_2=>simp at hd
  rename_i y m hy hm;injection hd with hd;subst hd;obtain⟨i1,i2⟩:=ih hm (fun o ho=>hl o (by simp only[List.flatMap_cons,List.mem_append];exact .inr ho));refine⟨by simp[i1],?_⟩;intro j c' d v hc hdj hv;cases j with
  | zero=>
   simp at hc hdj;subst hc;subst hdj;exact h.oh hv hy (fun o ho=>hl o (by simp only[List.flatMap_cons,List.mem_append];exact .inl ho))
  | succ j=>exact i2 j c' d v (by simpa using hc) (by simpa using hdj) hv
theorem Inv.zn(h:Inv w0 sh nt μ fr e s a w){l:List Nat}:∀ {p:List Nat} {x r y:X} {v:Value},Go.Proofs.YtbmkfjmlepjpfaaGreatDoor.zn s p x=some (r,y)->(∀o∈Fg p x,o∈l)->aW (aQ μ s w sh fr) x v->
 ∃u,aW (aQ μ s w sh fr) y u/\∀(D:Cx) (z:X),Ovr w sh (fun b=>fr b\/∃o∈l,(s o).o.isSome=true/\b=μ o) D->z.one=true->aW D z u->aW D (plug p r z) v:=by
 have tr:∀ {D:Cx} {y:X} {v:Value},Ovr w sh (fun b=>fr b\/∃o∈l,(s o).o.isSome=true/\b=μ o) D->aW (vw μ s w sh fr l) y v->y.deep=true->aW D y v:=by intro D y v hD hy hd;obtain⟨h1,h2,h3⟩:=hD;exact hy.kQ hd (fun _ _ _ _ hc=>by rw[h1];exact hc) (fun _ _ _ hc=>by rw[h1];exact hc) h2 h3
 intro p;induction p with
 | nil=>
  intro x r y v hx _ hv;simp only[Go.Proofs.YtbmkfjmlepjpfaaGreatDoor.zn,aR,bq]at hx;obtain⟨rfl,rfl⟩:=hx;exact⟨v,hv,fun D z _ _ hz=>by simpa[plug]using hz⟩
 | cons i p ih=>
  intro x r y v hx hl hv;cases x
  case bU cs=>
   simp only[Go.Proofs.YtbmkfjmlepjpfaaGreatDoor.zn]at hx;split at hx
   case h_2=>simp at hx
   rename_i c hc;split at hx
   case h_2=>simp at hx
   rename_i hh y' ds hrec hds;simp only[aR,bq]at hx;obtain⟨rfl,rfl⟩:=hx;cases hv with
   | bU hlen hr=>
    rename_i vs;have hi:i<cs.length:=(List.getElem?_eq_some_iff.1 hc).1;obtain⟨u,hu,hpl⟩:=ih hrec (fun o ho=>hl o (by simp only[Fg,hc,List.mem_append];exact .inr ho)) (hr i c vs[i] hc (Array.getElem?_eq_getElem (by omega)));refine⟨u,hu,fun D z hD ho hz=>?_⟩;obtain⟨i1,i2⟩:=h.dpT hds (l:=l) (fun o ho=>hl o (by simp only[Fg,List.mem_append];exact .inl ho));have i1:ds.length=cs.length:=by simpa using i1
    simp only[plug];refine .bU (by simp[i1,hlen]) ?_;intro j c' v' hcj hvj;by_cases hj:j=i
    ·subst hj;have hvj':vs[j]?=some vs[j]:=Array.getElem?_eq_getElem (by omega);rw[hvj']at hvj
     injection hvj with hvj;subst hvj;rw[List.getElem?_set_self (by simp;omega)]at hcj
     injection hcj with hcj;subst hcj;simp only[List.getD_eq_getElem?_getD,List.getElem?_set_self (show j<ds.length by omega),Option.getD_some];exact hpl D z hD ho hz
    ·rw[List.getElem?_set_ne (Ne.symm hj),List.getElem?_set_ne (Ne.symm hj)]at hcj
     have hjl:j<cs.length:=by have:=(List.getElem?_eq_some_iff.1 hcj).1;omega
     have:=i2 j cs[j] c' v' (by rw[List.getElem?_set_ne (Ne.symm hj)];exact List.getElem?_eq_getElem hjl) hcj (hr j _ v' (List.getElem?_eq_getElem hjl) hvj);exact tr hD this.1 this.2
  case agg cs=>
   cases p with
   | cons=>simp[Go.Proofs.YtbmkfjmlepjpfaaGreatDoor.zn]at hx
   | nil=>
    simp only[Go.Proofs.YtbmkfjmlepjpfaaGreatDoor.zn]at hx;split at hx
    case h_2=>simp at hx
    rename_i c ds hc hds;simp only[aR,bq]at hx;obtain⟨rfl,rfl⟩:=hx;cases hv with
    | agg hlen hone hr=>
     rename_i vs;have hi:i<cs.length:=(List.getElem?_eq_some_iff.1 hc).1;refine⟨vs[i],hr i c _ hc (Array.getElem?_eq_getElem (by omega)),fun D z hD ho hz=>?_⟩;obtain⟨i1,i2,i3,i4⟩:=h.uM hds (l:=l) (fun o ho=>hl o (by simpa only[Fg]using ho));have i1:ds.length=cs.length:=by simpa using i1
     have i3:∀c∈ds,c.one=true:=i3 (fun c hc=>by
      rcases List.mem_or_eq_of_mem_set hc with hc|rfl
      ·exact hone c hc
      ·rfl)
     have i4:=i4 (fun j=>if j=i then .slice none 0 0 else vs.getD j undef) (fun j c hcj=>by
      by_cases hj:j=i
      ·subst hj;rw[List.getElem?_set_self (by omega)]at hcj
       injection hcj with hcj;subst hcj;simp only[if_true];exact .nil
      ·rw[List.getElem?_set_ne (Ne.symm hj)]at hcj
       have hjl:j<cs.length:=(List.getElem?_eq_some_iff.1 hcj).1;simp only[if_neg hj];refine hr j c _ hcj ?_;simp[Array.getD_eq_getD_getElem?,Array.getElem?_eq_getElem (show j<vs.size by omega)])
     simp only[plug];refine .agg (by simp[i1,hlen]) ?_ ?_
     ·intro c' hc';rcases List.mem_or_eq_of_mem_set hc' with hc'|rfl
      ·rcases List.mem_or_eq_of_mem_set hc' with hc'|rfl
       ·exact i3 c' hc'
       ·rfl
      ·exact ho
     ·intro j c' v' hcj hvj;by_cases hj:j=i
      ·subst hj;have hvj':vs[j]?=some vs[j]:=Array.getElem?_eq_getElem (by omega);rw[hvj']at hvj
       injection hvj with hvj;subst hvj;rw[List.getElem?_set_self (by simp;omega)]at hcj
       injection hcj with hcj;subst hcj;exact hz
      ·rw[List.getElem?_set_ne (Ne.symm hj),List.getElem?_set_ne (Ne.symm hj)]at hcj
       have:=i4 j c' hcj;simp only[if_neg hj,Array.getD_eq_getD_getElem?,hvj,Option.getD_some]at this;exact tr hD this (aX.1 i2 c' (jM hcj))
  all_goals simp[Go.Proofs.YtbmkfjmlepjpfaaGreatDoor.zn]at hx
theorem D6(h:Inv w0 sh nt μ fr e s a w){T:Nat->Option Fe}{n:Nat}(hT:mE P T n){st:Bool}{p:List Nat}{q f:Nat}{l:List X}{vs:Array Value}(hl:l.length=vs.size)
 (hv:∀(j:Nat) x v,l[j]?=some x->vs[j]?=some v->aW (aQ μ s w sh fr) x v) {x:X} {s':ay} (hs:pq (runN T n) T st p q f l s=some (x,s')) :
 Calls P f vs w (fun e' w'=>∃v μ' fr',e'=.returned v/\Inv w0 sh nt μ' fr' e s' a w'/\aW (aQ μ' s' w' sh fr') x v):=by
 unfold pq at hs;split at hs
 case h_1=>simp at hs
 rename_i ys hys;cases hr:um (runN T n) T p f ys with
 | none=>rw[hr]at hs;simp[ji]at hs
 | some ro=>
 obtain⟨r,ok⟩:=ro;rw[hr]at hs
 obtain⟨i1,i2⟩:=h.tq hys (l:=l.flatMap lU) (fun _ h=>h);obtain⟨hI0,hle0⟩:=h.gB (l.flatMap lU);have hP:=hT.2.1 p f ys r ok hr w (fun b=>sh b\/(fr b\/∃o∈l.flatMap lU,(s o).o.isSome=true/\b=μ o)) vs (w0.F9.below w0.F9.1 h.below) (by
  rintro b (hb|hb)
  ·exact Nat.lt_of_lt_of_le (h.jG b hb) h.below.size
  ·exact(hI0.gH b hb).2) (by omega) (by
  intro j y v hy hjv;have hj:=(List.getElem?_eq_some_iff.1 hy).1;have:=i2 (fun j=>vs.getD j undef) (fun j x hx=>hv j x _ hx (by have:=(List.getElem?_eq_some_iff.1 hx).1;simp[Array.getD_eq_getD_getElem?,Array.getElem?_eq_getElem (show j<vs.size by omega)])) j y hy
  simpa[Array.getD_eq_getD_getElem?,hjv]using this)
 refine hP.mono ?_;rintro e' w' ⟨v,fr',rfl,hb,hfr',hrest⟩;obtain⟨hI,hle⟩:=hI0.news w' hb (fun b=>(fr b\/∃o∈l.flatMap lU,(s o).o.isSome=true/\b=μ o)\/fr' b) (fun _ h=>.inl h) (fun b hb=>hb.imp id (hfr' b));have ov:∀ {D:Cx},D.w=w'->(∀b,sh b->D.sh b\/D.fr b)->(∀b,((fr b\/∃o∈l.flatMap lU,(s o).o.isSome=true/\b=μ o)\/fr' b)->D.fr b)->
  Ovr w' (fun b=>sh b\/(fr b\/∃o∈l.flatMap lU,(s o).o.isSome=true/\b=μ o)) fr' D:=by
  intro D h1 h2 h3;refine⟨h1,?_,fun b hb=>h3 b (.inr hb)⟩;rintro b (hb|hb)
  ·exact h2 b hb
  ·exact .inr (h3 b (.inl hb))
 cases ok with
 | none=>
  simp only[ji]at hs;split at hs
  ·simp at hs
  simp only[aR,bq]at hs;obtain⟨rfl,rfl⟩:=hs;exact⟨v,μ,_,rfl,hI,hrest _ (ov rfl (fun _ h=>.inl h) (fun _ h=>h))⟩
 | some kes=>
  obtain⟨k,es⟩:=kes;simp only[ji]at hs;split at hs
  ·simp at hs
  simp only[aR,bq]at hs;obtain⟨rfl,rfl⟩:=hs;obtain⟨b,hb1,hb2,hob,hrp⟩:=hrest;have hlt:∀ {c:Nat},(fr c\/∃o∈l.flatMap lU,(s o).o.isSome=true/\c=μ o)->c<w.heap.size:=fun hc=>(hI0.gH _ hc).2;obtain⟨hA,hleA⟩:=hI.ZG q b (.row k es) (gJ h.below.size hb1) (by
   rintro(hc|hc)
   ·have:=hlt hc;omega
   ·exact hb2 hc) (by
   intro o' ho' hm;obtain⟨ob',hob'⟩:=Option.isSome_iff_exists.1 ho';obtain⟨_,hcs⟩:=(hI0.obj o' ob' hob').1.block;have:=bV hcs;simp only[aQ]at this;omega) (fun C' hC hw h1 h2=>hob C' (ov hw (fun b hb=>.inl (h1 b hb)) h2))
  refine⟨v,_,_,rfl,hA,?_⟩;have hq:(gB s (l.flatMap lU) q).g=(s q).g:=by unfold Go.Proofs.YtbmkfjmlepjpfaaGreatDoor.gB;split<;>rfl
  refine hrp _ q _ (ov rfl (fun _ h=>.inl h) (fun _ h=>h)) (by omega) ?_ (by simp[aQ,upd_same]);simp[aQ,aO,upd_same,hq]
end
variable {P:Program}
section
variable {w0:Bs} {sh:Nat->Prop} {nt:Nat} {μ:Nat->Nat} {fr:Nat->Prop} {e:Env} {s:ay} {a:Act} {w:World}
theorem JW{ops:Array Oper}{o:Oper}{g:d9}(h:TB P nt ops o g=true):o.dst=g.d/\∀n,g.d=some n->n<nt:=by
 simp only[TB,bE]at h;have h:=h.1.1;cases hd:o.dst<;>cases hg:g.d<;>simp only[hd,hg,jI,bE,beq_iff_eq,decide_eq_true_eq]at h
 ·exact⟨rfl,by simp⟩
 ·obtain⟨rfl,h⟩:=h;exact⟨rfl,by simpa using h⟩
theorem ql(h:Inv w0 sh nt μ fr e s a w){ops:Array Oper}{o:Oper}{g:d9}(hok:TB P nt ops o g=true){t:Bool}(ht:gd g e=some t):Region.wanted o (yielded ops a.tmps)=t:=by
 simp only[TB,bE]at hok;have hok:=hok.1.2;unfold gd at ht;unfold Region.wanted;cases hd:o.guard<;>cases hg:g.g<;>simp only[hd,hg,jI,bE,beq_iff_eq]at hok ht
 ·simpa using ht
 ·rename_i p q;obtain⟨j,want⟩:=p;obtain⟨t',want'⟩:=q;simp only[bE,beq_iff_eq]at hok ht ⊢;obtain⟨rfl,hj⟩:=hok;split at hj
  case h_2=>simp at hj
  rename_i oj hoj;simp only[beq_iff_eq]at hj;split at ht
  case h_3=>simp at ht
  case h_2=>
   rename_i hb;injection ht with ht;subst ht;have hr:=h.env t';rw[hb]at hr
   generalize hv:a.tmps.getD t' undef=v at hr;cases hr with
   | @bU _ vs hl _=>
    have hy:yielded ops a.tmps j=none:=by
     unfold yielded;simp only[hoj,Option.bind_some,hj];by_cases hlt:t'<a.tmps.size
     ·simp only[Array.getD_eq_getD_getElem?,Array.getElem?_eq_getElem hlt,Option.getD_some]at hv;simp[Array.getElem?_eq_getElem hlt,hv]
     ·simp[Array.getElem?_eq_none (Nat.le_of_not_lt hlt)]
    rw[hy];rfl
  rename_i b hb;injection ht with ht;subst ht;have hr:=h.env t';rw[hb]at hr
  have hv:=(gW hr).1;have hlt:t'<a.tmps.size:=by
   by_cases hlt:t'<a.tmps.size
   ·exact hlt
   ·simp[Array.getD_eq_getD_getElem?,Array.getElem?_eq_none (Nat.le_of_not_lt hlt),undef]at hv
  have hy:yielded ops a.tmps j=some b:=by unfold yielded;simp only[hoj,Option.bind_some,hj];simp only[Array.getD_eq_getD_getElem?,Array.getElem?_eq_getElem hlt,Option.getD_some]at hv;simp[Array.getElem?_eq_getElem hlt,hv]
  rw[hy];cases b<;>cases want<;>rfl
def rF:Option Nat->Fence
 | none=>Fence.wide
 | some l=>Fence.wide.inRound l
theorem K5(r:Option Nat)(f:Nat):(rF r).fn f:=by cases r<;>trivial
theorem pW{r:Option Nat}{n:Nat}:(rF r).depth.isSome=true->1<=n:=by cases r<;>(intro h;simp[rF,Fence.wide,Fence.inRound]at h)
theorem lH{r:Option Nat}{n f:Nat}{args:Array Value}{w:World}{R:Ending->World->Prop}(h:Calls P f args w R):CallsIn (rF r) n P f args w R:=by
 have:=(callsIn_wide (n:=n)).2 h;cases r
 ·exact this
 ·exact this
theorem Rf{r:Option Nat}{n l f:Nat}{tm:Array Value}{cA cB:Code}{w:World}{R:Ending->World->Prop}(h:RoundIn Fence.wide 0 P l f tm cA cB w R):RoundIn (rF r) n P l f tm cA cB w R:=by
 have h2:RoundIn Fence.wide n P l f tm cA cB w R:=⟨h.1,fun c cs hr=>h.2 c cs (room_wide _)⟩
 cases r
 ·exact h2
 ·exact h2
theorem wG{o:Oper}{r:Option Nat}(hd:∀c,o.op≠.defer c){K:Act->World->Prop}{Q:Exit->Act->World->Prop}(h:o.uponIn (rF r) 0 P a K Q ((execOp a.eval o).run P w)):o.wpIn (rF r) 0 P a w K Q:=by
 refine⟨fun f _=>K5 r f,?_⟩;have:o.semAt (rF r).round a.eval=execOp a.eval o:=by
  cases r with
  | none=>rfl
  | some l=>exact Oper.semAt_some l _ _ hd
 rw[this];exact h
theorem Ho{op:Op}{io:gm}(h:(gL P op io||fE P op io)=true):∀c,op≠.defer c:=by rintro c rfl;cases io<;>simp[gL,bO,fE,mY]at h
theorem MI{op:Op}{st:Bool}{f:Nat}{l:List Ar}:gL P op (.call st f l)=false:=by
 cases h:gL P op (.call st f l)
 ·rfl
 ·have:=aJ h (by simp);cases op<;>simp[bO]at this
theorem Hf{op:Op}{st:Bool}{f:Ar}{l:List Ar}:gL P op (.fG st f l)=false:=by
 cases h:gL P op (.fG st f l)
 ·rfl
 ·have:=aJ h (by simp);cases op<;>simp[bO]at this
theorem G_{op:Op}{f:Nat}{l:List Ar}:gL P op (.bB f l)=false:=by
 cases h:gL P op (.bB f l)
 ·rfl
 ·have:=aJ h (by simp);cases op<;>simp[bO]at this
theorem G9{op:Op}{f:Nat}{l:List Ar}:gL P op (.j6 f l)=false:=by
 cases h:gL P op (.j6 f l)
 ·rfl
 ·have:=aJ h (by simp);cases op<;>simp[bO]at this
theorem He{op:Op}{st:Bool}{p:List Nat}{q f:Nat}{l:List Ar}:gL P op (.bL st p q f l)=false:=by
 cases h:gL P op (.bL st p q f l)
 ·rfl
 ·have:=aJ h (by simp);cases op<;>simp[bO]at this
theorem Hg{op:Op}{f:Ar}{l:List Ar}:gL P op (.fK f l)=false:=by
 cases h:gL P op (.fK f l)
 ·rfl
 ·have:=aJ h (by simp);cases op<;>simp[bO]at this
theorem Co{r:List It->Env->ay->Option (Env×ay)}{T:Nat->Option Fe}{f:Nat}{l:List X}{s:ay}{x:X×ay}(h:dD r T f l s=some x):(T f).isSome=true:=by
 unfold dD at h;split at h
 all_goals first|(rename_i hT;simp[hT];done)|(simp at h;done)
theorem Jt{r:List It->Env->ay->Option (Env×ay)}{T:Nat->Option Fe}{st:Bool}{f:Nat}{l:List X}{s:ay}{x:X×ay}(h:gP r T st f l s=some x):(T f).isSome=true:=by
 unfold gP at h;split at h
 ·simp at h
 ·split at h
  ·simp at h
  ·rename_i hr;unfold iW at hr;split at hr
   ·simp at hr
   all_goals (rename_i hT;simp[hT])
theorem opW(h:Inv w0 sh nt μ fr e s a w)(hLP:w0.ze=rU P){rq:Option Nat}{T:Nat->Option Fe}{n:Nat}(hT:kE P T n)(hI:mE P T n)(hF:∀f,(T f).isSome=true->kC P f=true){o:Oper}{io:gm}(hok:(gL P o.op io||fE P o.op io)=true){x:X}{s':ay}(hs:bW (runN T n) T io e s=some (x,s'))
 {K:Act->World->Prop} {Q:Exit->Act->World->Prop} (hK:∀v w' μ' fr',Inv w0 sh nt μ' fr' e s' a w'->aW (aQ μ' s' w' sh fr') x v->(b_ io=true->s'=s/\μ'=μ)->K (a.put o.dst v) w'):o.wpIn (rF rq) 0 P a w K Q:=by
 have hnd:=Ho hok;have plainOp:gL P o.op io=true->aA io e s=some (x,s')->(b_ io=dn io)->o.wpIn (rF rq) 0 P a w K Q:=by
  intro hok hs hsg;have fin:∀n v w' μ' fr',(execOp a.eval o).run P w=.ok n w'->(n=.value v\/n=.skip/\v=undef)->Inv w0 sh nt μ' fr' e s' a w'->aW (aQ μ' s' w' sh fr') x v->(b_ io=true->s'=s/\μ'=μ)->o.wpIn (rF rq) 0 P a w K Q:=by
   intro n v w' μ' fr' h1 h2 h3 h4 h5;refine wG hnd ?_;rw[h1];rcases h2 with rfl|⟨rfl,rfl⟩
   ·exact hK v w' μ' fr' h3 h4 h5
   ·exact hK undef w' μ' fr' h3 h4 h5
  by_cases hst:dn io=true
  ·obtain⟨rfl,n,v,w',fr',h1,h2,h3,h4⟩:=wQ h hok hst hs;exact fin n v w' μ fr' h1 h2 h3 h4 (fun _=>⟨rfl,rfl⟩)
  ·obtain⟨n,v,w',μ',fr',h1,h2,h3,h4⟩:=Ja h hok hs;exact fin n v w' μ' fr' h1 h2 h3 h4 (fun hq=>absurd (hsg▸hq) hst)
 have viaCall:∀ {st:Bool} {f:Nat} {l:List X} {vs:Array Value},l.length=vs.size->(∀(j:Nat) x v,l[j]?=some x->vs[j]?=some v->aW (aQ μ s w sh fr) x v)->gP (runN T n) T st f l s=some (x,s')->(b_ io=st)->
  (execOp a.eval o).run P w=.ok (.enter f vs) w->o.wpIn (rF rq) 0 P a w K Q:=by
  intro st f l vs hl hv hs hsg hrun;refine wG hnd ?_;rw[hrun,Oper.uponIn_enter];refine⟨pW,lH ((GA h hT hl hv hs).mono ?_)⟩;rintro e' w' ⟨v,μ',fr',rfl,hI,hr,hst⟩;exact hK v w' μ' fr' hI hr (fun hq=>hst (hsg▸hq))
 cases io
 case call st f l=>
  have hok:fE P o.op (.call st f l)=true:=by have:gL P o.op (.call st f l)=false:=MI;simpa[this]using hok
  cases hop:o.op<;>simp only[hop,fE,jI]at hok;rename_i c;split at hok
  case h_2=>simp at hok
  rename_i g hc;simp only[bE,beq_iff_eq]at hok;obtain⟨⟨rfl,hl⟩,hf⟩:=hok;obtain⟨h1,h2⟩:=fQ h.env hl;unfold kC at hf;split at hf
  case h_2=>simp at hf
  rename_i fn hfn;simp only[bE,bne_iff_ne,ne_eq]at hf;obtain⟨body,hbody⟩:=Option.isSome_iff_exists.1 hf.1;refine viaCall (st:=st) (l:=l.map (Ar.ev e)) (vs:=c.args.map a.eval) (by simpa using h1) ?_ (by simpa[bW]using hs) rfl ?_
  ·intro j x' v hx hv;simp only[List.getElem?_map,Option.map_eq_some_iff]at hx;obtain⟨r,hr,rfl⟩:=hx;simp only[Array.getElem?_map,Option.map_eq_some_iff]at hv;obtain⟨y,hy,rfl⟩:=hv;exact h2 j r y hr (by simpa using hy)
  ·simp[execOp,hop,resolve,hc,Act.eval,Deferred.ofValue,invoke,callFunc,hfn,hf.2,hbody]
 case bB f l=>
  have hok:fE P o.op (.bB f l)=true:=by have:gL P o.op (.bB f l)=false:=G_;simpa[this]using hok
  cases hop:o.op<;>simp only[hop,fE,jI]at hok;rename_i c;split at hok
  case h_2=>simp at hok
  rename_i g hc;simp only[bE,beq_iff_eq]at hok;obtain⟨⟨rfl,hl⟩,hf⟩:=hok;obtain⟨h1,h2⟩:=fQ h.env hl;unfold kC at hf;split at hf
  case h_2=>simp at hf
  rename_i fn hfn;simp only[bE,bne_iff_ne,ne_eq]at hf;obtain⟨body,hbody⟩:=Option.isSome_iff_exists.1 hf.1;have hrun:(execOp a.eval o).run P w=.ok (.enter f (c.args.map a.eval)) w:=by simp[execOp,hop,resolve,hc,Act.eval,Deferred.ofValue,invoke,callFunc,hfn,hf.2,hbody]
  refine wG hnd ?_;rw[hrun,Oper.uponIn_enter];refine⟨pW,lH ((hI.1 f _ s x s' (by simpa[bW]using hs) h hLP (c.args.map a.eval) (by simpa using h1) ?_).mono ?_)⟩
  ·intro j x' v hx hv;simp only[List.getElem?_map,Option.map_eq_some_iff]at hx;obtain⟨r,hr,rfl⟩:=hx;simp only[Array.getElem?_map,Option.map_eq_some_iff]at hv;obtain⟨y,hy,rfl⟩:=hv;exact h2 j r y hr (by simpa using hy)
  ·rintro e' w' ⟨v,μ',fr',rfl,hI,hr,_⟩;exact hK v w' μ' fr' hI hr (fun hq=>by simp[b_,dn]at hq)
 case j6 f l=>
  have hok:fE P o.op (.j6 f l)=true:=by have:gL P o.op (.j6 f l)=false:=G9;simpa[this]using hok
  cases hop:o.op<;>simp only[hop,fE,jI]at hok;rename_i c;split at hok
  case h_2=>simp at hok
  rename_i g hc;simp only[bE,beq_iff_eq]at hok;obtain⟨⟨rfl,hl⟩,hf⟩:=hok;obtain⟨h1,h2⟩:=fQ h.env hl;unfold kC at hf;split at hf
  case h_2=>simp at hf
  rename_i fn hfn;simp only[bE,bne_iff_ne,ne_eq]at hf;obtain⟨body,hbody⟩:=Option.isSome_iff_exists.1 hf.1;have hrun:(execOp a.eval o).run P w=.ok (.enter f (c.args.map a.eval)) w:=by simp[execOp,hop,resolve,hc,Act.eval,Deferred.ofValue,invoke,callFunc,hfn,hf.2,hbody]
  refine wG hnd ?_;rw[hrun,Oper.uponIn_enter];refine⟨pW,lH ((D5 h hT (l:=l.map (Ar.ev e)) (vs:=c.args.map a.eval) (by simpa using h1) ?_ (by simpa[bW]using hs)).mono ?_)⟩
  ·intro j x' v hx hv;simp only[List.getElem?_map,Option.map_eq_some_iff]at hx;obtain⟨r,hr,rfl⟩:=hx;simp only[Array.getElem?_map,Option.map_eq_some_iff]at hv;obtain⟨y,hy,rfl⟩:=hv;exact h2 j r y hr (by simpa using hy)
  ·rintro e' w' ⟨v,μ',fr',rfl,hI,hr⟩;exact hK v w' μ' fr' hI hr (fun hq=>by simp[b_,dn]at hq)
 case bL st p q f l=>
  have hok:fE P o.op (.bL st p q f l)=true:=by have:gL P o.op (.bL st p q f l)=false:=He;simpa[this]using hok
  cases hop:o.op<;>simp only[hop,fE,jI]at hok;rename_i c;split at hok
  case h_2=>simp at hok
  rename_i g hc;simp only[bE,beq_iff_eq]at hok;obtain⟨⟨rfl,hl⟩,hf⟩:=hok;obtain⟨h1,h2⟩:=fQ h.env hl;unfold kC at hf;split at hf
  case h_2=>simp at hf
  rename_i fn hfn;simp only[bE,bne_iff_ne,ne_eq]at hf;obtain⟨body,hbody⟩:=Option.isSome_iff_exists.1 hf.1;have hrun:(execOp a.eval o).run P w=.ok (.enter f (c.args.map a.eval)) w:=by simp[execOp,hop,resolve,hc,Act.eval,Deferred.ofValue,invoke,callFunc,hfn,hf.2,hbody]
  refine wG hnd ?_;rw[hrun,Oper.uponIn_enter];refine⟨pW,lH ((D6 h hI (l:=l.map (Ar.ev e)) (vs:=c.args.map a.eval) (by simpa using h1) ?_ (by simpa[bW]using hs)).mono ?_)⟩
  ·intro j x' v hx hv;simp only[List.getElem?_map,Option.map_eq_some_iff]at hx;obtain⟨r,hr,rfl⟩:=hx;simp only[Array.getElem?_map,Option.map_eq_some_iff]at hv;obtain⟨y,hy,rfl⟩:=hv;exact h2 j r y hr (by simpa using hy)
  ·rintro e' w' ⟨v,μ',fr',rfl,hI,hr⟩;exact hK v w' μ' fr' hI hr (fun hq=>by simp[b_,dn]at hq)
 case fK f l=>
  have hok:fE P o.op (.fK f l)=true:=by have:gL P o.op (.fK f l)=false:=Hg;simpa[this]using hok
  simp only[bW]at hs;split at hs
  case h_4=>simp at hs
  ·rename_i g cs hg;cases hop:o.op<;>simp only[hop,fE,jI]at hok;rename_i c;split at hok
   case h_2=>simp at hok
   rename_i y hc;simp only[bE]at hok;obtain⟨hy,hl⟩:=hok;obtain⟨h1,h2⟩:=fQ h.env hl;have hr:=aD h.env hy;rw[hg]at hr
   have hf:=hF g (by
    split at hs
    ·exact Jt hs
    ·exact Co hs)
   unfold kC at hf;split at hf
   case h_2=>simp at hf
   rename_i fn hfn;simp only[bE,bne_iff_ne,ne_eq]at hf;obtain⟨body,hbody⟩:=Option.isSome_iff_exists.1 hf.1;generalize hv:a.eval y=v at hr;cases hr with
   | @fn _ _ us hl' hr'=>
    have hrun:(execOp a.eval o).run P w=.ok (.enter g (c.args.map a.eval++us)) w:=by simp[execOp,hop,resolve,hc,hv,Deferred.ofValue,invoke,callFunc,hfn,hf.2,hbody]
    have hargs:∀(j:Nat) x' v,(l.map (Ar.ev e)++cs)[j]?=some x'->(c.args.map a.eval++us)[j]?=some v->aW (aQ μ s w sh fr) x' v:=by
     have hsz:(c.args.map a.eval).size=(l.map (Ar.ev e)).length:=by simpa using h1.symm
     intro j x' v hx hv;by_cases hj:j<(l.map (Ar.ev e)).length
     ·rw[List.getElem?_append_left hj]at hx
      rw[Array.getElem?_append_left (by omega)]at hv
      simp only[List.getElem?_map,Option.map_eq_some_iff]at hx;obtain⟨r,hr,rfl⟩:=hx;simp only[Array.getElem?_map,Option.map_eq_some_iff]at hv;obtain⟨y',hy',rfl⟩:=hv;exact h2 j r y' hr (by simpa using hy')
     ·rw[List.getElem?_append_right (by omega)]at hx
      rw[Array.getElem?_append_right (by omega),hsz]at hv
      exact hr' _ x' v hx hv
    have hlen:(l.map (Ar.ev e)++cs).length=(c.args.map a.eval++us).size:=by simp[hl'];simpa using h1
    split at hs
    ·exact viaCall hlen hargs hs rfl hrun
    ·refine wG hnd ?_;rw[hrun,Oper.uponIn_enter];refine⟨pW,lH ((hI.1 g _ s x s' hs h hLP (c.args.map a.eval++us) hlen hargs).mono ?_)⟩;rintro e' w' ⟨v,μ',fr',rfl,hI,hr,_⟩;exact hK v w' μ' fr' hI hr (fun hq=>by simp[b_,dn]at hq)
  ·rename_i g cs hg;cases hop:o.op<;>simp only[hop,fE,jI]at hok;rename_i c;split at hok
   case h_2=>simp at hok
   rename_i y hc;simp only[bE]at hok;obtain⟨hy,hl⟩:=hok;obtain⟨h1,h2⟩:=fQ h.env hl;have hr:=aD h.env hy;rw[hg]at hr
   have hf:=hF g (Co hs);unfold kC at hf;split at hf
   case h_2=>simp at hf
   rename_i fn hfn;simp only[bE,bne_iff_ne,ne_eq]at hf;obtain⟨body,hbody⟩:=Option.isSome_iff_exists.1 hf.1;generalize hv:a.eval y=v at hr;cases hr with
   | @fm _ _ us hl' hr'=>
    have hrun:(execOp a.eval o).run P w=.ok (.enter g (us++c.args.map a.eval)) w:=by simp[execOp,hop,resolve,hc,hv,Deferred.ofValue,invoke,callFunc,hfn,hf.2,hbody]
    refine wG hnd ?_;rw[hrun,Oper.uponIn_enter];refine⟨pW,lH ((hI.1 g _ s x s' hs h hLP (us++c.args.map a.eval) (by simp[hl'];simpa using h1) ?_).mono ?_)⟩
    ·intro j x' v hx hv;by_cases hj:j<cs.length
     ·rw[List.getElem?_append_left hj]at hx
      rw[Array.getElem?_append_left (by omega)]at hv
      exact hr' _ x' v hx hv
     ·rw[List.getElem?_append_right (by omega)]at hx
      rw[Array.getElem?_append_right (by omega),<-hl']at hv
      simp only[List.getElem?_map,Option.map_eq_some_iff]at hx;obtain⟨r,hr,rfl⟩:=hx;simp only[Array.getElem?_map,Option.map_eq_some_iff]at hv;obtain⟨y',hy',rfl⟩:=hv;exact h2 _ r y' hr (by simpa using hy')
    ·rintro e' w' ⟨v,μ',fr',rfl,hI,hr,_⟩;exact hK v w' μ' fr' hI hr (fun hq=>by simp[b_,dn]at hq)
  ·rename_i q g hg;cases hop:o.op<;>simp only[hop,fE,jI]at hok;rename_i c;split at hok
   case h_2=>simp at hok
   rename_i y hc;simp only[bE]at hok;obtain⟨hy,hl⟩:=hok;obtain⟨h1,h2⟩:=fQ h.env hl;have hr:=aD h.env hy;rw[hg]at hr
   generalize hv:a.eval y=v at hr;cases hr with
   | Dx g1 g2 g3 g4=>
    obtain⟨hgq,f',tm,cA,cB,hyr,hR⟩:=hI.2.2 q g _ s x s' hs h hLP g1 (c.args.map a.eval) (by simpa using h1) (by intro j x' v hx hv;simp only[List.getElem?_map,Option.map_eq_some_iff]at hx;obtain⟨r,hr,rfl⟩:=hx;simp only[Array.getElem?_map,Option.map_eq_some_iff]at hv;obtain⟨y,hy,rfl⟩:=hv;exact h2 j r y hr (by simpa using hy))
    have hvv:=g3 hgq.symm;have hrun:(execOp a.eval o).run P w=.ok (.round (μ q) f' tm cA cB) w:=by rw[<-hyr];simp[execOp,hop,resolve,hc,hv,hvv,aQ,Deferred.ofValue,invoke,callFunc]
    refine wG hnd ?_;rw[hrun,Oper.uponIn_round];refine⟨pW,Rf (hR.mono ?_)⟩;rintro e' w' ⟨v,μ',fr',rfl,hI,hr⟩;exact hK v w' μ' fr' hI hr (fun hq=>by simp[b_,dn]at hq)
 case fG st f l=>
  have hok:fE P o.op (.fG st f l)=true:=by have:gL P o.op (.fG st f l)=false:=Hf;simpa[this]using hok
  simp only[bW]at hs;split at hs
  case h_2=>simp at hs
  rename_i g cs hg;cases hop:o.op<;>simp only[hop,fE,jI]at hok;rename_i c;split at hok
  case h_2=>simp at hok
  rename_i y hc;simp only[bE]at hok;obtain⟨hy,hl⟩:=hok;obtain⟨h1,h2⟩:=fQ h.env hl;have hr:=aD h.env hy;rw[hg]at hr
  have hf:=hF g (Jt hs);unfold kC at hf;split at hf
  case h_2=>simp at hf
  rename_i fn hfn;simp only[bE,bne_iff_ne,ne_eq]at hf;obtain⟨body,hbody⟩:=Option.isSome_iff_exists.1 hf.1;generalize hv:a.eval y=v at hr;cases hr with
  | @fn _ _ us hl' hr'=>
   refine viaCall (l:=l.map (Ar.ev e)++cs) (vs:=c.args.map a.eval++us) (by simp[hl'];simpa using h1) ?_ hs rfl ?_
   ·have hsz:(c.args.map a.eval).size=(l.map (Ar.ev e)).length:=by simpa using h1.symm
    intro j x' v hx hv;by_cases hj:j<(l.map (Ar.ev e)).length
    ·rw[List.getElem?_append_left hj]at hx
     rw[Array.getElem?_append_left (by omega)]at hv
     simp only[List.getElem?_map,Option.map_eq_some_iff]at hx;obtain⟨r,hr,rfl⟩:=hx;simp only[Array.getElem?_map,Option.map_eq_some_iff]at hv;obtain⟨y',hy',rfl⟩:=hv;exact h2 j r y' hr (by simpa using hy')
    ·rw[List.getElem?_append_right (by omega)]at hx
     rw[Array.getElem?_append_right (by omega),hsz]at hv
     exact hr' _ x' v hx hv
   ·simp[execOp,hop,resolve,hc,hv,Deferred.ofValue,invoke,callFunc,hfn,hf.2,hbody]
 all_goals
  refine plainOp ?_ (by simpa[bW]using hs) rfl;refine(Bool.or_eq_true _ _▸hok).resolve_right ?_;cases o.op<;>simp[fE]
end
variable {P:Program}
def Qk(T:Nat->Option Fe)(w0:Bs)(sh:Nat->Prop)(nt n:Nat)(k:List It)(rq:Option Nat)(x:Env×ay):Exit->Act->World->Prop
 | .normal,a,w=>∃m,m<n/\∃μ fr e s,Inv w0 sh nt μ fr e s a w/\runN T m k e s=some x
 | .exit id,a,w=>(∃k' m,bD id k=some k'/\m<n/\∃μ fr e s,Inv w0 sh nt μ fr e s a w/\runN T m k' e s=some x)\/
  ∃q μ fr s,rq=some q/\bD id k=none/\Inv w0 sh nt μ fr x.1 s a w/\xA s q (some id)=some x.2
 | .ret,a,w=>(rq=none/\∃μ fr,Inv w0 sh nt μ fr x.1 x.2 a w)\/∃q μ fr s,rq=some q/\Inv w0 sh nt μ fr x.1 s a w/\xA s q none=some x.2
 | _,_,_=>False
theorem Qk.mono{T:Nat->Option Fe}{w0:Bs}{sh:Nat->Prop}{nt n m:Nat}{k:List It}{rq:Option Nat}{x:Env×ay}(h:n<=m){e:Exit}{a:Act}{w:World}(hq:Qk T w0 sh nt n k rq x e a w):Qk T w0 sh nt m k rq x e a w:=by
 cases e with
 | normal=>obtain⟨q,hq,r⟩:=hq;exact⟨q,by omega,r⟩
 | exit id=>
  rcases hq with⟨k',q,h1,hq,r⟩|hq
  ·exact .inl ⟨k',q,h1,by omega,r⟩
  ·exact .inr hq
 | ret=>exact hq
 | _=>exact hq
section
variable {T:Nat->Option Fe} {w0:Bs} {sh:Nat->Prop} {nt:Nat} {k:List It} {x:Env×ay} {ops:Array Oper}
theorem zm(hLP:w0.ze=rU P){r:Option Nat}{Q:Exit->Act->World->Prop}(hF:∀f,(T f).isSome=true->kC P f=true):∀ {l:List Oper} {gl:List d9} {n N:Nat} {μ:Nat->Nat} {fr:Nat->Prop} {e:Env} {s:ay} {a:Act} {w:World},uj P nt ops l gl=true->n<=N->(∀m,m<N->kE P T m/\mE P T m)->(∀m μ fr e s a w,m<N->Inv w0 sh nt μ fr e s a w->runN T m k e s=some x->Q .normal a w)->
 Inv w0 sh nt μ fr e s a w->runN T n (.ops gl::k) e s=some x->wpListIn (rF r) 0 P ops Q l a w:=by
 intro l;induction l with
 | nil=>
  intro gl n N μ fr e s a w hok hn hT hQ h hr;cases gl with
  | cons=>simp[uj]at hok
  | nil=>
   cases n with
   | zero=>simp[runN]at hr
   | succ n=>exact wpListIn_nil (hQ n μ fr e s a w (by omega) h (by simpa only[runN]using hr))
 | cons o l ih=>
  intro gl n N μ fr e s a w hok hn hT hQ h hr;cases gl with
  | nil=>simp[uj]at hok
  | cons g gl=>
   cases n with
   | zero=>simp[runN]at hr
   | succ n=>
    simp only[uj,bE]at hok;obtain⟨hd,hdn⟩:=JW hok.1;have hop:(gL P o.op g.op||fE P o.op g.op)=true:=by have:=hok.1;simp only[TB,bE]at this;exact this.2
    simp only[runN]at hr;unfold wpListIn;split at hr
    ·rename_i hg;rw[if_pos (ql h hok.1 hg)];split at hr
     case h_2=>simp at hr
     rename_i y s' hy;refine opW h hLP (hT n (by omega)).1 (hT n (by omega)).2 hF hop hy fun v w' μ' fr' hI hrep _=>?_
     rw[hd];exact ih hok.2 (by omega) hT hQ (hI.put hdn hrep) hr
    ·rename_i hg;rw[if_neg (by rw[ql h hok.1 hg];simp)];rw[hd];refine⟨fun f _=>K5 r f,?_⟩;exact ih hok.2 (by omega) hT hQ (h.put hdn (.bU rfl (by simp))) hr
    ·simp at hr
theorem Po(hLP:w0.ze=rU P){rq r:Option Nat}(hF:∀f,(T f).isSome=true->kC P f=true){l:List Oper}{gl:List d9}{n N:Nat}{μ:Nat->Nat}{fr:Nat->Prop}{e:Env}{s:ay}{a:Act}{w:World}(hok:uj P nt ops l gl=true)(hn:n<=N)(hT:∀m,m<N->kE P T m/\mE P T m)
 (h:Inv w0 sh nt μ fr e s a w) (hr:runN T n (.ops gl::k) e s=some x):wpListIn (rF r) 0 P ops (Qk T w0 sh nt N k rq x) l a w:=
 zm hLP hF hok hn hT (fun m μ fr e s a w hm hI hr=>⟨m,hm,μ,fr,e,s,hI,hr⟩) h hr
end
theorem OC{e e':Env}{a:Ar}(h:∀n∈a.sl,e n=e' n):a.ev e=a.ev e':=by
 cases a with
 | t n=>exact h n (by simp[Ar.sl])
 | k x=>rfl
theorem Rh{op:gm}{e e':Env}(h:∀n∈op.rd,e n=e' n):∀a∈op.og,a.ev e=a.ev e':=fun a ha=>OC fun n hn=>h n (List.mem_flatMap.2 ⟨a,ha,hn⟩)
theorem qc{e e':Env}{a:Option Ar}{d y:Nat}(h:∀b∈MP a,b.ev e=b.ev e'):bnd e a d y=bnd e' a d y:=by
 cases a with
 | none=>rfl
 | some a=>simp only[bnd,h a (by simp[MP])]
theorem GL{e e':Env}:∀ {ps:List (Nat×Nat×Ar)} {cs:List X},(∀a∈ps.map fun p=>p.2.2,a.ev e=a.ev e')->fill e cs ps=fill e' cs ps:=by
 intro ps;induction ps with
 | nil=>intro cs _;rfl
 | cons p ps ih=>
  intro cs h;obtain⟨j,w,a⟩:=p;have ha:a.ev e=a.ev e':=h a (by simp);simp only[fill,ha];split
  ·exact ih (fun n hn=>h n (by simp only[List.map_cons];exact List.mem_cons_of_mem _ hn))
  ·rfl
theorem pG{e e':Env}{s s':ay}{k:Nat}:∀ {ps:List (Nat×Ar)} {es:List X},(∀a∈ps.map fun p=>p.2,a.ev e=a.ev e'/\oh s (a.ev e')=oh s' (a.ev e'))->iY e s k es ps=iY e' s' k es ps:=by
 intro ps;induction ps with
 | nil=>intro cs _;rfl
 | cons p ps ih=>
  intro es h;obtain⟨j,a⟩:=p;obtain⟨ha,hb⟩:=h a (by simp);simp only[iY,ha,hb,ih (fun n hn=>h n (by simp only[List.map_cons];exact List.mem_cons_of_mem _ hn))]
theorem G6{e e':Env}{mx:Bool}:∀ {l:List Ar} {u:Value},(∀a∈l,a.ev e=a.ev e')->pK mx e u l=pK mx e' u l:=by
 intro l;induction l with
 | nil=>intro u _;rfl
 | cons a l ih=>
  intro u h;have ha:a.ev e=a.ev e':=h a (by simp);simp only[pK,ha,fun u=>ih (u:=u) (fun n hn=>h n (List.mem_cons_of_mem _ hn))]
theorem wP{e e':Env}{s:ay}{io:gm}(h:∀a∈io.og,a.ev e=a.ev e'):aA io e s=aA io e' s:=by
 have at1:∀ {a:Ar},io.og=[a]->a.ev e=a.ev e':=fun hq=>h _ (by simp[hq]);have at2:∀ {a b:Ar},io.og=[a,b]->a.ev e=a.ev e'/\b.ev e=b.ev e':=fun hq=>⟨h _ (by simp[hq]),h _ (by simp[hq])⟩
 have at3:∀ {a b c:Ar},io.og=[a,b,c]->a.ev e=a.ev e'/\b.ev e=b.ev e'/\c.ev e=c.ev e':=fun hq=>⟨h _ (by simp[hq]),h _ (by simp[hq]),h _ (by simp[hq])⟩
 cases io
 case call=>rfl
 case fG=>rfl
 case bB=>rfl
 case j6=>rfl
 case bL=>rfl
 case fK=>rfl
 case build z ps=>simp only[aA,GL (e:=e) (e':=e') (ps:=ps) h]
 case jA k n z ps=>simp only[aA,pG (e:=e) (e':=e') (s':=s) (ps:=ps) (fun a ha=>⟨h a ha,rfl⟩)]
 case kG o k n z ps=>simp only[aA,pG (e:=e) (e':=e') (s':=s) (ps:=ps) (fun a ha=>⟨h a ha,rfl⟩)]
 case sls a lo hi=>
  have h1:a.ev e=a.ev e':=h a (by simp[gm.og]);have h2:∀d y,bnd e lo d y=bnd e' lo d y:=fun d y=>qc fun b hb=>h b (by simp[gm.og,hb]);have h3:∀d y,bnd e hi d y=bnd e' hi d y:=fun d y=>qc fun b hb=>h b (by simp[gm.og,hb]);simp only[aA,h1,h2,h3]
 case RB k a lo hi=>
  have h1:a.ev e=a.ev e':=h a (by simp[gm.og]);have h2:∀d y,bnd e lo d y=bnd e' lo d y:=fun d y=>qc fun b hb=>h b (by simp[gm.og,hb]);have h3:∀d y,bnd e hi d y=bnd e' hi d y:=fun d y=>qc fun b hb=>h b (by simp[gm.og,hb]);simp only[aA,h1,h2,h3]
 case a_ mx a l=>
  have h1:a.ev e=a.ev e':=h a (by simp[gm.og]);have h2:∀u,pK mx e u l=pK mx e' u l:=fun u=>G6 fun b hb=>h b (by simp[gm.og,hb]);simp only[aA,h1,h2]
 case GY f l=>
  have h1:l.map (Ar.ev e)=l.map (Ar.ev e'):=List.map_congr_left h;simp only[aA,h1]
 case EX f l=>
  have h1:l.map (Ar.ev e)=l.map (Ar.ev e'):=List.map_congr_left h;simp only[aA,h1]
 case GZ o hh=>
  cases hh with
  | none=>rfl
  | some a=>
   have h1:a.ev e=a.ev e':=h a (by simp[gm.og,MP]);have h2:yU e (some a)=yU e' (some a):=by simp only[yU,h1]
   simp only[aA,h2]
 case pick a b c=>obtain⟨h1,h2,h3⟩:=at3 (a:=a) (b:=b) (c:=c) rfl;simp only[aA,h1,h2,h3]
 case Pb a b c=>obtain⟨h1,h2,h3⟩:=at3 (a:=a) (b:=b) (c:=c) rfl;simp only[aA,h1,h2,h3]
 case NN ks ag a b c=>obtain⟨h1,h2,h3⟩:=at3 (a:=a) (b:=b) (c:=c) rfl;simp only[aA,h1,h2,h3]
 case st a b w=>obtain⟨h1,h2⟩:=at2 (a:=a) (b:=b) rfl;simp only[aA,h1,h2]
 case app o k lim a b=>obtain⟨h1,h2⟩:=at2 (a:=a) (b:=b) rfl;simp only[aA,h1,h2]
 case NK o k lim a b=>obtain⟨h1,h2⟩:=at2 (a:=a) (b:=b) rfl;simp only[aA,h1,h2]
 case ZH o k z d a b=>obtain⟨h1,h2⟩:=at2 (a:=a) (b:=b) rfl;simp only[aA,h1,h2]
 case Mw o k z a b lim=>obtain⟨h1,h2⟩:=at2 (a:=a) (b:=b) rfl;simp only[aA,h1,h2]
 case G5 ks ag a b z ok=>obtain⟨h1,h2⟩:=at2 (a:=a) (b:=b) rfl;simp only[aA,h1,h2]
 case O9 ks ag a b z=>obtain⟨h1,h2⟩:=at2 (a:=a) (b:=b) rfl;simp only[aA,h1,h2]
 case bin op a b=>obtain⟨h1,h2⟩:=at2 (a:=a) (b:=b) rfl;simp only[aA,h1,h2]
 case eqs neg ks a b=>obtain⟨h1,h2⟩:=at2 (a:=a) (b:=b) rfl;simp only[aA,h1,h2]
 case ZX neg a b=>obtain⟨h1,h2⟩:=at2 (a:=a) (b:=b) rfl;simp only[aA,h1,h2]
 case dK a b w=>obtain⟨h1,h2⟩:=at2 (a:=a) (b:=b) rfl;simp only[aA,h1,h2]
 case Bo a b w n=>obtain⟨h1,h2⟩:=at2 (a:=a) (b:=b) rfl;simp only[aA,h1,h2]
 case F_ a b=>obtain⟨h1,h2⟩:=at2 (a:=a) (b:=b) rfl;simp only[aA,h1,h2]
 case ixv a b w n ag=>obtain⟨h1,h2⟩:=at2 (a:=a) (b:=b) rfl;simp only[aA,h1,h2]
 case bF a=>have h1:=at1 (a:=a) rfl;simp only[aA,h1]
 case box o a=>have h1:=at1 (a:=a) rfl;simp only[aA,h1]
 case xZ a=>have h1:=at1 (a:=a) rfl;simp only[aA,h1]
 case ld a w ag=>have h1:=at1 (a:=a) rfl;simp only[aA,h1]
 case Sg a=>have h1:=at1 (a:=a) rfl;simp only[aA,h1]
 case un op a=>have h1:=at1 (a:=a) rfl;simp only[aA,h1]
 case cvs a=>have h1:=at1 (a:=a) rfl;simp only[aA,h1]
 case conv k a=>have h1:=at1 (a:=a) rfl;simp only[aA,h1]
 case fa a j=>have h1:=at1 (a:=a) rfl;simp only[aA,h1]
 case JF a j w ag=>have h1:=at1 (a:=a) rfl;simp only[aA,h1]
 case len a=>have h1:=at1 (a:=a) rfl;simp only[aA,h1]
 case lens a=>have h1:=at1 (a:=a) rfl;simp only[aA,h1]
 case ext a i=>have h1:=at1 (a:=a) rfl;simp only[aA,h1]
 case Sc neg a=>have h1:=at1 (a:=a) rfl;simp only[aA,h1]
 case Sb neg a=>have h1:=at1 (a:=a) rfl;simp only[aA,h1]
 case no=>rfl
 case Mx a=>have h1:=at1 (a:=a) rfl;simp only[aA,h1]
theorem MN{r:List It->Env->ay->Option (Env×ay)}{T:Nat->Option Fe}{e e':Env}{s:ay}{io:gm}(h:∀n∈io.rd,e n=e' n):bW r T io e s=bW r T io e' s:=by
 replace h:=Rh h;cases io
 case call st f l=>simp only[bW,show l.map (Ar.ev e)=l.map (Ar.ev e')from List.map_congr_left h]
 case bB f l=>simp only[bW,show l.map (Ar.ev e)=l.map (Ar.ev e')from List.map_congr_left h]
 case bL st p q f l=>simp only[bW,show l.map (Ar.ev e)=l.map (Ar.ev e')from List.map_congr_left h]
 case fK f l=>
  have h1:f.ev e=f.ev e':=h f (by simp[gm.og]);have h2:l.map (Ar.ev e)=l.map (Ar.ev e'):=List.map_congr_left fun a ha=>h a (by simp[gm.og,ha]);simp only[bW,h1,h2]
 case j6 f l=>simp only[bW,show l.map (Ar.ev e)=l.map (Ar.ev e')from List.map_congr_left h]
 case fG st f l=>
  have h1:f.ev e=f.ev e':=h f (by simp[gm.og]);have h2:l.map (Ar.ev e)=l.map (Ar.ev e'):=List.map_congr_left fun a ha=>h a (by simp[gm.og,ha]);simp only[bW,h1,h2]
 all_goals
  simp only[bW];exact wP h
theorem EM{e e':Env}{g:d9}(h:∀n∈g.rd,e n=e' n):gd g e=gd g e':=by
 unfold gd;split
 ·rfl
 ·rename_i t want hg;have:e t=e' t:=h t (by simp[d9.rd,hg]);rw[this]
theorem nZ{io:gm}{e:Env}{s s':ay}{x:X}(hst:dn io=true)(h:aA io e s=some (x,s')):s'=s:=by
 cases io<;>simp only[dn,jI]at hst<;>simp only[aA,qL]at h
 all_goals
  repeat' split at h
  all_goals first
   | (simp only[aR,bq]at h;exact h.2.symm)
   | (simp at h;done)
theorem vV{r:List It->Env->ay->Option (Env×ay)}{T:Nat->Option Fe}{f:Nat}{l:List X}{s s':ay}{x:X}(h:gP r T true f l s=some (x,s')):s'=s:=by
 unfold gP at h;split at h
 ·simp at h
 split at h
 ·simp at h
 split at h
 ·simp only[aR,bq]at h;exact h.2.symm
 rw[if_pos rfl]at h
 split at h
 ·simp only[aR,bq]at h;exact h.2.symm
 ·simp at h
theorem FZ{r:List It->Env->ay->Option (Env×ay)}{T:Nat->Option Fe}{io:gm}{e:Env}{s s':ay}{x:X}(hst:b_ io=true)(h:bW r T io e s=some (x,s')):s'=s:=by
 cases io
 case call st f l=>
  simp only[b_]at hst;subst hst;exact vV h
 case fG st f l=>
  simp only[b_]at hst;subst hst;simp only[bW]at h;split at h
  ·exact vV h
  ·simp at h
 case bB=>simp[b_,dn]at hst
 case j6=>simp[b_,dn]at hst
 case bL=>simp[b_,dn]at hst
 case fK=>simp[b_,dn]at hst
 all_goals
  simp only[bW]at h;exact nZ (by simpa only[b_]using hst) h
variable {P:Program}
theorem zZ{io:gm}{e:Env}{s s' s2:ay}{x:X}(hf:yS io=true)(h:aA io e s=some (x,s')):aA io e s2=some (x,s2):=by
 cases io<;>simp only[yS,jI]at hf<;>simp only[aA,qL]at h ⊢
 all_goals
  repeat' split at h
  all_goals first
   | (simp only[aR,bq]at h;obtain⟨rfl,rfl⟩:=h;simp[*])
   | (simp at h;done)
theorem Mt{s s2:ay}{x:X}{w:Nat}{ag:Bool}(h:∀o∈kz x,s2 o=s o):ES s2 x w ag=ES s x w ag:=by
 cases x<;>simp only[ES]
 ·rw[h _ (by simp[kz])]
 ·rw[h _ (by simp[kz])]
theorem vz{s s2:ay}{x:X}(h:∀o∈kz x,s2 o=s o):rZ s2 x=rZ s x:=by cases x<;>simp only[rZ];rw[h _ (by simp[kz])]
theorem L_{s s2:ay}:∀ {l:List X},(∀o∈zf l,s2 o=s o)->uM s2 l=uM s l:=by
 intro l;induction l with
 | nil=>intro _;rfl
 | cons x l ih=>
  intro h;simp only[uM,vz (x:=x) (fun o ho=>h o (by simp[zf,ho])),ih (fun o ho=>h o (by simp[zf,ho]))]
theorem Bc{s s2:ay}{x:X}(h:∀o∈kz x,s2 o=s o):oh s2 x=oh s x:=by
 cases x
 case agg cs=>simp only[oh,L_ (l:=cs) (by simpa[kz]using h)]
 all_goals exact vz h
theorem Be{s s2:ay}{x:X}(h:∀o∈kz x,s2 o=s o):xI s2 x=xI s x:=by
 cases x
 case ptr o g j=>simp only[xI,h o (by simp[kz])]
 case ip=>rfl
 all_goals exact vz h
theorem GI{s s2:ay}:∀ {l:List X},(∀o∈zf l,s2 o=s o)->qJ s2 l=qJ s l:=by
 intro l;induction l with
 | nil=>intro _;rfl
 | cons x l ih=>
  intro h;simp only[qJ,Be (x:=x) (fun o ho=>h o (by simp[zf,ho])),ih (fun o ho=>h o (by simp[zf,ho]))]
theorem L9{s s2:ay}{x:X}(h:∀o∈kz x,s2 o=s o):wh s2 x=wh s x:=by
 cases x
 case fn f cs=>simp only[wh,GI (l:=cs) (by simpa[kz]using h)]
 case ptr=>exact Be h
 case ip=>rfl
 all_goals exact Bc h
theorem L6{s s2:ay}:∀ {l:List X},(∀x∈l,∀o∈kz x,s2 o=s o)->tq s2 l=tq s l:=by
 intro l;induction l with
 | nil=>intro _;rfl
 | cons x l ih=>
  intro h;simp only[tq,L9 (x:=x) (h x (by simp)),ih (fun y hy=>h y (by simp[hy]))]
theorem Bq{s s2:ay}{x:X}(h:∀o∈kz x,s2 o=s o):Dv s2 x=Dv s x:=by cases x<;>simp only[Dv];rw[h _ (by simp[kz])]
theorem FY{io:gm}{e:Env}{s s' s2:ay}{x:X}(hst:dn io=true)(hl:∀a∈io.og,∀o∈kz (a.ev e),s2 o=s o)(h:aA io e s=some (x,s')):aA io e s2=some (x,s2):=by
 by_cases hf:yS io=true
 ·exact zZ hf h
 have h1:∀ {a:Ar},a∈io.og->∀o∈kz (a.ev e),s2 o=s o:=fun ha=>hl _ ha;cases io<;>simp only[dn,yS,jI,not_true_eq_false]at hst hf
 case ld a w ag=>
  simp only[aA]at h ⊢;obtain⟨h2,rfl⟩:=ng h;rw[Mt (h1 (by simp[gm.og])),h2];rfl
 case Sg a=>
  have h1:=h1 (a:=a) (by simp[gm.og]);simp only[aA]at h ⊢;split at h
  ·rename_i o g j hx
   try simp only[hx]at h1 ⊢
   rw[h1 o (by simp[kz])];split at h
   ·rename_i hg;simp only[aR,bq]at h;obtain⟨rfl,rfl⟩:=h;rw[if_pos hg]
   ·simp at h
  ·rename_i o g k i j hx
   try simp only[hx]at h1 ⊢
   rw[h1 o (by simp[kz])];split at h
   ·rename_i hg;simp only[aR,bq]at h;obtain⟨rfl,rfl⟩:=h;rw[if_pos hg]
   ·simp at h
  ·rename_i y j hx
   try simp only[hx]
   simp only[aR,bq]at h;obtain⟨rfl,rfl⟩:=h;rfl
  ·simp at h
 case fa a j=>
  have h1:=h1 (a:=a) (by simp[gm.og]);simp only[aA]at h ⊢;split at h
  ·rename_i o g i hx
   try simp only[hx]at h1 ⊢
   rw[h1 o (by simp[kz])];split at h
   ·rename_i hg;simp only[aR,bq]at h;obtain⟨rfl,rfl⟩:=h;rw[if_pos hg]
   ·simp at h
  ·rename_i o g k i l hx
   try simp only[hx]at h1 ⊢
   rw[h1 o (by simp[kz])];split at h
   ·rename_i hg;simp only[aR,bq]at h;obtain⟨rfl,rfl⟩:=h;rw[if_pos hg]
   ·simp at h
  ·rename_i y i hx
   try simp only[hx]
   simp only[aR,bq]at h;obtain⟨rfl,rfl⟩:=h;rfl
  ·simp at h
 case dK a b w=>
  have h1:=h1 (a:=a) (by simp[gm.og]);simp only[aA]at h ⊢;split at h
  case h_2=>simp at h
  rename_i n hn
  try simp only[hn]
  split at h
  ·rename_i f es hx
   try simp only[hx]
   split at h
   ·rename_i hc;rw[if_pos hc];split at h
    ·rename_i y hy
     try simp only[hy]
     split at h
     ·rename_i hw;simp only[aR,bq]at h;obtain⟨rfl,rfl⟩:=h;rw[if_pos hw]
     ·simp at h
    ·simp at h
   ·simp at h
  ·rename_i o g k j m hx
   try simp only[hx]at h1 ⊢
   rw[h1 o (by simp[kz])];split at h
   ·rename_i hg;simp only[aR,bq]at h;obtain⟨rfl,rfl⟩:=h;rw[if_pos hg]
   ·simp at h
  ·simp at h
 case Bo a b w n=>
  have h1:=h1 (a:=a) (by simp[gm.og]);simp only[aA]at h ⊢;split at h
  case h_2=>simp at h
  rename_i m hm
  try simp only[hm]
  split at h
  case isFalse=>simp at h
  rename_i hc;rw[if_pos hc];split at h
  ·rename_i o g j hx
   try simp only[hx]at h1 ⊢
   rw[h1 o (by simp[kz])];split at h
   ·rename_i hg;simp only[aR,bq]at h;obtain⟨rfl,rfl⟩:=h;rw[if_pos hg]
   ·simp at h
  ·rename_i y j hx
   try simp only[hx]
   simp only[aR,bq]at h;obtain⟨rfl,rfl⟩:=h;rfl
  ·simp at h
 case RB w a lo hi=>
  have h1:=h1 (a:=a) (by simp[gm.og]);simp only[aA]at h ⊢;cases hx:a.ev e<;>simp only[hx]at h h1 ⊢<;>first|(simp at h;done)|skip
  ·split at h
   case h_2=>simp at h
   rename_i hh
   try simp only[hh]
   split at h
   case h_2=>simp at h
   rename_i hh2
   try simp only[hh2]
   simp only[aR,bq]at h;obtain⟨rfl,rfl⟩:=h;rfl
  ·split at h
   ·simp at h
   rename_i hc;rw[if_neg hc];split at h
   case h_2=>simp at h
   rename_i hh
   try simp only[hh]
   split at h
   case h_2=>simp at h
   rename_i hh2
   try simp only[hh2]
   simp only[aR,bq]at h;obtain⟨rfl,rfl⟩:=h;rfl
  ·rename_i o g k i n;rw[h1 o (by simp[kz])];split at h
   ·simp at h
   rename_i hc;rw[if_neg hc];split at h
   case h_2=>simp at h
   rename_i hh
   try simp only[hh]
   split at h
   case h_2=>simp at h
   rename_i hh2
   try simp only[hh2]
   simp only[aR,bq]at h;obtain⟨rfl,rfl⟩:=h;rfl
 case jA k n z ps=>
  simp only[aA]at h ⊢;rw[pG (e:=e) (e':=e) (s:=s2) (s':=s) (ps:=ps) (fun a ha=>⟨rfl,Bc (h1 (by simpa[gm.og]using ha))⟩)];split at h
  ·rename_i hc
   try simp only[hc]
   simp only[aR,bq]at h;obtain⟨rfl,rfl⟩:=h;rfl
  ·simp at h
 case len a=>
  have h1:=h1 (a:=a) (by simp[gm.og]);simp only[aA]at h ⊢;split at h
  ·rename_i f es hx
   try simp only[hx]
   simp only[aR,bq]at h;obtain⟨rfl,rfl⟩:=h;rfl
  ·rename_i o g k i n hx
   try simp only[hx]at h1 ⊢
   rw[h1 o (by simp[kz])];split at h
   ·rename_i hg;simp only[aR,bq]at h;obtain⟨rfl,rfl⟩:=h;rw[if_pos hg]
   ·simp at h
  ·rename_i hx
   try simp only[hx]
   simp only[aR,bq]at h;obtain⟨rfl,rfl⟩:=h;rfl
  ·simp at h
 case Sb neg a=>
  simp only[aA]at h ⊢;split at h
  ·rename_i hx
   try simp only[hx]
   simp only[aR,bq]at h;obtain⟨rfl,rfl⟩:=h;rfl
  ·rename_i hx
   try simp only[hx]
   simp only[aR,bq]at h;obtain⟨rfl,rfl⟩:=h;rfl
  ·rename_i hx
   try simp only[hx]
   simp only[aR,bq]at h;obtain⟨rfl,rfl⟩:=h;rfl
  ·simp at h
 case Sc neg a=>
  have h1:=h1 (a:=a) (by simp[gm.og]);simp only[aA]at h ⊢;split at h
  ·rename_i hx
   try simp only[hx]
   simp only[aR,bq]at h;obtain⟨rfl,rfl⟩:=h;rfl
  ·rename_i o g k i n hx
   try simp only[hx]at h1 ⊢
   rw[h1 o (by simp[kz])];split at h
   ·rename_i hg;simp only[aR,bq]at h;obtain⟨rfl,rfl⟩:=h;rw[if_pos hg]
   ·simp at h
  ·simp at h
 case G5 ks ag m k z ok=>
  simp only[aA]at h ⊢;rw[Bq (h1 (a:=m) (by simp[gm.og]))];split at h
  case h_2=>simp at h
  rename_i q es hq
  try simp only[hq]
  split at h
  case h_2=>simp at h
  rename_i r hr
  try simp only[hr]
  split at h
  case h_2=>simp at h
  rename_i v hv
  try simp only[hv]
  simp only[aR,bq]at h;obtain⟨rfl,rfl⟩:=h;rfl
 case Mx m=>
  simp only[aA]at h ⊢;rw[Bq (h1 (a:=m) (by simp[gm.og]))];split at h
  case h_2=>simp at h
  rename_i q es hq
  try simp only[hq]
  simp only[aR,bq]at h;obtain⟨rfl,rfl⟩:=h;rfl
theorem pu{s s2:ay}{x:X}{y:X}(hn:r_ x=[])(h:rZ s x=some y):rZ s2 x=some y:=by
 cases x
 case ref=>simp[r_]at hn
 all_goals (simp only[rZ]at h ⊢;exact h)
theorem Eu{s s2:ay}:∀ {l m:List X},l.flatMap r_=[]->uM s l=some m->uM s2 l=some m:=by
 intro l;induction l with
 | nil=>intro m _ h;simpa only[uM]using h
 | cons x l ih=>
  intro m hn h;simp only[List.flatMap_cons,List.append_eq_nil_iff]at hn;simp only[uM]at h ⊢;split at h
  case h_2=>simp at h
  rename_i y k hy hk;rw[pu hn.1 hy,ih hn.2 hk];exact h
theorem Ep{s s2:ay}{x:X}{y:X}(hn:nR x=[])(h:oh s x=some y):oh s2 x=some y:=by
 cases x
 case agg cs=>
  simp only[oh]at h ⊢;split at h
  case h_2=>simp at h
  rename_i ds hd;rw[Eu (by simpa[nR]using hn) hd];exact h
 all_goals (simp only[nR]at hn;simp only[oh]at h ⊢;exact pu hn h)
theorem Es{s s2:ay}{x:X}{y:X}(hn:Pg x=[])(h:xI s x=some y):xI s2 x=some y:=by
 cases x
 case ptr=>simp[Pg]at hn
 case ip=>simpa only[xI]using h
 all_goals (simp only[Pg]at hn;simp only[xI]at h ⊢;exact pu hn h)
theorem Cu{s s2:ay}:∀ {l m:List X},l.flatMap Pg=[]->qJ s l=some m->qJ s2 l=some m:=by
 intro l;induction l with
 | nil=>intro m _ h;simpa only[qJ]using h
 | cons x l ih=>
  intro m hn h;simp only[List.flatMap_cons,List.append_eq_nil_iff]at hn;simp only[qJ]at h ⊢;split at h
  case h_2=>simp at h
  rename_i y k hy hk;rw[Es hn.1 hy,ih hn.2 hk];exact h
theorem Er{s s2:ay}{x:X}{y:X}(hn:lU x=[])(h:wh s x=some y):wh s2 x=some y:=by
 cases x
 case fn f cs=>
  simp only[wh]at h ⊢;split at h
  case h_2=>simp at h
  rename_i ds hd;rw[Cu (by simpa[lU]using hn) hd];exact h
 case ptr=>simp[lU]at hn
 case ip=>simpa only[wh,xI]using h
 all_goals (simp only[lU]at hn;simp only[wh]at h ⊢;exact Ep hn h)
theorem Eo{s s2:ay}:∀ {l m:List X},l.flatMap lU=[]->tq s l=some m->tq s2 l=some m:=by
 intro l;induction l with
 | nil=>intro m _ h;simpa only[tq]using h
 | cons x l ih=>
  intro m hn h;simp only[List.flatMap_cons,List.append_eq_nil_iff]at hn;simp only[tq]at h ⊢;split at h
  case h_2=>simp at h
  rename_i y k hy hk;rw[Er hn.1 hy,ih hn.2 hk];exact h
theorem Tw{x:X}{o:Nat}(h:o∈r_ x):o∈kz x:=by cases x<;>simp[r_]at h<;>simp[kz,h]
theorem Tx{l:List X}{o:Nat}(h:o∈l.flatMap r_):o∈zf l:=by
 induction l with
 | nil=>simp at h
 | cons x l ih=>
  simp only[List.flatMap_cons,List.mem_append]at h;simp only[zf,List.mem_append];exact h.imp Tw ih
theorem Tq{l:List X}{o:Nat}(h:o∈l.flatMap Pg):o∈zf l:=by
 induction l with
 | nil=>simp at h
 | cons x l ih=>
  simp only[List.flatMap_cons,List.mem_append]at h;simp only[zf,List.mem_append];refine h.imp (fun h=>?_) ih;cases x<;>simp[Pg,r_]at h<;>simp[kz,h]
theorem Tn{x:X}{o:Nat}(h:o∈lU x):o∈kz x:=by
 cases x
 case fn f cs=>simp only[lU]at h;simp only[kz];exact Tq h
 case agg cs=>simp only[lU,nR]at h;simp only[kz];exact Tx h
 all_goals simp[lU,nR,r_]at h
 all_goals simp[kz,h]
theorem vU{r:List It->Env->ay->Option (Env×ay)}{T:Nat->Option Fe}{f:Nat}{l:List X}{s s' s2:ay}{x:X}(hl:∀x∈l,∀o∈kz x,s2 o=s o)(h:gP r T true f l s=some (x,s')):gP r T true f l s2=some (x,s2):=by
 unfold gP at h ⊢;rw[L6 hl];split at h
 ·simp at h
 rename_i hd
 try simp only[hd]
 split at h
 ·simp at h
 rename_i hc
 try simp only[hc]
 split at h
 ·rename_i hs;simp only[aR,bq]at h;obtain⟨rfl,rfl⟩:=h;rw[if_pos hs]
 rename_i hs;rw[if_neg hs,if_pos (by trivial)];rw[if_pos rfl]at h
 split at h
 case isFalse=>simp at h
 rename_i hn;simp only[aR,bq]at h;obtain⟨rfl,_⟩:=h;have hn':qt s2 (l.flatMap lU)=true:=by refine List.all_eq_true.2 fun o ho=>?_;obtain⟨x,hx,ho'⟩:=List.mem_flatMap.1 ho;rw[hl x hx o (Tn ho')];exact List.all_eq_true.1 hn o ho
 rw[if_pos hn']
theorem Tv{l:List X}{o:Nat}:o∈zf l↔∃x∈l,o∈kz x:=by
 induction l with
 | nil=>simp[zf]
 | cons x l ih=>simp[zf,ih]
theorem MO{r:List It->Env->ay->Option (Env×ay)}{T:Nat->Option Fe}{io:gm}{e:Env}{s s' s2:ay}{x:X}(hst:b_ io=true)(hl:∀a∈io.og,∀o∈kz (a.ev e),s2 o=s o)(h:bW r T io e s=some (x,s')):bW r T io e s2=some (x,s2):=by
 cases io
 case call st f l=>
  simp only[b_]at hst;subst hst;exact vU (fun x hx=>by obtain⟨a,ha,rfl⟩:=List.mem_map.1 hx;exact hl a ha) h
 case fG st f l=>
  simp only[b_]at hst;subst hst;simp only[bW]at h ⊢;split at h
  ·rename_i g cs hf
   try simp only[hf]
   refine vU (fun x hx=>?_) h;rcases List.mem_append.1 hx with hx|hx
   ·obtain⟨a,ha,rfl⟩:=List.mem_map.1 hx;exact hl a (by simp[gm.og,ha])
   ·have:=hl f (by simp[gm.og]);rw[hf]at this
    exact fun o ho=>this o (by simp only[kz];exact Tv.2 ⟨x,hx,ho⟩)
  ·simp at h
 case bB=>simp[b_,dn]at hst
 case j6=>simp[b_,dn]at hst
 case bL=>simp[b_,dn]at hst
 case fK=>simp[b_,dn]at hst
 all_goals
  simp only[bW]at h ⊢;exact FY (by simpa only[b_]using hst) hl h
def gD(s s':ay):Prop:=∀o,s' o=s o\/(s o).n<(s' o).n
theorem gD.refl(s:ay):gD s s:=fun _=>.inl rfl
theorem gD.trans{a b c:ay}(h:gD a b)(k:gD b c):gD a c:=fun o=>by
 rcases h o with h|h<;>rcases k o with k|k
 ·exact .inl (k.trans h)
 ·right;rw[h]at k;exact k
 ·right;rw[k];exact h
 ·right;omega
theorem gD.aO(s:ay)(o:Nat)(b:Ob):gD s (Go.Proofs.YtbmkfjmlepjpfaaGreatDoor.aO s o b):=fun q=>by
 unfold Go.Proofs.YtbmkfjmlepjpfaaGreatDoor.aO upd;split
 ·rename_i h;subst h;right;simp
 ·exact .inl rfl
theorem gD.bK(s:ay)(o:Nat)(b:Ob):gD s (Go.Proofs.YtbmkfjmlepjpfaaGreatDoor.bK s o b):=fun q=>by
 unfold Go.Proofs.YtbmkfjmlepjpfaaGreatDoor.bK upd;split
 ·rename_i h;subst h;right;simp
 ·exact .inl rfl
theorem gD.gB(s:ay)(l:List Nat):gD s (Go.Proofs.YtbmkfjmlepjpfaaGreatDoor.gB s l):=fun q=>by
 unfold Go.Proofs.YtbmkfjmlepjpfaaGreatDoor.gB;split
 ·right;simp
 ·exact .inl rfl
theorem gD.AB(s:ay)(o d:Nat)(b:Ob):gD s (Go.Proofs.YtbmkfjmlepjpfaaGreatDoor.AB s o d b):=fun q=>by
 by_cases h1:q=o
 ·subst h1;right;unfold Go.Proofs.YtbmkfjmlepjpfaaGreatDoor.AB;rw[upd_same];simp
 ·by_cases h2:q=d
  ·subst h2;right;unfold Go.Proofs.YtbmkfjmlepjpfaaGreatDoor.AB;rw[upd_ne _ _ h1,upd_same];simp
  ·left;unfold Go.Proofs.YtbmkfjmlepjpfaaGreatDoor.AB;rw[upd_ne _ _ h1,upd_ne _ _ h2]
theorem gD.kD{s:ay}{d:Nat}:∀ {cs cs':List X} {s':ay},Go.Proofs.YtbmkfjmlepjpfaaGreatDoor.kD s d cs=some (cs',s')->gD s s':=by
 intro cs;induction cs with
 | nil=>intro cs' s' h;simp only[Go.Proofs.YtbmkfjmlepjpfaaGreatDoor.kD,aR,bq]at h;obtain⟨_,rfl⟩:=h;exact gD.refl _
 | cons c cs ih=>
  intro cs' s' h;cases c<;>simp only[Go.Proofs.YtbmkfjmlepjpfaaGreatDoor.kD]at h<;>repeat' split at h
  all_goals first
   | (simp at h;done)
   | (simp only[aR,bq]at h;obtain⟨_,rfl⟩:=h;first|exact gD.refl _|exact gD.AB _ _ _ _|exact ih (by assumption))
theorem Zo{s s':ay}{x y:X}{w:Nat}(h:stX s x y w=some s'):gD s s':=by
 unfold stX at h
 repeat' split at h
 all_goals first
  | (simp at h;done)
  | (simp only[aR]at h;subst h;first|exact gD.bK _ _ _|exact(gD.bK _ _ _).trans (gD.gB _ _))
theorem Nv{io:gm}{e:Env}{s s':ay}{x:X}(h:aA io e s=some (x,s')):gD s s':=by
 by_cases hst:dn io=true
 ·rw[nZ hst h];exact gD.refl _
 cases io<;>simp only[dn,not_true_eq_false]at hst<;>simp only[aA,Ah,wV]at h
 case st=>
  split at h
  ·rename_i hs;simp only[aR,bq]at h;obtain⟨_,rfl⟩:=h;exact Zo hs
  ·simp at h
 all_goals
  repeat' split at h
  all_goals first
   | (simp at h;done)
   | (simp only[aR,bq]at h;obtain⟨_,rfl⟩:=h;first|exact gD.refl _|exact gD.aO _ _ _|exact gD.bK _ _ _|exact(gD.kD (by assumption)).trans (gD.aO _ _ _)|exact(gD.aO _ _ _).trans (gD.gB _ _))
theorem vg{r:List It->Env->ay->Option (Env×ay)}{T:Nat->Option Fe}{st:Bool}{f:Nat}{l:List X}{s s':ay}{x:X}(h:gP r T st f l s=some (x,s')):gD s s':=by
 unfold gP at h
 repeat' split at h
 all_goals first
  | (simp at h;done)
  | (simp only[aR,bq]at h;obtain⟨_,rfl⟩:=h;first|exact gD.refl _|exact gD.gB _ _)
def TC(T:Nat->Option Fe):Prop:=∀f F,T f=some (.rQ F)->∀xs s r s',F xs s=some (r,s')->gD s s'
theorem Rw{s s':ay}{x y:X}(h:FU s x=some (y,s')):gD s s':=by
 unfold FU at h
 repeat' split at h
 all_goals first
  | (simp at h;done)
  | (simp only[aR,bq]at h;obtain⟨_,rfl⟩:=h;exact(gD.gB _ _).trans (gD.bK _ _ _))
theorem qf{r:List It->Env->ay->Option (Env×ay)}(hr:∀its e s x,r its e s=some x->gD s x.2){T:Nat->Option Fe}(hC:TC T){f:Nat}{l:List X}{s s':ay}{x:X}(h:dD r T f l s=some (x,s')):gD s s':=by
 unfold dD at h;split at h
 ·split at h
  case isFalse=>simp at h
  split at h
  case h_2=>simp at h
  rename_i hq;split at h
  case h_2=>simp at h
  simp only[aR,bq]at h;obtain⟨_,rfl⟩:=h;exact hr _ _ _ _ hq
 ·split at h
  case isFalse=>simp at h
  split at h
  case h_2=>simp at h
  rename_i hq;split at h
  ·simp only[aR,bq]at h;obtain⟨_,rfl⟩:=h;exact gD.trans (hr _ _ _ _ hq) (gD.gB _ _)
  ·split at h
   case h_2=>simp at h
   exact gD.trans (hr _ _ _ _ hq) (Rw h)
 ·rename_i hF;exact hC _ _ hF _ _ _ _ h
 ·simp at h
theorem NY{s s':ay}{q g:Nat}(h:LF s q g=some s'):gD s s':=by
 unfold LF at h
 repeat' split at h
 all_goals first
  | (simp at h;done)
  | (simp only[aR]at h;subst h;exact gD.bK _ _ _)
theorem OA{s s':ay}{q g:Nat}(h:Mc s q g=some s'):gD s s':=by
 unfold Mc at h
 repeat' split at h
 all_goals first
  | (simp at h;done)
  | (simp only[aR]at h;subst h;exact gD.bK _ _ _)
theorem Ez{s s':ay}{q:Nat}{j:Option Nat}(h:xA s q j=some s'):gD s s':=by
 unfold xA at h
 repeat' split at h
 all_goals first
  | (simp at h;done)
  | (simp only[aR]at h;subst h;exact gD.bK _ _ _)
theorem gD.vB(s:ay)(q:Nat):gD s (Go.Proofs.YtbmkfjmlepjpfaaGreatDoor.vB s q):=fun o=>by
 unfold Go.Proofs.YtbmkfjmlepjpfaaGreatDoor.vB;by_cases h:o=q
 ·subst h;right;rw[upd_same];simp
 ·left;rw[upd_ne _ _ h]
theorem Ji{r:List It->Env->ay->Option (Env×ay)}(hr:∀its e s x,r its e s=some x->gD s x.2){q g:Nat}{l:List X}{s s':ay}{x:X}(h:iR r q g l s=some (x,s')):gD s s':=by
 unfold iR at h;split at h
 case h_2=>simp at h
 split at h
 case isFalse=>simp at h
 rename_i e ps a b _ _;cases hq:r [.code a,.NZ q g,.code b,.Oz q g] (puts e ps l) s with
 | none=>rw[hq]at h;simp[Di]at h
 | some z=>
  obtain⟨e1,s1⟩:=z;rw[hq]at h
  have:=hr _ _ _ _ hq;unfold Di at h;simp only at h
  repeat' split at h
  all_goals first
   | (simp at h;done)
   | (simp only[aR,bq]at h;obtain⟨_,rfl⟩:=h;exact this)
theorem Rk{r:List It->Env->ay->Option (Env×ay)}(hr:∀its e s x,r its e s=some x->gD s x.2){T:Nat->Option Fe}(hC:TC T){q:Nat}{x:X}{ps:List Nat}{a b:IC}{e:Env}{s s':ay}{j:Option (Option Nat)}(h:nX r T q x ps a b e s=some (j,s')):gD s s':=by
 unfold nX at h;split at h
 case h_2=>simp at h
 rename_i f cs;cases hq:dD r T f (.Dx q ((s q).g+1)::cs) (aO s q (.lp e ps a b .ready))with
 | none=>rw[hq]at h;simp[lpE]at h
 | some z=>
  obtain⟨e1,s1⟩:=z;rw[hq]at h
  have:=(gD.aO s q (.lp e ps a b .ready)).trans (qf hr hC hq);unfold lpE at h;simp only at h
  repeat' split at h
  all_goals first
   | (simp at h;done)
   | (simp only[aR,bq]at h;obtain⟨_,rfl⟩:=h;exact this.trans (gD.vB _ _))
theorem JZ{r:List It->Env->ay->Option (Env×ay)}(hr:∀its e s x,r its e s=some x->gD s x.2){T:Nat->Option Fe}(hC:TC T){io:gm}{e:Env}{s s':ay}{x:X}(h:bW r T io e s=some (x,s')):gD s s':=by
 unfold bW at h;split at h
 ·exact vg h
 ·split at h
  ·exact vg h
  ·simp at h
 ·exact qf hr hC h
 ·unfold qR at h
  repeat' split at h
  all_goals first
   | (simp at h;done)
   | (simp only[aR,bq]at h;obtain⟨_,rfl⟩:=h;exact gD.refl _)
 ·unfold pq at h;split at h
  ·simp at h
  unfold ji at h;split at h
  ·split at h
   ·simp at h
   ·simp only[aR,bq]at h;obtain⟨_,rfl⟩:=h;exact gD.gB _ _
  ·split at h
   ·simp at h
   ·simp only[aR,bq]at h;obtain⟨_,rfl⟩:=h;exact(gD.gB _ _).trans (gD.aO _ _ _)
  ·simp at h
 ·split at h
  ·split at h
   ·exact vg h
   ·exact qf hr hC h
  ·exact qf hr hC h
  ·exact Ji hr h
  ·simp at h
 ·exact Nv h
theorem Rm(T:Nat->Option Fe)(hC:TC T):∀(n:Nat) its e s x,runN T n its e s=some x->gD s x.2:=by
 intro n;induction n with
 | zero=>intro its e s x h;simp[runN]at h
 | succ n ih=>
  intro its e s x h;rcases its with _|⟨it,k⟩
  ·simp only[runN,aR]at h;subst h;exact gD.refl _
  cases it with
  | code c=>
   cases c with
   | cond c a b=>
    simp only[runN]at h;split at h
    ·rename_i t hc;cases t
     ·exact ih _ _ _ _ h
     ·exact ih _ _ _ _ h
    ·simp at h
   | exit id=>
    simp only[runN]at h;split at h
    ·exact ih _ _ _ _ h
    ·simp at h
   | ret=>simp only[runN,aR]at h;subst h;exact gD.refl _
   | Rl q=>
    simp only[runN]at h;split at h
    case h_2=>simp at h
    rename_i s' hb;simp only[aR]at h;subst h;exact Ez hb
   | FO q id=>
    simp only[runN]at h;split at h
    case h_2=>simp at h
    rename_i s' _ hb;simp only[aR]at h;subst h;exact Ez hb
   | Rj q g ps a b=>
    simp only[runN]at h;cases hr:nX (runN T n) T q (g.ev e) ps a b e s with
    | none=>rw[hr]at h;simp at h
    | some y=>
     obtain⟨j,s'⟩:=y;rw[hr]at h
     have hc:=Rk (fun its e s x hx=>ih its e s x hx) hC hr;rcases j with _|_|id
     ·exact hc.trans (ih _ _ _ _ h)
     ·simp only[aR]at h;subst h;exact hc
     ·simp only at h;split at h
      ·exact hc.trans (ih _ _ _ _ h)
      ·simp at h
   | _=>simp only[runN]at h;exact ih _ _ _ _ h
  | ops l=>
   rcases l with _|⟨o,l⟩
   ·simp only[runN]at h;exact ih _ _ _ _ h
   ·simp only[runN]at h;split at h
    ·split at h
     ·rename_i y s' hr;exact(JZ (fun its e s x hx=>ih its e s x hx) hC hr).trans (ih _ _ _ _ h)
     ·simp at h
    ·exact ih _ _ _ _ h
    ·simp at h
  | lp c=>simp only[runN]at h;exact ih _ _ _ _ h
  | bl id=>simp only[runN]at h;exact ih _ _ _ _ h
  | Sw ch js s0=>
   simp only[runN]at h;split at h
   ·exact ih _ _ _ _ h
   ·simp at h
  | NZ q g=>
   simp only[runN]at h;split at h
   case h_2=>simp at h
   rename_i s' hb;exact(NY hb).trans (ih _ _ _ _ h)
  | Oz q g=>
   simp only[runN]at h;split at h
   case h_2=>simp at h
   rename_i s' hb;simp only[aR]at h;subst h;exact OA hb
variable {P:Program}
structure su (ops:Array Oper) (gl:List d9) (p:Nat) (ch js:List Nat):Prop where
 size:ops.size=gl.length
 le:p<=gl.length
 edge:∀i o,ops[i]?=some o->∀e∈o.after,Region.binds .any e=true->e.on<i
 dist:∀i j t,i<gl.length->j<gl.length->kL gl i=some t->kL gl j=some t->i=j
 kst:∀i g,i<p->gl[i]?=some g->∀a∈g.op.og,arK a=true
 reads:∀i g t j,i<p->gl[i]?=some g->t∈g.rd->j<p->j≠i->kL gl j=some t->(j<i/\d2 ops i j=true)\/(i<j/\d2 ops j i=true)
 tail:∀i j,p<=i->i<gl.length->j<i->d2 ops i j=true
 sep:∀i j gi gj,i<p->j<p->j≠i->gl[i]?=some gi->gl[j]?=some gj->xG gi.op≠0->((j<i/\d2 ops i j=true)\/(i<j/\d2 ops j i=true))\/
  (xG gj.op=1/\xG gi.op=1/\Gh gi.op≠Gh gj.op)\/
  (xG gj.op=0/\(yS gj.op=true\/(∀t∈gj.rd,∀q,q<p->kL gl q=some t->q<j)/\((∀t∈gj.op.rd,t∈ch)\/j∈js/\gj.g=none/\(∃d,gj.d=some d)/\rT gj.op=true/\∀k gk,k<p->gl[k]?=some gk->k≠i->xG gk.op=0)))
theorem Ew{ops:Array Oper}{gl:List d9}{p:Nat}{ch js:List Nat}(h:GJ ops gl p ch js=true):su ops gl p ch js:=by
 simp only[GJ,bE,decide_eq_true_eq,nk,List.mem_range]at h;obtain⟨⟨⟨⟨⟨⟨h1,h2⟩,h3⟩,h4⟩,h5⟩,h6⟩,h7⟩:=h;have dist':∀i j t,i<gl.length->j<i->kL gl i=some t->kL gl j=some t->False:=by intro i j t hi hj h7 h8;have:=h4 i hi j hj;simp[h7,h8]at this
 refine⟨h1,h2,?_,?_,?_,?_,?_,?_⟩
 ·intro i o ho e he hb;have hi:i<gl.length:=by have:=(Array.getElem?_eq_some_iff.1 ho).1;omega
  have:=h3 i hi;rw[ho]at this
  have:=(List.all_eq_true.1 this) e (by simpa using he);simpa[hb]using this
 ·intro i j t hi hj h7 h8;rcases Nat.lt_trichotomy i j with hlt|heq|hgt
  ·exact(dist' j i t hj hlt h8 h7).elim
  ·exact heq
  ·exact(dist' i j t hi hgt h7 h8).elim
 ·intro i g hi hg;have:=h5 i hi;rw[hg]at this
  simp only[bE,nk]at this;exact this.1
 ·intro i g t j hi hg ht hj hne hd;have:=h5 i hi;rw[hg]at this
  simp only[bE,nk,List.mem_range]at this;have:=this.2 t ht j hj;simp[hne,hd,TH]at this
  exact this
 ·intro i j hp hi hj;have:=h6 i hi;simp only[Bool.or_eq_true,decide_eq_true_eq,nk,List.mem_range]at this;exact(this.resolve_left (by omega)) j hj
 ·intro i j gi gj hi hj hne hgi hgj hc;have:=h7 i hi;rw[hgi]at this
  simp only[Bool.or_eq_true,beq_iff_eq,nk,List.mem_range]at this;have:=(this.resolve_left hc) j hj;rw[hgj]at this
  simp only[TH,Bool.or_eq_true,bE,beq_iff_eq,decide_eq_true_eq,bne_iff_ne,ne_eq,nk,List.mem_range,List.contains_eq_mem,Option.isNone_iff_eq_none]at this;rcases this with((h|h)|h)|h
  ·exact absurd h hne
  ·exact .inl h
  ·exact .inr (.inl ⟨h.1.1,h.1.2,h.2⟩)
  ·refine .inr (.inr ⟨h.1,?_⟩);have late:O5 gl p j gj=true->∀t∈gj.rd,∀q,q<p->kL gl q=some t->q<j:=by intro hl t ht q hq hd;simp only[O5,nk,List.mem_range]at hl;have:=hl t ht q hq;simpa[hd]using this
   rcases h.2 with h|⟨hl,h|h⟩
   ·exact .inl h
   ·exact .inr ⟨late hl,.inl h⟩
   ·refine .inr ⟨late hl,.inr ⟨h.1.1.1.1,h.1.1.1.2,Option.isSome_iff_exists.1 h.1.1.2,h.1.2,?_⟩⟩;intro k gk hk hgk hki;have:=h.2 k hk;rw[hgk]at this
    simp only[Bool.or_eq_true,beq_iff_eq]at this;exact this.resolve_left hki
open Classical in
noncomputable def gu(e:Env)(gl:List d9)(xs:Nat->X)(L:Nat->Prop):Env:=fun n=>
 if h:∃j,L j/\j<gl.length/\kL gl j=some n then xs h.choose else e n
section
variable {ops:Array Oper} {gl:List d9} {p:Nat} {e:Env} {xs:Nat->X} {L L':Nat->Prop} {ch js:List Nat}
theorem qg(hD:su ops gl p ch js){j n:Nat}(hL:L j)(hj:j<gl.length)(hd:kL gl j=some n):gu e gl xs L n=xs j:=by
 unfold gu;have h:∃j,L j/\j<gl.length/\kL gl j=some n:=⟨j,hL,hj,hd⟩
 rw[dif_pos h];obtain⟨h1,h2,h3⟩:=h.choose_spec;rw[hD.dist _ _ n h2 hj h3 hd]
theorem pE{n:Nat}(h:∀j,L j->j<gl.length->kL gl j≠some n):gu e gl xs L n=e n:=by unfold gu;rw[dif_neg];rintro⟨j,h1,h2,h3⟩;exact h j h1 h2 h3
theorem Bh(h:∀j,¬L j):gu e gl xs L=e:=by funext n;exact pE fun j hj=>absurd hj (h j)
theorem lm{n:Nat}(h:∀j,j<gl.length->kL gl j=some n->(L j↔L' j))(hD:su ops gl p ch js):gu e gl xs L n=gu e gl xs L' n:=by
 by_cases hx:∃j,L j/\j<gl.length/\kL gl j=some n
 ·obtain⟨j,h1,h2,h3⟩:=hx;rw[qg hD h1 h2 h3,qg hD ((h j h2 h3).1 h1) h2 h3]
 ·rw[pE (fun j h1 h2 h3=>hx ⟨j,h1,h2,h3⟩),pE (fun j h1 h2 h3=>hx ⟨j,(h j h2 h3).2 h1,h2,h3⟩)]
theorem pz(h:∀j,j<gl.length->(L j↔L' j))(hD:su ops gl p ch js):gu e gl xs L=gu e gl xs L':=by funext n;exact lm (fun j hj _=>h j hj) hD
theorem EA(hD:su ops gl p ch js){i:Nat}(hi:i<gl.length)(hL:¬L i):put (gu e gl xs L) (kL gl i) (xs i)=gu e gl xs (fun j=>L j\/j=i):=by
 funext n;cases hd:kL gl i with
 | none=>
  simp only[put];refine lm (fun j hj hjn=>⟨fun h=>.inl h,fun h=>h.elim id fun he=>?_⟩) hD;rw[he,hd]at hjn;simp at hjn
 | some d=>
  simp only[put];by_cases hn:n=d
  ·subst hn;rw[upd_same];exact(qg hD (L:=fun j=>L j\/j=i) (.inr rfl) hi hd).symm
  ·rw[upd_ne _ _ hn];refine lm (fun j hj hjn=>⟨fun h=>.inl h,fun h=>h.elim id fun he=>?_⟩) hD;rw[he,hd]at hjn
   injection hjn with hjn;exact absurd hjn.symm hn
end
theorem yT{gl:List d9}{i:Nat}{g:d9}(h:gl[i]?=some g):kL gl i=g.d:=by simp[kL,h]
def Ga(T:Nat->Option Fe)(N:Nat)(g:d9)(e:Env)(s:ay)(y:X)(s':ay):Prop:=
 (gd g e=some false/\y=.bU []/\s'=s)\/(gd g e=some true/\∃m,m<N/\bW (runN T m) T g.op e s=some (y,s'))
theorem Jb{T:Nat->Option Fe}{k:List It}{x:Env×ay}{s:ay}{e:Env}{l m:List d9}{ops:Array Oper}{n N:Nat}{ch js:List Nat}(hD:su ops (l++m) l.length ch js)(hn:n<=N)(hr:runN T n (.ops l::k) e s=some x) :
 ∀q,q<=l.length->∃(xs:Nat->X) (ss:Nat->ay),ss 0=s/\(∀i g,i<q->(l++m)[i]?=some g->Ga T N g (gu e (l++m) xs (·<i)) (ss i) (xs i) (ss (i+1)))/\
  ∃c,c<=n/\runN T c (.ops (l.drop q)::k) (gu e (l++m) xs (·<q)) (ss q)=some x:=by
 intro q;induction q with
 | zero=>
  intro _;exact⟨fun _=>.junk,fun _=>s,rfl,fun i g hi=>absurd hi (Nat.not_lt_zero i),n,Nat.le_refl _,by rw[Bh (fun j hj=>absurd hj (Nat.not_lt_zero j))];simpa using hr⟩
 | succ q ih=>
  intro hq;obtain⟨xs,ss,h0,h1,c,hc,h2⟩:=ih (by omega);have hlt:q<l.length:=by omega
  have hltg:q<(l++m).length:=by simp;omega
  rw[List.drop_eq_getElem_cons hlt]at h2
  cases c with
  | zero=>simp[runN]at h2
  | succ c=>
   simp only[runN]at h2;have hg:(l++m)[q]?=some l[q]:=by rw[List.getElem?_append_left hlt];exact List.getElem?_eq_getElem hlt
   have fin:∀y s',runN T c (.ops (l.drop (q+1))::k) (put (gu e (l++m) xs (·<q)) l[q].d y) s'=some x->Ga T N l[q] (gu e (l++m) xs (·<q)) (ss q) y s'->
    ∃(xs:Nat->X) (ss:Nat->ay),ss 0=s/\(∀i g,i<q+1->(l++m)[i]?=some g->Ga T N g (gu e (l++m) xs (·<i)) (ss i) (xs i) (ss (i+1)))/\
    ∃c',c'<=n/\runN T c' (.ops (l.drop (q+1))::k) (gu e (l++m) xs (·<q+1)) (ss (q+1))=some x:=by
    intro y s' hy hd;have k3:∀i,i<=q->gu e (l++m) (fun i=>if i=q then y else xs i) (·<i)=gu e (l++m) xs (·<i):=by
     intro i hi;funext n;by_cases hx:∃j,j<i/\j<(l++m).length/\kL (l++m) j=some n
     ·obtain⟨j,a1,a2,a3⟩:=hx;rw[qg (L:=(·<i)) hD a1 a2 a3,qg (L:=(·<i)) hD a1 a2 a3];simp[show j≠q by omega]
     ·rw[pE (L:=(·<i)) (fun j a1 a2 a3=>hx ⟨j,a1,a2,a3⟩),pE (L:=(·<i)) (fun j a1 a2 a3=>hx ⟨j,a1,a2,a3⟩)]
    refine⟨fun i=>if i=q then y else xs i,fun i=>if i=q+1 then s' else ss i,by simp[h0],?_,c,by omega,?_⟩
    ·intro i g hi hgi;rw[k3 i (by omega)];by_cases hiq:i=q
     ·subst hiq;rw[hg]at hgi
      injection hgi with hgi;subst hgi;simpa using hd
     ·have:=h1 i g (by omega) hgi;simpa[hiq,show i≠q+1 by omega]using this
    ·have:=EA (e:=e) (xs:=fun i=>if i=q then y else xs i) (L:=(·<q)) hD hltg (Nat.lt_irrefl q);rw[k3 q (Nat.le_refl _),yT hg]at this
     simp only[if_true]at this;rw[this]at hy
     rw[pz (L':=fun j=>j<q\/j=q) (fun j _=>by omega) hD];simpa using hy
   split at h2
   ·rename_i hgd;split at h2
    case h_2=>simp at h2
    rename_i y s' hy;exact fin y s' h2 (.inr ⟨hgd,c,by omega,hy⟩)
   ·rename_i hgd;exact fin (.bU []) (ss q) h2 (.inl ⟨hgd,rfl,rfl⟩)
   ·simp at h2
variable {P:Program}
theorem E9{nt:Nat}{ops:Array Oper}:∀ {l:List Oper} {gl:List d9},uj P nt ops l gl=true->∀(i:Nat) (o:Oper),l[i]?=some o->∃g,gl[i]?=some g/\TB P nt ops o g=true:=by
 intro l;induction l with
 | nil=>intro gl _ i o h;simp at h
 | cons o l ih=>
  intro gl hok i o' h;cases gl with
  | nil=>simp[uj]at hok
  | cons g gl=>
   simp only[uj,bE]at hok;cases i with
   | zero=>simp at h;subst h;exact⟨g,rfl,hok.1⟩
   | succ i=>simpa using ih hok.2 i o' (by simpa using h)
section
variable {T:Nat->Option Fe} {w0:Bs} {sh:Nat->Prop} {nt:Nat} {k:List It} {x:Env×ay} {ops:Array Oper} {gl:List d9} {p N:Nat} {ch js:List Nat}
theorem Hq(hLP:w0.ze=rU P){r:Option Nat}(hF:∀f,(T f).isSome=true->kC P f=true){μ:Nat->Nat}{fr:Nat->Prop}{e:Env}{s:ay}{a:Act}{w:World}{i:Nat}{o:Oper}{g:d9}(ho:ops[i]?=some o)(hok:TB P nt ops o g=true)
 (h:Inv w0 sh nt μ fr e s a w) {y:X} {s':ay} (hT:∀m,m<N->kE P T m/\mE P T m)
 (hs:Ga T N g e s y s')
 {K:Act->World->Prop} {Q:Exit->Act->World->Prop} (hK:∀a' w' μ' fr',Inv w0 sh nt μ' fr' (put e g.d y) s' a' w'->K a' w'):wpOpIn (rF r) 0 P ops Q i K a w:=by
 obtain⟨hd,hdn⟩:=JW hok;have hop:(gL P o.op g.op||fE P o.op g.op)=true:=by have:=hok;simp only[TB,bE]at this;exact this.2
 unfold wpOpIn;simp only[ho];rcases hs with⟨hg,rfl,rfl⟩|⟨hg,m,hm,hr⟩
 ·rw[if_neg (by rw[ql h hok hg];simp),hd];exact⟨fun f _=>K5 r f,hK _ _ _ _ (h.put hdn (.bU rfl (by simp)))⟩
 ·rw[if_pos (ql h hok hg)];refine opW h hLP (hT m hm).1 (hT m hm).2 hF hop hr ?_;intro v w' μ' fr' hI hrep _;rw[hd];exact hK _ _ _ _ (hI.put hdn hrep)
theorem Jy{i j:Nat}{l:Array Bool}(hi:i∈Region.ready .any ops l)(h:d1 ops i j=true):l.getD j false=true:=by obtain⟨_,o,ho,he⟩:=mem_ready.1 hi;simp only[d1,ho,List.any_eq_true,bE,beq_iff_eq]at h;obtain⟨e,h1,h2,rfl⟩:=h;exact he e (by simpa using h1) h2
theorem JA{l:Array Bool}(hdn:∀i j,l.getD i false=true->d1 ops i j=true->l.getD j false=true):∀ {n i j:Nat},(∀j,d1 ops i j=true->l.getD j false=true)->dd ops n i j=true->l.getD j false=true:=by
 intro n;induction n with
 | zero=>intro i j hi h;exact hi j h
 | succ n ih=>
  intro i j hi h;simp only[dd,Bool.or_eq_true]at h;rcases h with h|h
  ·exact hi j h
  ·split at h
   case h_2=>simp at h
   rename_i o ho;simp only[List.any_eq_true,bE]at h;obtain⟨e,h1,h2,h3⟩:=h;have hle:l.getD e.on false=true:=hi e.on (by simp only[d1,ho,List.any_eq_true,bE,beq_iff_eq];exact⟨e,h1,h2,rfl⟩)
   exact ih (fun j hj=>hdn _ j hle hj) h3
theorem Jz{i j:Nat}{l:Array Bool}(hdn:∀i j,l.getD i false=true->d1 ops i j=true->l.getD j false=true)(hi:i∈Region.ready .any ops l)(h:d2 ops i j=true):l.getD j false=true:=
 JA hdn (fun j hj=>Jy hi hj) h
theorem ZQ(hD:su ops gl p ch js){i j:Nat}(h:d1 ops i j=true):j<i:=by
 unfold d1 at h;split at h
 case h_2=>simp at h
 rename_i o ho;simp only[List.any_eq_true,bE,beq_iff_eq]at h;obtain⟨e,h1,h2,rfl⟩:=h;exact hD.edge i o ho e (by simpa using h1) h2
theorem sZ{l:Array Bool}{i F:Nat}(hi:l.getD i true=false)(h:l.count false<=F+1):(l.setIfInBounds i true).count false<=F:=by
 have hlt:i<l.size:=by
  by_cases hlt:i<l.size
  ·exact hlt
  ·simp[Array.getD_eq_getD_getElem?,Array.getElem?_eq_none (Nat.le_of_not_lt hlt)]at hi
 have hv:l[i]=false:=by simpa[Array.getD_eq_getD_getElem?,Array.getElem?_eq_getElem hlt]using hi
 simp only[Array.setIfInBounds,hlt,dif_pos];rw[Array.count_set];simp[hv];omega
theorem vv{l:Array Bool}{i:Nat}(hi:l.getD i true=false):0<l.count false:=by
 have hlt:i<l.size:=by
  by_cases hlt:i<l.size
  ·exact hlt
  ·simp[Array.getD_eq_getD_getElem?,Array.getElem?_eq_none (Nat.le_of_not_lt hlt)]at hi
 have hv:l[i]=false:=by simpa[Array.getD_eq_getD_getElem?,Array.getElem?_eq_getElem hlt]using hi
 exact Array.count_pos_iff.2 (hv▸Array.getElem_mem hlt)
theorem gU{l:Array Bool}{j:Nat}(h:j<l.size):l.getD j true=l.getD j false:=by simp[Array.getD_eq_getD_getElem?,Array.getElem?_eq_getElem h]
theorem tN{l:Array Bool}{i j:Nat}(hj:j<l.size):(l.setIfInBounds i true).getD j true=(l.getD j true||decide (i=j)):=by
 by_cases h:i=j
 ·subst h;simp[Array.getD_eq_getD_getElem?,hj]
 ·simp[Array.getD_eq_getD_getElem?,Array.getElem?_setIfInBounds_ne h,h]
theorem F4(hLP:w0.ze=rU P){rq r:Option Nat}(hF:∀f,(T f).isSome=true->kC P f=true)(hT:∀m,m<N->kE P T m/\mE P T m)(hD:su ops gl p ch js)(hok:uj P nt ops ops.toList gl=true):∀ {F q n:Nat} {l:Array Bool} {μ:Nat->Nat} {fr:Nat->Prop} {e:Env} {s:ay} {a:Act} {w:World},
 p<=q->q<=gl.length->l.size=ops.size->l.count false<=F->(∀j,j<gl.length->l.getD j true=decide (j<q))->n<=N->Inv w0 sh nt μ fr e s a w->runN T n (.ops (gl.drop q)::k) e s=some x->
 wpAnyIn (rF r) 0 P .any ops (Qk T w0 sh nt N k rq x) F l a w:=by
 intro F;induction F with
 | zero=>
  intro q n l μ fr e s a w hp hq hl hc hL hn h hr;have hqe:q=gl.length:=by
   by_cases hlt:q<gl.length
   ·have:=vv (l:=l) (i:=q) (by rw[hL q hlt];simp);omega
   ·omega
  subst hqe;refine⟨?_,?_⟩
  ·cases hrd:Region.ready .any ops l with
   | nil=>rfl
   | cons i r=>
    have hi:i∈Region.ready .any ops l:=by rw[hrd];exact List.mem_cons_self
    have:=vv (mem_ready.1 hi).1;omega
  ·rw[List.drop_length]at hr
   cases n with
   | zero=>simp[runN]at hr
   | succ n=>exact⟨n,by omega,μ,fr,e,s,h,by simpa only[runN]using hr⟩
 | succ F ih=>
  intro q n l μ fr e s a w hp hq hl hc hL hn h hr;by_cases hlt:q<gl.length
  ·have hone:∀i∈Region.ready .any ops l,i=q:=by
    intro i hi;obtain⟨h0,o,ho,he⟩:=mem_ready.1 hi;have hil:i<gl.length:=by have:=(Array.getElem?_eq_some_iff.1 ho).1;have:=hD.size;omega
    have hge:q<=i:=by
     have:=hL i hil;rw[h0]at this
     have:=of_decide_eq_false this.symm;omega
    by_cases heq:i=q
    ·exact heq
    ·exfalso;have hlq:l.getD q false=false:=by rw[<-gU (by have:=hD.size;omega),hL q hlt];simp
     have h1:=Jz (fun m j h1 h2=>by
      have hm:=ZQ hD h2;by_cases hml:m<gl.length
      ·rw[<-gU (by have:=hD.size;omega),hL m hml]at h1
       have:=of_decide_eq_true h1;rw[<-gU (by have:=hD.size;omega),hL j (by omega)];simp;omega
      ·have:l.size<=m:=by have:=hD.size;omega
       simp[Array.getD_eq_getD_getElem?,Array.getElem?_eq_none this]at h1) hi (hD.tail i q (by omega) hil (by omega))
     rw[hlq]at h1;simp at h1
   have hqr:q∈Region.ready .any ops l:=by
    have hqs:q<ops.size:=by have:=hD.size;omega
    refine mem_ready.2 ⟨by rw[hL q hlt];simp,ops[q],Array.getElem?_eq_getElem hqs,?_⟩;intro e he hb;have:=hD.edge q _ (Array.getElem?_eq_getElem hqs) e he hb;rw[<-gU (by have:=hD.size;omega),hL e.on (by omega)];simpa using this
   refine⟨fun hnil=>by rw[hnil]at hqr;simp at hqr,?_⟩;intro i hi;obtain rfl:=hone i hi;have hqs:i<ops.size:=by have:=hD.size;omega
   obtain⟨g,hg,hokg⟩:=E9 hok i ops[i] (by simp[hqs]);rw[List.drop_eq_getElem_cons hlt]at hr
   have hge:gl[i]=g:=by simpa[List.getElem?_eq_getElem hlt]using hg
   rw[hge]at hr
   cases n with
   | zero=>simp[runN]at hr
   | succ n=>
    simp only[runN]at hr;have next:∀ {μ' fr' e' s' a' w'},Inv w0 sh nt μ' fr' e' s' a' w'->runN T n (.ops (gl.drop (i+1))::k) e' s'=some x->wpAnyIn (rF r) 0 P .any ops (Qk T w0 sh nt N k rq x) F (l.setIfInBounds i true) a' w':=by intro μ' fr' e' s' a' w' h' hr';refine ih (q:=i+1) (by omega) hlt (by simpa using hl) (sZ (by rw[hL i hlt];simp) hc) ?_ (by omega) h' hr';intro j hj;rw[tN (by have:=hD.size;omega),hL j hj];rw[<-Bool.decide_or];exact decide_eq_decide.2 (by omega)
    split at hr
    ·rename_i hgd;split at hr
     case h_2=>simp at hr
     rename_i y s' hy;exact Hq hLP hF (Array.getElem?_eq_getElem hqs) hokg h hT (.inr ⟨hgd,n,by omega,hy⟩) (fun a' w' μ' fr' hI=>next hI hr)
    ·rename_i hgd;exact Hq hLP hF (Array.getElem?_eq_getElem hqs) hokg h hT (.inl ⟨hgd,rfl,rfl⟩) (fun a' w' μ' fr' hI=>next hI hr)
    ·simp at hr
  ·have hqe:q=gl.length:=by omega
   subst hqe;have hnone:Region.ready .any ops l=[]:=by
    cases hrd:Region.ready .any ops l with
    | nil=>rfl
    | cons i r=>
     exfalso;have hi:i∈Region.ready .any ops l:=by rw[hrd];exact List.mem_cons_self
     obtain⟨h0,o,ho,_⟩:=mem_ready.1 hi;have hil:i<gl.length:=by have:=(Array.getElem?_eq_some_iff.1 ho).1;have:=hD.size;omega
     rw[hL i hil]at h0
     exact(of_decide_eq_false h0) hil
   refine⟨fun _=>?_,fun i hi=>by rw[hnone]at hi;simp at hi⟩;rw[List.drop_length]at hr
   cases n with
   | zero=>simp[runN]at hr
   | succ n=>exact⟨n,by omega,μ,fr,e,s,h,by simpa only[runN]using hr⟩
theorem nI{p:Nat->Prop}:∀ {n:Nat},p n->∃m,m<=n/\p m/\∀j,j<m->¬p j:=by
 intro n;induction n using Nat.strongRecOn with
 | _ n ih=>
  intro h;by_cases hx:∃j,j<n/\p j
  ·obtain⟨j,h1,h2⟩:=hx;obtain⟨m,h3,h4⟩:=ih j h1 h2;exact⟨m,by omega,h4⟩
  ·exact⟨n,Nat.le_refl _,h,fun j hj hp=>hx ⟨j,hj,hp⟩⟩
open Classical in
noncomputable def SL(ss:Nat->ay)(L:Nat->Prop):Nat->ay
 | 0=>ss 0
 | i+1=>fun o=>if L i/\ss (i+1) o≠ss i o then ss (i+1) o else SL ss L i o
theorem iG{ss:Nat->ay}{L:Nat->Prop}{o i:Nat}:∀ {q:Nat},(∀j,j<q->ss (j+1) o≠ss j o->(L j↔j<i))->SL ss L q o=ss (min q i) o:=by
 intro q;induction q with
 | zero=>intro _;simp[SL]
 | succ q ih=>
  intro h;have ih:=ih (fun j hj=>h j (by omega));simp only[SL];by_cases hc:L q/\ss (q+1) o≠ss q o
  ·rw[if_pos hc];have:=(h q (by omega) hc.2).1 hc.1;rw[show min (q+1) i=q+1 by omega]
  ·rw[if_neg hc,ih];by_cases hqi:q<i
   ·rw[show min q i=q by omega,show min (q+1) i=q+1 by omega];by_cases he:ss (q+1) o=ss q o
    ·exact he.symm
    ·exact absurd ⟨(h q (by omega) he).2 hqi,he⟩ hc
   ·rw[show min q i=i by omega,show min (q+1) i=i by omega]
theorem BX{ss:Nat->ay}{L L':Nat->Prop}{o:Nat}:∀ {q:Nat},(∀j,j<q->ss (j+1) o≠ss j o->(L j↔L' j))->SL ss L q o=SL ss L' q o:=by
 intro q;induction q with
 | zero=>intro _;rfl
 | succ q ih=>
  intro h;have ih:=ih (fun j hj=>h j (by omega));simp only[SL];by_cases he:ss (q+1) o=ss q o
  ·simp[he,ih]
  ·have h1:=h q (by omega) he;by_cases hL:L q
   ·rw[if_pos ⟨hL,he⟩,if_pos ⟨h1.1 hL,he⟩]
   ·rw[if_neg (fun h=>hL h.1),if_neg (fun h=>hL (h1.2 h.1)),ih]
theorem LY{ss:Nat->ay}{p:Nat}(h:∀i,i<p->gD (ss i) (ss (i+1))){o:Nat}(he:(ss p o).n=(ss 0 o).n):∀i,i<=p->ss i o=ss 0 o:=by
 have mono:∀(i d:Nat),i+d<=p->(ss i o).n<=(ss (i+d) o).n:=by
  intro i d;induction d with
  | zero=>intro _;exact Nat.le_refl _
  | succ d ih=>
   intro hd;have h1:=ih (by omega);rcases h (i+d) (by omega) o with h2|h2
   ·rw[show i+(d+1)=i+d+1 by omega,h2];exact h1
   ·rw[show i+(d+1)=i+d+1 by omega];omega
 intro i;induction i with
 | zero=>intro _;rfl
 | succ i ih=>
  intro hi;have ih:=ih (by omega);rcases h i (by omega) o with h2|h2
  ·rw[h2,ih]
  ·exfalso;have h3:=mono (i+1) (p-(i+1)) (by omega);rw[show i+1+(p-(i+1))=p by omega]at h3
   rw[ih]at h2
   omega
theorem FT{x y:X}(h:p8 x y=true):x=y:=by
 unfold p8 at h;split at h
 ·simp only[bE,beq_iff_eq]at h;obtain⟨rfl,rfl⟩:=h;rfl
 ·simp only[beq_iff_eq]at h;rw[h]
 ·simp at h
theorem zl{r:List It->Env->ay->Option (Env×ay)}{op:gm}{e:Env}{s:ay}(h:rT op=true):bW r T op e s=aA op e s:=by cases op<;>first|rfl|(simp[rT]at h;done)
theorem Ba{op:gm}(h:xG op=0):b_ op=true:=by
 cases op
 case bL st _ _ _ _=>cases st<;>simp[xG,b_,dn]at h
 all_goals simp only[xG]at h<;>first|(simp at h;done)|(split at h<;>first|assumption|(simp at h;done))
theorem Ga.cnt(hC:TC T){g:d9}{e:Env}{s s':ay}{y:X}(h:Ga T N g e s y s'):gD s s':=by
 rcases h with⟨_,_,rfl⟩|⟨_,m,_,h⟩
 ·exact gD.refl _
 ·exact JZ (fun its e s x hx=>Rm T hC m its e s x hx) hC h
theorem Ga.still{g:d9}{e:Env}{s s':ay}{y:X}(h:Ga T N g e s y s')(hc:xG g.op=0):s'=s:=by
 rcases h with⟨_,_,rfl⟩|⟨_,m,_,h⟩
 ·rfl
 ·exact FZ (Ba hc) h
theorem Jq{q k lim:Nat}{x y z:X}{s s':ay}(h:wV s q k lim x y=some (z,s')):(∀o,o≠q->s' o=s o)/\∀s2:ay,s2 q=s q->wV s2 q k lim x y=some (z,fun o=>if o=q then s' q else s2 o):=by
 have same:∀s2:ay,s2 q=s q->(fun o=>if o=q then s q else s2 o)=s2:=by
  intro s2 h2;funext o;by_cases ho:o=q
  ·subst ho;simp[h2]
  ·simp[ho]
 have new:∀(s2:ay) (ob:Ob),s2 q=s q->(fun o=>if o=q then aO s q ob q else s2 o)=aO s2 q ob:=by
  intro s2 ob h2;funext o;by_cases ho:o=q
  ·subst ho;simp[aO,upd,h2]
  ·simp[aO,upd,ho]
 have keep:∀ob o,o≠q->aO s q ob o=s o:=fun ob o ho=>by simp[aO,upd,ho]
 unfold wV at h;split at h
 ·rename_i f es;simp only[Ah,elems]at h;split at h
  ·simp at h
  rename_i hok;split at h
  ·rename_i h0;simp only[aR,bq]at h;obtain⟨rfl,rfl⟩:=h;refine⟨fun _ _=>rfl,fun s2 h2=>?_⟩;simp only[wV,Ah,elems];rw[if_neg hok,if_pos h0,same s2 h2]
  ·rename_i h0;split at h
   case isFalse=>simp at h
   rename_i hl;simp only[aR,bq]at h;obtain⟨rfl,rfl⟩:=h;refine⟨keep _,fun s2 h2=>?_⟩;simp only[wV,Ah,elems];rw[if_neg hok,if_neg h0,if_pos hl,new s2 _ h2,h2]
 ·rename_i o' g k' i n f es;split at h
  case isFalse=>simp at h
  rename_i hq;subst hq;simp only[Ah,elems]at h;split at h
  ·simp at h
  rename_i hok;split at h
  case h_2=>simp at h
  rename_i k'' es' ho;split at h
  case isFalse=>simp at h
  rename_i hc;simp only[aR,bq]at h;obtain⟨rfl,rfl⟩:=h;refine⟨keep _,fun s2 h2=>?_⟩;simp only[wV,Ah,elems,if_true,h2,ho];rw[if_neg hok,if_pos hc,new s2 _ h2]
 ·simp at h
theorem Ga.box{g:d9}{e:Env}{s s':ay}{y:X}(h:Ga T N g e s y s')(hc:xG g.op=1):∃q,Gh g.op=some q/\(∀o,o≠q->s' o=s o)/\
 ∀s2:ay,s2 q=s q->Ga T N g e s2 y (fun o=>if o=q then s' q else s2 o):=by
 obtain⟨d,gg,op⟩:=g;cases op
 case box q a=>
  refine⟨q,rfl,?_,?_⟩
  ·intro o ho;rcases h with⟨_,_,rfl⟩|⟨_,m,_,h⟩
   ·rfl
   ·simp only[bW,aA]at h;split at h
    ·simp only[aR,bq]at h;obtain⟨_,rfl⟩:=h;simp[aO,upd,ho]
    ·simp at h
  ·intro s2 hs2;rcases h with⟨h1,h2,rfl⟩|⟨h1,m,hm,h⟩
   ·refine .inl ⟨h1,h2,?_⟩;funext o;by_cases ho:o=q
    ·subst ho;simp[hs2]
    ·simp[ho]
   ·refine .inr ⟨h1,m,hm,?_⟩;simp only[bW,aA]at h ⊢;split at h
    ·rename_i hc;rw[if_pos hc];simp only[aR,bq]at h;obtain⟨rfl,rfl⟩:=h;rw[hs2];simp only[aR,bq,true_and];funext o;by_cases ho:o=q
     ·subst ho;simp[aO,upd,hs2]
     ·simp[aO,upd,ho]
    ·simp at h
 case NK q k lim a b=>
  refine⟨q,rfl,?_,?_⟩
  ·rcases h with⟨_,_,rfl⟩|⟨_,m,_,h⟩
   ·intro o _;rfl
   ·exact(Jq (by simpa only[bW,aA]using h)).1
  ·intro s2 hs2;rcases h with⟨h1,h2,rfl⟩|⟨h1,m,hm,h⟩
   ·refine .inl ⟨h1,h2,?_⟩;funext o;by_cases ho:o=q
    ·subst ho;simp[hs2]
    ·simp[ho]
   ·exact .inr ⟨h1,m,hm,by simp only[bW,aA];exact(Jq (by simpa only[bW,aA]using h)).2 s2 hs2⟩
 case bL st p q f l=>
  cases st with
  | false=>simp[xG,b_,dn]at hc
  | true=>
  have key:∀ {m e} {s s':ay} {y:X},bW (runN T m) T (.bL true p q f l) e s=some (y,s')->(∀o,o≠q->s' o=s o)/\
   ∀s2:ay,s2 q=s q->bW (runN T m) T (.bL true p q f l) e s2=some (y,fun o=>if o=q then s' q else s2 o):=by
   intro m e s s' y h;simp only[bW,pq]at h ⊢;split at h
   ·simp at h
   rename_i xs hxs;have hnm:(l.map (Ar.ev e)).flatMap lU=[]:=by
    unfold ji at h;split at h
    ·split at h
     ·simp at h
     ·rename_i hn;exact Classical.byContradiction fun hq=>hn ⟨rfl,hq⟩
    ·split at h
     ·simp at h
     ·rename_i hn;exact Classical.byContradiction fun hq=>hn (.inl ⟨rfl,hq⟩)
    ·simp at h
   have hA:∀s2,tq s2 (l.map (Ar.ev e))=some xs:=fun s2=>Eo hnm hxs;refine⟨?_,fun s2 hs2=>?_⟩
   ·intro o ho;unfold ji at h;split at h
    ·split at h
     ·simp at h
     ·simp only[aR,bq]at h;obtain⟨_,rfl⟩:=h;simp[gB,hnm]
    ·split at h
     ·simp at h
     ·simp only[aR,bq]at h;obtain⟨_,rfl⟩:=h;simp[gB,hnm,aO,upd,ho]
    ·simp at h
   ·rw[hA s2];simp only;unfold ji at h ⊢;rw[hnm]at h ⊢
    split at h
    ·rw[if_neg (show ¬(true=true/\¬(([]:List Nat)=[]))by simp)]at h ⊢
     simp only[aR,bq]at h ⊢;obtain⟨rfl,rfl⟩:=h;refine⟨rfl,?_⟩;funext o;by_cases ho:o=q
     ·subst ho;simp[gB,hs2]
     ·simp[gB,ho]
    ·rw[if_neg (show ¬((true=true/\¬(([]:List Nat)=[]))\/q∈([]:List Nat))by simp)]at h ⊢
     simp only[aR,bq]at h ⊢;obtain⟨rfl,rfl⟩:=h;refine⟨by rw[hs2],?_⟩;funext o;by_cases ho:o=q
     ·subst ho;simp[gB,aO,upd,hs2]
     ·simp[gB,aO,upd,ho]
    ·simp at h
  refine⟨q,rfl,?_,?_⟩
  ·rcases h with⟨_,_,rfl⟩|⟨_,m,_,h⟩
   ·intro o _;rfl
   ·exact(key h).1
  ·intro s2 hs2;rcases h with⟨h1,h2,rfl⟩|⟨h1,m,hm,h⟩
   ·refine .inl ⟨h1,h2,?_⟩;funext o;by_cases ho:o=q
    ·subst ho;simp[hs2]
    ·simp[ho]
   ·exact .inr ⟨h1,m,hm,(key h).2 s2 hs2⟩
 all_goals (simp only[xG]at hc;split at hc<;>simp at hc)
theorem Ox(hLP:w0.ze=rU P){rq r:Option Nat}(hC:TC T)(hF:∀f,(T f).isSome=true->kC P f=true)(hT:∀m,m<N->kE P T m/\mE P T m)(hD:su ops gl p ch js)(hok:uj P nt ops ops.toList gl=true){e:Env}{xs:Nat->X}{ss:Nat->ay}
 (hxs:∀i g,i<p->gl[i]?=some g->Ga T N g (gu e gl xs (·<i)) (ss i) (xs i) (ss (i+1)))
 (hch:∀t∈ch,∀o∈kz (gu e gl xs (·<p) t),(ss p o).n=(ss 0 o).n)
 (hjs:∀j g d,j∈js->j<p->gl[j]?=some g->g.d=some d->∃x y s1 s2,aA g.op (gu e gl xs (·<p)) (ss 0)=some (x,s1)/\aA g.op (gu e gl xs (·<p)) (ss p)=some (y,s2)/\x=gu e gl xs (·<p) d/\y=gu e gl xs (·<p) d)
 {n:Nat} (hn:n<=N) (hr:runN T n (.ops (gl.drop p)::k) (gu e gl xs (·<p)) (ss p)=some x) :
 ∀ {F:Nat} {l:Array Bool} {μ:Nat->Nat} {fr:Nat->Prop} {a:Act} {w:World},l.size=ops.size->l.count false<=F->(∀j,j<gl.length->l.getD j true=true->j<p)->
 (∀i j,l.getD i false=true->d1 ops i j=true->l.getD j false=true)->Inv w0 sh nt μ fr (gu e gl xs (fun j=>l.getD j true=true)) (SL ss (fun j=>l.getD j true=true) p) a w->wpAnyIn (rF r) 0 P .any ops (Qk T w0 sh nt N k rq x) F l a w:=by
 have hple:=hD.le;have hsz:=hD.size;have hcnt:∀i,i<p->gD (ss i) (ss (i+1)):=fun i hi=>(hxs i gl[i] hi (List.getElem?_eq_getElem (by omega))).cnt hC;have hall':∀ {L:Nat->Prop},(∀j,j<p->L j)->SL ss L p=ss p:=by intro L hL;funext o;rw[iG (i:=p) (fun j hj _=>⟨fun _=>hj,fun _=>hL j hj⟩),Nat.min_self]
 intro F;induction F with
 | zero=>
  intro l μ fr a w hl hc hlt hdn h;have hall:∀j,j<gl.length->l.getD j true=true:=by
   intro j hj;cases hq:l.getD j true with
   | true=>rfl
   | false=>have:=vv hq;omega
  refine F4 hLP hF hT hD hok (μ:=μ) (fr:=fr) (q:=p) (Nat.le_refl _) hD.le hl hc ?_ hn ?_ hr
  ·intro j hj;rw[hall j hj];exact(decide_eq_true (hlt j hj (hall j hj))).symm
  ·rw[pz (L':=fun j=>l.getD j true=true) (fun j hj=>by rw[hall j hj];simp[hlt j hj (hall j hj)]) hD,<-hall' (L:=fun j=>l.getD j true=true) (fun j hj=>hall j (by omega))];exact h
 | succ F ih=>
  intro l μ fr a w hl hc hlt hdn h;by_cases hall:∀j,j<p->l.getD j true=true
  ·refine F4 hLP hF hT hD hok (μ:=μ) (fr:=fr) (q:=p) (Nat.le_refl _) hD.le hl hc ?_ hn ?_ hr
   ·intro j hj;by_cases hjp:j<p
    ·rw[hall j hjp];simp[hjp]
    ·cases hq:l.getD j true with
     | true=>exact absurd (hlt j hj hq) hjp
     | false=>simp[hjp]
   ·rw[pz (L':=fun j=>l.getD j true=true) (fun j hj=>⟨fun h1=>hall j h1,hlt j hj⟩) hD,<-hall' (L:=fun j=>l.getD j true=true) hall];exact h
  ·obtain⟨j0,hj0⟩:=Classical.not_forall.1 hall;obtain⟨hj0,hj0u⟩:=Classical.not_imp.1 hj0;have hj0u:l.getD j0 true=false:=by simpa using hj0u
   obtain⟨j,hjle,hju,hjmin⟩:=nI (p:=fun j=>l.getD j true=false) hj0u;have hjp:j<p:=by omega
   have hready:j∈Region.ready .any ops l:=by
    have hjs:j<ops.size:=by omega
    refine mem_ready.2 ⟨hju,ops[j],Array.getElem?_eq_getElem hjs,?_⟩;intro e he hb;have h1:=hD.edge j _ (Array.getElem?_eq_getElem hjs) e he hb;rw[<-gU (by omega)];simpa using hjmin e.on h1
   refine⟨fun hnil=>by rw[hnil]at hready;simp at hready,?_⟩;intro i hi;obtain⟨h0,o,ho,he⟩:=mem_ready.1 hi;have his:=(Array.getElem?_eq_some_iff.1 ho).1;have hd2:∀j,d2 ops i j=true->l.getD j false=true:=fun j hj=>Jz hdn hi hj;have hd2':∀j,j<p->d2 ops i j=true->l.getD j true=true:=fun j hj h=>by rw[gU (by omega)];exact hd2 j h
   have hd3:∀j,j<p->d2 ops j i=true->¬l.getD j true=true:=by
    intro j hj h1 h2;have h3:l.getD i false=true:=JA hdn (fun q hq=>hdn j q (by rw[<-gU (by omega)];exact h2) hq) h1;rw[<-gU (by omega),h0]at h3
    simp at h3
   have hip:i<p:=by
    by_cases hip:i<p
    ·exact hip
    ·have:=hd2 j (hD.tail i j (by omega) (by omega) (by omega));rw[<-gU (by omega),hju]at this
     simp at this
   obtain⟨g,hg,hokg⟩:=E9 hok i o (by simpa using ho);have hrd:∀t∈g.rd,gu e gl xs (fun j=>l.getD j true=true) t=gu e gl xs (·<i) t:=by
    intro t ht;refine lm (fun j hj hjt=>?_) hD;by_cases hji:j=i
    ·subst hji;simp[h0]
    by_cases hjp':j<p
    case neg=>exact⟨fun hq=>absurd (hlt j hj hq) hjp',fun hq=>by omega⟩
    ·rcases hD.reads i g t j hip hg ht hjp' hji hjt with⟨h1,h2⟩|⟨h1,h2⟩
     ·have:=hd2 j h2;rw[<-gU (by omega)]at this
      simp[this,h1]
     ·exact⟨fun hq=>absurd hq (hd3 j hjp' h2),fun hq=>by omega⟩
   have hrdp:(∀t∈g.rd,∀q,q<p->kL gl q=some t->q<i)->∀t∈g.rd,gu e gl xs (·<p) t=gu e gl xs (·<i) t:=by intro hlate t ht;exact lm (fun j hj hjt=>⟨fun hq=>hlate t ht j hq hjt,fun hq=>by omega⟩) hD
   have hsub:∀n∈g.op.rd,n∈g.rd:=fun n hn=>List.mem_append_left _ hn;have hdid:Ga T N g (gu e gl xs (fun j=>l.getD j true=true)) (SL ss (fun j=>l.getD j true=true) p) (xs i) (SL ss (fun j=>l.getD j true=true\/j=i) p):=by
    have hx:=hxs i g hip hg;have tr:∀ {s y s'},Ga T N g (gu e gl xs (·<i)) s y s'->Ga T N g (gu e gl xs (fun j=>l.getD j true=true)) s y s':=by
     intro s y s' hd;rcases hd with⟨h1,h2,h3⟩|⟨h1,m,hm,h2⟩
     ·exact .inl ⟨by rw[EM hrd];exact h1,h2,h3⟩
     ·exact .inr ⟨by rw[EM hrd];exact h1,m,hm,by rw[MN (fun n hn=>hrd n (hsub n hn))];exact h2⟩
    refine tr ?_;have wr:∀j o,j<p->ss (j+1) o≠ss j o->∃gj,gl[j]?=some gj/\xG gj.op≠0:=by intro j o hj hne;have hgj:gl[j]?=some gl[j]:=List.getElem?_eq_getElem (by omega);refine⟨_,hgj,fun h0=>hne ?_⟩;rw[(hxs j _ hj hgj).still h0]
    have ordL:∀j,j<p->j≠i->(j<i/\d2 ops i j=true)\/(i<j/\d2 ops j i=true)->(l.getD j true=true↔j<i):=by
     intro j hj hne ho;rcases ho with⟨h1,h2⟩|⟨h1,h2⟩
     ·exact⟨fun _=>h1,fun _=>hd2' j hj h2⟩
     ·exact⟨fun h=>absurd h (hd3 j hj h2),fun h=>by omega⟩
    by_cases c0:xG g.op=0
    ·
     have hs1:ss (i+1)=ss i:=hx.still c0;have hSL:SL ss (fun j=>l.getD j true=true\/j=i) p=SL ss (fun j=>l.getD j true=true) p:=by
      funext o;refine BX fun j hj hne=>⟨fun h=>h.elim id fun h=>?_,.inl⟩
      subst h;exact absurd (by rw[hs1]) hne
     rw[hSL];rcases hx with⟨h1,h2,h3⟩|⟨h1,m,hm,h2⟩
     ·exact .inl ⟨h1,h2,rfl⟩
     refine .inr ⟨h1,m,hm,?_⟩;rw[hs1]at h2
     have hst:=Ba c0;have loc:(∀a∈g.op.og,∀q∈kz (a.ev (gu e gl xs (·<i))),SL ss (fun j=>l.getD j true=true) p q=ss i q)->bW (runN T m) T g.op (gu e gl xs (·<i)) (SL ss (fun j=>l.getD j true=true) p)=some (xs i,SL ss (fun j=>l.getD j true=true) p):=
      fun hl=>MO hst hl h2
     by_cases hun:∃j gj,j<p/\j≠i/\gl[j]?=some gj/\xG gj.op≠0/\¬((j<i/\d2 ops i j=true)\/(i<j/\d2 ops j i=true))
     ·obtain⟨j,gj,hj,hne,hgj,hcj,hno⟩:=hun;rcases hD.sep j i gj g hj hip (Ne.symm hne) hgj hg hcj with h3|h3|⟨_,h3⟩
      ·exact absurd (h3.symm) hno
      ·have:=h3.1;omega
      rcases h3 with h3|⟨hlate,h3|⟨hjm,hgg,⟨d,hd⟩,hnc,hone⟩⟩
      ·have hnc:rT g.op=true:=by cases hgo:g.op<;>simp[hgo,yS]at h3<;>simp[rT]
       rw[zl hnc]at h2 ⊢
       exact zZ h3 h2
      ·refine loc fun a ha q hq=>?_;cases a with
       | k y=>
        have:=hD.kst i g hip hg _ ha;simp only[arK,List.isEmpty_iff]at this;simp only[Ar.ev]at hq;rw[this]at hq
        simp at hq
       | t z=>
        have hz:z∈g.op.rd:=List.mem_flatMap.2 ⟨_,ha,by simp[Ar.sl]⟩;simp only[Ar.ev]at hq;rw[<-hrdp hlate z (hsub z hz)]at hq
        have hun:=LY hcnt (hch z (h3 z hz) q hq);rw[iG (i:=i) (fun j hj hne=>absurd ((hun (j+1) (by omega)).trans (hun j (by omega)).symm) hne),show min p i=i by omega]
      ·
       rw[zl hnc]at h2 ⊢
       obtain⟨x1,x2,s1,s2,e1,e2,e3,e4⟩:=hjs i g d hjm hip hg hd;have hxi:gu e gl xs (·<p) d=xs i:=qg (L:=(·<p)) hD hip (by omega) (by rw[yT hg,hd]);have hcg:∀s,aA g.op (gu e gl xs (·<p)) s=aA g.op (gu e gl xs (·<i)) s:=fun s=>wP (Rh fun n hn=>hrdp hlate n (hsub n hn));have hsti:dn g.op=true:=by have:=hst;cases hgo:g.op<;>simp[hgo,rT]at hnc<;>simpa[hgo,b_]using this
       rw[hcg]at e1 e2
       rw[e3,hxi]at e1
       rw[e4,hxi]at e2
       have only:∀q o,q<p->ss (q+1) o≠ss q o->q=j:=by
        intro q o hq hne;obtain⟨gq,hgq,hcq⟩:=wr q o hq hne;by_cases hqj:q=j
        ·exact hqj
        ·exact absurd (hone q gq hq hgq hqj) hcq
       by_cases hLj:l.getD j true=true
       ·have:SL ss (fun j=>l.getD j true=true) p=ss p:=by funext o;rw[iG (i:=p) (fun q hq hne=>by rw[only q o hq hne];simp[hLj,hj]),Nat.min_self]
        rw[this,e2,nZ hsti e2]
       ·have:SL ss (fun j=>l.getD j true=true) p=ss 0:=by funext o;rw[iG (i:=0) (fun q hq hne=>by rw[only q o hq hne];simp[hLj]),Nat.min_zero]
        rw[this,e1,nZ hsti e1]
     ·have:SL ss (fun j=>l.getD j true=true) p=ss i:=by
       funext o;rw[iG (i:=i) (fun j hj hne=>?_),show min p i=i by omega];obtain⟨gj,hgj,hcj⟩:=wr j o hj hne;by_cases hji:j=i
       ·subst hji;exact absurd (by rw[hs1]) hne
       ·refine ordL j hj hji ?_;exact Classical.byContradiction fun hno=>hun ⟨j,gj,hj,hji,hgj,hcj,hno⟩
      rw[this];exact h2
    ·have sepW:∀j gj,j<p->j≠i->gl[j]?=some gj->xG gj.op≠0->((j<i/\d2 ops i j=true)\/(i<j/\d2 ops j i=true))\/(xG gj.op=1/\xG g.op=1/\Gh g.op≠Gh gj.op):=by
      intro j gj hj hne hgj hcj;rcases hD.sep i j g gj hip hj hne hg hgj c0 with h3|h3|⟨h3,_⟩
      ·exact .inl h3
      ·exact .inr h3
      ·exact absurd h3 hcj
     by_cases c1:xG g.op=1
     ·obtain⟨q,hq,hkeep,hbox⟩:=hx.box c1;have atq:∀j,j<p->ss (j+1) q≠ss j q->j≠i->(l.getD j true=true↔j<i):=by
       intro j hj hne hji;obtain⟨gj,hgj,hcj⟩:=wr j q hj hne;rcases sepW j gj hj hji hgj hcj with h3|⟨h3,_,h4⟩
       ·exact ordL j hj hji h3
       ·obtain⟨q',hq',hk',_⟩:=(hxs j gj hj hgj).box h3;by_cases hqq:q=q'
        ·subst hqq;exact absurd (hq.trans hq'.symm) h4
        ·exact absurd (hk' q hqq) hne
      have e1:SL ss (fun j=>l.getD j true=true) p q=ss i q:=by
       rw[iG (i:=i) (fun j hj hne=>?_),show min p i=i by omega];by_cases hji:j=i
       ·subst hji;simp[h0]
       ·exact atq j hj hne hji
      have e2:SL ss (fun j=>l.getD j true=true\/j=i) p q=ss (i+1) q:=by
       rw[iG (i:=i+1) (fun j hj hne=>?_),show min p (i+1)=i+1 by omega];by_cases hji:j=i
       ·subst hji;exact⟨fun _=>by omega,fun _=>.inr rfl⟩
       ·have:=atq j hj hne hji;simp only[hji,or_false];rw[this];omega
      have e3:(fun o=>if o=q then ss (i+1) q else SL ss (fun j=>l.getD j true=true) p o)=SL ss (fun j=>l.getD j true=true\/j=i) p:=by
       funext o;by_cases hoq:o=q
       ·subst hoq;simp only[if_true];exact e2.symm
       ·simp only[hoq,if_false];refine BX fun j hj hne=>⟨.inl,fun h=>h.elim id fun h=>?_⟩
        subst h;exact absurd (hkeep o hoq) hne
      rw[<-e3];exact hbox _ e1
     ·have atA:∀o j,j<p->ss (j+1) o≠ss j o->j≠i->(l.getD j true=true↔j<i):=by
       intro o j hj hne hji;obtain⟨gj,hgj,hcj⟩:=wr j o hj hne;rcases sepW j gj hj hji hgj hcj with h3|⟨_,h4,_⟩
       ·exact ordL j hj hji h3
       ·exact absurd h4 c1
      have e1:SL ss (fun j=>l.getD j true=true) p=ss i:=by
       funext o;rw[iG (i:=i) (fun j hj hne=>?_),show min p i=i by omega];by_cases hji:j=i
       ·subst hji;simp[h0]
       ·exact atA o j hj hne hji
      have e2:SL ss (fun j=>l.getD j true=true\/j=i) p=ss (i+1):=by
       funext o;rw[iG (i:=i+1) (fun j hj hne=>?_),show min p (i+1)=i+1 by omega];by_cases hji:j=i
       ·subst hji;exact⟨fun _=>by omega,fun _=>.inr rfl⟩
       ·have:=atA o j hj hne hji;simp only[hji,or_false];rw[this];omega
      rw[e1,e2];exact hx
   refine Hq hLP hF ho hokg h hT hdid ?_;intro a' w' μ' fr' hI;have hLL:∀j,j<gl.length->((l.setIfInBounds i true).getD j true=true↔(l.getD j true=true\/j=i)):=by intro j hj;rw[tN (by omega)];simp only[Bool.or_eq_true,decide_eq_true_eq];exact or_congr Iff.rfl eq_comm
   refine ih (μ:=μ') (fr:=fr') (by simpa using hl) (sZ h0 hc) ?_ ?_ ?_
   ·intro j' hj' hq;rcases(hLL j' hj').1 hq with hq|rfl
    ·exact hlt j' hj' hq
    ·exact hip
   ·intro i' j' h1 h2;have hj':j'<i':=ZQ hD h2;have hi's:i'<l.size:=by
     by_cases hq:i'<l.size
     ·exact hq
     ·have:(l.setIfInBounds i true).size<=i':=by rw[Array.size_setIfInBounds];omega
      simp[Array.getD_eq_getD_getElem?,Array.getElem?_eq_none this]at h1
    rw[<-gU (by rw[Array.size_setIfInBounds];omega),tN (by omega)]at h1
    rw[<-gU (by rw[Array.size_setIfInBounds];omega),tN (by omega)];simp only[Bool.or_eq_true,decide_eq_true_eq]at h1 ⊢;left;rw[gU (by omega)];rcases h1 with h1|rfl
    ·rw[gU (by omega)]at h1
     exact hdn i' j' h1 h2
    ·exact Jy hi h2
   ·rw[pz (L':=fun j=>l.getD j true=true\/j=i) hLL hD];rw[<-EA hD (by omega) (by simp[h0])];rw[yT hg];have:SL ss (fun j=>(l.setIfInBounds i true).getD j true=true) p=SL ss (fun j=>l.getD j true=true\/j=i) p:=by funext q;exact BX fun j hj _=>hLL j (by omega)
    rw[this];exact hI
end
variable {P:Program}
noncomputable def least(p:Nat->Prop):Nat:=by
 classical
 exact if h:∃n,p n then(nI h.choose_spec).choose else 0
theorem za{p:Nat->Prop}{n:Nat}(h:p n):p (least p)/\least p<=n:=by
 have hx:∃n,p n:=⟨n,h⟩
 have:=(nI hx.choose_spec).choose_spec;unfold least;rw[dif_pos hx];refine⟨this.2.1,?_⟩;by_cases hq:n<(nI hx.choose_spec).choose
 ·exact absurd h (this.2.2 n hq)
 ·omega
theorem NI{r:Option Nat}{c:Code}{Q:Exit->Act->World->Prop}{a:Act}{w:World}(J:Nat->Act->World->Prop){n:Nat}(h:J n a w)
 (round:∀n a w,J n a w->c.wpIn (rF r) 0 P (Exit.then (fun a' w'=>∃m,m<n/\J m a' w') Q) a w):(Code.loop c).wpIn (rF r) 0 P Q a w:=by
 refine wpIn_loop (fun a w=>∃n,J n a w) (fun a w=>least fun n=>J n a w) ⟨n,h⟩ ?_;rintro a w ⟨n,hn⟩;have hl:=za (p:=fun n=>J n a w) hn;refine Code.wpIn_mono ?_ (round _ a w hl.1);intro e a' w' he;cases e with
 | normal=>
  obtain⟨m,hm,hj⟩:=he;exact⟨⟨m,hj⟩,Nat.lt_of_le_of_lt (za (p:=fun n=>J n a' w') hj).2 hm⟩
 | _=>exact he
theorem qN{F:Fence}{n:Nat}{c:Code}{Q:Exit->Act->World->Prop}{a:Act}{w:World}(h:c.wpIn F n P (Exit.noGoto Q) a w):(Code.scope c).wpIn F n P Q a w:=by
 intro b k cs hro hb hr;have s1:step P (lone (b.atR a (.code (.scope c)::k)) cs w)=.next (lone (b.atR a (.code c::.inScope c::k)) cs w):=step_lone_go (by simp[stepG,stepG.exec,Frame.atR]);obtain⟨e,a₁,w₁,hq,harr⟩:=h b (.inScope c::k) cs hro hb hr;have s2:step P (lone (b.atR a₁ (.inScope c::k)) cs w₁)=.next (lone (b.atR a₁ k) cs w₁):=step_lone_go (by simp[stepG,stepG.exec,Frame.atR]);have h1:StepsIn (Machine.fenced P F) P (lone (b.atR a (.code (.scope c)::k)) cs w) (lone (b.atR a (.code c::.inScope c::k)) cs w):=.one (fenced_calm (fr:=b.atR a (.code (.scope c)::k)) hb hr rfl) s1;cases e with
 | normal=>exact⟨.normal,a₁,w₁,hq,.of_steps h1 (StepsIn.trans harr (.one (fenced_calm (fr:=b.atR a₁ (.inScope c::k)) hb hr rfl) s2))⟩
 | exit id=>exact⟨_,a₁,w₁,hq,.of_steps h1 ⟨fun k' hk=>harr.1 k' (by simp[exitTo,hk]),fun hr hk=>harr.2 hr (by simp[exitTo,hk])⟩⟩
 | goto l=>exact hq.elim
 | ret=>exact⟨_,a₁,w₁,hq,.of_steps h1 harr⟩
 | panic ch=>exact⟨_,a₁,w₁,hq,.of_steps h1 harr⟩
 | outgrown=>exact⟨_,a₁,w₁,hq,.of_steps h1 harr⟩
section
variable {w0:Bs} {sh:Nat->Prop} {nt:Nat} {μ:Nat->Nat} {fr:Nat->Prop} {e:Env} {s:ay} {a:Act} {w:World}
theorem Pw{w:World}{b:Nat}{o o':Obj}(hb:w.heap[b]?=some o)(hc:∀cs t fz,o≠.cells cs t fz){p:Addr}{v:Value}(h:w.cell? p=some v):(w.putObj b o').cell? p=some v:=by
 by_cases hp:p.block=b
 ·exfalso;unfold World.cell? at h;rw[hp,hb]at h
  cases o<;>first|exact hc _ _ _ rfl|simp at h
 ·rw[World.cell?_of_block (w:=w) (World.putObj_heap_other hp)];exact h
theorem Ht{w:World}{b:Nat}{o o':Obj}(hb:w.heap[b]?=some o)(hc':∀cs t fz,o'≠.cells cs t fz){p:Addr}(h:w.frozen? p=false):(w.putObj b o').frozen? p=false:=by
 by_cases hp:p.block=b
 ·have hlt:=(Array.getElem?_eq_some_iff.1 hb).1;unfold World.frozen?;rw[hp,World.putObj_heap_same hlt];cases o'<;>first|exact absurd rfl (hc' _ _ _)|rfl
 ·rw[World.frozen?_of_block (w:=w) (World.putObj_heap_other hp)];exact h
theorem Px{s':ay}{b:Nat}{o o':Obj}(hb:w.heap[b]?=some o)(hc:∀cs t fz,o≠.cells cs t fz)(hc':∀cs t fz,o'≠.cells cs t fz)(hg:∀q,(s' q).g=(s q).g) :
 (aQ μ s w sh fr).Le (aQ μ s' (w.putObj b o') sh fr):=by
 refine⟨fun k _ off v hv=>Pw hb hc hv,fun k _ off hv=>Ht hb hc' hv,fun _ h=>.inl h,fun _ h=>h,fun q=>by simp[aQ,hg],fun q _ _=>⟨rfl,fun cs t fz hcs=>?_⟩⟩;simp only[aQ]at hcs ⊢;refine⟨cs,t,fz,(World.putObj_heap_other ?_).trans hcs,rfl⟩;rintro rfl;rw[hb]at hcs
 injection hcs with hcs;exact hc _ _ _ hcs
theorem A7{w0 w:World}{n b:Nat}{o:Obj}(h:Below n w0 w)(hb:n<=b):Below n w0 (w.putObj b o):=
 h.trans ⟨rfl,rfl,rfl,by simp,fun k hk=>World.putObj_heap_other (by omega)⟩
theorem Inv.unmark(h:Inv w0 sh nt μ fr e s a w){D:Nat}{ds:List Nat}(hd:a.defers=(D::ds).map GX) :
 w.heap[D]?=some (.deferred (some []))/\Inv w0 sh nt μ fr e s {a with defers:=ds.map GX} (w.putObj D (.deferred none)):=by
 obtain⟨ds',e1,e2,e3⟩:=h.defers.ds;have hinj:∀ {l m:List Nat},l.map GX=m.map GX->l=m:=by
  intro l;induction l with
  | nil=>intro m hm;cases m with
   | nil=>rfl
   | cons=>simp at hm
  | cons x l ih=>intro m hm;cases m with
   | nil=>simp at hm
   | cons y m=>
    simp only[List.map_cons,List.cons.injEq,GX,Deferred.mk.injEq,Target.collected.injEq,and_true]at hm;rw[hm.1,ih hm.2]
 obtain rfl:=hinj (e1.symm.trans hd);obtain⟨k1,k2,k3⟩:=e3 D (by simp);have hle:=Px (μ:=μ) (s:=s) (s':=s) (sh:=sh) (fr:=fr) (o':=.deferred none) k2 (fun _ _ _ h=>by cases h) (fun _ _ _ h=>by cases h) (fun _=>rfl);refine⟨k2,A7 h.below k1,h.jG,by simpa using h.gH,?_,h.inj,fun n=>(h.env n).mono hle,⟨⟨ds,rfl,?_,?_⟩,?_⟩,h.size,h.base.trans hle⟩
 ·intro o ob ho;obtain⟨h1,h2⟩:=h.obj o ob ho;exact⟨h1.mono hle (World.putObj_heap_other (k3 o (by simp[ho]))),h2⟩
 ·simp only[List.cons_append,List.nodup_cons]at e2;exact e2.2
 ·intro D' hD';obtain⟨m1,m2,m3⟩:=e3 D' (by simp only[List.cons_append,List.mem_cons];exact .inr hD');refine⟨m1,(World.putObj_heap_other ?_).trans m2,m3⟩;rintro rfl;simp only[List.cons_append,List.nodup_cons]at e2;exact e2.1 hD'
 ·intro q ob ho e ps x y st hl r hr;exact h.defers.GV q ob ho e ps x y st hl r ((World.putObj_heap_other (k3 q (by simp[ho])))▸hr)
theorem ET{fn:Func}{R:Ending->World->Prop}:∀(ds:List Nat) {a:Act} {w:World},a.defers=ds.map GX->Inv w0 sh nt μ fr e s a w->
 (∀w',Inv w0 sh nt μ fr e s {a with defers:=[]} w'->∃v,(results fn a.tmps).run P w'=.ok v w'/\R (.returned v) w')->LeavesInM Fence.wide 0 P fn a.tmps R a.defers .returning w:=by
 intro ds;induction ds with
 | nil=>
  intro a w hd h k;rw[hd];exact k w (by
   have:a={a with defers:=[]}:=by cases a;simp_all
   rw[<-this];exact h)
 | cons D ds ih=>
  intro a w hd h k;obtain⟨h1,h2⟩:=h.unmark hd;rw[hd];refine⟨by simp,.inl ⟨D,_,rfl,run_takeDeferred h1,?_⟩⟩;exact ih (a:={a with defers:=ds.map GX}) rfl h2 k
theorem Inv.K8(h:Inv w0 sh nt μ fr e s a w){q:Nat}{e0:Env}{ps:List Nat}{ca cb:IC}{st st':LS}(ho:(s q).o=some (.lp e0 ps ca cb st))(hwr:(s q).wr=true){r r':Loop}(hr:w.heap[μ q]?=some (.loop r))
 (ht:r'.tmps=r.tmps) (hp:r'.params=r.params) (ha:r'.assign=r.assign) (hb:r'.body=r.body) (hst:lsR st' r') :
 Inv w0 sh nt μ fr e (bK s q (.lp e0 ps ca cb st')) a (w.putObj (μ q) (.loop r')):=by
 obtain⟨⟨rc,hrc,henv,hps,_⟩,hge,_⟩:=h.obj q _ ho;simp only[aQ]at hrc;rw[hr]at hrc
 injection hrc with hrc;injection hrc with hrc;subst hrc;have hlt:=bV hr;have:=(h.change q (μ q) (s q).g ((s q).n+1) (.lp e0 ps ca cb st') (w.putObj (μ q) (.loop r')) (Nat.le_refl _) (fun _=>rfl) ⟨rfl,rfl,rfl,by simp,fun k hk=>World.putObj_heap_other (by omega)⟩ (fun k _ hk=>World.putObj_heap_other hk)
  (.inr ⟨rfl,by simp[ho],hwr,fun cs t fz hcs=>by rw[hr]at hcs;simp at hcs⟩) (fun hle=>⟨r',World.putObj_heap_same hlt,fun n=>by rw[ht];exact(henv n).mono hle,by rw[hp];exact hps,hst⟩)
  (by
   intro e ps' x y st2 hl r2 hr2;rw[World.putObj_heap_same hlt]at hr2
   injection hr2 with hr2;injection hr2 with hr2;subst hr2;injection hl with l1 l2 l3 l4 l5;subst l1 l2 l3 l4;have:=h.defers.GV q _ ho _ _ _ _ _ rfl r hr;rw[ht,ha,hb];exact this)).1
 rw[F8]at this
 exact this
theorem Inv.Oy(h:Inv w0 sh nt μ fr e s a w){q:Nat}{e0:Env}{ps:List Nat}{ca cb:IC}{st:LS}(ho:(s q).o=some (.lp e0 ps ca cb st)){r:Loop}(hr:w.heap[μ q]?=some (.loop r))(r':Loop) :
 Inv w0 sh nt μ fr e (vB s q) a (w.putObj (μ q) (.loop r')):=by
 have hge:=(h.obj q _ ho).2.1;have gq:vB s q q=⟨(s q).g,(s q).wr,none,(s q).n+1⟩:=by unfold vB;rw[upd_same]
 have gx:∀o,¬o=q->vB s q o=s o:=fun o ho=>by unfold vB;rw[upd_ne _ _ ho]
 have hle:=Px (μ:=μ) (s:=s) (s':=vB s q) (sh:=sh) (fr:=fr) (o':=.loop r') hr (fun _ _ _ h=>by cases h) (fun _ _ _ h=>by cases h) (fun o=>by
  by_cases hh:o=q
  ·rw[hh,gq]
  ·rw[gx o hh])
 have hne:∀o,¬o=q->(s o).o.isSome=true->μ o≠μ q:=fun o hn hs hm=>hn (h.inj o q hs (by simp[ho]) hm);have some_ne:∀ {o ob},(vB s q o).o=some ob->¬o=q:=by
  intro o ob hob hq;subst hq;rw[gq]at hob
  simp at hob
 refine⟨A7 h.below hge,h.jG,by simpa using h.gH,?_,?_,fun n=>(h.env n).mono hle,⟨?_,?_⟩,h.size,h.base.trans hle⟩
 ·intro o ob hob;have hoq:=some_ne hob;rw[gx o hoq]at hob ⊢
  obtain⟨h1,h2⟩:=h.obj o ob hob;exact⟨h1.mono hle (World.putObj_heap_other (hne o hoq (by simp[hob]))),h2⟩
 ·intro o o' h1 h2 hm;obtain⟨b1,e1⟩:=Option.isSome_iff_exists.1 h1;obtain⟨b2,e2⟩:=Option.isSome_iff_exists.1 h2;rw[gx o (some_ne e1)]at h1
  rw[gx o' (some_ne e2)]at h2
  exact h.inj o o' h1 h2 hm
 ·obtain⟨ds,e1,e2,e3⟩:=h.defers.ds;refine⟨ds,e1,e2,fun D hD=>?_⟩;obtain⟨k1,k2,k3⟩:=e3 D hD;refine⟨k1,(World.putObj_heap_other (Ne.symm (k3 q (by simp[ho])))).trans k2,fun o hs=>?_⟩;obtain⟨b1,e1⟩:=Option.isSome_iff_exists.1 hs;rw[gx o (some_ne e1)]at hs
  exact k3 o hs
 ·intro o ob hob;have hoq:=some_ne hob;rw[gx o hoq]at hob
  intro e ps x y st hl r2 hr2;exact h.defers.GV o ob hob e ps x y st hl r2 ((World.putObj_heap_other (hne o hoq (by simp[hob])))▸hr2)
theorem Mk.back{B:Cx}{ds:List Nat}{μ':Nat->Nat}{s':ay}{a':Act}{w':World}(hm:Mk ⟨w0.toWorld,B,w0.F9,ds++w0.keep,w0.ze⟩ μ' s' a' w')(d1:a.defers=ds.map GX)(d2:(ds++w0.keep).Nodup):Mk w0 μ' s' a w':=
 ⟨⟨ds,d1,d2,fun D hD=>by obtain⟨ds',_,_,h3⟩:=hm.ds;exact h3 D (List.mem_append.2 (.inr hD))⟩,hm.GV⟩
theorem Inv.back{ds:List Nat}{nt':Nat}{μ':Nat->Nat}{fr':Nat->Prop}{e':Env}{s':ay}{a':Act}{w':World}(h:Inv w0 sh nt μ fr e s a w)(hI:Inv ⟨w0.toWorld,aQ μ s w sh fr,w0.F9,ds++w0.keep,w0.ze⟩ sh nt' μ' fr' e' s' a' w')(d1:a.defers=ds.map GX)(d2:(ds++w0.keep).Nodup) :
 Inv w0 sh nt μ' fr' e s' a w'/\(aQ μ s w sh fr).Le (aQ μ' s' w' sh fr'):=
 ⟨⟨hI.below,hI.jG,hI.gH,hI.obj,hI.inj,fun n=>(h.env n).mono hI.base,hI.defers.back d1 d2,h.size,h.base.trans hI.base⟩,hI.base⟩
theorem Py{C:Cx}:∀(ps:List Nat) (l:List X) (vs:List Value) {e:Env} {tm:Array Value},(∀p∈ps,p<tm.size)->l.length=vs.length->(∀(j:Nat) x v,l[j]?=some x->vs[j]?=some v->aW C x v)->sD C e {tmps:=tm,defers:=[]}->
 sD C (puts e ps l) {tmps:=(ps.zip vs).foldl (fun t p=>t.setIfInBounds p.1 p.2) tm,defers:=[]}/\((ps.zip vs).foldl (fun t p=>t.setIfInBounds p.1 p.2) tm).size=tm.size:=by
 intro ps;induction ps with
 | nil=>intro l vs e tm _ _ _ hE;exact⟨by simpa[puts]using hE,rfl⟩
 | cons p ps ih=>
  intro l vs e tm hp hl hv hE;cases l with
  | nil=>
   obtain rfl:vs=[]:=List.eq_nil_of_length_eq_zero (by simpa using hl.symm);exact⟨by simpa[puts]using hE,rfl⟩
  | cons x l=>
   cases vs with
   | nil=>simp at hl
   | cons v vs=>
    have hpp:p<tm.size:=hp p (by simp);have:=ih l vs (e:=upd e p x) (tm:=tm.setIfInBounds p v) (fun p' h'=>by simpa using hp p' (by simp[h'])) (by simpa using hl) (fun j x v hx hv'=>hv (j+1) x v (by simpa using hx) (by simpa using hv')) (by
     intro n;by_cases hn:n=p
     ·subst hn;rw[upd_same];simpa[Array.getD_eq_getD_getElem?,hpp]using hv 0 x v rfl rfl
     ·rw[upd_ne _ _ hn];have:=hE n;simpa[Array.getD_eq_getD_getElem?,Array.getElem?_setIfInBounds,Ne.symm hn]using this)
    refine⟨by simpa[puts]using this.1,?_⟩;simpa using this.2
def jmpE:Option (Option Nat)->Exit
 | none=>.normal
 | some none=>.ret
 | some (some id)=>.exit id
set_option maxHeartbeats 600000 in
theorem Ni(h:Inv w0 sh nt μ fr e s a w)(hLP:w0.ze=rU P){T:Nat->Option Fe}{n:Nat}(hI:mE P T n)(hF:∀f,(T f).isSome=true->kC P f=true){g:Operand}{psO:Array Nat}{cA cB:Code}{q:Nat}{g':Ar}{ps:List Nat}{ca cb:IC}
 (hg:dA g g'=true) (hps:psO.toList=ps) (hpn:∀p∈ps,p<nt) (hoo:xR ca=true) (hA:xQ P nt (some q) cA ca=true) (hB:xQ P nt (some q) cB cb=true) {j:Option (Option Nat)} {s':ay} (hr:nX (runN T n) T q (g'.ev e) ps ca cb e s=some (j,s'))
 {Q:Exit->Act->World->Prop} (hQ:∀a1 w1 μ' fr',Inv w0 sh nt μ' fr' e s' a1 w1->Q (jmpE j) a1 w1):(Code.rangeFunc g psO cA cB).wpIn (rF none) 0 P Q a w:=by
 unfold nX at hr;split at hr
 case h_2=>simp at hr
 rename_i f cs hgv;have hrep:=aD h.env hg;rw[hgv]at hrep
 generalize hv:a.eval g=v at hrep;cases hrep with
 | @fn _ _ us hl' hr'=>
 cases hc:dD (runN T n) T f (.Dx q ((s q).g+1)::cs) (aO s q (.lp e ps ca cb .ready))with
 | none=>rw[hc]at hr;simp[lpE]at hr
 | some z=>
 obtain⟨z1,s2⟩:=z;rw[hc]at hr
 have hf:=hF f (Co hc);unfold kC at hf;split at hf
 case h_2=>simp at hf
 rename_i fn hfn;simp only[bE,bne_iff_ne,ne_eq]at hf;obtain⟨body,hbody⟩:=Option.isSome_iff_exists.1 hf.1;refine wpIn_rangeFunc ?_;intro fnn _;obtain⟨r0,hr0⟩:∃r0:Loop,r0={state:=.ready,pending:=none,fn:=fnn,tmps:=a.tmps,params:=psO,assign:=cA,body:=cB,defers:=w.heap.size}:=⟨_,rfl⟩
 obtain⟨w1,hw1⟩:∃w1,(w.alloc (.deferred (some []))).alloc (.loop r0)=w1:=⟨_,rfl⟩
 have hL:w1.heap[w.heap.size+1]?=some (.loop r0):=by rw[<-hw1];have:=World.alloc_heap_new (w.alloc (.deferred (some []))) (.loop r0);rwa [World.size_alloc]at this
 have hD:w1.heap[w.heap.size]?=some (.deferred (some [])):=by rw[<-hw1];exact(Below.heap_alloc _ _ _ (by simp)).trans (World.alloc_heap_new w _)
 have hbw:Below w.heap.size w w1:=by rw[<-hw1];exact((Below.refl _ w).alloc (Nat.le_refl _) _).alloc (by simp) _
 obtain⟨hN,hleN⟩:=h.news w1 hbw fr (fun _ h=>h) (fun b hb=>.inl hb);have hold:∀o,(s o).o.isSome=true->μ o<w.heap.size:=by intro o ho;obtain⟨ob,hob⟩:=Option.isSome_iff_exists.1 ho;obtain⟨_,hcs⟩:=(h.obj o ob hob).1.block;exact bV hcs
 have hM:Inv w0 sh nt μ fr e s {a with defers:=GX w.heap.size::a.defers} w1:=by
  refine⟨hN.below,hN.jG,hN.gH,hN.obj,hN.inj,hN.env,⟨?_,hN.defers.GV⟩,hN.size,hN.base⟩;obtain⟨ds,e1,e2,e3⟩:=hN.defers.ds;obtain⟨ds',e1',_,e3'⟩:=h.defers.ds;have hds:∀D∈ds++w0.keep,D≠w.heap.size:=by
   intro D hD hDw;subst hDw;obtain⟨ds2,f1,f2,f3⟩:=h.defers.ds;have hinj:∀ {l m:List Nat},l.map GX=m.map GX->l=m:=by
    intro l;induction l with
    | nil=>intro m hm;cases m with
     | nil=>rfl
     | cons=>simp at hm
    | cons x l ih=>intro m hm;cases m with
     | nil=>simp at hm
     | cons y m=>
      simp only[List.map_cons,List.cons.injEq,GX,Deferred.mk.injEq,Target.collected.injEq,and_true]at hm;rw[hm.1,ih hm.2]
   obtain rfl:=hinj (f1.symm.trans e1);have:=bV (f3 _ hD).2.1;omega
  refine⟨w.heap.size::ds,by simp[e1],?_,?_⟩
  ·simp only[List.cons_append,List.nodup_cons];exact⟨fun hD=>hds _ hD rfl,e2⟩
  ·intro D hD';simp only[List.cons_append,List.mem_cons]at hD';rcases hD' with rfl|hD'
   ·exact⟨h.below.size,hD,fun o ho=>Nat.ne_of_lt (hold o ho)⟩
   ·exact e3 D hD'
 obtain⟨hA1,hleA⟩:=hM.ZG q (w.heap.size+1) (.lp e ps ca cb .ready) (gJ h.below.size (Nat.le_succ _)) (fun hb=>by have:=(h.gH _ hb).2;omega) (fun o ho=>by have:=hold o ho;omega)
  (fun C' hle hw _ _=>⟨r0,by rw[hw];exact hL,fun n=>by rw[hr0];exact(hN.env n).mono hle,by rw[hr0];exact hps,by rw[hr0];exact⟨rfl,rfl⟩⟩)
  (by
   intro e' ps' x y st hl r hr;rw[hL]at hr
   injection hr with hr;injection hr with hr;subst hr;injection hl with l1 l2 l3 l4 l5;subst l1 l2 l3 l4;rw[hLP,hr0];refine⟨?_,?_,hoo,by simpa only[h.size]using hpn⟩
   ·simp only[rU,h.size];exact hA
   ·simp only[rU,h.size];exact hB)
 have hargs:∀(j:Nat) x v,(X.Dx q ((s q).g+1)::cs)[j]?=some x->(#[Value.func (.yield (w.heap.size+1)) #[] #[]]++us)[j]?=some v->aW (aQ (upd μ q (w.heap.size+1)) (aO s q (.lp e ps ca cb .ready)) w1 sh fr) x v:=by
  intro j x v hx hvj;cases j with
  | zero=>
   rw[Array.getElem?_append_left (by simp)]at hvj
   simp at hx hvj;subst hx hvj;exact .Dx (by omega) (by simp[aQ,aO,upd_same]) (fun _=>by simp[aQ,upd_same]) rfl
  | succ j=>
   simp only[List.getElem?_cons_succ]at hx;rw[Array.getElem?_append_right (by simp)]at hvj
   exact((hr' j x v hx (by simpa using hvj)).mono hleN).mono hleA
 have hcall:=hI.1 f (X.Dx q ((s q).g+1)::cs) (aO s q (.lp e ps ca cb .ready)) z1 s2 hc hA1 hLP (#[.func (.yield (w.heap.size+1)) #[] #[]]++us) (by rw[Array.size_append,List.length_cons,hl'];simp;omega) hargs;refine⟨w.heap.size+1,[GX w.heap.size],w1,{target:=.fn (.func f) us,args:=#[.func (.yield (w.heap.size+1)) #[] #[]]},w1,f,#[.func (.yield (w.heap.size+1)) #[] #[]]++us,w1,?_,?_,?_,?_,?_,?_⟩
 ·rw[<-hw1,hr0];exact run_enterLoop_outer _ _ _ _ _
 ·simp only[resolve,hv];simp[go_sem]
 ·exact fun f' _=>K5 none f'
 ·simp[invoke,callFunc,hfn,hf.2,hbody]
 ·exact pW
 ·refine lH (hcall.mono ?_);rintro e' w' ⟨v,μ',fr',rfl,hI2,_,hLe⟩;have hγ1:(aQ (upd μ q (w.heap.size+1)) (aO s q (.lp e ps ca cb .ready)) w1 sh fr).γ q=(s q).g+1:=by simp[aQ,aO,upd_same]
  have same:(s2 q).g=(s q).g+1->μ' q=w.heap.size+1:=by intro hg2;have:=(hLe.μ q (by rw[hγ1];omega) (by rw[hγ1];exact hg2)).1;simpa[aQ,upd_same]using this
  simp only[lpE]at hr;split at hr
  ·rename_i ho;split at hr
   case isFalse=>simp at hr
   rename_i hcnd;simp only[aR,bq]at hr;obtain⟨rfl,rfl⟩:=hr;obtain⟨r2,hr2,_,_,hst⟩:=(hI2.obj q _ ho).1;simp only[aQ]at hr2;have hend:=run_endLoop (P:=P) hr2 (by rw[hst.1];simp);rw[hst.2]at hend
   have hfin:=hQ _ _ _ _ (hI2.Oy ho hr2 {r2 with state:=.exhausted,pending:=none});rw[same hcnd.1]at hend hfin
   exact⟨none,_,hend,hfin⟩
  ·rename_i jj ho;split at hr
   case isFalse=>simp at hr
   rename_i hcnd;simp only[aR,bq]at hr;obtain⟨rfl,rfl⟩:=hr;obtain⟨r2,hr2,_,_,hst⟩:=(hI2.obj q _ ho).1;simp only[aQ]at hr2;have hend:=run_endLoop (P:=P) hr2 (by rw[hst.1];simp);rw[hst.2]at hend
   have hfin:=hQ _ _ _ _ (hI2.Oy ho hr2 {r2 with state:=.exhausted,pending:=some (ZY jj)});rw[same hcnd.1]at hend hfin
   refine⟨some _,_,hend,?_⟩;cases jj with
   | none=>exact wpIn_ret hfin
   | some id=>exact wpIn_exit hfin
  ·simp at hr
end
section
variable {T:Nat->Option Fe} {w0:Bs} {sh:Nat->Prop} {nt:Nat} {x:Env×ay}
theorem yK(hC:TC T)(hm:P.follows .mixedOrders=true)(hF:∀f,(T f).isSome=true->kC P f=true)(hLP:w0.ze=rU P){rq r:Option Nat}(hrr:rq=none->r=none) :
 ∀(n:Nat),(∀m,m<n->kE P T m/\mE P T m)->∀ {c:Code} {ic:IC} {k:List It} {μ:Nat->Nat} {fr:Nat->Prop} {e:Env} {s:ay} {a:Act} {w:World},xQ P nt rq c ic=true->
 Inv w0 sh nt μ fr e s a w->runN T n (.code ic::k) e s=some x->c.wpIn (rF r) 0 P (Qk T w0 sh nt n k rq x) a w:=by
 intro n;induction n using Nat.strongRecOn with
 | _ n ih=>
  intro hT c ic k μ fr e s a w hok h hr;cases n with
  | zero=>simp[runN]at hr
  | succ n=>
   have ih':∀ {m},m<=n->∀ {c:Code} {ic:IC} {k:List It} {μ:Nat->Nat} {fr:Nat->Prop} {e:Env} {s:ay} {a:Act} {w:World},xQ P nt rq c ic=true->
    Inv w0 sh nt μ fr e s a w->runN T m (.code ic::k) e s=some x->c.wpIn (rF r) 0 P (Qk T w0 sh nt m k rq x) a w:=
    fun hmn=>ih _ (by omega) (fun q hq=>hT q (by omega))
   unfold xQ at hok;split at hok
   ·simp only[runN]at hr;exact wpIn_skip ⟨n,by omega,μ,fr,e,s,h,hr⟩
   ·simp only[runN]at hr;exact wpIn_label ⟨n,by omega,μ,fr,e,s,h,hr⟩
   ·simp only[runN,aR]at hr;subst hr;exact wpIn_ret (.inl ⟨rfl,μ,fr,h⟩)
   ·rename_i q q';simp only[beq_iff_eq]at hok;subst hok;simp only[runN]at hr;split at hr
    case h_2=>simp at hr
    rename_i s' hs';simp only[aR]at hr;subst hr;exact wpIn_ret (.inr ⟨_,μ,fr,s,rfl,h,hs'⟩)
   ·simp only[beq_iff_eq]at hok;subst hok;simp only[runN]at hr;split at hr
    case h_2=>simp at hr
    rename_i k' hk;exact wpIn_exit (.inl ⟨k',n,hk,by omega,μ,fr,e,s,h,hr⟩)
   ·simp only[bE,beq_iff_eq]at hok;obtain⟨rfl,rfl⟩:=hok;simp only[runN]at hr;split at hr
    case h_2=>simp at hr
    rename_i s' hk hs';simp only[aR]at hr;subst hr;exact wpIn_exit (.inr ⟨_,μ,fr,s,rfl,hk,h,hs'⟩)
   ·rename_i a1 b1 a2 b2;simp only[bE]at hok;simp only[runN]at hr;refine wpIn_seq (Code.wpIn_mono ?_ (ih' (Nat.le_refl n) hok.1 h hr));intro ex a' w' hq;cases ex with
    | normal=>
     obtain⟨m,hmn,μ',fr',e',s',h',hr'⟩:=hq;exact Code.wpIn_mono (fun ex a' w' hq=>hq.mono (by omega)) (ih' (by omega) hok.2 h' hr')
    | exit id=>
     rcases hq with⟨k',m,hk,hmn,hrest⟩|⟨q,μ',fr',s',h1,h2,h3⟩
     ·exact .inl ⟨k',m,by simpa[bD]using hk,by omega,hrest⟩
     ·exact .inr ⟨q,μ',fr',s',h1,by simpa[bD]using h2,h3⟩
    | ret=>exact hq
    | _=>exact hq
   ·simp only[bE]at hok;obtain⟨⟨hc,h1⟩,h2⟩:=hok;simp only[runN]at hr;split at hr
    case h_2=>simp at hr
    rename_i t hv;have hrep:=aD h.env hc;rw[hv]at hrep
    have hev:=(gW hrep).1;cases t with
    | true=>exact wpIn_cond_true hev (Code.wpIn_mono (fun ex a' w' hq=>hq.mono (by omega)) (ih' (Nat.le_refl n) h1 h hr))
    | false=>exact wpIn_cond_false hev (Code.wpIn_mono (fun ex a' w' hq=>hq.mono (by omega)) (ih' (Nat.le_refl n) h2 h hr))
   ·rename_i i c1 j c2;simp only[bE,beq_iff_eq]at hok;obtain⟨rfl,hok⟩:=hok;simp only[runN]at hr;refine wpIn_block (Code.wpIn_mono ?_ (ih' (Nat.le_refl n) hok h hr));intro ex a' w' hq;cases ex with
    | normal=>
     obtain⟨m,hmn,μ',fr',e',s',h',hr'⟩:=hq;cases m with
     | zero=>simp[runN]at hr'
     | succ m=>exact⟨m,by omega,μ',fr',e',s',h',by simpa only[runN]using hr'⟩
    | exit id=>
     simp only[Exit.inBlock];by_cases hid:id=i
     ·subst hid;rcases hq with⟨k',m,hk,hmn,hrest⟩|⟨q,μ',fr',s',h1,h2,h3⟩
      ·simp only[bD,beq_self_eq_true,if_true,aR]at hk;subst hk;rw[if_pos rfl];exact⟨m,by omega,hrest⟩
      ·simp[bD]at h2
     ·rw[if_neg hid];have:(id==i)=false:=by simpa using hid
      have h2:(i==id)=false:=by simpa using fun h=>hid h.symm
      rcases hq with⟨k',m,hk,hmn,hrest⟩|⟨q,μ',fr',s',h1,h2',h3⟩
      ·exact .inl ⟨k',m,by simpa[bD,this,h2]using hk,by omega,hrest⟩
      ·exact .inr ⟨q,μ',fr',s',h1,by simpa[bD,this,h2]using h2',h3⟩
    | ret=>exact hq
    | _=>exact hq
   ·rename_i c1 c2;simp only[runN]at hr;refine NI (fun m a w=>m<=n/\∃μ fr e s,Inv w0 sh nt μ fr e s a w/\runN T m (.code c2::.lp c2::k) e s=some x) ⟨Nat.le_refl n,μ,fr,e,s,h,hr⟩ ?_;rintro m a w ⟨hmn,μ,fr,e,s,h,hr⟩;refine Code.wpIn_mono ?_ (ih' hmn hok h hr);intro ex a' w' hq;cases ex with
    | normal=>
     obtain⟨m',hm',μ',fr',e',s',h',hr'⟩:=hq;cases m' with
     | zero=>simp[runN]at hr'
     | succ m'=>exact⟨m',by omega,by omega,μ',fr',e',s',h',by simpa only[runN]using hr'⟩
    | exit id=>
     rcases hq with⟨k',m',hk,hmn',hrest⟩|⟨q,μ',fr',s',h1,h2,h3⟩
     ·exact .inl ⟨k',m',by simpa[bD]using hk,by omega,hrest⟩
     ·exact .inr ⟨q,μ',fr',s',h1,by simpa[bD]using h2,h3⟩
    | ret=>exact hq
    | _=>exact hq
   ·simp only[runN]at hr;refine qN (Code.wpIn_mono ?_ (ih' (Nat.le_refl n) hok h hr));intro ex a' w' hq;cases ex with
    | goto=>exact hq
    | _=>exact Qk.mono (Nat.le_succ n) hq
   ·simp only[runN]at hr;exact wpIn_region_list (Po hLP hF hok (by omega) hT h hr)
   ·rename_i ops ch js l m;simp only[bE]at hok;have hD:=Ew hok.2;simp only[runN]at hr;obtain⟨xs,ss,hs0,hxs,c,hcn,hr'⟩:=Jb (N:=n+1) hD (Nat.le_succ n) hr l.length (Nat.le_refl _);rw[List.drop_length]at hr'
    cases c with
    | zero=>simp[runN]at hr'
    | succ c=>
    simp only[runN]at hr';cases c with
    | zero=>simp[runN]at hr'
    | succ c=>
    simp only[runN]at hr';split at hr'
    case isFalse=>simp at hr'
    rename_i hchk;simp only[sU,bE,nk,beq_iff_eq]at hchk;obtain⟨hch,hjs⟩:=hchk;have hnone:∀j,¬(Array.replicate ops.size false).getD j true=true\/ops.size<=j:=by
     intro j;by_cases hj:j<ops.size
     ·left;simp[Array.getD_eq_getD_getElem?,hj]
     ·right;omega
    refine wpIn_region_any hm (Ox hLP hC hF hT hD hok.1 hxs (fun t ht o ho=>by rw[hs0];exact hch t ht o ho) ?_ (n:=c) (by omega) (by rw[List.drop_left];exact hr') (by simp) ?_ ?_ ?_ (?_:Inv w0 sh nt μ fr _ _ a _))
    ·intro j g d hj hjp hg hd;rw[List.getElem?_append_left hjp]at hg
     have:=hjs g (List.mem_filterMap.2 ⟨j,hj,hg⟩);rw[hd,hs0.symm]at this
     split at this
     ·rename_i d' x1 s1 y1 s2 e0 e1 e2;injection e0 with e0;subst e0;simp only[bE]at this;exact⟨x1,y1,s1,s2,e1,e2,FT this.1,FT this.2⟩
     ·simp at this
    ·rw[Array.count_replicate_self];exact Nat.le_refl _
    ·intro j hj hq;rcases hnone j with h1|h1
     ·exact absurd hq h1
     ·have:=hD.size;omega
    ·intro i j h1;exfalso;by_cases hi:i<ops.size<;>simp[Array.getD_eq_getD_getElem?,hi]at h1
    ·rw[pz (L':=fun _=>False) (fun j hj=>⟨fun hq=>by
      rcases hnone j with h1|h1
      ·exact h1 hq
      ·have:=hD.size;omega,fun h=>h.elim⟩) hD,Bh (fun _ h=>h)]
     have:SL ss (fun j=>(Array.replicate ops.size false).getD j true=true) l.length=s:=by
      funext o;rw[iG (i:=0) (fun j hj _=>⟨fun hq=>by
       rcases hnone j with h1|h1
       ·exact absurd hq h1
       ·have:=hD.size;simp at this;omega,fun h=>absurd h (Nat.not_lt_zero j)⟩),Nat.min_zero,hs0]
     rw[this];exact h.drew
   ·rename_i g psO cA cB q g' ps' ca cb;simp only[bE,beq_iff_eq]at hok;obtain⟨⟨⟨⟨⟨o1,o2⟩,o6⟩,o3⟩,o4⟩,o5⟩:=hok;have o6:∀p∈ps',p<nt:=fun p hp=>of_decide_eq_true (List.all_eq_true.1 o6 p hp)
    obtain rfl:=hrr rfl;simp only[runN]at hr;cases hrg:nX (runN T n) T q (g'.ev e) ps' ca cb e s with
    | none=>rw[hrg]at hr;simp at hr
    | some y=>
    obtain⟨j,s'⟩:=y;rw[hrg]at hr
    refine Ni h hLP (hT n (by omega)).2 hF o1 o2 o6 o3 o4 o5 hrg (fun a1 w1 μ' fr' hI=>?_);rcases j with _|_|id
    ·exact⟨n,by omega,μ',fr',e,s',hI,hr⟩
    ·simp only[aR]at hr;subst hr;exact .inl ⟨rfl,μ',fr',hI⟩
    ·simp only at hr;split at hr
     case h_2=>simp at hr
     rename_i k' hk;exact .inl ⟨k',n,hk,by omega,μ',fr',e,s',hI,hr⟩
   ·simp at hok
end
def eZ(P:Program):List ResultVar->List fI->Bool
 | [],[]=>true
 | .tmp t::l,.tmp t'::m=>t==t'&&eZ P l m
 | .tmp t::l,.Tz t'::m=>t==t'&&eZ P l m
 | .cell a t::l,.cell a' w ag::m=>a==a'&&lJ P t w&&jw P t ag&&eZ P l m
 | _,_=>false
def vH(P:Program)(f nt:Nat)(res:List fI)(body:IC):Bool:=match P.funcs[f]? with
 | some fn=>(match fn.body with
  | some c=>xQ P nt none c body
  | none=>false)&&fn.ntmps==nt&&eZ P fn.results.toList res
 | none=>false
theorem Sem.run_pure{α:Type}{P:Program}{w:World}(x:α):(pure x:Sem α).run P w=.ok x w:=rfl
def Iz(tmps:Array Value):ResultVar->Sem Value
 | .tmp t=>pure (tmps.getD t undef)
 | .cell a t=>do loadVar t (<-asAddr (tmps.getD a undef))
def tupV:List Value->Value
 | [v]=>v
 | vs=>.tuple vs.toArray
theorem zP(fn:Func)(tmps:Array Value):results fn tmps=(do
 let vs <-fn.results.toList.mapM (Iz tmps)
 pure (tupV vs)):=by
 unfold results;rw[Array.mapM_eq_mapM_toList];simp only[map_eq_pure_bind,bind_assoc,pure_bind];congr 1;congr 1;funext vs;rcases vs with _|⟨v,_|⟨u,vs⟩⟩
 ·rfl
 ·rfl
 ·rfl
section
variable {w0:Bs} {sh:Nat->Prop} {nt:Nat} {μ:Nat->Nat} {fr:Nat->Prop} {e:Env} {s:ay} {a:Act} {w:World}
theorem Ri(h:Inv w0 sh nt μ fr e s a w)(N:List Nat) :
 ∀ {l:List ResultVar} {m:List fI} {xs:List X},eZ P l m=true->uK e s m=some xs->(∀o∈vL e s m,o∈N)->
 ∃vs,(l.mapM (Iz a.tmps)).run P w=.ok vs w/\xs.length=vs.length/\∀(j:Nat) y v,xs[j]?=some y->vs[j]?=some v->aW (vw μ s w sh fr N) y v/\y.deep=true:=by
 intro l;induction l with
 | nil=>
  intro m xs hok hr _;cases m with
  | cons=>simp[eZ]at hok
  | nil=>
   simp only[uK,aR]at hr;subst hr;exact⟨[],rfl,rfl,by simp⟩
 | cons r l ih=>
  intro m xs hok hr hN;cases m with
  | nil=>cases r<;>simp[eZ]at hok
  | cons q m=>
   simp only[uK]at hr;split at hr
   case h_2=>simp at hr
   rename_i y ys hy hys;injection hr with hr;subst hr;have one:∃v,(Iz a.tmps r).run P w=.ok v w/\aW (vw μ s w sh fr N) y v/\y.deep=true:=by
    cases r with
    | tmp t=>
     cases q with
     | cell=>simp[eZ]at hok
     | tmp t'=>
      simp only[eZ,bE,beq_iff_eq]at hok;obtain⟨rfl,_⟩:=hok;exact⟨_,rfl,h.oh (h.env t) (by simpa[zO]using hy) (fun o ho=>hN o (by simp[vL,ho]))⟩
     | Tz t'=>
      simp only[eZ,bE,beq_iff_eq]at hok;obtain⟨rfl,_⟩:=hok;exact⟨_,rfl,h.Ow (h.env t) (by simpa[zO]using hy) (fun o ho=>hN o (by simp[vL,ho]))⟩
    | cell t ty=>
     cases q with
     | tmp=>simp[eZ]at hok
     | Tz=>simp[eZ]at hok
     | cell t' k ag=>
      simp only[eZ,bE,beq_iff_eq]at hok;obtain⟨⟨⟨rfl,h1⟩,h2⟩,_⟩:=hok;simp only[zO]at hy;split at hy
      case h_2=>simp at hy
      rename_i z hz;obtain⟨ad,u,hv,hu,hu'⟩:=CO (P:=P) h (h.env t) hz h1 h2;refine⟨u,?_,h.oh hu' hy (fun o ho=>hN o (by simp[vL,hz,ho]))⟩;simp[Iz,hv,asAddr,hu]
   obtain⟨v,hv,hrep⟩:=one;obtain⟨vs,h1,h2,h3⟩:=ih (m:=m) (by cases r<;>cases q<;>simp[eZ]at hok<;>first|exact hok.2|(simp[eZ,hok])) hys (fun o ho=>hN o (by cases q<;>simp[vL,ho]))
   refine⟨v::vs,?_,by simp[h2],?_⟩
   ·simp[hv,h1]
   ·intro j y' v' hj hv';cases j with
    | zero=>simp at hj hv';subst hj;subst hv';exact hrep
    | succ j=>exact h3 j y' v' (by simpa using hj) (by simpa using hv')
theorem FM(h:Inv w0 sh nt μ fr e s a w){fn:Func}{m:List fI}{r:X}(hok:eZ P fn.results.toList m=true)(hr:aC e s m=some r) :
 ∃v,(results fn a.tmps).run P w=.ok v w/\aW (vw μ s w sh fr (vL e s m)) r v/\r.deep=true:=by
 have hl:∃xs,uK e s m=some xs/\(match xs with
  | [x]=>x
  | xs=>X.bU xs)=r/\xs.length=m.length:=by
  unfold aC at hr;split at hr
  ·exact⟨[r],by simp[uK,hr],rfl,rfl⟩
  ·rename_i hne;split at hr
   case h_2=>simp at hr
   rename_i xs hxs;injection hr with hr;have hlen:xs.length=m.length:=by
    clear hok hne hr h;induction m generalizing xs with
    | nil=>simp only[uK,aR]at hxs;subst hxs;rfl
    | cons q m ih=>
     simp only[uK]at hxs;split at hxs
     case h_2=>simp at hxs
     rename_i hm;injection hxs with hxs;subst hxs;simp[ih _ hm]
   refine⟨xs,hxs,?_,hlen⟩;rcases xs with _|⟨x,_|⟨y,xs⟩⟩
   ·exact hr
   ·rcases m with _|⟨q,_|⟨q',m⟩⟩
    ·simp at hlen
    ·exact absurd rfl (hne q)
    ·simp at hlen
   ·exact hr
 obtain⟨xs,hxs,hx,_⟩:=hl;obtain⟨vs,h1,h2,h3⟩:=Ri h (vL e s m) hok hxs (fun _ h=>h);refine⟨tupV vs,?_,?_⟩
 ·rw[zP];simp only[Sem.run_bind,h1];rfl
 ·rcases xs with _|⟨x,_|⟨y,xs⟩⟩
  ·rcases vs with _|⟨v,vs⟩
   ·simp only at hx;subst hx;exact⟨.bU rfl (by simp),rfl⟩
   ·simp at h2
  ·rcases vs with _|⟨v,_|⟨u,vs⟩⟩
   ·simp at h2
   ·simp only at hx;subst hx;exact h3 0 x v rfl rfl
   ·simp at h2
  ·rcases vs with _|⟨v,_|⟨u,vs⟩⟩
   ·simp at h2
   ·simp at h2
   ·simp only at hx;subst hx;refine⟨.bU (by simpa using h2) ?_,?_⟩
    ·intro j c v' hj hv';exact(h3 j c v' hj (by simpa using hv')).1
    ·simp only[X.deep];refine aX.2 fun c hc=>?_;obtain⟨j,hj⟩:=List.getElem?_of_mem hc;have hjl:j<(v::u::vs).length:=by have:=(List.getElem?_eq_some_iff.1 hj).1;omega
     exact(h3 j c _ hj (List.getElem?_eq_getElem hjl)).2
end
section
variable {w0:Bs} {sh:Nat->Prop} {nt:Nat} {μ:Nat->Nat} {fr:Nat->Prop} {e:Env} {s:ay} {a:Act} {w:World}
theorem Ng(h:Inv w0 sh nt μ fr e s a w) :
 ∀ {l:List ResultVar} {m:List fI} {xs:List X},eZ P l m=true->fq e s m=some xs->
 ∃vs,(l.mapM (Iz a.tmps)).run P w=.ok vs w/\xs.length=vs.length/\∀(j:Nat) y v,xs[j]?=some y->vs[j]?=some v->aW (aQ μ s w sh fr) y v:=by
 intro l;induction l with
 | nil=>
  intro m xs hok hr;cases m with
  | cons=>simp[eZ]at hok
  | nil=>
   simp only[fq,aR]at hr;subst hr;exact⟨[],rfl,rfl,by simp⟩
 | cons r l ih=>
  intro m xs hok hr;cases m with
  | nil=>cases r<;>simp[eZ]at hok
  | cons q m=>
   simp only[fq]at hr;split at hr
   case h_2=>simp at hr
   rename_i y ys hy hys;injection hr with hr;subst hr;have one:∃v,(Iz a.tmps r).run P w=.ok v w/\aW (aQ μ s w sh fr) y v:=by
    cases r with
    | tmp t=>
     cases q with
     | cell=>simp[eZ]at hok
     | tmp t'=>
      simp only[eZ,bE,beq_iff_eq]at hok;obtain⟨rfl,_⟩:=hok;simp only[f_,aR]at hy;subst hy;exact⟨_,rfl,h.env t⟩
     | Tz t'=>
      simp only[eZ,bE,beq_iff_eq]at hok;obtain⟨rfl,_⟩:=hok;simp only[f_,aR]at hy;subst hy;exact⟨_,rfl,h.env t⟩
    | cell t ty=>
     cases q with
     | tmp=>simp[eZ]at hok
     | Tz=>simp[eZ]at hok
     | cell t' k ag=>
      simp only[eZ,bE,beq_iff_eq]at hok;obtain⟨⟨⟨rfl,h1⟩,h2⟩,_⟩:=hok;simp only[f_]at hy;obtain⟨ad,u,hv,hu,hu'⟩:=CO (P:=P) h (h.env t) hy h1 h2;exact⟨u,by simp[Iz,hv,asAddr,hu],hu'⟩
   obtain⟨v,hv,hrep⟩:=one;obtain⟨vs,h1,h2,h3⟩:=ih (m:=m) (by cases r<;>cases q<;>simp[eZ]at hok<;>first|exact hok.2|(simp[eZ,hok])) hys
   refine⟨v::vs,?_,by simp[h2],?_⟩
   ·simp[hv,h1]
   ·intro j y' v' hj hv';cases j with
    | zero=>simp at hj hv';subst hj;subst hv';exact hrep
    | succ j=>exact h3 j y' v' (by simpa using hj) (by simpa using hv')
theorem zN(h:Inv w0 sh nt μ fr e s a w){fn:Func}{m:List fI}{r:X}(hok:eZ P fn.results.toList m=true)(hr:iJ e s m=some r) :
 ∃v,(results fn a.tmps).run P w=.ok v w/\aW (aQ μ s w sh fr) r v:=by
 have hl:∃xs,fq e s m=some xs/\(match xs with
  | [x]=>x
  | xs=>X.bU xs)=r/\xs.length=m.length:=by
  unfold iJ at hr;split at hr
  ·exact⟨[r],by simp[fq,hr],rfl,rfl⟩
  ·rename_i hne;split at hr
   case h_2=>simp at hr
   rename_i xs hxs;injection hr with hr;have hlen:xs.length=m.length:=by
    clear hok hne hr h;induction m generalizing xs with
    | nil=>simp only[fq,aR]at hxs;subst hxs;rfl
    | cons q m ih=>
     simp only[fq]at hxs;split at hxs
     case h_2=>simp at hxs
     rename_i hm;injection hxs with hxs;subst hxs;simp[ih _ hm]
   refine⟨xs,hxs,?_,hlen⟩;rcases xs with _|⟨x,_|⟨y,xs⟩⟩
   ·exact hr
   ·rcases m with _|⟨q,_|⟨q',m⟩⟩
    ·simp at hlen
    ·exact absurd rfl (hne q)
    ·simp at hlen
   ·exact hr
 obtain⟨xs,hxs,hx,_⟩:=hl;obtain⟨vs,h1,h2,h3⟩:=Ng h hok hxs;refine⟨tupV vs,?_,?_⟩
 ·rw[zP];simp only[Sem.run_bind,h1];rfl
 ·rcases xs with _|⟨x,_|⟨y,xs⟩⟩
  ·rcases vs with _|⟨v,vs⟩
   ·simp only at hx;subst hx;exact .bU rfl (by simp)
   ·simp at h2
  ·rcases vs with _|⟨v,_|⟨u,vs⟩⟩
   ·simp at h2
   ·simp only at hx;subst hx;exact h3 0 x v rfl rfl
   ·simp at h2
  ·rcases vs with _|⟨v,_|⟨u,vs⟩⟩
   ·simp at h2
   ·simp at h2
   ·simp only at hx;subst hx;refine .bU (by simpa using h2) ?_;intro j c v' hj hv';exact h3 j c v' hj (by simpa using hv')
end
theorem Cw{C:Cx}{xs:List X}{vs:Array Value}{k:Nat}(hl:xs.length=vs.size)(hv:∀(j:Nat) x v,xs[j]?=some x->vs[j]?=some v->aW C x v) :
 sD C (bn xs) {tmps:=vs++Array.replicate k undef,defers:=[]}:=by
 intro j;by_cases hj:j<xs.length
 ·have hjv:j<vs.size:=by omega
  have:=hv j xs[j] vs[j] (List.getElem?_eq_getElem hj) (Array.getElem?_eq_getElem hjv);simp only[bn,List.getD_eq_getElem?_getD,List.getElem?_eq_getElem hj,Option.getD_some];simp only[Array.getD_eq_getD_getElem?,Array.getElem?_append_left hjv,Array.getElem?_eq_getElem hjv,Option.getD_some];exact this
 ·simp only[bn,List.getD_eq_getElem?_getD,List.getElem?_eq_none (Nat.le_of_not_lt hj),Option.getD_none];exact .junk
theorem kY{T:Nat->Option Fe}(hC:TC T)(hm:P.follows .mixedOrders=true)(hF:∀f,(T f).isSome=true->kC P f=true){n:Nat}(hT:∀m,m<n->kE P T m/\mE P T m){w0:Bs}(hLP:w0.ze=rU P){sh:Nat->Prop}{nt:Nat}
 {f:Nat} {fn:Func} {c:Code} {body:IC} (hfn:P.funcs[f]?=some fn) (hbody:fn.body=some c) (hb:xQ P nt none c body=true) {e0 e:Env} {s1 s:ay} {vs:Array Value} {μ:Nat->Nat} {fr:Nat->Prop} {w:World} (hr:runN T n [.code body] e0 s1=some (e,s))
 (hinv:Inv w0 sh nt μ fr e0 s1 {tmps:=vs++Array.replicate (fn.ntmps-vs.size) undef,defers:=[]} w) {R:Ending->World->Prop}
 (fin:∀a' w' μ' fr',Inv w0 sh nt μ' fr' e s a' w'->∃v,(results fn a'.tmps).run P w'=.ok v w'/\R (.returned v) w'):Calls P f vs w R:=by
 refine callsIn_wide.1 (callsIn_of_wp_marks (F:=Fence.wide) (n:=0) hfn hbody trivial (Code.wpIn_mono ?_ (yK (x:=(e,s)) (rq:=none) (r:=none) hC hm hF hLP (fun _=>rfl) n hT hb hinv hr)) rfl);have fin':∀ {a' w' μ' fr'},Inv w0 sh nt μ' fr' e s a' w'->LeavesInM Fence.wide 0 P fn a'.tmps R a'.defers .returning w':=by intro a' w' μ' fr' h;obtain⟨ds,d1,_,_⟩:=h.defers.ds;exact ET ds d1 h (fun w'' h'=>fin {a' with defers:=[]} w'' μ' fr' h')
 intro ex a' w' hq;cases ex with
 | normal=>
  obtain⟨m,hmn,μ,fr,e',s',h,hr'⟩:=hq;cases m with
  | zero=>simp[runN]at hr'
  | succ m=>
   simp only[runN,aR,bq]at hr';obtain⟨rfl,rfl⟩:=hr';exact fin' h
 | ret=>
  rcases hq with⟨_,μ,fr,h⟩|⟨q,_,_,_,hq,_⟩
  ·exact fin' h
  ·cases hq
 | exit id=>
  rcases hq with⟨k',m,hk,_⟩|⟨q,_,_,_,hq,_⟩
  ·simp[bD]at hk
  ·cases hq
 | _=>exact hq.elim
theorem Nh{T:Nat->Option Fe}(hC:TC T)(hm:P.follows .mixedOrders=true)(hF:∀f,(T f).isSome=true->kC P f=true){n:Nat}(ih:∀m,m<n->kE P T m/\mE P T m){q g:Nat}{l:List X}{s s':ay}{x:X}(hy:iR (runN T n) q g l s=some (x,s')):ZF P q g l s x s':=by
 intro w0 sh nt μ fr e a w h hLP hg1 vs hl hv;unfold iR at hy;split at hy
 case h_2=>simp at hy
 rename_i e0 ps ca cb ho;split at hy
 case isFalse=>simp at hy
 rename_i hcond;obtain⟨hgq,hwr,hlen⟩:=hcond;cases hr:runN T n [.code ca,.NZ q g,.code cb,.Oz q g] (puts e0 ps l) s with
 | none=>rw[hr]at hy;simp[Di]at hy
 | some z=>
 obtain⟨e1,s1⟩:=z;rw[hr]at hy
 obtain⟨⟨rc,hrc,henv,hps,hst⟩,hge,_⟩:=h.obj q _ ho;simp only[aQ]at hrc;have hlp:=h.defers.GV q _ ho _ _ _ _ _ rfl rc hrc;rw[hLP]at hlp
 obtain⟨oA,oB,oo,opn⟩:=hlp;obtain⟨ds,d1,d2,d3⟩:=h.defers.ds;have hpl:ps.length=rc.params.size:=by rw[<-hps];simp
 have hsz:vs.size=rc.params.size:=by omega
 refine⟨hgq,rc.fn,_,rc.assign,rc.body,run_yield hrc hsz,roundIn_of_wpIn (F:=Fence.wide) trivial ?_⟩;have htm:(rc.params.zip vs).foldl (fun tmps (t,a)=>tmps.setIfInBounds t a) rc.tmps=(ps.zip vs.toList).foldl (fun t p=>t.setIfInBounds p.1 p.2) rc.tmps:=by rw[<-Array.foldl_toList,Array.toList_zip,hps]
 obtain⟨hE,hS⟩:=Py (C:=aQ μ s w sh fr) (tm:=rc.tmps) (e:=e0) ps l vs.toList opn (by simpa using hl) (fun j x v hx hv'=>hv j x v hx (by simpa using hv')) henv;rw[htm];have hI0:Inv ⟨w0.toWorld,aQ μ s w sh fr,w0.F9,ds++w0.keep,w0.ze⟩ sh rc.tmps.size μ fr (puts e0 ps l) s {tmps:=(ps.zip vs.toList).foldl (fun t p=>t.setIfInBounds p.1 p.2) rc.tmps,defers:=[]} w:=
  ⟨h.below,h.jG,h.gH,h.obj,h.inj,hE,⟨⟨[],rfl,by simpa using d2,by simpa using d3⟩,h.defers.GV⟩,hS,Cx.Le.refl _⟩
 have after:∀m μ1 fr1 eA sA a1 wA,m<n->Inv ⟨w0.toWorld,aQ μ s w sh fr,w0.F9,ds++w0.keep,w0.ze⟩ sh rc.tmps.size μ1 fr1 eA sA a1 wA->runN T m [.NZ q g,.code cb,.Oz q g] eA sA=some (e1,s1)->
  Exit.then (fun a₁ w₁=>∃w₂,(Instr.beginRound (μ q)).run P w₁=.ok () w₂/\rc.body.wpIn (Fence.wide.inRound (μ q)) 0 P (roundPost P (μ q) (fun e' w'=>∃v μ' fr',e'=.returned v/\Inv w0 sh nt μ' fr' e s' a w'/\aW (aQ μ' s' w' sh fr') x v)) a₁ w₂) (fun _ _ _=>False) .normal a1 wA:=by
  intro m μ1 fr1 eA sA a1 wA hmn hIA hrA;cases m with
  | zero=>simp[runN]at hrA
  | succ m=>
  simp only[runN]at hrA;split at hrA
  case h_2=>simp at hrA
  rename_i sB hB;unfold LF at hB;split at hB
  case h_2=>simp at hB
  rename_i eL psL caL cbL hoA;split at hB
  case isFalse=>simp at hB
  rename_i hcA;simp only[aR]at hB;subst hB;have hμ1:μ1 q=μ q:=(hIA.base.μ q (by simp only[aQ];omega) (by simp only[aQ];omega)).1;obtain⟨rA,hrA1,_,_,hstA⟩:=(hIA.obj q _ hoA).1;simp only[aQ]at hrA1;have hbg:=run_beginRound (P:=P) hrA1 hstA.1;have hIB:=hIA.K8 (st':=.busy) (r':={rA with state:=.busy}) hoA hcA.2 hrA1 rfl rfl rfl rfl rfl;rw[hμ1]at hbg hIB
  refine⟨_,hbg,?_⟩;have hbody:=yK (w0:=⟨w0.toWorld,aQ μ s w sh fr,w0.F9,ds++w0.keep,w0.ze⟩) (x:=(e1,s1)) (rq:=some q) (r:=some (μ q)) hC hm hF hLP (fun hq=>by cases hq) m (fun k hk=>ih k (by omega)) oB hIB hrA;refine Code.wpIn_mono ?_ hbody;intro ex a2 wB hq;cases ex with
  | normal=>
   obtain⟨m2,_,μ2,fr2,eB,sB,hI2,hrB⟩:=hq;cases m2 with
   | zero=>simp[runN]at hrB
   | succ m2=>
   simp only[runN]at hrB;split at hrB
   case h_2=>simp at hrB
   rename_i sC hC';simp only[aR,bq]at hrB;obtain⟨rfl,rfl⟩:=hrB;unfold Mc at hC';split at hC'
   case h_2=>simp at hC'
   rename_i e2 ps2 ca2 cb2 ho2;split at hC'
   case isFalse=>simp at hC'
   rename_i hc2;simp only[aR]at hC';subst hC';have hμ2:μ2 q=μ q:=(hI2.base.μ q (by simp only[aQ];omega) (by simp only[aQ];omega)).1;obtain⟨r2,hr2,_,_,hst2⟩:=(hI2.obj q _ ho2).1;simp only[aQ]at hr2;have hend:=run_endRound (P:=P) none hr2;simp only[Option.isNone_none,if_true]at hend;have hI3:=hI2.K8 (st':=.ready) (r':={r2 with state:=.ready,pending:=none}) ho2 hc2.2 hr2 rfl rfl rfl rfl ⟨rfl,rfl⟩;have hq2:bK sB q (.lp e2 ps2 ca2 cb2 .ready) q=⟨(sB q).g,true,some (.lp e2 ps2 ca2 cb2 .ready),(sB q).n+1⟩:=by simp[bK,upd_same]
   simp only[Di,hq2]at hy;rw[if_pos ⟨hc2.1,trivial⟩]at hy
   simp only[aR,bq]at hy;obtain⟨rfl,rfl⟩:=hy;obtain⟨hb1,_⟩:=h.back hI3 d1 d2;rw[hμ2]at hend hb1
   exact⟨_,_,hend,.bool true,_,_,rfl,hb1,.v rfl⟩
  | ret=>
   rcases hq with⟨hq,_⟩|⟨q',μ2,fr2,sB,hq',hI2,hen⟩
   ·cases hq
   ·cases hq';unfold xA at hen;split at hen
    case h_2=>simp at hen
    rename_i e2 ps2 ca2 cb2 ho2;split at hen
    case isFalse=>simp at hen
    rename_i hw2;simp only[aR]at hen;subst hen;have hq2:bK sB q (.lp e2 ps2 ca2 cb2 (.done none)) q=⟨(sB q).g,true,some (.lp e2 ps2 ca2 cb2 (.done none)),(sB q).n+1⟩:=by simp[bK,upd_same]
    simp only[Di,hq2,and_true]at hy;split at hy
    case isFalse=>simp at hy
    rename_i hgB;simp only[aR,bq]at hy;obtain⟨rfl,rfl⟩:=hy;have hμ2:μ2 q=μ q:=(hI2.base.μ q (by simp only[aQ];omega) (by simp only[aQ];omega)).1;obtain⟨r2,hr2,_,_,hst2⟩:=(hI2.obj q _ ho2).1;simp only[aQ]at hr2;have hend:=run_endRound (P:=P) (some .ret) hr2;simp only[Option.isNone_some,jI,if_false]at hend;have hI3:=hI2.K8 (st':=.done none) (r':={r2 with state:=.done,pending:=some .ret}) ho2 hw2 hr2 rfl rfl rfl rfl ⟨rfl,rfl⟩;obtain⟨hb1,_⟩:=h.back hI3 d1 d2;rw[hμ2]at hend hb1
    exact⟨_,_,hend,.bool false,_,_,rfl,hb1,.v rfl⟩
  | exit id=>
   rcases hq with⟨k',m2,hk,_⟩|⟨q',μ2,fr2,sB,hq',_,hI2,hen⟩
   ·simp[bD]at hk
   ·cases hq';unfold xA at hen;split at hen
    case h_2=>simp at hen
    rename_i e2 ps2 ca2 cb2 ho2;split at hen
    case isFalse=>simp at hen
    rename_i hw2;simp only[aR]at hen;subst hen;have hq2:bK sB q (.lp e2 ps2 ca2 cb2 (.done (some id))) q=⟨(sB q).g,true,some (.lp e2 ps2 ca2 cb2 (.done (some id))),(sB q).n+1⟩:=by simp[bK,upd_same]
    simp only[Di,hq2,and_true]at hy;split at hy
    case isFalse=>simp at hy
    rename_i hgB;simp only[aR,bq]at hy;obtain⟨rfl,rfl⟩:=hy;have hμ2:μ2 q=μ q:=(hI2.base.μ q (by simp only[aQ];omega) (by simp only[aQ];omega)).1;obtain⟨r2,hr2,_,_,hst2⟩:=(hI2.obj q _ ho2).1;simp only[aQ]at hr2;have hend:=run_endRound (P:=P) (some (.exit id)) hr2;simp only[Option.isNone_some,jI,if_false]at hend;have hI3:=hI2.K8 (st':=.done (some id)) (r':={r2 with state:=.done,pending:=some (.exit id)}) ho2 hw2 hr2 rfl rfl rfl rfl ⟨rfl,rfl⟩;obtain⟨hb1,_⟩:=h.back hI3 d1 d2;rw[hμ2]at hend hb1
    exact⟨_,_,hend,.bool false,_,_,rfl,hb1,.v rfl⟩
  | _=>exact hq.elim
 unfold xR at oo;split at oo
 ·rename_i gl;cases n with
  | zero=>simp[runN]at hr
  | succ n=>
  simp only[runN]at hr;have key:∀cA,xQ P rc.tmps.size (some q) cA (.ops gl)=true->cA.wpIn (Fence.wide.inRound (μ q)) 0 P (Exit.then (fun a₁ w₁=>∃w₂,(Instr.beginRound (μ q)).run P w₁=.ok () w₂/\rc.body.wpIn (Fence.wide.inRound (μ q)) 0 P (roundPost P (μ q) (fun e' w'=>∃v μ' fr',e'=.returned v/\Inv w0 sh nt μ' fr' e s' a w'/\aW (aQ μ' s' w' sh fr') x v)) a₁ w₂) (fun _ _ _=>False)) {tmps:=(ps.zip vs.toList).foldl (fun t p=>t.setIfInBounds p.1 p.2) rc.tmps,defers:=[]} w:=by
   intro cA hA;cases cA<;>try (simp[xQ]at hA;done)
   rename_i id ops dr;cases dr with
   | true=>simp[xQ]at hA
   | false=>
    have hA:uj P rc.tmps.size ops ops.toList gl=true:=by simpa[xQ]using hA
    exact wpIn_region_list (zm (w0:=⟨w0.toWorld,aQ μ s w sh fr,w0.F9,ds++w0.keep,w0.ze⟩) (r:=some (μ q)) (x:=(e1,s1)) hLP hF hA (Nat.le_succ n) ih (fun m μ1 fr1 eA sA a1 wA hmn hI hrr=>after m μ1 fr1 eA sA a1 wA hmn hI hrr) hI0 hr)
  exact key _ oA
 ·cases n with
  | zero=>simp[runN]at hr
  | succ n=>
  simp only[runN]at hr;have key:∀cA,xQ P rc.tmps.size (some q) cA .skip=true->cA.wpIn (Fence.wide.inRound (μ q)) 0 P (Exit.then (fun a₁ w₁=>∃w₂,(Instr.beginRound (μ q)).run P w₁=.ok () w₂/\rc.body.wpIn (Fence.wide.inRound (μ q)) 0 P (roundPost P (μ q) (fun e' w'=>∃v μ' fr',e'=.returned v/\Inv w0 sh nt μ' fr' e s' a w'/\aW (aQ μ' s' w' sh fr') x v)) a₁ w₂) (fun _ _ _=>False)) {tmps:=(ps.zip vs.toList).foldl (fun t p=>t.setIfInBounds p.1 p.2) rc.tmps,defers:=[]} w:=by
   intro cA hA;cases cA<;>try (simp[xQ]at hA;done)
   ·exact wpIn_skip (after n _ _ _ _ _ _ (Nat.lt_succ_self n) hI0 hr)
   ·exact wpIn_label (after n _ _ _ _ _ _ (Nat.lt_succ_self n) hI0 hr)
  exact key _ oA
 ·simp at oo
theorem IU{w0:Bs}{sh:Nat->Prop}{nt:Nat}{μ:Nat->Nat}{fr:Nat->Prop}{e:Env}{s:ay}{a:Act}{w:World}(h:Inv w0 sh nt μ fr e s a w){x x':X}{s':ay}{v:Value}(hx:aW (aQ μ s w sh fr) x v)(hs:FU s x=some (x',s')) :
 ∃fr',Inv w0 sh nt μ fr' e s' a w/\aW (aQ μ s' w sh fr') x' v:=by
 cases x<;>simp only[FU]at hs
 case ptr o g j=>
  split at hs
  case h_2=>simp at hs
  rename_i cs ho;split at hs
  case isFalse=>simp at hs
  rename_i hc;obtain⟨hg,hwr,hno⟩:=hc;split at hs
  case h_2=>simp at hs
  rename_i ds hd;simp only[aR,bq]at hs;obtain⟨rfl,rfl⟩:=hs;obtain⟨hI,hle⟩:=h.gB (cs.flatMap r_);have hs1:gB s (cs.flatMap r_) o=s o:=by simp only[gB];rw[if_neg hno]
  obtain⟨i1,i2,i3,i4⟩:=h.uM hd (l:=cs.flatMap r_) (fun _ h=>h);obtain⟨blk,t,b1,b2,b3,b4⟩:=(h.obj o _ ho).1;have:=hI.change o (μ o) (s o).g ((s o).n+1) (.box (.agg ds)) w (by rw[hs1];exact Nat.le_refl _) (fun _=>rfl) (Below.refl _ _) (fun _ _ _=>rfl)
   (.inr ⟨rfl,by rw[hs1,ho];rfl,by rw[hs1];exact hwr,fun cs t fz h=>⟨cs,t,fz,h,rfl⟩⟩) (by
    intro hle2;refine⟨blk,t,b1,by simp only[X.cells]at b2 ⊢;omega,by simpa[X.cells]using i3 (by simpa[X.cells]using b3),?_⟩;intro q c u hc hu;simp only[X.cells]at hc b4 b2;have:=i4 (fun q=>blk.getD q undef) (fun q c hc=>b4 q c _ hc (by have:=(List.getElem?_eq_some_iff.1 hc).1;simp[Array.getD_eq_getD_getElem?,Array.getElem?_eq_getElem (show q<blk.size by omega)])) q c hc
    rw[Array.getD_eq_getD_getElem?,hu,Option.getD_some]at this
    exact aW.mono hle2 this)
  rw[F8]at this
  have hst:bK (gB s (cs.flatMap r_)) o (.box (.agg ds))=upd (gB s (cs.flatMap r_)) o ⟨(s o).g,true,some (.box (.agg ds)),(s o).n+1⟩:=by simp only[bK,SO.sw,hs1]
  rw[hst];exact⟨_,this.1,(hx.mono hle).mono this.2⟩
 all_goals (simp at hs)
theorem sound{T:Nat->Option Fe}(hm:P.follows .mixedOrders=true)(hF:∀f,(T f).isSome=true->kC P f=true)
 (hB:∀f nt res body,T f=some (.code nt res body)\/T f=some (.vX nt res body)->vH P f nt res body=true)
 (hX:∀f F xs r,T f=some (.ext F)->F xs=some r->kF P f xs r) (hC:TC T) (hXI:∀f F xs s r s',T f=some (.rQ F)->F xs s=some (r,s')->Dz P f xs s r s'):∀n,kE P T n/\mE P T n:=by
 intro n;induction n using Nat.strongRecOn with
 | _ n ih=>
  have bodyOf:∀ {f nt res body},T f=some (.code nt res body)\/T f=some (.vX nt res body)->∃fn c,P.funcs[f]?=some fn/\fn.body=some c/\xQ P nt none c body=true/\fn.ntmps=nt/\eZ P fn.results.toList res=true:=by
   intro f nt res body hT;have hb:=hB f nt res body hT;unfold vH at hb;split at hb
   case h_2=>simp at hb
   rename_i fn hfn;simp only[bE,beq_iff_eq]at hb;obtain⟨⟨hb,hnt⟩,hres⟩:=hb;split at hb
   case h_2=>simp at hb
   rename_i c hbody;exact⟨fn,c,hfn,hbody,hb,hnt,hres⟩
  refine⟨?_,?_,?_,?_⟩
  ·intro f xs r hc;unfold iW at hc;split at hc
   ·simp at hc
   ·rename_i F hT;exact hX f F xs r hT hc
   ·simp at hc
   ·simp at hc
   ·rename_i nt res body hT;split at hc
    case isFalse=>simp at hc
    rename_i hlen;split at hc
    case h_2=>simp at hc
    rename_i e s hr;intro w sh vs hgok hsh hl hv;obtain⟨fn,c,hfn,hbody,hb,hnt,hres⟩:=bodyOf (.inl hT);refine kY (nt:=nt) (sh:=sh) (w0:=⟨w,aQ (fun _=>0) s0 w sh (fun _=>False),hgok,[],rU P⟩) (μ:=fun _=>0) (fr:=fun _=>False) hC hm hF ih rfl hfn hbody hb hr ?_ ?_
    ·refine⟨Below.refl _ _,hsh,by simp,?_,?_,?_,⟨⟨[],rfl,by simp,by simp⟩,?_⟩,?_,Cx.Le.refl _⟩
     ·intro o ob ho;simp[s0]at ho
     ·intro o o' ho;simp[s0]at ho
     ·exact Cw hl hv
     ·intro o ob ho;simp[s0]at ho
     ·simp;omega
    ·intro a' w' μ fr h;obtain⟨v,h1,h2,h3⟩:=FM h hres hc;have hI:=(h.gB (vL e s res)).1;exact⟨v,h1,v,_,rfl,h.below,hI.gH,h2.kQ h3 (fun _ _ _ _ h=>h) (fun _ _ _ h=>h) (fun _ h=>.inl h) (fun _ h=>h),h3⟩
  ·intro f xs s r s' hc w0 sh nt μ fr e a w h hLP vs hl hv;unfold dD at hc;obtain⟨ds,d1,d2,d3⟩:=h.defers.ds;have start:∀ {nt':Nat} {fn:Func},xs.length<=nt'->fn.ntmps=nt'->Inv ⟨w0.toWorld,aQ μ s w sh fr,w0.F9,ds++w0.keep,w0.ze⟩ sh nt' μ fr (bn xs) s {tmps:=vs++Array.replicate (fn.ntmps-vs.size) undef,defers:=[]} w:=
    fun h1 h2=>⟨h.below,h.jG,h.gH,h.obj,h.inj,Cw hl hv,⟨⟨[],rfl,by simpa using d2,by simpa using d3⟩,h.defers.GV⟩,by simp;omega,Cx.Le.refl _⟩
   split at hc
   case h_4=>simp at hc
   case h_3=>rename_i F hF;exact hXI f F xs s r s' hF hc h hLP vs hl hv
   case h_1=>
    rename_i nt' res body hT;split at hc
    case isFalse=>simp at hc
    rename_i hlen;split at hc
    case h_2=>simp at hc
    rename_i e' s2 hr;split at hc
    case h_2=>simp at hc
    rename_i r' hres';simp only[aR,bq]at hc;obtain⟨rfl,rfl⟩:=hc;obtain⟨fn,c,hfn,hbody,hb,hnt,hres⟩:=bodyOf (.inl hT);refine kY (nt:=nt') (sh:=sh) (w0:=⟨w0.toWorld,aQ μ s w sh fr,w0.F9,ds++w0.keep,w0.ze⟩) (μ:=μ) (fr:=fr) hC hm hF ih hLP hfn hbody hb hr (start hlen hnt) ?_;intro a' w' μ' fr' hI;obtain⟨v,h1,h2⟩:=zN hI hres hres';obtain⟨hb1,hb2⟩:=h.back hI d1 d2;exact⟨v,h1,v,μ',fr',rfl,hb1,h2,hb2⟩
   case h_2=>
    rename_i nt' res body hT;split at hc
    case isFalse=>simp at hc
    rename_i hlen;split at hc
    case h_2=>simp at hc
    rename_i e' s2 hr;split at hc
    ·rename_i r' hres';simp only[aR,bq]at hc;obtain⟨rfl,rfl⟩:=hc;obtain⟨fn,c,hfn,hbody,hb,hnt,hres⟩:=bodyOf (.inr hT);refine kY (nt:=nt') (sh:=sh) (w0:=⟨w0.toWorld,aQ μ s w sh fr,w0.F9,ds++w0.keep,w0.ze⟩) (μ:=μ) (fr:=fr) hC hm hF ih hLP hfn hbody hb hr (start hlen hnt) ?_;intro a' w' μ' fr' hI;obtain⟨v,h1,h2,_⟩:=FM hI hres hres';obtain⟨hb1,hb2⟩:=h.back (hI.gB (vL e' s2 res)).1 d1 d2;exact⟨v,h1,v,μ',_,rfl,hb1,h2,hb2⟩
    ·split at hc
     case h_2=>simp at hc
     rename_i r' hres';obtain⟨fn,c,hfn,hbody,hb,hnt,hres⟩:=bodyOf (.inr hT);refine kY (nt:=nt') (sh:=sh) (w0:=⟨w0.toWorld,aQ μ s w sh fr,w0.F9,ds++w0.keep,w0.ze⟩) (μ:=μ) (fr:=fr) hC hm hF ih hLP hfn hbody hb hr (start hlen hnt) ?_;intro a' w' μ' fr' hI;obtain⟨v,h1,h2⟩:=zN hI hres hres';obtain⟨fr2,hI2,h3⟩:=IU hI h2 hc;obtain⟨hb1,hb2⟩:=h.back hI2 d1 d2;exact⟨v,h1,v,μ',fr2,rfl,hb1,h3,hb2⟩
  ·intro p f xs r ok hc;unfold um at hc;split at hc
   case h_2=>simp at hc
   rename_i nt res body hT;split at hc
   case isFalse=>simp at hc
   rename_i hlen;split at hc
   case h_2=>simp at hc
   rename_i e s hr;split at hc
   case h_2=>simp at hc
   rename_i r0 hr0;intro w sh vs hgok hsh hl hv;obtain⟨fn,c,hfn,hbody,hb,hnt,hres⟩:=bodyOf (.inl hT);refine kY (nt:=nt) (sh:=sh) (w0:=⟨w,aQ (fun _=>0) s0 w sh (fun _=>False),hgok,[],rU P⟩) (μ:=fun _=>0) (fr:=fun _=>False) hC hm hF ih rfl hfn hbody hb hr ?_ ?_
   ·refine⟨Below.refl _ _,hsh,by simp,?_,?_,?_,⟨⟨[],rfl,by simp,by simp⟩,?_⟩,?_,Cx.Le.refl _⟩
    ·intro o ob ho;simp[s0]at ho
    ·intro o o' ho;simp[s0]at ho
    ·exact Cw hl hv
    ·intro o ob ho;simp[s0]at ho
    ·simp;omega
   ·intro a' w' μ fr h;obtain⟨v,h1,h2⟩:=zN h hres hr0;have hI:=(h.gB (Fg p r0)).1;refine⟨v,h1,v,_,rfl,h.below,hI.gH,?_⟩;cases hx:zn s p r0 with
    | none=>rw[hx]at hc;simp[ownR]at hc
    | some ry=>
     obtain⟨r1,y⟩:=ry;rw[hx]at hc
     obtain⟨u,hu,hpl⟩:=h.zn (l:=Fg p r0) hx (fun _ h=>h) h2;cases y<;>simp only[ownR]at hc<;>first|(simp at hc;done)|skip
     ·simp only[aR,bq]at hc;obtain⟨rfl,rfl⟩:=hc;cases hu with
      | nil=>exact fun D hD=>hpl D .nil hD rfl .nil
     ·rename_i o g k i m;split at hc
      case h_2=>simp at hc
      rename_i k' es ho;split at hc
      case isFalse=>simp at hc
      rename_i hcond;obtain⟨hg,hwr,rfl,rfl,rfl,hde,hno⟩:=hcond;simp only[aR,bq]at hc;obtain⟨rfl,rfl⟩:=hc;obtain⟨hob,hbge,hnf,_⟩:=h.obj o _ ho;refine⟨μ o,hbge,?_,?_,?_⟩
      ·rintro(hf|⟨o',ho',hs',hm'⟩)
       ·exact hnf hwr hf
       ·exact hno ((h.inj o o' (by simp[ho]) hs' hm')▸ho')
      ·intro D hD;obtain⟨cs,t,q1,q2,q3,q4,q5,q6⟩:=hob;refine⟨cs,t,by rw[hD.1];exact q1,q2,q3,q4,q5,fun i e j c v hi hc hv=>?_⟩;have hd:c.deep=true:=v_ (aX.1 hde e (jM hi)) c (jM hc);exact(q6 i e j c v hi hc hv).kQ hd (fun _ _ _ _ hc=>by rw[hD.1];exact hc) (fun _ _ _ hc=>by rw[hD.1];exact hc) hD.2.1 (fun b hb=>hD.2.2 b (.inl hb))
      ·intro D q g' hD h1 h2 hq;refine hpl D _ hD rfl ?_;cases hu with
       | ref g1 g2 g3 g4=>
        refine .ref h1 h2 (fun _=>?_) g4;obtain⟨cap,e1,e2,cs,t,fz,e3,e4⟩:=g3 hg.symm;exact⟨cap,by rw[hq];exact e1,e2,cs,t,fz,by rw[hq,hD.1];exact e3,e4⟩
  ·intro q g l s x s' hy;exact Nh hC hm hF ih hy
theorem LU{T:Nat->Option Fe}(hm:P.follows .mixedOrders=true)(hF:∀f,(T f).isSome=true->kC P f=true)
 (hB:∀f nt res body,T f=some (.code nt res body)\/T f=some (.vX nt res body)->vH P f nt res body=true)
 (hX:∀f F xs r,T f=some (.ext F)->F xs=some r->kF P f xs r) (hC:TC T) (hXI:∀f F xs s r s',T f=some (.rQ F)->F xs s=some (r,s')->Dz P f xs s r s') {f:Nat} {xs:List X} {r:X} (h:call T f xs=some r):kF P f xs r:=by
 obtain⟨n,hn⟩:=mM.1 h;exact(sound hm hF hB hX hC hXI n).1 f xs r hn
end Go.Proofs.YtbmkfjmlepjpfaaGreatDoor
