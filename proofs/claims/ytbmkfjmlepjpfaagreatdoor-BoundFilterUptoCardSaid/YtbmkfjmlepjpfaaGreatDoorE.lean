/- A part of the proof. -/
import Derived.Test.YtbmkfjmlepjpfaaGreatDoorA
set_option linter.all false
set_option maxRecDepth 100000
namespace Go.Proofs.YtbmkfjmlepjpfaaGreatDoor
open Go.RowKit
variable {P:Program}
theorem Io(op:BinOp)(t:TypeId)(x y:Operand)(k k':IntKind)(a b:Int)(w:World):(eqGuard op t x y (.int k a) (.int k' b)).run P w=.ok () w:=by cases op<;>rfl
theorem Ip(op:BinOp)(t:TypeId)(x y:Operand)(a b:ByteArray)(w:World):(eqGuard op t x y (.string a) (.string b)).run P w=.ok () w:=by cases op<;>rfl
theorem vT(op:BinOp)(t:TypeId)(x y:Operand)(a b:Bool)(w:World):(eqGuard op t x y (.bool a) (.bool b)).run P w=.ok () w:=by cases op<;>rfl
theorem J7{t:TypeId}(h:boolT P t=true):P.underlying t=some .bool:=by unfold boolT at h;split at h<;>first|assumption|simp at h
theorem Wn{t:TypeId}(h:boolT P t=true)(xo yo:Operand)(a b:Bool)(w:World) :
 (do eqGuard .eql t xo yo (.bool a) (.bool b);binOp .eql t (.bool a) (.bool b):Sem Value).run P w=.ok (.bool (a==b)) w/\
 (do eqGuard .neq t xo yo (.bool a) (.bool b);binOp .neq t (.bool a) (.bool b):Sem Value).run P w=.ok (.bool (!(a==b))) w:=by
 have hu:=J7 h;have he:(Op.equal t (.bool a) (.bool b)).run P w=.ok (a==b) w:=by rw[Op.equal,show Op.maxDepth=9999+1 from rfl,Op.equalIn];simp[run_underlying hu]
 constructor
 ·rw[Sem.run_bind,vT];simp[binOp,he]
 ·rw[Sem.run_bind,vT];simp[binOp,he]
theorem ow{op:BinOp}{k:IntKind}{a b:Int}{z:Value}(h:GQ op k a b=some z)(w:World):(Op.intBits op k a b).run P w=.ok z w/\plain z=true:=by unfold GQ at h;cases op<;>simp only[aW,reduceCtorEq]at h<;>subst h<;>exact⟨rfl,rfl⟩
theorem RA{op:BinOp}{x y z:Value}{t:TypeId}(h:jY op x y=some z)(hs:OL P t=true)(xo yo:Operand)(w:World) :
 (do eqGuard op t xo yo x y;binOp op t x y:Sem Value).run P w=.ok z w/\plain z=true:=by
 cases x<;>cases y<;>first|(simp[jY]at h;done)|skip
 ·rename_i k a k' b;rw[Sem.run_bind,Io];simp only[Result.andThen_ok];cases op
  case shl=>
   simp only[jY]at h;split at h
   ·simp at h
   ·rename_i hb;simp at h;subst h;exact⟨by simp[binOp,Op.shift,hb],rfl⟩
  case shr=>
   simp only[jY]at h;split at h
   ·simp at h
   ·rename_i hb;simp at h;subst h;exact⟨by simp[binOp,Op.shift,hb],rfl⟩
  all_goals
   simp only[jY]at h;split at h
   ·simp at h
   rename_i hk;have hk:k=k':=by simpa using hk
   subst hk
  case int.int.and.isFalse=>simpa[binOp]using ow h w
  case int.int.or.isFalse=>simpa[binOp]using ow h w
  case int.int.xor.isFalse=>simpa[binOp]using ow h w
  case int.int.andNot.isFalse=>simpa[binOp]using ow h w
  case int.int.quo.isFalse=>
   split at h
   ·simp at h
   ·rename_i hb;simp at h;subst h;exact⟨by simp[binOp,Op.intDiv,hb],rfl⟩
  case int.int.rem.isFalse=>
   split at h
   ·simp at h
   ·rename_i hb;simp at h;subst h;exact⟨by simp[binOp,Op.intDiv,hb],rfl⟩
  all_goals
   simp only[aW]at h;subst h;exact⟨by simp[binOp,Op.intArith,Op.intCmp],rfl⟩
 ·rename_i a b;rw[Sem.run_bind,Ip];simp only[Result.andThen_ok];cases op<;>simp only[jY]at h<;>first
   | (simp at h;done)
   | (simp only[aW]at h;subst h;exact⟨by simp[binOp,Op.stringOp],rfl⟩)
   | skip
  split at h
  ·simp at h
  ·rename_i hb;simp only[aW]at h;subst h;exact⟨by simp only[binOp,Op.stringOp];rw[if_neg hb];rfl,rfl⟩
theorem Zi{op:UnOp}{x z:Value}(h:unV op x=some z)(w:World):(Op.unary op x).run P w=.ok z w/\plain z=true:=by
 cases x<;>cases op<;>simp[unV]at h
 case int.neg=>subst h;exact⟨by simp[Op.unary,Op.intArith],rfl⟩
 case int.xor=>simpa[Op.unary]using ow h w
 case bool.not=>subst h;exact⟨by simp[Op.unary],rfl⟩
theorem WM{mx:Bool}{x y z:Value}(h:mnx mx x y=some z)(w:World):(if mx then(Builtin.max2 x y).run P w else(Builtin.min2 x y).run P w)=.ok z w/\plain z=true:=by cases x<;>cases y<;>simp[mnx]at h;obtain⟨rfl,rfl⟩:=h;cases mx<;>exact⟨by simp[Builtin.max2,Builtin.min2],rfl⟩
theorem iP{C:Cx}{u v:Value}(h:aZ C (.v u) v):v=u/\plain u=true:=by
 cases h with
 | v hp=>exact⟨rfl,hp⟩
theorem kV{C:Cx}{x:X}{i:Int}{v:Value}(h:aZ C x v)(hi:w9 x=some i):∃k,v=.int k i:=by
 unfold w9 at hi;split at hi
 ·injection hi with hi;subst hi;exact⟨_,(iP h).1⟩
 ·simp at hi
theorem nG(b off n:Nat):(⟨b,off,none⟩:Addr).add n=⟨b,off+n,none⟩:=by unfold Addr.add;split<;>simp_all
variable {P:Program}
def ZK:Option Nat->Code
 | none=>.ret
 | some id=>.exit id
def lsR:LS->Loop->Prop
 | .ready,r=>r.state=.ready/\r.pending=none
 | .busy,r=>r.state=.busy
 | .done j,r=>r.state=.done/\r.pending=some (ZK j)
def Gy(C:Cx):Ob->Nat->Prop
 | .box x,b=>∃cs t,C.w.heap[b]?=some (.cells cs t (0,0))/\cs.size=x.cells.length/\(∀c∈x.cells,c.one=true)/\
  ∀(j:Nat) c v,x.cells[j]?=some c->cs[j]?=some v->aZ C c v
 | .row k es,b=>∃cs t,C.w.heap[b]?=some (.cells cs t (0,0))/\es.length*k<=cs.size/\es.length<=9223372036854775807/\0<k/\
  (∀e∈es,e.cells.length=k/\e.lit=true/\∀c∈e.cells,c.one=true)/\
  ∀(i:Nat) e (j:Nat) c v,es[i]?=some e->e.cells[j]?=some c->cs[i*k+j]?=some v->aZ C c v
 | .map es,b=>∃en,C.w.heap[b]?=some (.map en es.length)/\en.size=es.length/\
  ∀(i:Nat) p m,es[i]?=some p->en[i]?=some m->p.1.fM=true/\p.2.fM=true/\aZ C p.1 m.key/\aZ C p.2 m.val/\m.born=i
 | .lp e ps _ _ st,b=>∃r:Loop,C.w.heap[b]?=some (.loop r)/\ve C e {tmps:=r.tmps,defers:=[]}/\r.params.toList=ps/\lsR st r
theorem Gy.mono{C D:Cx}(h:C.Le D){ob:Ob}{b:Nat}(hh:D.w.heap[b]?=C.w.heap[b]?)(ho:Gy C ob b):Gy D ob b:=by
 cases ob with
 | box x=>
  obtain⟨cs,t,h1,h2,h3,h4⟩:=ho;exact⟨cs,t,hh.trans h1,h2,h3,fun j c v hc hv=>(h4 j c v hc hv).mono h⟩
 | row k es=>
  obtain⟨cs,t,h1,h2,h3,h4,h5,h6⟩:=ho;exact⟨cs,t,hh.trans h1,h2,h3,h4,h5,fun i e j c v hi hc hv=>(h6 i e j c v hi hc hv).mono h⟩
 | map es=>
  obtain⟨en,h1,h2,h3⟩:=ho;exact⟨en,hh.trans h1,h2,fun i p m hi hm=>by obtain⟨a1,a2,a3,a4,a5⟩:=h3 i p m hi hm;exact⟨a1,a2,a3.mono h,a4.mono h,a5⟩⟩
 | lp e ps a b st=>
  obtain⟨r,h1,h2,h3,h4⟩:=ho;exact⟨r,hh.trans h1,fun n=>(h2 n).mono h,h3,h4⟩
theorem Gy.block{C:Cx}{ob:Ob}{b:Nat}(ho:Gy C ob b):∃ob',C.w.heap[b]?=some ob':=by
 cases ob with
 | box x=>obtain⟨cs,t,h1,_⟩:=ho;exact⟨_,h1⟩
 | row k es=>obtain⟨cs,t,h1,_⟩:=ho;exact⟨_,h1⟩
 | map es=>obtain⟨cs,h1,_⟩:=ho;exact⟨_,h1⟩
 | lp e ps a b st=>obtain⟨r,h1,_⟩:=ho;exact⟨_,h1⟩
theorem Gy.undef{C:Cx}{ob:Ob}{b:Nat}{ds:Option (List Deferred)}(ho:Gy C ob b)(hd:C.w.heap[b]?=some (.deferred ds)):False:=by
 cases ob with
 | box x=>obtain⟨cs,t,h1,_⟩:=ho;rw[hd]at h1;simp at h1
 | row k es=>obtain⟨cs,t,h1,_⟩:=ho;rw[hd]at h1;simp at h1
 | map es=>obtain⟨cs,h1,_⟩:=ho;rw[hd]at h1;simp at h1
 | lp e ps a b st=>obtain⟨r,h1,_⟩:=ho;rw[hd]at h1;simp at h1
theorem dA{w:World}{b:Nat}{o:Obj}(h:w.heap[b]?=some o):b<w.heap.size:=(Array.getElem?_eq_some_iff.1 h).1
def aU(μ:Nat->Nat)(s:ax)(w:World)(sh fr:Nat->Prop):Cx:=⟨μ,fun o=>(s o).g,w,sh,fr⟩
def zR:IC->Bool
 | .ops _|.skip=>true
 | _=>false
def KH(D:Nat):Deferred:={target:=.collected D,args:=#[]}
def LpN(w0:Bs)(q:Nat)(ob:Ob)(w:World)(b:Nat):Prop:=∀e ps x y st,ob=.lp e ps x y st->∀r:Loop,w.heap[b]?=some (.loop r)->w0.Bt r.tmps.size q r.assign x/\w0.Bt r.tmps.size q r.body y/\zR x=true/\∀p∈ps,p<r.tmps.size
structure Mk (w0:Bs) (μ:Nat->Nat) (s:ax) (a:Act) (w:World):Prop where
 ds:∃ds:List Nat,a.defers=ds.map KH/\(ds++w0.keep).Nodup/\∀D∈ds++w0.keep,w0.heap.size<=D/\w.heap[D]?=some (.deferred (some []))/\∀o,(s o).o.isSome=true->μ o≠D
 KG:∀q ob,(s q).o=some ob->LpN w0 q ob w (μ q)
structure Inv (w0:Bs) (sh:Nat->Prop) (nt:Nat) (μ:Nat->Nat) (fr:Nat->Prop) (e:Env) (s:ax) (a:Act) (w:World):Prop where
 below:Below w0.heap.size w0 w
 kD:∀b,sh b->b<w0.heap.size
 iF:∀b,fr b->w0.heap.size<=b/\b<w.heap.size
 obj:∀o ob,(s o).o=some ob->Gy (aU μ s w sh fr) ob (μ o)/\w0.heap.size<=μ o/\((s o).wr=true->¬fr (μ o))/\((s o).wr=false->fr (μ o))
 inj:∀o o',(s o).o.isSome=true->(s o').o.isSome=true->μ o=μ o'->o=o'
 env:ve (aU μ s w sh fr) e a
 defers:Mk w0 μ s a w
 size:a.tmps.size=nt
 base:w0.base.Le (aU μ s w sh fr)
section
variable {w0:Bs} {sh:Nat->Prop} {nt:Nat} {μ:Nat->Nat} {fr:Nat->Prop} {e:Env} {s:ax} {a:Act} {w:World}
theorem ve.put{C:Cx}(h:ve C e a){d:Option Nat}(hd:∀n,d=some n->n<a.tmps.size){x:X}{v:Value}(hx:aZ C x v):ve C (put e d x) (a.put d v):=by
 cases d with
 | none=>exact h
 | some d=>
  intro n;have hd:=hd d rfl;by_cases hn:n=d
  ·subst hn;simp only[Go.Proofs.YtbmkfjmlepjpfaaGreatDoor.put,upd_same,Act.put];simpa[mq,Array.getElem?_setIfInBounds,hd]using hx
  ·simp only[Go.Proofs.YtbmkfjmlepjpfaaGreatDoor.put,upd_ne _ _ hn,Act.put];have:=h n;simpa[mq,Array.getElem?_setIfInBounds,Ne.symm hn]using this
theorem Inv.put(h:Inv w0 sh nt μ fr e s a w){d:Option Nat}(hd:∀n,d=some n->n<nt){x:X}{v:Value}(hx:aZ (aU μ s w sh fr) x v) :
 Inv w0 sh nt μ fr (put e d x) s (a.put d v) w:=
 ⟨h.below,h.kD,h.iF,h.obj,h.inj,h.env.put (by simpa[h.size]using hd) hx,⟨by cases d<;>exact h.defers.ds,h.defers.KG⟩,by cases d<;>simp[Act.put,h.size],h.base⟩
theorem Inv.drew(h:Inv w0 sh nt μ fr e s a w):Inv w0 sh nt μ fr e s a w.drew:=by
 have hle:(aU μ s w sh fr).Le (aU μ s w.drew sh fr):=
  ⟨fun _ _ _ _ h=>h,fun _ _ _ h=>h,fun _ h=>.inl h,fun _ h=>h,fun _=>Nat.le_refl _,fun _ _ _=>⟨rfl,fun cs t fz h=>⟨cs,t,fz,h,rfl⟩⟩⟩
 exact⟨h.below.drew,h.kD,h.iF,fun o ob ho=>⟨(h.obj o ob ho).1.mono hle rfl,(h.obj o ob ho).2⟩,h.inj,fun n=>(h.env n).mono hle,⟨h.defers.ds,h.defers.KG⟩,h.size,h.base.trans hle⟩
theorem Inv.change(h:Inv w0 sh nt μ fr e s a w)(o b g' n':Nat)(ob:Ob)(w':World)(hg:(s o).g<=g')(hgb:g'=(s o).g->b=μ o)
 (hw:Below w0.heap.size w w') (hold:∀k,k<w.heap.size->k≠b->w'.heap[k]?=w.heap[k]?)
 (hb:w.heap.size<=b\/b=μ o/\(s o).o.isSome=true/\(s o).wr=true/\
  (∀cs t fz,w.heap[b]?=some (.cells cs t fz)->∃cs' t' fz',w'.heap[b]?=some (.cells cs' t' fz')/\cs.size=cs'.size))
 (hob:(aU μ s w sh fr).Le (aU (upd μ o b) (upd s o ⟨g',true,some ob,n'⟩) w' sh fr)->Gy (aU (upd μ o b) (upd s o ⟨g',true,some ob,n'⟩) w' sh fr) ob b)
 (hlp:LpN w0 o ob w' b:=by intro _ _ _ _ _ hl;cases hl) :
 Inv w0 sh nt (upd μ o b) fr e (upd s o ⟨g',true,some ob,n'⟩) a w'/\(aU μ s w sh fr).Le (aU (upd μ o b) (upd s o ⟨g',true,some ob,n'⟩) w' sh fr):=by
 have hbge:w0.heap.size<=b:=by
  rcases hb with hb|⟨rfl,hs,_⟩
  ·exact iq h.below.size hb
  ·obtain⟨ob',ho'⟩:=Option.isSome_iff_exists.1 hs;exact(h.obj o ob' ho').2.1
 have hnfr:¬fr b:=by
  intro hf;rcases hb with hb|⟨rfl,hs,hwr,_⟩
  ·have:=(h.iF b hf).2;omega
  ·obtain⟨ob',ho'⟩:=Option.isSome_iff_exists.1 hs;exact(h.obj o ob' ho').2.2.1 hwr hf
 have hheap:∀k,fr k\/sh k->w'.heap[k]?=w.heap[k]?:=by
  intro k hk;refine hold k ?_ ?_
  ·rcases hk with hk|hk
   ·exact(h.iF k hk).2
   ·exact Nat.lt_of_lt_of_le (h.kD k hk) h.below.size
  ·rintro rfl;rcases hk with hk|hk
   ·exact hnfr hk
   ·have:=h.kD _ hk;omega
 have hle:(aU μ s w sh fr).Le (aU (upd μ o b) (upd s o ⟨g',true,some ob,n'⟩) w' sh fr):=by
  refine⟨?_,?_,fun _ h=>.inl h,fun _ h=>h,?_,?_⟩
  ·intro k hk off v hv;simp only[aU]at hk hv ⊢;rw[World.cell?_of_block (w:=w) (hheap k hk)];exact hv
  ·intro k hk off hv;simp only[aU]at hk hv ⊢;rw[World.frozen?_of_block (w:=w) (hheap k (.inl hk))];exact hv
  ·intro o1;simp only[aU,upd];split
   ·rename_i ho1;subst ho1;exact hg
   ·exact Nat.le_refl _
  ·intro o1 h1 hg1;simp only[aU]at h1 hg1 ⊢;by_cases ho1:o1=o
   ·subst ho1;simp only[upd_same]at hg1 ⊢;have hbm:=hgb hg1;refine⟨hbm,fun cs t fz hcs=>?_⟩;rcases hb with hb|⟨_,_,_,hsz⟩
    ·have:=dA hcs;omega
    ·obtain⟨cs',t',fz',h2,h3⟩:=hsz cs t fz (hbm▸hcs);exact⟨cs',t',fz',hbm▸h2,h3⟩
   ·rw[upd_ne _ _ ho1];refine⟨rfl,fun cs t fz hcs=>?_⟩;by_cases hk:μ o1=b
    ·rcases hb with hb|⟨hbm,hs,_,hsz⟩
     ·have:=dA hcs;omega
     ·obtain⟨cs',t',fz',h2,h3⟩:=hsz cs t fz (hk▸hcs);exact⟨cs',t',fz',hk▸h2,h3⟩
    ·exact⟨cs,t,fz,(hold _ (dA hcs) hk).trans hcs,rfl⟩
 have hmk:Mk w0 (upd μ o b) (upd s o ⟨g',true,some ob,n'⟩) a w':=by
  constructor
  ·obtain⟨ds,e1,e2,e3⟩:=h.defers.ds;refine⟨ds,e1,e2,fun D hD=>?_⟩;obtain⟨d1,d2,d3⟩:=e3 D hD;have hDb:D≠b:=by
    rcases hb with hb|⟨hbm,hs,_⟩
    ·have:=dA d2;omega
    ·rintro rfl;exact d3 o hs hbm.symm
   refine⟨d1,(hold D (dA d2) hDb).trans d2,fun q hq=>?_⟩;by_cases he:q=o
   ·subst he;rw[upd_same];exact Ne.symm hDb
   ·rw[upd_ne _ _ he]at hq ⊢;exact d3 q hq
  ·intro q ob1 ho1;by_cases he:q=o
   ·subst he;simp only[upd_same]at ho1 ⊢;injection ho1 with ho1;subst ho1;exact hlp
   ·rw[upd_ne _ _ he]at ho1 ⊢
    obtain⟨_,hcs⟩:=(h.obj q ob1 ho1).1.block;have hsame:w'.heap[μ q]?=w.heap[μ q]?:=by
     refine hold _ (dA hcs) ?_;intro hk;rcases hb with hb|⟨hbm,hs,_⟩
     ·have:=dA hcs;simp only[aU]at this;omega
     ·exact he (h.inj q o (by simp[ho1]) hs (hk.trans hbm))
    intro e ps x y st hl r hr;exact h.defers.KG q ob1 ho1 e ps x y st hl r (hsame▸hr)
 refine⟨⟨h.below.trans hw,h.kD,fun k hk=>⟨(h.iF k hk).1,Nat.lt_of_lt_of_le (h.iF k hk).2 hw.size⟩,?_,?_,fun n=>(h.env n).mono hle,hmk,h.size,h.base.trans hle⟩,hle⟩
 ·intro o1 ob1 ho1;by_cases he:o1=o
  ·subst he;simp only[upd_same]at ho1 ⊢;injection ho1 with ho1;subst ho1;exact⟨hob hle,hbge,fun _=>hnfr,fun hf=>by simp at hf⟩
  ·rw[upd_ne _ _ he]at ho1
   rw[upd_ne _ _ he,upd_ne _ _ he];obtain⟨h1,h2,h3,h4⟩:=h.obj o1 ob1 ho1;refine⟨h1.mono hle ?_,h2,h3,h4⟩;obtain⟨_,hcs⟩:=h1.block;refine hold _ (dA hcs) ?_;rintro hk;rcases hb with hb|⟨hbm,hs,_⟩
   ·have:=dA hcs;simp only[aU]at this;omega
   ·exact he (h.inj o1 o (by simp[ho1]) hs (hk.trans hbm))
 ·intro o1 o2 h1 h2 hm;by_cases e1:o1=o
  ·by_cases e2:o2=o
   ·rw[e1,e2]
   ·exfalso;subst e1;rw[upd_same,upd_ne _ _ e2]at hm
    rw[upd_ne _ _ e2]at h2
    obtain⟨ob2,ho2⟩:=Option.isSome_iff_exists.1 h2;obtain⟨_,hcs⟩:=(h.obj o2 ob2 ho2).1.block;rcases hb with hb|⟨hbm,hs,_⟩
    ·have:=dA hcs;simp only[aU]at this;omega
    ·exact e2 (h.inj o2 o1 h2 hs (hm.symm.trans hbm))
  ·by_cases e2:o2=o
   ·exfalso;subst e2;rw[upd_same,upd_ne _ _ e1]at hm
    rw[upd_ne _ _ e1]at h1
    obtain⟨ob1,ho1⟩:=Option.isSome_iff_exists.1 h1;obtain⟨_,hcs⟩:=(h.obj o1 ob1 ho1).1.block;rcases hb with hb|⟨hbm,hs,_⟩
    ·have:=dA hcs;simp only[aU]at this;omega
    ·exact e1 (h.inj o1 o2 h1 hs (hm.trans hbm))
   ·rw[upd_ne _ _ e1,upd_ne _ _ e2]at hm
    rw[upd_ne _ _ e1]at h1
    rw[upd_ne _ _ e2]at h2
    exact h.inj o1 o2 h1 h2 hm
theorem Inv.news(h:Inv w0 sh nt μ fr e s a w)(w':World)(hw:Below w.heap.size w w')(fr':Nat->Prop)(hfr:∀b,fr b->fr' b)(hfr':∀b,fr' b->fr b\/(w.heap.size<=b/\b<w'.heap.size)) :
 Inv w0 sh nt μ fr' e s a w'/\(aU μ s w sh fr).Le (aU μ s w' sh fr'):=by
 have hle:(aU μ s w sh fr).Le (aU μ s w' sh fr'):=by
  refine⟨?_,?_,fun _ h=>.inl h,hfr,fun _=>Nat.le_refl _,fun o _ _=>⟨rfl,fun cs t fz hcs=>⟨cs,t,fz,(hw.block _ (dA hcs)).trans hcs,rfl⟩⟩⟩
  ·intro k hk off v hv;simp only[aU]at hv ⊢;rw[World.cell?_of_block (w:=w) (hw.block k (World.block_lt_of_cell? w _ hv))];exact hv
  ·intro k hk off hv;simp only[aU]at hk hv ⊢;rw[World.frozen?_of_block (w:=w) (hw.block k (h.iF k hk).2)];exact hv
 have hmk:Mk w0 μ s a w':=by
  constructor
  ·obtain⟨ds,e1,e2,e3⟩:=h.defers.ds;refine⟨ds,e1,e2,fun D hD=>?_⟩;obtain⟨d1,d2,d3⟩:=e3 D hD;exact⟨d1,(hw.block _ (dA d2)).trans d2,d3⟩
  ·intro q ob1 ho1 e ps x y st hl r hr;obtain⟨_,hcs⟩:=(h.obj q ob1 ho1).1.block;exact h.defers.KG q ob1 ho1 e ps x y st hl r ((hw.block _ (dA hcs))▸hr)
 refine⟨⟨h.below.trans (hw.mono h.below.size),h.kD,?_,?_,h.inj,fun n=>(h.env n).mono hle,hmk,h.size,h.base.trans hle⟩,hle⟩
 ·intro b hb;rcases hfr' b hb with hb|hb
  ·exact⟨(h.iF b hb).1,Nat.lt_of_lt_of_le (h.iF b hb).2 hw.size⟩
  ·exact⟨iq h.below.size hb.1,hb.2⟩
 ·intro o ob ho;obtain⟨h1,h2,h3,h4⟩:=h.obj o ob ho;obtain⟨_,hcs⟩:=h1.block;refine⟨h1.mono hle (hw.block _ (dA hcs)),h2,fun hwr hf=>?_,fun hwr=>hfr _ (h4 hwr)⟩;rcases hfr' _ hf with hf|hf
  ·exact h3 hwr hf
  ·have:=dA hcs;simp only[aU]at this;omega
theorem Inv.gX(h:Inv w0 sh nt μ fr e s a w)(l:List Nat) :
 Inv w0 sh nt μ (fun b=>fr b\/∃o∈l,(s o).o.isSome=true/\b=μ o) e (gX s l) a w/\
 (aU μ s w sh fr).Le (aU μ (gX s l) w sh (fun b=>fr b\/∃o∈l,(s o).o.isSome=true/\b=μ o)):=by
 have hsg:∀o,(Go.Proofs.YtbmkfjmlepjpfaaGreatDoor.gX s l o).g=(s o).g:=by intro o;unfold Go.Proofs.YtbmkfjmlepjpfaaGreatDoor.gX;split<;>rfl
 have hso:∀o,(Go.Proofs.YtbmkfjmlepjpfaaGreatDoor.gX s l o).o=(s o).o:=by intro o;unfold Go.Proofs.YtbmkfjmlepjpfaaGreatDoor.gX;split<;>rfl
 have hle:(aU μ s w sh fr).Le (aU μ (Go.Proofs.YtbmkfjmlepjpfaaGreatDoor.gX s l) w sh (fun b=>fr b\/∃o∈l,(s o).o.isSome=true/\b=μ o)):=by
  refine⟨fun _ _ _ _ h=>h,fun _ _ _ h=>h,fun _ h=>.inl h,fun _ h=>.inl h,?_,?_⟩
  ·intro o;simp only[aU,hsg];exact Nat.le_refl _
  ·intro o _ _;exact⟨rfl,fun cs t fz h=>⟨cs,t,fz,h,rfl⟩⟩
 refine⟨⟨h.below,h.kD,?_,?_,by simpa[hso]using h.inj,fun n=>(h.env n).mono hle,⟨by simpa only[hso]using h.defers.ds,by simpa only[hso]using h.defers.KG⟩,h.size,h.base.trans hle⟩,hle⟩
 ·rintro b (hb|⟨o,ho,hs,rfl⟩)
  ·exact h.iF b hb
  ·obtain⟨ob,ho'⟩:=Option.isSome_iff_exists.1 hs;obtain⟨h1,h2,_⟩:=h.obj o ob ho';obtain⟨_,hcs⟩:=h1.block;exact⟨h2,dA hcs⟩
 ·intro o ob ho;rw[hso]at ho
  obtain⟨h1,h2,h3,h4⟩:=h.obj o ob ho;refine⟨h1.mono hle rfl,h2,fun hwr=>?_,fun hwr=>?_⟩
  ·have hol:¬o∈l/\(s o).wr=true:=by
    unfold Go.Proofs.YtbmkfjmlepjpfaaGreatDoor.gX at hwr;split at hwr
    ·simp at hwr
    ·rename_i hn;exact⟨hn,hwr⟩
   rintro(hf|⟨o',ho',hs',hm⟩)
   ·exact h3 hol.2 hf
   ·exact hol.1 ((h.inj o o' (by simp[ho]) hs' hm)▸ho')
  ·unfold Go.Proofs.YtbmkfjmlepjpfaaGreatDoor.gX at hwr;split at hwr
   ·rename_i hn;exact .inr ⟨o,hn,by simp[ho],rfl⟩
   ·exact .inl (h4 hwr)
end
variable {P:Program}
theorem kJ{i n j k s:Nat}(hi:i<n)(hj:j<k)(h:n*k<=s):i*k+j<s:=by
 have h1:(i+1)*k<=n*k:=Nat.mul_le_mul_right k hi;rw[Nat.add_mul,Nat.one_mul]at h1
 omega
section
variable {w0:Bs} {sh:Nat->Prop} {nt:Nat} {μ:Nat->Nat} {fr:Nat->Prop} {e:Env} {s:ax} {a:Act} {w:World}
def xH(μ:Nat->Nat)(s:ax)(w:World)(sh fr:Nat->Prop)(l:List Nat):Cx:=
 aU μ (gX s l) w sh (fun b=>fr b\/∃o∈l,(s o).o.isSome=true/\b=μ o)
theorem KE(μ:Nat->Nat)(s:ax)(w:World)(sh fr:Nat->Prop)(l:List Nat):(aU μ s w sh fr).Le (xH μ s w sh fr l):=by
 have hsg:∀o,(gX s l o).g=(s o).g:=by intro o;unfold gX;split<;>rfl
 refine⟨fun _ _ _ _ h=>h,fun _ _ _ h=>h,fun _ h=>.inl h,fun _ h=>.inl h,?_,?_⟩
 ·intro o;simp only[aU,xH,hsg];exact Nat.le_refl _
 ·intro o _ _;exact⟨rfl,fun cs t fz h=>⟨cs,t,fz,h,rfl⟩⟩
theorem Inv.seg(h:Inv w0 sh nt μ fr e s a w){o k i n cap:Nat}{es:List X}(ho:(s o).o=some (.row k es))(hn:i+n<=es.length)
 {l:List Nat} (hl:o∈l) (hcap:n<=cap):aZ (xH μ s w sh fr l) (.sl true ((es.drop i).take n)) (.slice (some ⟨μ o,i*k,none⟩) n cap):=by
 obtain⟨⟨cs,t,h1,h2,h3,h4,h5,h6⟩,hb,_⟩:=h.obj o _ ho;by_cases h0:n=0
 ·subst h0;simpa using aZ.sl0
 ·refine aZ.sl (k:=k) (fun l' j=>cs.getD ((i+l')*k+j) undef) (by simp;omega) hcap (by simp;omega) (.inl (.inr ⟨o,hl,by simp[ho],rfl⟩)) ?_ ?_ ?_ ?_
  ·intro x hx;exact(h5 x (List.mem_of_mem_drop (List.mem_of_mem_take hx))).1
  ·intro l' x j c hx hc;have hx':es[i+l']?=some x:=by
    rw[List.getElem?_take]at hx
    split at hx
    ·rwa [List.getElem?_drop]at hx
    ·simp at hx
   have hlt:i+l'<es.length:=(List.getElem?_eq_some_iff.1 hx').1;have hxm:=h5 x (kK hx');have hj:j<k:=by have:=(List.getElem?_eq_some_iff.1 hc).1;omega
   have hb:(i+l')*k+j<cs.size:=kJ hlt hj h2;have hadd:i*k+l'*k+j=(i+l')*k+j:=by rw[Nat.add_mul]
   refine⟨?_,hxm.2.2 c (kK hc)⟩;simp only[xH,aU]at h1 ⊢;rw[hadd,cell_of_row w _ _ cs t (0,0) h1,kF hb];simp[mq,kF hb]
  ·intro _ j;simp only[xH,aU]at h1 ⊢;exact frozen_of_row w _ _ cs t h1
  ·intro l' x j c hx hc;have hx':es[i+l']?=some x:=by
    rw[List.getElem?_take]at hx
    split at hx
    ·rwa [List.getElem?_drop]at hx
    ·simp at hx
   have hlt:i+l'<es.length:=(List.getElem?_eq_some_iff.1 hx').1;have hxm:=h5 x (kK hx');have hj:j<k:=by have:=(List.getElem?_eq_some_iff.1 hc).1;omega
   have hb:(i+l')*k+j<cs.size:=kJ hlt hj h2;refine(h6 (i+l') x j c _ hx' hc ?_).mono (KE μ s w sh fr l);simp[mq,kF hb]
theorem bf:∀ {l:List X},aT l=true↔∀c∈l,c.deep=true:=by
 intro l;induction l with
 | nil=>simp[aT]
 | cons a l ih=>simp[aT,ih]
theorem yC{x:X}(h:x.deep=true):∀c∈x.cells,c.deep=true:=by
 cases x
 case agg cs=>intro c hc;exact bf.1 (by simpa[X.deep]using h) c (by simpa[X.cells]using hc)
 all_goals (intro c hc;simp only[X.cells,List.mem_singleton]at hc;subst hc;exact h)
theorem zO{x:X}:x.lit=true↔∀c∈x.cells,c.deep=true\/c.Na=true:=by simp only[X.lit,oH,Bool.or_eq_true]
theorem qR{x:X}(h:x.deep=true):x.lit=true:=zO.2 fun c hc=>.inl (yC h c hc)
theorem Inv.mK(h:Inv w0 sh nt μ fr e s a w){x y:X}{v:Value}(hx:aZ (aU μ s w sh fr) x v)(hy:mK s x=some y){l:List Nat}(hl:∀o∈p_ x,o∈l) :
 aZ (xH μ s w sh fr l) y v/\y.deep=true/\(x.one=true->y.one=true):=by
 have hle:=KE μ s w sh fr l;cases x<;>simp only[Go.Proofs.YtbmkfjmlepjpfaaGreatDoor.mK]at hy
 case ref o g k i n=>
  split at hy
  case h_2=>simp at hy
  rename_i k' es ho;split at hy
  case isFalse=>simp at hy
  rename_i hc;obtain⟨hg,rfl,hn,hde⟩:=hc;injection hy with hy;subst hy;cases hx with
  | ref _ _ hv _=>
   obtain⟨cap,rfl,hcap,_⟩:=hv hg.symm;refine⟨h.seg ho hn (hl o (by simp[p_])) hcap,?_,fun _=>rfl⟩;simp only[X.deep];exact bf.2 fun c hc=>bf.1 hde c (List.mem_of_mem_drop (List.mem_of_mem_take hc))
 case nil=>
  injection hy with hy;subst hy;cases hx with
  | nil=>exact⟨.sl0,rfl,fun _=>rfl⟩
 all_goals
  first
  | (simp at hy;done)
  | (
   split at hy
   ·injection hy with hy;subst hy;exact⟨hx.mono hle,by assumption,id⟩
   ·simp at hy)
theorem Inv.tq(h:Inv w0 sh nt μ fr e s a w){l:List Nat}:∀ {cs ds:List X},Go.Proofs.YtbmkfjmlepjpfaaGreatDoor.tq s cs=some ds->(∀o∈cs.flatMap p_,o∈l)->
 ds.length=cs.length/\aT ds=true/\((∀c∈cs,c.one=true)->∀c∈ds,c.one=true)/\
 ∀vs:Nat->Value,(∀j c,cs[j]?=some c->aZ (aU μ s w sh fr) c (vs j))->∀j c,ds[j]?=some c->aZ (xH μ s w sh fr l) c (vs j):=by
 intro cs;induction cs with
 | nil=>intro ds hd _;simp[Go.Proofs.YtbmkfjmlepjpfaaGreatDoor.tq]at hd;subst hd;exact⟨rfl,rfl,fun h=>h,by simp⟩
 | cons c cs ih=>
  intro ds hd hl;simp only[Go.Proofs.YtbmkfjmlepjpfaaGreatDoor.tq]at hd;split at hd
  case h_2=>simp at hd
  rename_i y m hy hm;injection hd with hd;subst hd;obtain⟨i1,i2,i3,i4⟩:=ih hm (fun o ho=>hl o (by simp only[List.flatMap_cons,List.mem_append];exact .inr ho));have hdp:=fun {v:Value} (hv:aZ (aU μ s w sh fr) c v)=>h.mK hv hy (l:=l) (fun o ho=>hl o (by simp only[List.flatMap_cons,List.mem_append];exact .inl ho))
  have hdeep:y.deep=true/\(c.one=true->y.one=true):=by
   cases c<;>simp only[Go.Proofs.YtbmkfjmlepjpfaaGreatDoor.mK]at hy
   case ref o g k i n=>
    split at hy
    case h_2=>simp at hy
    rename_i k' es ho;split at hy
    case isFalse=>simp at hy
    rename_i hc0;injection hy with hy;subst hy;exact⟨by simp only[X.deep];exact bf.2 fun c hc=>bf.1 hc0.2.2.2 c (List.mem_of_mem_drop (List.mem_of_mem_take hc)),fun _=>rfl⟩
   case nil=>injection hy with hy;subst hy;exact⟨rfl,fun _=>rfl⟩
   all_goals
    first
    | (simp at hy;done)
    | (
     split at hy
     ·injection hy with hy;subst hy;exact⟨by assumption,id⟩
     ·simp at hy)
  refine⟨by simp[i1],by simp[aT,hdeep.1,i2],?_,?_⟩
  ·intro ho z hz;cases hz with
   | head=>exact hdeep.2 (ho c (by simp))
   | tail _ hz=>exact i3 (fun x hx=>ho x (by simp[hx])) z hz
  ·intro vs hv j z hz;cases j with
   | zero=>simp at hz;subst hz;exact(hdp (hv 0 c rfl)).1
   | succ j=>exact i4 (fun j=>vs (j+1)) (fun j x hx=>hv (j+1) x (by simpa using hx)) j z (by simpa using hz)
theorem Inv.nI(h:Inv w0 sh nt μ fr e s a w){x y:X}{v:Value}(hx:aZ (aU μ s w sh fr) x v)(hy:Go.Proofs.YtbmkfjmlepjpfaaGreatDoor.nI s x=some y){l:List Nat}(hl:∀o∈nX x,o∈l) :
 aZ (xH μ s w sh fr l) y v/\y.deep=true:=by
 cases x
 case agg cs=>
  simp only[Go.Proofs.YtbmkfjmlepjpfaaGreatDoor.nI]at hy;split at hy
  case h_2=>simp at hy
  rename_i ds hd;injection hy with hy;subst hy;cases hx with
  | agg hlen hone hr=>
   rename_i vs;obtain⟨i1,i2,i3,i4⟩:=h.tq hd (l:=l) (by simpa[nX]using hl);refine⟨.agg (by omega) (i3 hone) ?_,by simpa[X.deep]using i2⟩;intro j c u hc hu;have:=i4 (fun j=>vs.getD j undef) (fun j c hc=>hr j c _ hc (by have:=(List.getElem?_eq_some_iff.1 hc).1;simp[mq,kF (show j<vs.size by omega)])) j c hc
   simpa[mq,hu]using this
 all_goals exact⟨(h.mK hx hy (by simpa[nX]using hl)).1,(h.mK hx hy (l:=l) (by simpa[nX]using hl)).2.1⟩
theorem RU{s:ax}:∀ {xs ds:List X},Go.Proofs.YtbmkfjmlepjpfaaGreatDoor.ZH s xs=some ds->ds.length=xs.length/\∀(i:Nat) y,ds[i]?=some y->∃cs ds',xs[i]?=some (.agg cs)/\y=.agg ds'/\Go.Proofs.YtbmkfjmlepjpfaaGreatDoor.tq s cs=some ds':=by
 intro xs;induction xs with
 | nil=>intro ds h;simp[Go.Proofs.YtbmkfjmlepjpfaaGreatDoor.ZH]at h;subst h;exact⟨rfl,by simp⟩
 | cons x xs ih=>
  intro ds h;cases x<;>simp only[Go.Proofs.YtbmkfjmlepjpfaaGreatDoor.ZH]at h
  case agg cs=>
   split at h
   case h_2=>simp at h
   rename_i d m hd hm;injection h with h;subst h;obtain⟨i1,i2⟩:=ih hm;refine⟨by simp[i1],fun i y hy=>?_⟩;cases i with
   | zero=>simp at hy;subst hy;exact⟨cs,d,by simp,rfl,hd⟩
   | succ i=>simpa using i2 i y (by simpa using hy)
  all_goals (simp at h)
theorem Inv.RY(h:Inv w0 sh nt μ fr e s a w){x y:X}{v:Value}(hx:aZ (aU μ s w sh fr) x v)(hy:Go.Proofs.YtbmkfjmlepjpfaaGreatDoor.RY s x=some y){l:List Nat}(hl:∀o∈nmm s x,o∈l) :
 aZ (xH μ s w sh fr l) y v/\y.deep=true:=by
 cases x
 case ref o g k i n=>
  simp only[Go.Proofs.YtbmkfjmlepjpfaaGreatDoor.RY]at hy;split at hy
  case h_2=>simp at hy
  rename_i k' es ho;split at hy
  case isFalse=>simp at hy
  rename_i hc;obtain⟨hg,rfl,hn⟩:=hc;split at hy
  case h_2=>simp at hy
  rename_i ds hds;injection hy with hy;subst hy;obtain⟨d1,d2⟩:=RU hds;have hdn:ds.length=n:=by rw[d1];simp;omega
  simp only[nmm,ho]at hl;have hlo:o∈l:=hl o (by simp);have hle:∀x∈es,∀q∈nX x,q∈l:=fun x hx q hq=>hl q (by simp only[List.mem_cons,List.mem_flatMap];exact .inr ⟨x,hx,hq⟩);obtain⟨⟨cs,t,h1,h2,h3,h4,h5,h6⟩,hb,_⟩:=h.obj o _ ho;have inner:∀(i':Nat) z,ds[i']?=some z->∃cs' ds',es[i+i']?=some (.agg cs')/\z=.agg ds'/\ds'.length=cs'.length/\aT ds'=true/\((∀c∈cs',c.one=true)->∀c∈ds',c.one=true)/\
   ∀vs:Nat->Value,(∀j c,cs'[j]?=some c->aZ (aU μ s w sh fr) c (vs j))->∀j c,ds'[j]?=some c->aZ (xH μ s w sh fr l) c (vs j):=by
   intro i' z hz;obtain⟨cs',ds',e1,e2,e3⟩:=d2 i' z hz;have e1':es[i+i']?=some (.agg cs'):=by
    rw[List.getElem?_take]at e1
    split at e1
    ·rwa [List.getElem?_drop]at e1
    ·simp at e1
   obtain⟨f1,f2,f3,f4⟩:=h.tq e3 (l:=l) (fun q hq=>hle _ (kK e1') q (by simpa[nX]using hq));exact⟨cs',ds',e1',e2,f1,f2,f3,f4⟩
  have hdeep:aT ds=true:=bf.2 fun z hz=>by obtain⟨i',hi'⟩:=List.getElem?_of_mem hz;obtain⟨cs',ds',_,rfl,_,f2,_⟩:=inner i' z hi';simpa[X.deep]using f2
  refine⟨?_,by simpa[X.deep]using hdeep⟩;cases hx with
  | ref _ _ hv _=>
   obtain⟨cap,rfl,hcap,_⟩:=hv hg.symm;by_cases h0:n=0
   ·subst h0;have:ds=[]:=List.eq_nil_of_length_eq_zero hdn;subst this;exact aZ.sl0
   ·refine aZ.sl (k:=k) (fun l' j=>cs.getD ((i+l')*k+j) undef) hdn.symm hcap (by omega) (.inl (.inr ⟨o,hlo,by simp[ho],rfl⟩)) ?_ ?_ ?_ ?_
    ·intro z hz;obtain⟨i',hi'⟩:=List.getElem?_of_mem hz;obtain⟨cs',ds',e1,rfl,f1,_⟩:=inner i' z hi';have:=(h5 _ (kK e1)).1;show ds'.length=k;simp only[X.cells]at this;omega
    ·intro l' z j c hz hc;obtain⟨cs',ds',e1,rfl,f1,f2,f3,_⟩:=inner l' z hz;have hxm:=h5 _ (kK e1);simp only[X.cells]at hxm hc;have hlt:i+l'<es.length:=(List.getElem?_eq_some_iff.1 e1).1;have hj:j<k:=by have:=(List.getElem?_eq_some_iff.1 hc).1;omega
     have hb:(i+l')*k+j<cs.size:=kJ hlt hj h2;have hadd:i*k+l'*k+j=(i+l')*k+j:=by rw[Nat.add_mul]
     refine⟨?_,f3 hxm.2.2 c (kK hc)⟩;simp only[xH,aU]at h1 ⊢;rw[hadd,cell_of_row w _ _ cs t (0,0) h1,kF hb];simp[mq,kF hb]
    ·intro _ j;simp only[xH,aU]at h1 ⊢;exact frozen_of_row w _ _ cs t h1
    ·intro l' z j c hz hc;obtain⟨cs',ds',e1,rfl,f1,f2,f3,f4⟩:=inner l' z hz;have hxm:=h5 _ (kK e1);simp only[X.cells]at hxm hc;have hlt:i+l'<es.length:=(List.getElem?_eq_some_iff.1 e1).1;refine f4 (fun j=>cs.getD ((i+l')*k+j) undef) (fun j c hc=>?_) j c hc;have hj:j<k:=by have:=(List.getElem?_eq_some_iff.1 hc).1;omega
     have hb:(i+l')*k+j<cs.size:=kJ hlt hj h2;exact h6 (i+l') _ j c _ e1 (by simpa[X.cells]using hc) (by simp[mq,kF hb])
 all_goals exact h.nI hx hy (by simpa[nmm]using hl)
theorem M6(s:ax):gX s []=s:=by funext o;simp[gX]
theorem aZ.of_nil{x:X}{v:Value}(h:aZ (xH μ s w sh fr []) x v):aZ (aU μ s w sh fr) x v:=by
 refine h.mono ?_;refine⟨?_,fun b hb off hv=>hv,fun _ h=>.inl h,?_,?_,?_⟩
 ·intro b _ off v hv;exact hv
 ·rintro b (hb|⟨o,ho,_⟩)
  ·exact hb
  ·simp at ho
 ·intro o;simp only[xH,aU,M6];exact Nat.le_refl _
 ·intro o _ _;exact⟨rfl,fun cs t fz h=>⟨cs,t,fz,h,rfl⟩⟩
end
variable {P:Program}
def g_(P:Program)(w0:Bs)(sh:Nat->Prop)(nt:Nat)(μ:Nat->Nat)(fr:Nat->Prop)(e:Env)(s:ax)(a:Act)(w:World)(o:Oper)(x:X):Prop:=
 ∃n v w' fr',(execOp a.eval o).run P w=.ok n w'/\(n=.value v\/n=.skip/\v=undef)/\Inv w0 sh nt μ fr' e s a w'/\aZ (aU μ s w' sh fr') x v
def Out(P:Program)(w0:Bs)(sh:Nat->Prop)(nt:Nat)(e:Env)(a:Act)(w:World)(o:Oper)(x:X)(s':ax):Prop:=
 ∃n v w' μ' fr',(execOp a.eval o).run P w=.ok n w'/\(n=.value v\/n=.skip/\v=undef)/\Inv w0 sh nt μ' fr' e s' a w'/\aZ (aU μ' s' w' sh fr') x v
section
variable {w0:Bs} {sh:Nat->Prop} {nt:Nat} {μ:Nat->Nat} {fr:Nat->Prop} {e:Env} {s:ax} {a:Act} {w:World}
theorem g_.out{o:Oper}{x:X}(h:g_ P w0 sh nt μ fr e s a w o x):Out P w0 sh nt e a w o x s:=by obtain⟨n,v,w',fr',h1,h2,h3,h4⟩:=h;exact⟨n,v,w',μ,fr',h1,h2,h3,h4⟩
theorem aO(h:Inv w0 sh nt μ fr e s a w){o:Oper}{x:X}{v:Value}(hr:(execOp a.eval o).run P w=.ok (.value v) w)(hx:aZ (aU μ s w sh fr) x v) :
 g_ P w0 sh nt μ fr e s a w o x:=⟨_,v,w,fr,hr,.inl rfl,h,hx⟩
theorem OU(h:Inv w0 sh nt μ fr e s a w){o:Oper}{x:Operand}{r:Ar}(ho:o.op=.move x\/o.op=.assign x)(hx:dU x r=true) :
 g_ P w0 sh nt μ fr e s a w o (r.ev e):=by
 refine aO h (v:=a.eval x) ?_ (aD h.env hx);rcases ho with ho|ho<;>simp[execOp,ho]
theorem Vu(h:Inv w0 sh nt μ fr e s a w){o:Oper}{c x y:Operand}{c' r1 r2:Ar}(ho:o.op=.pick c x y)(hc:dU c c'=true)(hx:dU x r1=true)(hy:dU y r2=true)
 {t:Bool} (ht:c'.ev e=.v (.bool t)):g_ P w0 sh nt μ fr e s a w o (cond t (r1.ev e) (r2.ev e)):=by
 have h1:=aD h.env hc;rw[ht]at h1
 have hcv:=(iP h1).1;cases t
 ·exact aO h (v:=a.eval y) (by simp[execOp,ho,hcv,asBool]) (aD h.env hy)
 ·exact aO h (v:=a.eval x) (by simp[execOp,ho,hcv,asBool]) (aD h.env hx)
theorem Gq(h:Inv w0 sh nt μ fr e s a w){o:Oper}{x:Operand}{r:Ar}(ho:o.op=.nilCheck x)(hx:dU x r=true){y:X}(hy:r.ev e=y)
 (hp:(∃o g j,y=.ptr o g j/\(s o).g=g)\/(∃o g k i j,y=.ep o g k i j/\(s o).g=g)\/∃z j,y=.ip z j):g_ P w0 sh nt μ fr e s a w o y:=by
 have h1:=aD h.env hx;rw[hy]at h1
 have:∃ad,a.eval x=.pointer (some ad):=by
  rcases hp with⟨o,g,j,rfl,hg⟩|⟨o,g,k,i,j,rfl,hg⟩|⟨z,j,rfl⟩
  ·cases h1 with
   | ptr _ _ hv _=>exact⟨_,hv hg⟩
  ·cases h1 with
   | ep _ _ hv _=>exact⟨_,hv hg⟩
  ·generalize a.eval x=v at h1 ⊢;cases h1 with
   | ip val _ _ _=>exact⟨_,rfl⟩
 obtain⟨ad,had⟩:=this;exact aO h (v:=a.eval x) (by simp[execOp,ho,had]) h1
theorem YK(h:Inv w0 sh nt μ fr e s a w){o:Oper}{op:BinOp}{t yt:TypeId}{x y:Operand}{r1 r2:Ar}(ho:o.op=.binOp op t x y yt)(hx:dU x r1=true)(hy:dU y r2=true)(ht:OL P t=true)
 {u v z:Value} (hu:r1.ev e=.v u) (hv:r2.ev e=.v v) (hz:jY op u v=some z):g_ P w0 sh nt μ fr e s a w o (.v z):=by
 have h1:=aD h.env hx;have h2:=aD h.env hy;rw[hu]at h1
 rw[hv]at h2
 obtain⟨hb,hp⟩:=RA hz ht x y w;rw[Sem.run_bind]at hb
 exact aO h (v:=z) (by simp only[execOp,ho,(iP h1).1,(iP h2).1,Sem.run_bind,Result.andThen_ok];rw[hb];rfl) (.v hp)
theorem OQ(h:Inv w0 sh nt μ fr e s a w){o:Oper}{neg:Bool}{t yt:TypeId}{x y:Operand}{r1 r2:Ar}(ho:o.op=.binOp (if neg then .neq else .eql) t x y yt)(hx:dU x r1=true)(hy:dU y r2=true)(ht:boolT P t=true)
 {u v:Bool} (hu:r1.ev e=.v (.bool u)) (hv:r2.ev e=.v (.bool v)):g_ P w0 sh nt μ fr e s a w o (.v (.bool (if neg then !(u==v)else u==v))):=by
 have h1:=aD h.env hx;have h2:=aD h.env hy;rw[hu]at h1
 rw[hv]at h2
 obtain⟨hb,hb'⟩:=Wn ht x y u v w;rw[Sem.run_bind]at hb hb'
 cases neg
 ·exact aO h (v:=.bool (u==v)) (by simp only[execOp,ho,(iP h1).1,(iP h2).1,Sem.run_bind,Result.andThen_ok,kG,if_false];rw[hb];rfl) (.v rfl)
 ·exact aO h (v:=.bool (!(u==v))) (by simp only[execOp,ho,(iP h1).1,(iP h2).1,Sem.run_bind,Result.andThen_ok,if_true];rw[hb'];rfl) (.v rfl)
theorem snd_un(h:Inv w0 sh nt μ fr e s a w){o:Oper}{op:UnOp}{t:TypeId}{x:Operand}{r:Ar}(ho:o.op=.unOp op t x)(hx:dU x r=true)
 {u z:Value} (hu:r.ev e=.v u) (hz:unV op u=some z):g_ P w0 sh nt μ fr e s a w o (.v z):=by
 have h1:=aD h.env hx;rw[hu]at h1
 obtain⟨hb,hp⟩:=Zi (P:=P) hz w;exact aO h (v:=z) (by simp[execOp,ho,(iP h1).1,hb]) (.v hp)
theorem Vr(h:Inv w0 sh nt μ fr e s a w){o:Oper}{src dst:TypeId}{x:Operand}{r:Ar}{k:IntKind}(ho:o.op=.convert src dst x)(hs:∃d,P.underlying src=some d)(hd:P.underlying dst=some (.int k))(hx:dU x r=true)
 {k':IntKind} {n:Int} (hu:r.ev e=.v (.int k' n)):g_ P w0 sh nt μ fr e s a w o (.v (.int k (k.wrap n))):=by
 have h1:=aD h.env hx;rw[hu]at h1
 obtain⟨d,hs⟩:=hs;refine aO h (v:=.int k (k.wrap n)) ?_ (.v rfl);have:(convert src dst (.int k' n)).run P w=.ok (.int k (k.wrap n)) w:=by simp only[convert,Sem.run_bind,run_underlying hs,run_underlying hd,Result.andThen_ok];rfl
 simp[execOp,ho,(iP h1).1,this]
theorem YN(h:Inv w0 sh nt μ fr e s a w){o:Oper}{src dst:TypeId}{x:Operand}{r:Ar}(ho:o.op=.convert src dst x)(hs:P.underlying src=some .string)(hd:P.underlying dst=some .string)(hx:dU x r=true)
 {b:ByteArray} (hu:r.ev e=.v (.string b)):g_ P w0 sh nt μ fr e s a w o (.v (.string b)):=by
 have h1:=aD h.env hx;rw[hu]at h1
 refine aO h (v:=.string b) ?_ (.v rfl);have:(convert src dst (.string b)).run P w=.ok (.string b) w:=by simp only[convert,Sem.run_bind,run_underlying hs,run_underlying hd,Result.andThen_ok];rfl
 simp[execOp,ho,(iP h1).1,this]
theorem YR(h:Inv w0 sh nt μ fr e s a w){o:Oper}{x:Operand}{i:Nat}{r:Ar}(ho:o.op=.extract x i)(hx:dU x r=true)
 {cs:List X} {c:X} (hu:r.ev e=.cZ cs) (hc:cs[i]?=some c):g_ P w0 sh nt μ fr e s a w o c:=by
 have h1:=aD h.env hx;rw[hu]at h1
 generalize hv:a.eval x=v at h1;cases h1 with
 | cZ hl hr=>
  rename_i vs;have hi:i<vs.size:=by have:=(List.getElem?_eq_some_iff.1 hc).1;omega
  exact aO h (v:=vs[i]) (by simp[execOp,ho,hv,Instr.extract,kF hi]) (hr i c _ hc (kF hi))
theorem gY{C:Cx}(hE:ve C e a):∀ {l:List Operand} {m:List Ar},iY l m=true->m.length=l.length/\∀(j:Nat) r x,m[j]?=some r->l[j]?=some x->aZ C (r.ev e) (a.eval x):=by
 intro l;induction l with
 | nil=>intro m h;cases m with
  | nil=>exact⟨rfl,by simp⟩
  | cons=>simp[iY]at h
 | cons x l ih=>intro m h;cases m with
  | nil=>simp[iY]at h
  | cons r m=>
   simp only[iY,bN]at h;obtain⟨h1,h2⟩:=ih h.2;refine⟨by simp[h1],?_⟩;intro j r' x' hr hx;cases j with
   | zero=>simp at hr hx;subst hr;subst hx;exact aD hE h.1
   | succ j=>exact h2 j r' x' (by simpa using hr) (by simpa using hx)
theorem YZ(h:Inv w0 sh nt μ fr e s a w){o:Oper}{f:Nat}{fst cap:Array Operand}{l:List Ar}(ho:o.op=.makeFunc (.func f) fst cap)(hf:fst.isEmpty=true)(hl:iY cap.toList l=true) :
 g_ P w0 sh nt μ fr e s a w o (.fn f (l.map (Ar.ev e))):=by
 obtain⟨h1,h2⟩:=gY h.env hl;have hf':fst=#[]:=by simpa using hf
 refine aO h (v:=.func (.func f) #[] (cap.map a.eval)) (by simp[execOp,ho,hf',Instr.makeFunc]) (.fn (by simpa using h1) ?_);intro j c v hc hv;simp only[List.getElem?_map,tu]at hc;obtain⟨r,hr,rfl⟩:=hc;simp only[Array.getElem?_map,tu]at hv;obtain⟨x,hx,rfl⟩:=hv;exact h2 j r x hr (by simpa using hx)
theorem Y2(h:Inv w0 sh nt μ fr e s a w){o:Oper}{f:Nat}{fst cap:Array Operand}{l:List Ar}(ho:o.op=.makeFunc (.func f) fst cap)(hf:cap.isEmpty=true)(hl:iY fst.toList l=true) :
 g_ P w0 sh nt μ fr e s a w o (.fm f (l.map (Ar.ev e))):=by
 obtain⟨h1,h2⟩:=gY h.env hl;have hf':cap=#[]:=by simpa using hf
 refine aO h (v:=.func (.func f) (fst.map a.eval) #[]) (by simp[execOp,ho,hf',Instr.makeFunc]) (.fm (by simpa using h1) ?_);intro j c v hc hv;simp only[List.getElem?_map,tu]at hc;obtain⟨r,hr,rfl⟩:=hc;simp only[Array.getElem?_map,tu]at hv;obtain⟨x,hx,rfl⟩:=hv;exact h2 j r x hr (by simpa using hx)
theorem A9{f:Field}{i:TypeInfo}(hi:P.info? f.type=some i)(hs:i.size≠0)(b off:Nat):(fieldPlace ⟨b,off,none⟩ f).run P w=.ok ⟨b,off+f.offset,none⟩ w:=by simp[fieldPlace,sizeOf,typeInfo,hi,hs,nG]
theorem Me(h:Inv w0 sh nt μ fr e s a w){o:Oper}{t:TypeId}{x:Operand}{n:Nat}{r:Ar}{fs:Array Field}{f:Field}{i:TypeInfo}(ho:o.op=.fieldAddr t x n)(ht:P.underlying t=some (.struct fs))(hf:fs[n]?=some f)
 (hi:P.info? f.type=some i) (hs:i.size≠0) (hx:dU x r=true) {y y':X} (hy:r.ev e=y)
 (hp:(∃o g j,y=.ptr o g j/\y'=.ptr o g (j+f.offset)/\(s o).g=g)\/(∃o g k i j,y=.ep o g k i j/\y'=.ep o g k i (j+f.offset)/\(s o).g=g)\/∃z j,y=.ip z j/\y'=.ip z (j+f.offset)) :
 g_ P w0 sh nt μ fr e s a w o y':=by
 have h1:=aD h.env hx;rw[hy]at h1
 have run:∀b off,a.eval x=.pointer (some ⟨b,off,none⟩)->(execOp a.eval o).run P w=.ok (.value (.pointer (some ⟨b,off+f.offset,none⟩))) w:=by intro b off hv;have:=A9 (w:=w) hi hs b off;simp[execOp,ho,hv,Instr.fieldAt,run_underlying ht,hf,Instr.sureAddr,this]
 rcases hp with⟨o',g,j,rfl,rfl,hg⟩|⟨o',g,k,i',j,rfl,rfl,hg⟩|⟨z,j,rfl,rfl⟩
 ·generalize hv:a.eval x=v at h1;cases h1 with
  | ptr h0 hg' hv' ho'=>
   rw[hv' hg]at hv
   exact aO h (run _ _ hv) (.ptr h0 hg' (fun _=>rfl) rfl)
 ·generalize hv:a.eval x=v at h1;cases h1 with
  | ep h0 hg' hv' ho'=>
   rw[hv' hg]at hv
   exact aO h (run _ _ hv) (.ep h0 hg' (fun _=>by simp only[Nat.add_assoc]) rfl)
 ·generalize hv:a.eval x=v at h1;cases h1 with
  | ip val hb hc hr=>
   refine aO h (run _ _ hv) ?_;rw[Nat.add_assoc];exact .ip val hb hc hr
theorem YS(h:Inv w0 sh nt μ fr e s a w){o:Oper}{t:TypeId}{x:Operand}{n:Nat}{r:Ar}{fs:Array Field}{f:Field}{k:Nat}{ag:Bool}(ho:o.op=.field t x n)(ht:P.underlying t=some (.struct fs))(hf:fs[n]?=some f)
 (hs:nC P f.type k=true) (ha:jX P f.type ag=true) (hx:dU x r=true) {cs:List X} {y:X} (hy:r.ev e=.agg cs) (hp:jl cs f.offset k ag=some y):g_ P w0 sh nt μ fr e s a w o y:=by
 have h1:=aD h.env hx;rw[hy]at h1
 generalize hv:a.eval x=v at h1;cases h1 with
 | agg hl hone hr=>
  obtain⟨u,hu,hu'⟩:=D9 (P:=P) (.agg hl hone hr) hs ha hp w;exact aO h (v:=u) (by simp[execOp,ho,hv,Instr.field,run_underlying ht,hf,asAgg,hu]) hu'
theorem YW(h:Inv w0 sh nt μ fr e s a w){o:Oper}{t el:TypeId}{x i:Operand}{n k:Nat}{r1 r2:Ar}{ag:Bool}(ho:o.op=.index t x i)(ht:P.underlying t=some (.array n el))
 (hs:nC P el k=true) (ha:jX P el ag=true) (hx:dU x r1=true) (hi:dU i r2=true) {cs:List X} {y:X} {m:Int} (hy:r1.ev e=.agg cs) (hm:w9 (r2.ev e)=some m) (h0:0<=m) (hn:m<(n:Int))
 (hp:jl cs (m.toNat*k) k ag=some y):g_ P w0 sh nt μ fr e s a w o y:=by
 have h1:=aD h.env hx;obtain⟨k',hk'⟩:=kV (aD h.env hi) hm;rw[hy]at h1
 generalize hv:a.eval x=v at h1;cases h1 with
 | agg hl hone hr=>
  obtain⟨u,hu,hu'⟩:=D9 (P:=P) (.agg hl hone hr) hs ha hp w;exact aO h (v:=u) (by simp[execOp,ho,hv,hk',Instr.index,asIntOf,run_underlying ht,h0,hn,dx hs,hu]) hu'
theorem YV(h:Inv w0 sh nt μ fr e s a w){o:Oper}{t:TypeId}{x i:Operand}{r1 r2:Ar}(ho:o.op=.index t x i)(ht:P.underlying t=some .string)
 (hx:dU x r1=true) (hi:dU i r2=true) {b:ByteArray} {m:Int} {c:UInt8} (hy:r1.ev e=.v (.string b)) (hm:w9 (r2.ev e)=some m) (hc:(if 0<=m then b[m.toNat]? else none)=some c) :
 g_ P w0 sh nt μ fr e s a w o (.v (.int .u8 c.toNat)):=by
 have h1:=aD h.env hx;obtain⟨k',hk'⟩:=kV (aD h.env hi) hm;rw[hy]at h1
 refine aO h (v:=.int .u8 c.toNat) ?_ (.v rfl);simp only[execOp,ho,(iP h1).1,hk',Instr.index,asIntOf,Sem.run_bind,Sem.run_pure,Result.andThen_ok,run_underlying ht];rw[hc];rfl
theorem YT(h:Inv w0 sh nt μ fr e s a w){o:Oper}{t el:TypeId}{x i:Operand}{k:Nat}{r1 r2:Ar}(ho:o.op=.indexAddr t x i)(ht:P.underlying t=some (.slice el))
 (hs:nC P el k=true) (hx:dU x r1=true) (hi:dU i r2=true) {f:Bool} {es:List X} {y:X} {m:Int} (hy:r1.ev e=.sl f es) (hm:w9 (r2.ev e)=some m) (h0:0<=m) (hn:m<(es.length:Int))
 (hc:es[m.toNat]?=some y) (hk:y.cells.length=k):g_ P w0 sh nt μ fr e s a w o (.ip y 0):=by
 have h1:=aD h.env hx;obtain⟨k',hk'⟩:=kV (aD h.env hi) hm;rw[hy]at h1
 generalize hv:a.eval x=v at h1;cases h1 with
 | sl0=>simp at hc
 | @sl f es b off cap k1 n val hnl hcap hl hb hw hcell hz hr=>
  have hk1:k1=k:=by rw[<-hw y (kK hc),hk]
  subst hk1;refine aO h (v:=.pointer (some ⟨b,off+m.toNat*k1,none⟩)) ?_ ?_
  ·have:m<(n:Int):=by omega
   simp[execOp,ho,hv,hk',Instr.indexAt,asIntOf,run_underlying ht,h0,this,dx hs,nG]
  ·have:=aZ.ip (C:=aU μ s w sh fr) (x:=y) (j:=0) (b:=b) (off:=off+m.toNat*k1) (val m.toNat) (by
    rcases hb with hb|hb
    ·exact .inl hb
    ·exact .inr hb.2) (fun l c hl=>hcell _ _ _ _ hc hl) (fun l c hl=>hr _ _ _ _ hc hl)
   simpa using this
theorem YU(h:Inv w0 sh nt μ fr e s a w){o:Oper}{t el:TypeId}{x i:Operand}{k:Nat}{r1 r2:Ar}(ho:o.op=.indexAddr t x i)(ht:P.underlying t=some (.slice el))
 (hs:nC P el k=true) (hx:dU x r1=true) (hi:dU i r2=true) {o' g j n:Nat} {m:Int} (hy:r1.ev e=.ref o' g k j n) (hm:w9 (r2.ev e)=some m) (h0:0<=m) (hn:m<(n:Int)) (hg:(s o').g=g) :
 g_ P w0 sh nt μ fr e s a w o (.ep o' g k (j+m.toNat) 0):=by
 have h1:=aD h.env hx;obtain⟨k',hk'⟩:=kV (aD h.env hi) hm;rw[hy]at h1
 generalize hv:a.eval x=v at h1;cases h1 with
 | ref h1 hg' hv' ho'=>
  obtain⟨cap,rfl,_⟩:=hv' hg;refine aO h (v:=.pointer (some ⟨μ o',j*k+m.toNat*k,none⟩)) ?_ (.ep h1 hg' (fun _=>by simp[aU,Nat.add_mul]) rfl);simp[execOp,ho,hv,hk',Instr.indexAt,asIntOf,run_underlying ht,h0,hn,dx hs,nG,aU]
theorem OT(h:Inv w0 sh nt μ fr e s a w){o:Oper}{t el:TypeId}{x i:Operand}{k n:Nat}{r1 r2:Ar}(ho:o.op=.indexAddr t x i)(ht:P.underlying t=some (.array n el))
 (hs:nC P el k=true) (hx:dU x r1=true) (hi:dU i r2=true) {m:Int} (hm:w9 (r2.ev e)=some m) (h0:0<=m) (hn:m<(n:Int)) {y y':X} (hy:r1.ev e=y)
 (hp:(∃o g j,y=.ptr o g j/\y'=.ptr o g (j+m.toNat*k)/\(s o).g=g)\/∃z j,y=.ip z j/\y'=.ip z (j+m.toNat*k)) :
 g_ P w0 sh nt μ fr e s a w o y':=by
 have h1:=aD h.env hx;obtain⟨k',hk'⟩:=kV (aD h.env hi) hm;rw[hy]at h1
 have run:∀b off,a.eval x=.pointer (some ⟨b,off,none⟩)->(execOp a.eval o).run P w=.ok (.value (.pointer (some ⟨b,off+m.toNat*k,none⟩))) w:=by intro b off hv;simp[execOp,ho,hv,hk',Instr.indexAt,asIntOf,run_underlying ht,Instr.sureAddr,h0,hn,dx hs,nG]
 rcases hp with⟨o',g,j,rfl,rfl,hg⟩|⟨z,j,rfl,rfl⟩
 ·generalize hv:a.eval x=v at h1;cases h1 with
  | ptr h0 hg' hv' ho'=>
   rw[hv' hg]at hv
   exact aO h (run _ _ hv) (.ptr h0 hg' (fun _=>rfl) rfl)
 ·generalize hv:a.eval x=v at h1;cases h1 with
  | ip val hb hc hr=>
   refine aO h (run _ _ hv) ?_;rw[Nat.add_assoc];exact .ip val hb hc hr
end
variable {P:Program}
section
variable {w0:Bs} {sh:Nat->Prop} {nt:Nat} {μ:Nat->Nat} {fr:Nat->Prop} {e:Env} {s:ax} {a:Act} {w:World}
theorem EY(h:Inv w0 sh nt μ fr e s a w){x y:X}{v:Value}{k:Nat}{ag:Bool}{t:TypeId}(hx:aZ (aU μ s w sh fr) x v)(hy:EX s x k ag=some y)(hs:nC P t k=true)(ha:jX P t ag=true) :
 ∃ad u,v=.pointer (some ad)/\(loadVar t ad).run P w=.ok u w/\aZ (aU μ s w sh fr) y u:=by
 unfold EX at hy;split at hy
 ·rename_i o g j;split at hy
  case h_2=>simp at hy
  rename_i z ho;split at hy
  case isFalse=>simp at hy
  rename_i hg;cases hx with
  | ptr h1 hg' hv _=>
   obtain⟨⟨cs,t',hh,hsz,hone,hr⟩,_⟩:=h.obj o _ ho;have hcell:∀l c,z.cells[l]?=some c->(aU μ s w sh fr).w.cell? ⟨μ o,0+l,none⟩=some (cs.getD l undef)/\c.one=true:=by
    intro l c hl;have hlt:l<cs.size:=by have:=(List.getElem?_eq_some_iff.1 hl).1;omega
    refine⟨?_,hone c (kK hl)⟩;rw[Nat.zero_add,cell_of_row _ _ _ cs t' (0,0) hh,kF hlt];simp[mq,kF hlt]
   obtain⟨u,hu,hu'⟩:=xN (P:=P) (C:=aU μ s w sh fr) (b:=μ o) (off:=0) (val:=fun l=>cs.getD l undef) hcell (fun l c hl=>hr l c _ hl (by
    have hlt:l<cs.size:=by have:=(List.getElem?_eq_some_iff.1 hl).1;omega
    simp[mq,kF hlt])) hs ha hy
   exact⟨_,u,hv hg.symm,by simpa[aU]using hu,hu'⟩
 ·rename_i o g k0 i j;split at hy
  case h_2=>simp at hy
  rename_i k' es ho;split at hy
  case isFalse=>simp at hy
  rename_i hc;obtain⟨hg,rfl,hjk⟩:=hc;split at hy
  case h_2=>simp at hy
  rename_i z hz;cases hx with
  | ep h1 hg' hv _=>
   obtain⟨⟨cs,t',hh,hsz,_,_,hw,hr⟩,_⟩:=h.obj o _ ho;have hzl:=hw z (kK hz);have hilt:=(List.getElem?_eq_some_iff.1 hz).1;have hcell:∀l c,z.cells[l]?=some c->(aU μ s w sh fr).w.cell? ⟨μ o,i*k0+l,none⟩=some (cs.getD (i*k0+l) undef)/\c.one=true:=by
    intro l c hl;have hlk:l<k0:=by have:=(List.getElem?_eq_some_iff.1 hl).1;omega
    have hlt:i*k0+l<cs.size:=kJ hilt hlk hsz;refine⟨?_,hzl.2.2 c (kK hl)⟩;rw[cell_of_row _ _ _ cs t' (0,0) hh,kF hlt];simp[mq,kF hlt]
   obtain⟨u,hu,hu'⟩:=xN (P:=P) (C:=aU μ s w sh fr) (b:=μ o) (off:=i*k0) (val:=fun l=>cs.getD (i*k0+l) undef) hcell (fun l c hl=>hr i z l c _ hz hl (by
    have hlk:l<k0:=by have:=(List.getElem?_eq_some_iff.1 hl).1;omega
    have hlt:i*k0+l<cs.size:=kJ hilt hlk hsz;simp[mq,kF hlt])) hs ha hy
   exact⟨_,u,hv hg.symm,by simpa[aU]using hu,hu'⟩
 ·rename_i z j;cases hx with
  | ip val hb hc hr=>
   obtain⟨u,hu,hu'⟩:=xN (P:=P) (C:=aU μ s w sh fr) hc hr hs ha hy;exact⟨_,u,rfl,by simpa[aU]using hu,hu'⟩
 ·simp at hy
theorem snd_ld(h:Inv w0 sh nt μ fr e s a w){o:Oper}{t:TypeId}{x:Operand}{r:Ar}{k:Nat}{ag:Bool}(ho:o.op=.load t x)(hs:nC P t k=true)(ha:jX P t ag=true)(hx:dU x r=true)
 {y:X} (hy:EX s (r.ev e) k ag=some y):g_ P w0 sh nt μ fr e s a w o y:=by
 obtain⟨ad,u,hv,hu,hu'⟩:=EY h (aD h.env hx) hy hs ha;exact aO h (v:=u) (by simp[execOp,ho,hv,Instr.loadAt,Instr.sureAddr,hu]) hu'
theorem Fh{c:Call}(h:1=c.args.toList.length):∃y,c.args=#[y]:=by
 obtain⟨callee,args,tys⟩:=c;obtain⟨l⟩:=args
 match l,h with
 | [y],_=>exact⟨y,rfl⟩
theorem Vs(h:Inv w0 sh nt μ fr e s a w){o:Oper}{t:TypeId}{c:Call}{r:Ar}(ho:o.op=.call c)(hc:c.callee=.builtin .len)(ht:c.argTypes[0]?=some t)(hd:P.underlying t=some .string)
 (hl:iY c.args.toList [r]=true) {b:ByteArray} (hb:r.ev e=.v (.string b)):g_ P w0 sh nt μ fr e s a w o (.v (.int .i64 b.size)):=by
 obtain⟨h1,h2⟩:=gY h.env hl;obtain⟨y,hy⟩:=Fh h1;have hr:=h2 0 r y rfl (by simp[hy]);rw[hb]at hr
 exact aO h (v:=.int .i64 b.size) (by simp[execOp,ho,resolve,hc,hy,invoke,builtin,(iP hr).1,Builtin.len_,ht,run_underlying hd,goInt]) (.v rfl)
theorem Gp(h:Inv w0 sh nt μ fr e s a w){o:Oper}{t el:TypeId}{c:Call}{r:Ar}(ho:o.op=.call c)(hc:c.callee=.builtin .len)(ht:c.argTypes[0]?=some t)(hd:P.underlying t=some (.slice el))
 (hl:iY c.args.toList [r]=true) {n:Int} {x:X} (hx:r.ev e=x) (hn:(∃f es,x=.sl f es/\n=es.length)\/(∃o g k i m,x=.ref o g k i m/\(s o).g=g/\n=m)\/x=.nil/\n=0):g_ P w0 sh nt μ fr e s a w o (.v (.int .i64 n)):=by
 obtain⟨h1,h2⟩:=gY h.env hl;obtain⟨y,hy⟩:=Fh h1;have hr:=h2 0 r y rfl (by simp[hy]);rw[hx]at hr
 have:∃ad m cp,a.eval y=.slice ad m cp/\(m:Int)=n:=by
  generalize a.eval y=v at hr;rcases hn with⟨f,es,rfl,rfl⟩|⟨o',g,k,i,m,rfl,hg,rfl⟩|⟨rfl,rfl⟩
  ·cases hr with
   | sl0=>exact⟨_,_,_,rfl,rfl⟩
   | sl val hnl _ _ _ _ _ _ _=>exact⟨_,_,_,rfl,by omega⟩
  ·cases hr with
   | ref _ _ hv _=>obtain⟨cap,rfl,_⟩:=hv hg;exact⟨_,_,_,rfl,rfl⟩
  ·cases hr with
   | nil=>exact⟨_,_,_,rfl,rfl⟩
 obtain⟨ad,m,cp,hv,hm⟩:=this;exact aO h (v:=.int .i64 n) (by simp[execOp,ho,resolve,hc,hy,invoke,builtin,hv,Builtin.len_,ht,run_underlying hd,goInt,hm]) (.v rfl)
theorem SN(mx:Bool):∀ {l:List Ar} {xs:List Operand},iY xs l=true->ve (aU μ s w sh fr) e a->∀ {u z:Value},plain u=true->qU mx e u l=some z->
 ((xs.map a.eval).foldlM (if mx then Builtin.max2 else Builtin.min2) u).run P w=.ok z w/\plain z=true:=by
 intro l;induction l with
 | nil=>intro xs h hE u z hu hz;cases xs with
  | nil=>simp only[qU,aW]at hz;subst hz;exact⟨by simp,hu⟩
  | cons=>simp[iY]at h
 | cons r l ih=>intro xs h hE u z hu hz;cases xs with
  | nil=>simp[iY]at h
  | cons x xs=>
   simp only[iY,bN]at h;simp only[qU]at hz;split at hz
   case h_2=>simp at hz
   rename_i y hy;split at hz
   case h_2=>simp at hz
   rename_i u' hu';have hx:=aD hE h.1;rw[hy]at hx
   obtain⟨h1,h2⟩:=WM (P:=P) hu' w;obtain⟨h3,h4⟩:=ih h.2 hE h2 hz;refine⟨?_,h4⟩;cases mx<;>simp only[kG,if_false,if_true]at h1 h3 ⊢<;>simp[(iP hx).1,h1,h3]
theorem Vt(h:Inv w0 sh nt μ fr e s a w){o:Oper}{c:Call}{mx:Bool}{r:Ar}{l:List Ar}(ho:o.op=.call c)(hc:c.callee=.builtin (if mx then .max else .min))(hl:iY c.args.toList (r::l)=true)
 {u z:Value} (hu:r.ev e=.v u) (hz:qU mx e u l=some z):g_ P w0 sh nt μ fr e s a w o (.v z):=by
 obtain⟨x,xs,hx⟩:∃x xs,c.args.toList=x::xs:=by
  cases hq:c.args.toList with
  | nil=>rw[hq]at hl;simp[iY]at hl
  | cons x xs=>exact⟨x,xs,rfl⟩
 rw[hx]at hl
 simp only[iY,bN]at hl;have h1:=aD h.env hl.1;rw[hu]at h1
 obtain⟨hv,hp⟩:=iP h1;obtain⟨h2,h3⟩:=SN (P:=P) mx hl.2 h.env hp hz;have hm:(c.args.map a.eval).toList=a.eval x::xs.map a.eval:=by simp[hx]
 refine aO h (v:=z) ?_ (.v h3);cases mx
 ·simp only[kG,if_false]at hc h2;simp[execOp,ho,resolve,hc,invoke,builtin,Builtin.min_,hx,hv,h2]
 ·simp only[if_true]at hc h2;simp[execOp,ho,resolve,hc,invoke,builtin,Builtin.max_,hx,hv,h2]
theorem EA{x:Option Operand}{r:Option Ar}{d y n:Nat}{c:BoundsCode}(hE:ve (aU μ s w sh fr) e a)(hx:wG x r=true)(hb:bnd e r d y=some n) :
 (∀q,x=some q->(Instr.sliceBound (a.eval q) y c).run P w=.ok n w)/\(x=none->n=d)/\(x.isSome=true->n<=y):=by
 unfold wG at hx;split at hx
 ·simp only[bnd,aW]at hb;subst hb;exact⟨by simp,fun _=>rfl,by simp⟩
 ·rename_i q r';simp only[bnd]at hb;split at hb
  case h_2=>simp at hb
  rename_i i hi;split at hb
  case isFalse=>simp at hb
  rename_i hc;simp only[aW]at hb;obtain⟨k,hk⟩:=kV (aD hE hx) hi;refine⟨?_,by simp,fun _=>by omega⟩;intro q' hq;simp only[aW]at hq;subst hq;simp[Instr.sliceBound,hk,asIntOf,hc,hb]
 ·simp at hx
theorem oW{isS:Bool}{xl xh:Option Operand}{rl rh:Option Ar}{n cap h l:Nat}(hE:ve (aU μ s w sh fr) e a)(hlo:wG xl rl=true)(hhi:wG xh rh=true)
 (hh:bnd e rh n n=some h) (hl:bnd e rl 0 h=some l) (hcap:n<=cap):(Instr.sliceBounds isS n cap (xl.map a.eval) (xh.map a.eval) none).run P w=.ok (l,h,cap) w/\l<=h/\h<=n:=by
 have hh':bnd e rh n cap=some h:=by
  unfold bnd at hh ⊢;split at hh
  ·exact hh
  ·split at hh
   ·split at hh
    ·rename_i hc;rw[if_pos ⟨hc.1,by omega⟩];exact hh
    ·simp at hh
   ·simp at hh
 obtain⟨a1,a2,a3⟩:=EA (P:=P) (c:=if isS then .sliceAcap else .sliceAlen) hE hhi hh';obtain⟨b1,b2,b3⟩:=EA (P:=P) (c:=.sliceB) hE hlo hl;have hn:h<=n:=by
  obtain⟨_,c2,c3⟩:=EA (P:=P) (c:=.sliceB) hE hhi hh;cases xh with
  | none=>rw[c2 rfl];exact Nat.le_refl _
  | some q=>exact c3 rfl
 refine⟨?_,?_,hn⟩
 ·cases xh with
  | none=>
   have:=a2 rfl;subst this;cases xl with
   | none=>have:=b2 rfl;subst this;simp[Instr.sliceBounds]
   | some q=>simp[Instr.sliceBounds,b1 q rfl]
  | some p=>
   cases xl with
   | none=>have:=b2 rfl;subst this;simp[Instr.sliceBounds,a1 p rfl]
   | some q=>simp[Instr.sliceBounds,a1 p rfl,b1 q rfl]
 ·cases xl with
  | none=>rw[b2 rfl];exact Nat.zero_le _
  | some q=>exact b3 rfl
theorem Y9(h:Inv w0 sh nt μ fr e s a w){o:Oper}{t:TypeId}{x:Operand}{xl xh:Option Operand}{r:Ar}{rl rh:Option Ar}(ho:o.op=.slice t x xl xh none)(ht:P.underlying t=some .string)
 (hx:dU x r=true) (hlo:wG xl rl=true) (hhi:wG xh rh=true) {b:ByteArray} {l m:Nat} (hb:r.ev e=.v (.string b)) (hm:bnd e rh b.size b.size=some m) (hl:bnd e rl 0 m=some l) :
 g_ P w0 sh nt μ fr e s a w o (.v (.string (b.extract l m))):=by
 have h1:=aD h.env hx;rw[hb]at h1
 obtain⟨h2,_⟩:=oW (P:=P) (isS:=false) h.env hlo hhi hm hl (Nat.le_refl _);refine aO h (v:=.string (b.extract l m)) ?_ (.v rfl);simp only[execOp,ho,(iP h1).1,Instr.sliceAt,Instr.slice,Sem.run_bind,run_underlying ht,Result.andThen_ok,Option.map_none,Option.isSome_none,kG,if_false,h2];rfl
theorem Y7(h:Inv w0 sh nt μ fr e s a w){o:Oper}{t el:TypeId}{kw:Nat}{x:Operand}{xl xh:Option Operand}{r:Ar}{rl rh:Option Ar}(ho:o.op=.slice t x xl xh none)(ht:P.underlying t=some (.slice el))(hi:nC P el kw=true)
 (hx:dU x r=true) (hlo:wG xl rl=true) (hhi:wG xh rh=true) {f:Bool} {es:List X} {l m:Nat} (hb:r.ev e=.sl f es) (hm:bnd e rh es.length es.length=some m) (hl:bnd e rl 0 m=some l)
 (hsz:∀y∈es,y.cells.length=kw):g_ P w0 sh nt μ fr e s a w o (.sl f ((es.drop l).take (m-l))):=by
 have h1:=aD h.env hx;rw[hb]at h1
 have run:∀ad n c,a.eval x=.slice ad n c->n=es.length->n<=c->l<=m/\m<=es.length/\(execOp a.eval o).run P w=.ok (.value (.slice (if c=l then ad else ad.map (·.add (l*kw))) (m-l) (c-l))) w:=by intro ad n c hv hn hcap;subst hn;obtain⟨h2,h3,h4⟩:=oW (P:=P) (isS:=true) h.env hlo hhi hm hl hcap;refine⟨h3,h4,?_⟩;simp only[execOp,ho,hv,Instr.sliceAt,Instr.slice,Sem.run_bind,run_underlying ht,Result.andThen_ok,Option.map_none,h2];simp[dx hi]
 generalize hv:a.eval x=v at h1;cases h1 with
 | @sl0 f' ad cap=>
  obtain⟨h2,h3,h4⟩:=run _ _ _ hv rfl (Nat.zero_le _);have:m=0:=by simpa using h3
  subst this;refine aO h h4 ?_;simpa using aZ.sl0
 | @sl f es b off cap k n val hnl hcap hle hb' hw hcell hz hr=>
  obtain⟨h2,h3,h4⟩:=run _ _ _ hv hnl hcap;by_cases h0:m-l=0
  ·rw[h0]at h4 ⊢
   exact aO h h4 (by simpa using aZ.sl0)
  ·have hne:es≠[]:=by rintro rfl;simp at h3;omega
   have hki:k=kw:=by obtain⟨y,hy⟩:=List.exists_mem_of_ne_nil _ hne;rw[<-hw y hy,hsz y hy]
   have hc:cap≠l:=by omega
   rw[if_neg hc]at h4
   simp only[Option.map_some,nG]at h4;refine aO h h4 (aZ.sl (k:=k) (fun q j=>val (l+q) j) (by simp;omega) (by omega) (by simp;omega) hb' ?_ ?_ hz ?_)
   ·intro y hy;exact hw y (List.mem_of_mem_drop (List.mem_of_mem_take hy))
   ·intro q y j c hq hj;have hq':es[l+q]?=some y:=by
     rw[List.getElem?_take]at hq
     split at hq
     ·rwa [List.getElem?_drop]at hq
     ·simp at hq
    have:=hcell _ _ _ _ hq' hj;rw[Nat.add_mul,<-Nat.add_assoc,hki]at this
    rw[hki];exact this
   ·intro q y j c hq hj;have hq':es[l+q]?=some y:=by
     rw[List.getElem?_take]at hq
     split at hq
     ·rwa [List.getElem?_drop]at hq
     ·simp at hq
    exact hr _ _ _ _ hq' hj
end
variable {P:Program}
section
variable {w0:Bs} {sh:Nat->Prop} {nt:Nat} {μ:Nat->Nat} {fr:Nat->Prop} {e:Env} {s:ax} {a:Act} {w:World}
theorem Y8(h:Inv w0 sh nt μ fr e s a w){o:Oper}{t el:TypeId}{k:Nat}{x:Operand}{xl xh:Option Operand}{r:Ar}{rl rh:Option Ar}(ho:o.op=.slice t x xl xh none)(ht:P.underlying t=some (.slice el))(hi:nC P el k=true)
 (hx:dU x r=true) (hlo:wG xl rl=true) (hhi:wG xh rh=true) {o' g j n l m:Nat} (hb:r.ev e=.ref o' g k j n) (hg:(s o').g=g) (hm:bnd e rh n n=some m) (hl:bnd e rl 0 m=some l) :
 g_ P w0 sh nt μ fr e s a w o (if l=0 then .ref o' g k j m else if m-l=0 then .sl true []else .ref o' g k (j+l) (m-l)):=by
 have h1:=aD h.env hx;rw[hb]at h1
 generalize hv:a.eval x=v at h1;cases h1 with
 | ref hg1 hg' hv' _=>
  obtain⟨cap,rfl,hcap,cs,t',fz,hh,hsz⟩:=hv' hg;obtain⟨h2,h3,h4⟩:=oW (P:=P) (isS:=true) h.env hlo hhi hm hl hcap;have hrun:(execOp a.eval o).run P w=.ok (.value (.slice (if cap=l then some ⟨μ o',j*k,none⟩else some ⟨μ o',j*k+l*k,none⟩) (m-l) (cap-l))) w:=by simp only[execOp,ho,hv,Instr.sliceAt,Instr.slice,Sem.run_bind,run_underlying ht,Result.andThen_ok,Option.map_none,h2];simp[dx hi,nG,aU]
  by_cases hl0:l=0
  ·subst hl0;rw[if_pos rfl];have:(if cap=0 then some (⟨μ o',j*k,none⟩:Addr)else some ⟨μ o',j*k+0*k,none⟩)=some ⟨μ o',j*k,none⟩:=by split<;>simp
   rw[this]at hrun
   exact aO h hrun (.ref hg1 hg' (fun hst=>⟨cap,rfl,by omega,cs,t',fz,hh,hsz⟩) rfl)
  ·rw[if_neg hl0];by_cases hm0:m-l=0
   ·rw[if_pos hm0];rw[hm0]at hrun
    exact aO h hrun .sl0
   ·rw[if_neg hm0];rw[if_neg (by omega)]at hrun
    refine aO h hrun (.ref hg1 hg' (fun hst=>⟨cap-l,?_,by omega,cs,t',fz,hh,?_⟩) rfl)
    ·simp[aU,Nat.add_mul]
    ·rw[<-hsz];congr 1;omega
theorem JN(cs:Array Value)(off:Nat)(vs:Array Value):∀(l:List (Value×Nat)) (c:Array Value),(l.foldl (fun cs (x,j)=>cs.setIfInBounds (off+j) x) c).size=c.size:=by
 intro l;induction l with
 | nil=>intro c;rfl
 | cons x l ih=>intro c;rw[List.foldl_cons,ih];simp
theorem Mi(off:Nat):∀(vs:List Value) (k:Nat) (c:Array Value) (i:Nat),off+k+vs.length<=c.size->
 ((vs.zipIdx k).foldl (fun cs (x,j)=>cs.setIfInBounds (off+j) x) c)[i]?=if off+k<=i/\i<off+k+vs.length then vs[i-(off+k)]? else c[i]?:=by
 intro vs;induction vs with
 | nil=>intro k c i _;simp;omega
 | cons v vs ih=>
  intro k c i hle;simp only[List.length_cons]at hle;rw[List.zipIdx_cons,List.foldl_cons,ih (k+1) _ i (by simp;omega)];by_cases h1:i=off+k
  ·subst h1;rw[if_neg (by omega),if_pos (by simp)];simp only[Nat.sub_self,List.getElem?_cons_zero];rw[Array.getElem?_setIfInBounds_self_of_lt (by omega)]
  ·rw[Array.getElem?_setIfInBounds_ne (by omega)];by_cases h2:off+(k+1)<=i/\i<off+(k+1)+vs.length
   ·rw[if_pos h2,if_pos (by simp;omega)];rw[show i-(off+k)=(i-(off+(k+1)))+1 by omega];simp
   ·rw[if_neg h2,if_neg (by simp;omega)]
theorem nP{α:Type}(cs:List α)(j:Nat)(ys:List α)(i:Nat)(h:j+ys.length<=cs.length):(spl cs j ys)[i]?=if j<=i/\i<j+ys.length then ys[i-j]? else cs[i]?:=by
 unfold spl;by_cases h1:i<j
 ·rw[if_neg (by omega),List.append_assoc,List.getElem?_append_left (by simp;omega),List.getElem?_take,if_pos h1]
 ·by_cases h2:i<j+ys.length
  ·rw[if_pos ⟨by omega,h2⟩,List.getElem?_append_left (by simp;omega),List.getElem?_append_right (by simp;omega)];congr 1;simp;omega
  ·rw[if_neg (by omega),List.getElem?_append_right (by simp;omega),List.getElem?_drop];congr 1;simp;omega
theorem sJ{α:Type}(cs:List α)(j:Nat)(ys:List α)(h:j+ys.length<=cs.length):(spl cs j ys).length=cs.length:=by unfold spl;simp;omega
theorem Gm{C:Cx}{cs ys:List X}{vs:Array Value}{us:Array Value}{j:Nat}(hcs:aZ C (.agg cs) (.agg vs))(hu:us.size=ys.length)(ho:∀y∈ys,y.one=true)
 (hr:∀(i:Nat) c u,ys[i]?=some c->us[i]?=some u->aZ C c u) (hj:j+ys.length<=cs.length) :
 aZ C (.agg (spl cs j ys)) (.agg (us.zipIdx.foldl (fun c (x,i)=>c.setIfInBounds (j+i) x) vs)):=by
 cases hcs with
 | agg hl hone hrc=>
  have hfold:us.zipIdx.foldl (fun c (x,i)=>c.setIfInBounds (j+i) x) vs=(us.toList.zipIdx 0).foldl (fun c (x,i)=>c.setIfInBounds (j+i) x) vs:=by rw[<-Array.foldl_toList];simp
  rw[hfold];refine .agg ?_ ?_ ?_
  ·rw[sJ _ _ _ hj,JN vs j us,hl]
  ·intro c hc;unfold spl at hc;simp only[List.append_assoc,List.mem_append]at hc;rcases hc with hc|hc|hc
   ·exact hone c (List.mem_of_mem_take hc)
   ·exact ho c hc
   ·exact hone c (List.mem_of_mem_drop hc)
  ·intro i c v hc hv;rw[nP _ _ _ _ hj]at hc
   rw[Mi j us.toList 0 vs i (by simp;omega)]at hv
   simp only[Nat.add_zero,Array.length_toList,hu]at hv;split at hc
   ·rename_i hi;rw[if_pos hi]at hv
    exact hr _ c v hc (by simpa using hv)
   ·rename_i hi;rw[if_neg hi]at hv
    exact hrc i c v hc hv
theorem Iy{place:Nat->Option (Nat×Nat)}{parts:List (Nat×Operand)}{qs:List (Nat×Nat×Ar)}(hE:ve (aU μ s w sh fr) e a)
 (hq:qs.length=parts.length) (hp:∀(n:Nat) i x j k r,parts[n]?=some (i,x)->qs[n]?=some (j,k,r)->place i=some (j,k)/\dU x r=true) :
 ∀ {cs ds:List X} {vs:Array Value},aZ (aU μ s w sh fr) (.agg cs) (.agg vs)->fill e cs qs=some ds->
 ∃us,Instr.fill place vs (parts.map fun(i,x)=>(i,a.eval x))=some us/\aZ (aU μ s w sh fr) (.agg ds) (.agg us):=by
 induction qs generalizing parts with
 | nil=>
  intro cs ds vs hc hf;have:parts=[]:=List.eq_nil_of_length_eq_zero (by simpa using hq.symm);subst this;simp only[fill,aW]at hf;subst hf;exact⟨vs,rfl,hc⟩
 | cons q qs ih=>
  intro cs ds vs hc hf;obtain⟨j,k,r⟩:=q;cases parts with
  | nil=>simp at hq
  | cons p parts=>
   obtain⟨i,x⟩:=p;obtain⟨hpl,hx⟩:=hp 0 i x j k r rfl rfl;simp only[fill]at hf;split at hf
   case isFalse=>simp at hf
   rename_i hcond;obtain⟨hk,hjk,hone⟩:=hcond;have hrx:=aD hE hx;obtain⟨h1,h2,h3⟩:=jM hrx hone;have hsz:vs.size=cs.length:=by cases hc with|agg hl _ _=>exact hl.symm
   have hspl:=Gm hc h1 (by simpa[oH]using hone) h2 (show j+(r.ev e).cells.length<=cs.length by omega);obtain⟨us,hus,hr⟩:=ih (by simpa using hq) (fun n i' x' j' k' r' hn hm=>hp (n+1) i' x' j' k' r' (by simpa using hn) (by simpa using hm)) hspl hf;refine⟨us,?_,hr⟩;simp only[ku,Instr.fill,hpl];rw[if_neg (by simp;omega)];exact hus
theorem Qc{fs:Array Field}:∀ {parts:List (Nat×Operand)} {qs:List (Nat×Nat×Ar)},Qb P fs parts qs=true->
 qs.length=parts.length/\∀(n:Nat) i x j k r,parts[n]?=some (i,x)->qs[n]?=some (j,k,r)->(∃f,fs[i]?=some f/\f.offset=j/\nC P f.type k=true)/\dU x r=true:=by
 intro parts;induction parts with
 | nil=>intro qs h;cases qs with
  | nil=>exact⟨rfl,by simp⟩
  | cons=>simp[Qb]at h
 | cons p parts ih=>intro qs h;cases qs with
  | nil=>obtain⟨i,x⟩:=p;simp[Qb]at h
  | cons q qs=>
   obtain⟨i,x⟩:=p;obtain⟨j,k,r⟩:=q;simp only[Qb,bN]at h;obtain⟨⟨h1,h2⟩,h3⟩:=h;obtain⟨i1,i2⟩:=ih h3;refine⟨by simp[i1],?_⟩;intro n i' x' j' k' r' hn hm;cases n with
   | zero=>
    simp at hn hm;obtain⟨rfl,rfl⟩:=hn;obtain⟨rfl,rfl,rfl⟩:=hm;split at h1
    ·rename_i f hf;simp only[bN,beq_iff_eq]at h1;exact⟨⟨f,hf,h1.1,h1.2⟩,h2⟩
    ·simp at h1
   | succ n=>exact i2 n i' x' j' k' r' (by simpa using hn) (by simpa using hm)
theorem Qe{k:Nat}:∀ {parts:List (Nat×Operand)} {qs:List (Nat×Nat×Ar)},Qd k parts qs=true->
 qs.length=parts.length/\∀(n:Nat) i x j k' r,parts[n]?=some (i,x)->qs[n]?=some (j,k',r)->(i*k=j/\k'=k)/\dU x r=true:=by
 intro parts;induction parts with
 | nil=>intro qs h;cases qs with
  | nil=>exact⟨rfl,by simp⟩
  | cons=>simp[Qd]at h
 | cons p parts ih=>intro qs h;cases qs with
  | nil=>obtain⟨i,x⟩:=p;simp[Qd]at h
  | cons q qs=>
   obtain⟨i,x⟩:=p;obtain⟨j,k',r⟩:=q;simp only[Qd,bN,beq_iff_eq]at h;obtain⟨⟨h1,h2⟩,h3⟩:=h;obtain⟨i1,i2⟩:=ih h3;refine⟨by simp[i1],?_⟩;intro n i' x' j' k' r' hn hm;cases n with
   | zero=>
    simp at hn hm;obtain⟨rfl,rfl⟩:=hn;obtain⟨rfl,rfl,rfl⟩:=hm;exact⟨h1,h2⟩
   | succ n=>exact i2 n i' x' j' k' r' (by simpa using hn) (by simpa using hm)
theorem QV(h:Inv w0 sh nt μ fr e s a w){o:Oper}{t:TypeId}{ps:Array (Nat×Operand)}{z:List X}{qs:List (Nat×Nat×Ar)}(ho:o.op=.build t ps)(hok:dn P (.build t ps) (.build z qs)=true)
 {cs:List X} (hc:fill e z qs=some cs):g_ P w0 sh nt μ fr e s a w o (.agg cs):=by
 simp only[dn,bN]at hok;obtain⟨hz,hd⟩:=hok;obtain⟨it,zv,hit,hzv,hzz⟩:=CJ hz;have hzr:=pQ hzz (aU μ s w sh fr);obtain⟨vs,rfl⟩:∃vs,zv=.agg vs:=by
  cases hzr with
  | agg=>exact⟨_,rfl⟩
 have fin:∀us,P.built t (ps.toList.map fun(i,x)=>(i,a.eval x))=some us->aZ (aU μ s w sh fr) (.agg cs) (.agg us)->g_ P w0 sh nt μ fr e s a w o (.agg cs):=by
  intro us hb hr;refine aO h (v:=.agg us) ?_ hr;have hb':P.built t (ps.map fun(i,x)=>(i,a.eval x)).toList=some us:=by simpa using hb
  simp[execOp,ho,run_build w t _ us hb']
 split at hd
 ·rename_i fs hu;simp only[bN]at hd;obtain⟨hall,hfs⟩:=hd;obtain⟨i1,i2⟩:=Qc hfs;have hall':∀f∈fs.toList,∃i,P.info? f.type=some i:=by intro f hf;exact Option.isSome_iff_exists.1 (by simpa using (List.all_eq_true.1 hall) f hf)
  have hpl:fs.toList.mapM (fun f=>(P.info? f.type).map fun i=>(f.offset,i.size))=some (fs.toList.map fun f=>(f.offset,((P.info? f.type).map (·.size)).getD 0)):=by
   generalize fs.toList=l at hall';induction l with
   | nil=>rfl
   | cons f l ih=>
    obtain⟨i,hi⟩:=hall' f (by simp);simp only[List.mapM_cons,hi,ih (fun f hf=>hall' f (by simp[hf])),ku,Option.map_some,Option.getD_some];rfl
  obtain⟨us,hus,hr⟩:=Iy (e:=e) (place:=((fs.toList.map fun f=>(f.offset,((P.info? f.type).map (·.size)).getD 0)).toArray[·]?)) h.env i1 (by
   intro n i x j k r hn hm;obtain⟨⟨f,hf,hfo,hfs⟩,hx⟩:=i2 n i x j k r hn hm;refine⟨?_,hx⟩;have hf':fs.toList[i]?=some f:=by simpa using hf
   have hk:((P.info? f.type).map (·.size)).getD 0=k:=by
    unfold nC at hfs;split at hfs
    ·rename_i i hi;simp only[beq_iff_eq]at hfs;simp[hi,hfs]
    ·simp at hfs
   simp[hf',hfo,hk]) hzr hc
  refine fin us ?_ hr;unfold Program.built;simp only[hit,hu,hzv,hpl,Value.cells];exact hus
 ·rename_i n el hu;split at hd
  case h_2=>simp at hd
  rename_i ie hie;obtain⟨i1,i2⟩:=Qe hd;obtain⟨us,hus,hr⟩:=Iy (e:=e) (place:=fun i=>some (i*ie.size,ie.size)) h.env i1 (by intro n i x j k r hn hm;obtain⟨⟨h1,h2⟩,hx⟩:=i2 n i x j k r hn hm;exact⟨by simp[h1,h2],hx⟩) hzr hc
  refine fin us ?_ hr;unfold Program.built;simp only[hit,hu,hzv,hie,Value.cells];exact hus
 ·simp at hd
theorem Inv.wZ(h:Inv w0 sh nt μ fr e s a w)(o:Nat)(ob:Ob)(cs:Array Value)(t:TypeId)
 (hob:∀C',(aU μ s w sh fr).Le C'->C'.w=w.alloc (.cells cs t)->Gy C' ob w.heap.size)
 (hlp:LpN w0 o ob (w.alloc (.cells cs t)) w.heap.size:=by intro _ _ _ _ _ hl;cases hl) :
 Inv w0 sh nt (upd μ o w.heap.size) fr e (aN s o ob) a (w.alloc (.cells cs t)):=by
 refine(h.change o w.heap.size ((s o).g+1) ((s o).n+1) ob (w.alloc (.cells cs t)) (by omega) (by omega) ?_ ?_ (.inl (Nat.le_refl _)) (fun hle=>hob _ hle rfl) hlp).1
 ·exact(Below.refl _ _).alloc h.below.size _
 ·intro k hk _;exact heap_alloc_old w _ k hk
theorem Inv.Zr(h:Inv w0 sh nt μ fr e s a w)(o b:Nat)(ob:Ob)(hb0:w0.heap.size<=b)(hnfr:¬fr b)(hfree:∀o',(s o').o.isSome=true->μ o'≠b)
 (hob:∀C',(aU μ s w sh fr).Le C'->C'.w=w->(∀b,sh b->C'.sh b)->(∀b,fr b->C'.fr b)->Gy C' ob b)
 (hlp:LpN w0 o ob w b:=by intro _ _ _ _ _ hl;cases hl) :
 Inv w0 sh nt (upd μ o b) fr e (aN s o ob) a w/\(aU μ s w sh fr).Le (aU (upd μ o b) (aN s o ob) w sh fr):=by
 have hle:(aU μ s w sh fr).Le (aU (upd μ o b) (aN s o ob) w sh fr):=by
  refine⟨fun _ _ _ _ h=>h,fun _ _ _ h=>h,fun _ h=>.inl h,fun _ h=>h,?_,?_⟩
  ·intro o1;by_cases he:o1=o
   ·subst he;simp[aU,aN,upd_same]
   ·simp only[aU,aN];rw[upd_ne _ _ he];exact Nat.le_refl _
  ·intro o1 h1 hg1;by_cases he:o1=o
   ·subst he;simp[aU,aN,upd_same]at hg1
   ·simp only[aU];rw[upd_ne _ _ he];exact⟨rfl,fun cs t fz h=>⟨cs,t,fz,h,rfl⟩⟩
 have hmk:Mk w0 (upd μ o b) (aN s o ob) a w:=by
  constructor
  ·obtain⟨ds,e1,e2,e3⟩:=h.defers.ds;refine⟨ds,e1,e2,fun D hD=>?_⟩;obtain⟨d1,d2,d3⟩:=e3 D hD;refine⟨d1,d2,fun q hq=>?_⟩;by_cases he:q=o
   ·subst he;rw[upd_same];rintro rfl;exact(hob _ hle rfl (fun _ h=>h) (fun _ h=>h)).undef d2
   ·simp only[aN]at hq;rw[upd_ne _ _ he]at hq ⊢;exact d3 q hq
  ·intro q ob1 ho1;simp only[aN]at ho1;by_cases he:q=o
   ·subst he;simp only[upd_same,SO.nw,aW]at ho1 ⊢;subst ho1;exact hlp
   ·rw[upd_ne _ _ he]at ho1 ⊢
    exact h.defers.KG q ob1 ho1
 refine⟨⟨h.below,h.kD,h.iF,?_,?_,fun n=>(h.env n).mono hle,hmk,h.size,h.base.trans hle⟩,hle⟩
 ·intro o1 ob1 ho1;by_cases he:o1=o
  ·subst he;simp only[aN,upd_same,SO.nw,aW]at ho1 ⊢;subst ho1;exact⟨hob _ hle rfl (fun _ h=>h) (fun _ h=>h),hb0,fun _=>hnfr,fun hf=>by simp at hf⟩
  ·simp only[aN]at ho1 ⊢;rw[upd_ne _ _ he]at ho1
   rw[upd_ne _ _ he,upd_ne _ _ he];obtain⟨h1,h2,h3,h4⟩:=h.obj o1 ob1 ho1;exact⟨h1.mono hle rfl,h2,h3,h4⟩
 ·intro o1 o2 h1 h2 hm;simp only[aN]at h1 h2;by_cases e1:o1=o
  ·by_cases e2:o2=o
   ·rw[e1,e2]
   ·exfalso;subst e1;rw[upd_same,upd_ne _ _ e2]at hm
    rw[upd_ne _ _ e2]at h2
    exact hfree o2 h2 hm.symm
  ·by_cases e2:o2=o
   ·exfalso;subst e2;rw[upd_same,upd_ne _ _ e1]at hm
    rw[upd_ne _ _ e1]at h1
    exact hfree o1 h1 hm
   ·rw[upd_ne _ _ e1,upd_ne _ _ e2]at hm
    rw[upd_ne _ _ e1]at h1
    rw[upd_ne _ _ e2]at h2
    exact h.inj o1 o2 h1 h2 hm
theorem Inv.Rt(h:Inv w0 sh nt μ fr e s a w)(o:Obj) :
 Inv w0 sh nt μ (fun b=>fr b\/b=w.heap.size) e s a (w.alloc o)/\(aU μ s w sh fr).Le (aU μ s (w.alloc o) sh (fun b=>fr b\/b=w.heap.size)):=
 h.news (w.alloc o) ((Below.refl _ _).alloc (Nat.le_refl _) _) _ (fun _ h=>.inl h) (fun b hb=>hb.imp id (fun hb=>⟨by omega,by simp;omega⟩))
theorem eY(w:World)(cs:Array Value)(t:TypeId):(w.alloc (.cells cs t)).heap[w.heap.size]?=some (.cells cs t (0,0)):=heap_alloc_new w _
theorem V6{C:Cx}{x:X}{v:Value}(hx:aZ C x v)(ho:x.cells.all X.one=true){t:TypeId}{b:Nat}{w':World}(hh:w'.heap[b]?=some (.cells v.cells t (0,0))):∀C',C.Le C'->C'.w=w'->Gy C' (.box x) b:=by intro C' hle hw;obtain⟨h1,h2,h3⟩:=jM (hx.mono hle) ho;exact⟨v.cells,t,by rw[hw];exact hh,h1,by simpa[oH]using ho,h2⟩
theorem MN(t:TypeId)(v:Value):(Instr.box t v).run P w=.ok (.pointer (some ⟨w.heap.size,0,none⟩)) (w.alloc (.cells v.cells t)):=by simp[Instr.box,newVar,newRow]
theorem Dw{t:TypeId}{z:X}(hz:oQ P t z=true):∃v,Xb v z=true/\(Instr.alloc t true (.tuple #[])).run P w=.ok (.pointer (some ⟨w.heap.size,0,none⟩)) (w.alloc (.cells v.cells t)):=by obtain⟨v,hv,hz'⟩:=mP hz w;exact⟨v,hz',by simp[Instr.alloc,hv,newVar,newRow]⟩
theorem OP(h:Inv w0 sh nt μ fr e s a w){o:Oper}{n:Nat}{r:Ar}{t:TypeId}
 (hrun:∃v,aZ (aU μ s w sh fr) (r.ev e) v/\(execOp a.eval o).run P w=.ok (.value (.pointer (some ⟨w.heap.size,0,none⟩))) (w.alloc (.cells v.cells t)))
 (ho:(r.ev e).cells.all X.one=true):Out P w0 sh nt e a w o (.ptr n ((s n).g+1) 0) (aN s n (.box (r.ev e))):=by
 obtain⟨v,hv,hr⟩:=hrun;have hI:=h.wZ n (.box (r.ev e)) v.cells t (V6 hv ho (eY w _ _));refine⟨_,_,_,_,_,hr,.inl rfl,hI,?_⟩;exact .ptr (by omega) (by simp[aU,aN,upd_same]) (fun _=>by simp[aU,upd_same]) rfl
theorem JM(h:Inv w0 sh nt μ fr e s a w){o:Oper}{r:Ar}{t:TypeId}
 (hrun:∃v,aZ (aU μ s w sh fr) (r.ev e) v/\(execOp a.eval o).run P w=.ok (.value (.pointer (some ⟨w.heap.size,0,none⟩))) (w.alloc (.cells v.cells t)))
 (ho:(r.ev e).cells.all X.one=true):g_ P w0 sh nt μ fr e s a w o (.ip (r.ev e) 0):=by
 obtain⟨v,hv,hr⟩:=hrun;obtain⟨hI,hle⟩:=h.Rt (.cells v.cells t);obtain⟨h1,h2,h3⟩:=jM (hv.mono hle) ho;refine⟨_,_,_,_,hr,.inl rfl,hI,?_⟩;have:=aZ.ip (C:=aU μ s (w.alloc (.cells v.cells t)) sh (fun b=>fr b\/b=w.heap.size)) (x:=r.ev e) (j:=0) (b:=w.heap.size) (off:=0) (fun l=>v.cells.getD l undef) (.inl (.inr rfl)) (by
  intro l c hl;have hlt:l<v.cells.size:=by have:=(List.getElem?_eq_some_iff.1 hl).1;omega
  refine⟨?_,(List.all_eq_true.1 ho) c (kK hl)⟩;rw[Nat.zero_add];simp only[aU];rw[cell_of_row _ _ _ _ t (0,0) (eY w _ _)];simp[mq,kF hlt]) (by
  intro l c hl;have hlt:l<v.cells.size:=by have:=(List.getElem?_eq_some_iff.1 hl).1;omega
  refine h2 l c _ hl ?_;simp[mq,kF hlt])
 exact this
end
variable {P:Program}
def flat(es:List X):List X:=es.flatMap X.cells
theorem fI{k:Nat}:∀ {es:List X},(∀e∈es,e.cells.length=k)->(flat es).length=es.length*k:=by
 intro es;induction es with
 | nil=>intro _;simp[flat]
 | cons e es ih=>
  intro h;have:=ih (fun x hx=>h x (by simp[hx]));simp only[flat,List.flatMap_cons,List.length_append]at this ⊢;rw[h e (by simp),this,List.length_cons,Nat.add_mul];omega
theorem flat_get{k:Nat}:∀ {es:List X} {i j:Nat} {e:X},(∀e∈es,e.cells.length=k)->es[i]?=some e->j<k->(flat es)[i*k+j]?=e.cells[j]?:=by
 intro es;induction es with
 | nil=>intro i j e _ h;simp at h
 | cons x es ih=>
  intro i j e h hi hj;have hx:=h x (by simp);simp only[flat,List.flatMap_cons];cases i with
  | zero=>
   simp at hi;subst hi;rw[List.getElem?_append_left (by omega)];congr 1;omega
  | succ i=>
   rw[List.getElem?_append_right (by rw[hx,Nat.add_mul];omega),hx];rw[show(i+1)*k+j-k=i*k+j by rw[Nat.add_mul];omega];exact ih (fun y hy=>h y (by simp[hy])) (by simpa using hi) hj
theorem IA{k:Nat}{es:List X}{i:Nat}{x:X}(h:∀e∈es,e.cells.length=k)(hx:x.cells.length=k)(hi:i<es.length):flat (es.set i x)=spl (flat es) (i*k) x.cells:=by
 have hw:∀e∈es.set i x,e.cells.length=k:=by
  intro e he;rcases List.mem_or_eq_of_mem_set he with he|rfl
  ·exact h e he
  ·exact hx
 have hle:i*k+x.cells.length<=(flat es).length:=by rw[fI h,hx];have:=Nat.mul_le_mul_right k hi;rw[Nat.succ_mul]at this;omega
 apply List.ext_getElem?;intro n;rw[nP _ _ _ _ hle];by_cases hk:k=0
 ·subst hk;have h1:(flat (es.set i x)).length=0:=by rw[fI hw];simp
  have h2:(flat es).length=0:=by rw[fI h];simp
  rw[List.eq_nil_of_length_eq_zero h1,List.eq_nil_of_length_eq_zero h2];simp[hx]
 ·have hkp:0<k:=by omega
  by_cases hn:n<es.length*k
  ·have hq:n / k<es.length:=(Nat.div_lt_iff_lt_mul hkp).2 hn;have hn':n=(n / k)*k+n % k:=by rw[Nat.mul_comm];exact(Nat.div_add_mod n k).symm
   have hm:n % k<k:=Nat.mod_lt _ hkp;have hes:es[n / k]?=some es[n / k]:=List.getElem?_eq_getElem hq;have hl:=flat_get h hes hm;rw[<-hn']at hl
   by_cases hqi:n / k=i
   ·have hset:(es.set i x)[n / k]?=some x:=by rw[hqi,List.getElem?_set_self (by omega)]
    have hl':=flat_get hw hset hm;rw[<-hn']at hl'
    rw[hl',if_pos (by rw[hx];rw[hqi]at hn';omega)];congr 1;rw[hqi]at hn';omega
   ·have hset:(es.set i x)[n / k]?=some es[n / k]:=by rw[List.getElem?_set_ne (Ne.symm hqi)];exact hes
    have hl':=flat_get hw hset hm;rw[<-hn']at hl'
    rw[hl',hl,if_neg];rintro⟨h1,h2⟩;rw[hx]at h2
    have:n / k=i:=by
     apply Nat.div_eq_of_lt_le
     ·exact h1
     ·rw[Nat.add_mul];omega
    exact hqi this
  ·rw[List.getElem?_eq_none (by rw[fI hw];simp;omega),if_neg (by rw[hx];have:=Nat.mul_le_mul_right k hi;rw[Nat.succ_mul]at this;omega),List.getElem?_eq_none (by rw[fI h];omega)]
theorem R_{es:List X}(h:∀e∈es,e.cells.all X.one=true):∀c∈flat es,c.one=true:=by intro c hc;obtain⟨e,he,hce⟩:=List.mem_flatMap.1 hc;exact(List.all_eq_true.1 (h e he)) c hce
section
variable {w0:Bs} {sh:Nat->Prop} {nt:Nat} {μ:Nat->Nat} {fr:Nat->Prop} {e:Env} {s:ax} {a:Act} {w:World}
theorem D7:∀ {parts:List (Nat×Operand)} {qs:List (Nat×Ar)},zw parts qs=true->
 qs.length=parts.length/\∀(n:Nat) i x j r,parts[n]?=some (i,x)->qs[n]?=some (j,r)->i=j/\dU x r=true:=by
 intro parts;induction parts with
 | nil=>intro qs h;cases qs with
  | nil=>exact⟨rfl,by simp⟩
  | cons=>simp[zw]at h
 | cons p parts ih=>intro qs h;cases qs with
  | nil=>obtain⟨i,x⟩:=p;simp[zw]at h
  | cons q qs=>
   obtain⟨i,x⟩:=p;obtain⟨j,r⟩:=q;simp only[zw,bN,beq_iff_eq]at h;obtain⟨⟨h1,h2⟩,h3⟩:=h;obtain⟨i1,i2⟩:=ih h3;refine⟨by simp[i1],?_⟩;intro n i' x' j' r' hn hm;cases n with
   | zero=>
    simp at hn hm;obtain⟨rfl,rfl⟩:=hn;obtain⟨rfl,rfl⟩:=hm;exact⟨h1,h2⟩
   | succ n=>exact i2 n i' x' j' r' (by simpa using hn) (by simpa using hm)
theorem PE(h:Inv w0 sh nt μ fr e s a w){k:Nat}{l:List Nat}:∀ {qs:List (Nat×Ar)} {parts:List (Nat×Operand)} (hok:zw parts qs=true) {es es':List X} {nm:List Nat} {vs:Array Value},
 (∀y∈es,y.cells.length=k)->(∀y∈es,y.deep=true)->aZ (xH μ s w sh fr l) (.agg (flat es)) (.agg vs)->jH e s k es qs=some (es',nm)->(∀o∈nm,o∈l)->
 ∃us,Instr.fill (fun i=>some (i*k,k)) vs (parts.map fun(i,x)=>(i,a.eval x))=some us/\aZ (xH μ s w sh fr l) (.agg (flat es')) (.agg us)/\
  (∀y∈es',y.cells.length=k)/\(∀y∈es',y.deep=true)/\es'.length=es.length:=by
 intro qs;induction qs with
 | nil=>
  intro parts hok es es' nm vs hw hd hr hf hnm;obtain⟨h1,_⟩:=D7 hok;have:parts=[]:=List.eq_nil_of_length_eq_zero (by simpa using h1.symm);subst this;simp only[jH,aW,bK]at hf;obtain⟨rfl,rfl⟩:=hf;exact⟨vs,rfl,hr,hw,hd,rfl⟩
 | cons q qs ih=>
  intro parts hok es es' nm vs hw hd hr hf hnm;obtain⟨j,r⟩:=q;cases parts with
  | nil=>simp[zw]at hok
  | cons p parts=>
   obtain⟨i,x⟩:=p;simp only[zw,bN,beq_iff_eq]at hok;obtain⟨⟨rfl,hx⟩,hok⟩:=hok;simp only[jH]at hf;split at hf
   case h_2=>simp at hf
   rename_i y hy;split at hf
   case isFalse=>simp at hf
   rename_i hc;obtain⟨hk,hlt,hone⟩:=hc;split at hf
   case h_2=>simp at hf
   rename_i es2 nm2 hf2;simp only[aW,bK]at hf;obtain⟨rfl,rfl⟩:=hf;obtain⟨hry,hdy⟩:=h.nI (aD h.env hx) hy (l:=l) (fun o ho=>hnm o (by simp[ho]));obtain⟨h1,h2,h3⟩:=jM hry hone;have hle:i*k+y.cells.length<=(flat es).length:=by rw[fI hw,hk];have:=Nat.mul_le_mul_right k hlt;rw[Nat.succ_mul]at this;omega
   have hspl:=Gm hr h1 (by simpa[oH]using hone) h2 hle;rw[<-IA hw hk hlt]at hspl
   have hsz:vs.size=(flat es).length:=by cases hr with|agg hl _ _=>exact hl.symm
   obtain⟨us,i1,i2,i3,i4,i5⟩:=ih hok (es:=es.set i y) (by
    intro z hz;rcases List.mem_or_eq_of_mem_set hz with hz|rfl
    ·exact hw z hz
    ·exact hk) (by
    intro z hz;rcases List.mem_or_eq_of_mem_set hz with hz|rfl
    ·exact hd z hz
    ·exact hdy) hspl hf2 (fun o ho=>hnm o (by simp[ho]))
   refine⟨us,?_,i2,i3,i4,by rw[i5];simp⟩;simp only[ku,Instr.fill];rw[if_neg (by simp;omega)];exact i1
theorem CK{C:Cx}{z:X}{v:Value}{k:Nat}(hz:Xb v z=true)(hk:z.cells.length=k)(h0:0<k)(hone:z.cells.all X.one=true)(n m:Nat)(hnm:n<=m) :
 (∀y∈List.replicate n z,y.cells.length=k)/\((Array.range (m*k)).map (v.cells[· % v.cells.size]!)).size=m*k/\
 ∀(i:Nat) x (j:Nat) c u,(List.replicate n z)[i]?=some x->x.cells[j]?=some c->((Array.range (m*k)).map (v.cells[· % v.cells.size]!))[i*k+j]?=some u->aZ C c u:=by
 have hzr:=pQ hz C;obtain⟨h1,h2,h3⟩:=jM hzr hone;refine⟨?_,by simp,?_⟩
 ·intro y hy;rw[List.eq_of_mem_replicate hy];exact hk
 ·intro i x j c u hx hc hu;have hxz:x=z:=List.eq_of_mem_replicate (kK hx);subst hxz;have hj:j<k:=by have:=(List.getElem?_eq_some_iff.1 hc).1;omega
  have hi:i<n:=by have:=(List.getElem?_eq_some_iff.1 hx).1;simpa using this
  have hlt:i*k+j<m*k:=kJ (Nat.lt_of_lt_of_le hi hnm) hj (Nat.le_refl _);have hmod:(i*k+j) % v.cells.size=j:=by rw[h1,hk,Nat.mul_add_mod',Nat.mod_eq_of_lt hj]
  rw[Array.getElem?_map,Array.getElem?_range]at hu
  simp only[hlt,if_true,Option.map_some,aW]at hu;rw[hmod]at hu
  refine h2 j c u hc ?_;rw[<-hu];have:j<v.cells.size:=by omega
  simp[this]
end
variable {P:Program}
section
variable {w0:Bs} {sh:Nat->Prop} {nt:Nat} {μ:Nat->Nat} {fr:Nat->Prop} {e:Env} {s:ax} {a:Act} {w:World}
theorem wT{C:Cx}{k:Nat}{es:List X}{us:Array Value}(hw:∀y∈es,y.cells.length=k)(hd:∀y∈es,y.lit=true)(hk:0<k)(hl:es.length<=9223372036854775807)(hr:aZ C (.agg (flat es)) (.agg us))
 {b:Nat} {t:TypeId} (hh:C.w.heap[b]?=some (.cells us t (0,0))):Gy C (.row k es) b/\us.size=es.length*k:=by
 cases hr with
 | agg hlen hone hrc=>
  have hsz:us.size=es.length*k:=by rw[<-hlen,fI hw]
  refine⟨⟨us,t,hh,by omega,hl,hk,?_,?_⟩,hsz⟩
  ·intro y hy;exact⟨hw y hy,hd y hy,fun c hc=>hone c (List.mem_flatMap.2 ⟨y,hy,hc⟩)⟩
  ·intro i y j c v hi hj hv;have hjk:j<k:=by have:=(List.getElem?_eq_some_iff.1 hj).1;have:=hw y (kK hi);omega
   exact hrc _ c v (by rw[flat_get hw hi hjk];exact hj) hv
theorem yU{C:Cx}{k:Nat}{es:List X}{us:Array Value}(hw:∀y∈es,y.cells.length=k)(hd:∀y∈es,y.deep=true)(hk:0<k)(hl:es.length<=9223372036854775807)(hr:aZ C (.agg (flat es)) (.agg us))
 {b:Nat} {t:TypeId} (hh:C.w.heap[b]?=some (.cells us t (0,0))):Gy C (.row k es) b/\us.size=es.length*k:=wT hw (fun y hy=>qR (hd y hy)) hk hl hr hh
theorem Et{C:Cx}{z:X}{v:Value}{k:Nat}(hz:Xb v z=true)(hk:z.cells.length=k)(h0:0<k)(hone:z.cells.all X.one=true)(n:Nat) :
 aZ C (.agg (flat (List.replicate n z))) (.agg ((Array.range (n*k)).map (v.cells[· % v.cells.size]!))):=by
 obtain⟨h1,h2,h3⟩:=CK (C:=C) hz hk h0 hone n n (Nat.le_refl _);refine .agg (by rw[fI h1,h2];simp) (R_ (fun y hy=>by rw[List.eq_of_mem_replicate hy];exact hone)) ?_;intro q c u hc hu;have hq:q<n*k:=by have:=(List.getElem?_eq_some_iff.1 hc).1;rw[fI h1]at this;simpa using this
 have hi:q / k<n:=(Nat.div_lt_iff_lt_mul h0).2 hq;have hm:q % k<k:=Nat.mod_lt _ h0;have hqe:q=(q / k)*k+q % k:=by rw[Nat.mul_comm];exact(Nat.div_add_mod q k).symm
 have hes:(List.replicate n z)[q / k]?=some z:=by simp[hi]
 have:=flat_get h1 hes hm;rw[<-hqe,hc]at this
 exact h3 (q / k) z (q % k) c u hes this.symm (by rw[<-hqe];exact hu)
theorem Sc{s:ax}{o:Nat}{ob:Ob}{nm:List Nat}(h:¬o∈nm):aN (gX s nm) o ob=gX (aN s o ob) nm:=by
 funext q;unfold aN gX upd;by_cases hq:q=o
 ·subst hq;simp[h]
 ·simp[hq]
theorem LC:Array.range 0=#[]:=rfl
theorem qz{t el:TypeId}{k n:Nat}{z:X}(ht:P.underlying t=some (.slice el))(hs:nC P el k=true)(hz:oQ P el z=true)(h0:0<k)(hn:n*k<=16777216)
 {parts:Array (Nat×Value)} {us:Array Value} {v:Value} (hv:Xb v z=true) (hzv:(zeroValue el).run P w=.ok v w)
 (hf:Instr.fill (fun i=>some (i*k,k)) ((Array.range (n*k)).map (v.cells[· % v.cells.size]!)) parts.toList=some us) :
 (Instr.buildSlice t n parts).run P w=.ok (.slice (some ⟨w.heap.size,0,none⟩) n n) (w.alloc (.cells us el)):=by
 have hnk:¬(16777216<n*k):=by omega
 by_cases hnz:n*k=0
 ·have hn0:n=0:=by
   rcases Nat.mul_eq_zero.1 hnz with h|h
   ·exact h
   ·omega
  subst hn0;have hf':Instr.fill (fun i=>some (i*k,k)) #[] parts.toList=some us:=by simpa[LC]using hf
  simp[Instr.buildSlice,run_underlying ht,dx hs,hf',newRow,LC]
 ·simp[Instr.buildSlice,run_underlying ht,dx hs,hnk,hnz,hzv,hf,newRow]
theorem Ak(h:Inv w0 sh nt μ fr e s a w){o:Oper}{t:TypeId}{n k:Nat}{z:X}{ps:Array (Nat×Operand)}{qs:List (Nat×Ar)}(ho:o.op=.buildSlice t n ps)
 (hok:dn P (.buildSlice t n ps) (.jP k n z qs)=true) {es:List X} {nm:List Nat} (hf:jH e s k (List.replicate n z) qs=some (es,nm)) :
 ∃us el,(execOp a.eval o).run P w=.ok (.value (.slice (some ⟨w.heap.size,0,none⟩) n n)) (w.alloc (.cells us el))/\aZ (xH μ s w sh fr nm) (.agg (flat es)) (.agg us)/\
  (∀y∈es,y.cells.length=k)/\(∀y∈es,y.deep=true)/\es.length=n/\0<k/\n<=16777216:=by
 simp only[dn,bN,decide_eq_true_eq,beq_self_eq_true,and_true]at hok;obtain⟨⟨⟨⟨hd,hnk⟩,hps⟩,hzd⟩,hone⟩:=hok;split at hd
 case h_2=>simp at hd
 rename_i el ht;simp only[bN,decide_eq_true_eq]at hd;obtain⟨⟨⟨hs,hz⟩,h0⟩,hzk⟩:=hd;obtain⟨v,hv,hzv⟩:=mP hz w;have h1:=CK (C:=xH μ s w sh fr nm) hzv hzk h0 hone n n (Nat.le_refl _);obtain⟨us,i1,i2,i3,i4,i5⟩:=PE h (l:=nm) hps h1.1 (fun y hy=>by rw[List.eq_of_mem_replicate hy];exact hzd) (Et hzv hzk h0 hone n) hf (fun _ h=>h);refine⟨us,el,?_,i2,i3,i4,by simpa using i5,h0,?_⟩
 ·have:=qz (P:=P) (w:=w) ht hs hz h0 hnk (parts:=ps.map fun(i,x)=>(i,a.eval x)) hzv hv (by simpa using i1);simp[execOp,ho,this]
 ·have:n*1<=n*k:=Nat.mul_le_mul_left n h0;omega
theorem Vq(h:Inv w0 sh nt μ fr e s a w){o:Oper}{t:TypeId}{n k:Nat}{z:X}{ps:Array (Nat×Operand)}{qs:List (Nat×Ar)}(ho:o.op=.buildSlice t n ps)
 (hok:dn P (.buildSlice t n ps) (.jP k n z qs)=true) {es:List X} (hf:jH e s k (List.replicate n z) qs=some (es,[])):g_ P w0 sh nt μ fr e s a w o (.sl true es):=by
 obtain⟨us,el,hr,hrep,hw,hd,hl,h0,hn⟩:=Ak h ho hok hf;obtain⟨hI,hle⟩:=h.Rt (.cells us el);refine⟨_,_,_,_,hr,.inl rfl,hI,?_⟩;have hrep:=hrep.of_nil.mono hle;obtain⟨⟨cs,t',hh,hsz,hl',_,hww,hrr⟩,hus⟩:=yU (b:=w.heap.size) (t:=el) hw hd h0 (by omega) hrep (eY w us el);have hcs:cs=us:=by
  have:=eY w us el;simp only[aU]at hh;rw[this]at hh
  injection hh with hh;injection hh with hh;exact hh.symm
 subst hcs;refine aZ.sl (k:=k) (fun i j=>cs.getD (i*k+j) undef) hl.symm (Nat.le_refl _) (by omega) (.inl (.inr rfl)) hw ?_ ?_ ?_
 ·intro i y j c hi hj;have hjk:j<k:=by have:=(List.getElem?_eq_some_iff.1 hj).1;have:=hw y (kK hi);omega
  have hlt:i*k+j<cs.size:=kJ ((List.getElem?_eq_some_iff.1 hi).1) hjk hsz;refine⟨?_,(hww y (kK hi)).2.2 c (kK hj)⟩;simp only[aU,Nat.zero_add];rw[cell_of_row _ _ _ _ el (0,0) (eY w _ _)];simp[mq,kF hlt]
 ·intro _ j;simp only[aU];exact frozen_of_row _ _ _ _ el (eY w _ _)
 ·intro i y j c hi hj;have hjk:j<k:=by have:=(List.getElem?_eq_some_iff.1 hj).1;have:=hw y (kK hi);omega
  have hlt:i*k+j<cs.size:=kJ ((List.getElem?_eq_some_iff.1 hi).1) hjk hsz;exact hrr i y j c _ hi hj (by simp[mq,kF hlt])
theorem YL(h:Inv w0 sh nt μ fr e s a w){o:Oper}{t:TypeId}{q n k:Nat}{z:X}{ps:Array (Nat×Operand)}{qs:List (Nat×Ar)}(ho:o.op=.buildSlice t n ps)
 (hok:dn P (.buildSlice t n ps) (.jP k n z qs)=true) {es:List X} {nm:List Nat} (hf:jH e s k (List.replicate n z) qs=some (es,nm)) (hq:¬q∈nm) :
 Out P w0 sh nt e a w o (.ref q ((s q).g+1) k 0 n) (gX (aN s q (.row k es)) nm):=by
 obtain⟨us,el,hr,hrep,hw,hd,hl,h0,hn⟩:=Ak h ho hok hf;obtain⟨hI,hle⟩:=h.gX nm;have hI2:=hI.wZ q (.row k es) us el (by intro C' hle' hw';exact(yU hw hd h0 (by omega) (hrep.mono hle') (by rw[hw'];exact eY w us el)).1)
 rw[Sc hq]at hI2
 have hus:us.size=es.length*k:=by
  cases hrep with
  | agg hlen _ _=>rw[<-hlen,fI hw]
 refine⟨_,_,_,_,_,hr,.inl rfl,hI2,?_⟩;have hg:(gX (aN s q (.row k es)) nm q).g=(s q).g+1:=by unfold gX;split<;>simp[aN,upd_same]
 exact .ref (by omega) (by simp[aU,hg]) (fun _=>⟨n,by simp[aU,upd_same],Nat.le_refl _,us,el,(0,0),by simp only[aU,upd_same];exact eY w us el,by rw[hus,hl];simp⟩) rfl
theorem Inv.move(h:Inv w0 sh nt μ fr e s a w){o d:Nat}{ob:Ob}(ho:(s o).o=some ob)(hwr:(s o).wr=true)(hod:¬o=d)(hnl:∀e ps x y st,ob≠.lp e ps x y st) :
 Inv w0 sh nt (upd μ d (μ o)) fr e (Dh s o d ob) a w/\(aU μ s w sh fr).Le (aU (upd μ d (μ o)) (Dh s o d ob) w sh fr):=by
 have go:Dh s o d ob o=⟨(s o).g,(s o).wr,none,(s o).n+1⟩:=by unfold Dh;rw[upd_same]
 have gd:Dh s o d ob d=⟨(s d).g+1,true,some ob,(s d).n+1⟩:=by unfold Dh;rw[upd_ne _ _ (Ne.symm hod),upd_same]
 have gx:∀q,¬q=o->¬q=d->Dh s o d ob q=s q:=fun q h1 h2=>by unfold Dh;rw[upd_ne _ _ h1,upd_ne _ _ h2]
 have hle:(aU μ s w sh fr).Le (aU (upd μ d (μ o)) (Dh s o d ob) w sh fr):=by
  refine⟨fun _ _ _ _ h=>h,fun _ _ _ h=>h,fun _ h=>.inl h,fun _ h=>h,?_,?_⟩
  ·intro q;simp only[aU];by_cases h1:q=o
   ·subst h1;rw[go];exact Nat.le_refl _
   ·by_cases h2:q=d
    ·subst h2;rw[gd];exact Nat.le_succ _
    ·rw[gx q h1 h2];exact Nat.le_refl _
  ·intro q _ h2;simp only[aU]at h2 ⊢;by_cases hq:q=d
   ·subst hq;rw[gd]at h2;simp at h2
   ·rw[upd_ne _ _ hq];exact⟨rfl,fun cs t fz h=>⟨cs,t,fz,h,rfl⟩⟩
 have hmk:Mk w0 (upd μ d (μ o)) (Dh s o d ob) a w:=by
  constructor
  ·obtain⟨ds,e1,e2,e3⟩:=h.defers.ds;refine⟨ds,e1,e2,fun D hD=>?_⟩;obtain⟨d1,d2,d3⟩:=e3 D hD;refine⟨d1,d2,fun q hq=>?_⟩;by_cases h1:q=o
   ·subst h1;rw[go]at hq;simp at hq
   ·by_cases h2:q=d
    ·subst h2;rw[upd_same];exact d3 o (by simp[ho])
    ·rw[gx q h1 h2]at hq;rw[upd_ne _ _ h2];exact d3 q hq
  ·intro q ob1 ho1;by_cases h1:q=o
   ·subst h1;rw[go]at ho1;simp at ho1
   ·by_cases h2:q=d
    ·subst h2;rw[gd]at ho1
     injection ho1 with ho1;subst ho1;intro e ps x y st hl;exact absurd hl (hnl e ps x y st)
    ·rw[gx q h1 h2]at ho1;rw[upd_ne _ _ h2];exact h.defers.KG q ob1 ho1
 refine⟨⟨h.below,h.kD,h.iF,?_,?_,fun n=>(h.env n).mono hle,hmk,h.size,h.base.trans hle⟩,hle⟩
 ·intro q ob' hq;by_cases h1:q=o
  ·subst h1;rw[go]at hq;simp at hq
  ·by_cases h2:q=d
   ·subst h2;rw[gd]at hq ⊢
    injection hq with hq;subst hq;rw[upd_same];obtain⟨k1,k2,k3,k4⟩:=h.obj o _ ho;exact⟨k1.mono hle rfl,k2,fun _=>k3 hwr,fun hf=>by simp at hf⟩
   ·rw[gx q h1 h2]at hq ⊢
    rw[upd_ne _ _ h2];obtain⟨k1,k2,k3,k4⟩:=h.obj q _ hq;exact⟨k1.mono hle rfl,k2,k3,k4⟩
 ·intro q1 q2 h1 h2 hm;have n1:¬q1=o:=fun hq=>by subst hq;rw[go]at h1;simp at h1
  have n2:¬q2=o:=fun hq=>by subst hq;rw[go]at h2;simp at h2
  by_cases e1:q1=d
  ·by_cases e2:q2=d
   ·rw[e1,e2]
   ·subst e1;rw[upd_same,upd_ne _ _ e2]at hm
    rw[gx q2 n2 e2]at h2
    exact absurd (h.inj o q2 (by simp[ho]) h2 hm).symm n2
  ·by_cases e2:q2=d
   ·subst e2;rw[upd_same,upd_ne _ _ e1]at hm
    rw[gx q1 n1 e1]at h1
    exact absurd (h.inj q1 o h1 (by simp[ho]) hm) n1
   ·rw[upd_ne _ _ e1,upd_ne _ _ e2]at hm
    rw[gx q1 n1 e1]at h1
    rw[gx q2 n2 e2]at h2
    exact h.inj q1 q2 h1 h2 hm
theorem Inv.lQ(h:Inv w0 sh nt μ fr e s a w){d:Nat}:∀ {cs cs':List X} {s':ax},Go.Proofs.YtbmkfjmlepjpfaaGreatDoor.lQ s d cs=some (cs',s')->
 ∃μ',Inv w0 sh nt μ' fr e s' a w/\(aU μ s w sh fr).Le (aU μ' s' w sh fr)/\cs'.length=cs.length/\((∀c∈cs,c.one=true)->∀c∈cs',c.one=true)/\(∀c∈cs',c.deep=true\/c.Na=true)/\
  ∀vs:Nat->Value,(∀j c,cs[j]?=some c->aZ (aU μ s w sh fr) c (vs j))->∀j c,cs'[j]?=some c->aZ (aU μ' s' w sh fr) c (vs j):=by
 intro cs;induction cs with
 | nil=>
  intro cs' s' hr;simp only[Go.Proofs.YtbmkfjmlepjpfaaGreatDoor.lQ,aW,bK]at hr;obtain⟨rfl,rfl⟩:=hr;exact⟨μ,h,Cx.Le.refl _,rfl,fun h=>h,by simp,fun vs h=>h⟩
 | cons c cs ih=>
  intro cs' s' hr;have other:∀(hd:c.deep=true) {l':List X},Go.Proofs.YtbmkfjmlepjpfaaGreatDoor.lQ s d cs=some (l',s')->cs'=c::l'->∃μ',Inv w0 sh nt μ' fr e s' a w/\(aU μ s w sh fr).Le (aU μ' s' w sh fr)/\cs'.length=(c::cs).length/\((∀x∈c::cs,x.one=true)->∀x∈cs',x.one=true)/\(∀x∈cs',x.deep=true\/x.Na=true)/\
   ∀vs:Nat->Value,(∀j x,(c::cs)[j]?=some x->aZ (aU μ s w sh fr) x (vs j))->∀j x,cs'[j]?=some x->aZ (aU μ' s' w sh fr) x (vs j):=by
   intro hd l' hl hc;subst hc;obtain⟨μ',i1,i2,i3,i4,i5,i6⟩:=ih hl;refine⟨μ',i1,i2,by simp[i3],?_,?_,?_⟩
   ·intro ho x hx;rcases List.mem_cons.1 hx with rfl|hx
    ·exact ho _ (by simp)
    ·exact i4 (fun y hy=>ho y (by simp[hy])) x hx
   ·intro x hx;rcases List.mem_cons.1 hx with rfl|hx
    ·exact .inl hd
    ·exact i5 x hx
   ·intro vs hv j x hx;cases j with
    | zero=>simp at hx;subst hx;exact(hv 0 _ rfl).mono i2
    | succ j=>exact i6 (fun j=>vs (j+1)) (fun j x hx=>hv (j+1) x (by simpa using hx)) j x (by simpa using hx)
  cases c
  case ref o g k i n=>
   simp only[Go.Proofs.YtbmkfjmlepjpfaaGreatDoor.lQ]at hr;split at hr
   case h_2=>simp at hr
   rename_i k2 es2 ho;split at hr
   case isFalse=>simp at hr
   rename_i hc;obtain⟨hg,hwr,hod,hdl⟩:=hc;simp only[aW,bK]at hr;obtain⟨rfl,rfl⟩:=hr;obtain⟨hI,hle⟩:=h.move ho hwr hod (fun _ _ _ _ _ hl=>by cases hl);refine⟨_,hI,hle,rfl,?_,?_,?_⟩
   ·intro hone x hx;rcases List.mem_cons.1 hx with rfl|hx
    ·rfl
    ·exact hone x (by simp[hx])
   ·intro x hx;rcases List.mem_cons.1 hx with rfl|hx
    ·exact .inr rfl
    ·exact .inl (bf.1 hdl x hx)
   ·intro vs hv j x hx;cases j with
    | zero=>
     simp at hx;subst hx;have gd:Dh s o d (.row k2 es2) d=⟨(s d).g+1,true,some (.row k2 es2),(s d).n+1⟩:=by unfold Dh;rw[upd_ne _ _ (Ne.symm hod),upd_same]
     have h0:=hv 0 _ rfl;cases h0 with
     | ref _ _ hvv h1c=>
      refine .ref (by omega) (by simp[aU,gd]) (fun _=>?_) h1c;obtain⟨cap,e1,e2,cs2,t2,fz2,e3,e4⟩:=hvv hg.symm;exact⟨cap,by rw[e1];simp[aU,upd_same],e2,cs2,t2,fz2,by simpa[aU,upd_same]using e3,e4⟩
    | succ j=>exact(hv (j+1) x (by simpa using hx)).mono hle
  case nil=>
   simp only[Go.Proofs.YtbmkfjmlepjpfaaGreatDoor.lQ]at hr;split at hr
   case isFalse=>simp at hr
   rename_i hdl;simp only[aW,bK]at hr;obtain⟨rfl,rfl⟩:=hr;refine⟨μ,h,Cx.Le.refl _,rfl,fun h=>h,?_,fun vs h=>h⟩;intro x hx;rcases List.mem_cons.1 hx with rfl|hx
   ·exact .inr rfl
   ·exact .inl (bf.1 hdl x hx)
  all_goals
   simp only[Go.Proofs.YtbmkfjmlepjpfaaGreatDoor.lQ]at hr;split at hr
   case isFalse=>simp at hr
   rename_i hcd;split at hr
   case h_2=>simp at hr
   rename_i l' s2 hl;simp only[aW,bK]at hr;obtain⟨h1,h2⟩:=hr;subst h2;exact other hcd hl h1.symm
theorem YM(h:Inv w0 sh nt μ fr e s a w){o:Oper}{t:TypeId}{q n k d d':Nat}{z:X}{ps:Array (Nat×Operand)}{ix r:Ar}(ho:o.op=.buildSlice t n ps)
 (hok:dn P (.buildSlice t n ps) (.Zt q k z d ix r)=true) {cs cs':List X} {s':ax} (hcs:r.ev e=.agg cs) (hlen:cs.length=k) (hr:Go.Proofs.YtbmkfjmlepjpfaaGreatDoor.lQ s d' cs=some (cs',s')) :
 Out P w0 sh nt e a w o (.ref q ((s' q).g+1) k 0 1) (aN s' q (.row k [.agg cs'])):=by
 simp only[dn,bN,decide_eq_true_eq,beq_iff_eq]at hok;obtain⟨⟨⟨⟨⟨hd,rfl⟩,hnk⟩,hps⟩,hzd⟩,hone⟩:=hok;split at hd
 case h_2=>simp at hd
 rename_i el ht;simp only[bN,decide_eq_true_eq]at hd;obtain⟨⟨⟨hs,hz⟩,h0⟩,hzk⟩:=hd;obtain⟨v,hv,hzv⟩:=mP hz w;obtain⟨hl1,_⟩:=D7 hps;obtain⟨p,hp⟩:∃p,ps.toList=[p]:=List.length_eq_one_iff.1 (by simpa using hl1.symm);obtain⟨i,x⟩:=p;rw[hp]at hps
 simp only[zw,bN,beq_iff_eq,and_true]at hps;obtain⟨rfl,hx⟩:=hps;have hrx:=aD h.env hx;rw[hcs]at hrx
 obtain⟨μ',hI,hle,j1,j2,j3,j4⟩:=h.lQ hr;generalize hvx:a.eval x=vx at hrx;cases hrx with
 | agg hsz hon hre=>
  rename_i vs;have hry:aZ (aU μ' s' w sh fr) (.agg cs') (.agg vs):=by
   refine .agg (by omega) (j2 hon) ?_;intro j c u hc hu;have:=j4 (fun j=>vs.getD j undef) (fun j c hc=>hre j c _ hc (by have:=(List.getElem?_eq_some_iff.1 hc).1;simp[mq,kF (show j<vs.size by omega)])) j c hc
   simpa[mq,hu]using this
  have hone':(X.agg cs').cells.all X.one=true:=by simpa[oH,X.cells]using j2 hon
  obtain⟨h1,h2,h3⟩:=jM hry hone';have hzr:=Et (C:=aU μ' s' w sh fr) hzv hzk h0 hone 1;have hw1:∀y∈List.replicate 1 z,y.cells.length=k:=fun y hy=>by rw[List.eq_of_mem_replicate hy];exact hzk
  have hk':(X.agg cs').cells.length=k:=by show cs'.length=k;omega
  have hle1:0*k+(X.agg cs').cells.length<=(flat (List.replicate 1 z)).length:=by rw[fI hw1,hk'];simp
  have hspl:=Gm hzr h1 (by simpa[oH]using hone') h2 hle1;rw[<-IA hw1 hk' (by simp)]at hspl
  have e1:(List.replicate 1 z).set 0 (X.agg cs')=[X.agg cs']:=rfl;rw[e1]at hspl
  obtain⟨us0,hfill,hrep⟩:∃us0,Instr.fill (fun i=>some (i*k,k)) ((Array.range (1*k)).map (v.cells[· % v.cells.size]!)) [(0,Value.agg vs)]=some us0/\aZ (aU μ' s' w sh fr) (.agg (flat [X.agg cs'])) (.agg us0):=by
   refine⟨_,?_,hspl⟩;have hvk:(Value.agg vs).cells.size=k:=by rw[h1];exact hk'
   simp only[Instr.fill];rw[if_neg (by simp;omega)]
  have hrun:=qz (P:=P) (w:=w) (us:=us0) ht hs hz h0 hnk (parts:=ps.map fun(i,x)=>(i,a.eval x)) hzv hv (by
   have hm:(ps.map fun(i,x)=>(i,a.eval x)).toList=[(0,Value.agg vs)]:=by rw[Array.toList_map,hp];simp[hvx]
   rw[hm];exact hfill)
  have hwy:∀y∈[X.agg cs'],y.cells.length=k:=fun y hy=>by simp at hy;subst hy;exact hk'
  have hly:∀y∈[X.agg cs'],y.lit=true:=fun y hy=>by simp at hy;subst hy;exact zO.2 j3
  have hI2:=hI.wZ q (.row k [.agg cs']) us0 el (by intro C' hle' hw';exact(wT hwy hly h0 (by simp) (hrep.mono hle') (by rw[hw'];exact eY w us0 el)).1)
  have hus:us0.size=k:=by
   cases hrep with
   | agg hlen _ _=>rw[<-hlen,fI hwy];simp
  have hex:(execOp a.eval o).run P w=.ok (.value (.slice (some ⟨w.heap.size,0,none⟩) 1 1)) (w.alloc (.cells us0 el)):=by simp[execOp,ho,hrun]
  refine⟨_,_,_,_,_,hex,.inl rfl,hI2,?_⟩;have hg:(aN s' q (.row k [.agg cs']) q).g=(s' q).g+1:=by simp[aN,upd_same]
  exact .ref (by omega) (by simp[aU,hg]) (fun _=>⟨1,by simp[aU,upd_same],Nat.le_refl _,us0,el,(0,0),by simp only[aU,upd_same];exact eY w us0 el,by rw[hus];simp⟩) rfl
theorem Y1(h:Inv w0 sh nt μ fr e s a w){o:Oper}{t:TypeId}{q k lim:Nat}{z:X}{x y:Operand}{r1 r2:Ar}(ho:o.op=.makeSlice t x y)
 (hok:dn P (.makeSlice t x y) (.P6 q k z r1 r2 lim)=true) {l c:Int} (hl:w9 (r1.ev e)=some l) (hc:w9 (r2.ev e)=some c) (h0:0<=l) (hlc:l<=c) (hlim:c<=(lim:Int)) (hd:z.deep=true) (hone:z.cells.all X.one=true) :
 Out P w0 sh nt e a w o (.ref q ((s q).g+1) k 0 l.toNat) (aN s q (.row k (List.replicate l.toNat z))):=by
 simp only[dn,bN]at hok;obtain⟨⟨hdd,hx⟩,hy⟩:=hok;split at hdd
 case h_2=>simp at hdd
 rename_i el ht;simp only[bN,decide_eq_true_eq]at hdd;obtain⟨⟨⟨⟨hs,hz⟩,hb⟩,hk⟩,hzk⟩:=hdd;obtain⟨k1,hk1⟩:=kV (aD h.env hx) hl;obtain⟨k2,hk2⟩:=kV (aD h.env hy) hc;obtain⟨v,hv,hzv⟩:=mP hz w;obtain⟨c,rfl⟩:=Int.eq_ofNat_of_zero_le (show 0<=c by omega);obtain⟨l,rfl⟩:=Int.eq_ofNat_of_zero_le h0;unfold byB at hb;split at hb
 case h_2=>simp at hb
 rename_i i hi;simp only[bN,decide_eq_true_eq]at hb;obtain⟨hb1,hb2⟩:=hb;have hcb:i.bytes*c<=140737488355328:=by rw[Nat.mul_comm];exact iq (Nat.mul_le_mul_right _ (by omega)) hb2
 have hcs:c<=140737488355328:=by have:1*c<=i.bytes*c:=Nat.mul_le_mul_right c hb1;omega
 have hwr:∀m:Nat,m<=140737488355328->IntKind.i64.wrap (m:Int)=m:=by
  intro m hm;have h1:(m:Int) % 18446744073709551616=m:=by omega
  have h2:¬(9223372036854775808<=(m:Int)):=by omega
  simp[IntKind.wrap,IntKind.bits,IntKind.signed,h1,h2]
 have hbi:¬((281474976710656:Int)<(i.bytes:Int)*(c:Int)):=by
  have:((i.bytes*c:Nat):Int)<=140737488355328:=by omega
  rw[Int.natCast_mul]at this
  omega
 have hbl:¬((281474976710656:Int)<(i.bytes:Int)*(l:Int)):=by
  have h2:i.bytes*l<=i.bytes*c:=Nat.mul_le_mul_left _ (by omega);have:((i.bytes*l:Nat):Int)<=140737488355328:=by omega
  rw[Int.natCast_mul]at this
  omega
 have hrow:=CK (C:=aU μ s w sh fr) hzv hzk hk hone l c (by omega);have hrun:(execOp a.eval o).run P w=.ok (.value (.slice (some ⟨w.heap.size,0,none⟩) l c)) (w.alloc (.cells ((Array.range (c*k)).map (v.cells[· % v.cells.size]!)) el)):=by
  have hlt1:¬((l:Int)<0):=by omega
  have hlt2:¬((c:Int)<0):=by omega
  have hlt3:¬((c:Int)<(l:Int)):=by omega
  have hlt4:¬(c<l):=by omega
  by_cases hc0:c*k=0
  ·have hcz:c=0:=by
    rcases Nat.mul_eq_zero.1 hc0 with h|h
    ·exact h
    ·omega
   subst hcz;have:l=0:=by omega
   subst this;have hw0:IntKind.i64.wrap 0=0:=by simpa using hwr 0 (by omega)
   simp[execOp,ho,hk1,hk2,Instr.makeSlice,run_underlying ht,asInt,asIntOf,typeInfo,hi,hw0,dx hs,newRow,LC]
  ·simp[execOp,ho,hk1,hk2,Instr.makeSlice,run_underlying ht,asInt,asIntOf,typeInfo,hi,hwr l (by omega),hwr c hcs,hbi,hlt1,hlt2,hlt3,hlt4,dx hs,hc0,hv,newRow]
 have hI:=h.wZ q (.row k (List.replicate l z)) ((Array.range (c*k)).map (v.cells[· % v.cells.size]!)) el (by
  intro C' hle hw';refine⟨_,el,by rw[hw'];exact eY w _ _,by simp;exact Nat.mul_le_mul_right k (by omega),by simp;omega,hk,?_,?_⟩
  ·intro y hy;rw[List.eq_of_mem_replicate hy];exact⟨hzk,qR hd,by simpa[oH]using hone⟩
  ·exact fun i x j c u hx hc hu=>(hrow.2.2 i x j c u hx hc hu).mono hle)
 simp only[Int.toNat_natCast];refine⟨_,_,_,_,_,hrun,.inl rfl,hI,?_⟩;exact .ref (by omega) (by simp[aU,aN,upd_same]) (fun _=>⟨c,by simp[aU,upd_same],by omega,_,el,(0,0),by simp only[aU,upd_same];exact eY w _ _,by simp⟩) rfl
end
variable {P:Program}
theorem pX{z:X}{j:Nat}{ys:List X}(ho:∀y∈ys,y.one=true)(hj:j+ys.length<=z.cells.length):(rJ z j ys).cells=spl z.cells j ys:=by
 cases z
 case agg cs=>rfl
 all_goals
  simp only[X.cells,List.length_cons,List.length_nil]at hj
  match ys,ho,hj with
  | [],_,hj=>
   have:j=0\/j=1:=by simp at hj;omega
   rcases this with rfl|rfl<;>rfl
  | [y],ho,hj=>
   have:j=0:=by simp at hj;omega
   subst this;have h1:=ho y (by simp);cases y<;>first|rfl|(simp[X.one]at h1;done)
  | _::_::_,_,hj=>exact absurd hj (by simp;omega)
theorem Za{cs ys:List X}{j:Nat}{p:X->Prop}(h1:∀c∈cs,p c)(h2:∀c∈ys,p c):∀c∈spl cs j ys,p c:=by
 intro c hc;unfold spl at hc;simp only[List.append_assoc,List.mem_append]at hc;rcases hc with hc|hc|hc
 ·exact h1 c (List.mem_of_mem_take hc)
 ·exact h2 c hc
 ·exact h1 c (List.mem_of_mem_drop hc)
theorem mW{x:X}(h:x.deep=true):∀c∈x.cells,c.deep=true:=by
 intro c hc;cases x
 case agg cs=>exact bf.1 (by simpa[X.deep]using h) c (by simpa[X.cells]using hc)
 all_goals (simp only[X.cells,List.mem_singleton]at hc;subst hc;exact h)
section
variable {w0:Bs} {sh:Nat->Prop} {nt:Nat} {μ:Nat->Nat} {fr:Nat->Prop} {e:Env} {s:ax} {a:Act} {w:World}
theorem Inv.setRow(h:Inv w0 sh nt μ fr e s a w){o:Nat}{ob ob':Ob}(ho:(s o).o=some ob)(hwr:(s o).wr=true){cs cs':Array Value}{t:TypeId}(hh:w.heap[μ o]?=some (.cells cs t (0,0)))(hsz:cs'.size=cs.size)(g' n':Nat)(hg:(s o).g<=g')
 (hob:∀C',(aU μ s w sh fr).Le C'->C'.w=w.setRow (μ o) cs'->Gy C' ob' (μ o))
 (hlp:LpN w0 o ob' (w.setRow (μ o) cs') (μ o):=by intro _ _ _ _ _ hl;cases hl) :
 Inv w0 sh nt (upd μ o (μ o)) fr e (upd s o ⟨g',true,some ob',n'⟩) a (w.setRow (μ o) cs')/\(aU μ s w sh fr).Le (aU (upd μ o (μ o)) (upd s o ⟨g',true,some ob',n'⟩) (w.setRow (μ o) cs') sh fr):=by
 have hge:=(h.obj o ob ho).2.1;refine h.change o (μ o) g' n' ob' (w.setRow (μ o) cs') hg (fun _=>rfl) ⟨rfl,rfl,rfl,by simp,fun k hk=>setRow_other w _ _ _ (by omega)⟩ (fun k _ hk=>setRow_other w _ _ _ hk) (.inr ⟨rfl,by simp[ho],hwr,?_⟩) (fun hle=>hob _ hle rfl) hlp;intro cs2 t2 fz2 h2;rw[hh]at h2
 injection h2 with h2;injection h2 with h2 _ _;subst h2;exact⟨cs',t,(0,0),setRow_heap w _ _ _ t _ hh,hsz.symm⟩
theorem JX(μ:Nat->Nat)(o:Nat):upd μ o (μ o)=μ:=by funext n;unfold upd;split<;>simp_all
theorem Sd{s:ax}{o:Nat}{ob:Ob}{nm:List Nat}(h:¬o∈nm):bF (gX s nm) o ob=gX (bF s o ob) nm:=by
 funext q;unfold bF gX upd;by_cases hq:q=o
 ·subst hq;simp[h]
 ·simp[hq]
theorem Eo{t:TypeId}{k:Nat}(hs:nC P t k=true){v:Value}(hv:v.cells.size=k)(h1:∀u∈v.cells,u.oneCell'=true){b off:Nat}{cs:Array Value}{ty:TypeId}(hh:w.heap[b]?=some (.cells cs ty (0,0)))(hle:off+k<=cs.size) :
 (Instr.storeAt t (.pointer (some ⟨b,off,none⟩)) v).run P w=.ok () (w.setRow b (spl cs.toList off v.cells.toList).toArray):=by
 have hst:=run_storeCells_at P b off ty v.cells.toList 0 cs w hh (by simp;omega) (by simpa using h1);simp only[Instr.storeAt,storeVar,Instr.sureAddr,Sem.run_bind,Sem.run_pure,Result.andThen_ok,dx hs,hv,ne_eq,not_true_eq_false,if_false];simpa[spl]using hst
theorem snd_st(h:Inv w0 sh nt μ fr e s a w){o:Oper}{t:TypeId}{x y:Operand}{k:Nat}{r1 r2:Ar}(ho:o.op=.store t x y)(hs:nC P t k=true)(hx:dU x r1=true)(hy:dU y r2=true)
 {s':ax} (hst:stX s (r1.ev e) (r2.ev e) k=some s'):Out P w0 sh nt e a w o .junk s':=by
 have hr1:=aD h.env hx;have hr2:=aD h.env hy;unfold stX at hst;split at hst
 ·rename_i q g j hq;split at hst
  case h_2=>simp at hst
  rename_i z hz;split at hst
  case isFalse=>simp at hst
  rename_i hc;obtain⟨hg,hwr,hk,hj,hone⟩:=hc;injection hst with hst;subst hst;rw[hq]at hr1
  generalize hv1:a.eval x=v1 at hr1;cases hr1 with
  | ptr hg1 hg' hv _=>
   have hv:=hv hg.symm;obtain⟨⟨cs,ty,hh,hsz,hzo,hzr⟩,_⟩:=h.obj q _ hz;obtain⟨h1,h2,h3⟩:=jM hr2 hone;have hrun:=Eo (P:=P) (w:=w) hs (v:=a.eval y) (by omega) h3 (b:=μ q) (off:=j) hh (by omega);have hlen:(spl cs.toList j (a.eval y).cells.toList).length=cs.size:=by rw[sJ _ _ _ (by simp;omega)];simp
   have hone':∀c∈(r2.ev e).cells,c.one=true:=by simpa[oH]using hone
   obtain⟨hI,hle⟩:=h.setRow hz hwr (ob':=.box (rJ z j (r2.ev e).cells)) hh (cs':=(spl cs.toList j (a.eval y).cells.toList).toArray) (by simpa using hlen) (s q).g ((s q).n+1) (Nat.le_refl _) (by
    intro C' hle hw';refine⟨_,ty,by rw[hw'];exact setRow_heap w _ _ _ ty _ hh,?_,?_,?_⟩
    ·rw[pX hone' (by omega),sJ _ _ _ (by omega)];simp only[List.size_toArray,hlen];exact hsz
    ·rw[pX hone' (by omega)];intro c hc;unfold spl at hc;simp only[List.append_assoc,List.mem_append]at hc;rcases hc with hc|hc|hc
     ·exact hzo c (List.mem_of_mem_take hc)
     ·exact hone' c hc
     ·exact hzo c (List.mem_of_mem_drop hc)
    ·rw[pX hone' (by omega)];intro i c u hc hu;rw[nP _ _ _ _ (by omega)]at hc
     simp only[List.getElem?_toArray]at hu;rw[nP _ _ _ _ (by simp;omega)]at hu
     simp only[Array.length_toList,h1]at hu;split at hc
     ·rename_i hi;rw[if_pos hi]at hu
      exact(h2 _ c u hc (by simpa using hu)).mono hle
     ·rename_i hi;rw[if_neg hi]at hu
      exact(hzr i c u hc (by simpa using hu)).mono hle)
   refine⟨.skip,undef,_,_,_,?_,.inr ⟨rfl,rfl⟩,hI,.junk⟩;have hv1':a.eval x=.pointer (some ⟨μ q,j,none⟩):=hv1.trans hv;simp only[execOp,ho,hv1',Sem.run_bind,hrun];rfl
 ·rename_i q g k0 i j hq;split at hst
  case h_2=>simp at hst
  rename_i k' es y' hz hy';split at hst
  case h_2=>simp at hst
  rename_i z hzi;split at hst
  case isFalse=>simp at hst
  rename_i hc;obtain⟨hg,rfl,hwr,hk,hj,hone,hnm⟩:=hc;injection hst with hst;subst hst;rw[hq]at hr1
  generalize hv1:a.eval x=v1 at hr1;cases hr1 with
  | ep hg1 hg' hv _=>
   have hv:=hv hg.symm;obtain⟨hI0,hle0⟩:=h.gX (nX (r2.ev e));obtain⟨hry,hdy⟩:=h.nI hr2 hy' (l:=nX (r2.ev e)) (fun _ h=>h);have hsq:(gX s (nX (r2.ev e)) q).o=some (.row k0 es)/\(gX s (nX (r2.ev e)) q).wr=true/\(gX s (nX (r2.ev e)) q).g=(s q).g:=by unfold gX;simp[hnm,hz,hwr]
   obtain⟨⟨cs,ty,hh,hsz,hlen,hk0,hw,hzr⟩,_⟩:=hI0.obj q _ hsq.1;obtain⟨h1,h2,h3⟩:=jM hry hone;have hil:=(List.getElem?_eq_some_iff.1 hzi).1;have hzw:=hw z (kK hzi);have hbound:i*k0+j+k<=cs.size:=by
    have:=Nat.mul_le_mul_right k0 hil;rw[Nat.succ_mul]at this
    omega
   have hrun:=Eo (P:=P) (w:=w) hs (v:=a.eval y) (by omega) h3 (b:=μ q) (off:=i*k0+j) hh (by omega);have hlenv:(spl cs.toList (i*k0+j) (a.eval y).cells.toList).length=cs.size:=by rw[sJ _ _ _ (by simp;omega)];simp
   have hone':∀c∈y'.cells,c.one=true:=by simpa[oH]using hone
   have hcells:(rJ z j y'.cells).cells=spl z.cells j y'.cells:=pX hone' (by omega);obtain⟨hI,hle⟩:=hI0.setRow hsq.1 hsq.2.1 (ob':=.row k0 (es.set i (rJ z j y'.cells))) hh (cs':=(spl cs.toList (i*k0+j) (a.eval y).cells.toList).toArray) (by simpa using hlenv) (s q).g ((s q).n+1) (by rw[hsq.2.2];exact Nat.le_refl _) (by
    intro C' hle hw';refine⟨_,ty,by rw[hw'];exact setRow_heap w _ _ _ ty _ hh,?_,by simpa using hlen,hk0,?_,?_⟩
    ·simp only[List.size_toArray,hlenv,List.length_set];exact hsz
    ·intro x' hx';rcases List.mem_or_eq_of_mem_set hx' with hx'|rfl
     ·exact hw x' hx'
     ·refine⟨by rw[hcells,sJ _ _ _ (by omega)];exact hzw.1,(by rw[zO,hcells];intro c hc;exact Za (zO.1 hzw.2.1) (fun c hc=>.inl (mW hdy c hc)) c hc),?_⟩;rw[hcells];intro c hc;unfold spl at hc;simp only[List.append_assoc,List.mem_append]at hc;rcases hc with hc|hc|hc
      ·exact hzw.2.2 c (List.mem_of_mem_take hc)
      ·exact hone' c hc
      ·exact hzw.2.2 c (List.mem_of_mem_drop hc)
    ·intro i' x' j' c u hx' hc hu;simp only[List.getElem?_toArray]at hu;rw[nP _ _ _ _ (by simp;omega)]at hu
     simp only[Array.length_toList,h1]at hu;by_cases hii:i'=i
     ·subst hii;rw[List.getElem?_set_self hil]at hx'
      injection hx' with hx';subst hx';rw[hcells,nP _ _ _ _ (by omega)]at hc
      split at hc
      ·rename_i hi;rw[if_pos (by omega)]at hu
       refine(h2 (j'-j) c u hc ?_).mono hle;rw[<-Array.getElem?_toList,<-hu];congr 1;omega
      ·rename_i hi;rw[if_neg (by omega)]at hu
       exact(hzr i' z j' c u hzi hc (by simpa using hu)).mono hle
     ·rw[List.getElem?_set_ne (Ne.symm hii)]at hx'
      have hj':j'<k0:=by have:=(List.getElem?_eq_some_iff.1 hc).1;have:=(hw x' (kK hx')).1;omega
      have hne:¬(i*k0+j<=i'*k0+j'/\i'*k0+j'<i*k0+j+(r2.ev e).cells.length)->True:=fun _=>trivial;rw[if_neg (by
       rintro⟨h4,h5⟩;rcases Nat.lt_or_gt_of_ne hii with hlt|hgt
       ·have:=Nat.mul_le_mul_right k0 hlt;rw[Nat.succ_mul]at this
        omega
       ·have:=Nat.mul_le_mul_right k0 hgt;rw[Nat.succ_mul]at this
        omega)]at hu
      exact(hzr i' x' j' c u hx' hc (by simpa using hu)).mono hle)
   have hst':upd (gX s (nX (r2.ev e))) q ⟨(s q).g,true,some (.row k0 (es.set i (rJ z j y'.cells))),(s q).n+1⟩=gX (bF s q (.row k0 (es.set i (rJ z j y'.cells)))) (nX (r2.ev e)):=by rw[<-Sd hnm];unfold bF;simp only[SO.sw];rw[hsq.2.2,show(gX s (nX (r2.ev e)) q).n=(s q).n by unfold gX;simp[hnm]]
   rw[hst']at hI
   refine⟨.skip,undef,_,_,_,?_,.inr ⟨rfl,rfl⟩,hI,.junk⟩;have hv1':a.eval x=.pointer (some ⟨μ q,i*k0+j,none⟩):=hv1.trans hv;simp only[execOp,ho,hv1',Sem.run_bind,hrun];rfl
 ·simp at hst
end
variable {P:Program}
theorem run_append_room'(w:World)(t ty e tb:TypeId)(i:TypeInfo)(ht:P.underlying t=some (.slice e))(hi:P.info? e=some i)
 (g sLen sCap:Nat) (cur:Array Value) (hg:w.heap[g]?=some (.cells cur tb (0,0)))
 (a:Addr) (m c:Nat) (news:List Value) (hl:news.length=m*i.size) (hnews:∀j u,news[j]?=some u->w.cell? (a.add j)=some u) (h1:∀u∈news,u.oneCell'=true)
 (hroom:sLen+m<=sCap) (hfit:sLen*i.size+news.length<=cur.size) :
 (Builtin.append_ #[t,t] ty #[.slice (some ⟨g,0,none⟩) sLen sCap,.slice (some a) m c]).run P w =
  .ok (.slice (some ⟨g,0,none⟩) (sLen+m) sCap) (w.setRow g (spl cur.toList (sLen*i.size) news).toArray):=by
 have hf:=run_firstCells_some (P:=P) w i.size m a m c news hl hnews;have hst:=run_storeCells_at P g (sLen*i.size) tb news 0 cur w hg (by simpa using hfit) h1;simp only[Nat.add_zero]at hst;simp[Builtin.append_,run_underlying ht,sizeOf,typeInfo,hi,Builtin.lenOf,hroom,hf,Addr.add_lit,hst,spl]
theorem zy(w:World)(t ty e:TypeId)(i:TypeInfo)(z:Value)(ht:P.underlying t=some (.slice e))(hi:P.info? e=some i)(hz:i.zero=some z)
 (a:Addr) (n c:Nat) (news:List Value) (hl:news.length=n*i.size) (hnews:∀j v,news[j]?=some v->w.cell? (a.add j)=some v)
 (h0:0<n) (h63:(n:Int)<=9223372036854775807) (h48:n*i.bytes<=281474976710656) (base:Option Addr) :
 (Builtin.append_ #[t,t] ty #[.slice base 0 0,.slice (some a) n c]).run P w =
  .ok (.slice (some ⟨w.heap.size,0,none⟩) n (grownCap w n 0 e)) (w.drew.alloc (.cells (news.toArray++Builtin.zeroCells z.cells (grownCap w n 0 e-n)) e)):=by
 cases base with
 | none=>exact run_append_nil w t ty e i z ht hi hz a n c news hl hnews h0 h63 h48
 | some b=>
  have h:=run_append_grow (P:=P) w t ty e i z ht hi hz b 0 0 [] (by simp) (by simp) a n c news hl hnews (by omega) (by omega) (by rw[Nat.zero_add,nextslicecap_zero h0];omega);simpa using h
theorem qa(w:World)(t ty e:TypeId)(i:TypeInfo)(ht:P.underlying t=some (.slice e))(hi:P.info? e=some i)(base ad:Option Addr)(n cap c:Nat)(hn:n<=cap) :
 (Builtin.append_ #[t,t] ty #[.slice base n cap,.slice ad 0 c]).run P w=.ok (.slice base n cap) w:=by
 cases base<;>cases ad<;>simp[Builtin.append_,run_underlying ht,sizeOf,typeInfo,hi,Builtin.lenOf,hn,Builtin.firstCells,loadCells,loadCellsFrom,storeCells]
section
variable {w0:Bs} {sh:Nat->Prop} {nt:Nat} {μ:Nat->Nat} {fr:Nat->Prop} {e:Env} {s:ax} {a:Act} {w:World}
theorem I9{k:Nat}{ys:List X}(h:Dj k ys=true):(∀y∈ys,y.cells.length=k)/\∀y∈ys,y.lit=true:=by
 unfold Dj at h;rw[oH]at h
 exact⟨fun y hy=>by have:=h y hy;simp only[bN,beq_iff_eq]at this;exact this.1,fun y hy=>by have:=h y hy;simp only[bN,beq_iff_eq,Bool.or_eq_true]at this;exact this.2.elim qR id⟩
theorem PD(h:Inv w0 sh nt μ fr e s a w){x:X}{v:Value}(hx:aZ (aU μ s w sh fr) x v){ys:List X}(hy:elems s x=some ys){k:Nat}(hk:0<k)(hok:Dj k ys=true) :
 ∃ad m c,v=.slice ad m c/\m=ys.length/\(m=0\/∃(a0:Addr) (news:List Value),ad=some a0/\news.length=m*k/\(∀j u,news[j]?=some u->w.cell? (a0.add j)=some u)/\(∀u∈news,u.oneCell'=true)/\
  aZ (aU μ s w sh fr) (.agg (flat ys)) (.agg news.toArray)):=by
 obtain⟨hw,hd⟩:=I9 hok;have mk:∀(b off:Nat) (f:Nat->Nat->Value),(∀i y j c,ys[i]?=some y->y.cells[j]?=some c->w.cell? ⟨b,off+i*k+j,none⟩=some (f i j)/\c.one=true)->
  (∀i y j c,ys[i]?=some y->y.cells[j]?=some c->aZ (aU μ s w sh fr) c (f i j))->
  ∃news:List Value,news.length=ys.length*k/\(∀j u,news[j]?=some u->w.cell? ((⟨b,off,none⟩:Addr).add j)=some u)/\(∀u∈news,u.oneCell'=true)/\aZ (aU μ s w sh fr) (.agg (flat ys)) (.agg news.toArray):=by
  intro b off f hc hr;have idx:∀q,q<ys.length*k->∃y c,ys[q / k]?=some y/\y.cells[q % k]?=some c/\(flat ys)[q]?=some c:=by
   intro q hq;have hi:q / k<ys.length:=(Nat.div_lt_iff_lt_mul hk).2 hq;have hm:q % k<k:=Nat.mod_lt _ hk;have hy:=hw ys[q / k] (gG hi);have h3:=flat_get hw (List.getElem?_eq_getElem hi) hm;rw[show q / k*k+q % k=q by rw[Nat.mul_comm];exact Nat.div_add_mod q k]at h3
   refine⟨ys[q / k],ys[q / k].cells[q % k]'(by omega),List.getElem?_eq_getElem hi,List.getElem?_eq_getElem (by omega),?_⟩;rw[h3];exact List.getElem?_eq_getElem (by omega)
  have hget:∀q u,((List.range (ys.length*k)).map fun q=>f (q / k) (q % k))[q]?=some u->q<ys.length*k/\u=f (q / k) (q % k):=by
   intro q u hu;rw[List.getElem?_map,tu]at hu
   obtain⟨q',hq',rfl⟩:=hu;have hq2:=List.getElem?_eq_some_iff.1 hq';obtain⟨hq3,hq4⟩:=hq2;simp only[List.length_range]at hq3;rw[List.getElem_range]at hq4
   subst hq4;exact⟨hq3,rfl⟩
  refine⟨(List.range (ys.length*k)).map fun q=>f (q / k) (q % k),by simp,?_,?_,?_⟩
  ·intro q u hu;obtain⟨hq,rfl⟩:=hget q u hu;obtain⟨y,c,h1,h2,_⟩:=idx q hq;rw[nG];have:=(hc _ y _ c h1 h2).1;rw[Nat.add_assoc,show q / k*k+q % k=q by rw[Nat.mul_comm];exact Nat.div_add_mod q k]at this
   exact this
  ·intro u hu;obtain⟨q,hq⟩:=List.getElem?_of_mem hu;obtain⟨hq',rfl⟩:=hget q u hq;obtain⟨y,c,h1,h2,_⟩:=idx q hq';exact(hr _ y _ c h1 h2).one (hc _ y _ c h1 h2).2
  ·refine .agg (by rw[fI hw];simp) ?_ ?_
   ·intro c hcm;obtain⟨q,hq⟩:=List.getElem?_of_mem hcm;have hql:q<ys.length*k:=by have:=(List.getElem?_eq_some_iff.1 hq).1;rwa [fI hw]at this
    obtain⟨y,c',h1,h2,h3⟩:=idx q hql;rw[h3]at hq
    injection hq with hq;subst hq;exact(hc _ y _ c' h1 h2).2
   ·intro q c u hq hu;have hql:q<ys.length*k:=by have:=(List.getElem?_eq_some_iff.1 hq).1;rwa [fI hw]at this
    obtain⟨y,c',h1,h2,h3⟩:=idx q hql;rw[h3]at hq
    injection hq with hq;subst hq;obtain⟨_,rfl⟩:=hget q u (by simpa using hu);exact hr _ y _ c' h1 h2
 unfold elems at hy;split at hy
 ·simp only[aW]at hy;subst hy;cases hx with
  | nil=>exact⟨_,_,_,rfl,rfl,.inl rfl⟩
 ·simp only[aW]at hy;subst hy;cases hx with
  | sl0=>exact⟨_,_,_,rfl,rfl,.inl rfl⟩
  | @sl f es b off cap k1 n val hnl hcap hle hb hw' hcell hz hr=>
   refine⟨_,_,_,rfl,hnl,?_⟩;by_cases hn:n=0
   ·exact .inl hn
   ·have hk1:k1=k:=by obtain⟨y,hy⟩:=List.exists_mem_of_length_pos (show 0<List.length _ from hnl▸Nat.pos_of_ne_zero hn);rw[<-hw' y hy,hw y hy]
    subst hk1;obtain⟨news,n1,n2,n3,n4⟩:=mk b off val hcell hr;exact .inr ⟨_,news,rfl,by rw[n1,hnl],n2,n3,n4⟩
 ·rename_i o g k' i n;split at hy
  case h_2=>simp at hy
  rename_i k2 es ho;split at hy
  case isFalse=>simp at hy
  rename_i hc;obtain⟨hg,rfl,hn⟩:=hc;simp only[aW]at hy;subst hy;cases hx with
  | ref h1 hg' hv _=>
   obtain⟨cap,rfl,hcap,_⟩:=hv hg.symm;refine⟨_,_,_,rfl,by simp;omega,?_⟩;by_cases hn0:n=0
   ·exact .inl hn0
   ·obtain⟨⟨cs,t,hh,hsz,hlen,hk0,hww,hrr⟩,_⟩:=h.obj o _ ho;have hk1:k'=k:=by
     have hlt:i<es.length:=by omega
     have hm:es[i]∈(es.drop i).take n:=by refine kK (i:=0) ?_;rw[List.getElem?_take,if_pos (by omega),List.getElem?_drop,Nat.add_zero];exact List.getElem?_eq_getElem hlt
     rw[<-(hww es[i] (gG hlt)).1,hw es[i] hm]
    subst hk1;have hidx:∀ {l x},((es.drop i).take n)[l]?=some x->es[i+l]?=some x:=by
     intro l x hx;rw[List.getElem?_take]at hx
     split at hx
     ·rwa [List.getElem?_drop]at hx
     ·simp at hx
    obtain⟨news,n1,n2,n3,n4⟩:=mk (μ o) (i*k') (fun l j=>cs.getD ((i+l)*k'+j) undef) (by
     intro l x j c hx hc;have hx':=hidx hx;have hxm:=hww x (kK hx');have hj:j<k':=by have:=(List.getElem?_eq_some_iff.1 hc).1;omega
     have hb:(i+l)*k'+j<cs.size:=kJ ((List.getElem?_eq_some_iff.1 hx').1) hj hsz;refine⟨?_,hxm.2.2 c (kK hc)⟩;simp only[aU]at hh;rw[show i*k'+l*k'+j=(i+l)*k'+j by rw[Nat.add_mul],cell_of_row w _ _ cs t (0,0) hh];simp[mq,kF hb]) (by
     intro l x j c hx hc;have hx':=hidx hx;have hxm:=hww x (kK hx');have hj:j<k':=by have:=(List.getElem?_eq_some_iff.1 hc).1;omega
     have hb:(i+l)*k'+j<cs.size:=kJ ((List.getElem?_eq_some_iff.1 hx').1) hj hsz;exact hrr (i+l) x j c _ hx' hc (by simp[mq,kF hb]))
    refine .inr ⟨_,news,rfl,?_,n2,n3,n4⟩;rw[n1];congr 1;simp;omega
 ·simp at hy
theorem uV{C:Cx}{k:Nat}{es ys:List X}{cs cs':Array Value}{news:List Value}{t:TypeId}{b:Nat}(hk:0<k)(hh:C.w.heap[b]?=some (.cells cs' t (0,0)))
 (hes:∀y∈es,y.cells.length=k/\y.lit=true/\∀c∈y.cells,c.one=true) (her:∀(i:Nat) e (j:Nat) c v,es[i]?=some e->e.cells[j]?=some c->cs[i*k+j]?=some v->aZ C c v) (hsz:es.length*k<=cs.size)
 (hys:∀y∈ys,y.cells.length=k/\y.lit=true) (hn:aZ C (.agg (flat ys)) (.agg news.toArray)) (hlen:es.length+ys.length<=9223372036854775807) (hsz':(es.length+ys.length)*k<=cs'.size)
 (h1:∀q,q<es.length*k->cs'[q]?=cs[q]?) (h2:∀q,q<ys.length*k->cs'[es.length*k+q]?=news[q]?):Gy C (.row k (es++ys)) b:=by
 have hyw:∀y∈ys,y.cells.length=k:=fun y hy=>(hys y hy).1;cases hn with
 | agg hl hone hr=>
  refine⟨cs',t,hh,by simpa using hsz',by simpa using hlen,hk,?_,?_⟩
  ·intro y hy;rcases List.mem_append.1 hy with hy|hy
   ·exact hes y hy
   ·exact⟨(hys y hy).1,(hys y hy).2,fun c hc=>hone c (List.mem_flatMap.2 ⟨y,hy,hc⟩)⟩
  ·intro i y j c v hi hj hv;by_cases hlt:i<es.length
   ·rw[List.getElem?_append_left hlt]at hi
    have hjk:j<k:=by have:=(List.getElem?_eq_some_iff.1 hj).1;have:=(hes y (kK hi)).1;omega
    rw[h1 _ (kJ hlt hjk (Nat.le_refl _))]at hv
    exact her i y j c v hi hj hv
   ·rw[List.getElem?_append_right (by omega)]at hi
    have hjk:j<k:=by have:=(List.getElem?_eq_some_iff.1 hj).1;have:=hyw y (kK hi);omega
    have hq:(i-es.length)*k+j<ys.length*k:=kJ ((List.getElem?_eq_some_iff.1 hi).1) hjk (Nat.le_refl _);have hidx:i*k+j=es.length*k+((i-es.length)*k+j):=by rw[<-Nat.add_assoc,<-Nat.add_mul];congr 2;omega
    rw[hidx,h2 _ hq]at hv
    exact hr _ c v (by rw[flat_get hyw hi hjk];exact hj) (by simpa using hv)
end
variable {P:Program}
section
variable {w0:Bs} {sh:Nat->Prop} {nt:Nat} {μ:Nat->Nat} {fr:Nat->Prop} {e:Env} {s:ax} {a:Act} {w:World}
theorem VA{c:Call}{r1 r2:Ar}(h:iY c.args.toList [r1,r2]=true):∃x y,c.args=#[x,y]/\dU x r1=true/\dU y r2=true:=by
 obtain⟨callee,args,tys⟩:=c;obtain⟨l⟩:=args
 match l,h with
 | [x,y],h=>simp only[iY,bN,and_true]at h;exact⟨x,y,rfl,h.1,h.2⟩
 | [],h=>simp[iY]at h
 | [x],h=>simp[iY]at h
 | _::_::_::_,h=>simp[iY]at h
theorem OO(h:Inv w0 sh nt μ fr e s a w){o:Oper}{c:Call}{q k lim:Nat}{r1 r2:Ar}(ho:o.op=.call c)(hc:c.callee=.builtin .append)
 (hok:dn P (.call c) (.app q k lim r1 r2)=true) {x:X} {s':ax} (hs:aB (.app q k lim r1 r2) e s=some (x,s')):Out P w0 sh nt e a w o x s':=by
 simp only[dn,hc,bN]at hok;obtain⟨⟨_,hd⟩,hargs⟩:=hok;obtain⟨x1,x2,hxa,hx1,hx2⟩:=VA hargs;split at hd
 case h_2=>simp at hd
 rename_i t u hty;simp only[bN,beq_iff_eq]at hd;obtain⟨rfl,hd⟩:=hd;split at hd
 case h_2=>simp at hd
 rename_i el ht;simp only[bN,decide_eq_true_eq]at hd;obtain⟨⟨⟨hsz,hby⟩,hk⟩,hzz⟩:=hd;split at hzz
 case h_2=>simp at hzz
 rename_i i hi;obtain⟨z,hz,hzk⟩:∃z,i.zero=some z/\z.cells.size=k:=by
  cases hzi:i.zero with
  | none=>simp[hzi]at hzz
  | some z=>exact⟨z,rfl,by simpa[hzi]using hzz⟩
 have hik:i.size=k:=by unfold nC at hsz;rw[hi]at hsz;simpa using hsz
 have hby2:0<i.bytes/\lim*i.bytes<=140737488355328:=by unfold byB at hby;rw[hi]at hby;simpa using hby
 have hat:c.argTypes=#[t,t]:=by obtain⟨callee,args,⟨l⟩⟩:=c;simp only at hty;simp only[Array.mk.injEq];exact hty
 have hr1:=aD h.env hx1;have hr2:=aD h.env hx2;have go:∀v w',(Builtin.append_ #[t,t] o.type #[a.eval x1,a.eval x2]).run P w=.ok v w'->(execOp a.eval o).run P w=.ok (.value v) w':=by intro v w' hv;simp[execOp,ho,resolve,hc,hxa,hat,invoke,builtin,hv]
 simp only[aB,CQ]at hs;split at hs
 case h_2=>simp at hs
 rename_i ys hys;split at hs
 case isTrue=>simp at hs
 rename_i hokE;have hokE:Dj k ys=true:=by simpa using hokE
 obtain⟨hyw,hyd⟩:=I9 hokE;obtain⟨ad,m,cp,hv2,hm,hnews⟩:=PD h hr2 hys hk hokE;split at hs
 ·rename_i hnil;rw[hnil]at hr1
  generalize hv1:a.eval x1=v1 at hr1 go;cases hr1 with
  | nil=>
   rw[hv2]at go
   split at hs
   ·rename_i hy0;subst hy0;simp only[aW,bK]at hs;obtain⟨rfl,rfl⟩:=hs;simp at hm;subst hm;exact⟨_,_,_,_,_,go _ _ (qa w t o.type el i ht hi _ ad 0 0 cp (Nat.le_refl _)),.inl rfl,h,.nil⟩
   ·rename_i hy0;split at hs
    case isFalse=>simp at hs
    rename_i hlim;simp only[aW,bK]at hs;obtain⟨rfl,rfl⟩:=hs;have hm0:0<m:=by
     cases ys with
     | nil=>exact absurd rfl hy0
     | cons=>simp at hm;omega
    obtain⟨a0,news,rfl,n1,n2,n3,n4⟩:=hnews.resolve_left (by omega);have hmb:m*i.bytes<=140737488355328:=iq (Nat.mul_le_mul_right _ (by omega)) hby2.2;have hm47:m<=140737488355328:=by have:m*1<=m*i.bytes:=Nat.mul_le_mul_left m hby2.1;omega
    have hrun:=zy (P:=P) w t o.type el i z ht hi hz a0 m cp news (by rw[n1,hik]) n2 hm0 (by omega) (by omega);have hge:=grownCap_ge w m 0 el;have hI:=h.drew.wZ q (.row k ys) (news.toArray++Builtin.zeroCells z.cells (grownCap w m 0 el-m)) el (by
     intro C' hle hw';have hn4:aZ C' (.agg (flat ys)) (.agg news.toArray):=(n4.mono (by exact⟨fun b hb off v hv=>hle.cell b hb off v hv,fun b hb off hv=>hle.frozen b hb off hv,hle.sh,hle.fr,hle.γ,hle.μ⟩))
     have:=uV (C:=C') (es:=[]) (ys:=ys) (cs:=#[]) (cs':=news.toArray++Builtin.zeroCells z.cells (grownCap w m 0 el-m)) (news:=news) (t:=el) (b:=w.drew.heap.size) hk (by rw[hw'];exact eY w.drew _ _) (by simp) (by simp) (by simp)
      (fun y hy=>⟨hyw y hy,hyd y hy⟩) hn4 (by simp;omega) (by simp[n1,hm]) (by simp) (by intro q hq;simp only[List.length_nil,Nat.zero_mul,Nat.zero_add];rw[Array.getElem?_append_left (by simp[n1,hm];exact hq)];simp)
     simpa using this)
    refine⟨_,_,_,_,_,go _ _ (hrun _),.inl rfl,hI,?_⟩;rw[<-hm];refine .ref (by omega) (by simp[aU,aN,upd_same]) (fun _=>⟨grownCap w m 0 el,by simp[aU,upd_same],hge,_,el,(0,0),by simp only[aU,upd_same];exact eY w.drew _ _,?_⟩) rfl;simp only[Array.size_append,List.size_toArray,size_zeroCells,hzk,n1,Nat.zero_add];rw[<-Nat.add_mul];congr 1;omega
 ·rename_i q' g k' j n href;split at hs
  case h_2=>simp at hs
  rename_i k2 es hobj;split at hs
  case isFalse=>simp at hs
  rename_i hcond;obtain⟨hg,rfl,rfl,hwr,rfl,hn,hlim,hnm⟩:=hcond;simp only[aW,bK]at hs;obtain⟨rfl,rfl⟩:=hs;rw[href]at hr1
  generalize hv1:a.eval x1=v1 at hr1 go;cases hr1 with
  | ref hg1 hg' hv _=>
   obtain⟨cap,rfl,hcap,cs0,t0,fz0,hh0,hsz0⟩:=hv hg.symm;obtain⟨⟨cs,tb,hh,hcs,hlen,_,hww,hrr⟩,hbase,_⟩:=h.obj q' _ hobj;simp only[aU]at hh hh0 hrr;rw[hh]at hh0
   injection hh0 with hh0;injection hh0 with hh0 _ _;subst hh0;rw[hv2]at go
   simp only[Nat.zero_mul,Nat.zero_add]at go hsz0;have hgq:(aN s q' (.row k2 (es++ys)) q').g=g+1:=by simp[aN,upd_same,hg]
   have hnewO:aN s q' (.row k2 (es++ys))=upd s q' ⟨(s q').g+1,true,some (.row k2 (es++ys)),(s q').n+1⟩:=rfl;by_cases hm0:m=0
   ·have hy0:ys=[]:=List.eq_nil_of_length_eq_zero (by omega);subst hy0;subst hm0;have hrun:=qa (P:=P) w t o.type el i ht hi (some ⟨μ q',0,none⟩) ad n cap cp hcap;have hself:w.setRow (μ q') cs=w:=setRow_self w _ _ tb (0,0) hh;obtain⟨hI,hle⟩:=h.setRow hobj hwr (ob':=.row k2 (es++[])) hh (cs':=cs) rfl ((s q').g+1) ((s q').n+1) (by omega) (by
     intro C' hle hw';rw[hself]at hw'
     rw[List.append_nil];exact(h.obj q' _ hobj).1.mono hle (by rw[hw'];rfl))
    rw[hself]at hI
    refine⟨_,_,_,_,_,go _ _ hrun,.inl rfl,hI,?_⟩;refine .ref (by omega) (by simp[aU,aN,upd_same,hg]) (fun _=>⟨cap,by simp[aU,upd_same],by simpa using hcap,cs,tb,(0,0),by simp only[aU,upd_same];exact hh,by simpa using hsz0⟩) rfl
   ·obtain⟨a0,news,rfl,n1,n2,n3,n4⟩:=hnews.resolve_left hm0;have hmb:(n+m)*i.bytes<=140737488355328:=iq (Nat.mul_le_mul_right _ (by omega)) hby2.2;have hm47:n+m<=140737488355328:=by have:(n+m)*1<=(n+m)*i.bytes:=Nat.mul_le_mul_left _ hby2.1;omega
    have hnk:n*k2+m*k2=(n+m)*k2:=by rw[Nat.add_mul]
    by_cases hroom:n+m<=cap
    ·have hfit:n*k2+m*k2<=cs.size:=by rw[hnk,<-hsz0];exact Nat.mul_le_mul_right _ hroom
     have hrun:=run_append_room' (P:=P) w t o.type el tb i ht hi (μ q') n cap cs hh a0 m cp news (by rw[n1,hik]) n2 n3 hroom (by rw[n1,hik];exact hfit);have hlen2:(spl cs.toList (n*i.size) news).length=cs.size:=by rw[sJ _ _ _ (by rw[n1,hik];simpa using hfit)];simp
     obtain⟨hI,hle⟩:=h.setRow hobj hwr (ob':=.row k2 (es++ys)) hh (cs':=(spl cs.toList (n*i.size) news).toArray) (by simpa using hlen2) ((s q').g+1) ((s q').n+1) (by omega) (by
      intro C' hle hw';refine uV (C:=C') (cs:=cs) (news:=news) (t:=tb) hk (by rw[hw'];exact setRow_heap w _ _ _ tb _ hh) hww (fun i e j c v h1 h2 h3=>(hrr i e j c v h1 h2 h3).mono hle) hcs (fun y hy=>⟨hyw y hy,hyd y hy⟩) (n4.mono hle) (by omega) ?_ ?_ ?_
      ·simp only[List.size_toArray,hlen2];rw[<-hn,<-hm,Nat.add_mul];omega
      ·intro r hr;simp only[List.getElem?_toArray];rw[nP _ _ _ _ (by rw[n1,hik];simpa using hfit),if_neg (by rw[hik,hn];omega)];simp
      ·intro r hr;simp only[List.getElem?_toArray];rw[nP _ _ _ _ (by rw[n1,hik];simpa using hfit),if_pos (by rw[hik,hn,n1,hm];omega)];congr 1;rw[hik,hn];omega)
     rw[<-hnewO]at hI
     refine⟨_,_,_,_,_,go _ _ hrun,.inl rfl,hI,?_⟩;rw[<-hm];refine .ref (by omega) (by simp[aU,hgq]) (fun _=>⟨cap,by simp[aU,upd_same],hroom,(spl cs.toList (n*i.size) news).toArray,tb,(0,0),by simp only[aU,upd_same];exact setRow_heap w _ _ _ tb _ hh,?_⟩) rfl;simp only[List.size_toArray,hlen2,Nat.zero_add];exact hsz0
    ·have hgrow:cap<n+m:=by omega
     have holds:(cs.toList.take (n*k2)).length=n*i.size:=by
      rw[List.length_take,hik];have:n*k2<=cs.size:=by rw[hn];exact hcs
      simp;omega
     have hrun:=run_append_grow (P:=P) w t o.type el i z ht hi hz ⟨μ q',0,none⟩ n cap (cs.toList.take (n*k2)) holds (by
      intro j v hv;rw[nG,Nat.zero_add,cell_of_row w _ _ cs tb (0,0) hh];rw[List.getElem?_take]at hv
      split at hv
      ·simpa using hv
      ·simp at hv) a0 m cp news (by rw[n1,hik]) n2 hgrow (by omega) (growslice_fits hgrow hmb)
     have hge:=grownCap_ge w (n+m) cap el;have hI:=h.drew.wZ q' (.row k2 (es++ys)) ((cs.toList.take (n*k2)).toArray++news.toArray++Builtin.zeroCells z.cells (grownCap w (n+m) cap el-(n+m))) el (by
      intro C' hle hw';have hle':(aU μ s w sh fr).Le C':=⟨fun b hb off v hv=>hle.cell b hb off v hv,fun b hb off hv=>hle.frozen b hb off hv,hle.sh,hle.fr,hle.γ,hle.μ⟩
      have hcl:(cs.toList.take (n*k2)).length=n*k2:=by rw[holds,hik]
      refine uV (C:=C') (cs:=cs) (news:=news) (t:=el) hk (by rw[hw'];exact eY w.drew _ _) hww (fun i e j c v h1 h2 h3=>(hrr i e j c v h1 h2 h3).mono hle') hcs (fun y hy=>⟨hyw y hy,hyd y hy⟩) (n4.mono hle') (by omega) ?_ ?_ ?_
      ·simp only[Array.size_append,List.size_toArray,hcl,n1];rw[<-hn,<-hm,Nat.add_mul];omega
      ·intro r hr;rw[<-hn]at hr
       rw[Array.append_assoc,Array.getElem?_append_left (by simp only[List.size_toArray,hcl];exact hr)];simp only[List.getElem?_toArray];rw[List.getElem?_take,if_pos hr];simp
      ·intro r hr;rw[<-hm]at hr
       rw[Array.getElem?_append_left (by simp only[Array.size_append,List.size_toArray,hcl,n1,<-hn];omega)];rw[Array.getElem?_append_right (by simp only[List.size_toArray,hcl,<-hn];omega)];simp only[List.size_toArray,hcl,List.getElem?_toArray];congr 1;rw[<-hn];omega)
     refine⟨_,_,_,_,_,go _ _ hrun,.inl rfl,hI,?_⟩;rw[<-hm];refine .ref (by omega) (by simp[aU,hgq]) (fun _=>⟨grownCap w (n+m) cap el,by simp[aU,upd_same],hge,_,el,(0,0),by simp only[aU,upd_same];exact eY w.drew _ _,?_⟩) rfl;have hcl:(cs.toList.take (n*k2)).length=n*k2:=by rw[holds,hik]
     simp only[Array.size_append,List.size_toArray,size_zeroCells,hzk,n1,hcl,Nat.zero_add];rw[hnk,<-Nat.add_mul];congr 1;omega
 ·simp at hs
end
end Go.Proofs.YtbmkfjmlepjpfaaGreatDoor
