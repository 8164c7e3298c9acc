/- A part of the proof. -/
import Derived.Test.YtbmkfjmlepjpfaaGreatDoorBr
import Derived.Test.YtbmkfjmlepjpfaaGreatDoorCq
import Derived.Test.YtbmkfjmlepjpfaaGreatDoorEx
import Derived.Test.YtbmkfjmlepjpfaaGreatDoorProg
import Derived.KernelRfl
set_option linter.all false
set_option maxRecDepth 100000
namespace Go.Proofs.YtbmkfjmlepjpfaaGreatDoor
open Go.RowKit
theorem wE{α:Type}{f:α->X}{p:α->Prop}:∀ {es:List X},(∀x∈es,∃a,x=f a/\p a)->∃l:List α,es=l.map f/\∀a∈l,p a
 | [],_=>⟨[],rfl,by simp⟩
 | x::es,h=>by
  obtain⟨a,ha,hp⟩:=h x (by simp);obtain⟨l,hl,hq⟩:=wE (f:=f) (p:=p) (es:=es) (fun y hy=>h y (by simp[hy]));refine⟨a::l,by simp[ha,hl],?_⟩;intro b hb;rcases List.mem_cons.1 hb with rfl|hb
  ·exact hp
  ·exact hq b hb
theorem is_sl{U b:Nat}{e:TD}{x:X}(h:nu U (.sl b e) x):∃es:List X,x=.sl false es/\es.length<=U/\es.length*b<=140737488351232/\es.length<=9223372036854775807/\∀y∈es,nu U e y:=by
 obtain⟨h1,h2⟩:=h;simp only[iT]at h1;obtain⟨es,h3,h4⟩:=h1;rw[h3]at h2
 exact⟨es,h2,h4⟩
theorem GR{U:Nat}{k:IntKind}{x:X}(h:nu U (.int k) x):∃n,x=.v (.int k n)/\k.min<=n/\n<=k.max:=by
 obtain⟨h1,h2⟩:=h;obtain⟨n,h3,h4⟩:=h1;rw[h3]at h2
 exact⟨n,h2,h4⟩
def DC(U b n:Nat):Prop:=n<=U/\n*b<=140737488351232/\n<=9223372036854775807
theorem xM{α:Type}{U b:Nat}{e:TD}{f:α->X}{p:α->Prop}(hf:∀y,nu U e y->∃a,y=f a/\p a){x:X}(h:nu U (.sl b e) x) :
 ∃l:List α,x=.sl false (l.map f)/\DC U b l.length/\∀a∈l,p a:=by
 obtain⟨es,rfl,h1,h2,h3,h4⟩:=is_sl h;obtain⟨l,rfl,hp⟩:=wE (fun y hy=>hf y (h4 y hy));rw[List.length_map]at h1 h2 h3
 exact⟨l,rfl,⟨h1,h2,h3⟩,hp⟩
def tO(n:Int):Prop:=-9223372036854775808<=n/\n<=9223372036854775807
theorem JL:IntKind.i64.min=-9223372036854775808:=by decide
theorem JK:IntKind.i64.max=9223372036854775807:=by decide
theorem Jd:IntKind.u8.min=0:=by decide
theorem Jc:IntKind.u8.max=255:=by decide
abbrev Dw:TD:=.int .i64
abbrev tdB:TD:=.int .u8
abbrev Dl:TD:=.sl 1 tdB
abbrev tdCol:TD:=.st [Dw,Dw,Dw,Dw,Dw]
abbrev tdTS:TD:=.st [Dw,Dw,.sl 40 tdCol]
abbrev Lg:TD:=.st [tdB,Dw,.str]
abbrev tdRow:TD:=.sl 32 Lg
abbrev tdRows:TD:=.sl 24 tdRow
theorem OX{U:Nat}{x:X}(h:nu U Dl x):∃l:List Int,x=.sl false (l.map u8)/\DC U 1 l.length/\∀k∈l,0<=k/\k<=255:=
 xM (fun y hy=>by
  obtain⟨n,rfl,h1,h2⟩:=GR hy;rw[Jd]at h1;rw[Jc]at h2
  exact⟨n,rfl,h1,h2⟩) h
theorem lC{U:Nat}{xs:List X}(h:iT U Dw xs):∃n,xs=[i6 n]/\tO n:=by
 obtain⟨n,h1,h2,h3⟩:=h;rw[JL]at h2;rw[JK]at h3
 exact⟨n,h1,h2,h3⟩
theorem JI{U:Nat}{xs:List X}(h:iT U tdB xs):∃n,xs=[u8 n]/\0<=n/\n<=255:=by
 obtain⟨n,h1,h2,h3⟩:=h;rw[Jd]at h2;rw[Jc]at h3
 exact⟨n,h1,h2,h3⟩
def dh.ok(c:dh):Prop:=tO c.bQ/\tO c.distinct/\tO c.degree/\tO c.lo/\tO c.hi
theorem is_col{U:Nat}{x:X}(h:nu U tdCol x):∃c:dh,x=c.enc/\c.ok:=by obtain⟨h1,h2⟩:=h;simp only[iT,bZ]at h1;obtain⟨a1,b1,e1,t1,a2,b2,e2,t2,a3,b3,e3,t3,a4,b4,e4,t4,a5,b5,e5,t5,e6⟩:=h1;obtain⟨n1,r1,o1⟩:=lC (U:=U) t1;obtain⟨n2,r2,o2⟩:=lC (U:=U) t2;obtain⟨n3,r3,o3⟩:=lC (U:=U) t3;obtain⟨n4,r4,o4⟩:=lC (U:=U) t4;obtain⟨n5,r5,o5⟩:=lC (U:=U) t5;refine⟨⟨n1,n2,n3,n4,n5⟩,?_,o1,o2,o3,o4,o5⟩;rw[h2,e1,e2,e3,e4,e5,e6,r1,r2,r3,r4,r5];rfl
theorem is_ts{U:Nat}{x:X}(h:nu U tdTS x):∃t:TS,x=t.enc false/\tO t.low/\tO t.rows/\DC U 40 t.ah.length/\∀c∈t.ah,c.ok:=by
 obtain⟨h1,h2⟩:=h;rw[iT,bZ]at h1
 obtain⟨a1,b1,e1,t1,h1⟩:=h1;rw[bZ]at h1
 obtain⟨a2,b2,e2,t2,h1⟩:=h1;rw[bZ]at h1
 obtain⟨a3,b3,e3,t3,h1⟩:=h1;rw[bZ]at h1
 obtain⟨n1,r1,o1⟩:=lC (U:=U) t1;obtain⟨n2,r2,o2⟩:=lC (U:=U) t2;have t3':=t3;rw[iT]at t3'
 obtain⟨es,r3,_⟩:=t3';obtain⟨l,hl,ho,hc⟩:=xM (fun y hy=>is_col hy) (x:=.sl false es) ⟨by rw[D7];rw[<-r3];exact t3,rfl⟩;refine⟨⟨n1,n2,l⟩,?_,o1,o2,ho,hc⟩;rw[h2,e1,e2,e3,h1,r1,r2,r3,hl];rfl
theorem Ex.kS{l:List Ex}(h:∀k∈l,k.small):Ex.gM l:=by
 induction l with
 | nil=>simp only[Ex.gM]
 | cons x l ih=>simp only[Ex.gM];exact⟨h x (by simp),ih fun k hk=>h k (by simp[hk])⟩
theorem Pn.kS{l:List Pn}(h:∀k∈l,k.small):Pn.gM l:=by
 induction l with
 | nil=>simp only[Pn.gM]
 | cons x l ih=>simp only[Pn.gM];exact⟨h x (by simp),ih fun k hk=>h k (by simp[hk])⟩
def QE(c:X):Prop:=∃l:List Ex,c=.sl false (l.map Ex.enc)/\aS l/\∀e∈l,e.small
def QP(c:X):Prop:=∃l:List Pn,c=.sl false (l.map Pn.enc)/\aS l/\∀e∈l,e.small
abbrev tdE:TD:=.st [tdB,Lg,Dw,Dw,.ob 30 QE,.ob 31 QP]
abbrev tdAgg:TD:=.st [tdB,Dw,.bool]
abbrev tdKey:TD:=.st [Dw,.bool]
abbrev tdP:TD:=.st [tdB,Dw,Dl,tdRows,.ob 30 QE,.ob 30 QE,.sl 8 Dw,.sl 24 tdAgg,.sl 16 tdKey,Dw,Dw,.ob 31 QP]
theorem lF{α:Type}{U b:Nat}{e:TD}{f:α->X}{p:α->Prop}(hf:∀y,nu U e y->∃a,y=f a/\p a){xs:List X}(h:iT U (.sl b e) xs) :
 ∃l:List α,xs=[.sl false (l.map f)]/\DC U b l.length/\∀a∈l,p a:=by
 have h':=h;rw[iT]at h'
 obtain⟨es,r3,_⟩:=h';subst r3;obtain⟨l,hl,ho,hc⟩:=xM hf (x:=.sl false es) ⟨by rw[D7];exact h,rfl⟩;exact⟨l,by rw[hl],ho,hc⟩
theorem JJ{U:Nat}{xs:List X}(h1:iT U Lg xs):∃v:Val,xs=[u8 v.kind,i6 v.int,.v (.string v.text)]/\v.ok/\F6 v.kind:=by simp only[iT,bZ]at h1;obtain⟨a1,b1,e1,t1,a2,b2,e2,t2,a3,b3,e3,t3,e4⟩:=h1;obtain⟨n1,r1,o1⟩:=JI (U:=U) t1;obtain⟨n2,r2,o2⟩:=lC (U:=U) t2;obtain⟨s3,r3,_⟩:=t3;refine⟨⟨n1,n2,s3⟩,?_,o2,o1⟩;rw[e1,e2,e3,e4,r1,r2,r3];rfl
theorem S_{U:Nat}{x:X}(h:nu U Lg x):∃v:Val,x=v.enc/\v.ok/\F6 v.kind:=by obtain⟨h1,h2⟩:=h;obtain⟨v,hv,h3⟩:=JJ h1;exact⟨v,by rw[h2,hv];rfl,h3⟩
theorem S9{U:Nat}{x:X}(h:nu U tdRow x):∃r:List Val,x=oJ r/\DC U 32 r.length/\∀v∈r,v.ok/\F6 v.kind:=xM (fun y hy=>S_ hy) h
theorem is_i{U:Nat}{x:X}(h:nu U Dw x):∃n,x=i6 n/\tO n:=by
 obtain⟨n,rfl,h1,h2⟩:=GR h;rw[JL]at h1;rw[JK]at h2
 exact⟨n,rfl,h1,h2⟩
theorem is_b{U:Nat}{x:X}(h:nu U tdB x):∃n,x=u8 n/\F6 n:=by
 obtain⟨n,rfl,h1,h2⟩:=GR h;rw[Jd]at h1;rw[Jc]at h2
 exact⟨n,rfl,h1,h2⟩
theorem is_agg{U:Nat}{x:X}(h:nu U tdAgg x):∃a:Ag,x=a.enc/\F6 a.fn/\gI a.col:=by obtain⟨h1,h2⟩:=h;simp only[iT,bZ]at h1;obtain⟨a1,b1,e1,t1,a2,b2,e2,t2,a3,b3,e3,t3,e4⟩:=h1;obtain⟨n1,r1,o1⟩:=JI (U:=U) t1;obtain⟨n2,r2,o2⟩:=lC (U:=U) t2;obtain⟨b,r3⟩:=t3;refine⟨⟨n1,n2,b⟩,?_,o1,o2⟩;rw[h2,e1,e2,e3,e4,r1,r2,r3];rfl
theorem is_key{U:Nat}{x:X}(h:nu U tdKey x):∃a:Ky,x=a.enc/\gI a.col:=by obtain⟨h1,h2⟩:=h;simp only[iT,bZ]at h1;obtain⟨a2,b2,e2,t2,a3,b3,e3,t3,e4⟩:=h1;obtain⟨n2,r2,o2⟩:=lC (U:=U) t2;obtain⟨b,r3⟩:=t3;refine⟨⟨n2,b⟩,?_,o2⟩;rw[h2,e2,e3,e4,r2,r3];rfl
theorem JN{U:Nat}{x:X}(h:nu U tdE x):∃e:Ex,x=e.enc/\e.small:=by
 obtain⟨h1,h2⟩:=h;rw[iT,bZ]at h1
 obtain⟨a1,b1,e1,t1,h1⟩:=h1;rw[bZ]at h1
 obtain⟨a2,b2,e2,t2,h1⟩:=h1;rw[bZ]at h1
 obtain⟨a3,b3,e3,t3,h1⟩:=h1;rw[bZ]at h1
 obtain⟨a4,b4,e4,t4,h1⟩:=h1;rw[bZ]at h1
 obtain⟨a5,b5,e5,t5,h1⟩:=h1;rw[bZ]at h1
 obtain⟨a6,b6,e6,t6,h1⟩:=h1;rw[bZ]at h1
 obtain⟨n1,r1,o1⟩:=JI (U:=U) t1;obtain⟨v,r2,o2,o2'⟩:=JJ t2;obtain⟨n3,r3,o3⟩:=lC (U:=U) t3;obtain⟨n4,r4,o4⟩:=lC (U:=U) t4;rw[iT]at t5 t6
 obtain⟨c5,r5,l5,rfl,k5,s5⟩:=t5;obtain⟨c6,r6,l6,rfl,k6,s6⟩:=t6;refine⟨.mk n1 v.kind v.int v.text n3 n4 l5 l6,?_,?_⟩
 ·rw[h2,e1,e2,e3,e4,e5,e6,h1,r1,r2,r3,r4,r5,r6,Ex.aB];rfl
 ·simp only[Ex.small];exact⟨⟨o1,o2'⟩,o2,o3,o4,k5,k6,Ex.kS s5,Pn.kS s6⟩
theorem SY{U:Nat}(hU:U<=1099511627776){x:X}(h:nu U tdP x):∃e:Pn,x=e.enc/\e.small:=by
 obtain⟨h1,h2⟩:=h;rw[iT,bZ]at h1
 obtain⟨a1,b1,e1,t1,h1⟩:=h1;rw[bZ]at h1
 obtain⟨a2,b2,e2,t2,h1⟩:=h1;rw[bZ]at h1
 obtain⟨a3,b3,e3,t3,h1⟩:=h1;rw[bZ]at h1
 obtain⟨a4,b4,e4,t4,h1⟩:=h1;rw[bZ]at h1
 obtain⟨a5,b5,e5,t5,h1⟩:=h1;rw[bZ]at h1
 obtain⟨a6,b6,e6,t6,h1⟩:=h1;rw[bZ]at h1
 obtain⟨a7,b7,e7,t7,h1⟩:=h1;rw[bZ]at h1
 obtain⟨a8,b8,e8,t8,h1⟩:=h1;rw[bZ]at h1
 obtain⟨a9,b9,e9,t9,h1⟩:=h1;rw[bZ]at h1
 obtain⟨a10,b10,e10,t10,h1⟩:=h1;rw[bZ]at h1
 obtain⟨a11,b11,e11,t11,h1⟩:=h1;rw[bZ]at h1
 obtain⟨a12,b12,e12,t12,h1⟩:=h1;rw[bZ]at h1
 obtain⟨n1,r1,o1⟩:=JI (U:=U) t1;obtain⟨n2,r2,o2⟩:=lC (U:=U) t2;obtain⟨l3,r3,k3,o3⟩:=lF (fun y hy=>is_b hy) t3;obtain⟨l4,r4,k4,o4⟩:=lF (fun y hy=>S9 hy) t4;obtain⟨l7,r7,k7,o7⟩:=lF (fun y hy=>is_i hy) t7;obtain⟨l8,r8,k8,o8⟩:=lF (fun y hy=>is_agg hy) t8;obtain⟨l9,r9,k9,o9⟩:=lF (fun y hy=>is_key hy) t9;obtain⟨n10,r10,o10⟩:=lC (U:=U) t10;obtain⟨n11,r11,o11⟩:=lC (U:=U) t11;rw[iT]at t5 t6 t12
 obtain⟨c5,r5,l5,rfl,k5,s5⟩:=t5;obtain⟨c6,r6,l6,rfl,k6,s6⟩:=t6;obtain⟨c12,r12,l12,rfl,k12,s12⟩:=t12;refine⟨.mk n1 n2 l3 l4 l5 l6 l7 l8 l9 n10 n11 l12,?_,?_⟩
 ·rw[h2,e1,e2,e3,e4,e5,e6,e7,e8,e9,e10,e11,e12,h1,r1,r2,r3,r4,r5,r6,r7,r8,r9,r10,r11,r12,Pn.aB];rfl
 ·simp only[Pn.small];refine⟨⟨⟨o1,o3,fun r hr v hv=>((o4 r hr).2 v hv).2,fun a ha=>(o8 a ha).1⟩,o2,o10,o11,gJ k3.1 hU,gJ k4.1 hU,fun r hr=>⟨gJ (o4 r hr).1.1 hU,fun v hv=>((o4 r hr).2 v hv).1⟩,k5,k6,gJ k7.1 hU,o7,gJ k8.1 hU,fun a ha=>(o8 a ha).2,gJ k9.1 hU,o9,k12⟩,Ex.kS s5,Ex.kS s6,Pn.kS s12⟩
section
variable {H:Type} {enc:TypeId×Value->H} {w:World} {sh:Nat->Prop} {U:Nat} {B:DataW H->Prop}
mutual
def TD.plain:TD->Bool
 | .sl _ e=>e.plain
 | .st fs=>TD.CW fs
 | .ob _ _=>false
 | _=>true
def TD.CW:List TD->Bool
 | []=>true
 | t::l=>t.plain&&TD.CW l
end
mutual
theorem qi{P:Program}:(td:TD)->td.plain=true->∀N,sF enc P w sh U B td N
 | .sl _ e,h,N=>fun M _=>qi e h M
 | .st fs,h,N=>fun M _=>yR fs h M
 | .ob _ _,h,N=>by simp[TD.plain]at h
 | .int _,_,_=>trivial
 | .bool,_,_=>trivial
 | .str,_,_=>trivial
theorem yR{P:Program}:(l:List TD)->TD.CW l=true->∀N,oM enc P w sh U B l N
 | [],_,_=>trivial
 | t::l,h,N=>by simp only[TD.CW,bE]at h;exact⟨qi t h.1 N,yR l h.2 N⟩
end
theorem okTE:pQ Tryz.prog (.sl 104 tdE) 30=true:=by kernel_rfl
theorem okTP:pQ Tryz.prog (.sl 224 tdP) 31=true:=by kernel_rfl
theorem JE{M:Nat}(h:∀K,K<M->Gb enc Tryz.prog w sh U B 30 QE K/\Gb enc Tryz.prog w sh U B 31 QP K):sF enc Tryz.prog w sh U B tdE M:=by intro K hK;have hk:=h K hK;exact⟨trivial,fun _ _=>⟨trivial,trivial,trivial,trivial⟩,trivial,trivial,hk.1,hk.2,trivial⟩
theorem SH{M:Nat}(h:∀K,K<M->Gb enc Tryz.prog w sh U B 30 QE K/\Gb enc Tryz.prog w sh U B 31 QP K):sF enc Tryz.prog w sh U B tdP M:=by intro K hK;have hk:=h K hK;exact⟨trivial,trivial,fun _ _=>trivial,fun _ _ _ _ _ _=>⟨trivial,trivial,trivial,trivial⟩,hk.1,hk.1,fun _ _=>trivial,fun _ _ _ _=>⟨trivial,trivial,trivial,trivial⟩,fun _ _ _ _=>⟨trivial,trivial,trivial⟩,trivial,trivial,hk.2,trivial⟩
theorem TA(hsh:∀b,b<w.heap.size->sh b)(hB:Bd B U)(hU:U<=1099511627776):∀N,Gb enc Tryz.prog w sh U B 30 QE N/\Gb enc Tryz.prog w sh U B 31 QP N:=by
 intro N;induction N using Nat.strongRecOn with
 | _ N ih=>
  refine⟨fun fuel cs d ps hd h hw hb=>?_,fun fuel cs d ps hd h hw hb=>?_⟩
  ·obtain⟨xs,hg⟩:=jo hsh hB (.sl 104 tdE) fuel _ cs d ps (fun M hM=>JE fun K hK=>ih K (by omega)) okTE h hw hb;obtain⟨l,hl,ho,hc⟩:=lF (fun y hy=>JN hy) hg.has;exact⟨xs,hg.len,hg.n,hg.YP,hg.one,⟨_,hl,l,rfl,gJ ho.1 hU,hc⟩,hg.deep⟩
  ·obtain⟨xs,hg⟩:=jo hsh hB (.sl 224 tdP) fuel _ cs d ps (fun M hM=>SH fun K hK=>ih K (by omega)) okTP h hw hb;obtain⟨l,hl,ho,hc⟩:=lF (fun y hy=>SY hU hy) hg.has;exact⟨xs,hg.len,hg.n,hg.YP,hg.one,⟨_,hl,l,rfl,gJ ho.1 hU,hc⟩,hg.deep⟩
end
end Go.Proofs.YtbmkfjmlepjpfaaGreatDoor
