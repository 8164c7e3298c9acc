/- A part of the proof. -/
import Derived.Test.YtbmkfjmlepjpfaaGreatDoorBr
import Derived.Test.YtbmkfjmlepjpfaaGreatDoorCq
import Derived.Test.YtbmkfjmlepjpfaaGreatDoorEx
import Derived.Test.YtbmkfjmlepjpfaaGreatDoorProg
import Derived.KernelRfl
set_option linter.all false
set_option maxRecDepth 100000
namespace Go.Proofs.YtbmkfjmlepjpfaaGreatDoor
open Go.RowKit
theorem yK{α:Type}{f:α->X}{p:α->Prop}:∀ {es:List X},(∀x∈es,∃a,x=f a/\p a)->∃l:List α,es=l.map f/\∀a∈l,p a
 | [],_=>⟨[],rfl,by simp⟩
 | x::es,h=>by
  obtain⟨a,ha,hp⟩:=h x (by simp);obtain⟨l,hl,hq⟩:=yK (f:=f) (p:=p) (es:=es) (fun y hy=>h y (by simp[hy]));refine⟨a::l,by simp[ha,hl],?_⟩;intro b hb;rcases List.mem_cons.1 hb with rfl|hb
  ·exact hp
  ·exact hq b hb
theorem is_sl{U b:Nat}{e:TD}{x:X}(h:oU U (.sl b e) x):∃es:List X,x=.sl false es/\es.length<=U/\es.length*b<=140737488351232/\es.length<=9223372036854775807/\∀y∈es,oU U e y:=by
 obtain⟨h1,h2⟩:=h;simp only[jE]at h1;obtain⟨es,h3,h4⟩:=h1;rw[h3]at h2
 exact⟨es,h2,h4⟩
theorem KF{U:Nat}{k:IntKind}{x:X}(h:oU U (.int k) x):∃n,x=.v (.int k n)/\k.min<=n/\n<=k.max:=by
 obtain⟨h1,h2⟩:=h;obtain⟨n,h3,h4⟩:=h1;rw[h3]at h2
 exact⟨n,h2,h4⟩
def GK(U b n:Nat):Prop:=n<=U/\n*b<=140737488351232/\n<=9223372036854775807
theorem wh{α:Type}{U b:Nat}{e:TD}{f:α->X}{p:α->Prop}(hf:∀y,oU U e y->∃a,y=f a/\p a){x:X}(h:oU U (.sl b e) x) :
 ∃l:List α,x=.sl false (l.map f)/\GK U b l.length/\∀a∈l,p a:=by
 obtain⟨es,rfl,h1,h2,h3,h4⟩:=is_sl h;obtain⟨l,rfl,hp⟩:=yK (fun y hy=>hf y (h4 y hy));rw[List.length_map]at h1 h2 h3
 exact⟨l,rfl,⟨h1,h2,h3⟩,hp⟩
def vY(n:Int):Prop:=-9223372036854775808<=n/\n<=9223372036854775807
theorem M_:IntKind.i64.min=-9223372036854775808:=by decide
theorem M9:IntKind.i64.max=9223372036854775807:=by decide
theorem Ms:IntKind.u8.min=0:=by decide
theorem Mr:IntKind.u8.max=255:=by decide
abbrev GH:TD:=.int .i64
abbrev tdB:TD:=.int .u8
abbrev Gt:TD:=.sl 1 tdB
abbrev tdCol:TD:=.st [GH,GH,GH,GH,GH]
abbrev tdTS:TD:=.st [GH,GH,.sl 40 tdCol]
abbrev OW:TD:=.st [tdB,GH,.str]
abbrev tdRow:TD:=.sl 32 OW
abbrev tdRows:TD:=.sl 24 tdRow
theorem Sw{U:Nat}{x:X}(h:oU U Gt x):∃l:List Int,x=.sl false (l.map u8)/\GK U 1 l.length/\∀k∈l,0<=k/\k<=255:=
 wh (fun y hy=>by
  obtain⟨n,rfl,h1,h2⟩:=KF hy;rw[Ms]at h1;rw[Mr]at h2
  exact⟨n,rfl,h1,h2⟩) h
theorem m_{U:Nat}{xs:List X}(h:jE U GH xs):∃n,xs=[i6 n]/\vY n:=by
 obtain⟨n,h1,h2,h3⟩:=h;rw[M_]at h2;rw[M9]at h3
 exact⟨n,h1,h2,h3⟩
theorem M7{U:Nat}{xs:List X}(h:jE U tdB xs):∃n,xs=[u8 n]/\0<=n/\n<=255:=by
 obtain⟨n,h1,h2,h3⟩:=h;rw[Ms]at h2;rw[Mr]at h3
 exact⟨n,h1,h2,h3⟩
def aK.ok(c:aK):Prop:=vY c.bC/\vY c.distinct/\vY c.degree/\vY c.lo/\vY c.hi
theorem is_col{U:Nat}{x:X}(h:oU U tdCol x):∃c:aK,x=c.enc/\c.ok:=by obtain⟨h1,h2⟩:=h;simp only[jE,dD]at h1;obtain⟨a1,b1,e1,t1,a2,b2,e2,t2,a3,b3,e3,t3,a4,b4,e4,t4,a5,b5,e5,t5,e6⟩:=h1;obtain⟨n1,r1,o1⟩:=m_ (U:=U) t1;obtain⟨n2,r2,o2⟩:=m_ (U:=U) t2;obtain⟨n3,r3,o3⟩:=m_ (U:=U) t3;obtain⟨n4,r4,o4⟩:=m_ (U:=U) t4;obtain⟨n5,r5,o5⟩:=m_ (U:=U) t5;refine⟨⟨n1,n2,n3,n4,n5⟩,?_,o1,o2,o3,o4,o5⟩;rw[h2,e1,e2,e3,e4,e5,e6,r1,r2,r3,r4,r5];rfl
theorem is_ts{U:Nat}{x:X}(h:oU U tdTS x):∃t:TS,x=t.enc false/\vY t.low/\vY t.rows/\GK U 40 t.ah.length/\∀c∈t.ah,c.ok:=by
 obtain⟨h1,h2⟩:=h;rw[jE,dD]at h1
 obtain⟨a1,b1,e1,t1,h1⟩:=h1;rw[dD]at h1
 obtain⟨a2,b2,e2,t2,h1⟩:=h1;rw[dD]at h1
 obtain⟨a3,b3,e3,t3,h1⟩:=h1;rw[dD]at h1
 obtain⟨n1,r1,o1⟩:=m_ (U:=U) t1;obtain⟨n2,r2,o2⟩:=m_ (U:=U) t2;have t3':=t3;rw[jE]at t3'
 obtain⟨es,r3,_⟩:=t3';obtain⟨l,hl,ho,hc⟩:=wh (fun y hy=>is_col hy) (x:=.sl false es) ⟨by rw[He];rw[<-r3];exact t3,rfl⟩;refine⟨⟨n1,n2,l⟩,?_,o1,o2,ho,hc⟩;rw[h2,e1,e2,e3,h1,r1,r2,r3,hl];rfl
theorem Ex.mO{l:List Ex}(h:∀k∈l,k.small):Ex.iK l:=by
 induction l with
 | nil=>simp only[Ex.iK]
 | cons x l ih=>simp only[Ex.iK];exact⟨h x (by simp),ih fun k hk=>h k (by simp[hk])⟩
theorem Pn.mO{l:List Pn}(h:∀k∈l,k.small):Pn.iK l:=by
 induction l with
 | nil=>simp only[Pn.iK]
 | cons x l ih=>simp only[Pn.iK];exact⟨h x (by simp),ih fun k hk=>h k (by simp[hk])⟩
def QE(c:X):Prop:=∃l:List Ex,c=.sl false (l.map Ex.enc)/\aV l/\∀e∈l,e.small
def QP(c:X):Prop:=∃l:List Pn,c=.sl false (l.map Pn.enc)/\aV l/\∀e∈l,e.small
abbrev tdE:TD:=.st [tdB,OW,GH,GH,.ob 30 QE,.ob 31 QP]
abbrev tdAgg:TD:=.st [tdB,GH,.bool]
abbrev tdKey:TD:=.st [GH,.bool]
abbrev tdP:TD:=.st [tdB,GH,Gt,tdRows,.ob 30 QE,.ob 30 QE,.sl 8 GH,.sl 24 tdAgg,.sl 16 tdKey,GH,GH,.ob 31 QP]
theorem ng{α:Type}{U b:Nat}{e:TD}{f:α->X}{p:α->Prop}(hf:∀y,oU U e y->∃a,y=f a/\p a){xs:List X}(h:jE U (.sl b e) xs) :
 ∃l:List α,xs=[.sl false (l.map f)]/\GK U b l.length/\∀a∈l,p a:=by
 have h':=h;rw[jE]at h'
 obtain⟨es,r3,_⟩:=h';subst r3;obtain⟨l,hl,ho,hc⟩:=wh hf (x:=.sl false es) ⟨by rw[He];exact h,rfl⟩;exact⟨l,by rw[hl],ho,hc⟩
theorem M8{U:Nat}{xs:List X}(h1:jE U OW xs):∃v:Val,xs=[u8 v.kind,i6 v.int,.v (.string v.text)]/\v.ok/\JV v.kind:=by simp only[jE,dD]at h1;obtain⟨a1,b1,e1,t1,a2,b2,e2,t2,a3,b3,e3,t3,e4⟩:=h1;obtain⟨n1,r1,o1⟩:=M7 (U:=U) t1;obtain⟨n2,r2,o2⟩:=m_ (U:=U) t2;obtain⟨s3,r3,_⟩:=t3;refine⟨⟨n1,n2,s3⟩,?_,o2,o1⟩;rw[e1,e2,e3,e4,r1,r2,r3];rfl
theorem WE{U:Nat}{x:X}(h:oU U OW x):∃v:Val,x=v.enc/\v.ok/\JV v.kind:=by obtain⟨h1,h2⟩:=h;obtain⟨v,hv,h3⟩:=M8 h1;exact⟨v,by rw[h2,hv];rfl,h3⟩
theorem WC{U:Nat}{x:X}(h:oU U tdRow x):∃r:List Val,x=ql r/\GK U 32 r.length/\∀v∈r,v.ok/\JV v.kind:=wh (fun y hy=>WE hy) h
theorem is_i{U:Nat}{x:X}(h:oU U GH x):∃n,x=i6 n/\vY n:=by
 obtain⟨n,rfl,h1,h2⟩:=KF h;rw[M_]at h1;rw[M9]at h2
 exact⟨n,rfl,h1,h2⟩
theorem is_b{U:Nat}{x:X}(h:oU U tdB x):∃n,x=u8 n/\JV n:=by
 obtain⟨n,rfl,h1,h2⟩:=KF h;rw[Ms]at h1;rw[Mr]at h2
 exact⟨n,rfl,h1,h2⟩
theorem is_agg{U:Nat}{x:X}(h:oU U tdAgg x):∃a:Ag,x=a.enc/\JV a.fn/\ig a.col:=by obtain⟨h1,h2⟩:=h;simp only[jE,dD]at h1;obtain⟨a1,b1,e1,t1,a2,b2,e2,t2,a3,b3,e3,t3,e4⟩:=h1;obtain⟨n1,r1,o1⟩:=M7 (U:=U) t1;obtain⟨n2,r2,o2⟩:=m_ (U:=U) t2;obtain⟨b,r3⟩:=t3;refine⟨⟨n1,n2,b⟩,?_,o1,o2⟩;rw[h2,e1,e2,e3,e4,r1,r2,r3];rfl
theorem is_key{U:Nat}{x:X}(h:oU U tdKey x):∃a:Ky,x=a.enc/\ig a.col:=by obtain⟨h1,h2⟩:=h;simp only[jE,dD]at h1;obtain⟨a2,b2,e2,t2,a3,b3,e3,t3,e4⟩:=h1;obtain⟨n2,r2,o2⟩:=m_ (U:=U) t2;obtain⟨b,r3⟩:=t3;refine⟨⟨n2,b⟩,?_,o2⟩;rw[h2,e2,e3,e4,r2,r3];rfl
theorem Nb{U:Nat}{x:X}(h:oU U tdE x):∃e:Ex,x=e.enc/\e.small:=by
 obtain⟨h1,h2⟩:=h;rw[jE,dD]at h1
 obtain⟨a1,b1,e1,t1,h1⟩:=h1;rw[dD]at h1
 obtain⟨a2,b2,e2,t2,h1⟩:=h1;rw[dD]at h1
 obtain⟨a3,b3,e3,t3,h1⟩:=h1;rw[dD]at h1
 obtain⟨a4,b4,e4,t4,h1⟩:=h1;rw[dD]at h1
 obtain⟨a5,b5,e5,t5,h1⟩:=h1;rw[dD]at h1
 obtain⟨a6,b6,e6,t6,h1⟩:=h1;rw[dD]at h1
 obtain⟨n1,r1,o1⟩:=M7 (U:=U) t1;obtain⟨v,r2,o2,o2'⟩:=M8 t2;obtain⟨n3,r3,o3⟩:=m_ (U:=U) t3;obtain⟨n4,r4,o4⟩:=m_ (U:=U) t4;rw[jE]at t5 t6
 obtain⟨c5,r5,l5,rfl,k5,s5⟩:=t5;obtain⟨c6,r6,l6,rfl,k6,s6⟩:=t6;refine⟨.mk n1 v.kind v.int v.text n3 n4 l5 l6,?_,?_⟩
 ·rw[h2,e1,e2,e3,e4,e5,e6,h1,r1,r2,r3,r4,r5,r6,Ex.ay];rfl
 ·simp only[Ex.small];exact⟨⟨o1,o2'⟩,o2,o3,o4,k5,k6,Ex.mO s5,Pn.mO s6⟩
theorem WB{U:Nat}(hU:U<=1099511627776){x:X}(h:oU U tdP x):∃e:Pn,x=e.enc/\e.small:=by
 obtain⟨h1,h2⟩:=h;rw[jE,dD]at h1
 obtain⟨a1,b1,e1,t1,h1⟩:=h1;rw[dD]at h1
 obtain⟨a2,b2,e2,t2,h1⟩:=h1;rw[dD]at h1
 obtain⟨a3,b3,e3,t3,h1⟩:=h1;rw[dD]at h1
 obtain⟨a4,b4,e4,t4,h1⟩:=h1;rw[dD]at h1
 obtain⟨a5,b5,e5,t5,h1⟩:=h1;rw[dD]at h1
 obtain⟨a6,b6,e6,t6,h1⟩:=h1;rw[dD]at h1
 obtain⟨a7,b7,e7,t7,h1⟩:=h1;rw[dD]at h1
 obtain⟨a8,b8,e8,t8,h1⟩:=h1;rw[dD]at h1
 obtain⟨a9,b9,e9,t9,h1⟩:=h1;rw[dD]at h1
 obtain⟨a10,b10,e10,t10,h1⟩:=h1;rw[dD]at h1
 obtain⟨a11,b11,e11,t11,h1⟩:=h1;rw[dD]at h1
 obtain⟨a12,b12,e12,t12,h1⟩:=h1;rw[dD]at h1
 obtain⟨n1,r1,o1⟩:=M7 (U:=U) t1;obtain⟨n2,r2,o2⟩:=m_ (U:=U) t2;obtain⟨l3,r3,k3,o3⟩:=ng (fun y hy=>is_b hy) t3;obtain⟨l4,r4,k4,o4⟩:=ng (fun y hy=>WC hy) t4;obtain⟨l7,r7,k7,o7⟩:=ng (fun y hy=>is_i hy) t7;obtain⟨l8,r8,k8,o8⟩:=ng (fun y hy=>is_agg hy) t8;obtain⟨l9,r9,k9,o9⟩:=ng (fun y hy=>is_key hy) t9;obtain⟨n10,r10,o10⟩:=m_ (U:=U) t10;obtain⟨n11,r11,o11⟩:=m_ (U:=U) t11;rw[jE]at t5 t6 t12
 obtain⟨c5,r5,l5,rfl,k5,s5⟩:=t5;obtain⟨c6,r6,l6,rfl,k6,s6⟩:=t6;obtain⟨c12,r12,l12,rfl,k12,s12⟩:=t12;refine⟨.mk n1 n2 l3 l4 l5 l6 l7 l8 l9 n10 n11 l12,?_,?_⟩
 ·rw[h2,e1,e2,e3,e4,e5,e6,e7,e8,e9,e10,e11,e12,h1,r1,r2,r3,r4,r5,r6,r7,r8,r9,r10,r11,r12,Pn.ay];rfl
 ·simp only[Pn.small];refine⟨⟨⟨o1,o3,fun r hr v hv=>((o4 r hr).2 v hv).2,fun a ha=>(o8 a ha).1⟩,o2,o10,o11,iq k3.1 hU,iq k4.1 hU,fun r hr=>⟨iq (o4 r hr).1.1 hU,fun v hv=>((o4 r hr).2 v hv).1⟩,k5,k6,iq k7.1 hU,o7,iq k8.1 hU,fun a ha=>(o8 a ha).2,iq k9.1 hU,o9,k12⟩,Ex.mO s5,Ex.mO s6,Pn.mO s12⟩
section
variable {H:Type} {enc:TypeId×Value->H} {w:World} {sh:Nat->Prop} {U:Nat} {B:DataW H->Prop}
mutual
def TD.plain:TD->Bool
 | .sl _ e=>e.plain
 | .st fs=>TD.Fj fs
 | .ob _ _=>false
 | _=>true
def TD.Fj:List TD->Bool
 | []=>true
 | t::l=>t.plain&&TD.Fj l
end
mutual
theorem rX{P:Program}:(td:TD)->td.plain=true->∀N,qw enc P w sh U B td N
 | .sl _ e,h,N=>fun M _=>rX e h M
 | .st fs,h,N=>fun M _=>Ba fs h M
 | .ob _ _,h,N=>by simp[TD.plain]at h
 | .int _,_,_=>trivial
 | .bool,_,_=>trivial
 | .str,_,_=>trivial
theorem Ba{P:Program}:(l:List TD)->TD.Fj l=true->∀N,qx enc P w sh U B l N
 | [],_,_=>trivial
 | t::l,h,N=>by simp only[TD.Fj,bN]at h;exact⟨rX t h.1 N,Ba l h.2 N⟩
end
theorem fit_sl{P:Program}{b:Nat}{e:TD}(h:∀M,qw enc P w sh U B e M){N:Nat}:qw enc P w sh U B (.sl b e) N:=fun M _=>h M
theorem okTE:qY Tryz.prog (.sl 104 tdE) 30=true:=by kernel_rfl
theorem okTP:qY Tryz.prog (.sl 224 tdP) 31=true:=by kernel_rfl
theorem M0{M:Nat}(h:∀K,K<M->J3 enc Tryz.prog w sh U B 30 QE K/\J3 enc Tryz.prog w sh U B 31 QP K):qw enc Tryz.prog w sh U B tdE M:=by intro K hK;have hk:=h K hK;exact⟨trivial,fun _ _=>⟨trivial,trivial,trivial,trivial⟩,trivial,trivial,hk.1,hk.2,trivial⟩
theorem Ws{M:Nat}(h:∀K,K<M->J3 enc Tryz.prog w sh U B 30 QE K/\J3 enc Tryz.prog w sh U B 31 QP K):qw enc Tryz.prog w sh U B tdP M:=by intro K hK;have hk:=h K hK;exact⟨trivial,trivial,fun _ _=>trivial,fun _ _ _ _ _ _=>⟨trivial,trivial,trivial,trivial⟩,hk.1,hk.1,fun _ _=>trivial,fun _ _ _ _=>⟨trivial,trivial,trivial,trivial⟩,fun _ _ _ _=>⟨trivial,trivial,trivial⟩,trivial,trivial,hk.2,trivial⟩
theorem W9(hsh:∀b,b<w.heap.size->sh b)(hB:Bd B U)(hU:U<=1099511627776):∀N,J3 enc Tryz.prog w sh U B 30 QE N/\J3 enc Tryz.prog w sh U B 31 QP N:=by
 intro N;induction N using Nat.strongRecOn with
 | _ N ih=>
  refine⟨fun fuel cs d ps hd h hw hb=>?_,fun fuel cs d ps hd h hw hb=>?_⟩
  ·obtain⟨xs,hg⟩:=jT hsh hB (.sl 104 tdE) fuel _ cs d ps (fun M hM=>M0 fun K hK=>ih K (by omega)) okTE h hw hb;obtain⟨l,hl,ho,hc⟩:=ng (fun y hy=>Nb hy) hg.has;exact⟨xs,hg.len,hg.n,hg.YA,hg.one,⟨_,hl,l,rfl,iq ho.1 hU,hc⟩,hg.deep⟩
  ·obtain⟨xs,hg⟩:=jT hsh hB (.sl 224 tdP) fuel _ cs d ps (fun M hM=>Ws fun K hK=>ih K (by omega)) okTP h hw hb;obtain⟨l,hl,ho,hc⟩:=ng (fun y hy=>WB hU hy) hg.has;exact⟨xs,hg.len,hg.n,hg.YA,hg.one,⟨_,hl,l,rfl,iq ho.1 hU,hc⟩,hg.deep⟩
end
end Go.Proofs.YtbmkfjmlepjpfaaGreatDoor
