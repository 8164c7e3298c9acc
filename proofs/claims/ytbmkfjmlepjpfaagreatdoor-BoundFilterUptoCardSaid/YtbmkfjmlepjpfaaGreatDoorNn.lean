/- A part of the proof. -/
import Derived.Test.YtbmkfjmlepjpfaaGreatDoorCq
import Derived.Lib.Mul64
import Derived.Laws.Bits64b
import Derived.Test.YtbmkfjmlepjpfaaGreatDoorAw
set_option linter.all false
set_option maxRecDepth 100000
namespace Go.Proofs.YtbmkfjmlepjpfaaGreatDoor
open Go.RowKit
def dL(n:Int):Int:=min (max n 0) 4611686018427387904
def eF(a b:Int):Int:=min (dL a*dL b) 4611686018427387904
def nu(a b:Int):Int:=min (dL a+dL b) 4611686018427387904
theorem bE(n:Int):0<=dL n/\dL n<=4611686018427387904:=by unfold dL;omega
theorem tN(n:Int):call T Cj [i6 n]=some (i6 (dL n)):=by refine q227g (by simp) ?_;simp[dL]
theorem j_(n:Int):call T LB [i6 n]=some (i6 (dL n)):=by
 refine q98g (by simp) ?_;generalize hR:dL n=R;replace hR:=Hd.mk hR;simp;refine aj (fun h=>?_) (fun h=>?_)<;>(have h':=h;try simp at h')<;>(try simp[*])
 ·rw[<-hR.out];unfold dL;omega
 refine aj (fun h=>?_) (fun h=>?_)<;>(have h':=h;try simp at h')<;>(try simp[*])
 ·rw[<-hR.out];unfold dL;omega
 ·rw[<-hR.out];unfold dL;omega
theorem u64_in{n:Int}(h:0<=n)(h':n<18446744073709551616):IntKind.u64.wrap n=n:=by rw[IntKind.wrap_u64];omega
theorem kW{n:Int}(h:-9223372036854775808<=n)(h':n<=9223372036854775807):IntKind.i64.wrap n=n:=jv h h'
theorem vI(a b:Int):call T jW [i6 a,i6 b]=some (i6 (nu a b)):=by refine q224g (by simp) ?_;have ha:=bE a;have hb:=bE b;simp[tN];unfold nu;rw[u64_in (n:=dL a) (by omega) (by omega),u64_in (n:=dL b) (by omega) (by omega),u64_in (by omega) (by omega),kW (by omega) (by omega)]
theorem l_(a b:Int):call T QG [i6 a,i6 b]=some (i6 (nu a b)):=by
 refine q99g (by simp) ?_;have ha:=bE a;have hb:=bE b;have hw:IntKind.i64.wrap (4611686018427387904-dL b)=4611686018427387904-dL b:=kW (by omega) (by omega);generalize hR:nu a b=R;replace hR:=Hd.mk hR;simp[j_];refine aj (fun h=>?_) (fun h=>?_)<;>(have h':=h;try simp at h')<;>(try simp[*])
 ·rw[<-hR.out];unfold nu;omega
 ·rw[kW (by omega) (by omega),<-hR.out];unfold nu;omega
theorem quo_lt{x y:Int}(hx:0<=x)(hy:0<y):((4611686018427387904:Int).tdiv y<x)=(4611686018427387904<x*y):=by rw[Int.tdiv_eq_ediv_of_nonneg (by omega)];rw[Int.ediv_lt_iff_lt_mul hy]
theorem Rz{s:ax}(a b:Int)(h:¬b=0):h_ .quo (.v (.int .i64 a)) (.v (.int .i64 b)) s=some (.v (.int .i64 (IntKind.i64.wrap (a.tdiv b))),s):=by simp[h_,jY,h]
theorem iT(a b:Int):call T Eb [i6 a,i6 b]=some (i6 (eF a b)):=by
 refine q101g (by simp) ?_;have ha:=bE a;have hb:=bE b;generalize hR:eF a b=R;replace hR:=Hd.mk hR;simp[j_];refine bg (fun h=>?_) (fun h=>?_)<;>(have h':=h;try simp at h')<;>(try simp[*])
 ·rw[<-hR.out];unfold eF;rw[h',Int.zero_mul];omega
 refine aj (fun k=>?_) (fun k=>?_)<;>(have k':=k;try simp at k')<;>(try simp[*])
 ·rw[<-hR.out];unfold eF;rw[k',Int.mul_zero];omega
 have hq:=Rz (s:=s0) 4611686018427387904 (dL b) k';have h0:=Int.tdiv_nonneg (a:=4611686018427387904) (b:=dL b) (by omega) hb.1;have h1:(4611686018427387904:Int).tdiv (dL b)<=4611686018427387904:=by rw[Int.tdiv_eq_ediv_of_nonneg (by omega)];exact Int.ediv_le_self _ (by omega)
 rw[kW (by omega) (by omega)]at hq
 simp[hq,quo_lt ha.1 (show 0<dL b by omega)];refine aj (fun l=>?_) (fun l=>?_)<;>(have l':=l;try simp at l')<;>(try simp[*])
 ·rw[<-hR.out];unfold eF;omega
 ·have:=Int.mul_nonneg ha.1 hb.1;rw[kW (by omega) (by omega),<-hR.out];unfold eF;omega
theorem maskN(a:Nat)(ha:a<18446744073709551616){s:ax}:h_ .and (.v (.int .u64 (a:Int))) (.v (.int .u64 4294967295)) s=some (.v (.int .u64 ((a % 4294967296:Nat):Int)),s):=by
 have h:=bits_and_u64_nat a 4294967295 ha (by omega);have e:a&&& 4294967295=a % 4294967296:=Nat.and_two_pow_sub_one_eq_mod a 32;rw[e]at h
 simp[h_,jY,GQ];exact h
theorem Vm(a:Nat){s:ax}:h_ .shr (.v (.int .u64 (a:Int))) (.v (.int .u64 32)) s=some (.v (.int .u64 ((a / 4294967296:Nat):Int)),s):=by
 have e:(a:Int).fdiv 4294967296=((a / 4294967296:Nat):Int):=by rw[Int.fdiv_eq_ediv_of_nonneg _ (by omega)];omega
 simp[h_,jY,IntKind.bits,e]
theorem WO(a b:Nat)(h:a*b<18446744073709551616){s:ax}:h_ .mul (.v (.int .u64 (a:Int))) (.v (.int .u64 (b:Int))) s=some (.v (.int .u64 ((a*b:Nat):Int)),s):=by simp only[h_,jY];rw[<-Int.natCast_mul,u64_in (by omega) (by omega)];rfl
theorem V3(a b:Nat)(h:a+b<18446744073709551616){s:ax}:h_ .add (.v (.int .u64 (a:Int))) (.v (.int .u64 (b:Int))) s=some (.v (.int .u64 ((a+b:Nat):Int)),s):=by simp only[h_,jY];rw[<-Int.natCast_add,u64_in (by omega) (by omega)];rfl
theorem mulM(a b:Nat){s:ax}:h_ .mul (.v (.int .u64 (a:Int))) (.v (.int .u64 (b:Int))) s=some (.v (.int .u64 ((a*b % 18446744073709551616:Nat):Int)),s):=by simp only[h_,jY];rw[<-Int.natCast_mul,IntKind.wrap_u64];rfl
theorem vF(x y:Nat)(hx:x<18446744073709551616)(hy:y<18446744073709551616):call T Oq [.v (.int .u64 x),.v (.int .u64 y)]=some (.cZ [.v (.int .u64 ((x*y / 18446744073709551616:Nat):Int)),.v (.int .u64 ((x*y % 18446744073709551616:Nat):Int))]):=by
 refine q184g (by simp) ?_;obtain⟨bd,bt,bw,hhi⟩:=Lib.mul64_hi x y hx hy;have ba:=Lib.half_mul_le (a:=x / 4294967296) (b:=y / 4294967296) (by omega) (by omega);have bb:=Lib.half_mul_le (a:=x / 4294967296) (b:=y % 4294967296) (by omega) (by omega);have bc:=Lib.half_mul_le (a:=x % 4294967296) (b:=y / 4294967296) (by omega) (by omega);have lo:=mulM x y (s:=s0);generalize hA:x*y / 18446744073709551616=A at *
 generalize hB:x*y % 18446744073709551616=B at *
 have hA':x*y / 18446744073709551616<18446744073709551616:=by rw[Nat.div_lt_iff_lt_mul (by omega)];exact Nat.mul_lt_mul_of_lt_of_lt hx hy
 rw[hA]at hA'
 have m1:=maskN x hx (s:=s0);have m2:=maskN y hy (s:=s0);have d1:=Vm x (s:=s0);have d2:=Vm y (s:=s0);generalize x / 4294967296=x1 at *
 generalize x % 4294967296=x0 at *
 generalize y / 4294967296=y1 at *
 generalize y % 4294967296=y0 at *
 have p00:=WO x0 y0 bd (s:=s0);have p10:=WO x1 y0 (by omega) (s:=s0);have p01:=WO x0 y1 (by omega) (s:=s0);have p11:=WO x1 y1 (by omega) (s:=s0);generalize x0*y0=w0 at *
 generalize x1*y0=q10 at *
 generalize x0*y1=q01 at *
 generalize x1*y1=q11 at *
 have e1:=Vm w0 (s:=s0);generalize w0 / 4294967296=z at *
 have e2:=V3 q10 z bt (s:=s0);generalize q10+z=t at *
 have e3:=maskN t bt (s:=s0);have e4:=Vm t (s:=s0);generalize ht1:t % 4294967296=t1 at *
 generalize ht2:t / 4294967296=t2 at *
 have e5:=V3 t1 q01 bw (s:=s0);generalize t1+q01=v at *
 have e6:=Vm v (s:=s0);generalize v / 4294967296=v1 at *
 have e7:=V3 q11 t2 (by omega) (s:=s0);have e8:=V3 (q11+t2) v1 (by omega) (s:=s0);rw[hhi]at e8
 generalize q11+t2=u at *
 simp[m1,m2,d1,d2,p00,p10,p01,p11,e1,e2,e3,e4,e5,e6,e7,e8,lo,-Ry,-Rx]
theorem nS(a b:Int):call T oN [i6 a,i6 b]=some (i6 (eF a b)):=by
 refine q225g (by simp) ?_;have ha:=bE a;have hb:=bE b;obtain⟨x,hx⟩:=Int.eq_ofNat_of_zero_le ha.1;obtain⟨y,hy⟩:=Int.eq_ofNat_of_zero_le hb.1;have hm:=vF x y (by omega) (by omega);have ha':=ha;have hb':=hb;generalize hR:eF a b=R;replace hR:=Hd.mk hR;simp[tN];rw[u64_in ha.1 (by omega),u64_in hb.1 (by omega),hx,hy];simp[hm];have e1:(x:Int)*y=((x*y:Nat):Int):=(Int.natCast_mul x y).symm;rw[e1];have hP:R=min ((x*y:Nat):Int) 4611686018427387904:=by rw[<-hR.out];unfold eF;rw[hx,hy,e1]
 generalize x*y=p at *
 refine aj (fun h=>?_) (fun h=>?_)<;>(have h':=h;try simp at h')<;>(try simp[*])
 ·omega
 ·rw[kW (by omega) (by omega)];omega
def b_(kind:Int)(c:aK):Int:=if kind=0 then 0 else if kind=3 then 2 else if kind=2 then 4611686018427387904 else if c.hi<c.lo then 0 else min (c.hi-c.lo) 4611686018427387903+1
def ig(n:Int):Prop:=-9223372036854775808<=n/\n<=9223372036854775807
def mE(c:aK):Prop:=ig c.lo/\ig c.hi
theorem C9(kind:Int)(c:aK)(h:mE c):call T Jy [u8 kind,.agg [i6 c.bC,i6 c.distinct,i6 c.degree,i6 c.lo,i6 c.hi]]=some (i6 (b_ kind c)):=by
 refine q213g (by simp) ?_;obtain⟨⟨l1,l2⟩,h1,h2⟩:=h;generalize hR:b_ kind c=R;replace hR:=Hd.mk hR;have hw:¬c.hi<c.lo->IntKind.u64.wrap (IntKind.u64.wrap c.hi-IntKind.u64.wrap c.lo)=c.hi-c.lo:=by intro h;simp only[IntKind.wrap_u64];omega
 simp;refine aj (fun k0=>?_) (fun k0=>?_)<;>(have k0':=k0;try simp at k0')<;>(try simp[*])
 ·rw[<-hR.out];simp[b_,k0']
 refine aj (fun k3=>?_) (fun k3=>?_)<;>(have k3':=k3;try simp at k3')<;>(try simp[*])
 ·rw[<-hR.out];simp[b_,k3']
 refine aj (fun k2=>?_) (fun k2=>?_)<;>(have k2':=k2;try simp at k2')<;>(try simp[*])
 ·rw[<-hR.out];simp[b_,k2']
 refine aj (fun k1=>?_) (fun k1=>?_)<;>(have k1':=k1;try simp at k1')<;>(try simp[*])
 ·rw[<-hR.out];simp[b_,k0',k3',k2',k1']
 ·rw[<-hR.out,kW (n:=min _ _) (by omega) (by omega),kW (by omega) (by omega)];simp[b_,k0',k3',k2',k1'];omega
theorem iU(kind:Int)(c:aK)(h:mE c):call T yR [u8 kind,.agg [i6 c.bC,i6 c.distinct,i6 c.degree,i6 c.lo,i6 c.hi]]=some (i6 (b_ kind c)):=by
 refine q152g (by simp) ?_;obtain⟨⟨l1,l2⟩,h1,h2⟩:=h;generalize hR:b_ kind c=R;replace hR:=Hd.mk hR;have hw:¬c.hi<c.lo->IntKind.u64.wrap (IntKind.u64.wrap c.hi-IntKind.u64.wrap c.lo)=c.hi-c.lo:=by intro h;simp only[IntKind.wrap_u64];omega
 simp;refine aj (fun k0=>?_) (fun k0=>?_)<;>(have k0':=k0;try simp at k0')<;>(try simp[*])
 ·rw[<-hR.out];simp[b_,k0']
 refine aj (fun k3=>?_) (fun k3=>?_)<;>(have k3':=k3;try simp at k3')<;>(try simp[*])
 ·rw[<-hR.out];simp[b_,k3']
 refine aj (fun k2=>?_) (fun k2=>?_)<;>(have k2':=k2;try simp at k2')<;>(try simp[*])
 ·rw[<-hR.out];simp[b_,k2']
 refine aj (fun k1=>?_) (fun k1=>?_)<;>(have k1':=k1;try simp at k1')<;>(try simp[*])
 ·rw[<-hR.out];simp[b_,k0',k3',k2',k1']
 refine aj (fun k4=>?_) (fun k4=>?_)<;>(have k4':=k4;try simp at k4')<;>(try simp[*])
 ·rw[<-hR.out];simp[b_,k0',k3',k2',k1'];omega
 ·rw[<-hR.out,kW (n:=c.hi-c.lo) (by omega) (by omega),kW (by omega) (by omega)];simp[b_,k0',k3',k2',k1'];omega
def iW(kind:Int)(c:aK)(r:Int):aK:=
 if min c.distinct (min r (b_ kind c))=0\/min c.degree r=0 then⟨min c.bC r,0,0,if kind=1 then 1 else c.lo,if kind=1 then 0 else c.hi⟩
 else⟨min c.bC r,min c.distinct (min r (b_ kind c)),min c.degree r,c.lo,c.hi⟩
theorem nW{kind:Int}{c:aK}{r:Int}(h:min c.distinct (min r (b_ kind c))=0\/min c.degree r=0):iW kind c r=⟨min c.bC r,0,0,if kind=1 then 1 else c.lo,if kind=1 then 0 else c.hi⟩:=if_pos h
theorem SV{kind:Int}{c:aK}{r:Int}(h:¬min c.distinct (min r (b_ kind c))=0)(h':¬min c.degree r=0):iW kind c r=⟨min c.bC r,min c.distinct (min r (b_ kind c)),min c.degree r,c.lo,c.hi⟩:=if_neg (fun q=>q.elim h h')
def kS(c:aK):Int:=nu (eF c.distinct c.degree) c.bC
def RN(c:aK):Prop:=0<=c.bC/\0<=c.distinct/\0<=c.degree/\mE c
theorem nV(kind:Int)(c:aK):0<=b_ kind c:=by
 unfold b_;split
 ·omega
 split
 ·omega
 split
 ·omega
 split
 ·omega
 ·omega
theorem mr(kind:Int)(c:aK)(r:Int)(h:RN c)(hr:0<=r):call T N8 [u8 kind,.agg [i6 c.bC,i6 c.distinct,i6 c.degree,i6 c.lo,i6 c.hi],i6 r]=some ((iW kind c r).enc):=by
 refine q158g (by simp) ?_;obtain⟨o1,o2,o3,o4⟩:=h;have hct:∀a b d:Int,call T yR [u8 kind,.agg [i6 a,i6 b,i6 d,i6 c.lo,i6 c.hi]]=some (i6 (b_ kind c)):=fun a b d=>iU kind ⟨a,b,d,c.lo,c.hi⟩ o4;have hc0:=nV kind c;generalize hR:iW kind c r=R;replace hR:=Hd.mk hR;simp[hct];refine bg (fun h1=>?_) (fun h1=>?_)<;>(have h1':=h1;try simp at h1')<;>(try simp[*])
 ·refine aj (fun k=>?_) (fun k=>?_)<;>(have k':=k;try simp at k')<;>(try simp[*])
  ·rw[<-hR.out,nW (.inl h1'),if_pos k',if_pos k'];simp
  ·rw[<-hR.out,nW (.inl h1'),if_neg k',if_neg k'];simp
 refine bg (fun h2=>?_) (fun h2=>?_)<;>(have h2':=h2;try simp at h2')<;>(try simp[*])
 ·refine aj (fun k=>?_) (fun k=>?_)<;>(have k':=k;try simp at k')<;>(try simp[*])
  ·rw[<-hR.out,nW (.inr h2'),if_pos k',if_pos k'];simp
  ·rw[<-hR.out,nW (.inr h2'),if_neg k',if_neg k'];simp
 refine aj (fun h3=>?_) (fun h3=>?_)<;>(have h3':=h3;try simp at h3')<;>(try simp[*])
 ·exfalso;omega
 ·rw[<-hR.out,SV h1' h2'];simp
def kC(ks:List Int)(t:TS):List aK:=List.zipWith (fun k c=>iW k c t.rows) ks t.ah
def mh(r:Int)(l:List aK):Int:=l.foldl (fun r c=>min r (kS c)) r
def jK(ks:List Int)(t:TS):TS:=⟨t.low,mh t.rows (kC ks t),kC ks t⟩
noncomputable def chB(t u:TS):Bool:=@decide (t≠u) (Classical.propDecidable _)
theorem DF{t u:TS}:chB t u=false↔t=u:=by unfold chB;simp
theorem LP(r:Int)(l:List aK)(c:aK):mh r (l++[c])=min (mh r l) (kS c):=by simp[mh]
theorem VS{α β γ:Type}(f:α->β->γ){l:List α}{m:List β}{i:Nat}(h:i<l.length)(h':i<m.length):(List.zipWith f l m).take (i+1)=(List.zipWith f l m).take i++[f l[i] m[i]]:=by rw[List.take_add_one];simp[List.getElem?_zipWith,h,h']
theorem MQ(a b:aK):∃q,(!decide (a.bC=b.bC)||(!decide (a.distinct=b.distinct)||(!decide (a.degree=b.degree)||(!decide (a.lo=b.lo)||!decide (a.hi=b.hi)))))=q/\Hd (q=false↔a=b):=by refine⟨_,rfl,⟨?_⟩⟩;cases a;cases b;simp
theorem ts_eq{l r:Int}{C:List aK}{t:TS}(hl:l=t.low):(TS.mk l r C=t)↔(C=t.ah/\r=t.rows):=by cases t;subst hl;simp;exact⟨fun h=>⟨h.2,h.1⟩,fun h=>⟨h.2,h.1⟩⟩
theorem V5{B b q:Bool}(h:B=false↔(b=false/\q=false)):B=(b||q):=by cases b<;>cases q<;>cases B<;>simp at h<;>rfl
set_option maxHeartbeats 2000000 in
theorem sU(ks:List Int)(t:TS)(hk:ks.length=t.ah.length)(hl:t.ah.length<=3518437208883)(hr:0<=t.rows)(hc:∀c∈t.ah,RN c) :
 call T NZ [.sl false (ks.map u8),.agg [i6 t.low,i6 t.rows,.sl false (t.ah.map aK.enc)]]=some (.cZ [(jK ks t).enc true,.v (.bool (chB (jK ks t) t))]):=by
 refine q156g (by simp) ?_;have hl':t.ah.length<=9223372036854775807:=by omega
 generalize hb:chB (jK ks t) t=B;have hC:Hd (kC ks t=List.zipWith (fun k c=>iW k c t.rows) ks t.ah):=⟨rfl⟩
 have ho:Hd (jK ks t=⟨t.low,mh t.rows (kC ks t),kC ks t⟩):=⟨rfl⟩
 replace hb:=Hd.mk hb;generalize jK ks t=u at *
 generalize kC ks t=C at *
 have hCl:C.length=t.ah.length:=by rw[hC.out,List.length_zipWith];omega
 simp;refine av (σ:=Nat) (fun i e s'=>e 0=.sl false (ks.map u8)/\e 3=.ptr 3 1 0/\e 4=.ptr 4 1 0/\(∃g n x,e 6=.ptr 6 g 0/\s' 6=⟨g,true,some (.box (.agg [i6 t.low,i6 (mh t.rows (C.take i)),x])),n⟩/\
  ((i=0/\x=.nil)\/(0<i/\∃g' n',x=.ref 44 g' 5 0 i/\s' 44=⟨g',true,some (.row 5 ((C.take i).map aK.enc)),n'⟩)))/\
  (∃n,s' 3=⟨1,true,some (.box (t.enc false)),n⟩)/\(∃n,s' 4=⟨1,true,some (.box (.agg [i6 0,i6 0,.nil])),n⟩)/\(∃b,e 7=.v (.bool b)/\Hd (b=false↔C.take i=t.ah.take i))/\e 8=i6 i/\i<=t.ah.length) (fun i=>t.ah.length-i) ?_ 0 _ _
  ⟨by simp,by simp,by simp,⟨1,_,.nil,by simp,by simp;exact⟨rfl,rfl⟩,.inl ⟨rfl,rfl⟩⟩,⟨_,by simp;rfl⟩,⟨_,by simp;rfl⟩,⟨false,by simp,Hd.mk (by simp)⟩,by simp,by omega⟩
 rintro i e s' ⟨e0,e3,e4,⟨g6,n6,x,e6,s6,hx⟩,⟨n3,s3⟩,⟨n4,s4⟩,⟨b,e7,hbb⟩,e8,hi'⟩ ih;simp[e0,e8,hk];refine aj (fun q=>?_) (fun q=>?_)<;>(have q':=q;try simp at q')<;>(try simp[*])
 ·have hk':i<ks.length:=by omega
  have hmc:C.take (i+1)=C.take i++[iW ks[i] t.ah[i] t.rows]:=by rw[hC.out];exact VS _ hk' q'
  have f1:=mr ks[i] t.ah[i] t.rows (hc _ (gG q')) hr;generalize iW ks[i] t.ah[i] t.rows=z at *
  have hzz:(C.take i++[z]=t.ah.take i++[t.ah[i]])↔(C.take i=t.ah.take i/\z=t.ah[i]):=by
   constructor
   ·intro h;have:=List.append_inj' h rfl;exact⟨this.1,by simpa using this.2⟩
   ·rintro⟨h1,h2⟩;rw[h1,h2]
  have htc:t.ah.take (i+1)=t.ah.take i++[t.ah[i]]:=by rw[List.take_add_one];simp[q']
  have fin:∀e' s2 b',e' 0=.sl false (ks.map u8)->e' 3=.ptr 3 1 0->e' 4=.ptr 4 1 0->e' 6=.ptr 6 g6 0->
   (∃n,s2 6=⟨g6,true,some (.box (.agg [i6 t.low,i6 (min (mh t.rows (C.take i)) (kS z)),.ref 44 (s2 44).g 5 0 (i+1)])),n⟩)->
   (∃n,s2 44=⟨(s2 44).g,true,some (.row 5 ((C.take i).map aK.enc++[z.enc])),n⟩)->(∃n,s2 3=⟨1,true,some (.box (t.enc false)),n⟩)->(∃n,s2 4=⟨1,true,some (.box (.agg [i6 0,i6 0,.nil])),n⟩)->
   e' 7=.v (.bool b')->(b'=false↔(b=false/\z=t.ah[i]))->e' 8=i6 ((i+1:Nat):Int)->
   wp T [.lp Ud,.bl 0,.code ((IC.aH [3,6,61,63] [] N7 Jr).seq IC.ret)] e' s2 (fun e s=>aC e s [.cell 4 3 true,.tmp 5]=some (.cZ [u.enc true,.v (.bool B)])):=by
   intro e' s2 b' y0 y3 y4 y6 ⟨n,z6⟩ ⟨m,z44⟩ z3 z4 y7 hb' y8;refine ih.out (i+1) _ _ ⟨y0,y3,y4,⟨g6,n,_,y6,by rw[hmc,LP];exact z6,.inr ⟨by omega,_,m,rfl,?_⟩⟩,z3,z4,⟨b',y7,Hd.mk ?_⟩,y8,q'⟩ (by omega)
   ·rw[hmc,List.map_append,ku,List.map_nil];exact z44
   ·rw[hmc,htc,hzz,hb',hbb.out]
  replace fin:=Hd.mk fin;clear hzz;simp[f1,e3,e4,e6,e7,e8,s3,s4,s6,q',hk'];obtain⟨q,hq1,hq2⟩:=MQ z t.ah[i];simp only[hq1];have f2:=iT z.distinct z.degree;have f3:call T QG [i6 (eF z.distinct z.degree),i6 z.bC]=some (i6 (kS z)):=l_ _ _;rcases hx with⟨hi0,rfl⟩|⟨hi0,g',n',rfl,s44⟩
  ·have ht0:C.take i=[]:=by rw[hi0];rfl
   cases q
   ·simp[e0,e3,e4,e6,e7,e8,s3,s4,s6,f2,f3];refine fin.out _ _ b (by simp[e0]) (by simp[e3]) (by simp[e4]) (by simp[e6]) (aP (by simp[s6]) (by simp[s6]) (by simp[s6,hi0])) (aP (by simp) (by simp) (by simp[ht0])) (aP (by simp[s3]) (by simp[s3]) (by simp[s3])) (aP (by simp[s4]) (by simp[s4]) (by simp[s4])) (by simp[e7]) ⟨fun h=>⟨h,hq2.out.1 rfl⟩,fun h=>h.1⟩ (by simp[ai q' hl'])
   ·simp[e0,e3,e4,e6,e7,e8,s3,s4,s6,f2,f3];refine fin.out _ _ true (by simp[e0]) (by simp[e3]) (by simp[e4]) (by simp[e6]) (aP (by simp[s6]) (by simp[s6]) (by simp[s6,hi0])) (aP (by simp) (by simp) (by simp[ht0])) (aP (by simp[s3]) (by simp[s3]) (by simp[s3])) (aP (by simp[s4]) (by simp[s4]) (by simp[s4])) (by simp[e7]) ⟨fun h=>by simp at h,fun h=>by have:=hq2.out.2 h.2;simp at this⟩ (by simp[ai q' hl'])
  ·have hmn:i=min i C.length/\i<=3518437208882:=⟨by omega,by omega⟩
   cases q
   ·simp[e0,e3,e4,e6,e7,e8,s3,s4,s6,f2,f3,s44];rw[if_pos hmn];simp[e0,e3,e4,e6,e7,e8,s3,s4,s6,f2,f3,s44];refine fin.out _ _ b (by simp[e0]) (by simp[e3]) (by simp[e4]) (by simp[e6]) (aP (by simp[s6]) (by simp[s6]) (by simp[s6,s44])) (aP (by simp) (by simp) (by simp[List.map_take])) (aP (by simp[s3]) (by simp[s3]) (by simp[s3])) (aP (by simp[s4]) (by simp[s4]) (by simp[s4])) (by simp[e7]) ⟨fun h=>⟨h,hq2.out.1 rfl⟩,fun h=>h.1⟩ (by simp[ai q' hl'])
   ·simp[e0,e3,e4,e6,e7,e8,s3,s4,s6,f2,f3,s44];rw[if_pos hmn];simp[e0,e3,e4,e6,e7,e8,s3,s4,s6,f2,f3,s44];refine fin.out _ _ true (by simp[e0]) (by simp[e3]) (by simp[e4]) (by simp[e6]) (aP (by simp[s6]) (by simp[s6]) (by simp[s6,s44])) (aP (by simp) (by simp) (by simp[List.map_take])) (aP (by simp[s3]) (by simp[s3]) (by simp[s3])) (aP (by simp[s4]) (by simp[s4]) (by simp[s4])) (by simp[e7]) ⟨fun h=>by simp at h,fun h=>by have:=hq2.out.2 h.2;simp at this⟩ (by simp[ai q' hl'])
 ·have hie:i=t.ah.length:=by omega
  subst hie;have htk:C.take t.ah.length=C:=wU (by omega);have htk2:t.ah.take t.ah.length=t.ah:=wU (by omega);rw[htk]at hx s6
  have hbb':=hbb.out;rw[htk,htk2]at hbb'
  replace hbb':=Hd.mk hbb';clear hbb;have hone:x.one=true:=by rcases hx with⟨_,rfl⟩|⟨_,g',n',rfl,_⟩<;>rfl
  have hsl:bW s' 44 45 5 x (C.map aK.enc):=by
   rcases hx with⟨h0,rfl⟩|⟨h0,g',n',rfl,s44⟩
   ·exact .inl ⟨by rw[List.eq_nil_of_length_eq_zero (hCl.trans h0)];rfl,rfl⟩
   ·refine .inr ⟨?_,44,g',n',by simp[hCl],s44,by omega,by omega⟩;intro hc;have:=congrArg List.length hc;simp only[List.length_map,List.length_nil]at this;omega
  have hsl4:∀c,bW (bF s' 4 c) 44 45 5 x (C.map aK.enc):=fun c=>hsl.fr ((Fr.refl 4 5 s').bF c (by omega)) (by omega);have hB:Hd (B=(b||!decide (mh t.rows C=t.rows))):=by refine⟨V5 ?_⟩;rw[<-hb.out,DF,ho.out,ts_eq rfl,hbb'.out];simp
  have hu:Hd (u.enc true=.agg [i6 t.low,i6 (mh t.rows C),.sl true (C.map aK.enc)]):=⟨by rw[ho.out]⟩
  rw[htk,hu.out,hB.out];clear hB hu hb ho hC;generalize mh t.rows C=rr at *
  cases b
  ·simp[hone,e3,e4,e6,s3,s4,s6,(hsl4 _).mK (by simp)]
  ·simp[hone,e3,e4,e6,s3,s4,s6,(hsl4 _).mK (by simp)]
def CO(c d:aK):Prop:=c.bC<=d.bC/\c.distinct<=d.distinct/\c.degree<=d.degree/\((c.lo=d.lo/\c.hi=d.hi)\/(c.lo=1/\c.hi=0))
theorem CO.refl(c:aK):CO c c:=⟨by omega,by omega,by omega,.inl ⟨rfl,rfl⟩⟩
theorem CO.antisymm{c d:aK}(h:CO c d)(k:CO d c):c=d:=by
 obtain⟨h1,h2,h3,h4⟩:=h;obtain⟨k1,k2,k3,k4⟩:=k;cases c;cases d;simp only[aK.mk.injEq]at *
 omega
theorem CO.trans{a b c:aK}(h:CO a b)(k:CO b c):CO a c:=by obtain⟨h1,h2,h3,h4⟩:=h;obtain⟨k1,k2,k3,k4⟩:=k;exact⟨by omega,by omega,by omega,by omega⟩
theorem Hy{k:Int}{c d:aK}(h:CO c d):b_ k c<=b_ k d:=by
 obtain⟨_,_,_,h4⟩:=h;unfold b_;split
 ·omega
 split
 ·omega
 split
 ·omega
 ·split<;>split<;>omega
theorem pO(k:Int)(c:aK)(r:Int) :
 (iW k c r=⟨min c.bC r,0,0,if k=1 then 1 else c.lo,if k=1 then 0 else c.hi⟩/\(min c.distinct (min r (b_ k c))=0\/min c.degree r=0))\/
 (iW k c r=⟨min c.bC r,min c.distinct (min r (b_ k c)),min c.degree r,c.lo,c.hi⟩/\¬min c.distinct (min r (b_ k c))=0/\¬min c.degree r=0):=by
 by_cases h:min c.distinct (min r (b_ k c))=0\/min c.degree r=0
 ·exact .inl ⟨nW h,h⟩
 ·exact .inr ⟨if_neg h,fun q=>h (.inl q),fun q=>h (.inr q)⟩
theorem Nh{k:Int}{c:aK}{r:Int}(h:RN c)(hr:0<=r):RN (iW k c r):=by
 obtain⟨h1,h2,h3,⟨⟨l1,l2⟩,l3,l4⟩⟩:=h;have hc:=nV k c;rcases pO k c r with⟨e,_⟩|⟨e,_,_⟩<;>rw[e]
 ·refine⟨by show 0<=min c.bC r;omega,Int.le_refl _,Int.le_refl _,⟨?_,?_⟩,?_,?_⟩<;>(show _<=_;simp only;split<;>omega)
 ·exact⟨by show 0<=min c.bC r;omega,by show 0<=min c.distinct _;omega,by show 0<=min c.degree r;omega,⟨l1,l2⟩,l3,l4⟩
theorem Ng{k:Int}{c:aK}{r:Int}(h:RN c)(hr:0<=r):CO (iW k c r) c:=by
 obtain⟨h1,h2,h3,_⟩:=h;rcases pO k c r with⟨e,_⟩|⟨e,_,_⟩<;>rw[e]
 ·refine⟨by show min c.bC r<=_;omega,h2,h3,?_⟩;by_cases hk:k=1
  ·exact .inr ⟨if_pos hk,if_pos hk⟩
  ·exact .inl ⟨if_neg hk,if_neg hk⟩
 ·exact⟨by show min c.bC r<=_;omega,by show min c.distinct _<=_;omega,by show min c.degree r<=_;omega,.inl ⟨rfl,rfl⟩⟩
theorem D5{k:Int}{c d:aK}{r r':Int}(hc:RN c)(hd:RN d)(hr:0<=r)(h:CO c d)(hrr:r<=r'):CO (iW k c r) (iW k d r'):=by
 have hm:=Hy (k:=k) h;have hn:=nV k c;obtain⟨c1,c2,c3,_⟩:=hc;obtain⟨d1,d2,d3,_⟩:=hd;obtain⟨h1,h2,h3,h4⟩:=h;rcases pO k c r with⟨e,q⟩|⟨e,q1,q2⟩<;>rcases pO k d r' with⟨e',q'⟩|⟨e',q1',q2'⟩<;>rw[e,e']
 ·refine⟨by show min c.bC r<=min d.bC r';omega,Int.le_refl _,Int.le_refl _,?_⟩;by_cases hk:k=1
  ·simp[hk]
  ·simpa[hk]using h4
 ·refine⟨by show min c.bC r<=min d.bC r';omega,by show 0<=min d.distinct _;omega,by show 0<=min d.degree _;omega,?_⟩;by_cases hk:k=1
  ·simp[hk]
  ·simpa[hk]using h4
 ·exfalso;omega
 ·exact⟨by show min c.bC r<=min d.bC r';omega,by show min c.distinct _<=min d.distinct _;omega,by show min c.degree r<=min d.degree _;omega,h4⟩
theorem nH{a b:Int}(h:a<=b):dL a<=dL b:=by unfold dL;omega
theorem Es{c d:aK}(h:CO c d):kS c<=kS d:=by
 obtain⟨h1,h2,h3,_⟩:=h;have p1:=nH h2;have p2:=nH h3;have q1:=bE c.distinct;have q2:=bE c.degree;have q3:=bE d.distinct;have hm:dL c.distinct*dL c.degree<=dL d.distinct*dL d.degree:=Int.mul_le_mul p1 p2 q2.1 q3.1;have ht:eF c.distinct c.degree<=eF d.distinct d.degree:=by unfold eF;omega
 have r1:=nH ht;have r2:=nH h1;unfold kS nu;omega
theorem rP(c:aK):0<=kS c:=by have:=bE (eF c.distinct c.degree);have:=bE c.bC;unfold kS nu;omega
theorem Cr:∀(l:List aK) (r:Int),mh r l<=r
 | [],r=>Int.le_refl _
 | c::l,r=>by have:=Cr l (min r (kS c));show mh (min r (kS c)) l<=r;omega
theorem El:∀(l:List aK) (r:Int) (c:aK),c∈l->mh r l<=kS c
 | d::l,r,c,h=>by
  show mh (min r (kS d)) l<=_;rcases List.mem_cons.1 h with rfl|h
  ·have:=Cr l (min r (kS c));omega
  ·exact El l _ c h
theorem Bo:∀(l:List aK) (r z:Int),z<=r->(∀c∈l,z<=kS c)->z<=mh r l
 | [],r,z,h,_=>h
 | d::l,r,z,h,k=>Bo l (min r (kS d)) z (by have:=k d (by simp);omega) (fun c hc=>k c (by simp[hc]))
def wW:List aK->List aK->Prop
 | [],[]=>True
 | c::l,d::m=>CO c d/\wW l m
 | _,_=>False
theorem wW.refl:∀l,wW l l
 | []=>trivial
 | c::l=>⟨CO.refl c,wW.refl l⟩
theorem wW.trans:∀ {l m n},wW l m->wW m n->wW l n
 | [],[],[],_,_=>trivial
 | _::_,_::_,_::_,h,k=>⟨h.1.trans k.1,wW.trans h.2 k.2⟩
theorem wW.antisymm:∀ {l m},wW l m->wW m l->l=m
 | [],[],_,_=>rfl
 | _::_,_::_,h,k=>by rw[h.1.antisymm k.1,wW.antisymm h.2 k.2]
theorem wW.len:∀ {l m},wW l m->l.length=m.length
 | [],[],_=>rfl
 | _::_,_::_,h=>by simp[wW.len h.2]
theorem wW.get:∀ {l m:List aK} (h:wW l m) (i:Nat) (h1:i<l.length) (h2:i<m.length),CO l[i] m[i]
 | _::_,_::_,h,0,_,_=>h.1
 | _::l,_::m,h,i+1,h1,h2=>wW.get (l:=l) (m:=m) h.2 i (by simpa using h1) (by simpa using h2)
theorem wW.set:∀ {l m:List aK} (h:wW l m) (i:Nat) {c d:aK},CO c d->wW (l.set i c) (m.set i d)
 | [],[],_,_,_,_,_=>trivial
 | _::_,_::_,h,0,_,_,k=>⟨k,h.2⟩
 | _::l,_::m,h,i+1,_,_,k=>⟨h.1,wW.set (l:=l) (m:=m) h.2 i k⟩
def mC(c:aK):Nat:=c.bC.toNat+c.distinct.toNat+c.degree.toNat+(if c.lo=1/\c.hi=0 then 0 else 1)
theorem mC_le{c d:aK}(h:CO c d)(hc:RN c):mC c<=mC d/\(mC c=mC d->c=d):=by
 obtain⟨h1,h2,h3,h4⟩:=h;obtain⟨c1,c2,c3,_⟩:=hc;cases c;cases d;simp only[mC,aK.mk.injEq]at *
 split<;>split<;>omega
def mL(l:List aK):Nat:=(l.map mC).sum
theorem ZN:∀ {l m},wW l m->(∀c∈l,RN c)->mL l<=mL m/\(mL l=mL m->l=m)
 | [],[],_,_=>⟨Nat.le_refl _,fun _=>rfl⟩
 | c::l,d::m,h,k=>by
  have h1:=mC_le h.1 (k c (by simp));have h2:=ZN h.2 (fun c hc=>k c (by simp[hc]));simp only[mL,ku,List.sum_cons]at *
  refine⟨by omega,fun e=>?_⟩;rw[h1.2 (by omega),h2.2 (by omega)]
structure wI (ks:List Int) (t:TS):Prop where
 len:ks.length=t.ah.length
 rows:0<=t.rows
 ah:∀c∈t.ah,RN c
structure zM (t u:TS):Prop where
 low:t.low=u.low
 rows:t.rows<=u.rows
 ah:wW t.ah u.ah
theorem zM.refl(t:TS):zM t t:=⟨rfl,Int.le_refl _,wW.refl _⟩
theorem zM.trans{a b c:TS}(h:zM a b)(k:zM b c):zM a c:=⟨h.low.trans k.low,Int.le_trans h.rows k.rows,h.ah.trans k.ah⟩
theorem zM.antisymm{t u:TS}(h:zM t u)(k:zM u t):t=u:=by
 have h1:=h.low;have h2:=Int.le_antisymm h.rows k.rows;have h3:=h.ah.antisymm k.ah;cases t;cases u
 simp_all
def mT(t:TS):Nat:=t.rows.toNat+mL t.ah
theorem SI{ks:List Int}{t u:TS}(h:zM t u)(ho:wI ks t)(hn:¬t=u):mT t<mT u:=by
 have h1:=ZN h.ah ho.ah;have h2:=h.rows;have h3:=ho.rows;unfold mT;by_cases he:mL t.ah=mL u.ah
 ·have hc:=h1.2 he;by_cases hr:t.rows=u.rows
  ·exfalso;apply hn;have hl:=h.low;cases t;cases u;simp_all
  ·omega
 ·omega
def Fx(ks:List Int)(t:TS):Prop:=∀(i:Nat) (h:i<ks.length) (h':i<t.ah.length),iW ks[i] t.ah[i] t.rows=t.ah[i]/\t.rows<=kS t.ah[i]
structure Gr (ks:List Int) (t n:TS):Prop where
 ok:wI ks n
 fx:Fx ks n
 le:zM n t
 top:∀z,wI ks z->Fx ks z->zM z t->zM z n
theorem Gr.uniq{ks:List Int}{t n m:TS}(h:Gr ks t n)(k:Gr ks t m):n=m:=(k.top n h.ok h.fx h.le).antisymm (h.top m k.ok k.fx k.le)
structure Way (ks:List Int) (t n:TS):Prop where
 ok:wI ks n
 le:zM n t
 top:∀z,wI ks z->Fx ks z->zM z t->zM z n
theorem Way.start{ks:List Int}{t:TS}(h:wI ks t):Way ks t t:=⟨h,zM.refl t,fun _ _ _ h=>h⟩
theorem Way.fin{ks:List Int}{t n:TS}(h:Way ks t n)(f:Fx ks n):Gr ks t n:=⟨h.ok,f,h.le,h.top⟩
theorem EZ:∀ {l m:List aK},l.length=m.length->(∀(i:Nat) (h1:i<l.length) (h2:i<m.length),CO l[i] m[i])->wW l m
 | [],[],_,_=>trivial
 | c::l,d::m,h,k=>⟨k 0 (by simp) (by simp),EZ (by simpa using h) (fun i h1 h2=>k (i+1) (by simpa using h1) (by simpa using h2))⟩
theorem sD{ks:List Int}{t:TS}(h:ks.length=t.ah.length):(kC ks t).length=t.ah.length:=by unfold kC;rw[List.length_zipWith];omega
theorem su{ks:List Int}{t:TS}{i:Nat}(h1:i<(kC ks t).length)(h2:i<ks.length)(h3:i<t.ah.length):(kC ks t)[i]=iW ks[i] t.ah[i] t.rows:=by simp[kC]
theorem Fg{ks:List Int}{t:TS}(h:wI ks t):wI ks (jK ks t):=by
 have hl:=sD h.len;refine⟨h.len.trans hl.symm,?_,?_⟩
 ·exact Bo _ _ _ h.rows (fun c _=>rP c)
 ·intro c hc;obtain⟨i,hi,rfl⟩:=List.getElem_of_mem (show c∈kC ks t from hc);rw[su hi (by have:=h.len;omega) (by omega)];exact Nh (h.ah _ (gG _)) h.rows
theorem Fb{ks:List Int}{t:TS}(h:wI ks t):zM (jK ks t) t:=by
 have hl:=sD h.len;refine⟨rfl,Cr _ _,EZ hl ?_⟩;intro i h1 h2;have hk:i<ks.length:=by have:=h.len;omega
 rw[show(jK ks t).ah[i]=iW ks[i] t.ah[i] t.rows from su h1 hk h2];exact Ng (h.ah _ (gG _)) h.rows
theorem Ta{ks:List Int}{t z:TS}(h:wI ks t)(hz:wI ks z)(hf:Fx ks z)(hle:zM z t):zM z (jK ks t):=by
 have hl:=sD h.len;have hzl:=hle.ah.len;have hcol:∀(i:Nat) (h1:i<z.ah.length) (h2:i<(kC ks t).length),CO z.ah[i] (kC ks t)[i]:=by
  intro i h1 h2;have hk:i<ks.length:=by have:=h.len;omega
  rw[su h2 hk (by omega),<-(hf i hk h1).1];exact D5 (hz.ah _ (gG _)) (h.ah _ (gG _)) hz.rows (hle.ah.get i h1 (by omega)) hle.rows
 refine⟨hle.low,Bo _ _ _ hle.rows ?_,EZ (by rw[hzl];exact hl.symm) hcol⟩;intro c hc;obtain⟨i,hi,rfl⟩:=List.getElem_of_mem hc;have h1:i<z.ah.length:=by omega
 exact Int.le_trans (hf i (by have:=h.len;omega) h1).2 (Es (hcol i h1 hi))
theorem Np{ks:List Int}{t:TS}(h:wI ks t)(he:jK ks t=t):Fx ks t:=by
 intro i h1 h2;have hl:=sD h.len;have ec:kC ks t=t.ah:=congrArg TS.ah he;have er:mh t.rows (kC ks t)=t.rows:=congrArg TS.rows he;have e1:(kC ks t)[i]'(by omega)=t.ah[i]:=by simp only[ec]
 rw[su (by omega) h1 h2]at e1
 refine⟨e1,?_⟩;have:=El (kC ks t) t.rows t.ah[i] (by rw[ec];exact gG _);omega
theorem Way.once{ks:List Int}{t n:TS}(h:Way ks t n):Way ks t (jK ks n):=
 ⟨Fg h.ok,(Fb h.ok).trans h.le,fun z h1 h2 h3=>Ta h.ok h1 h2 (h.top z h1 h2 h3)⟩
def stepT(ks:List Int)(t:TS)(i:Nat)(k:Int)(c:aK):TS:=⟨t.low,min t.rows (kS (iW k c t.rows)),t.ah.set i (iW k c t.rows)⟩
theorem step_ok{ks:List Int}{t:TS}{i:Nat}(h:wI ks t)(h1:i<ks.length)(h2:i<t.ah.length):wI ks (stepT ks t i ks[i] t.ah[i]):=by
 refine⟨by simp[stepT,h.len],?_,?_⟩
 ·have:=rP (iW ks[i] t.ah[i] t.rows);have:=h.rows;show 0<=min _ _;omega
 ·intro c hc;rcases List.mem_or_eq_of_mem_set hc with hc|rfl
  ·exact h.ah c hc
  ·exact Nh (h.ah _ (gG _)) h.rows
theorem x_{l:List aK}{i:Nat}(h:i<l.length):l.set i l[i]=l:=List.set_getElem_self h
theorem OV{ks:List Int}{t:TS}{i:Nat}(h:wI ks t)(h1:i<ks.length)(h2:i<t.ah.length):zM (stepT ks t i ks[i] t.ah[i]) t:=by
 refine⟨rfl,by show min _ _<=_;omega,?_⟩;have:=(wW.refl t.ah).set i (Ng (k:=ks[i]) (h.ah _ (gG h2)) h.rows);rw[x_ h2]at this
 exact this
theorem Vx{ks:List Int}{t z:TS}{i:Nat}(h:wI ks t)(h1:i<ks.length)(h2:i<t.ah.length)(hz:wI ks z)(hf:Fx ks z)(hle:zM z t):zM z (stepT ks t i ks[i] t.ah[i]):=by
 have hzl:=hle.ah.len;have h3:i<z.ah.length:=by omega
 have hc:CO z.ah[i] (iW ks[i] t.ah[i] t.rows):=by rw[<-(hf i h1 h3).1];exact D5 (hz.ah _ (gG _)) (h.ah _ (gG _)) hz.rows (hle.ah.get i h3 h2) hle.rows
 refine⟨hle.low,?_,?_⟩
 ·have:=Es hc;have:=(hf i h1 h3).2;have:=hle.rows;show _<=min _ _;omega
 ·have:=hle.ah.set i hc;rw[x_ h3]at this
  exact this
theorem Way.step{ks:List Int}{t n:TS}(h:Way ks t n){i:Nat}(h1:i<ks.length)(h2:i<n.ah.length):Way ks t (stepT ks n i ks[i] n.ah[i]):=
 ⟨step_ok h.ok h1 h2,(OV h.ok h1 h2).trans h.le,fun z p q r=>Vx h.ok h1 h2 p q (h.top z p q r)⟩
theorem Zc{ks:List Int}{t:TS}{i:Nat}(h1:i<ks.length)(h2:i<t.ah.length)(h:¬(iW ks[i] t.ah[i] t.rows=t.ah[i]/\min t.rows (kS (iW ks[i] t.ah[i] t.rows))=t.rows)):¬stepT ks t i ks[i] t.ah[i]=t:=by
 intro e;apply h;have ec:t.ah.set i (iW ks[i] t.ah[i] t.rows)=t.ah:=congrArg TS.ah e;have er:min t.rows (kS (iW ks[i] t.ah[i] t.rows))=t.rows:=congrArg TS.rows e;refine⟨?_,er⟩;have:(t.ah.set i (iW ks[i] t.ah[i] t.rows))[i]'(by simpa using h2)=t.ah[i]:=by simp only[ec]
 simpa using this
noncomputable def dw(ks:List Int)(t:TS):TS:=@dite TS (∃n,Gr ks t n) (Classical.propDecidable _) (fun h=>Classical.choose h) (fun _=>t)
theorem wF{ks:List Int}{t n:TS}(h:Gr ks t n):dw ks t=n:=by
 have he:∃n,Gr ks t n:=⟨n,h⟩
 unfold dw;rw[dif_pos he];exact(Classical.choose_spec he).uniq h
theorem Jb{ks:List Int}{t:TS}:∀(m:Nat) (n:TS),mT n<=m->Way ks t n->∃n,Gr ks t n
 | m,n,hm,h=>by
  by_cases he:jK ks n=n
  ·exact⟨n,h.fin (Np h.ok he)⟩
  ·have:=SI (Fb h.ok) (Fg h.ok) he;cases m with
   | zero=>omega
   | succ m=>exact Jb m _ (by omega) h.once
theorem BF{ks:List Int}{t:TS}(h:wI ks t):Gr ks t (dw ks t):=by obtain⟨n,hn⟩:=Jb (mT t) t (Nat.le_refl _) (Way.start h);rw[wF hn];exact hn
set_option maxHeartbeats 1000000 in
theorem jd(ks:List Int)(t:TS)(hl:t.ah.length<=3518437208883)(hok:wI ks t) :
 call T Jq [.sl false (ks.map u8),.agg [i6 t.low,i6 t.rows,.sl false (t.ah.map aK.enc)]]=some ((dw ks t).enc true):=by
 refine q155g (by simp) ?_;have hkl:=hok.len;generalize hR:dw ks t=R;replace hR:=Hd.mk hR;have hw:Hd (Way ks t t):=⟨Way.start hok⟩
 simp;refine av (σ:=TS×Bool×Bool) (fun x e s=>e 0=.sl false (ks.map u8)/\e 3=.ptr 3 1 0/\e 4=.ptr 4 1 0/\e 5=.v (.bool x.2.1)/\(∃n,s 3=⟨1,true,some (.box (.agg [i6 x.1.low,i6 x.1.rows,.sl x.2.2 (x.1.ah.map aK.enc)])),n⟩)/\(∃n,s 4=⟨1,true,some (.box (.agg [i6 0,i6 0,.nil])),n⟩)/\
  Hd (Way ks t x.1/\(x.2.1=false->Fx ks x.1/\x.2.2=true))) (fun x=>mT x.1+x.2.1.toNat) ?_ (t,true,false) _ _
  ⟨by simp,by simp,by simp,by simp,⟨_,by simp;rfl⟩,⟨_,by simp;rfl⟩,⟨hw.out,by simp⟩⟩
 rintro⟨n,b,f⟩ e s ⟨e0,e3,e4,e5,⟨n3,s3⟩,⟨n4,s4⟩,hx⟩ ih;simp at e5 s3 hx;cases b
 ·simp[e0,e3,e4,e5,s3,s4];have hn:R=n:=hR.out.symm.trans (wF (hx.out.1.fin (hx.out.2 rfl).1));rw[hn];exact⟨rfl,rfl,(hx.out.2 rfl).2,rfl⟩
 ·have ho:=sU ks n hx.out.1.ok.len (by have:=hx.out.1.ok.len;omega) hx.out.1.ok.rows hx.out.1.ok.ah;have hwo:Hd (Way ks t (jK ks n)):=⟨hx.out.1.once⟩
  have hch:Hd (chB (jK ks n) n=false↔jK ks n=n):=⟨DF⟩
  have hfx:Hd (jK ks n=n->Fx ks n):=⟨fun h=>Np hx.out.1.ok h⟩
  have hlt:Hd (¬jK ks n=n->mT (jK ks n)<mT n):=⟨fun h=>SI (Fb hx.out.1.ok) (Fg hx.out.1.ok) h⟩
  generalize chB (jK ks n) n=c at *
  generalize jK ks n=m at *
  simp[e0,e3,e4,e5,s3,s4,ho];refine ih.out (m,c,true) _ _ ⟨by simp[e0],by simp[e3],by simp[e4],by simp,⟨_,by simp[s3];rfl⟩,⟨_,by simp[s4];rfl⟩,⟨hwo.out,fun h=>?_⟩⟩ ?_
  ·have e:=hch.out.1 h;have:=hfx.out e;rw[e];exact⟨this,rfl⟩
  ·show mT m+c.toNat<mT n+1;cases c
   ·rw[hch.out.1 rfl];exact Nat.lt_succ_self _
   ·have:¬m=n:=fun h=>by have:=hch.out.2 h;simp at this
    have:=hlt.out this;show mT m+1<_;omega
theorem Ht:∀ {ks:List Int} {cs:List aK},cs.length=ks.length->lC ks cs=true->(∀c∈cs,mE c)->∀c∈cs,RN c
 | [],[],_,_,_=>by simp
 | k::ks,c::cs,hl,hc,hi=>by
  simp only[lC,bN]at hc;intro d hd;rcases List.mem_cons.1 hd with rfl|hd
  ·have h1:=hc.1;simp[nU,jZ]at h1
   exact⟨by omega,by omega,by omega,hi d (by simp)⟩
  ·exact Ht (by simpa using hl) hc.2 (fun c hc=>hi c (by simp[hc])) d hd
theorem qZ{ks:List Int}{t:TS}(h:fC ks t=true)(hi:∀c∈t.ah,mE c):wI ks t:=by have hl:=R9 h;simp only[fC,bN]at h;obtain⟨_,_,_,hr,hc⟩:=h;exact⟨hl.symm,by simp[jZ]at hr;omega,Ht hl hc hi⟩
theorem MI:T mg=some (.uK uH):=by kernel_rfl
theorem yG(f:Bool)(s:ax):bZ (run T) T mg [.sl f []] s=some (.nil,s):=by simp only[bZ,MI];rfl
theorem vZ(f:Bool)(c:aK)(cs:List aK)(s:ax)(h:(c::cs).length<=3518437208883):bZ (run T) T mg [.sl f ((c::cs).map aK.enc)] s=some (.ref 4005 ((s 4005).g+2) 5 0 (cs.length+1),aN (aN s 4005 (.row 5 [])) 4005 (.row 5 ((c::cs).map aK.enc))):=by
 simp only[bZ,MI,ku,uH];rw[if_pos]
 ·simp
 ·refine⟨?_,by simpa using h⟩;simp
theorem Dp(t:TS)(hl:t.ah.length<=3518437208883)(s:ax):wp T [.code Uv] (bG [t.enc false]) s (fun e s'=>∃r,dX e s' [.cell 2 3 true]=some r/\sN 1000 2000 4005 4006 s s'/\∃x,r=.agg [i6 t.low,i6 t.rows,x]/\bW s' 4005 4006 5 x (t.ah.map aK.enc)):=by
 obtain⟨low,rows,ah⟩:=t;cases ah with
 | nil=>
  simp[yG];refine⟨.agg [i6 low,i6 rows,.nil],by simp[dX,bV,dZ],?_,.nil,rfl,.inl ⟨rfl,rfl⟩⟩;exact(((sN.aN (fun _ _ _=>rfl) _ (by omega)).aN _ (by omega)).bF _ (by omega)).bF _ (by omega)
 | cons c cs=>
  have hc:=fun s=>vZ false c cs s hl;simp only[ku]at hc;simp[hc];refine⟨.agg [i6 low,i6 rows,.ref 4005 ((s 4005).g+2) 5 0 (cs.length+1)],by simp[dX,bV,dZ],?_,.ref 4005 ((s 4005).g+2) 5 0 (cs.length+1),rfl,.inr ⟨by simp,4005,(s 4005).g+2,_,by simp,by simp;rfl,by omega,by omega⟩⟩;exact(((((sN.aN (fun _ _ _=>rfl) _ (by omega)).aN _ (by omega)).aN _ (by omega)).aN _ (by omega)).bF _ (by omega)).bF _ (by omega)
theorem Df(t:TS)(hl:t.ah.length<=3518437208883)(s:ax):∃r,bZ (run T) T Ow [.agg [i6 t.low,i6 t.rows,.sl false (t.ah.map aK.enc)]] s=some r/\sN 1000 2000 4005 4006 s r.2/\∃x,r.1=.agg [i6 t.low,i6 t.rows,x]/\bW r.2 4005 4006 5 x (t.ah.map aK.enc):=
 fF (nt:=8) (res:=[.cell 2 3 true]) (body:=Uv) (P:=fun r=>sN 1000 2000 4005 4006 s r.2/\∃x,r.1=.agg [i6 t.low,i6 t.rows,x]/\bW r.2 4005 4006 5 x (t.ah.map aK.enc)) (by kernel_rfl) (by simp) (Dp t hl s)
def VZ(o:Nat)(s:ax)(t:TS)(e:Env)(s':ax):Prop:=∃r,dX e s' [.cell 4 3 true]=some r/\sN 2000 3000 o (o+1) s s'/\∃x,r=.agg [i6 t.low,i6 t.rows,x]/\bW s' o (o+1) 5 x (t.ah.map aK.enc)
set_option maxHeartbeats 4000000 in
theorem CF{fl:Bool}(ks:List Int)(t:TS)(hok:wI ks t)(hl:t.ah.length<=3518437208883)(h0:0<t.ah.length)(o g n0:Nat)(ho:o<2000\/3000<=o)(s:ax)(hs:s o=⟨g,true,some (.row 5 (t.ah.map aK.enc)),n0⟩) :
 wp T [.code Oy] (bG [.sl fl (ks.map u8),.agg [i6 t.low,i6 t.rows,.ref o g 5 0 t.ah.length]]) s (VZ o s (dw ks t)):=by
 have hl':t.ah.length<=9223372036854775807:=by omega
 have hkl:Hd (ks.length=t.ah.length):=⟨hok.len⟩
 have q1:¬o=2003:=by omega
 have q2:¬2003=o:=by omega
 have q3:¬o=2004:=by omega
 have q4:¬2004=o:=by omega
 have q5:¬o=2007:=by omega
 have q6:¬2007=o:=by omega
 generalize hR:dw ks t=R;replace hR:=Hd.mk hR;have hw:Hd (Way ks t t):=⟨Way.start hok⟩
 simp;refine av (σ:=TS) (fun n e s'=>e 0=.sl fl (ks.map u8)/\(∃g',e 3=.ptr 2003 g' 0/\∃m,s' 2003=⟨g',true,some (.box (.agg [i6 n.low,i6 n.rows,.ref o g 5 0 n.ah.length])),m⟩)/\(∃g',e 4=.ptr 2004 g' 0/\∃m,s' 2004=⟨g',true,some (.box (.agg [i6 0,i6 0,.nil])),m⟩)/\
  (∃m,s' o=⟨g,true,some (.row 5 (n.ah.map aK.enc)),m⟩)/\Hd (Way ks t n)/\sN 2000 3000 o (o+1) s s') (fun n=>mT n) ?_ t _ _
  ⟨by simp,⟨(s 2003).g+1,by simp,_,by simp;rfl⟩,⟨(s 2004).g+1,by simp,_,by simp;rfl⟩,⟨_,by simp[q1,q2,q3,q4,hs];rfl⟩,hw,(sN.aN (fun _ _ _=>rfl) _ (by omega)).aN _ (by omega)⟩
 rintro n e s' ⟨e0,⟨g3,e3,m3,s3⟩,⟨g4,e4,m4,s4⟩,⟨mo,so⟩,hway,hF⟩ ih;have hnk:Hd (ks.length=n.ah.length):=⟨hway.out.ok.len⟩
 have hnl:Hd (n.ah.length=t.ah.length):=⟨by have:=hway.out.ok.len;have:=hkl.out;omega⟩
 clear hw;simp[e3,s3,so];refine av (σ:=Nat) (fun i e s''=>e 0=.sl fl (ks.map u8)/\e 3=.ptr 2003 g3 0/\(∃m,s'' 2003=⟨g3,true,some (.box (.agg [i6 n.low,i6 n.rows,.ref o g 5 0 n.ah.length])),m⟩)/\e 4=.ptr 2004 g4 0/\(∃m,s'' 2004=⟨g4,true,some (.box (.agg [i6 0,i6 0,.nil])),m⟩)/\
  (∃m,s'' o=⟨g,true,some (.row 5 (n.ah.map aK.enc)),m⟩)/\e 10=.ref o g 5 0 n.ah.length/\e 11=i6 n.ah.length/\e 12=i6 i/\i<=n.ah.length/\sN 2000 3000 o (o+1) s s''/\
  Hd (∀(j:Nat) (h:j<ks.length) (h':j<n.ah.length),j<i->iW ks[j] n.ah[j] n.rows=n.ah[j]/\n.rows<=kS n.ah[j])) (fun i=>n.ah.length-i) ?_ 0 _ _
  ⟨by simp[e0],by simp[e3],⟨m3,s3⟩,by simp[e4],⟨m4,s4⟩,⟨mo,so⟩,by simp,by simp,by simp,by omega,hF,⟨fun j _ _ h=>by omega⟩⟩
 clear e0 e3 s3 e4 s4 so hF;clear mo m4 m3 e s';rintro i e s' ⟨e0,e3,⟨m3,s3⟩,e4,⟨m4,s4⟩,⟨mo,so⟩,e10,e11,e12,hi',hF,hfx⟩ ih2;simp[e11,e12];refine aj (fun q=>?_) (fun q=>?_)<;>(have q':=q;try simp at q')<;>(try simp[*])
 ·have hik:i<ks.length:=by have:=hnk.out;omega
  have hco:=hway.out.ok.ah _ (gG q');have hcn:∀a b d,call T Jy [u8 ks[i],.agg [i6 a,i6 b,i6 d,i6 n.ah[i].lo,i6 n.ah[i].hi]]=some (i6 (b_ ks[i] n.ah[i])):=fun a b d=>C9 ks[i] ⟨a,b,d,n.ah[i].lo,n.ah[i].hi⟩ hco.2.2.2;replace hco:=Hd.mk hco;have fin:∀e' s2,e' 0=.sl fl (ks.map u8)->e' 3=.ptr 2003 g3 0->(∃m,s2 2003=⟨g3,true,some (.box (.agg [i6 n.low,i6 n.rows,.ref o g 5 0 n.ah.length])),m⟩)->e' 4=.ptr 2004 g4 0->(∃m,s2 2004=⟨g4,true,some (.box (.agg [i6 0,i6 0,.nil])),m⟩)->
   (∃m,s2 o=⟨g,true,some (.row 5 ((n.ah.map aK.enc).set i (iW ks[i] n.ah[i] n.rows).enc)),m⟩)->e' 10=.ref o g 5 0 n.ah.length->e' 11=i6 n.ah.length->e' 12=i6 i->e' 6=.ep o g 5 i 0->(∃g7,e' 7=.ptr 2007 g7 0/\∃m,s2 2007=⟨g7,true,some (.box n.ah[i].enc),m⟩)->sN 2000 3000 o (o+1) s s2->
   wp T [It.code ((IC.aH [] [] F3 Cf).seq ((IC.aH [] [] F4 Cg).seq (IC.cond (Ar.t 116) ((IC.ops F5).seq (IC.exit 1)) IC.skip))),
    It.bl 3,It.code (IC.ops OA),It.lp Ux,It.bl 2,It.code ((IC.ops OB).seq IC.ret),It.bl 1,It.lp Lx,It.bl 0] e' s2 (VZ o s R):=by
   intro e' s2 y0 y3 ⟨m3,z3⟩ y4 ⟨m4,z4⟩ ⟨mo,zo⟩ y10 y11 y12 y6 ⟨g7,y7,m7,z7⟩ hF2;have hst:Hd (Way ks t (stepT ks n i ks[i] n.ah[i])):=⟨hway.out.step hik q'⟩
   have hlt:Hd (¬stepT ks n i ks[i] n.ah[i]=n->mT (stepT ks n i ks[i] n.ah[i])<mT n):=⟨fun h=>SI (OV hway.out.ok hik q') (step_ok hway.out.ok hik q') h⟩
   have hne:Hd (¬(iW ks[i] n.ah[i] n.rows=n.ah[i]/\min n.rows (kS (iW ks[i] n.ah[i] n.rows))=n.rows)->¬stepT ks n i ks[i] n.ah[i]=n):=⟨Zc hik q'⟩
   have hsc:Hd (stepT ks n i ks[i] n.ah[i]=⟨n.low,min n.rows (kS (iW ks[i] n.ah[i] n.rows)),n.ah.set i (iW ks[i] n.ah[i] n.rows)⟩):=⟨rfl⟩
   have hnc:Hd (∀(j:Nat) (h:j<ks.length) (h':j<n.ah.length),j=i->iW ks[j] n.ah[j] n.rows=iW ks[i] n.ah[i] n.rows):=⟨fun j h h' e=>by subst e;rfl⟩
   generalize iW ks[i] n.ah[i] n.rows=z at *
   generalize stepT ks n i ks[i] n.ah[i]=w at *
   obtain⟨b,hb1,hb2⟩:=MQ z n.ah[i];have f2:=nS z.distinct z.degree;have f3:call T jW [i6 (eF z.distinct z.degree),i6 z.bC]=some (i6 (kS z)):=vI _ _;have hz:((n.ah.map aK.enc).set i z.enc)[i]?=some z.enc:=by simp[q']
   simp[y0,y3,y4,y6,y7,y10,y11,y12,z3,z4,zo,z7,f2,f3,hz,q1,q2,q3,q4,q5,q6,hb1];have up:∀e3' s3',e3' 0=.sl fl (ks.map u8)->e3' 3=.ptr 2003 g3 0->(∃m,s3' 2003=⟨g3,true,some (.box (.agg [i6 n.low,i6 (min n.rows (kS z)),.ref o g 5 0 n.ah.length])),m⟩)->e3' 4=.ptr 2004 g4 0->(∃m,s3' 2004=⟨g4,true,some (.box (.agg [i6 0,i6 0,.nil])),m⟩)->
    (∃m,s3' o=⟨g,true,some (.row 5 ((n.ah.map aK.enc).set i z.enc)),m⟩)->sN 2000 3000 o (o+1) s s3'->¬(z=n.ah[i]/\min n.rows (kS z)=n.rows)->wp T [It.lp Lx,It.bl 0] e3' s3' (VZ o s R):=by
    intro e3' s3' x0 x3 ⟨p3,u3⟩ x4 ⟨p4,u4⟩ ⟨po,uo⟩ hF3 hn;have hlt':=hlt.out (hne.out hn);have hst':=hst.out;rw[hsc.out]at hlt' hst'
    refine ih.out ⟨n.low,min n.rows (kS z),n.ah.set i z⟩ _ _ ⟨x0,⟨g3,x3,p3,by rw[u3];simp⟩,⟨g4,x4,p4,u4⟩,⟨po,by rw[uo];simp[List.map_set]⟩,⟨hst'⟩,hF3⟩ hlt'
   replace up:=Hd.mk up;have hb2':=hb2.out;replace hb2:=Hd.mk hb2';clear hb2';cases b
   ·simp[y0,y3,y4,y6,y7,y10,y11,y12,z3,z4,zo,z7,q1,q2,q3,q4,q5,q6];refine aj (fun r=>?_) (fun r=>?_)<;>(have r':=r;try simp at r')<;>(try simp[*])
    ·exact up.out _ _ (by simp[y0]) (by simp[y3]) (aP (by simp[z3]) (by simp[z3]) (by simp[z3])) (by simp[y4]) (aP (by simp[z4]) (by simp[z4]) (by simp[z4])) (aP (by simp[zo,q1,q2]) (by simp[zo,q1,q2]) (by simp[zo,q1,q2])) (hF2.bF _ (by omega)) (fun h=>by have:=h.2;omega)
    ·have hzc:=hb2.out.1 rfl;refine ih2.out (i+1) _ _ ⟨by simp[y0],by simp[y3],⟨m3,z3⟩,by simp[y4],⟨m4,z4⟩,⟨mo,?_⟩,by simp[y10],by simp[y11],by simp[ai q' (show n.ah.length<=9223372036854775807 by have:=hnl.out;omega)],q',hF2,⟨?_⟩⟩ (by omega)
     ·rw[zo,hzc,<-List.map_set,x_ q']
     ·intro j h h' hj;by_cases hji:j=i
      ·have:=hnc.out j h h' hji;subst hji;exact⟨this.trans hzc,by rw[<-hzc];omega⟩
      ·exact hfx.out j h h' (by omega)
   ·simp[y0,y3,y4,y6,y7,y10,y11,y12,z3,z4,zo,z7,q1,q2,q3,q4,q5,q6];exact up.out _ _ (by simp[y0]) (by simp[y3]) (aP (by simp[z3]) (by simp[z3]) (by simp[z3])) (by simp[y4]) (aP (by simp[z4]) (by simp[z4]) (by simp[z4])) (aP (by simp[zo,q1,q2]) (by simp[zo,q1,q2]) (by simp[zo,q1,q2])) (hF2.bF _ (by omega)) (fun h=>by have:=hb2.out.2 h.1;simp at this)
  replace fin:=Hd.mk fin;simp[e0,e3,e10,e12,s3,so,q',hik,q1,q2,q3,q4,q5,q6,hcn];generalize It.code ((IC.aH [] [] F3 Cf).seq ((IC.aH [] [] F4 Cg).seq (IC.cond (Ar.t 116) ((IC.ops F5).seq (IC.exit 1)) IC.skip)))=K at fin ⊢;refine bg (fun h1=>?_) (fun h1=>?_)<;>(have h1':=h1;try simp at h1')<;>(try simp[*])
  ·refine aj (fun k=>?_) (fun k=>?_)<;>(have k':=k;try simp at k')<;>(try simp[*])
   ·have hz:=nW (kind:=ks[i]) (c:=n.ah[i]) (r:=n.rows) (.inl h1');rw[if_pos k',if_pos k',k']at hz
    refine fin.out _ _ (by simp[e0]) (by simp[e3]) (aP (by simp[s3,q1,q2]) (by simp[s3,q1,q2]) (by simp[s3,q1,q2])) (by simp[e4]) (aP (by simp[s4,q3,q4]) (by simp[s4,q3,q4]) (by simp[s4,q3,q4])) (aP (by simp[so,q5,q6]) (by simp[so,q5,q6]) (by simp[so,q5,q6,hz,k'])) (by simp[e10]) (by simp[e11]) (by simp[e12]) (by simp) ⟨(s' 2007).g+1,by simp,aP (by simp[q5,q6]) (by simp[q5,q6]) (by simp[q5,q6])⟩ ?_
    repeat (first|exact hF|refine sN.bF ?_ _ (by omega)|refine sN.aN ?_ _ (by omega))
   ·have hz:=nW (kind:=ks[i]) (c:=n.ah[i]) (r:=n.rows) (.inl h1');refine fin.out _ _ (by simp[e0]) (by simp[e3]) (aP (by simp[s3,q1,q2]) (by simp[s3,q1,q2]) (by simp[s3,q1,q2])) (by simp[e4]) (aP (by simp[s4,q3,q4]) (by simp[s4,q3,q4]) (by simp[s4,q3,q4])) (aP (by simp[so,q5,q6]) (by simp[so,q5,q6]) (by simp[so,q5,q6,hz,k'])) (by simp[e10]) (by simp[e11]) (by simp[e12]) (by simp) ⟨(s' 2007).g+1,by simp,aP (by simp[q5,q6]) (by simp[q5,q6]) (by simp[q5,q6])⟩ ?_
    repeat (first|exact hF|refine sN.bF ?_ _ (by omega)|refine sN.aN ?_ _ (by omega))
  refine aj (fun h2=>?_) (fun h2=>?_)<;>(have h2':=h2;try simp at h2')<;>(try simp[*])
  ·refine aj (fun k=>?_) (fun k=>?_)<;>(have k':=k;try simp at k')<;>(try simp[*])
   ·have hz:=nW (kind:=ks[i]) (c:=n.ah[i]) (r:=n.rows) (.inr h2');rw[if_pos k',if_pos k',k']at hz
    refine fin.out _ _ (by simp[e0]) (by simp[e3]) (aP (by simp[s3,q1,q2]) (by simp[s3,q1,q2]) (by simp[s3,q1,q2])) (by simp[e4]) (aP (by simp[s4,q3,q4]) (by simp[s4,q3,q4]) (by simp[s4,q3,q4])) (aP (by simp[so,q5,q6]) (by simp[so,q5,q6]) (by simp[so,q5,q6,hz,k'])) (by simp[e10]) (by simp[e11]) (by simp[e12]) (by simp) ⟨(s' 2007).g+1,by simp,aP (by simp[q5,q6]) (by simp[q5,q6]) (by simp[q5,q6])⟩ ?_
    repeat (first|exact hF|refine sN.bF ?_ _ (by omega)|refine sN.aN ?_ _ (by omega))
   ·have hz:=nW (kind:=ks[i]) (c:=n.ah[i]) (r:=n.rows) (.inr h2');refine fin.out _ _ (by simp[e0]) (by simp[e3]) (aP (by simp[s3,q1,q2]) (by simp[s3,q1,q2]) (by simp[s3,q1,q2])) (by simp[e4]) (aP (by simp[s4,q3,q4]) (by simp[s4,q3,q4]) (by simp[s4,q3,q4])) (aP (by simp[so,q5,q6]) (by simp[so,q5,q6]) (by simp[so,q5,q6,hz,k'])) (by simp[e10]) (by simp[e11]) (by simp[e12]) (by simp) ⟨(s' 2007).g+1,by simp,aP (by simp[q5,q6]) (by simp[q5,q6]) (by simp[q5,q6])⟩ ?_
    repeat (first|exact hF|refine sN.bF ?_ _ (by omega)|refine sN.aN ?_ _ (by omega))
  ·have hz:=SV (kind:=ks[i]) (c:=n.ah[i]) (r:=n.rows) h1' h2';refine fin.out _ _ (by simp[e0]) (by simp[e3]) (aP (by simp[s3,q1,q2]) (by simp[s3,q1,q2]) (by simp[s3,q1,q2])) (by simp[e4]) (aP (by simp[s4,q3,q4]) (by simp[s4,q3,q4]) (by simp[s4,q3,q4])) (aP (by simp[so,q5,q6]) (by simp[so,q5,q6]) (by simp[so,q5,q6,hz])) (by simp[e10]) (by simp[e11]) (by simp[e12]) (by simp) ⟨(s' 2007).g+1,by simp,aP (by simp[q5,q6]) (by simp[q5,q6]) (by simp[q5,q6])⟩ ?_
   repeat (first|exact hF|refine sN.bF ?_ _ (by omega)|refine sN.aN ?_ _ (by omega))
 ·have hie:i=n.ah.length:=by omega
  subst hie;have hgr:Gr ks t n:=hway.out.fin (fun j h h'=>hfx.out j h h' h');have hRn:R=n:=hR.out.symm.trans (wF hgr);subst hRn;refine⟨.agg [i6 R.low,i6 R.rows,.ref o g 5 0 R.ah.length],by simp[dX,bV,dZ,e4,s4],hF.bF _ (by omega),.ref o g 5 0 R.ah.length,rfl,?_⟩;refine .inr ⟨?_,o,g,mo,by simp,by simp[so,q3,q4],by omega,by omega⟩;intro hc;have hh:=hnl.out;have:=congrArg List.length hc;simp only[List.length_map,List.length_nil]at this;omega
theorem P_{ks:List Int}{t:TS}(hok:wI ks t)(h0:t.ah=[]):dw ks t=t:=
 wF ((Way.start hok).fin (fun i h h'=>by rw[h0]at h';simp at h'))
theorem zA{fl:Bool}(ks:List Int)(t:TS)(hok:wI ks t)(h0:t.ah=[])(s:ax) :
 wp T [.code Oy] (bG [.sl fl (ks.map u8),.agg [i6 t.low,i6 t.rows,.nil]]) s (VZ 4005 s (dw ks t)):=by
 rw[P_ hok h0];simp;refine av (σ:=Unit) (fun n e s'=>e 3=.ptr 2003 ((s 2003).g+1) 0/\(∃m,s' 2003=⟨(s 2003).g+1,true,some (.box (.agg [i6 t.low,i6 t.rows,.nil])),m⟩)/\e 4=.ptr 2004 ((s 2004).g+1) 0/\(∃m,s' 2004=⟨(s 2004).g+1,true,some (.box (.agg [i6 0,i6 0,.nil])),m⟩)/\sN 2000 3000 4005 4006 s s') (fun _=>0) ?_ () _ _
  ⟨by simp,⟨_,by simp;rfl⟩,by simp,⟨_,by simp;rfl⟩,(sN.aN (fun _ _ _=>rfl) _ (by omega)).aN _ (by omega)⟩
 rintro _ e s' ⟨e3,⟨m3,s3⟩,e4,⟨m4,s4⟩,hF⟩ ih;simp[e3,s3];refine av (σ:=Unit) (fun n e s''=>e 3=.ptr 2003 ((s 2003).g+1) 0/\e 4=.ptr 2004 ((s 2004).g+1) 0/\e 11=i6 0/\e 12=i6 0/\s''=s') (fun _=>0) ?_ () _ _
  ⟨by simp[e3],by simp[e4],by simp,by simp,rfl⟩
 rintro _ e' s'' ⟨e3,e4,e11,e12,rfl⟩ ih2;simp[e3,e4,e11,e12,s3,s4];refine⟨.agg [i6 t.low,i6 t.rows,.nil],by simp[dX,bV,dZ,e4,s4],hF.bF _ (by omega),.nil,rfl,.inl ⟨by rw[h0];rfl,rfl⟩⟩
def fq(ks:List Int)(ts:List TS):Int:=if aX ks then(if ts.all (fC ks)then 0 else 190)else 1
theorem C_(ks:List Int)(ts:List TS)(hl:ks.length<=9223372036854775807)(ht:ts.length<=9223372036854775807):call T Ei [.sl false (ks.map u8),.sl false (ts.map (TS.enc false))]=some (i6 (fq ks ts)):=by
 refine q214g (by simp) ?_;generalize hR:fq ks ts=R;replace hR:=Hd.mk hR;simp[qF ks hl];refine aj (fun h=>?_) (fun h=>?_)<;>(try simp[*])
 ·simp at h;have e:R=1:=by rw[<-hR.out];simp[fq,h]
  simp[e]
 simp at h;refine av (σ:=Nat) (fun i e s=>e 0=.sl false (ks.map u8)/\e 10=.sl false (ts.map (TS.enc false))/\e 11=i6 ts.length/\e 12=i6 i/\i<=ts.length/\Hd (R=if(ts.drop i).all (fC ks)then 0 else 190)) (fun i=>ts.length-i) ?_ 0 _ _
  ⟨by simp,by simp,by simp,by simp,by omega,Hd.mk (by rw[<-hR.out];simp only[fq,h,if_true,List.drop_zero])⟩
 rintro i e s ⟨e0,e10,e11,e12,hi,hr⟩ ih;simp[e0,e10,e11,e12];refine aj (fun q=>?_) (fun q=>?_)<;>(have q':=q;try simp at q')<;>(try simp[*])
 ·replace hr:=Hd.mk (hr.out.trans (by rw[Ah q']));have hf:call T Eh [.sl false (ks.map u8),.agg [i6 ts[i].low,i6 ts[i].rows,.sl false (ts[i].ah.map aK.enc)]]=_:=EH ks ts[i] hl;simp[hf];cases hc:fC ks ts[i]
  ·have e:R=190:=by rw[hr.out];simp[hc]
   simp[e]
  ·simp[e12];refine ih.out (i+1) _ _ ?_ (by omega);exact⟨by simp[e0],by simp[e10],by simp[e11],by simp[ai q' ht],q',Hd.mk (by rw[hr.out];simp[hc])⟩
 ·have e:R=0:=by rw[hr.out,List.drop_eq_nil_of_le q'];rfl
  simp[e]
theorem AQ(ks:List Int)(a:TS)(hl:ks.length<=9223372036854775807):call T Ei [.sl false (ks.map u8),.sl false [a.enc false]]=some (i6 (fq ks [a])):=C_ ks [a] hl (by simp)
def MG(lo hi:Nat)(s:ax)(t:TS)(p:Nat)(e':Env)(s':ax):Prop:=
 Fr lo hi s s'/\∃o g n x,e' p=.ptr o g 0/\s' o=⟨g,true,some (.box (.agg [i6 t.low,i6 t.rows,x])),n⟩/\bW s' lo hi 5 x (t.ah.map aK.enc)
theorem MG.pure{lo hi:Nat}{s:ax}{t:TS}{p:Nat}{e:Env}{s':ax}(h:MG lo hi s t p e s'):aC e s' [.cell p 3 true]=some (t.enc true):=by obtain⟨_,o,g,n,x,h1,h2,h3⟩:=h;simp[h1,h2,h3.mK (by simp)]
theorem MG.inl{lo hi:Nat}{s:ax}{t:TS}{p:Nat}{e:Env}{s':ax}(h:MG lo hi s t p e s'):∃r,dX e s' [.cell p 3 true]=some r/\Fr lo hi s s'/\∃x,r=.agg [i6 t.low,i6 t.rows,x]/\bW s' lo hi 5 x (t.ah.map aK.enc):=by obtain⟨h0,o,g,n,x,h1,h2,h3⟩:=h;exact⟨.agg [i6 t.low,i6 t.rows,x],by simp[dX,bV,dZ,h1,h2],h0,x,rfl,h3⟩
theorem Fr.wide{lo hi lo' hi':Nat}{s s':ax}(h:Fr lo hi s s')(h1:lo'<=lo)(h2:hi<=hi'):Fr lo' hi' s s':=⟨fun o ho=>h.out o (by omega)⟩
theorem bW.wide{s:ax}{lo hi lo' hi' k:Nat}{x:X}{es:List X}(h:bW s lo hi k x es)(h1:lo'<=lo)(h2:hi<=hi'):bW s lo' hi' k x es:=by
 rcases h with h|⟨h0,o,g,n,rfl,h,h3,h4⟩
 ·exact .inl h
 ·exact .inr ⟨h0,o,g,n,rfl,h,by omega,by omega⟩
noncomputable def nY(ks:List Int)(t:TS):TS:=if fq ks [t]=0 then dw ks t else⟨0,0,[]⟩
theorem Bh(ks:List Int)(t:TS)(hok:wI ks t)(hl:t.ah.length<=3518437208883)(x:X)(s:ax)(hx:bW s 4005 4006 5 x (t.ah.map aK.enc)) :
 ∃r,bZ (run T) T Oz [.sl false (ks.map u8),.agg [i6 t.low,i6 t.rows,x]] s=some r/\sN 2000 3000 4005 4006 s r.2/\∃x,r.1=.agg [i6 (dw ks t).low,i6 (dw ks t).rows,x]/\bW r.2 4005 4006 5 x ((dw ks t).ah.map aK.enc):=by
 refine fF (nt:=121) (res:=[.cell 4 3 true]) (body:=Oy) (P:=fun r=>sN 2000 3000 4005 4006 s r.2/\∃x,r.1=.agg [i6 (dw ks t).low,i6 (dw ks t).rows,x]/\bW r.2 4005 4006 5 x ((dw ks t).ah.map aK.enc)) (by kernel_rfl) (by simp) ?_;rcases hx with⟨h0,rfl⟩|⟨h0,o,g,n,rfl,hs,h1,h2⟩
 ·exact zA (fl:=false) ks t hok (by simpa using h0) s
 ·obtain rfl:o=4005:=by omega
  have:=CF (fl:=false) ks t hok hl (by rcases Nat.eq_zero_or_pos t.ah.length with h|h;exact absurd (by rw[List.eq_nil_of_length_eq_zero h];rfl) h0;exact h) 4005 g n (by omega) s hs;rw[List.length_map];exact this
theorem sN.fr{lo hi lo' hi' a b:Nat}{s s':ax}(h:sN lo hi lo' hi' s s')(h1:a<=lo)(h2:hi<=b)(h3:a<=lo')(h4:hi'<=b):Fr a b s s':=⟨fun o ho=>h o (by omega) (by omega)⟩
theorem rQ(ks:List Int)(t:TS)(hl:t.ah.length<=3518437208883)(hkl:ks.length<=9223372036854775807)(hi:∀c∈t.ah,mE c)(s:ax) :
 wp T [.code Ov] (bG [.sl false (ks.map u8),t.enc false]) s (fun e s'=>∃r,dX e s' [.cell 4 3 true,.tmp 5]=some r/\Fr 1000 7000 s s'/\∃x,r=.cZ [.agg [i6 (nY ks t).low,i6 (nY ks t).rows,x],i6 (fq ks [t])]/\bW s' 4005 4006 5 x ((nY ks t).ah.map aK.enc)):=by
 have f1:call T Ei [.sl false (ks.map u8),.sl false [.agg [i6 t.low,i6 t.rows,.sl false (t.ah.map aK.enc)]]]=some (i6 (fq ks [t])):=AQ ks t hkl;have hok:fq ks [t]=0->wI ks t:=by intro h;refine qZ ?_ hi;cases hk:aX ks<;>cases ha:fC ks t<;>simp[fq,hk,ha]at h<;>rfl
 have g1:¬fq ks [t]=0->nY ks t=⟨0,0,[]⟩:=fun h=>if_neg h;have g2:fq ks [t]=0->nY ks t=dw ks t:=fun h=>if_pos h;generalize fq ks [t]=E at *
 generalize nY ks t=N at *
 simp[f1];refine aj (fun h=>?_) (fun h=>?_)<;>(try simp[*])
 ·simp at h;obtain rfl:=g1 h;refine⟨.cZ [.agg [i6 0,i6 0,.nil],i6 E],by simp[dX,bV,dZ],?_,.nil,rfl,.inl ⟨rfl,rfl⟩⟩
  repeat (first|exact Fr.refl _ _ _|refine Fr.bF ?_ _ (by omega)|refine Fr.aN ?_ _ (by omega))
 ·simp at h;subst h;obtain rfl:=g2 rfl;refine eO (Df t hl _) ?_;rintro⟨r,s1⟩ ⟨hF1,x,rfl,hx⟩;have h4:s1 6004=_:=hF1 6004 (by omega) (by omega);simp at h4;simp;refine eO (Bh ks t (hok rfl) hl x _ hx) ?_;rintro⟨r,s2⟩ ⟨hF2,y,rfl,hy⟩;have k4:s2 6004=_:=hF2 6004 (by omega) (by omega);simp[h4]at k4
  simp[k4,hy.one.1,hy.one.2];refine⟨.cZ [.agg [i6 (dw ks t).low,i6 (dw ks t).rows,y],i6 0],by simp[dX,bV,dZ,k4],?_,y,rfl,hy.fr ((Fr.refl 6004 6005 s2).bF _ (by omega)) (by omega)⟩;refine Fr.bF (Fr.trans (Fr.trans ?_ (hF1.fr (by omega) (by omega) (by omega) (by omega))) (hF2.fr (by omega) (by omega) (by omega) (by omega))) _ (by omega)
  repeat (first|exact Fr.refl _ _ _|refine Fr.bF ?_ _ (by omega)|refine Fr.aN ?_ _ (by omega))
theorem pureN{e:Env}{s:ax}{p q lo hi:Nat}{a b c:Int}{x:X}{es:List X}(h:dX e s [.cell p 3 true,.tmp q]=some (.cZ [.agg [i6 a,i6 b,x],i6 c]))(hx:bW s lo hi 5 x es)(hd:aT es=true) :
 aC e s [.cell p 3 true,.tmp q]=some (.cZ [.agg [i6 a,i6 b,.sl true es],i6 c]):=by
 have h1:EX s (e p) 3 true=some (.agg [i6 a,i6 b,x])/\e q=i6 c:=by
  simp only[dX,bV,dZ]at h;cases hl:EX s (e p) 3 true with
  | none=>simp[hl]at h
  | some y=>simp[hl]at h;exact⟨by rw[h.1],h.2⟩
 have d1:∀n,mK s (i6 n)=some (i6 n):=fun _=>rfl;have d2:∀n,nI s (i6 n)=some (i6 n):=fun _=>rfl;simp only[aC,uU,zx,h1.1,h1.2,nI,tq,hx.mK hd,d1,d2]
theorem AP(ks:List Int)(t:TS)(hl:t.ah.length<=3518437208883)(hkl:ks.length<=9223372036854775807)(hi:∀c∈t.ah,mE c) :
 call T yT [.sl false (ks.map u8),.agg [i6 t.low,i6 t.rows,.sl false (t.ah.map aK.enc)]]=some (.cZ [(nY ks t).enc true,i6 (fq ks [t])]):=
 q208g (by simp) (wp_mono (rQ ks t hl hkl hi s0) (by rintro e s' ⟨r,hr,_,x,rfl,hx⟩;exact pureN hr hx (by simp)))
theorem qc(t:TS)(hl:t.ah.length<=3518437208883):call T Yy [t.enc false]=some (t.enc true):=by
 refine q95g (by simp) ?_;by_cases h:t.ah=[]
 ·simp[h]
 ·simp[h,hl]
def nL(op vk vi:Int)(vs:ByteArray)(up n:Int)(kids sub:X):X:=.agg [.v (.int .u8 op),.v (.int .u8 vk),i6 vi,.v (.string vs),i6 up,i6 n,kids,sub]
theorem Aq(op vk vi:Int)(vs:ByteArray)(up n:Int)(kids sub:X)(h1:kids.one=true)(h2:sub.one=true) :
 call T wS [nL op vk vi vs up n kids sub]=some (.cZ [i6 n,.v (.bool (decide (op=2)&&decide (up=0)))]):=by
 refine q42g (by simp) ?_;by_cases h:op=2
 ·simp[nL,h,h1,h2]
 ·simp[nL,h,h1,h2]
theorem qd(op vk vi:Int)(vs:ByteArray)(up n:Int)(kids sub:X)(h1:kids.one=true)(h2:sub.one=true) :
 call T gP [nL op vk vi vs up n kids sub]=some (i6 (if op=2/\up=0 then n else -1)):=by
 refine q160g (by simp) ?_;by_cases h:op=2
 ·by_cases h':up=0
  ·simp[nL,h,h',h1,h2]
  ·simp[nL,h,h',h1,h2]
 ·simp[nL,h,h1,h2]
def bI(op:Int):Bool:=decide (12<=op)&&decide (op<=17)
theorem kH(op:Int):call T Qz [.v (.int .u8 op)]=some (.v (.bool (bI op))):=by
 refine q44g (by simp) ?_;by_cases h:12<=op
 ·simp[bI,h]
 ·simp[bI,h]
theorem gV(op:Int):call T BV [.v (.int .u8 op)]=some (.v (.bool (bI op))):=by
 refine q166g (by simp) ?_;by_cases h1:op=12
 ·subst h1;simp[bI]
 by_cases h2:op=13
 ·subst h2;simp[bI]
 by_cases h3:op=14
 ·subst h3;simp[bI]
 by_cases h4:op=15
 ·subst h4;simp[bI]
 by_cases h5:op=16
 ·subst h5;simp[bI]
 by_cases h6:op=17
 ·subst h6;simp[bI]
 have:bI op=false:=by simp only[bI,Bool.and_eq_false_iff,decide_eq_false_iff_not];omega
 simp[h1,h2,h3,h4,h5,h6,this]
theorem dV(fl:Bool)(t:TS)(c:aK):call T wO [t.enc fl,c.enc]=some (i6 (min t.rows (eF c.distinct c.degree))):=by refine q157g (by simp) ?_;have h:=iT c.distinct c.degree;simp[h]
def aJ(ks:List Int)(t:TS):X:=.agg [.sl false (ks.map u8),i6 t.low,i6 t.rows,.sl false (t.ah.map aK.enc)]
theorem d_(ks:List Int)(t:TS)(j:Nat)(hj:j<t.ah.length):call T Dl [aJ ks t,i6 j]=some (i6 (min t.rows (eF t.ah[j].distinct t.ah[j].degree))):=by refine q79g (by simp) ?_;have h:=nS t.ah[j].distinct t.ah[j].degree;simp[aJ,h,hj]
def qb(op:Int):Int:=if op=14 then 16 else if op=15 then 17 else if op=16 then 14 else if op=17 then 15 else op
theorem qh(op:Int):call T Oo [.v (.int .u8 op)]=some (.v (.int .u8 (qb op))):=by
 refine q179g (by simp) ?_;unfold qb;by_cases h1:op=14
 ·subst h1;simp
 by_cases h2:op=15
 ·subst h2;simp
 by_cases h3:op=16
 ·subst h3;simp
 by_cases h4:op=17
 ·subst h4;simp
 simp[h1,h2,h3,h4]
end Go.Proofs.YtbmkfjmlepjpfaaGreatDoor
