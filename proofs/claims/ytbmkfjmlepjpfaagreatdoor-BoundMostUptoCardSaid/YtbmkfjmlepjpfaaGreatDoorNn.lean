/- A part of the proof. -/
import Derived.Test.YtbmkfjmlepjpfaaGreatDoorCq
import Derived.Lib.Mul64
import Derived.Laws.Bits64b
import Derived.Test.YtbmkfjmlepjpfaaGreatDoorAw
set_option linter.all false
set_option maxRecDepth 100000
namespace Go.Proofs.YtbmkfjmlepjpfaaGreatDoor
open Go.RowKit
def dm(n:Int):Int:=min (max n 0) 4611686018427387904
def dR(a b:Int):Int:=min (dm a*dm b) 4611686018427387904
def ol(a b:Int):Int:=min (dm a+dm b) 4611686018427387904
theorem bA(n:Int):0<=dm n/\dm n<=4611686018427387904:=by unfold dm;omega
theorem qQ(n:Int):call T zL [i6 n]=some (i6 (dm n)):=by refine q222g (by simp) ?_;simp[dm]
theorem jC(n:Int):call T Iq [i6 n]=some (i6 (dm n)):=by
 refine q98g (by simp) ?_;generalize hR:dm n=R;replace hR:=Hd.mk hR;simp;refine aj (fun h=>?_) (fun h=>?_)<;>(have h':=h;try simp at h')<;>(try simp[*])
 ·rw[<-hR.out];unfold dm;omega
 refine aj (fun h=>?_) (fun h=>?_)<;>(have h':=h;try simp at h')<;>(try simp[*])
 ·rw[<-hR.out];unfold dm;omega
 ·rw[<-hR.out];unfold dm;omega
theorem u64_in{n:Int}(h:0<=n)(h':n<18446744073709551616):IntKind.u64.wrap n=n:=by rw[IntKind.wrap_u64];omega
theorem jW{n:Int}(h:-9223372036854775808<=n)(h':n<=9223372036854775807):IntKind.i64.wrap n=n:=iM h h'
theorem sS(a b:Int):call T jv [i6 a,i6 b]=some (i6 (ol a b)):=by refine q219g (by simp) ?_;have ha:=bA a;have hb:=bA b;simp[qQ];unfold ol;rw[u64_in (n:=dm a) (by omega) (by omega),u64_in (n:=dm b) (by omega) (by omega),u64_in (by omega) (by omega),jW (by omega) (by omega)]
theorem kI(a b:Int):call T Nb [i6 a,i6 b]=some (i6 (ol a b)):=by
 refine q99g (by simp) ?_;have ha:=bA a;have hb:=bA b;have hw:IntKind.i64.wrap (4611686018427387904-dm b)=4611686018427387904-dm b:=jW (by omega) (by omega);generalize hR:ol a b=R;replace hR:=Hd.mk hR;simp[jC];refine aj (fun h=>?_) (fun h=>?_)<;>(have h':=h;try simp at h')<;>(try simp[*])
 ·rw[<-hR.out];unfold ol;omega
 ·rw[jW (by omega) (by omega),<-hR.out];unfold ol;omega
theorem quo_lt{x y:Int}(hx:0<=x)(hy:0<y):((4611686018427387904:Int).tdiv y<x)=(4611686018427387904<x*y):=by rw[Int.tdiv_eq_ediv_of_nonneg (by omega)];rw[Int.ediv_lt_iff_lt_mul hy]
theorem N9{s:ay}(a b:Int)(h:¬b=0):fU .quo (.v (.int .i64 a)) (.v (.int .i64 b)) s=some (.v (.int .i64 (IntKind.i64.wrap (a.tdiv b))),s):=by simp[fU,jy,h]
theorem gZ(a b:Int):call T BD [i6 a,i6 b]=some (i6 (dR a b)):=by
 refine q101g (by simp) ?_;have ha:=bA a;have hb:=bA b;generalize hR:dR a b=R;replace hR:=Hd.mk hR;simp[jC];refine aY (fun h=>?_) (fun h=>?_)<;>(have h':=h;try simp at h')<;>(try simp[*])
 ·rw[<-hR.out];unfold dR;rw[h',Int.zero_mul];omega
 refine aj (fun k=>?_) (fun k=>?_)<;>(have k':=k;try simp at k')<;>(try simp[*])
 ·rw[<-hR.out];unfold dR;rw[k',Int.mul_zero];omega
 have hq:=N9 (s:=s0) 4611686018427387904 (dm b) k';have h0:=Int.tdiv_nonneg (a:=4611686018427387904) (b:=dm b) (by omega) hb.1;have h1:(4611686018427387904:Int).tdiv (dm b)<=4611686018427387904:=by rw[Int.tdiv_eq_ediv_of_nonneg (by omega)];exact Int.ediv_le_self _ (by omega)
 rw[jW (by omega) (by omega)]at hq
 simp[hq,quo_lt ha.1 (show 0<dm b by omega)];refine aj (fun l=>?_) (fun l=>?_)<;>(have l':=l;try simp at l')<;>(try simp[*])
 ·rw[<-hR.out];unfold dR;omega
 ·have:=Int.mul_nonneg ha.1 hb.1;rw[jW (by omega) (by omega),<-hR.out];unfold dR;omega
theorem maskN(a:Nat)(ha:a<18446744073709551616){s:ay}:fU .and (.v (.int .u64 (a:Int))) (.v (.int .u64 4294967295)) s=some (.v (.int .u64 ((a % 4294967296:Nat):Int)),s):=by
 have h:=bits_and_u64_nat a 4294967295 ha (by omega);have e:a&&& 4294967295=a % 4294967296:=Nat.and_two_pow_sub_one_eq_mod a 32;rw[e]at h
 simp[fU,jy,DJ];exact h
theorem Ry(a:Nat){s:ay}:fU .shr (.v (.int .u64 (a:Int))) (.v (.int .u64 32)) s=some (.v (.int .u64 ((a / 4294967296:Nat):Int)),s):=by
 have e:(a:Int).fdiv 4294967296=((a / 4294967296:Nat):Int):=by rw[Int.fdiv_eq_ediv_of_nonneg _ (by omega)];omega
 simp[fU,jy,IntKind.bits,e]
theorem Tk(a b:Nat)(h:a*b<18446744073709551616){s:ay}:fU .mul (.v (.int .u64 (a:Int))) (.v (.int .u64 (b:Int))) s=some (.v (.int .u64 ((a*b:Nat):Int)),s):=by simp only[fU,jy];rw[<-Int.natCast_mul,u64_in (by omega) (by omega)];rfl
theorem Sj(a b:Nat)(h:a+b<18446744073709551616){s:ay}:fU .add (.v (.int .u64 (a:Int))) (.v (.int .u64 (b:Int))) s=some (.v (.int .u64 ((a+b:Nat):Int)),s):=by simp only[fU,jy];rw[<-Int.natCast_add,u64_in (by omega) (by omega)];rfl
theorem mulM(a b:Nat){s:ay}:fU .mul (.v (.int .u64 (a:Int))) (.v (.int .u64 (b:Int))) s=some (.v (.int .u64 ((a*b % 18446744073709551616:Nat):Int)),s):=by simp only[fU,jy];rw[<-Int.natCast_mul,IntKind.wrap_u64];rfl
theorem sO(x y:Nat)(hx:x<18446744073709551616)(hy:y<18446744073709551616):call T KT [.v (.int .u64 x),.v (.int .u64 y)]=some (.bU [.v (.int .u64 ((x*y / 18446744073709551616:Nat):Int)),.v (.int .u64 ((x*y % 18446744073709551616:Nat):Int))]):=by
 refine q179g (by simp) ?_;obtain⟨bd,bt,bw,hhi⟩:=Lib.mul64_hi x y hx hy;have ba:=Lib.half_mul_le (a:=x / 4294967296) (b:=y / 4294967296) (by omega) (by omega);have bb:=Lib.half_mul_le (a:=x / 4294967296) (b:=y % 4294967296) (by omega) (by omega);have bc:=Lib.half_mul_le (a:=x % 4294967296) (b:=y / 4294967296) (by omega) (by omega);have lo:=mulM x y (s:=s0);generalize hA:x*y / 18446744073709551616=A at *
 generalize hB:x*y % 18446744073709551616=B at *
 have hA':x*y / 18446744073709551616<18446744073709551616:=by rw[Nat.div_lt_iff_lt_mul (by omega)];exact Nat.mul_lt_mul_of_lt_of_lt hx hy
 rw[hA]at hA'
 have m1:=maskN x hx (s:=s0);have m2:=maskN y hy (s:=s0);have d1:=Ry x (s:=s0);have d2:=Ry y (s:=s0);generalize x / 4294967296=x1 at *
 generalize x % 4294967296=x0 at *
 generalize y / 4294967296=y1 at *
 generalize y % 4294967296=y0 at *
 have p00:=Tk x0 y0 bd (s:=s0);have p10:=Tk x1 y0 (by omega) (s:=s0);have p01:=Tk x0 y1 (by omega) (s:=s0);have p11:=Tk x1 y1 (by omega) (s:=s0);generalize x0*y0=w0 at *
 generalize x1*y0=q10 at *
 generalize x0*y1=q01 at *
 generalize x1*y1=q11 at *
 have e1:=Ry w0 (s:=s0);generalize w0 / 4294967296=z at *
 have e2:=Sj q10 z bt (s:=s0);generalize q10+z=t at *
 have e3:=maskN t bt (s:=s0);have e4:=Ry t (s:=s0);generalize ht1:t % 4294967296=t1 at *
 generalize ht2:t / 4294967296=t2 at *
 have e5:=Sj t1 q01 bw (s:=s0);generalize t1+q01=v at *
 have e6:=Ry v (s:=s0);generalize v / 4294967296=v1 at *
 have e7:=Sj q11 t2 (by omega) (s:=s0);have e8:=Sj (q11+t2) v1 (by omega) (s:=s0);rw[hhi]at e8
 generalize q11+t2=u at *
 simp[m1,m2,d1,d2,p00,p10,p01,p11,e1,e2,e3,e4,e5,e6,e7,e8,lo,-N8,-N7]
theorem mg(a b:Int):call T m_ [i6 a,i6 b]=some (i6 (dR a b)):=by
 refine q220g (by simp) ?_;have ha:=bA a;have hb:=bA b;obtain⟨x,hx⟩:=Int.eq_ofNat_of_zero_le ha.1;obtain⟨y,hy⟩:=Int.eq_ofNat_of_zero_le hb.1;have hm:=sO x y (by omega) (by omega);have ha':=ha;have hb':=hb;generalize hR:dR a b=R;replace hR:=Hd.mk hR;simp[qQ];rw[u64_in ha.1 (by omega),u64_in hb.1 (by omega),hx,hy];simp[hm];have e1:(x:Int)*y=((x*y:Nat):Int):=(Int.natCast_mul x y).symm;rw[e1];have hP:R=min ((x*y:Nat):Int) 4611686018427387904:=by rw[<-hR.out];unfold dR;rw[hx,hy,e1]
 generalize x*y=p at *
 refine aj (fun h=>?_) (fun h=>?_)<;>(have h':=h;try simp at h')<;>(try simp[*])
 ·omega
 ·rw[jW (by omega) (by omega)];omega
def bJ(kind:Int)(c:dh):Int:=if kind=0 then 0 else if kind=3 then 2 else if kind=2 then 4611686018427387904 else if c.hi<c.lo then 0 else min (c.hi-c.lo) 4611686018427387903+1
def gI(n:Int):Prop:=-9223372036854775808<=n/\n<=9223372036854775807
def qK(c:dh):Prop:=gI c.lo/\gI c.hi
theorem Au(kind:Int)(c:dh)(h:qK c):call T FJ [u8 kind,.agg [i6 c.bQ,i6 c.distinct,i6 c.degree,i6 c.lo,i6 c.hi]]=some (i6 (bJ kind c)):=by
 refine q208g (by simp) ?_;obtain⟨⟨l1,l2⟩,h1,h2⟩:=h;generalize hR:bJ kind c=R;replace hR:=Hd.mk hR;have hw:¬c.hi<c.lo->IntKind.u64.wrap (IntKind.u64.wrap c.hi-IntKind.u64.wrap c.lo)=c.hi-c.lo:=by intro h;simp only[IntKind.wrap_u64];omega
 simp;refine aj (fun k0=>?_) (fun k0=>?_)<;>(have k0':=k0;try simp at k0')<;>(try simp[*])
 ·rw[<-hR.out];simp[bJ,k0']
 refine aj (fun k3=>?_) (fun k3=>?_)<;>(have k3':=k3;try simp at k3')<;>(try simp[*])
 ·rw[<-hR.out];simp[bJ,k3']
 refine aj (fun k2=>?_) (fun k2=>?_)<;>(have k2':=k2;try simp at k2')<;>(try simp[*])
 ·rw[<-hR.out];simp[bJ,k2']
 refine aj (fun k1=>?_) (fun k1=>?_)<;>(have k1':=k1;try simp at k1')<;>(try simp[*])
 ·rw[<-hR.out];simp[bJ,k0',k3',k2',k1']
 ·rw[<-hR.out,jW (n:=min _ _) (by omega) (by omega),jW (by omega) (by omega)];simp[bJ,k0',k3',k2',k1'];omega
theorem g_(kind:Int)(c:dh)(h:qK c):call T wM [u8 kind,.agg [i6 c.bQ,i6 c.distinct,i6 c.degree,i6 c.lo,i6 c.hi]]=some (i6 (bJ kind c)):=by
 refine q152g (by simp) ?_;obtain⟨⟨l1,l2⟩,h1,h2⟩:=h;generalize hR:bJ kind c=R;replace hR:=Hd.mk hR;have hw:¬c.hi<c.lo->IntKind.u64.wrap (IntKind.u64.wrap c.hi-IntKind.u64.wrap c.lo)=c.hi-c.lo:=by intro h;simp only[IntKind.wrap_u64];omega
 simp;refine aj (fun k0=>?_) (fun k0=>?_)<;>(have k0':=k0;try simp at k0')<;>(try simp[*])
 ·rw[<-hR.out];simp[bJ,k0']
 refine aj (fun k3=>?_) (fun k3=>?_)<;>(have k3':=k3;try simp at k3')<;>(try simp[*])
 ·rw[<-hR.out];simp[bJ,k3']
 refine aj (fun k2=>?_) (fun k2=>?_)<;>(have k2':=k2;try simp at k2')<;>(try simp[*])
 ·rw[<-hR.out];simp[bJ,k2']
 refine aj (fun k1=>?_) (fun k1=>?_)<;>(have k1':=k1;try simp at k1')<;>(try simp[*])
 ·rw[<-hR.out];simp[bJ,k0',k3',k2',k1']
 refine aj (fun k4=>?_) (fun k4=>?_)<;>(have k4':=k4;try simp at k4')<;>(try simp[*])
 ·rw[<-hR.out];simp[bJ,k0',k3',k2',k1'];omega
 ·rw[<-hR.out,jW (n:=c.hi-c.lo) (by omega) (by omega),jW (by omega) (by omega)];simp[bJ,k0',k3',k2',k1'];omega
def iw(kind:Int)(c:dh)(r:Int):dh:=
 if min c.distinct (min r (bJ kind c))=0\/min c.degree r=0 then⟨min c.bQ r,0,0,if kind=1 then 1 else c.lo,if kind=1 then 0 else c.hi⟩
 else⟨min c.bQ r,min c.distinct (min r (bJ kind c)),min c.degree r,c.lo,c.hi⟩
theorem nQ{kind:Int}{c:dh}{r:Int}(h:min c.distinct (min r (bJ kind c))=0\/min c.degree r=0):iw kind c r=⟨min c.bQ r,0,0,if kind=1 then 1 else c.lo,if kind=1 then 0 else c.hi⟩:=if_pos h
theorem Pd{kind:Int}{c:dh}{r:Int}(h:¬min c.distinct (min r (bJ kind c))=0)(h':¬min c.degree r=0):iw kind c r=⟨min c.bQ r,min c.distinct (min r (bJ kind c)),min c.degree r,c.lo,c.hi⟩:=if_neg (fun q=>q.elim h h')
def jT(c:dh):Int:=ol (dR c.distinct c.degree) c.bQ
def Ol(c:dh):Prop:=0<=c.bQ/\0<=c.distinct/\0<=c.degree/\qK c
theorem mh(kind:Int)(c:dh):0<=bJ kind c:=by
 unfold bJ;split
 ·omega
 split
 ·omega
 split
 ·omega
 split
 ·omega
 ·omega
theorem kK(kind:Int)(c:dh)(r:Int)(h:Ol c)(hr:0<=r):call T KF [u8 kind,.agg [i6 c.bQ,i6 c.distinct,i6 c.degree,i6 c.lo,i6 c.hi],i6 r]=some ((iw kind c r).enc):=by
 refine q158g (by simp) ?_;obtain⟨o1,o2,o3,o4⟩:=h;have hct:∀a b d:Int,call T wM [u8 kind,.agg [i6 a,i6 b,i6 d,i6 c.lo,i6 c.hi]]=some (i6 (bJ kind c)):=fun a b d=>g_ kind ⟨a,b,d,c.lo,c.hi⟩ o4;have hc0:=mh kind c;generalize hR:iw kind c r=R;replace hR:=Hd.mk hR;simp[hct];refine aY (fun h1=>?_) (fun h1=>?_)<;>(have h1':=h1;try simp at h1')<;>(try simp[*])
 ·refine aj (fun k=>?_) (fun k=>?_)<;>(have k':=k;try simp at k')<;>(try simp[*])
  ·rw[<-hR.out,nQ (.inl h1'),if_pos k',if_pos k'];simp
  ·rw[<-hR.out,nQ (.inl h1'),if_neg k',if_neg k'];simp
 refine aY (fun h2=>?_) (fun h2=>?_)<;>(have h2':=h2;try simp at h2')<;>(try simp[*])
 ·refine aj (fun k=>?_) (fun k=>?_)<;>(have k':=k;try simp at k')<;>(try simp[*])
  ·rw[<-hR.out,nQ (.inr h2'),if_pos k',if_pos k'];simp
  ·rw[<-hR.out,nQ (.inr h2'),if_neg k',if_neg k'];simp
 refine aj (fun h3=>?_) (fun h3=>?_)<;>(have h3':=h3;try simp at h3')<;>(try simp[*])
 ·exfalso;omega
 ·rw[<-hR.out,Pd h1' h2'];simp
def jF(ks:List Int)(t:TS):List dh:=List.zipWith (fun k c=>iw k c t.rows) ks t.ah
def kJ(r:Int)(l:List dh):Int:=l.foldl (fun r c=>min r (jT c)) r
def ja(ks:List Int)(t:TS):TS:=⟨t.low,kJ t.rows (jF ks t),jF ks t⟩
noncomputable def chB(t u:TS):Bool:=@decide (t≠u) (Classical.propDecidable _)
theorem A_{t u:TS}:chB t u=false↔t=u:=by unfold chB;simp
theorem IE(r:Int)(l:List dh)(c:dh):kJ r (l++[c])=min (kJ r l) (jT c):=by simp[kJ]
theorem R_{α β γ:Type}(f:α->β->γ){l:List α}{m:List β}{i:Nat}(h:i<l.length)(h':i<m.length):(List.zipWith f l m).take (i+1)=(List.zipWith f l m).take i++[f l[i] m[i]]:=by rw[List.take_add_one];simp[List.getElem?_zipWith,h,h']
theorem Jv(a b:dh):∃q,(!decide (a.bQ=b.bQ)||(!decide (a.distinct=b.distinct)||(!decide (a.degree=b.degree)||(!decide (a.lo=b.lo)||!decide (a.hi=b.hi)))))=q/\Hd (q=false↔a=b):=by refine⟨_,rfl,⟨?_⟩⟩;cases a;cases b;simp
theorem ts_eq{l r:Int}{C:List dh}{t:TS}(hl:l=t.low):(TS.mk l r C=t)↔(C=t.ah/\r=t.rows):=by cases t;subst hl;simp;exact⟨fun h=>⟨h.2,h.1⟩,fun h=>⟨h.2,h.1⟩⟩
theorem Sl{B b q:Bool}(h:B=false↔(b=false/\q=false)):B=(b||q):=by cases b<;>cases q<;>cases B<;>simp at h<;>rfl
set_option maxHeartbeats 2000000 in
theorem qG(ks:List Int)(t:TS)(hk:ks.length=t.ah.length)(hl:t.ah.length<=3518437208883)(hr:0<=t.rows)(hc:∀c∈t.ah,Ol c) :
 call T KD [.sl false (ks.map u8),.agg [i6 t.low,i6 t.rows,.sl false (t.ah.map dh.enc)]]=some (.bU [(ja ks t).enc true,.v (.bool (chB (ja ks t) t))]):=by
 refine q156g (by simp) ?_;have hl':t.ah.length<=9223372036854775807:=by omega
 generalize hb:chB (ja ks t) t=B;have hC:Hd (jF ks t=List.zipWith (fun k c=>iw k c t.rows) ks t.ah):=⟨rfl⟩
 have ho:Hd (ja ks t=⟨t.low,kJ t.rows (jF ks t),jF ks t⟩):=⟨rfl⟩
 replace hb:=Hd.mk hb;generalize ja ks t=u at *
 generalize jF ks t=C at *
 have hCl:C.length=t.ah.length:=by rw[hC.out,List.length_zipWith];omega
 simp;refine av (σ:=Nat) (fun i e s'=>e 0=.sl false (ks.map u8)/\e 3=.ptr 3 1 0/\e 4=.ptr 4 1 0/\(∃g n x,e 6=.ptr 6 g 0/\s' 6=⟨g,true,some (.box (.agg [i6 t.low,i6 (kJ t.rows (C.take i)),x])),n⟩/\
  ((i=0/\x=.nil)\/(0<i/\∃g' n',x=.ref 44 g' 5 0 i/\s' 44=⟨g',true,some (.row 5 ((C.take i).map dh.enc)),n'⟩)))/\
  (∃n,s' 3=⟨1,true,some (.box (t.enc false)),n⟩)/\(∃n,s' 4=⟨1,true,some (.box (.agg [i6 0,i6 0,.nil])),n⟩)/\(∃b,e 7=.v (.bool b)/\Hd (b=false↔C.take i=t.ah.take i))/\e 8=i6 i/\i<=t.ah.length) (fun i=>t.ah.length-i) ?_ 0 _ _
  ⟨by simp,by simp,by simp,⟨1,_,.nil,by simp,by simp;exact⟨rfl,rfl⟩,.inl ⟨rfl,rfl⟩⟩,⟨_,by simp;rfl⟩,⟨_,by simp;rfl⟩,⟨false,by simp,Hd.mk (by simp)⟩,by simp,by omega⟩
 rintro i e s' ⟨e0,e3,e4,⟨g6,n6,x,e6,s6,hx⟩,⟨n3,s3⟩,⟨n4,s4⟩,⟨b,e7,hbb⟩,e8,hi'⟩ ih;simp[e0,e8,hk];refine aj (fun q=>?_) (fun q=>?_)<;>(have q':=q;try simp at q')<;>(try simp[*])
 ·have hk':i<ks.length:=by omega
  have hmc:C.take (i+1)=C.take i++[iw ks[i] t.ah[i] t.rows]:=by rw[hC.out];exact R_ _ hk' q'
  have f1:=kK ks[i] t.ah[i] t.rows (hc _ (List.getElem_mem q')) hr;generalize iw ks[i] t.ah[i] t.rows=z at *
  have hzz:(C.take i++[z]=t.ah.take i++[t.ah[i]])↔(C.take i=t.ah.take i/\z=t.ah[i]):=by
   constructor
   ·intro h;have:=List.append_inj' h rfl;exact⟨this.1,by simpa using this.2⟩
   ·rintro⟨h1,h2⟩;rw[h1,h2]
  have htc:t.ah.take (i+1)=t.ah.take i++[t.ah[i]]:=by rw[List.take_add_one];simp[q']
  have fin:∀e' s2 b',e' 0=.sl false (ks.map u8)->e' 3=.ptr 3 1 0->e' 4=.ptr 4 1 0->e' 6=.ptr 6 g6 0->
   (∃n,s2 6=⟨g6,true,some (.box (.agg [i6 t.low,i6 (min (kJ t.rows (C.take i)) (jT z)),.ref 44 (s2 44).g 5 0 (i+1)])),n⟩)->
   (∃n,s2 44=⟨(s2 44).g,true,some (.row 5 ((C.take i).map dh.enc++[z.enc])),n⟩)->(∃n,s2 3=⟨1,true,some (.box (t.enc false)),n⟩)->(∃n,s2 4=⟨1,true,some (.box (.agg [i6 0,i6 0,.nil])),n⟩)->
   e' 7=.v (.bool b')->(b'=false↔(b=false/\z=t.ah[i]))->e' 8=i6 ((i+1:Nat):Int)->
   wp T [.lp Qn,.bl 0,.code ((IC.aL [3,6,61,63] [] KE FE).seq IC.ret)] e' s2 (fun e s=>aC e s [.cell 4 3 true,.tmp 5]=some (.bU [u.enc true,.v (.bool B)])):=by
   intro e' s2 b' y0 y3 y4 y6 ⟨n,z6⟩ ⟨m,z44⟩ z3 z4 y7 hb' y8;refine ih.out (i+1) _ _ ⟨y0,y3,y4,⟨g6,n,_,y6,by rw[hmc,IE];exact z6,.inr ⟨by omega,_,m,rfl,?_⟩⟩,z3,z4,⟨b',y7,Hd.mk ?_⟩,y8,q'⟩ (by omega)
   ·rw[hmc,List.map_append,List.map_cons,List.map_nil];exact z44
   ·rw[hmc,htc,hzz,hb',hbb.out]
  replace fin:=Hd.mk fin;clear hzz;simp[f1,e3,e4,e6,e7,e8,s3,s4,s6,q',hk'];obtain⟨q,hq1,hq2⟩:=Jv z t.ah[i];simp only[hq1];have f2:=gZ z.distinct z.degree;have f3:call T Nb [i6 (dR z.distinct z.degree),i6 z.bQ]=some (i6 (jT z)):=kI _ _;rcases hx with⟨hi0,rfl⟩|⟨hi0,g',n',rfl,s44⟩
  ·have ht0:C.take i=[]:=by rw[hi0];rfl
   cases q
   ·simp[e0,e3,e4,e6,e7,e8,s3,s4,s6,f2,f3];refine fin.out _ _ b (by simp[e0]) (by simp[e3]) (by simp[e4]) (by simp[e6]) (bY (by simp[s6]) (by simp[s6]) (by simp[s6,hi0])) (bY (by simp) (by simp) (by simp[ht0])) (bY (by simp[s3]) (by simp[s3]) (by simp[s3])) (bY (by simp[s4]) (by simp[s4]) (by simp[s4])) (by simp[e7]) ⟨fun h=>⟨h,hq2.out.1 rfl⟩,fun h=>h.1⟩ (by simp[ai q' hl'])
   ·simp[e0,e3,e4,e6,e7,e8,s3,s4,s6,f2,f3];refine fin.out _ _ true (by simp[e0]) (by simp[e3]) (by simp[e4]) (by simp[e6]) (bY (by simp[s6]) (by simp[s6]) (by simp[s6,hi0])) (bY (by simp) (by simp) (by simp[ht0])) (bY (by simp[s3]) (by simp[s3]) (by simp[s3])) (bY (by simp[s4]) (by simp[s4]) (by simp[s4])) (by simp[e7]) ⟨fun h=>by simp at h,fun h=>by have:=hq2.out.2 h.2;simp at this⟩ (by simp[ai q' hl'])
  ·have hmn:i=min i C.length/\i<=3518437208882:=⟨by omega,by omega⟩
   cases q
   ·simp[e0,e3,e4,e6,e7,e8,s3,s4,s6,f2,f3,s44];rw[if_pos hmn];simp[e0,e3,e4,e6,e7,e8,s3,s4,s6,f2,f3,s44];refine fin.out _ _ b (by simp[e0]) (by simp[e3]) (by simp[e4]) (by simp[e6]) (bY (by simp[s6]) (by simp[s6]) (by simp[s6,s44])) (bY (by simp) (by simp) (by simp[List.map_take])) (bY (by simp[s3]) (by simp[s3]) (by simp[s3])) (bY (by simp[s4]) (by simp[s4]) (by simp[s4])) (by simp[e7]) ⟨fun h=>⟨h,hq2.out.1 rfl⟩,fun h=>h.1⟩ (by simp[ai q' hl'])
   ·simp[e0,e3,e4,e6,e7,e8,s3,s4,s6,f2,f3,s44];rw[if_pos hmn];simp[e0,e3,e4,e6,e7,e8,s3,s4,s6,f2,f3,s44];refine fin.out _ _ true (by simp[e0]) (by simp[e3]) (by simp[e4]) (by simp[e6]) (bY (by simp[s6]) (by simp[s6]) (by simp[s6,s44])) (bY (by simp) (by simp) (by simp[List.map_take])) (bY (by simp[s3]) (by simp[s3]) (by simp[s3])) (bY (by simp[s4]) (by simp[s4]) (by simp[s4])) (by simp[e7]) ⟨fun h=>by simp at h,fun h=>by have:=hq2.out.2 h.2;simp at this⟩ (by simp[ai q' hl'])
 ·have hie:i=t.ah.length:=by omega
  subst hie;have htk:C.take t.ah.length=C:=List.take_of_length_le (by omega);have htk2:t.ah.take t.ah.length=t.ah:=List.take_of_length_le (by omega);rw[htk]at hx s6
  have hbb':=hbb.out;rw[htk,htk2]at hbb'
  replace hbb':=Hd.mk hbb';clear hbb;have hone:x.one=true:=by rcases hx with⟨_,rfl⟩|⟨_,g',n',rfl,_⟩<;>rfl
  have hsl:kV s' 44 45 5 x (C.map dh.enc):=by
   rcases hx with⟨h0,rfl⟩|⟨h0,g',n',rfl,s44⟩
   ·exact .inl ⟨by rw[List.eq_nil_of_length_eq_zero (hCl.trans h0)];rfl,rfl⟩
   ·refine .inr ⟨?_,44,g',n',by simp[hCl],s44,by omega,by omega⟩;intro hc;have:=congrArg List.length hc;simp only[List.length_map,List.length_nil]at this;omega
  have hsl4:∀c,kV (bK s' 4 c) 44 45 5 x (C.map dh.enc):=fun c=>hsl.fr ((Fr.refl 4 5 s').bK c (by omega)) (by omega);have hB:Hd (B=(b||!decide (kJ t.rows C=t.rows))):=by refine⟨Sl ?_⟩;rw[<-hb.out,A_,ho.out,ts_eq rfl,hbb'.out];simp
  have hu:Hd (u.enc true=.agg [i6 t.low,i6 (kJ t.rows C),.sl true (C.map dh.enc)]):=⟨by rw[ho.out]⟩
  rw[htk,hu.out,hB.out];clear hB hu hb ho hC;generalize kJ t.rows C=rr at *
  cases b
  ·simp[hone,e3,e4,e6,s3,s4,s6,(hsl4 _).rZ (by simp)]
  ·simp[hone,e3,e4,e6,s3,s4,s6,(hsl4 _).rZ (by simp)]
def Ae(c d:dh):Prop:=c.bQ<=d.bQ/\c.distinct<=d.distinct/\c.degree<=d.degree/\((c.lo=d.lo/\c.hi=d.hi)\/(c.lo=1/\c.hi=0))
theorem Ae.refl(c:dh):Ae c c:=⟨by omega,by omega,by omega,.inl ⟨rfl,rfl⟩⟩
theorem Ae.antisymm{c d:dh}(h:Ae c d)(k:Ae d c):c=d:=by
 obtain⟨h1,h2,h3,h4⟩:=h;obtain⟨k1,k2,k3,k4⟩:=k;cases c;cases d;simp only[dh.mk.injEq]at *
 omega
theorem Ae.trans{a b c:dh}(h:Ae a b)(k:Ae b c):Ae a c:=by obtain⟨h1,h2,h3,h4⟩:=h;obtain⟨k1,k2,k3,k4⟩:=k;exact⟨by omega,by omega,by omega,by omega⟩
theorem Eg{k:Int}{c d:dh}(h:Ae c d):bJ k c<=bJ k d:=by
 obtain⟨_,_,_,h4⟩:=h;unfold bJ;split
 ·omega
 split
 ·omega
 split
 ·omega
 ·split<;>split<;>omega
theorem nP(k:Int)(c:dh)(r:Int) :
 (iw k c r=⟨min c.bQ r,0,0,if k=1 then 1 else c.lo,if k=1 then 0 else c.hi⟩/\(min c.distinct (min r (bJ k c))=0\/min c.degree r=0))\/
 (iw k c r=⟨min c.bQ r,min c.distinct (min r (bJ k c)),min c.degree r,c.lo,c.hi⟩/\¬min c.distinct (min r (bJ k c))=0/\¬min c.degree r=0):=by
 by_cases h:min c.distinct (min r (bJ k c))=0\/min c.degree r=0
 ·exact .inl ⟨nQ h,h⟩
 ·exact .inr ⟨if_neg h,fun q=>h (.inl q),fun q=>h (.inr q)⟩
theorem JS{k:Int}{c:dh}{r:Int}(h:Ol c)(hr:0<=r):Ol (iw k c r):=by
 obtain⟨h1,h2,h3,⟨⟨l1,l2⟩,l3,l4⟩⟩:=h;have hc:=mh k c;rcases nP k c r with⟨e,_⟩|⟨e,_,_⟩<;>rw[e]
 ·refine⟨by show 0<=min c.bQ r;omega,Int.le_refl _,Int.le_refl _,⟨?_,?_⟩,?_,?_⟩<;>(show _<=_;simp only;split<;>omega)
 ·exact⟨by show 0<=min c.bQ r;omega,by show 0<=min c.distinct _;omega,by show 0<=min c.degree r;omega,⟨l1,l2⟩,l3,l4⟩
theorem JR{k:Int}{c:dh}{r:Int}(h:Ol c)(hr:0<=r):Ae (iw k c r) c:=by
 obtain⟨h1,h2,h3,_⟩:=h;rcases nP k c r with⟨e,_⟩|⟨e,_,_⟩<;>rw[e]
 ·refine⟨by show min c.bQ r<=_;omega,h2,h3,?_⟩;by_cases hk:k=1
  ·exact .inr ⟨if_pos hk,if_pos hk⟩
  ·exact .inl ⟨if_neg hk,if_neg hk⟩
 ·exact⟨by show min c.bQ r<=_;omega,by show min c.distinct _<=_;omega,by show min c.degree r<=_;omega,.inl ⟨rfl,rfl⟩⟩
theorem Bt{k:Int}{c d:dh}{r r':Int}(hc:Ol c)(hd:Ol d)(hr:0<=r)(h:Ae c d)(hrr:r<=r'):Ae (iw k c r) (iw k d r'):=by
 have hm:=Eg (k:=k) h;have hn:=mh k c;obtain⟨c1,c2,c3,_⟩:=hc;obtain⟨d1,d2,d3,_⟩:=hd;obtain⟨h1,h2,h3,h4⟩:=h;rcases nP k c r with⟨e,q⟩|⟨e,q1,q2⟩<;>rcases nP k d r' with⟨e',q'⟩|⟨e',q1',q2'⟩<;>rw[e,e']
 ·refine⟨by show min c.bQ r<=min d.bQ r';omega,Int.le_refl _,Int.le_refl _,?_⟩;by_cases hk:k=1
  ·simp[hk]
  ·simpa[hk]using h4
 ·refine⟨by show min c.bQ r<=min d.bQ r';omega,by show 0<=min d.distinct _;omega,by show 0<=min d.degree _;omega,?_⟩;by_cases hk:k=1
  ·simp[hk]
  ·simpa[hk]using h4
 ·exfalso;omega
 ·exact⟨by show min c.bQ r<=min d.bQ r';omega,by show min c.distinct _<=min d.distinct _;omega,by show min c.degree r<=min d.degree _;omega,h4⟩
theorem lQ{a b:Int}(h:a<=b):dm a<=dm b:=by unfold dm;omega
theorem BS{c d:dh}(h:Ae c d):jT c<=jT d:=by
 obtain⟨h1,h2,h3,_⟩:=h;have p1:=lQ h2;have p2:=lQ h3;have q1:=bA c.distinct;have q2:=bA c.degree;have q3:=bA d.distinct;have hm:dm c.distinct*dm c.degree<=dm d.distinct*dm d.degree:=Int.mul_le_mul p1 p2 q2.1 q3.1;have ht:dR c.distinct c.degree<=dR d.distinct d.degree:=by unfold dR;omega
 have r1:=lQ ht;have r2:=lQ h1;unfold jT ol;omega
theorem wT(c:dh):0<=jT c:=by have:=bA (dR c.distinct c.degree);have:=bA c.bQ;unfold jT ol;omega
theorem zQ:∀(l:List dh) (r:Int),kJ r l<=r
 | [],r=>Int.le_refl _
 | c::l,r=>by have:=zQ l (min r (jT c));show kJ (min r (jT c)) l<=r;omega
theorem BM:∀(l:List dh) (r:Int) (c:dh),c∈l->kJ r l<=jT c
 | d::l,r,c,h=>by
  show kJ (min r (jT d)) l<=_;rcases List.mem_cons.1 h with rfl|h
  ·have:=zQ l (min r (jT c));omega
  ·exact BM l _ c h
theorem y_:∀(l:List dh) (r z:Int),z<=r->(∀c∈l,z<=jT c)->z<=kJ r l
 | [],r,z,h,_=>h
 | d::l,r,z,h,k=>y_ l (min r (jT d)) z (by have:=k d (by simp);omega) (fun c hc=>k c (by simp[hc]))
def uN:List dh->List dh->Prop
 | [],[]=>True
 | c::l,d::m=>Ae c d/\uN l m
 | _,_=>False
theorem uN.refl:∀l,uN l l
 | []=>trivial
 | c::l=>⟨Ae.refl c,uN.refl l⟩
theorem uN.trans:∀ {l m n},uN l m->uN m n->uN l n
 | [],[],[],_,_=>trivial
 | _::_,_::_,_::_,h,k=>⟨h.1.trans k.1,uN.trans h.2 k.2⟩
theorem uN.antisymm:∀ {l m},uN l m->uN m l->l=m
 | [],[],_,_=>rfl
 | _::_,_::_,h,k=>by rw[h.1.antisymm k.1,uN.antisymm h.2 k.2]
theorem uN.len:∀ {l m},uN l m->l.length=m.length
 | [],[],_=>rfl
 | _::_,_::_,h=>by simp[uN.len h.2]
theorem uN.get:∀ {l m:List dh} (h:uN l m) (i:Nat) (h1:i<l.length) (h2:i<m.length),Ae l[i] m[i]
 | _::_,_::_,h,0,_,_=>h.1
 | _::l,_::m,h,i+1,h1,h2=>uN.get (l:=l) (m:=m) h.2 i (by simpa using h1) (by simpa using h2)
theorem uN.set:∀ {l m:List dh} (h:uN l m) (i:Nat) {c d:dh},Ae c d->uN (l.set i c) (m.set i d)
 | [],[],_,_,_,_,_=>trivial
 | _::_,_::_,h,0,_,_,k=>⟨k,h.2⟩
 | _::l,_::m,h,i+1,_,_,k=>⟨h.1,uN.set (l:=l) (m:=m) h.2 i k⟩
def mC(c:dh):Nat:=c.bQ.toNat+c.distinct.toNat+c.degree.toNat+(if c.lo=1/\c.hi=0 then 0 else 1)
theorem mC_le{c d:dh}(h:Ae c d)(hc:Ol c):mC c<=mC d/\(mC c=mC d->c=d):=by
 obtain⟨h1,h2,h3,h4⟩:=h;obtain⟨c1,c2,c3,_⟩:=hc;cases c;cases d;simp only[mC,dh.mk.injEq]at *
 split<;>split<;>omega
def mL(l:List dh):Nat:=(l.map mC).sum
theorem Z4:∀ {l m},uN l m->(∀c∈l,Ol c)->mL l<=mL m/\(mL l=mL m->l=m)
 | [],[],_,_=>⟨Nat.le_refl _,fun _=>rfl⟩
 | c::l,d::m,h,k=>by
  have h1:=mC_le h.1 (k c (by simp));have h2:=Z4 h.2 (fun c hc=>k c (by simp[hc]));simp only[mL,List.map_cons,List.sum_cons]at *
  refine⟨by omega,fun e=>?_⟩;rw[h1.2 (by omega),h2.2 (by omega)]
structure wF (ks:List Int) (t:TS):Prop where
 len:ks.length=t.ah.length
 rows:0<=t.rows
 ah:∀c∈t.ah,Ol c
structure y9 (t u:TS):Prop where
 low:t.low=u.low
 rows:t.rows<=u.rows
 ah:uN t.ah u.ah
theorem y9.refl(t:TS):y9 t t:=⟨rfl,Int.le_refl _,uN.refl _⟩
theorem y9.trans{a b c:TS}(h:y9 a b)(k:y9 b c):y9 a c:=⟨h.low.trans k.low,Int.le_trans h.rows k.rows,h.ah.trans k.ah⟩
theorem y9.antisymm{t u:TS}(h:y9 t u)(k:y9 u t):t=u:=by
 have h1:=h.low;have h2:=Int.le_antisymm h.rows k.rows;have h3:=h.ah.antisymm k.ah;cases t;cases u
 simp_all
def mT(t:TS):Nat:=t.rows.toNat+mL t.ah
theorem O8{ks:List Int}{t u:TS}(h:y9 t u)(ho:wF ks t)(hn:¬t=u):mT t<mT u:=by
 have h1:=Z4 h.ah ho.ah;have h2:=h.rows;have h3:=ho.rows;unfold mT;by_cases he:mL t.ah=mL u.ah
 ·have hc:=h1.2 he;by_cases hr:t.rows=u.rows
  ·exfalso;apply hn;have hl:=h.low;cases t;cases u;simp_all
  ·omega
 ·omega
def Fx(ks:List Int)(t:TS):Prop:=∀(i:Nat) (h:i<ks.length) (h':i<t.ah.length),iw ks[i] t.ah[i] t.rows=t.ah[i]/\t.rows<=jT t.ah[i]
structure Gr (ks:List Int) (t n:TS):Prop where
 ok:wF ks n
 fx:Fx ks n
 le:y9 n t
 top:∀z,wF ks z->Fx ks z->y9 z t->y9 z n
theorem Gr.uniq{ks:List Int}{t n m:TS}(h:Gr ks t n)(k:Gr ks t m):n=m:=(k.top n h.ok h.fx h.le).antisymm (h.top m k.ok k.fx k.le)
structure Way (ks:List Int) (t n:TS):Prop where
 ok:wF ks n
 le:y9 n t
 top:∀z,wF ks z->Fx ks z->y9 z t->y9 z n
theorem Way.start{ks:List Int}{t:TS}(h:wF ks t):Way ks t t:=⟨h,y9.refl t,fun _ _ _ h=>h⟩
theorem Way.fin{ks:List Int}{t n:TS}(h:Way ks t n)(f:Fx ks n):Gr ks t n:=⟨h.ok,f,h.le,h.top⟩
theorem GU:∀ {l m:List dh},l.length=m.length->(∀(i:Nat) (h1:i<l.length) (h2:i<m.length),Ae l[i] m[i])->uN l m
 | [],[],_,_=>trivial
 | c::l,d::m,h,k=>⟨k 0 (by simp) (by simp),GU (by simpa using h) (fun i h1 h2=>k (i+1) (by simpa using h1) (by simpa using h2))⟩
theorem qo{ks:List Int}{t:TS}(h:ks.length=t.ah.length):(jF ks t).length=t.ah.length:=by unfold jF;rw[List.length_zipWith];omega
theorem qm{ks:List Int}{t:TS}{i:Nat}(h1:i<(jF ks t).length)(h2:i<ks.length)(h3:i<t.ah.length):(jF ks t)[i]=iw ks[i] t.ah[i] t.rows:=by simp[jF]
theorem CU{ks:List Int}{t:TS}(h:wF ks t):wF ks (ja ks t):=by
 have hl:=qo h.len;refine⟨h.len.trans hl.symm,?_,?_⟩
 ·exact y_ _ _ _ h.rows (fun c _=>wT c)
 ·intro c hc;obtain⟨i,hi,rfl⟩:=List.getElem_of_mem (show c∈jF ks t from hc);rw[qm hi (by have:=h.len;omega) (by omega)];exact JS (h.ah _ (List.getElem_mem _)) h.rows
theorem CS{ks:List Int}{t:TS}(h:wF ks t):y9 (ja ks t) t:=by
 have hl:=qo h.len;refine⟨rfl,zQ _ _,GU hl ?_⟩;intro i h1 h2;have hk:i<ks.length:=by have:=h.len;omega
 rw[show(ja ks t).ah[i]=iw ks[i] t.ah[i] t.rows from qm h1 hk h2];exact JR (h.ah _ (List.getElem_mem _)) h.rows
theorem Pk{ks:List Int}{t z:TS}(h:wF ks t)(hz:wF ks z)(hf:Fx ks z)(hle:y9 z t):y9 z (ja ks t):=by
 have hl:=qo h.len;have hzl:=hle.ah.len;have hcol:∀(i:Nat) (h1:i<z.ah.length) (h2:i<(jF ks t).length),Ae z.ah[i] (jF ks t)[i]:=by
  intro i h1 h2;have hk:i<ks.length:=by have:=h.len;omega
  rw[qm h2 hk (by omega),<-(hf i hk h1).1];exact Bt (hz.ah _ (List.getElem_mem _)) (h.ah _ (List.getElem_mem _)) hz.rows (hle.ah.get i h1 (by omega)) hle.rows
 refine⟨hle.low,y_ _ _ _ hle.rows ?_,GU (by rw[hzl];exact hl.symm) hcol⟩;intro c hc;obtain⟨i,hi,rfl⟩:=List.getElem_of_mem hc;have h1:i<z.ah.length:=by omega
 exact Int.le_trans (hf i (by have:=h.len;omega) h1).2 (BS (hcol i h1 hi))
theorem JY{ks:List Int}{t:TS}(h:wF ks t)(he:ja ks t=t):Fx ks t:=by
 intro i h1 h2;have hl:=qo h.len;have ec:jF ks t=t.ah:=congrArg TS.ah he;have er:kJ t.rows (jF ks t)=t.rows:=congrArg TS.rows he;have e1:(jF ks t)[i]'(by omega)=t.ah[i]:=by simp only[ec]
 rw[qm (by omega) h1 h2]at e1
 refine⟨e1,?_⟩;have:=BM (jF ks t) t.rows t.ah[i] (by rw[ec];exact List.getElem_mem _);omega
theorem Way.once{ks:List Int}{t n:TS}(h:Way ks t n):Way ks t (ja ks n):=
 ⟨CU h.ok,(CS h.ok).trans h.le,fun z h1 h2 h3=>Pk h.ok h1 h2 (h.top z h1 h2 h3)⟩
def stepT(ks:List Int)(t:TS)(i:Nat)(k:Int)(c:dh):TS:=⟨t.low,min t.rows (jT (iw k c t.rows)),t.ah.set i (iw k c t.rows)⟩
theorem step_ok{ks:List Int}{t:TS}{i:Nat}(h:wF ks t)(h1:i<ks.length)(h2:i<t.ah.length):wF ks (stepT ks t i ks[i] t.ah[i]):=by
 refine⟨by simp[stepT,h.len],?_,?_⟩
 ·have:=wT (iw ks[i] t.ah[i] t.rows);have:=h.rows;show 0<=min _ _;omega
 ·intro c hc;rcases List.mem_or_eq_of_mem_set hc with hc|rfl
  ·exact h.ah c hc
  ·exact JS (h.ah _ (List.getElem_mem _)) h.rows
theorem vQ{l:List dh}{i:Nat}(h:i<l.length):l.set i l[i]=l:=List.set_getElem_self h
theorem Lf{ks:List Int}{t:TS}{i:Nat}(h:wF ks t)(h1:i<ks.length)(h2:i<t.ah.length):y9 (stepT ks t i ks[i] t.ah[i]) t:=by
 refine⟨rfl,by show min _ _<=_;omega,?_⟩;have:=(uN.refl t.ah).set i (JR (k:=ks[i]) (h.ah _ (List.getElem_mem h2)) h.rows);rw[vQ h2]at this
 exact this
theorem RL{ks:List Int}{t z:TS}{i:Nat}(h:wF ks t)(h1:i<ks.length)(h2:i<t.ah.length)(hz:wF ks z)(hf:Fx ks z)(hle:y9 z t):y9 z (stepT ks t i ks[i] t.ah[i]):=by
 have hzl:=hle.ah.len;have h3:i<z.ah.length:=by omega
 have hc:Ae z.ah[i] (iw ks[i] t.ah[i] t.rows):=by rw[<-(hf i h1 h3).1];exact Bt (hz.ah _ (List.getElem_mem _)) (h.ah _ (List.getElem_mem _)) hz.rows (hle.ah.get i h3 h2) hle.rows
 refine⟨hle.low,?_,?_⟩
 ·have:=BS hc;have:=(hf i h1 h3).2;have:=hle.rows;show _<=min _ _;omega
 ·have:=hle.ah.set i hc;rw[vQ h3]at this
  exact this
theorem Way.step{ks:List Int}{t n:TS}(h:Way ks t n){i:Nat}(h1:i<ks.length)(h2:i<n.ah.length):Way ks t (stepT ks n i ks[i] n.ah[i]):=
 ⟨step_ok h.ok h1 h2,(Lf h.ok h1 h2).trans h.le,fun z p q r=>RL h.ok h1 h2 p q (h.top z p q r)⟩
theorem Zp{ks:List Int}{t:TS}{i:Nat}(h1:i<ks.length)(h2:i<t.ah.length)(h:¬(iw ks[i] t.ah[i] t.rows=t.ah[i]/\min t.rows (jT (iw ks[i] t.ah[i] t.rows))=t.rows)):¬stepT ks t i ks[i] t.ah[i]=t:=by
 intro e;apply h;have ec:t.ah.set i (iw ks[i] t.ah[i] t.rows)=t.ah:=congrArg TS.ah e;have er:min t.rows (jT (iw ks[i] t.ah[i] t.rows))=t.rows:=congrArg TS.rows e;refine⟨?_,er⟩;have:(t.ah.set i (iw ks[i] t.ah[i] t.rows))[i]'(by simpa using h2)=t.ah[i]:=by simp only[ec]
 simpa using this
noncomputable def fZ(ks:List Int)(t:TS):TS:=@dite TS (∃n,Gr ks t n) (Classical.propDecidable _) (fun h=>Classical.choose h) (fun _=>t)
theorem uf{ks:List Int}{t n:TS}(h:Gr ks t n):fZ ks t=n:=by
 have he:∃n,Gr ks t n:=⟨n,h⟩
 unfold fZ;rw[dif_pos he];exact(Classical.choose_spec he).uniq h
theorem Fa{ks:List Int}{t:TS}:∀(m:Nat) (n:TS),mT n<=m->Way ks t n->∃n,Gr ks t n
 | m,n,hm,h=>by
  by_cases he:ja ks n=n
  ·exact⟨n,h.fin (JY h.ok he)⟩
  ·have:=O8 (CS h.ok) (CU h.ok) he;cases m with
   | zero=>omega
   | succ m=>exact Fa m _ (by omega) h.once
theorem Ph{ks:List Int}{t:TS}(h:wF ks t):Gr ks t (fZ ks t):=by obtain⟨n,hn⟩:=Fa (mT t) t (Nat.le_refl _) (Way.start h);rw[uf hn];exact hn
set_option maxHeartbeats 1000000 in
theorem lK(ks:List Int)(t:TS)(hl:t.ah.length<=3518437208883)(hok:wF ks t) :
 call T KC [.sl false (ks.map u8),.agg [i6 t.low,i6 t.rows,.sl false (t.ah.map dh.enc)]]=some ((fZ ks t).enc true):=by
 refine q155g (by simp) ?_;have hkl:=hok.len;generalize hR:fZ ks t=R;replace hR:=Hd.mk hR;have hw:Hd (Way ks t t):=⟨Way.start hok⟩
 simp;refine av (σ:=TS×Bool×Bool) (fun x e s=>e 0=.sl false (ks.map u8)/\e 3=.ptr 3 1 0/\e 4=.ptr 4 1 0/\e 5=.v (.bool x.2.1)/\(∃n,s 3=⟨1,true,some (.box (.agg [i6 x.1.low,i6 x.1.rows,.sl x.2.2 (x.1.ah.map dh.enc)])),n⟩)/\(∃n,s 4=⟨1,true,some (.box (.agg [i6 0,i6 0,.nil])),n⟩)/\
  Hd (Way ks t x.1/\(x.2.1=false->Fx ks x.1/\x.2.2=true))) (fun x=>mT x.1+x.2.1.toNat) ?_ (t,true,false) _ _
  ⟨by simp,by simp,by simp,by simp,⟨_,by simp;rfl⟩,⟨_,by simp;rfl⟩,⟨hw.out,by simp⟩⟩
 rintro⟨n,b,f⟩ e s ⟨e0,e3,e4,e5,⟨n3,s3⟩,⟨n4,s4⟩,hx⟩ ih;simp at e5 s3 hx;cases b
 ·simp[e0,e3,e4,e5,s3,s4];have hn:R=n:=hR.out.symm.trans (uf (hx.out.1.fin (hx.out.2 rfl).1));rw[hn];exact⟨rfl,rfl,(hx.out.2 rfl).2,rfl⟩
 ·have ho:=qG ks n hx.out.1.ok.len (by have:=hx.out.1.ok.len;omega) hx.out.1.ok.rows hx.out.1.ok.ah;have hwo:Hd (Way ks t (ja ks n)):=⟨hx.out.1.once⟩
  have hch:Hd (chB (ja ks n) n=false↔ja ks n=n):=⟨A_⟩
  have hfx:Hd (ja ks n=n->Fx ks n):=⟨fun h=>JY hx.out.1.ok h⟩
  have hlt:Hd (¬ja ks n=n->mT (ja ks n)<mT n):=⟨fun h=>O8 (CS hx.out.1.ok) (CU hx.out.1.ok) h⟩
  generalize chB (ja ks n) n=c at *
  generalize ja ks n=m at *
  simp[e0,e3,e4,e5,s3,s4,ho];refine ih.out (m,c,true) _ _ ⟨by simp[e0],by simp[e3],by simp[e4],by simp,⟨_,by simp[s3];rfl⟩,⟨_,by simp[s4];rfl⟩,⟨hwo.out,fun h=>?_⟩⟩ ?_
  ·have e:=hch.out.1 h;have:=hfx.out e;rw[e];exact⟨this,rfl⟩
  ·show mT m+c.toNat<mT n+1;cases c
   ·rw[hch.out.1 rfl];exact Nat.lt_succ_self _
   ·have:¬m=n:=fun h=>by have:=hch.out.2 h;simp at this
    have:=hlt.out this;show mT m+1<_;omega
theorem Ed:∀ {ks:List Int} {cs:List dh},cs.length=ks.length->mP ks cs=true->(∀c∈cs,qK c)->∀c∈cs,Ol c
 | [],[],_,_,_=>by simp
 | k::ks,c::cs,hl,hc,hi=>by
  simp only[mP,bE]at hc;intro d hd;rcases List.mem_cons.1 hd with rfl|hd
  ·have h1:=hc.1;simp[rM,mW]at h1
   exact⟨by omega,by omega,by omega,hi d (by simp)⟩
  ·exact Ed (by simpa using hl) hc.2 (fun c hc=>hi c (by simp[hc])) d hd
theorem Hl{ks:List Int}{t:TS}(h:fV ks t=true)(hi:∀c∈t.ah,qK c):wF ks t:=by have hl:=OG h;simp only[fV,bE]at h;obtain⟨_,_,_,hr,hc⟩:=h;exact⟨hl.symm,by simp[mW]at hr;omega,Ed hl hc hi⟩
theorem Jo:T lG=some (.rQ rJ):=by kernel_rfl
theorem EQ(f:Bool)(s:ay):dD (run T) T lG [.sl f []] s=some (.nil,s):=by simp only[dD,Jo];rfl
theorem CK(f:Bool)(c:dh)(cs:List dh)(s:ay)(h:(c::cs).length<=3518437208883):dD (run T) T lG [.sl f ((c::cs).map dh.enc)] s=some (.ref 4005 ((s 4005).g+2) 5 0 (cs.length+1),aO (aO s 4005 (.row 5 [])) 4005 (.row 5 ((c::cs).map dh.enc))):=by
 simp only[dD,Jo,List.map_cons,rJ];rw[if_pos]
 ·simp
 ·refine⟨?_,by simpa using h⟩;simp
theorem AQ(t:TS)(hl:t.ah.length<=3518437208883)(s:ay):wp T [.code QG] (bn [t.enc false]) s (fun e s'=>∃r,iJ e s' [.cell 2 3 true]=some r/\qA 1000 2000 4005 4006 s s'/\∃x,r=.agg [i6 t.low,i6 t.rows,x]/\kV s' 4005 4006 5 x (t.ah.map dh.enc)):=by
 obtain⟨low,rows,ah⟩:=t;cases ah with
 | nil=>
  simp[EQ];refine⟨.agg [i6 low,i6 rows,.nil],by simp[iJ,fq,f_],?_,.nil,rfl,.inl ⟨rfl,rfl⟩⟩;exact(((qA.aO (fun _ _ _=>rfl) _ (by omega)).aO _ (by omega)).bK _ (by omega)).bK _ (by omega)
 | cons c cs=>
  have hc:=fun s=>CK false c cs s hl;simp only[List.map_cons]at hc;simp[hc];refine⟨.agg [i6 low,i6 rows,.ref 4005 ((s 4005).g+2) 5 0 (cs.length+1)],by simp[iJ,fq,f_],?_,.ref 4005 ((s 4005).g+2) 5 0 (cs.length+1),rfl,.inr ⟨by simp,4005,(s 4005).g+2,_,by simp,by simp;rfl,by omega,by omega⟩⟩;exact(((((qA.aO (fun _ _ _=>rfl) _ (by omega)).aO _ (by omega)).aO _ (by omega)).aO _ (by omega)).bK _ (by omega)).bK _ (by omega)
theorem AA(t:TS)(hl:t.ah.length<=3518437208883)(s:ay):∃r,dD (run T) T KW [.agg [i6 t.low,i6 t.rows,.sl false (t.ah.map dh.enc)]] s=some r/\qA 1000 2000 4005 4006 s r.2/\∃x,r.1=.agg [i6 t.low,i6 t.rows,x]/\kV r.2 4005 4006 5 x (t.ah.map dh.enc):=
 j5 (nt:=8) (res:=[.cell 2 3 true]) (body:=QG) (P:=fun r=>qA 1000 2000 4005 4006 s r.2/\∃x,r.1=.agg [i6 t.low,i6 t.rows,x]/\kV r.2 4005 4006 5 x (t.ah.map dh.enc)) (by kernel_rfl) (by simp) (AQ t hl s)
def Si(o:Nat)(s:ay)(t:TS)(e:Env)(s':ay):Prop:=∃r,iJ e s' [.cell 4 3 true]=some r/\qA 2000 3000 o (o+1) s s'/\∃x,r=.agg [i6 t.low,i6 t.rows,x]/\kV s' o (o+1) 5 x (t.ah.map dh.enc)
set_option maxHeartbeats 4000000 in
theorem z_{fl:Bool}(ks:List Int)(t:TS)(hok:wF ks t)(hl:t.ah.length<=3518437208883)(h0:0<t.ah.length)(o g n0:Nat)(ho:o<2000\/3000<=o)(s:ay)(hs:s o=⟨g,true,some (.row 5 (t.ah.map dh.enc)),n0⟩) :
 wp T [.code KY] (bn [.sl fl (ks.map u8),.agg [i6 t.low,i6 t.rows,.ref o g 5 0 t.ah.length]]) s (Si o s (fZ ks t)):=by
 have hl':t.ah.length<=9223372036854775807:=by omega
 have hkl:Hd (ks.length=t.ah.length):=⟨hok.len⟩
 have q1:¬o=2003:=by omega
 have q2:¬2003=o:=by omega
 have q3:¬o=2004:=by omega
 have q4:¬2004=o:=by omega
 have q5:¬o=2007:=by omega
 have q6:¬2007=o:=by omega
 generalize hR:fZ ks t=R;replace hR:=Hd.mk hR;have hw:Hd (Way ks t t):=⟨Way.start hok⟩
 simp;refine av (σ:=TS) (fun n e s'=>e 0=.sl fl (ks.map u8)/\(∃g',e 3=.ptr 2003 g' 0/\∃m,s' 2003=⟨g',true,some (.box (.agg [i6 n.low,i6 n.rows,.ref o g 5 0 n.ah.length])),m⟩)/\(∃g',e 4=.ptr 2004 g' 0/\∃m,s' 2004=⟨g',true,some (.box (.agg [i6 0,i6 0,.nil])),m⟩)/\
  (∃m,s' o=⟨g,true,some (.row 5 (n.ah.map dh.enc)),m⟩)/\Hd (Way ks t n)/\qA 2000 3000 o (o+1) s s') (fun n=>mT n) ?_ t _ _
  ⟨by simp,⟨(s 2003).g+1,by simp,_,by simp;rfl⟩,⟨(s 2004).g+1,by simp,_,by simp;rfl⟩,⟨_,by simp[q1,q2,q3,q4,hs];rfl⟩,hw,(qA.aO (fun _ _ _=>rfl) _ (by omega)).aO _ (by omega)⟩
 rintro n e s' ⟨e0,⟨g3,e3,m3,s3⟩,⟨g4,e4,m4,s4⟩,⟨mo,so⟩,hway,hF⟩ ih;have hnk:Hd (ks.length=n.ah.length):=⟨hway.out.ok.len⟩
 have hnl:Hd (n.ah.length=t.ah.length):=⟨by have:=hway.out.ok.len;have:=hkl.out;omega⟩
 clear hw;simp[e3,s3,so];refine av (σ:=Nat) (fun i e s''=>e 0=.sl fl (ks.map u8)/\e 3=.ptr 2003 g3 0/\(∃m,s'' 2003=⟨g3,true,some (.box (.agg [i6 n.low,i6 n.rows,.ref o g 5 0 n.ah.length])),m⟩)/\e 4=.ptr 2004 g4 0/\(∃m,s'' 2004=⟨g4,true,some (.box (.agg [i6 0,i6 0,.nil])),m⟩)/\
  (∃m,s'' o=⟨g,true,some (.row 5 (n.ah.map dh.enc)),m⟩)/\e 10=.ref o g 5 0 n.ah.length/\e 11=i6 n.ah.length/\e 12=i6 i/\i<=n.ah.length/\qA 2000 3000 o (o+1) s s''/\
  Hd (∀(j:Nat) (h:j<ks.length) (h':j<n.ah.length),j<i->iw ks[j] n.ah[j] n.rows=n.ah[j]/\n.rows<=jT n.ah[j])) (fun i=>n.ah.length-i) ?_ 0 _ _
  ⟨by simp[e0],by simp[e3],⟨m3,s3⟩,by simp[e4],⟨m4,s4⟩,⟨mo,so⟩,by simp,by simp,by simp,by omega,hF,⟨fun j _ _ h=>by omega⟩⟩
 clear e0 e3 s3 e4 s4 so hF;clear mo m4 m3 e s';rintro i e s' ⟨e0,e3,⟨m3,s3⟩,e4,⟨m4,s4⟩,⟨mo,so⟩,e10,e11,e12,hi',hF,hfx⟩ ih2;simp[e11,e12];refine aj (fun q=>?_) (fun q=>?_)<;>(have q':=q;try simp at q')<;>(try simp[*])
 ·have hik:i<ks.length:=by have:=hnk.out;omega
  have hco:=hway.out.ok.ah _ (List.getElem_mem q');have hcn:∀a b d,call T FJ [u8 ks[i],.agg [i6 a,i6 b,i6 d,i6 n.ah[i].lo,i6 n.ah[i].hi]]=some (i6 (bJ ks[i] n.ah[i])):=fun a b d=>Au ks[i] ⟨a,b,d,n.ah[i].lo,n.ah[i].hi⟩ hco.2.2.2;replace hco:=Hd.mk hco;have fin:∀e' s2,e' 0=.sl fl (ks.map u8)->e' 3=.ptr 2003 g3 0->(∃m,s2 2003=⟨g3,true,some (.box (.agg [i6 n.low,i6 n.rows,.ref o g 5 0 n.ah.length])),m⟩)->e' 4=.ptr 2004 g4 0->(∃m,s2 2004=⟨g4,true,some (.box (.agg [i6 0,i6 0,.nil])),m⟩)->
   (∃m,s2 o=⟨g,true,some (.row 5 ((n.ah.map dh.enc).set i (iw ks[i] n.ah[i] n.rows).enc)),m⟩)->e' 10=.ref o g 5 0 n.ah.length->e' 11=i6 n.ah.length->e' 12=i6 i->e' 6=.ep o g 5 i 0->(∃g7,e' 7=.ptr 2007 g7 0/\∃m,s2 2007=⟨g7,true,some (.box n.ah[i].enc),m⟩)->qA 2000 3000 o (o+1) s s2->
   wp T [It.code ((IC.aL [] [] Da zH).seq ((IC.aL [] [] Db zI).seq (IC.cond (Ar.t 116) ((IC.ops Dc).seq (IC.exit 1)) IC.skip))),
    It.bl 3,It.code (IC.ops K3),It.lp QJ,It.bl 2,It.code ((IC.ops K4).seq IC.ret),It.bl 1,It.lp Im,It.bl 0] e' s2 (Si o s R):=by
   intro e' s2 y0 y3 ⟨m3,z3⟩ y4 ⟨m4,z4⟩ ⟨mo,zo⟩ y10 y11 y12 y6 ⟨g7,y7,m7,z7⟩ hF2;have hst:Hd (Way ks t (stepT ks n i ks[i] n.ah[i])):=⟨hway.out.step hik q'⟩
   have hlt:Hd (¬stepT ks n i ks[i] n.ah[i]=n->mT (stepT ks n i ks[i] n.ah[i])<mT n):=⟨fun h=>O8 (Lf hway.out.ok hik q') (step_ok hway.out.ok hik q') h⟩
   have hne:Hd (¬(iw ks[i] n.ah[i] n.rows=n.ah[i]/\min n.rows (jT (iw ks[i] n.ah[i] n.rows))=n.rows)->¬stepT ks n i ks[i] n.ah[i]=n):=⟨Zp hik q'⟩
   have hsc:Hd (stepT ks n i ks[i] n.ah[i]=⟨n.low,min n.rows (jT (iw ks[i] n.ah[i] n.rows)),n.ah.set i (iw ks[i] n.ah[i] n.rows)⟩):=⟨rfl⟩
   have hnc:Hd (∀(j:Nat) (h:j<ks.length) (h':j<n.ah.length),j=i->iw ks[j] n.ah[j] n.rows=iw ks[i] n.ah[i] n.rows):=⟨fun j h h' e=>by subst e;rfl⟩
   generalize iw ks[i] n.ah[i] n.rows=z at *
   generalize stepT ks n i ks[i] n.ah[i]=w at *
   obtain⟨b,hb1,hb2⟩:=Jv z n.ah[i];have f2:=mg z.distinct z.degree;have f3:call T jv [i6 (dR z.distinct z.degree),i6 z.bQ]=some (i6 (jT z)):=sS _ _;have hz:((n.ah.map dh.enc).set i z.enc)[i]?=some z.enc:=by simp[q']
   simp[y0,y3,y4,y6,y7,y10,y11,y12,z3,z4,zo,z7,f2,f3,hz,q1,q2,q3,q4,q5,q6,hb1];have up:∀e3' s3',e3' 0=.sl fl (ks.map u8)->e3' 3=.ptr 2003 g3 0->(∃m,s3' 2003=⟨g3,true,some (.box (.agg [i6 n.low,i6 (min n.rows (jT z)),.ref o g 5 0 n.ah.length])),m⟩)->e3' 4=.ptr 2004 g4 0->(∃m,s3' 2004=⟨g4,true,some (.box (.agg [i6 0,i6 0,.nil])),m⟩)->
    (∃m,s3' o=⟨g,true,some (.row 5 ((n.ah.map dh.enc).set i z.enc)),m⟩)->qA 2000 3000 o (o+1) s s3'->¬(z=n.ah[i]/\min n.rows (jT z)=n.rows)->wp T [It.lp Im,It.bl 0] e3' s3' (Si o s R):=by
    intro e3' s3' x0 x3 ⟨p3,u3⟩ x4 ⟨p4,u4⟩ ⟨po,uo⟩ hF3 hn;have hlt':=hlt.out (hne.out hn);have hst':=hst.out;rw[hsc.out]at hlt' hst'
    refine ih.out ⟨n.low,min n.rows (jT z),n.ah.set i z⟩ _ _ ⟨x0,⟨g3,x3,p3,by rw[u3];simp⟩,⟨g4,x4,p4,u4⟩,⟨po,by rw[uo];simp[List.map_set]⟩,⟨hst'⟩,hF3⟩ hlt'
   replace up:=Hd.mk up;have hb2':=hb2.out;replace hb2:=Hd.mk hb2';clear hb2';cases b
   ·simp[y0,y3,y4,y6,y7,y10,y11,y12,z3,z4,zo,z7,q1,q2,q3,q4,q5,q6];refine aj (fun r=>?_) (fun r=>?_)<;>(have r':=r;try simp at r')<;>(try simp[*])
    ·exact up.out _ _ (by simp[y0]) (by simp[y3]) (bY (by simp[z3]) (by simp[z3]) (by simp[z3])) (by simp[y4]) (bY (by simp[z4]) (by simp[z4]) (by simp[z4])) (bY (by simp[zo,q1,q2]) (by simp[zo,q1,q2]) (by simp[zo,q1,q2])) (hF2.bK _ (by omega)) (fun h=>by have:=h.2;omega)
    ·have hzc:=hb2.out.1 rfl;refine ih2.out (i+1) _ _ ⟨by simp[y0],by simp[y3],⟨m3,z3⟩,by simp[y4],⟨m4,z4⟩,⟨mo,?_⟩,by simp[y10],by simp[y11],by simp[ai q' (show n.ah.length<=9223372036854775807 by have:=hnl.out;omega)],q',hF2,⟨?_⟩⟩ (by omega)
     ·rw[zo,hzc,<-List.map_set,vQ q']
     ·intro j h h' hj;by_cases hji:j=i
      ·have:=hnc.out j h h' hji;subst hji;exact⟨this.trans hzc,by rw[<-hzc];omega⟩
      ·exact hfx.out j h h' (by omega)
   ·simp[y0,y3,y4,y6,y7,y10,y11,y12,z3,z4,zo,z7,q1,q2,q3,q4,q5,q6];exact up.out _ _ (by simp[y0]) (by simp[y3]) (bY (by simp[z3]) (by simp[z3]) (by simp[z3])) (by simp[y4]) (bY (by simp[z4]) (by simp[z4]) (by simp[z4])) (bY (by simp[zo,q1,q2]) (by simp[zo,q1,q2]) (by simp[zo,q1,q2])) (hF2.bK _ (by omega)) (fun h=>by have:=hb2.out.2 h.1;simp at this)
  replace fin:=Hd.mk fin;simp[e0,e3,e10,e12,s3,so,q',hik,q1,q2,q3,q4,q5,q6,hcn];generalize It.code ((IC.aL [] [] Da zH).seq ((IC.aL [] [] Db zI).seq (IC.cond (Ar.t 116) ((IC.ops Dc).seq (IC.exit 1)) IC.skip)))=K at fin ⊢;refine aY (fun h1=>?_) (fun h1=>?_)<;>(have h1':=h1;try simp at h1')<;>(try simp[*])
  ·refine aj (fun k=>?_) (fun k=>?_)<;>(have k':=k;try simp at k')<;>(try simp[*])
   ·have hz:=nQ (kind:=ks[i]) (c:=n.ah[i]) (r:=n.rows) (.inl h1');rw[if_pos k',if_pos k',k']at hz
    refine fin.out _ _ (by simp[e0]) (by simp[e3]) (bY (by simp[s3,q1,q2]) (by simp[s3,q1,q2]) (by simp[s3,q1,q2])) (by simp[e4]) (bY (by simp[s4,q3,q4]) (by simp[s4,q3,q4]) (by simp[s4,q3,q4])) (bY (by simp[so,q5,q6]) (by simp[so,q5,q6]) (by simp[so,q5,q6,hz,k'])) (by simp[e10]) (by simp[e11]) (by simp[e12]) (by simp) ⟨(s' 2007).g+1,by simp,bY (by simp[q5,q6]) (by simp[q5,q6]) (by simp[q5,q6])⟩ ?_
    repeat (first|exact hF|refine qA.bK ?_ _ (by omega)|refine qA.aO ?_ _ (by omega))
   ·have hz:=nQ (kind:=ks[i]) (c:=n.ah[i]) (r:=n.rows) (.inl h1');refine fin.out _ _ (by simp[e0]) (by simp[e3]) (bY (by simp[s3,q1,q2]) (by simp[s3,q1,q2]) (by simp[s3,q1,q2])) (by simp[e4]) (bY (by simp[s4,q3,q4]) (by simp[s4,q3,q4]) (by simp[s4,q3,q4])) (bY (by simp[so,q5,q6]) (by simp[so,q5,q6]) (by simp[so,q5,q6,hz,k'])) (by simp[e10]) (by simp[e11]) (by simp[e12]) (by simp) ⟨(s' 2007).g+1,by simp,bY (by simp[q5,q6]) (by simp[q5,q6]) (by simp[q5,q6])⟩ ?_
    repeat (first|exact hF|refine qA.bK ?_ _ (by omega)|refine qA.aO ?_ _ (by omega))
  refine aj (fun h2=>?_) (fun h2=>?_)<;>(have h2':=h2;try simp at h2')<;>(try simp[*])
  ·refine aj (fun k=>?_) (fun k=>?_)<;>(have k':=k;try simp at k')<;>(try simp[*])
   ·have hz:=nQ (kind:=ks[i]) (c:=n.ah[i]) (r:=n.rows) (.inr h2');rw[if_pos k',if_pos k',k']at hz
    refine fin.out _ _ (by simp[e0]) (by simp[e3]) (bY (by simp[s3,q1,q2]) (by simp[s3,q1,q2]) (by simp[s3,q1,q2])) (by simp[e4]) (bY (by simp[s4,q3,q4]) (by simp[s4,q3,q4]) (by simp[s4,q3,q4])) (bY (by simp[so,q5,q6]) (by simp[so,q5,q6]) (by simp[so,q5,q6,hz,k'])) (by simp[e10]) (by simp[e11]) (by simp[e12]) (by simp) ⟨(s' 2007).g+1,by simp,bY (by simp[q5,q6]) (by simp[q5,q6]) (by simp[q5,q6])⟩ ?_
    repeat (first|exact hF|refine qA.bK ?_ _ (by omega)|refine qA.aO ?_ _ (by omega))
   ·have hz:=nQ (kind:=ks[i]) (c:=n.ah[i]) (r:=n.rows) (.inr h2');refine fin.out _ _ (by simp[e0]) (by simp[e3]) (bY (by simp[s3,q1,q2]) (by simp[s3,q1,q2]) (by simp[s3,q1,q2])) (by simp[e4]) (bY (by simp[s4,q3,q4]) (by simp[s4,q3,q4]) (by simp[s4,q3,q4])) (bY (by simp[so,q5,q6]) (by simp[so,q5,q6]) (by simp[so,q5,q6,hz,k'])) (by simp[e10]) (by simp[e11]) (by simp[e12]) (by simp) ⟨(s' 2007).g+1,by simp,bY (by simp[q5,q6]) (by simp[q5,q6]) (by simp[q5,q6])⟩ ?_
    repeat (first|exact hF|refine qA.bK ?_ _ (by omega)|refine qA.aO ?_ _ (by omega))
  ·have hz:=Pd (kind:=ks[i]) (c:=n.ah[i]) (r:=n.rows) h1' h2';refine fin.out _ _ (by simp[e0]) (by simp[e3]) (bY (by simp[s3,q1,q2]) (by simp[s3,q1,q2]) (by simp[s3,q1,q2])) (by simp[e4]) (bY (by simp[s4,q3,q4]) (by simp[s4,q3,q4]) (by simp[s4,q3,q4])) (bY (by simp[so,q5,q6]) (by simp[so,q5,q6]) (by simp[so,q5,q6,hz])) (by simp[e10]) (by simp[e11]) (by simp[e12]) (by simp) ⟨(s' 2007).g+1,by simp,bY (by simp[q5,q6]) (by simp[q5,q6]) (by simp[q5,q6])⟩ ?_
   repeat (first|exact hF|refine qA.bK ?_ _ (by omega)|refine qA.aO ?_ _ (by omega))
 ·have hie:i=n.ah.length:=by omega
  subst hie;have hgr:Gr ks t n:=hway.out.fin (fun j h h'=>hfx.out j h h' h');have hRn:R=n:=hR.out.symm.trans (uf hgr);subst hRn;refine⟨.agg [i6 R.low,i6 R.rows,.ref o g 5 0 R.ah.length],by simp[iJ,fq,f_,e4,s4],hF.bK _ (by omega),.ref o g 5 0 R.ah.length,rfl,?_⟩;refine .inr ⟨?_,o,g,mo,by simp,by simp[so,q3,q4],by omega,by omega⟩;intro hc;have hh:=hnl.out;have:=congrArg List.length hc;simp only[List.length_map,List.length_nil]at this;omega
theorem MB{ks:List Int}{t:TS}(hok:wF ks t)(h0:t.ah=[]):fZ ks t=t:=
 uf ((Way.start hok).fin (fun i h h'=>by rw[h0]at h';simp at h'))
theorem xE{fl:Bool}(ks:List Int)(t:TS)(hok:wF ks t)(h0:t.ah=[])(s:ay) :
 wp T [.code KY] (bn [.sl fl (ks.map u8),.agg [i6 t.low,i6 t.rows,.nil]]) s (Si 4005 s (fZ ks t)):=by
 rw[MB hok h0];simp;refine av (σ:=Unit) (fun n e s'=>e 3=.ptr 2003 ((s 2003).g+1) 0/\(∃m,s' 2003=⟨(s 2003).g+1,true,some (.box (.agg [i6 t.low,i6 t.rows,.nil])),m⟩)/\e 4=.ptr 2004 ((s 2004).g+1) 0/\(∃m,s' 2004=⟨(s 2004).g+1,true,some (.box (.agg [i6 0,i6 0,.nil])),m⟩)/\qA 2000 3000 4005 4006 s s') (fun _=>0) ?_ () _ _
  ⟨by simp,⟨_,by simp;rfl⟩,by simp,⟨_,by simp;rfl⟩,(qA.aO (fun _ _ _=>rfl) _ (by omega)).aO _ (by omega)⟩
 rintro _ e s' ⟨e3,⟨m3,s3⟩,e4,⟨m4,s4⟩,hF⟩ ih;simp[e3,s3];refine av (σ:=Unit) (fun n e s''=>e 3=.ptr 2003 ((s 2003).g+1) 0/\e 4=.ptr 2004 ((s 2004).g+1) 0/\e 11=i6 0/\e 12=i6 0/\s''=s') (fun _=>0) ?_ () _ _
  ⟨by simp[e3],by simp[e4],by simp,by simp,rfl⟩
 rintro _ e' s'' ⟨e3,e4,e11,e12,rfl⟩ ih2;simp[e3,e4,e11,e12,s3,s4];refine⟨.agg [i6 t.low,i6 t.rows,.nil],by simp[iJ,fq,f_,e4,s4],hF.bK _ (by omega),.nil,rfl,.inl ⟨by rw[h0];rfl,rfl⟩⟩
def fM(ks:List Int)(ts:List TS):Int:=if aT ks then(if ts.all (fV ks)then 0 else 190)else 1
theorem Av(ks:List Int)(ts:List TS)(hl:ks.length<=9223372036854775807)(ht:ts.length<=9223372036854775807):call T BK [.sl false (ks.map u8),.sl false (ts.map (TS.enc false))]=some (i6 (fM ks ts)):=by
 refine q209g (by simp) ?_;generalize hR:fM ks ts=R;replace hR:=Hd.mk hR;simp[oZ ks hl];refine aj (fun h=>?_) (fun h=>?_)<;>(try simp[*])
 ·simp at h;have e:R=1:=by rw[<-hR.out];simp[fM,h]
  simp[e]
 simp at h;refine av (σ:=Nat) (fun i e s=>e 0=.sl false (ks.map u8)/\e 10=.sl false (ts.map (TS.enc false))/\e 11=i6 ts.length/\e 12=i6 i/\i<=ts.length/\Hd (R=if(ts.drop i).all (fV ks)then 0 else 190)) (fun i=>ts.length-i) ?_ 0 _ _
  ⟨by simp,by simp,by simp,by simp,by omega,Hd.mk (by rw[<-hR.out];simp only[fM,h,if_true,List.drop_zero])⟩
 rintro i e s ⟨e0,e10,e11,e12,hi,hr⟩ ih;simp[e0,e10,e11,e12];refine aj (fun q=>?_) (fun q=>?_)<;>(have q':=q;try simp at q')<;>(try simp[*])
 ·replace hr:=Hd.mk (hr.out.trans (by rw[xX q']));have hf:call T BJ [.sl false (ks.map u8),.agg [i6 ts[i].low,i6 ts[i].rows,.sl false (ts[i].ah.map dh.enc)]]=_:=Cn ks ts[i] hl;simp[hf];cases hc:fV ks ts[i]
  ·have e:R=190:=by rw[hr.out];simp[hc]
   simp[e]
  ·simp[e12];refine ih.out (i+1) _ _ ?_ (by omega);exact⟨by simp[e0],by simp[e10],by simp[e11],by simp[ai q' ht],q',Hd.mk (by rw[hr.out];simp[hc])⟩
 ·have e:R=0:=by rw[hr.out,List.drop_eq_nil_of_le q'];rfl
  simp[e]
theorem yF(ks:List Int)(a:TS)(hl:ks.length<=9223372036854775807):call T BK [.sl false (ks.map u8),.sl false [a.enc false]]=some (i6 (fM ks [a])):=Av ks [a] hl (by simp)
def Jl(lo hi:Nat)(s:ay)(t:TS)(p:Nat)(e':Env)(s':ay):Prop:=
 Fr lo hi s s'/\∃o g n x,e' p=.ptr o g 0/\s' o=⟨g,true,some (.box (.agg [i6 t.low,i6 t.rows,x])),n⟩/\kV s' lo hi 5 x (t.ah.map dh.enc)
theorem Jl.pure{lo hi:Nat}{s:ay}{t:TS}{p:Nat}{e:Env}{s':ay}(h:Jl lo hi s t p e s'):aC e s' [.cell p 3 true]=some (t.enc true):=by obtain⟨_,o,g,n,x,h1,h2,h3⟩:=h;simp[h1,h2,h3.rZ (by simp)]
theorem Jl.inl{lo hi:Nat}{s:ay}{t:TS}{p:Nat}{e:Env}{s':ay}(h:Jl lo hi s t p e s'):∃r,iJ e s' [.cell p 3 true]=some r/\Fr lo hi s s'/\∃x,r=.agg [i6 t.low,i6 t.rows,x]/\kV s' lo hi 5 x (t.ah.map dh.enc):=by obtain⟨h0,o,g,n,x,h1,h2,h3⟩:=h;exact⟨.agg [i6 t.low,i6 t.rows,x],by simp[iJ,fq,f_,h1,h2],h0,x,rfl,h3⟩
theorem Fr.wide{lo hi lo' hi':Nat}{s s':ay}(h:Fr lo hi s s')(h1:lo'<=lo)(h2:hi<=hi'):Fr lo' hi' s s':=⟨fun o ho=>h.out o (by omega)⟩
theorem kV.wide{s:ay}{lo hi lo' hi' k:Nat}{x:X}{es:List X}(h:kV s lo hi k x es)(h1:lo'<=lo)(h2:hi<=hi'):kV s lo' hi' k x es:=by
 rcases h with h|⟨h0,o,g,n,rfl,h,h3,h4⟩
 ·exact .inl h
 ·exact .inr ⟨h0,o,g,n,rfl,h,by omega,by omega⟩
noncomputable def ug(ks:List Int)(t:TS):TS:=if fM ks [t]=0 then fZ ks t else⟨0,0,[]⟩
theorem yX(ks:List Int)(t:TS)(hok:wF ks t)(hl:t.ah.length<=3518437208883)(x:X)(s:ay)(hx:kV s 4005 4006 5 x (t.ah.map dh.enc)) :
 ∃r,dD (run T) T KZ [.sl false (ks.map u8),.agg [i6 t.low,i6 t.rows,x]] s=some r/\qA 2000 3000 4005 4006 s r.2/\∃x,r.1=.agg [i6 (fZ ks t).low,i6 (fZ ks t).rows,x]/\kV r.2 4005 4006 5 x ((fZ ks t).ah.map dh.enc):=by
 refine j5 (nt:=121) (res:=[.cell 4 3 true]) (body:=KY) (P:=fun r=>qA 2000 3000 4005 4006 s r.2/\∃x,r.1=.agg [i6 (fZ ks t).low,i6 (fZ ks t).rows,x]/\kV r.2 4005 4006 5 x ((fZ ks t).ah.map dh.enc)) (by kernel_rfl) (by simp) ?_;rcases hx with⟨h0,rfl⟩|⟨h0,o,g,n,rfl,hs,h1,h2⟩
 ·exact xE (fl:=false) ks t hok (by simpa using h0) s
 ·obtain rfl:o=4005:=by omega
  have:=z_ (fl:=false) ks t hok hl (by rcases Nat.eq_zero_or_pos t.ah.length with h|h;exact absurd (by rw[List.eq_nil_of_length_eq_zero h];rfl) h0;exact h) 4005 g n (by omega) s hs;rw[List.length_map];exact this
theorem qA.fr{lo hi lo' hi' a b:Nat}{s s':ay}(h:qA lo hi lo' hi' s s')(h1:a<=lo)(h2:hi<=b)(h3:a<=lo')(h4:hi'<=b):Fr a b s s':=⟨fun o ho=>h o (by omega) (by omega)⟩
theorem z8(ks:List Int)(t:TS)(hl:t.ah.length<=3518437208883)(hkl:ks.length<=9223372036854775807)(hi:∀c∈t.ah,qK c)(s:ay) :
 wp T [.code QF] (bn [.sl false (ks.map u8),t.enc false]) s (fun e s'=>∃r,iJ e s' [.cell 4 3 true,.tmp 5]=some r/\Fr 1000 7000 s s'/\∃x,r=.bU [.agg [i6 (ug ks t).low,i6 (ug ks t).rows,x],i6 (fM ks [t])]/\kV s' 4005 4006 5 x ((ug ks t).ah.map dh.enc)):=by
 have f1:call T BK [.sl false (ks.map u8),.sl false [.agg [i6 t.low,i6 t.rows,.sl false (t.ah.map dh.enc)]]]=some (i6 (fM ks [t])):=yF ks t hkl;have hok:fM ks [t]=0->wF ks t:=by intro h;refine Hl ?_ hi;cases hk:aT ks<;>cases ha:fV ks t<;>simp[fM,hk,ha]at h<;>rfl
 have g1:¬fM ks [t]=0->ug ks t=⟨0,0,[]⟩:=fun h=>if_neg h;have g2:fM ks [t]=0->ug ks t=fZ ks t:=fun h=>if_pos h;generalize fM ks [t]=E at *
 generalize ug ks t=N at *
 simp[f1];refine aj (fun h=>?_) (fun h=>?_)<;>(try simp[*])
 ·simp at h;obtain rfl:=g1 h;refine⟨.bU [.agg [i6 0,i6 0,.nil],i6 E],by simp[iJ,fq,f_],?_,.nil,rfl,.inl ⟨rfl,rfl⟩⟩
  repeat (first|exact Fr.refl _ _ _|refine Fr.bK ?_ _ (by omega)|refine Fr.aO ?_ _ (by omega))
 ·simp at h;subst h;obtain rfl:=g2 rfl;refine Lr (AA t hl _) ?_;rintro⟨r,s1⟩ ⟨hF1,x,rfl,hx⟩;have h4:s1 6004=_:=hF1 6004 (by omega) (by omega);simp at h4;simp;refine Lr (yX ks t (hok rfl) hl x _ hx) ?_;rintro⟨r,s2⟩ ⟨hF2,y,rfl,hy⟩;have k4:s2 6004=_:=hF2 6004 (by omega) (by omega);simp[h4]at k4
  simp[k4,hy.one.1,hy.one.2];refine⟨.bU [.agg [i6 (fZ ks t).low,i6 (fZ ks t).rows,y],i6 0],by simp[iJ,fq,f_,k4],?_,y,rfl,hy.fr ((Fr.refl 6004 6005 s2).bK _ (by omega)) (by omega)⟩;refine Fr.bK (Fr.trans (Fr.trans ?_ (hF1.fr (by omega) (by omega) (by omega) (by omega))) (hF2.fr (by omega) (by omega) (by omega) (by omega))) _ (by omega)
  repeat (first|exact Fr.refl _ _ _|refine Fr.bK ?_ _ (by omega)|refine Fr.aO ?_ _ (by omega))
theorem pureN{e:Env}{s:ay}{p q lo hi:Nat}{a b c:Int}{x:X}{es:List X}(h:iJ e s [.cell p 3 true,.tmp q]=some (.bU [.agg [i6 a,i6 b,x],i6 c]))(hx:kV s lo hi 5 x es)(hd:aP es=true) :
 aC e s [.cell p 3 true,.tmp q]=some (.bU [.agg [i6 a,i6 b,.sl true es],i6 c]):=by
 have h1:ES s (e p) 3 true=some (.agg [i6 a,i6 b,x])/\e q=i6 c:=by
  simp only[iJ,fq,f_]at h;cases hl:ES s (e p) 3 true with
  | none=>simp[hl]at h
  | some y=>simp[hl]at h;exact⟨by rw[h.1],h.2⟩
 have d1:∀n,rZ s (i6 n)=some (i6 n):=fun _=>rfl;have d2:∀n,oh s (i6 n)=some (i6 n):=fun _=>rfl;simp only[aC,uK,zO,h1.1,h1.2,oh,uM,hx.rZ hd,d1,d2]
theorem yE(ks:List Int)(t:TS)(hl:t.ah.length<=3518437208883)(hkl:ks.length<=9223372036854775807)(hi:∀c∈t.ah,qK c) :
 call T zG [.sl false (ks.map u8),.agg [i6 t.low,i6 t.rows,.sl false (t.ah.map dh.enc)]]=some (.bU [(ug ks t).enc true,i6 (fM ks [t])]):=
 q203g (by simp) (wp_mono (z8 ks t hl hkl hi s0) (by rintro e s' ⟨r,hr,_,x,rfl,hx⟩;exact pureN hr hx (by simp)))
theorem ow(t:TS)(hl:t.ah.length<=3518437208883):call T YN [t.enc false]=some (t.enc true):=by
 refine q95g (by simp) ?_;by_cases h:t.ah=[]
 ·simp[h]
 ·simp[h,hl]
def lV(op vk vi:Int)(vs:ByteArray)(up n:Int)(kids sub:X):X:=.agg [.v (.int .u8 op),.v (.int .u8 vk),i6 vi,.v (.string vs),i6 up,i6 n,kids,sub]
theorem yj(op vk vi:Int)(vs:ByteArray)(up n:Int)(kids sub:X)(h1:kids.one=true)(h2:sub.one=true) :
 call T uJ [lV op vk vi vs up n kids sub]=some (.bU [i6 n,.v (.bool (decide (op=2)&&decide (up=0)))]):=by
 refine q42g (by simp) ?_;by_cases h:op=2
 ·simp[lV,h,h1,h2]
 ·simp[lV,h,h1,h2]
theorem oz(op vk vi:Int)(vs:ByteArray)(up n:Int)(kids sub:X)(h1:kids.one=true)(h2:sub.one=true) :
 call T jb [lV op vk vi vs up n kids sub]=some (i6 (if op=2/\up=0 then n else -1)):=by
 refine q160g (by simp) ?_;by_cases h:op=2
 ·by_cases h':up=0
  ·simp[lV,h,h',h1,h2]
  ·simp[lV,h,h',h1,h2]
 ·simp[lV,h,h1,h2]
def bM(op:Int):Bool:=decide (12<=op)&&decide (op<=17)
theorem mJ(op:Int):call T M7 [.v (.int .u8 op)]=some (.v (.bool (bM op))):=by
 refine q44g (by simp) ?_;by_cases h:12<=op
 ·simp[bM,h]
 ·simp[bM,h]
theorem iV(op:Int):call T FH [.v (.int .u8 op)]=some (.v (.bool (bM op))):=by
 refine q164g (by simp) ?_;by_cases h1:op=12
 ·subst h1;simp[bM]
 by_cases h2:op=13
 ·subst h2;simp[bM]
 by_cases h3:op=14
 ·subst h3;simp[bM]
 by_cases h4:op=15
 ·subst h4;simp[bM]
 by_cases h5:op=16
 ·subst h5;simp[bM]
 by_cases h6:op=17
 ·subst h6;simp[bM]
 have:bM op=false:=by simp only[bM,Bool.and_eq_false_iff,decide_eq_false_iff_not];omega
 simp[h1,h2,h3,h4,h5,h6,this]
theorem dF(fl:Bool)(t:TS)(c:dh):call T uD [t.enc fl,c.enc]=some (i6 (min t.rows (dR c.distinct c.degree))):=by refine q157g (by simp) ?_;have h:=gZ c.distinct c.degree;simp[h]
def aH(ks:List Int)(t:TS):X:=.agg [.sl false (ks.map u8),i6 t.low,i6 t.rows,.sl false (t.ah.map dh.enc)]
theorem dM(ks:List Int)(t:TS)(j:Nat)(hj:j<t.ah.length):call T AL [aH ks t,i6 j]=some (i6 (min t.rows (dR t.ah[j].distinct t.ah[j].degree))):=by refine q79g (by simp) ?_;have h:=mg t.ah[j].distinct t.ah[j].degree;simp[aH,h,hj]
def oq(op:Int):Int:=if op=14 then 16 else if op=15 then 17 else if op=16 then 14 else if op=17 then 15 else op
theorem oF(op:Int):call T KR [.v (.int .u8 op)]=some (.v (.int .u8 (oq op))):=by
 refine q174g (by simp) ?_;unfold oq;by_cases h1:op=14
 ·subst h1;simp
 by_cases h2:op=15
 ·subst h2;simp
 by_cases h3:op=16
 ·subst h3;simp
 by_cases h4:op=17
 ·subst h4;simp
 simp[h1,h2,h3,h4]
end Go.Proofs.YtbmkfjmlepjpfaaGreatDoor
