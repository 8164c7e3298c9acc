/- A part of the proof. -/
import Derived.Test.YtbmkfjmlepjpfaaGreatDoorEa
set_option linter.all false
set_option maxRecDepth 100000
namespace Go.Proofs.YtbmkfjmlepjpfaaGreatDoor
open Go.RowKit
structure VY where
 op:Int
 col:Int
 v:Val
abbrev VY.enc(c:VY):X:=.agg [u8 c.op,i6 c.col,u8 c.v.kind,i6 c.v.int,.v (.string c.v.text)]
def zeroV:Val:=⟨0,0,⟨#[]⟩⟩
def Ex.bq(e:Ex):Bool:=decide (e.op=2)&&decide (e.up=0)
def Ex.cO(e:Ex):Int:=if e.op=2/\e.up=0 then e.n else -1
def a_(op:Int)(kids:List Ex):VY×Bool:=match kids with
 | [a,b]=>if(bI op||decide (op=18))=true then(if a.op=0 then(⟨qb op,b.n,a.v⟩,b.bq)else(⟨op,a.n,b.v⟩,a.bq&&decide (b.op=0)))else(⟨0,0,zeroV⟩,false)
 | _=>(⟨0,0,zeroV⟩,false)
theorem wo{l:List Ex}(h:l.length=2):∃a b,l=[a,b]:=by rcases l with _|⟨a,_|⟨b,_|⟨c,l⟩⟩⟩<;>simp at h ⊢
theorem cK(e:Ex):call T wS [.agg [.v (.int .u8 e.op),.v (.int .u8 e.vk),i6 e.vi,.v (.string e.vs),i6 e.up,i6 e.n,.sl false (e.kids.map Ex.enc),.sl false (e.sub.map Pn.enc)]]=some (.cZ [i6 e.n,.v (.bool e.bq)]):=by
 have h:=Aq e.op e.vk e.vi e.vs e.up e.n (.sl false (e.kids.map Ex.enc)) (.sl false (e.sub.map Pn.enc)) rfl rfl;rw[nL]at h
 exact h
theorem aG(e:Ex):call T gP [.agg [.v (.int .u8 e.op),.v (.int .u8 e.vk),i6 e.vi,.v (.string e.vs),i6 e.up,i6 e.n,.sl false (e.kids.map Ex.enc),.sl false (e.sub.map Pn.enc)]]=some (i6 e.cO):=by
 have h:=qd e.op e.vk e.vi e.vs e.up e.n (.sl false (e.kids.map Ex.enc)) (.sl false (e.sub.map Pn.enc)) rfl rfl;rw[nL]at h
 exact h
theorem zN{l:List Ex}(h:¬l.length=2):¬((l.length:Int)=2):=by omega
theorem qy{op:Int}{l:List Ex}(h:¬l.length=2):a_ op l=(⟨0,0,zeroV⟩,false):=by rcases l with _|⟨a,_|⟨b,_|⟨c,l⟩⟩⟩<;>simp[a_]at h ⊢
theorem O5{op:Int}{l:List Ex}(h:bI op=false)(h':¬op=18):a_ op l=(⟨0,0,zeroV⟩,false):=by rcases l with _|⟨a,_|⟨b,_|⟨c,l⟩⟩⟩<;>simp[a_,h,h']
theorem tJ(e:Ex):call T UI [e.enc]=some (.cZ [(a_ e.op e.kids).1.enc,.v (.bool (a_ e.op e.kids).2)]):=by
 refine q41g (by simp) ?_;have hc:=kH;rw[Ex.ay];by_cases hl:e.kids.length=2
 ·obtain⟨a,b,hk⟩:=wo hl;have ha:=a.ay;have hb:=b.ay;have ca:=cK a;have cb:=cK b;obtain⟨x,pa⟩:∃x,a.bq=x:=⟨_,rfl⟩
  obtain⟨y,pb⟩:∃x,b.bq=x:=⟨_,rfl⟩
  rw[pa]at ca
  rw[pb]at cb
  rw[hk];by_cases h18:e.op=18
  ·by_cases h0:a.op=0
   ·rw[h0]at ha ca
    cases x<;>cases y<;>simp[ha,hb,ca,cb,pa,pb,hc,h18,h0,a_,bI,qb,Ex.v]
   ·cases x<;>cases y<;>simp[ha,hb,ca,cb,pa,pb,hc,h18,h0,a_,bI,qb,Ex.v]
  ·by_cases hcm:bI e.op=true
   ·by_cases h0:a.op=0
    ·rw[h0]at ha ca
     by_cases h14:e.op=14
     ·cases x<;>cases y<;>simp[ha,hb,ca,cb,pa,pb,hc,bI,h0,h14,a_,qb,Ex.v]
     by_cases h15:e.op=15
     ·cases x<;>cases y<;>simp[ha,hb,ca,cb,pa,pb,hc,bI,h0,h15,a_,qb,Ex.v]
     by_cases h16:e.op=16
     ·cases x<;>cases y<;>simp[ha,hb,ca,cb,pa,pb,hc,bI,h0,h16,a_,qb,Ex.v]
     by_cases h17:e.op=17
     ·cases x<;>cases y<;>simp[ha,hb,ca,cb,pa,pb,hc,bI,h0,h17,a_,qb,Ex.v]
     cases x<;>cases y<;>simp[ha,hb,ca,cb,pa,pb,hc,hcm,h0,h14,h15,h16,h17,h18,a_,qb,Ex.v]
    ·cases x<;>cases y<;>simp[ha,hb,ca,cb,pa,pb,hc,hcm,h0,h18,a_,Ex.v]
   ·simp only[Bool.not_eq_true]at hcm;rw[O5 hcm h18];simp[hc,hcm,h18,zeroV]
 ·rw[qy hl];have hl':=zN hl;simp[hl,hl',hc,zeroV]
def jw(op:Int)(kids:List Ex):VY:=match kids with
 | [a,b]=>if(bI op||decide (op=18))=true then(if 0<=a.cO/\b.op=0 then⟨op,a.cO,b.v⟩else if 0<=b.cO/\a.op=0 then⟨qb op,b.cO,a.v⟩else⟨op,-1,zeroV⟩)else⟨op,-1,zeroV⟩
 | _=>⟨op,-1,zeroV⟩
theorem yg{op:Int}{l:List Ex}(h:¬l.length=2):jw op l=⟨op,-1,zeroV⟩:=by rcases l with _|⟨a,_|⟨b,_|⟨c,l⟩⟩⟩<;>simp[jw]at h ⊢
theorem wY{op:Int}{l:List Ex}(h:bI op=false)(h':¬op=18):jw op l=⟨op,-1,zeroV⟩:=by rcases l with _|⟨a,_|⟨b,_|⟨c,l⟩⟩⟩<;>simp[jw,h,h']
theorem f_(e:Ex):call T Jt [e.enc]=some (.cZ [u8 (jw e.op e.kids).op,i6 (jw e.op e.kids).col,(jw e.op e.kids).v.enc]):=by
 refine q165g (by simp) ?_;have hc:=gV;have ht:=qh;rw[Ex.ay];by_cases hl:e.kids.length=2
 ·obtain⟨a,b,hk⟩:=wo hl;have ha:=a.ay;have hb:=b.ay;have ca:=aG a;have cb:=aG b;rw[hk];have main:(bI e.op||decide (e.op=18))=true->jw e.op [a,b]=(if 0<=a.cO/\b.op=0 then⟨e.op,a.cO,b.v⟩else if 0<=b.cO/\a.op=0 then⟨qb e.op,b.cO,a.v⟩else⟨e.op,-1,zeroV⟩):=fun h=>by simp only[jw,h,if_true]
  by_cases h18:e.op=18
  ·rw[main (by simp[h18])];by_cases g1:0<=a.cO
   ·by_cases g2:b.op=0
    ·rw[g2]at hb cb
     simp[ha,hb,ca,cb,hc,ht,h18,g1,g2,bI,Ex.v]
    ·by_cases g3:0<=b.cO
     ·by_cases g4:a.op=0
      ·rw[g4]at ha ca
       simp[ha,hb,ca,cb,hc,ht,h18,g1,g2,g3,g4,bI,Ex.v]
      ·simp[ha,hb,ca,cb,hc,ht,h18,g1,g2,g3,g4,bI,zeroV]
     ·simp[ha,hb,ca,cb,hc,ht,h18,g1,g2,g3,bI,zeroV]
   ·by_cases g3:0<=b.cO
    ·by_cases g4:a.op=0
     ·rw[g4]at ha ca
      simp[ha,hb,ca,cb,hc,ht,h18,g1,g3,g4,bI,Ex.v]
     ·simp[ha,hb,ca,cb,hc,ht,h18,g1,g3,g4,bI,zeroV]
    ·simp[ha,hb,ca,cb,hc,ht,h18,g1,g3,bI,zeroV]
  ·by_cases hcm:bI e.op=true
   ·rw[main (by simp[hcm])];by_cases g1:0<=a.cO
    ·by_cases g2:b.op=0
     ·rw[g2]at hb cb
      simp[ha,hb,ca,cb,hc,ht,hcm,g1,g2,Ex.v]
     ·by_cases g3:0<=b.cO
      ·by_cases g4:a.op=0
       ·rw[g4]at ha ca
        simp[ha,hb,ca,cb,hc,ht,hcm,g1,g2,g3,g4,Ex.v]
       ·simp[ha,hb,ca,cb,hc,ht,hcm,g1,g2,g3,g4,zeroV]
      ·simp[ha,hb,ca,cb,hc,ht,hcm,g1,g2,g3,zeroV]
    ·by_cases g3:0<=b.cO
     ·by_cases g4:a.op=0
      ·rw[g4]at ha ca
       simp[ha,hb,ca,cb,hc,ht,hcm,g1,g3,g4,Ex.v]
      ·simp[ha,hb,ca,cb,hc,ht,hcm,g1,g3,g4,zeroV]
     ·simp[ha,hb,ca,cb,hc,ht,hcm,g1,g3,zeroV]
   ·simp only[Bool.not_eq_true]at hcm;rw[wY hcm h18];simp[hc,hcm,h18,zeroV]
 ·rw[yg hl];have hl':=zN hl;by_cases h18:e.op=18
  ·simp[hl,hl',hc,h18,bI,zeroV]
  ·by_cases hcm:bI e.op=true
   ·simp[hl,hl',hc,h18,hcm,zeroV]
   ·simp[hl,hl',hc,h18,hcm,zeroV]
def jh(op:Int)(kids:List Ex):Int×Int×Bool:=match kids with
 | [a,b]=>if bI op=true then(a.n,b.n,a.bq&&b.bq)else(0,0,false)
 | _=>(0,0,false)
theorem yc{op:Int}{l:List Ex}(h:¬l.length=2):jh op l=(0,0,false):=by rcases l with _|⟨a,_|⟨b,_|⟨c,l⟩⟩⟩<;>simp[jh]at h ⊢
theorem p9(e:Ex):call T Qy [e.enc]=some (.cZ [i6 (jh e.op e.kids).1,i6 (jh e.op e.kids).2.1,.v (.bool (jh e.op e.kids).2.2)]):=by
 refine q43g (by simp) ?_;have hc:=kH;rw[Ex.ay];by_cases hl:e.kids.length=2
 ·obtain⟨a,b,hk⟩:=wo hl;have ha:=a.ay;have hb:=b.ay;have ca:=cK a;have cb:=cK b;obtain⟨x,pa⟩:∃x,a.bq=x:=⟨_,rfl⟩
  obtain⟨y,pb⟩:∃x,b.bq=x:=⟨_,rfl⟩
  rw[pa]at ca
  rw[pb]at cb
  rw[hk];by_cases hcm:bI e.op=true
  ·cases x<;>cases y<;>simp[ha,hb,ca,cb,pa,pb,hc,hcm,jh]
  ·cases x<;>cases y<;>simp[ha,hb,ca,cb,pa,pb,hc,hcm,jh]
 ·rw[yc hl];have hl':=zN hl;simp[hl,hl',hc]
def qo(op:Int)(kids:List Ex):Int×Int:=match kids with
 | [a,b]=>if bI op=true/\0<=a.cO/\0<=b.cO then(a.cO,b.cO)else(-1,-1)
 | _=>(-1,-1)
theorem Ep{op:Int}{l:List Ex}(h:¬l.length=2):qo op l=(-1,-1):=by rcases l with _|⟨a,_|⟨b,_|⟨c,l⟩⟩⟩<;>simp[qo]at h ⊢
theorem gm(e:Ex):call T Ju [e.enc]=some (.cZ [i6 (qo e.op e.kids).1,i6 (qo e.op e.kids).2]):=by
 refine q178g (by simp) ?_;have hc:=gV;rw[Ex.ay];by_cases hl:e.kids.length=2
 ·obtain⟨a,b,hk⟩:=wo hl;have ha:=a.ay;have hb:=b.ay;have ca:=aG a;have cb:=aG b;rw[hk];by_cases hcm:bI e.op=true
  ·by_cases g1:a.cO<0
   ·have g1':¬0<=a.cO:=Int.not_le.2 g1;simp[ha,hb,ca,cb,hc,hcm,g1,g1',qo]
   ·have g1':0<=a.cO:=Int.not_lt.1 g1;by_cases g2:b.cO<0
    ·have g2':¬0<=b.cO:=Int.not_le.2 g2;simp[ha,hb,ca,cb,hc,hcm,g1,g1',g2,g2',qo]
    ·have g2':0<=b.cO:=Int.not_lt.1 g2;simp[ha,hb,ca,cb,hc,hcm,g1,g1',g2,g2',qo]
  ·simp[ha,hb,ca,cb,hc,hcm,qo]
 ·rw[Ep hl];have hl':=zN hl;by_cases hcm:bI e.op=true
  ·simp[hl,hl',hc,hcm]
  ·simp[hl,hl',hc,hcm]
theorem jJ{e:Ex}:e.bq=true↔e.op=2/\e.up=0:=by simp[Ex.bq]
theorem Af{op:Int}{kids:List Ex}(h:∀k∈kids,k.bq=true->0<=k.n):((a_ op kids).2=true/\jw op kids=(a_ op kids).1/\0<=(a_ op kids).1.col)\/((a_ op kids).2=false/\(jw op kids).col<0):=by
 by_cases hl:kids.length=2
 ·obtain⟨a,b,rfl⟩:=wo hl;have h1:=h a (by simp);have h2:=h b (by simp);rw[jJ]at h1 h2
  by_cases hc:(bI op||decide (op=18))=true
  ·simp only[a_,jw,hc,if_true];by_cases g1:a.op=0
   ·have n1:¬(0<=a.cO):=by simp[Ex.cO,g1]
    by_cases g2:b.op=2/\b.up=0
    ·have:=h2 g2;simp[g1,n1,Ex.bq,Ex.cO,g2,this]
    ·have n2:b.bq=false:=by simpa[Ex.bq]using g2
     simp[g1,n1,n2,Ex.cO,g2]
   ·by_cases g2:a.op=2/\a.up=0
    ·have:=h1 g2;by_cases g3:b.op=0
     ·simp[g1,g2,g3,Ex.bq,Ex.cO,this]
     ·simp[g1,g2,g3,Ex.bq,Ex.cO,this]
    ·have n2:a.bq=false:=by simpa[Ex.bq]using g2
     simp[g1,n2,Ex.cO,g2]
  ·simp[a_,jw,hc]
 ·simp[qy hl,yg hl]
theorem JU{op:Int}{kids:List Ex}(h:∀k∈kids,k.bq=true->0<=k.n):((jh op kids).2.2=true/\qo op kids=((jh op kids).1,(jh op kids).2.1)/\0<=(jh op kids).1)\/((jh op kids).2.2=false/\(qo op kids).1<0):=by
 by_cases hl:kids.length=2
 ·obtain⟨a,b,rfl⟩:=wo hl;have h1:=h a (by simp);have h2:=h b (by simp);rw[jJ]at h1 h2
  by_cases hc:bI op=true
  ·simp only[jh,qo,hc,if_true,true_and];by_cases g1:a.op=2/\a.up=0
   ·have:=h1 g1;by_cases g2:b.op=2/\b.up=0
    ·have:=h2 g2
     simp_all [Ex.bq,Ex.cO]
    ·have n2:b.bq=false:=by simpa[Ex.bq]using g2
     simp[n2,Ex.cO,g2]
   ·have n2:a.bq=false:=by simpa[Ex.bq]using g1
    simp[n2,Ex.cO,g1]
  ·simp[jh,qo,hc]
 ·simp[yc hl,Ep hl]
def aY(c:aK)(op k:Int):Int×Int×Bool:=
 if op=14 then(if k=-9223372036854775808 then(c.lo,c.hi,false)else(c.lo,min c.hi (k-1),true))
 else if op=15 then(c.lo,min c.hi k,true)
 else if op=16 then(if k=9223372036854775807 then(c.lo,c.hi,false)else(max c.lo (k+1),c.hi,true))
 else if op=17 then(max c.lo k,c.hi,true)
 else if op=12\/op=18 then(max c.lo k,min c.hi k,true)
 else(c.lo,c.hi,true)
theorem vC(c:aK)(op k:Int)(hk:ig k):call T UM [c.enc,u8 op,i6 k]=some (.cZ [i6 (aY c op k).1,i6 (aY c op k).2.1,.v (.bool (aY c op k).2.2)]):=by
 refine q62g (by simp) ?_;obtain⟨k1,k2⟩:=hk;have w1:¬k=-9223372036854775808->IntKind.i64.wrap (k-1)=k-1:=fun h=>jv (by omega) (by omega);have w2:¬k=9223372036854775807->IntKind.i64.wrap (k+1)=k+1:=fun h=>jv (by omega) (by omega);by_cases h14:op=14
 ·by_cases h:k=-9223372036854775808
  ·simp[h14,h,aY]
  ·simp[h14,h,aY,w1]
 by_cases h15:op=15
 ·simp[h15,aY]
 by_cases h16:op=16
 ·by_cases h:k=9223372036854775807
  ·simp[h16,h,aY]
  ·simp[h16,h,aY,w2]
 by_cases h17:op=17
 ·simp[h17,aY]
 by_cases h12:op=12
 ·simp[h12,aY]
 by_cases h18:op=18
 ·simp[h18,aY]
 simp[h12,h14,h15,h16,h17,h18,aY]
def fB(c:aK)(op k:Int):aK:=if(aY c op k).2.2=true then⟨c.bC,c.distinct,c.degree,(aY c op k).1,(aY c op k).2.1⟩else⟨c.bC,0,0,c.lo,c.hi⟩
theorem kg(c:aK)(op k:Int)(hk:ig k):call T Jv [c.enc,u8 op,i6 k]=some (fB c op k).enc:=by
 refine q180g (by simp) ?_;obtain⟨k1,k2⟩:=hk;have w1:¬k=-9223372036854775808->IntKind.i64.wrap (k-1)=k-1:=fun h=>jv (by omega) (by omega);have w2:¬k=9223372036854775807->IntKind.i64.wrap (k+1)=k+1:=fun h=>jv (by omega) (by omega);by_cases h14:op=14
 ·by_cases h:k=-9223372036854775808
  ·simp[h14,h,aY,fB]
  ·simp[h14,h,aY,fB,w1]
 by_cases h15:op=15
 ·simp[h15,aY,fB]
 by_cases h16:op=16
 ·by_cases h:k=9223372036854775807
  ·simp[h16,h,aY,fB]
  ·simp[h16,h,aY,fB,w2]
 by_cases h17:op=17
 ·simp[h17,aY,fB]
 by_cases h12:op=12
 ·simp[h12,aY,fB]
 by_cases h18:op=18
 ·simp[h18,aY,fB]
 simp[h12,h14,h15,h16,h17,h18,aY,fB]
theorem uW{c:aK}{op k:Int}(hc:mE c)(hk:ig k):ig (aY c op k).1/\ig (aY c op k).2.1:=by
 obtain⟨⟨l1,l2⟩,h1,h2⟩:=hc;obtain⟨k1,k2⟩:=hk;unfold aY ig;split
 ·split<;>simp<;>omega
 split
 ·simp;omega
 split
 ·split<;>simp<;>omega
 split
 ·simp;omega
 split
 ·simp;omega
 ·simp;omega
def kU(lo hi:Int):Int:=if hi<lo then 0 else min (hi-lo) 4611686018427387903+1
def iG(c:aK)(op k:Int):Int:=
 if op=13/\¬(c.hi<c.lo\/k<c.lo\/c.hi<k)then min (c.hi-c.lo) 4611686018427387904
 else if(aY c op k).2.2=true then kU (aY c op k).1 (aY c op k).2.1 else 0
theorem oz(c:aK)(op k:Int)(hc:mE c)(hk:ig k):call T Og [c.enc,u8 op,i6 k]=some (i6 (iG c op k)):=by
 refine q172g (by simp) ?_;have cn:=iU 1 c hc;have cw:=kg c op k hk;have hr:=uW (op:=op) hc hk;have n1:b_ 1 c=kU c.lo c.hi:=by simp[b_,kU]
 rw[n1]at cn
 obtain⟨⟨l1,l2⟩,h1,h2⟩:=hc;have hw:¬c.hi<c.lo->IntKind.u64.wrap (IntKind.u64.wrap c.hi-IntKind.u64.wrap c.lo)=c.hi-c.lo:=by intro h;simp only[IntKind.wrap_u64];omega
 by_cases h13:op=13
 ·have sp:aY c 13 k=(c.lo,c.hi,true):=by simp[aY]
  by_cases a1:c.hi<c.lo
  ·simp[h13,a1,cn,iG,sp]
  by_cases a2:k<c.lo
  ·simp[h13,a1,a2,cn,iG,sp]
  by_cases a3:c.hi<k
  ·simp[h13,a1,a2,a3,cn,iG,sp]
  have hw':=hw a1;by_cases a4:4611686018427387904<=c.hi-c.lo
  ·have:min (c.hi-c.lo) 4611686018427387904=4611686018427387904:=by omega
   simp[h13,a1,a2,a3,a4,iG,sp,hw',this]
  ·have:min (c.hi-c.lo) 4611686018427387904=c.hi-c.lo:=by omega
   have w3:IntKind.i64.wrap (c.hi-c.lo)=c.hi-c.lo:=jv (by omega) (by omega);simp[h13,a1,a2,a3,a4,iG,sp,hw',this,w3]
 ·have ei:iG c op k=if(aY c op k).2.2=true then kU (aY c op k).1 (aY c op k).2.1 else 0:=by simp[iG,h13]
  rw[ei];by_cases a1:op=14/\k=-9223372036854775808
  ·have sp:(aY c op k).2.2=false:=by simp[aY,a1.1,a1.2]
   rw[sp];simp[h13,a1.1,a1.2]
  by_cases a2:op=16/\k=9223372036854775807
  ·have sp:(aY c op k).2.2=false:=by simp[aY,a2.1,a2.2]
   rw[sp];simp[h13,a2.1,a2.2]
  have sp:(aY c op k).2.2=true:=by
   unfold aY;split
   ·rename_i h;split
    ·rename_i h';exact absurd ⟨h,h'⟩ a1
    ·rfl
   split
   ·rfl
   split
   ·rename_i h;split
    ·rename_i h';exact absurd ⟨h,h'⟩ a2
    ·rfl
   split
   ·rfl
   split<;>rfl
  have cw':fB c op k=⟨c.bC,c.distinct,c.degree,(aY c op k).1,(aY c op k).2.1⟩:=by simp[fB,sp]
  have cn2:=iU 1 (fB c op k) (by rw[cw'];exact hr);rw[cw']at cw cn2
  simp only[sp,if_true];have n2:b_ 1 ⟨c.bC,c.distinct,c.degree,(aY c op k).1,(aY c op k).2.1⟩=kU (aY c op k).1 (aY c op k).2.1:=by simp[b_,kU]
  rw[n2]at cn2
  generalize (aY c op k).1=lo at *
  generalize (aY c op k).2.1=hi at *
  by_cases b1:op=14
  ·have b2:¬k=-9223372036854775808:=fun h=>a1 ⟨b1,h⟩;subst b1;simp[b2,cw,cn2]
  ·by_cases b3:op=16
   ·have b2:¬k=9223372036854775807:=fun h=>a2 ⟨b3,h⟩;subst b3;simp[b2,cw,cn2]
   ·simp[h13,b1,b3,cw,cn2]
def iH(t:TS)(c:aK):Int:=min t.rows (eF c.distinct c.degree)
def r_(t:TS)(kd:Int)(c:aK)(op:Int)(v:Val):Int:=
 if v.kind=0 then(if op=18 then c.bC else 0)
 else if op=12\/op=18 then(if kd=1/\v.kind=1/\(v.int<c.lo\/c.hi<v.int)then 0 else c.degree)
 else if kd=1/\v.kind=1 then min (iH t c) (eF (iG c op v.int) c.degree)
 else iH t c
theorem nQ(ks:List Int)(t:TS)(fl:Bool)(op:Int)(j:Nat)(v:Val)(h1:j<ks.length)(h2:j<t.ah.length)(hc:mE t.ah[j])(hv:ig v.int) :
 call T Oh [.sl false (ks.map u8),t.enc fl,u8 op,i6 j,v.enc]=some (i6 (r_ t ks[j] t.ah[j] op v)):=by
 refine q173g (by simp) ?_;have c1:=dV false t t.ah[j];have c2:=oz t.ah[j] op v.int hc hv;have c3:=iT (iG t.ah[j] op v.int) t.ah[j].degree;have hV:iH t t.ah[j]=min t.rows (eF t.ah[j].distinct t.ah[j].degree):=rfl;rw[<-hV]at c1
 clear hV;unfold r_;generalize iH t t.ah[j]=V at *
 by_cases k0:v.kind=0
 ·by_cases o18:op=18
  ·simp[k0,o18,h1,h2]
  ·simp[k0,o18,h1,h2]
 by_cases oE:op=12\/op=18
 ·by_cases e1:ks[j]=1
  ·by_cases e2:v.kind=1
   ·by_cases e3:v.int<t.ah[j].lo
    ·rcases oE with o|o<;>simp[k0,o,h1,h2,e1,e2,e3]
    ·by_cases e4:t.ah[j].hi<v.int
     ·rcases oE with o|o<;>simp[k0,o,h1,h2,e1,e2,e3,e4]
     ·rcases oE with o|o<;>simp[k0,o,h1,h2,e1,e2,e3,e4]
   ·rcases oE with o|o<;>simp[k0,o,h1,h2,e1,e2]
  ·rcases oE with o|o<;>simp[k0,o,h1,h2,e1]
 ·have o1:¬op=12:=fun h=>oE (.inl h);have o2:¬op=18:=fun h=>oE (.inr h);by_cases e1:ks[j]=1
  ·by_cases e2:v.kind=1
   ·simp[k0,o1,o2,h1,h2,e1,e2,c1,c2,c3]
   ·simp[k0,o1,o2,h1,h2,e1,e2,c1,c2,c3]
  ·simp[k0,o1,o2,h1,h2,e1,c1,c2,c3]
theorem yY(n:Int):eF 0 n=0:=by
 have h:dL 0=0:=by decide
 unfold eF;rw[h,Int.zero_mul];decide
theorem ol(a b:Int):0<=eF a b:=by have h1:=bE a;have h2:=bE b;have:=Int.mul_nonneg h1.1 h2.1;unfold eF;omega
theorem Gw{t:TS}(h:0<=t.rows)(c:aK):0<=iH t c:=by have:=ol c.distinct c.degree;unfold iH;omega
set_option maxHeartbeats 1000000 in
theorem vB(ks:List Int)(t:TS)(op:Int)(j:Nat)(v:Val)(h1:j<ks.length)(h2:j<t.ah.length)(hc:mE t.ah[j])(hv:ig v.int)(hr:0<=t.rows) :
 call T Yl [aJ ks t,VY.enc ⟨op,j,v⟩]=some (i6 (r_ t ks[j] t.ah[j] op v)):=by
 refine q71g (by simp) ?_;have c1:=d_ ks t j h2;have c2:=vC t.ah[j] op v.int hv;have c3:=nS (iG t.ah[j] op v.int) t.ah[j].degree;have hV:iH t t.ah[j]=min t.rows (eF t.ah[j].distinct t.ah[j].degree):=rfl;have hV0:=Gw hr t.ah[j];have hsr:=uW (op:=op) hc hv;rw[<-hV,aJ]at c1
 clear hV;unfold r_;generalize iH t t.ah[j]=V at *
 by_cases k0:v.kind=0
 ·by_cases o18:op=18
  ·by_cases e1:ks[j]=1
   ·simp[aJ,k0,o18,h1,h2,e1]
   ·simp[aJ,k0,o18,h1,h2,e1]
  ·by_cases e1:ks[j]=1
   ·simp[aJ,k0,o18,h1,h2,e1]
   ·simp[aJ,k0,o18,h1,h2,e1]
 by_cases oE:op=12\/op=18
 ·by_cases e1:ks[j]=1
  ·by_cases e2:v.kind=1
   ·by_cases e3:v.int<t.ah[j].lo
    ·rcases oE with o|o<;>simp[aJ,k0,o,h1,h2,e1,e2,e3]
    ·by_cases e4:t.ah[j].hi<v.int
     ·rcases oE with o|o<;>simp[aJ,k0,o,h1,h2,e1,e2,e3,e4]
     ·rcases oE with o|o<;>simp[aJ,k0,o,h1,h2,e1,e2,e3,e4]
   ·rcases oE with o|o<;>simp[aJ,k0,o,h1,h2,e1,e2]
  ·rcases oE with o|o<;>simp[aJ,k0,o,h1,h2,e1]
 have o1:¬op=12:=fun h=>oE (.inl h);have o2:¬op=18:=fun h=>oE (.inr h);by_cases e1:ks[j]=1
 case neg=>simp[aJ,k0,o1,o2,h1,h2,e1,c1]
 by_cases e2:v.kind=1
 case neg=>simp[aJ,k0,o1,o2,h1,h2,e1,e2,c1]
 rw[if_neg k0,if_neg oE,if_pos ⟨e1,e2⟩];have ei:¬(aY t.ah[j] op v.int).2.2=true\/(aY t.ah[j] op v.int).2.1<(aY t.ah[j] op v.int).1->iG t.ah[j] op v.int=0:=by
  intro h;by_cases h13:op=13
  ·have sp:aY t.ah[j] op v.int=(t.ah[j].lo,t.ah[j].hi,true):=by simp[aY,h13]
   rw[sp]at h
   simp at h;simp[iG,sp,h,kU]
  ·rcases h with h|h
   ·simp[iG,h13,h]
   ·simp[iG,h13,h,kU]
 have ej:(aY t.ah[j] op v.int).2.2=true->¬(aY t.ah[j] op v.int).2.1<(aY t.ah[j] op v.int).1->
  (op=13/\¬(v.int<(aY t.ah[j] op v.int).1)/\¬((aY t.ah[j] op v.int).2.1<v.int)/\iG t.ah[j] op v.int=min ((aY t.ah[j] op v.int).2.1-(aY t.ah[j] op v.int).1) 4611686018427387904)\/
  ((¬op=13\/v.int<(aY t.ah[j] op v.int).1\/(aY t.ah[j] op v.int).2.1<v.int)/\iG t.ah[j] op v.int=min ((aY t.ah[j] op v.int).2.1-(aY t.ah[j] op v.int).1) 4611686018427387903+1):=by
  intro ha hb;by_cases h13:op=13
  ·subst h13;have sp:aY t.ah[j] 13 v.int=(t.ah[j].lo,t.ah[j].hi,true):=by simp[aY]
   rw[sp]at hb ⊢
   dsimp only at hb ⊢;by_cases g1:v.int<t.ah[j].lo
   ·have e:iG t.ah[j] 13 v.int=kU t.ah[j].lo t.ah[j].hi:=by simp[iG,sp,g1]
    exact .inr ⟨.inr (.inl g1),by rw[e,kU,if_neg hb]⟩
   ·by_cases g2:t.ah[j].hi<v.int
    ·have e:iG t.ah[j] 13 v.int=kU t.ah[j].lo t.ah[j].hi:=by simp[iG,sp,g2]
     exact .inr ⟨.inr (.inr g2),by rw[e,kU,if_neg hb]⟩
    ·have e:iG t.ah[j] 13 v.int=min (t.ah[j].hi-t.ah[j].lo) 4611686018427387904:=if_pos ⟨rfl,fun h=>by rcases h with h|h|h<;>contradiction⟩
     exact .inl ⟨rfl,g1,g2,e⟩
  ·right;exact⟨.inl h13,by simp[iG,h13,ha,kU,hb]⟩
 generalize iG t.ah[j] op v.int=I at *
 generalize aY t.ah[j] op v.int=S at *
 obtain⟨lo,hi,b⟩:=S;obtain⟨⟨q1,q2⟩,q3,q4⟩:=hsr;simp only at *
 have z0:min V 0=0:=by omega
 by_cases hb:b=true
 case neg=>
  have hI:=ei (.inl hb);subst hI;simp[aJ,k0,o1,o2,h1,h2,e1,e2,c1,c2,hb,yY,z0]
 by_cases hlo:hi<lo
 ·have hI:=ei (.inr hlo);subst hI;simp[aJ,k0,o1,o2,h1,h2,e1,e2,c1,c2,hb,hlo,yY,z0]
 have hw:IntKind.u64.wrap (IntKind.u64.wrap hi-IntKind.u64.wrap lo)=hi-lo:=by simp only[IntKind.wrap_u64];omega
 have w4:IntKind.u64.wrap (min (hi-lo) 4611686018427387904+1)=min (hi-lo) 4611686018427387904+1:=u64_in (by omega) (by omega);have w5:IntKind.i64.wrap (min (min (hi-lo) 4611686018427387904+1) 4611686018427387904)=min (hi-lo) 4611686018427387903+1:=by rw[jv (by omega) (by omega)];omega
 have w6:IntKind.i64.wrap (min (hi-lo) 4611686018427387904)=min (hi-lo) 4611686018427387904:=jv (by omega) (by omega);rcases ej hb hlo with⟨h13,g1,g2,hI⟩|⟨h13,hI⟩
 ·subst hI;subst h13;simp[aJ,k0,h1,h2,e1,e2,c1,c2,hb,hlo,g1,g2,hw,w6,c3]
 ·subst hI;by_cases p1:op=13
  ·subst p1;by_cases g1:v.int<lo
   ·simp[aJ,k0,h1,h2,e1,e2,c1,c2,hb,hlo,g1,hw,w4,w5,c3]
   ·have g2:hi<v.int:=by omega
    simp[aJ,k0,h1,h2,e1,e2,c1,c2,hb,hlo,g1,g2,hw,w4,w5,c3]
  ·simp[aJ,k0,o1,o2,h1,h2,e1,e2,c1,c2,hb,hlo,p1,hw,w4,w5,c3]
def di(t:TS)(n:Int):aK:=t.ah.getD n.toNat ⟨0,0,0,0,0⟩
def jg(ks:List Int)(n:Int):Int:=ks.getD n.toNat 0
theorem dR{t:TS}{j:Nat}(h:j<t.ah.length):di t (j:Int)=t.ah[j]:=by simp[di,h]
theorem dP{ks:List Int}{j:Nat}(h:j<ks.length):jg ks (j:Int)=ks[j]:=by simp[jg,h]
def qV(ks:List Int)(t:TS)(op a b:Int):Int:=
 if op=12/\jg ks a=1/\jg ks b=1/\min (di t a).hi (di t b).hi<max (di t a).lo (di t b).lo then 0 else min (iH t (di t a)) (iH t (di t b))
def ni(ks:List Int)(t:TS)(op:Int)(kids:List Ex):Int:=
 if(a_ op kids).2=true then r_ t (jg ks (a_ op kids).1.col) (di t (a_ op kids).1.col) (a_ op kids).1.op (a_ op kids).1.v
 else if(jh op kids).2.2=true then qV ks t op (jh op kids).1 (jh op kids).2.1 else t.rows
def bn(l:List Ex):Ex:=l.headD (.mk 0 0 0 ⟨#[]⟩ 0 0 [] [])
def eZ(t:TS)(e:Ex):Int:=if e.bq=true then(di t e.n).degree else if e.op=20/\(bn e.kids).bq=true then iH t (di t (bn e.kids).n)else t.rows
mutual
def Ex.most(ks:List Int)(t:TS):Ex->Int
 | .mk op vk vi vs up n kids sub=>min (if op=0 then(if vk=3/\vi=1 then t.rows else 0)else if op=2 then(di t n).degree else if op=22 then eZ t (bn kids)
  else if op=20 then(if(bn kids).bq=true then(di t (bn kids).n).bC else t.rows)else if op=19 then(if(bn kids).bq=true then iH t (di t (bn kids).n)else t.rows)
  else if op=21\/op=23 then Ex.wu ks t t.rows kids else if op=24 then Ex.wz ks t 0 kids else ni ks t op kids) t.rows
def Ex.wu(ks:List Int)(t:TS)(a:Int):List Ex->Int
 | []=>a
 | e::l=>Ex.wu ks t (min a (e.most ks t)) l
def Ex.wz(ks:List Int)(t:TS)(a:Int):List Ex->Int
 | []=>a
 | e::l=>Ex.wz ks t (nu a (e.most ks t)) l
end
def fQ(f:Ex->Int)(a:Int)(l:List Ex):Int:=l.foldl (fun n e=>min n (f e)) a
def gu(f:Ex->Int)(a:Int)(l:List Ex):Int:=l.foldl (fun n e=>nu n (f e)) a
theorem Ex.KN(ks:List Int)(t:TS)(a:Int)(l:List Ex):wu ks t a l=fQ (Ex.most ks t) a l:=by
 induction l generalizing a with
 | nil=>simp only[Ex.wu,fQ,List.foldl_nil]
 | cons e l ih=>simp only[Ex.wu,ih,fQ,List.foldl_cons]
theorem Ex.KO(ks:List Int)(t:TS)(a:Int)(l:List Ex):wz ks t a l=gu (Ex.most ks t) a l:=by
 induction l generalizing a with
 | nil=>simp only[Ex.wz,gu,List.foldl_nil]
 | cons e l ih=>simp only[Ex.wz,ih,gu,List.foldl_cons]
theorem Ex.zP(ks:List Int)(t:TS)(e:Ex):e.most ks t=min (if e.op=0 then(if e.vk=3/\e.vi=1 then t.rows else 0)else if e.op=2 then(di t e.n).degree else if e.op=22 then eZ t (bn e.kids)
 else if e.op=20 then(if(bn e.kids).bq=true then(di t (bn e.kids).n).bC else t.rows)else if e.op=19 then(if(bn e.kids).bq=true then iH t (di t (bn e.kids).n)else t.rows)
 else if e.op=21\/e.op=23 then fQ (Ex.most ks t) t.rows e.kids else if e.op=24 then gu (Ex.most ks t) 0 e.kids else ni ks t e.op e.kids) t.rows:=by
 cases e;simp only[Ex.most,Ex.KN,Ex.KO,op,vk,vi,n,kids];rfl
theorem vU{f:Ex->Int}{a:Int}{l:List Ex}{i:Nat}(h:i<l.length):fQ f a (l.drop i)=fQ f (min a (f l[i])) (l.drop (i+1)):=by rw[List.drop_eq_getElem_cons h];rfl
theorem vV{f:Ex->Int}{a:Int}{l:List Ex}{i:Nat}(h:i<l.length):gu f a (l.drop i)=gu f (nu a (f l[i])) (l.drop (i+1)):=by rw[List.drop_eq_getElem_cons h];rfl
theorem yE{f:Ex->Int}{a:Int}{l:List Ex}{i:Nat}(h:l.length<=i):fQ f a (l.drop i)=a:=by rw[List.drop_eq_nil_of_le h];rfl
theorem yF{f:Ex->Int}{a:Int}{l:List Ex}{i:Nat}(h:l.length<=i):gu f a (l.drop i)=a:=by rw[List.drop_eq_nil_of_le h];rfl
mutual
def Ex.good(w:Nat):Ex->Prop
 | .mk op _ vi _ up n kids _=>((op=2->up=0/\0<=n/\n<w)/\(19<=op/\op<=22->1<=kids.length)/\(op=21->kids.length=1)/\(12<=op/\op<=17->kids.length=2)/\ig vi/\aV kids)/\Ex.IK w kids
def Ex.IK(w:Nat):List Ex->Prop
 | []=>True
 | e::l=>e.good w/\Ex.IK w l
end
theorem Ex.PO{w:Nat}{l:List Ex}:IK w l↔∀k∈l,k.good w:=by
 induction l with
 | nil=>simp[Ex.IK]
 | cons x l ih=>simp[Ex.IK,ih]
structure Ex.GoodE (w:Nat) (e:Ex):Prop where
 col:e.op=2->e.up=0/\0<=e.n/\e.n<w
 has:19<=e.op/\e.op<=22->1<=e.kids.length
 one:e.op=21->e.kids.length=1
 two:12<=e.op/\e.op<=17->e.kids.length=2
 vi:ig e.vi
 len:aV e.kids
 kid:∀k∈e.kids,k.good w
theorem Ex.fJ{w:Nat}{e:Ex}:e.good w↔e.GoodE w:=by cases e;simp only[Ex.good,Ex.PO];exact⟨fun⟨⟨h1,h2,h3,h3',h4,h5⟩,h6⟩=>⟨h1,h2,h3,h3',h4,h5,h6⟩,fun⟨h1,h2,h3,h3',h4,h5,h6⟩=>⟨⟨h1,h2,h3,h3',h4,h5⟩,h6⟩⟩
theorem Ex.eT{w:Nat}{e:Ex}(h:e.good w)(hc:e.bq=true):∃j:Nat,e.n=(j:Int)/\j<w:=by have:=(Ex.fJ.1 h).col (jJ.1 hc).1;exact⟨e.n.toNat,by omega,by omega⟩
theorem Ex.dG{w:Nat}{e:Ex}(h:e.good w)(hc:19<=e.op/\e.op<=22):∃k l,e.kids=k::l/\k.good w:=by
 have h1:=(Ex.fJ.1 h).has hc;have h2:=(Ex.fJ.1 h).kid;rcases hk:e.kids with _|⟨k,l⟩
 ·rw[hk]at h1;simp at h1
 ·exact⟨k,l,rfl,h2 k (by simp[hk])⟩
theorem ou{w:Nat}{op:Int}{kids:List Ex}(h:∀k∈kids,k.good w)(hb:(a_ op kids).2=true):(∃j:Nat,(a_ op kids).1.col=j/\j<w)/\ig (a_ op kids).1.v.int:=by
 by_cases hl:kids.length=2
 ·obtain⟨a,b,rfl⟩:=wo hl;have h1:=h a (by simp);have h2:=h b (by simp);by_cases hc:(bI op||decide (op=18))=true
  ·simp only[a_,hc,if_true]at hb ⊢;by_cases g1:a.op=0
   ·simp only[g1,if_true]at hb ⊢;exact⟨Ex.eT h2 hb,(Ex.fJ.1 h1).vi⟩
   ·simp only[g1,if_false,bN]at hb ⊢;exact⟨Ex.eT h1 hb.1,(Ex.fJ.1 h2).vi⟩
  ·simp[a_,hc]at hb
 ·simp[qy hl]at hb
theorem Ad{w:Nat}{op:Int}{kids:List Ex}(h:∀k∈kids,k.good w)(hb:(jh op kids).2.2=true):(∃j:Nat,(jh op kids).1=j/\j<w)/\(∃j:Nat,(jh op kids).2.1=j/\j<w):=by
 by_cases hl:kids.length=2
 ·obtain⟨a,b,rfl⟩:=wo hl;have h1:=h a (by simp);have h2:=h b (by simp);by_cases hc:bI op=true
  ·simp only[jh,hc,if_true,bN]at hb ⊢;exact⟨Ex.eT h1 hb.1,Ex.eT h2 hb.2⟩
  ·simp[jh,hc]at hb
 ·simp[yc hl]at hb
structure TOk (ks:List Int) (t:TS):Prop where
 len:t.ah.length=ks.length
 lo:∀(j:Nat) (h:j<t.ah.length),mE t.ah[j]
 rows:0<=t.rows
theorem za(ks:List Int)(t:TS)(ht:TOk ks t)(e:Ex)(h:e.good t.ah.length):call T Yn [aJ ks t,e.enc]=some (i6 (eZ t e)):=by
 refine q73g (by simp) ?_;have he:=e.ay;have ce:=cK e;by_cases hc:e.bq=true
 ·obtain⟨j,hj,hw⟩:=Ex.eT h hc;have hv:di t e.n=t.ah[j]:=by rw[hj,dR hw]
  simp only[eZ,hv];rw[hc]at ce
  rw[hj]at ce he
  simp[aJ,he,ce,hc,hw]
 ·simp only[Bool.not_eq_true]at hc;rw[hc]at ce
  by_cases h20:e.op=20
  ·obtain⟨k,l,hk,hg⟩:=Ex.dG h (by omega);have hke:=k.ay;have ck:=cK k;have hh:bn e.kids=k:=by rw[hk];rfl
   simp only[eZ,hc,h20,hh];rw[hk,h20]at ce he
   by_cases hkc:k.bq=true
   ·obtain⟨j,hj,hw⟩:=Ex.eT hg hkc;have cv:=d_ ks t j hw;rw[aJ]at cv
    have hv:di t k.n=t.ah[j]:=by rw[hj,dR hw]
    rw[hkc,hj]at ck
    rw[hj]at hke
    rw[ku,hke]at ce he
    simp[aJ,he,ce,hke,ck,hkc,cv,hv,iH]
   ·simp only[Bool.not_eq_true]at hkc;rw[hkc]at ck
    rw[ku,hke]at ce he
    simp[aJ,he,ce,hke,ck,hkc]
  ·simp[eZ,aJ,he,ce,hc,h20]
theorem qB(ks:List Int)(t:TS)(ht:TOk ks t)(e:Ex)(h:e.good t.ah.length):call T Ym [aJ ks t,e.enc]=some (i6 (ni ks t e.op e.kids)):=by
 refine q72g (by simp) ?_;have he:=e.ay;have ca:=tJ e;have cc:=p9 e;have hkid:=(Ex.fJ.1 h).kid;have i1:=ou (op:=e.op) hkid;have i2:=Ad (op:=e.op) hkid;unfold ni;generalize a_ e.op e.kids=A at *
 generalize jh e.op e.kids=B at *
 obtain⟨⟨o,c,v⟩,b⟩:=A;obtain⟨x,y,b'⟩:=B;rw[he]at ca cc ⊢
 cases b
 ·cases b'
  ·simp[aJ,ca,cc]
  ·obtain⟨⟨j,hj,hw⟩,⟨k,hk,hw'⟩⟩:=i2 rfl;simp only at hj hk;subst hj;subst hk;have v1:=d_ ks t j hw;have v2:=d_ ks t k hw';rw[aJ]at v1 v2
   have e1:=dR hw;have e2:=dR hw';have l1:j<ks.length:=by rw[<-ht.len];exact hw
   have l2:k<ks.length:=by rw[<-ht.len];exact hw'
   have e3:=dP l1;have e4:=dP l2;simp only[qV,e1,e2,e3,e4,iH];simp[aJ,ca,cc,v1,v2,hw,hw',l1,l2];by_cases o12:e.op=12
   ·by_cases k1:ks[j]=1
    ·by_cases k2:ks[k]=1
     ·simp[aJ,ca,cc,v1,v2,hw,hw',l1,l2,o12,k1,k2];refine aj (fun m=>?_) (fun m=>?_)<;>(have m':=m;try simp at m')<;>(try simp[*])
      all_goals (intro hh;omega)
     ·simp[aJ,ca,cc,v1,v2,hw,hw',l1,l2,o12,k1,k2]
    ·simp[aJ,ca,cc,v1,v2,hw,hw',l1,l2,o12,k1]
   ·simp[aJ,ca,cc,v1,v2,hw,hw',l1,l2,o12]
 ·obtain⟨⟨j,hj,hw⟩,hv⟩:=i1 rfl;simp only at hj hv;subst hj;have l1:j<ks.length:=by rw[<-ht.len];exact hw
  have cm:=vB ks t o j v l1 hw (ht.lo j hw) hv ht.rows;rw[aJ]at cm
  have e1:=dR hw;have e3:=dP l1;simp only[e1,e3];simp[aJ,ca,cc,cm]
theorem vL{e:Ex}(h:e.bq=true):e.cO=e.n:=by rw[Ex.cO,if_pos (jJ.1 h)]
theorem vM{e:Ex}(h:e.bq=false):e.cO=-1:=by rw[Ex.cO,if_neg];intro hh;rw[jJ.2 hh]at h;cases h
theorem oZ(t:TS)(e:Ex)(h:e.good t.ah.length):call T Oi [t.enc false,e.enc]=some (i6 (eZ t e)):=by
 refine q174g (by simp) ?_;have he:=e.ay;have ce:=aG e;by_cases hc:e.bq=true
 ·obtain⟨j,hj,hw⟩:=Ex.eT h hc;have hv:di t e.n=t.ah[j]:=by rw[hj,dR hw]
  simp only[eZ,hv];rw[vL hc,hj]at ce
  rw[hj]at he
  simp[he,ce,hc,hw]
 ·simp only[Bool.not_eq_true]at hc;rw[vM hc]at ce
  by_cases h20:e.op=20
  ·obtain⟨k,l,hk,hg⟩:=Ex.dG h (by omega);have hke:=k.ay;have ck:=aG k;have hh:bn e.kids=k:=by rw[hk];rfl
   simp only[eZ,hc,h20,hh];rw[hk,h20]at ce he
   by_cases hkc:k.bq=true
   ·obtain⟨j,hj,hw⟩:=Ex.eT hg hkc;have cv:=dV false t t.ah[j];have hv:di t k.n=t.ah[j]:=by rw[hj,dR hw]
    rw[vL hkc,hj]at ck
    rw[hj]at hke
    rw[ku,hke]at ce he
    simp[he,ce,hke,ck,hkc,cv,hv,hw,iH]
   ·simp only[Bool.not_eq_true]at hkc;rw[vM hkc]at ck
    rw[ku,hke]at ce he
    simp[he,ce,hke,ck,hkc]
  ·simp[eZ,he,ce,hc,h20]
theorem o_(ks:List Int)(t:TS)(ht:TOk ks t)(op:Int)(j k:Nat)(hw:j<t.ah.length)(hw':k<t.ah.length) :
 call T Ol [.sl false (ks.map u8),t.enc false,u8 op,i6 j,i6 k]=some (i6 (qV ks t op j k)):=by
 refine q176g (by simp) ?_;have v1:=dV false t t.ah[j];have v2:=dV false t t.ah[k];have e1:=dR hw;have e2:=dR hw';have l1:j<ks.length:=by rw[<-ht.len];exact hw
 have l2:k<ks.length:=by rw[<-ht.len];exact hw'
 have e3:=dP l1;have e4:=dP l2;simp only[qV,e1,e2,e3,e4,iH];by_cases o12:op=12
 ·by_cases k1:ks[j]=1
  ·by_cases k2:ks[k]=1
   ·simp[v1,v2,hw,hw',l1,l2,o12,k1,k2];refine aj (fun m=>?_) (fun m=>?_)<;>(have m':=m;try simp at m')<;>(try simp[*])
    all_goals (intro hh;omega)
   ·simp[v1,v2,hw,hw',l1,l2,o12,k1,k2]
  ·simp[v1,v2,hw,hw',l1,l2,o12,k1]
 ·simp[v1,v2,hw,hw',l1,l2,o12]
theorem zJ{w:Nat}{kids:List Ex}(h:∀k∈kids,k.good w):∀k∈kids,k.bq=true->0<=k.n:=fun k hk hc=>by obtain⟨j,hj,_⟩:=Ex.eT (h k hk) hc;omega
theorem WN{ks:List Int}{t:TS}(e:Ex):e.most ks t<=t.rows:=by rw[Ex.zP];omega
theorem IB{f:Ex->Int}{a:Int}{k:Ex}:fQ f a [k]=min a (f k):=rfl
def Eu(ks:List Int)(t:TS)(e:Ex):Prop:=∃m,call T Oj [.sl false (ks.map u8),t.enc false,e.enc]=some (i6 m)/\min t.rows m=e.most ks t
theorem jQ{ks:List Int}{t:TS}{e:Ex}(h:Eu ks t e):call T wP [.sl false (ks.map u8),t.enc false,e.enc]=some (i6 (e.most ks t)):=by
 obtain⟨m,hm,hr⟩:=h;refine q164g (by simp) ?_;have he:=e.ay;rw[<-hr];rw[he]at hm ⊢
 simp[hm]
set_option maxHeartbeats 1000000 in
theorem qg(ks:List Int)(t:TS)(ht:TOk ks t)(e:Ex)(h:e.good t.ah.length):Eu ks t e:=by
 revert h;refine Ex.induct (p:=fun e=>e.good t.ah.length->Eu ks t e) (fun e ih h=>?_) e;have he:=e.ay;have hg:=Ex.fJ.1 h;have hlen:e.kids.length<=9223372036854775807:=iq hg.len (by decide);have hk:∀k∈e.kids,call T wP [.sl false (ks.map u8),t.enc false,k.enc]=some (i6 (k.most ks t)):=fun k hk=>jQ (ih k hk (hg.kid k hk))
 unfold Eu;rw[Ex.zP];by_cases h0:e.op=0
 ·rw[h0]at he
  refine⟨if e.vk=3/\e.vi=1 then t.rows else 0,?_,by rw[if_pos h0];omega⟩;refine wQ (by simp) ?_;by_cases g1:e.vk=3
  ·by_cases g2:e.vi=1
   ·simp[he,g1,g2]
   ·simp[he,g1,g2]
  ·simp[he,g1]
 by_cases h2:e.op=2
 ·refine⟨(di t e.n).degree,?_,by rw[if_neg h0,if_pos h2];omega⟩;refine wQ (by simp) ?_;obtain⟨hu,hn0,hn1⟩:=hg.col h2;obtain⟨j,hj⟩:∃j:Nat,e.n=j:=⟨e.n.toNat,by omega⟩
  have hw:j<t.ah.length:=by omega
  rw[h2,hj]at he
  have e1:=dR hw;simp[he,h2,hj,hw,e1]
 by_cases h22:e.op=22
 ·refine⟨eZ t (bn e.kids),?_,by rw[if_neg h0,if_neg h2,if_pos h22];omega⟩;refine wQ (by simp) ?_;obtain⟨k,l,hkl,hgk⟩:=Ex.dG h (by omega);have hh:bn e.kids=k:=by rw[hkl];rfl
  have hke:=k.ay;have cn:=oZ t k hgk;rw[hke]at cn
  rw[h22,hkl,ku,hke]at he
  simp[he,h22,hh,cn]
 by_cases h20:e.op=20
 ·refine⟨if(bn e.kids).bq=true then(di t (bn e.kids).n).bC else t.rows,?_,by rw[if_neg h0,if_neg h2,if_neg h22,if_pos h20];omega⟩;refine wQ (by simp) ?_;obtain⟨k,l,hkl,hgk⟩:=Ex.dG h (by omega);have hh:bn e.kids=k:=by rw[hkl];rfl
  have hke:=k.ay;have ck:=aG k;have ca:=f_ e;have cc:=gm e;rw[h20,wY (by decide) (by decide)]at ca
  have t2:qo 20 e.kids=(-1,-1):=by rcases e.kids with _|⟨a,_|⟨b,_|⟨c,l⟩⟩⟩<;>simp[qo,bI]
  rw[h20,t2]at cc
  by_cases hkc:k.bq=true
  ·obtain⟨j,hj,hw⟩:=Ex.eT hgk hkc;have hv:di t k.n=t.ah[j]:=by rw[hj,dR hw]
   rw[vL hkc,hj]at ck
   rw[hj]at hke
   rw[h20,hkl,ku,hke]at he
   simp[he,h20,hh,ck,hkc,hv,hw]
  ·simp only[Bool.not_eq_true]at hkc;rw[vM hkc]at ck
   rw[h20,hkl,ku,hke]at he
   rw[he]at ca cc
   simp[he,h20,hh,ck,hkc,ca,cc,zeroV]
 by_cases h19:e.op=19
 ·refine⟨if(bn e.kids).bq=true then iH t (di t (bn e.kids).n)else t.rows,?_,by rw[if_neg h0,if_neg h2,if_neg h22,if_neg h20,if_pos h19];omega⟩;refine wQ (by simp) ?_;obtain⟨k,l,hkl,hgk⟩:=Ex.dG h (by omega);have hh:bn e.kids=k:=by rw[hkl];rfl
  have hke:=k.ay;have ck:=aG k;have ca:=f_ e;have cc:=gm e;rw[h19,wY (by decide) (by decide)]at ca
  have t2:qo 19 e.kids=(-1,-1):=by rcases e.kids with _|⟨a,_|⟨b,_|⟨c,l⟩⟩⟩<;>simp[qo,bI]
  rw[h19,t2]at cc
  by_cases hkc:k.bq=true
  ·obtain⟨j,hj,hw⟩:=Ex.eT hgk hkc;have cv:=dV false t t.ah[j];have hv:di t k.n=t.ah[j]:=by rw[hj,dR hw]
   rw[vL hkc,hj]at ck
   rw[hj]at hke
   rw[h19,hkl,ku,hke]at he
   simp[he,h19,hh,ck,hkc,hv,hw,cv,iH]
  ·simp only[Bool.not_eq_true]at hkc;rw[vM hkc]at ck
   rw[h19,hkl,ku,hke]at he
   rw[he]at ca cc
   simp[he,h19,hh,ck,hkc,ca,cc,zeroV]
 by_cases h21:e.op=21
 ·have hone:=hg.one h21;obtain⟨k,l,hkl,hgk⟩:=Ex.dG h (by omega);have hl:l=[]:=by rw[hkl]at hone;simpa using hone
  subst hl;refine⟨k.most ks t,?_,by rw[if_neg h0,if_neg h2,if_neg h22,if_neg h20,if_neg h19,if_pos (.inl h21),hkl,IB];omega⟩;refine wQ (by simp) ?_;have hke:=k.ay;have cr:=hk k (by simp[hkl]);rw[hke]at cr
  rw[h21,hkl,ku,hke]at he
  simp[he,cr]
 by_cases h23:e.op=23
 ·refine⟨fQ (Ex.most ks t) t.rows e.kids,?_,by rw[if_neg h0,if_neg h2,if_neg h22,if_neg h20,if_neg h19,if_pos (.inr h23)];omega⟩;refine wQ (by simp) ?_;generalize hM:fQ (Ex.most ks t) t.rows e.kids=M;replace hM:=Hd.mk hM;rw[h23]at he
  simp[he];refine av (σ:=Nat) (fun i en s=>en 0=.sl false (ks.map u8)/\en 4=.ptr 4 1 0/\en 5=.ptr 5 1 0/\en 8=i6 i/\(∃a,en 7=i6 a/\Hd (fQ (Ex.most ks t) a (e.kids.drop i)=M))/\(∃q,s 4=⟨1,true,some (.box (t.enc false)),q⟩)/\(∃q,s 5=⟨1,true,some (.box e.enc),q⟩)/\i<=e.kids.length) (fun i=>e.kids.length-i) ?_ 0 _ _
   ⟨by simp,by simp,by simp,by simp,⟨t.rows,by simp,⟨by rw[List.drop_zero];exact hM.out⟩⟩,⟨_,by simp;rfl⟩,⟨_,by simp[he];rfl⟩,by omega⟩
  rintro i en s ⟨h0,h4,h5,h8,⟨a,h7,hA⟩,⟨q,s4⟩,⟨q',s5⟩,hi⟩ ih;rw[he]at s5
  simp[h0,h4,h5,h8,h7,s4,s5];refine aj (fun h=>?_) (fun h=>?_)<;>(have h':=h;try simp at h')<;>(try simp[*])
  ·have hc:=hk e.kids[i] (gG h');have hke:=e.kids[i].ay;rw[hke]at hc
   replace hA:=Hd.mk ((vU h').symm.trans hA.out);simp only[hke];simp[hc,h0,h4,h5,h8,h7,s4,s5];refine ih.out (i+1) _ _ ?_ (by omega);exact⟨by simp[h0],by simp[h4],by simp[h5],by simp[ai h' hlen],⟨_,by simp,hA⟩,⟨q,by simp[s4]⟩,⟨q',by rw[he];simp[s5]⟩,h'⟩
  ·have:=hA.out;rw[yE (by omega)]at this
   exact this
 have h213:¬(e.op=21\/e.op=23):=fun hh=>hh.elim h21 h23;by_cases h24:e.op=24
 ·refine⟨gu (Ex.most ks t) 0 e.kids,?_,by rw[if_neg h0,if_neg h2,if_neg h22,if_neg h20,if_neg h19,if_neg h213,if_pos h24];omega⟩;refine wQ (by simp) ?_;generalize hM:gu (Ex.most ks t) 0 e.kids=M;replace hM:=Hd.mk hM;rw[h24]at he
  simp[he];refine av (σ:=Nat) (fun i en s=>en 0=.sl false (ks.map u8)/\en 4=.ptr 4 1 0/\en 5=.ptr 5 1 0/\en 10=i6 i/\(∃a,en 9=i6 a/\Hd (gu (Ex.most ks t) a (e.kids.drop i)=M))/\(∃q,s 4=⟨1,true,some (.box (t.enc false)),q⟩)/\(∃q,s 5=⟨1,true,some (.box e.enc),q⟩)/\i<=e.kids.length) (fun i=>e.kids.length-i) ?_ 0 _ _
   ⟨by simp,by simp,by simp,by simp,⟨0,by simp,⟨by rw[List.drop_zero];exact hM.out⟩⟩,⟨_,by simp;rfl⟩,⟨_,by simp[he];rfl⟩,by omega⟩
  rintro i en s ⟨h0,h4,h5,h8,⟨a,h7,hA⟩,⟨q,s4⟩,⟨q',s5⟩,hi⟩ ih;rw[he]at s5
  simp[h0,h4,h5,h8,h7,s4,s5];refine aj (fun h=>?_) (fun h=>?_)<;>(have h':=h;try simp at h')<;>(try simp[*])
  ·have hc:=hk e.kids[i] (gG h');have hke:=e.kids[i].ay;have hp:=l_ a (e.kids[i].most ks t);rw[hke]at hc
   replace hA:=Hd.mk ((vV h').symm.trans hA.out);simp only[hke];simp[hc,hp,h0,h4,h5,h8,h7,s4,s5];refine ih.out (i+1) _ _ ?_ (by omega);exact⟨by simp[h0],by simp[h4],by simp[h5],by simp[ai h' hlen],⟨_,by simp,hA⟩,⟨q,by simp[s4]⟩,⟨q',by rw[he];simp[s5]⟩,h'⟩
  ·have:=hA.out;rw[yF (by omega)]at this
   exact this
 refine⟨ni ks t e.op e.kids,?_,by rw[if_neg h0,if_neg h2,if_neg h22,if_neg h20,if_neg h19,if_neg h213,if_neg h24];omega⟩;refine wQ (by simp) ?_;have ca:=f_ e;have cc:=gm e;have b1:=Af (op:=e.op) (zJ hg.kid);have b2:=JU (op:=e.op) (zJ hg.kid);have i1:=ou (op:=e.op) hg.kid;have i2:=Ad (op:=e.op) hg.kid;unfold ni;generalize a_ e.op e.kids=A at *
 generalize jh e.op e.kids=B at *
 generalize jw e.op e.kids=A' at *
 generalize qo e.op e.kids=B' at *
 obtain⟨⟨o,c,v⟩,b⟩:=A;obtain⟨x,y,b'⟩:=B;obtain⟨o',c',v'⟩:=A';obtain⟨x',y'⟩:=B';rw[he]at ca cc ⊢
 rcases b1 with⟨b1,b1',b1n⟩|⟨b1,b1'⟩
 ·simp only at b1 b1' b1n;subst b1;simp only[VY.mk.injEq]at b1';obtain⟨rfl,rfl,rfl⟩:=b1';obtain⟨⟨j,hj,hw⟩,hv⟩:=i1 rfl;simp only at hj hv;subst hj;have l1:j<ks.length:=by rw[<-ht.len];exact hw
  have cm:=nQ ks t false o' j v' l1 hw (ht.lo j hw) hv;have e1:=dR hw;have e3:=dP l1;simp only[e1,e3];simp[ca,cc,cm,h0,h2,h22,h20,h19,h21,h23,h24]
 ·simp only at b1 b1';subst b1;have b1n:¬0<=c':=by omega
  rcases b2 with⟨b2,b2',b2n⟩|⟨b2,b2'⟩
  ·simp only at b2 b2' b2n;subst b2;simp only[bK]at b2';obtain⟨rfl,rfl⟩:=b2';obtain⟨⟨j,hj,hw⟩,⟨k,hk',hw'⟩⟩:=i2 rfl;simp only at hj hk';subst hj;subst hk';have cm:=o_ ks t ht e.op j k hw hw';simp[ca,cc,cm,h0,h2,h22,h20,h19,h21,h23,h24,b1',b1n]
  ·simp only at b2 b2';subst b2;have b2n:¬0<=x':=by omega
   simp[ca,cc,h0,h2,h22,h20,h19,h21,h23,h24,b1',b1n,b2',b2n]
theorem sV(ks:List Int)(t:TS)(ht:TOk ks t)(e:Ex)(h:e.good t.ah.length):call T wP [.sl false (ks.map u8),t.enc false,e.enc]=some (i6 (e.most ks t)):=
 jQ (qg ks t ht e h)
set_option maxHeartbeats 1000000 in
theorem EC(ks:List Int)(t:TS)(ht:TOk ks t)(e:Ex)(h:e.good t.ah.length):call T F6 [aJ ks t,e.enc]=some (i6 (e.most ks t)):=by
 revert h;refine Ex.induct (p:=fun e=>e.good t.ah.length->call T F6 [aJ ks t,e.enc]=some (i6 (e.most ks t))) (fun e ih h=>?_) e;refine q70g (by simp) ?_;have he:=e.ay;have hg:=Ex.fJ.1 h;have hlen:e.kids.length<=9223372036854775807:=iq hg.len (by decide);have hk:∀k∈e.kids,call T F6 [aJ ks t,k.enc]=some (i6 (k.most ks t)):=fun k hk=>ih k hk (hg.kid k hk)
 rw[Ex.zP];by_cases h0:e.op=0
 ·rw[h0]at he
  by_cases g1:e.vk=3
  ·by_cases g2:e.vi=1
   ·simp[aJ,he,h0,g1,g2]
   ·simp[aJ,he,h0,g1,g2]
  ·simp[aJ,he,h0,g1]
 by_cases h2:e.op=2
 ·obtain⟨hu,hn0,hn1⟩:=hg.col h2;obtain⟨j,hj⟩:∃j:Nat,e.n=j:=⟨e.n.toNat,by omega⟩
  have hw:j<t.ah.length:=by omega
  rw[h2,hj]at he
  have e1:=dR hw;simp[aJ,he,h2,hj,hw,e1]
 by_cases h22:e.op=22
 ·obtain⟨k,l,hkl,hgk⟩:=Ex.dG h (by omega);have hh:bn e.kids=k:=by rw[hkl];rfl
  have hke:=k.ay;have cn:=za ks t ht k hgk;rw[aJ,hke]at cn
  rw[h22,hkl,ku,hke]at he
  simp[aJ,he,h22,hh,cn]
 by_cases h20:e.op=20
 ·obtain⟨k,l,hkl,hgk⟩:=Ex.dG h (by omega);have hh:bn e.kids=k:=by rw[hkl];rfl
  have hke:=k.ay;have ck:=cK k;by_cases hkc:k.bq=true
  ·obtain⟨j,hj,hw⟩:=Ex.eT hgk hkc;have hv:di t k.n=t.ah[j]:=by rw[hj,dR hw]
   rw[hj]at hke
   rw[hkc,hj]at ck
   rw[h20,hkl,ku,hke]at he
   simp[aJ,he,h20,hh,ck,hkc,hv,hw]
  ·simp only[Bool.not_eq_true]at hkc;rw[hkc]at ck
   rw[h20,hkl,ku,hke]at he
   simp[aJ,he,h20,hh,ck,hkc]
 by_cases h19:e.op=19
 ·obtain⟨k,l,hkl,hgk⟩:=Ex.dG h (by omega);have hh:bn e.kids=k:=by rw[hkl];rfl
  have hke:=k.ay;have ck:=cK k;by_cases hkc:k.bq=true
  ·obtain⟨j,hj,hw⟩:=Ex.eT hgk hkc;have cv:=d_ ks t j hw;rw[aJ]at cv
   have hv:di t k.n=t.ah[j]:=by rw[hj,dR hw]
   rw[hj]at hke
   rw[hkc,hj]at ck
   rw[h19,hkl,ku,hke]at he
   simp[aJ,he,h19,hh,ck,hkc,hv,hw,cv,iH]
  ·simp only[Bool.not_eq_true]at hkc;rw[hkc]at ck
   rw[h19,hkl,ku,hke]at he
   simp[aJ,he,h19,hh,ck,hkc]
 by_cases h21:e.op=21\/e.op=23
 ·have hcond:(if e.op=0 then(if e.vk=3/\e.vi=1 then t.rows else 0)else if e.op=2 then(di t e.n).degree else if e.op=22 then eZ t (bn e.kids)
   else if e.op=20 then(if(bn e.kids).bq=true then(di t (bn e.kids).n).bC else t.rows)else if e.op=19 then(if(bn e.kids).bq=true then iH t (di t (bn e.kids).n)else t.rows)
   else if e.op=21\/e.op=23 then fQ (Ex.most ks t) t.rows e.kids else if e.op=24 then gu (Ex.most ks t) 0 e.kids else ni ks t e.op e.kids)=fQ (Ex.most ks t) t.rows e.kids:=by
   rw[if_neg h0,if_neg h2,if_neg h22,if_neg h20,if_neg h19,if_pos h21]
  rw[hcond];clear hcond;generalize hM:fQ (Ex.most ks t) t.rows e.kids=M;replace hM:=Hd.mk hM;have main:∀(en:Env) (s:ax) (q:Nat),en 2=.ptr 2 1 0->en 88=.sl false (e.kids.map Ex.enc)->en 89=i6 e.kids.length->en 90=i6 0->en 5=i6 t.rows->s 2=⟨1,true,some (.box (aJ ks t)),q⟩->
   wp T [It.lp q70l1,It.bl 1,It.bl 0,It.code ((IC.ops UQ).seq IC.ret)] en s (fun e' s'=>aC e' s' [gQ.tmp 4]=some (i6 (min M t.rows))):=by
   intro en s q e2 e88 e89 e90 e5 s2;refine av (σ:=Nat) (fun i en s=>en 2=.ptr 2 1 0/\en 88=.sl false (e.kids.map Ex.enc)/\en 89=i6 e.kids.length/\en 90=i6 i/\(∃a,en 5=i6 a/\Hd (fQ (Ex.most ks t) a (e.kids.drop i)=M))/\(∃q,s 2=⟨1,true,some (.box (aJ ks t)),q⟩)/\i<=e.kids.length) (fun i=>e.kids.length-i) ?_ 0 _ _
    ⟨e2,e88,e89,by simp[e90],⟨t.rows,e5,⟨by rw[List.drop_zero];exact hM.out⟩⟩,⟨q,s2⟩,by omega⟩
   rintro i en s ⟨h2,h88,h89,h90,⟨a,h5,hA⟩,⟨q,s2⟩,hi⟩ ih;simp[h2,h88,h89,h90,h5,s2];refine aj (fun h=>?_) (fun h=>?_)<;>(have h':=h;try simp at h')<;>(try simp[*])
   ·have hc:=hk e.kids[i] (gG h');have hke:=e.kids[i].ay;rw[aJ,hke]at hc
    replace hA:=Hd.mk ((vU h').symm.trans hA.out);simp only[hke];simp[aJ,hc,h2,h88,h89,h90,h5,s2];refine ih.out (i+1) _ _ ?_ (by omega);exact⟨by simp[h2],by simp[h88],by simp[h89],by simp[ai h' hlen],⟨_,by simp,hA⟩,⟨q,by simp[s2,aJ]⟩,h'⟩
   ·have:=hA.out;rw[yE (by omega)]at this
    subst this;simp[aJ,h2,h5,s2]
  rcases h21 with h21|h21
  ·rw[h21]at he
   simp[aJ,he];exact main _ _ _ (by simp) (by simp) (by simp) (by simp) (by simp) (by simp[aJ];rfl)
  ·rw[h21]at he
   simp[aJ,he];exact main _ _ _ (by simp) (by simp) (by simp) (by simp) (by simp) (by simp[aJ];rfl)
 have h21':¬e.op=21:=fun hh=>h21 (.inl hh);have h23':¬e.op=23:=fun hh=>h21 (.inr hh);by_cases h24:e.op=24
 ·have hcond:(if e.op=0 then(if e.vk=3/\e.vi=1 then t.rows else 0)else if e.op=2 then(di t e.n).degree else if e.op=22 then eZ t (bn e.kids)
   else if e.op=20 then(if(bn e.kids).bq=true then(di t (bn e.kids).n).bC else t.rows)else if e.op=19 then(if(bn e.kids).bq=true then iH t (di t (bn e.kids).n)else t.rows)
   else if e.op=21\/e.op=23 then fQ (Ex.most ks t) t.rows e.kids else if e.op=24 then gu (Ex.most ks t) 0 e.kids else ni ks t e.op e.kids)=gu (Ex.most ks t) 0 e.kids:=by
   rw[if_neg h0,if_neg h2,if_neg h22,if_neg h20,if_neg h19,if_neg h21,if_pos h24]
  rw[hcond];clear hcond;generalize hM:gu (Ex.most ks t) 0 e.kids=M;replace hM:=Hd.mk hM;rw[h24]at he
  simp[aJ,he];refine av (σ:=Nat) (fun i en s=>en 2=.ptr 2 1 0/\en 103=.sl false (e.kids.map Ex.enc)/\en 104=i6 e.kids.length/\en 105=i6 i/\(∃a,en 5=i6 a/\Hd (gu (Ex.most ks t) a (e.kids.drop i)=M))/\(∃q,s 2=⟨1,true,some (.box (aJ ks t)),q⟩)/\i<=e.kids.length) (fun i=>e.kids.length-i) ?_ 0 _ _
   ⟨by simp,by simp,by simp,by simp,⟨0,by simp,⟨by rw[List.drop_zero];exact hM.out⟩⟩,⟨_,by simp[aJ];rfl⟩,by omega⟩
  rintro i en s ⟨h2,h103,h104,h105,⟨a,h5,hA⟩,⟨q,s2⟩,hi⟩ ih;simp[h2,h103,h104,h105,h5,s2];refine aj (fun h=>?_) (fun h=>?_)<;>(have h':=h;try simp at h')<;>(try simp[*])
  ·have hc:=hk e.kids[i] (gG h');have hke:=e.kids[i].ay;have hp:=vI a (e.kids[i].most ks t);rw[aJ,hke]at hc
   replace hA:=Hd.mk ((vV h').symm.trans hA.out);simp only[hke];simp[aJ,hc,hp,h2,h103,h104,h105,h5,s2];refine ih.out (i+1) _ _ ?_ (by omega);exact⟨by simp[h2],by simp[h103],by simp[h104],by simp[ai h' hlen],⟨_,by simp,hA⟩,⟨q,by simp[s2,aJ]⟩,h'⟩
  ·have:=hA.out;rw[yF (by omega)]at this
   subst this;simp[aJ,h2,h5,s2]
 have cm:=qB ks t ht e h;rw[aJ,he]at cm
 simp[aJ,he,h0,h2,h22,h20,h19,h21',h23',h24,cm]
end Go.Proofs.YtbmkfjmlepjpfaaGreatDoor
