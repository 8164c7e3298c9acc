/- A part of the proof. -/
import Derived.Test.YtbmkfjmlepjpfaaGreatDoorEa
set_option linter.all false
set_option maxRecDepth 100000
namespace Go.Proofs.YtbmkfjmlepjpfaaGreatDoor
open Go.RowKit
structure Cmp where
 op:Int
 col:Int
 v:Val
abbrev Cmp.enc(c:Cmp):X:=.agg [u8 c.op,i6 c.col,u8 c.v.kind,i6 c.v.int,.v (.string c.v.text)]
def zeroV:Val:=⟨0,0,⟨#[]⟩⟩
def Ex.bG(e:Ex):Bool:=decide (e.op=2)&&decide (e.up=0)
def Ex.dw(e:Ex):Int:=if e.op=2/\e.up=0 then e.n else -1
def bS(op:Int)(kids:List Ex):Cmp×Bool:=match kids with
 | [a,b]=>if(bM op||decide (op=18))=true then(if a.op=0 then(⟨oq op,b.n,a.v⟩,b.bG)else(⟨op,a.n,b.v⟩,a.bG&&decide (b.op=0)))else(⟨0,0,zeroV⟩,false)
 | _=>(⟨0,0,zeroV⟩,false)
theorem wD{l:List Ex}(h:l.length=2):∃a b,l=[a,b]:=by rcases l with _|⟨a,_|⟨b,_|⟨c,l⟩⟩⟩<;>simp at h ⊢
theorem dB(e:Ex):call T uJ [.agg [.v (.int .u8 e.op),.v (.int .u8 e.vk),i6 e.vi,.v (.string e.vs),i6 e.up,i6 e.n,.sl false (e.kids.map Ex.enc),.sl false (e.sub.map Pn.enc)]]=some (.bU [i6 e.n,.v (.bool e.bG)]):=by
 have h:=yj e.op e.vk e.vi e.vs e.up e.n (.sl false (e.kids.map Ex.enc)) (.sl false (e.sub.map Pn.enc)) rfl rfl;rw[lV]at h
 exact h
theorem bf(e:Ex):call T jb [.agg [.v (.int .u8 e.op),.v (.int .u8 e.vk),i6 e.vi,.v (.string e.vs),i6 e.up,i6 e.n,.sl false (e.kids.map Ex.enc),.sl false (e.sub.map Pn.enc)]]=some (i6 e.dw):=by
 have h:=oz e.op e.vk e.vi e.vs e.up e.n (.sl false (e.kids.map Ex.enc)) (.sl false (e.sub.map Pn.enc)) rfl rfl;rw[lV]at h
 exact h
theorem xO{l:List Ex}(h:¬l.length=2):¬((l.length:Int)=2):=by omega
theorem oN{op:Int}{l:List Ex}(h:¬l.length=2):bS op l=(⟨0,0,zeroV⟩,false):=by rcases l with _|⟨a,_|⟨b,_|⟨c,l⟩⟩⟩<;>simp[bS]at h ⊢
theorem Ls{op:Int}{l:List Ex}(h:bM op=false)(h':¬op=18):bS op l=(⟨0,0,zeroV⟩,false):=by rcases l with _|⟨a,_|⟨b,_|⟨c,l⟩⟩⟩<;>simp[bS,h,h']
theorem Aj(e:Ex):call T QW [e.enc]=some (.bU [(bS e.op e.kids).1.enc,.v (.bool (bS e.op e.kids).2)]):=by
 refine q41g (by simp) ?_;have hc:=mJ;rw[Ex.aB];by_cases hl:e.kids.length=2
 ·obtain⟨a,b,hk⟩:=wD hl;have ha:=a.aB;have hb:=b.aB;have ca:=dB a;have cb:=dB b;obtain⟨x,pa⟩:∃x,a.bG=x:=⟨_,rfl⟩
  obtain⟨y,pb⟩:∃x,b.bG=x:=⟨_,rfl⟩
  rw[pa]at ca
  rw[pb]at cb
  rw[hk];by_cases h18:e.op=18
  ·by_cases h0:a.op=0
   ·rw[h0]at ha ca
    cases x<;>cases y<;>simp[ha,hb,ca,cb,pa,pb,hc,h18,h0,bS,bM,oq,Ex.v]
   ·cases x<;>cases y<;>simp[ha,hb,ca,cb,pa,pb,hc,h18,h0,bS,bM,oq,Ex.v]
  ·by_cases hcm:bM e.op=true
   ·by_cases h0:a.op=0
    ·rw[h0]at ha ca
     by_cases h14:e.op=14
     ·cases x<;>cases y<;>simp[ha,hb,ca,cb,pa,pb,hc,bM,h0,h14,bS,oq,Ex.v]
     by_cases h15:e.op=15
     ·cases x<;>cases y<;>simp[ha,hb,ca,cb,pa,pb,hc,bM,h0,h15,bS,oq,Ex.v]
     by_cases h16:e.op=16
     ·cases x<;>cases y<;>simp[ha,hb,ca,cb,pa,pb,hc,bM,h0,h16,bS,oq,Ex.v]
     by_cases h17:e.op=17
     ·cases x<;>cases y<;>simp[ha,hb,ca,cb,pa,pb,hc,bM,h0,h17,bS,oq,Ex.v]
     cases x<;>cases y<;>simp[ha,hb,ca,cb,pa,pb,hc,hcm,h0,h14,h15,h16,h17,h18,bS,oq,Ex.v]
    ·cases x<;>cases y<;>simp[ha,hb,ca,cb,pa,pb,hc,hcm,h0,h18,bS,Ex.v]
   ·simp only[Bool.not_eq_true]at hcm;rw[Ls hcm h18];simp[hc,hcm,h18,zeroV]
 ·rw[oN hl];have hl':=xO hl;simp[hl,hl',hc,zeroV]
def jf(op:Int)(kids:List Ex):Cmp:=match kids with
 | [a,b]=>if(bM op||decide (op=18))=true then(if 0<=a.dw/\b.op=0 then⟨op,a.dw,b.v⟩else if 0<=b.dw/\a.op=0 then⟨oq op,b.dw,a.v⟩else⟨op,-1,zeroV⟩)else⟨op,-1,zeroV⟩
 | _=>⟨op,-1,zeroV⟩
theorem vS{op:Int}{l:List Ex}(h:¬l.length=2):jf op l=⟨op,-1,zeroV⟩:=by rcases l with _|⟨a,_|⟨b,_|⟨c,l⟩⟩⟩<;>simp[jf]at h ⊢
theorem uP{op:Int}{l:List Ex}(h:bM op=false)(h':¬op=18):jf op l=⟨op,-1,zeroV⟩:=by rcases l with _|⟨a,_|⟨b,_|⟨c,l⟩⟩⟩<;>simp[jf,h,h']
theorem h_(e:Ex):call T KH [e.enc]=some (.bU [u8 (jf e.op e.kids).op,i6 (jf e.op e.kids).col,(jf e.op e.kids).v.enc]):=by
 refine q163g (by simp) ?_;have hc:=iV;have ht:=oF;rw[Ex.aB];by_cases hl:e.kids.length=2
 ·obtain⟨a,b,hk⟩:=wD hl;have ha:=a.aB;have hb:=b.aB;have ca:=bf a;have cb:=bf b;rw[hk];have main:(bM e.op||decide (e.op=18))=true->jf e.op [a,b]=(if 0<=a.dw/\b.op=0 then⟨e.op,a.dw,b.v⟩else if 0<=b.dw/\a.op=0 then⟨oq e.op,b.dw,a.v⟩else⟨e.op,-1,zeroV⟩):=fun h=>by simp only[jf,h,if_true]
  by_cases h18:e.op=18
  ·rw[main (by simp[h18])];by_cases g1:0<=a.dw
   ·by_cases g2:b.op=0
    ·rw[g2]at hb cb
     simp[ha,hb,ca,cb,hc,ht,h18,g1,g2,bM,Ex.v]
    ·by_cases g3:0<=b.dw
     ·by_cases g4:a.op=0
      ·rw[g4]at ha ca
       simp[ha,hb,ca,cb,hc,ht,h18,g1,g2,g3,g4,bM,Ex.v]
      ·simp[ha,hb,ca,cb,hc,ht,h18,g1,g2,g3,g4,bM,zeroV]
     ·simp[ha,hb,ca,cb,hc,ht,h18,g1,g2,g3,bM,zeroV]
   ·by_cases g3:0<=b.dw
    ·by_cases g4:a.op=0
     ·rw[g4]at ha ca
      simp[ha,hb,ca,cb,hc,ht,h18,g1,g3,g4,bM,Ex.v]
     ·simp[ha,hb,ca,cb,hc,ht,h18,g1,g3,g4,bM,zeroV]
    ·simp[ha,hb,ca,cb,hc,ht,h18,g1,g3,bM,zeroV]
  ·by_cases hcm:bM e.op=true
   ·rw[main (by simp[hcm])];by_cases g1:0<=a.dw
    ·by_cases g2:b.op=0
     ·rw[g2]at hb cb
      simp[ha,hb,ca,cb,hc,ht,hcm,g1,g2,Ex.v]
     ·by_cases g3:0<=b.dw
      ·by_cases g4:a.op=0
       ·rw[g4]at ha ca
        simp[ha,hb,ca,cb,hc,ht,hcm,g1,g2,g3,g4,Ex.v]
       ·simp[ha,hb,ca,cb,hc,ht,hcm,g1,g2,g3,g4,zeroV]
      ·simp[ha,hb,ca,cb,hc,ht,hcm,g1,g2,g3,zeroV]
    ·by_cases g3:0<=b.dw
     ·by_cases g4:a.op=0
      ·rw[g4]at ha ca
       simp[ha,hb,ca,cb,hc,ht,hcm,g1,g3,g4,Ex.v]
      ·simp[ha,hb,ca,cb,hc,ht,hcm,g1,g3,g4,zeroV]
     ·simp[ha,hb,ca,cb,hc,ht,hcm,g1,g3,zeroV]
   ·simp only[Bool.not_eq_true]at hcm;rw[uP hcm h18];simp[hc,hcm,h18,zeroV]
 ·rw[vS hl];have hl':=xO hl;by_cases h18:e.op=18
  ·simp[hl,hl',hc,h18,bM,zeroV]
  ·by_cases hcm:bM e.op=true
   ·simp[hl,hl',hc,h18,hcm,zeroV]
   ·simp[hl,hl',hc,h18,hcm,zeroV]
def kN(op:Int)(kids:List Ex):Int×Int×Bool:=match kids with
 | [a,b]=>if bM op=true then(a.n,b.n,a.bG&&b.bG)else(0,0,false)
 | _=>(0,0,false)
theorem vR{op:Int}{l:List Ex}(h:¬l.length=2):kN op l=(0,0,false):=by rcases l with _|⟨a,_|⟨b,_|⟨c,l⟩⟩⟩<;>simp[kN]at h ⊢
theorem wX(e:Ex):call T M6 [e.enc]=some (.bU [i6 (kN e.op e.kids).1,i6 (kN e.op e.kids).2.1,.v (.bool (kN e.op e.kids).2.2)]):=by
 refine q43g (by simp) ?_;have hc:=mJ;rw[Ex.aB];by_cases hl:e.kids.length=2
 ·obtain⟨a,b,hk⟩:=wD hl;have ha:=a.aB;have hb:=b.aB;have ca:=dB a;have cb:=dB b;obtain⟨x,pa⟩:∃x,a.bG=x:=⟨_,rfl⟩
  obtain⟨y,pb⟩:∃x,b.bG=x:=⟨_,rfl⟩
  rw[pa]at ca
  rw[pb]at cb
  rw[hk];by_cases hcm:bM e.op=true
  ·cases x<;>cases y<;>simp[ha,hb,ca,cb,pa,pb,hc,hcm,kN]
  ·cases x<;>cases y<;>simp[ha,hb,ca,cb,pa,pb,hc,hcm,kN]
 ·rw[vR hl];have hl':=xO hl;simp[hl,hl',hc]
def qb(op:Int)(kids:List Ex):Int×Int:=match kids with
 | [a,b]=>if bM op=true/\0<=a.dw/\0<=b.dw then(a.dw,b.dw)else(-1,-1)
 | _=>(-1,-1)
theorem BQ{op:Int}{l:List Ex}(h:¬l.length=2):qb op l=(-1,-1):=by rcases l with _|⟨a,_|⟨b,_|⟨c,l⟩⟩⟩<;>simp[qb]at h ⊢
theorem ig(e:Ex):call T KQ [e.enc]=some (.bU [i6 (qb e.op e.kids).1,i6 (qb e.op e.kids).2]):=by
 refine q173g (by simp) ?_;have hc:=iV;rw[Ex.aB];by_cases hl:e.kids.length=2
 ·obtain⟨a,b,hk⟩:=wD hl;have ha:=a.aB;have hb:=b.aB;have ca:=bf a;have cb:=bf b;rw[hk];by_cases hcm:bM e.op=true
  ·by_cases g1:a.dw<0
   ·have g1':¬0<=a.dw:=Int.not_le.2 g1;simp[ha,hb,ca,cb,hc,hcm,g1,g1',qb]
   ·have g1':0<=a.dw:=Int.not_lt.1 g1;by_cases g2:b.dw<0
    ·have g2':¬0<=b.dw:=Int.not_le.2 g2;simp[ha,hb,ca,cb,hc,hcm,g1,g1',g2,g2',qb]
    ·have g2':0<=b.dw:=Int.not_lt.1 g2;simp[ha,hb,ca,cb,hc,hcm,g1,g1',g2,g2',qb]
  ·simp[ha,hb,ca,cb,hc,hcm,qb]
 ·rw[BQ hl];have hl':=xO hl;by_cases hcm:bM e.op=true
  ·simp[hl,hl',hc,hcm]
  ·simp[hl,hl',hc,hcm]
theorem mQ{e:Ex}:e.bG=true↔e.op=2/\e.up=0:=by simp[Ex.bG]
theorem Gd{op:Int}{kids:List Ex}(h:∀k∈kids,k.bG=true->0<=k.n):((bS op kids).2=true/\jf op kids=(bS op kids).1/\0<=(bS op kids).1.col)\/((bS op kids).2=false/\(jf op kids).col<0):=by
 by_cases hl:kids.length=2
 ·obtain⟨a,b,rfl⟩:=wD hl;have h1:=h a (by simp);have h2:=h b (by simp);rw[mQ]at h1 h2
  by_cases hc:(bM op||decide (op=18))=true
  ·simp only[bS,jf,hc,if_true];by_cases g1:a.op=0
   ·have n1:¬(0<=a.dw):=by simp[Ex.dw,g1]
    by_cases g2:b.op=2/\b.up=0
    ·have:=h2 g2;simp[g1,n1,Ex.bG,Ex.dw,g2,this]
    ·have n2:b.bG=false:=by simpa[Ex.bG]using g2
     simp[g1,n1,n2,Ex.dw,g2]
   ·by_cases g2:a.op=2/\a.up=0
    ·have:=h1 g2;by_cases g3:b.op=0
     ·simp[g1,g2,g3,Ex.bG,Ex.dw,this]
     ·simp[g1,g2,g3,Ex.bG,Ex.dw,this]
    ·have n2:a.bG=false:=by simpa[Ex.bG]using g2
     simp[g1,n2,Ex.dw,g2]
  ·simp[bS,jf,hc]
 ·simp[oN hl,vS hl]
theorem RQ{op:Int}{kids:List Ex}(h:∀k∈kids,k.bG=true->0<=k.n):((kN op kids).2.2=true/\qb op kids=((kN op kids).1,(kN op kids).2.1)/\0<=(kN op kids).1)\/((kN op kids).2.2=false/\(qb op kids).1<0):=by
 by_cases hl:kids.length=2
 ·obtain⟨a,b,rfl⟩:=wD hl;have h1:=h a (by simp);have h2:=h b (by simp);rw[mQ]at h1 h2
  by_cases hc:bM op=true
  ·simp only[kN,qb,hc,if_true,true_and];by_cases g1:a.op=2/\a.up=0
   ·have:=h1 g1;by_cases g2:b.op=2/\b.up=0
    ·have:=h2 g2
     simp_all [Ex.bG,Ex.dw]
    ·have n2:b.bG=false:=by simpa[Ex.bG]using g2
     simp[n2,Ex.dw,g2]
   ·have n2:a.bG=false:=by simpa[Ex.bG]using g1
    simp[n2,Ex.dw,g1]
  ·simp[kN,qb,hc]
 ·simp[vR hl,BQ hl]
def aV(c:dh)(op k:Int):Int×Int×Bool:=
 if op=14 then(if k=-9223372036854775808 then(c.lo,c.hi,false)else(c.lo,min c.hi (k-1),true))
 else if op=15 then(c.lo,min c.hi k,true)
 else if op=16 then(if k=9223372036854775807 then(c.lo,c.hi,false)else(max c.lo (k+1),c.hi,true))
 else if op=17 then(max c.lo k,c.hi,true)
 else if op=12\/op=18 then(max c.lo k,min c.hi k,true)
 else(c.lo,c.hi,true)
theorem Ch(c:dh)(op k:Int)(hk:gI k):call T QZ [c.enc,u8 op,i6 k]=some (.bU [i6 (aV c op k).1,i6 (aV c op k).2.1,.v (.bool (aV c op k).2.2)]):=by
 refine q62g (by simp) ?_;obtain⟨k1,k2⟩:=hk;have w1:¬k=-9223372036854775808->IntKind.i64.wrap (k-1)=k-1:=fun h=>iM (by omega) (by omega);have w2:¬k=9223372036854775807->IntKind.i64.wrap (k+1)=k+1:=fun h=>iM (by omega) (by omega);by_cases h14:op=14
 ·by_cases h:k=-9223372036854775808
  ·simp[h14,h,aV]
  ·simp[h14,h,aV,w1]
 by_cases h15:op=15
 ·simp[h15,aV]
 by_cases h16:op=16
 ·by_cases h:k=9223372036854775807
  ·simp[h16,h,aV]
  ·simp[h16,h,aV,w2]
 by_cases h17:op=17
 ·simp[h17,aV]
 by_cases h12:op=12
 ·simp[h12,aV]
 by_cases h18:op=18
 ·simp[h18,aV]
 simp[h12,h14,h15,h16,h17,h18,aV]
def iC(c:dh)(op k:Int):dh:=if(aV c op k).2.2=true then⟨c.bQ,c.distinct,c.degree,(aV c op k).1,(aV c op k).2.1⟩else⟨c.bQ,0,0,c.lo,c.hi⟩
theorem oG(c:dh)(op k:Int)(hk:gI k):call T KS [c.enc,u8 op,i6 k]=some (iC c op k).enc:=by
 refine q175g (by simp) ?_;obtain⟨k1,k2⟩:=hk;have w1:¬k=-9223372036854775808->IntKind.i64.wrap (k-1)=k-1:=fun h=>iM (by omega) (by omega);have w2:¬k=9223372036854775807->IntKind.i64.wrap (k+1)=k+1:=fun h=>iM (by omega) (by omega);by_cases h14:op=14
 ·by_cases h:k=-9223372036854775808
  ·simp[h14,h,aV,iC]
  ·simp[h14,h,aV,iC,w1]
 by_cases h15:op=15
 ·simp[h15,aV,iC]
 by_cases h16:op=16
 ·by_cases h:k=9223372036854775807
  ·simp[h16,h,aV,iC]
  ·simp[h16,h,aV,iC,w2]
 by_cases h17:op=17
 ·simp[h17,aV,iC]
 by_cases h12:op=12
 ·simp[h12,aV,iC]
 by_cases h18:op=18
 ·simp[h18,aV,iC]
 simp[h12,h14,h15,h16,h17,h18,aV,iC]
theorem zY{c:dh}{op k:Int}(hc:qK c)(hk:gI k):gI (aV c op k).1/\gI (aV c op k).2.1:=by
 obtain⟨⟨l1,l2⟩,h1,h2⟩:=hc;obtain⟨k1,k2⟩:=hk;unfold aV gI;split
 ·split<;>simp<;>omega
 split
 ·simp;omega
 split
 ·split<;>simp<;>omega
 split
 ·simp;omega
 split
 ·simp;omega
 ·simp;omega
def jU(lo hi:Int):Int:=if hi<lo then 0 else min (hi-lo) 4611686018427387903+1
def gV(c:dh)(op k:Int):Int:=
 if op=13/\¬(c.hi<c.lo\/k<c.lo\/c.hi<k)then min (c.hi-c.lo) 4611686018427387904
 else if(aV c op k).2.2=true then jU (aV c op k).1 (aV c op k).2.1 else 0
theorem mK(c:dh)(op k:Int)(hc:qK c)(hk:gI k):call T KL [c.enc,u8 op,i6 k]=some (i6 (gV c op k)):=by
 refine q168g (by simp) ?_;have cn:=g_ 1 c hc;have cw:=oG c op k hk;have hr:=zY (op:=op) hc hk;have n1:bJ 1 c=jU c.lo c.hi:=by simp[bJ,jU]
 rw[n1]at cn
 obtain⟨⟨l1,l2⟩,h1,h2⟩:=hc;have hw:¬c.hi<c.lo->IntKind.u64.wrap (IntKind.u64.wrap c.hi-IntKind.u64.wrap c.lo)=c.hi-c.lo:=by intro h;simp only[IntKind.wrap_u64];omega
 by_cases h13:op=13
 ·have sp:aV c 13 k=(c.lo,c.hi,true):=by simp[aV]
  by_cases a1:c.hi<c.lo
  ·simp[h13,a1,cn,gV,sp]
  by_cases a2:k<c.lo
  ·simp[h13,a1,a2,cn,gV,sp]
  by_cases a3:c.hi<k
  ·simp[h13,a1,a2,a3,cn,gV,sp]
  have hw':=hw a1;by_cases a4:4611686018427387904<=c.hi-c.lo
  ·have:min (c.hi-c.lo) 4611686018427387904=4611686018427387904:=by omega
   simp[h13,a1,a2,a3,a4,gV,sp,hw',this]
  ·have:min (c.hi-c.lo) 4611686018427387904=c.hi-c.lo:=by omega
   have w3:IntKind.i64.wrap (c.hi-c.lo)=c.hi-c.lo:=iM (by omega) (by omega);simp[h13,a1,a2,a3,a4,gV,sp,hw',this,w3]
 ·have ei:gV c op k=if(aV c op k).2.2=true then jU (aV c op k).1 (aV c op k).2.1 else 0:=by simp[gV,h13]
  rw[ei];by_cases a1:op=14/\k=-9223372036854775808
  ·have sp:(aV c op k).2.2=false:=by simp[aV,a1.1,a1.2]
   rw[sp];simp[h13,a1.1,a1.2]
  by_cases a2:op=16/\k=9223372036854775807
  ·have sp:(aV c op k).2.2=false:=by simp[aV,a2.1,a2.2]
   rw[sp];simp[h13,a2.1,a2.2]
  have sp:(aV c op k).2.2=true:=by
   unfold aV;split
   ·rename_i h;split
    ·rename_i h';exact absurd ⟨h,h'⟩ a1
    ·rfl
   split
   ·rfl
   split
   ·rename_i h;split
    ·rename_i h';exact absurd ⟨h,h'⟩ a2
    ·rfl
   split
   ·rfl
   split<;>rfl
  have cw':iC c op k=⟨c.bQ,c.distinct,c.degree,(aV c op k).1,(aV c op k).2.1⟩:=by simp[iC,sp]
  have cn2:=g_ 1 (iC c op k) (by rw[cw'];exact hr);rw[cw']at cw cn2
  simp only[sp,if_true];have n2:bJ 1 ⟨c.bQ,c.distinct,c.degree,(aV c op k).1,(aV c op k).2.1⟩=jU (aV c op k).1 (aV c op k).2.1:=by simp[bJ,jU]
  rw[n2]at cn2
  generalize (aV c op k).1=lo at *
  generalize (aV c op k).2.1=hi at *
  by_cases b1:op=14
  ·have b2:¬k=-9223372036854775808:=fun h=>a1 ⟨b1,h⟩;subst b1;simp[b2,cw,cn2]
  ·by_cases b3:op=16
   ·have b2:¬k=9223372036854775807:=fun h=>a2 ⟨b3,h⟩;subst b3;simp[b2,cw,cn2]
   ·simp[h13,b1,b3,cw,cn2]
def iE(t:TS)(c:dh):Int:=min t.rows (dR c.distinct c.degree)
def tV(t:TS)(kd:Int)(c:dh)(op:Int)(v:Val):Int:=
 if v.kind=0 then(if op=18 then c.bQ else 0)
 else if op=12\/op=18 then(if kd=1/\v.kind=1/\(v.int<c.lo\/c.hi<v.int)then 0 else c.degree)
 else if kd=1/\v.kind=1 then min (iE t c) (dR (gV c op v.int) c.degree)
 else iE t c
theorem lZ(ks:List Int)(t:TS)(fl:Bool)(op:Int)(j:Nat)(v:Val)(h1:j<ks.length)(h2:j<t.ah.length)(hc:qK t.ah[j])(hv:gI v.int) :
 call T KM [.sl false (ks.map u8),t.enc fl,u8 op,i6 j,v.enc]=some (i6 (tV t ks[j] t.ah[j] op v)):=by
 refine q169g (by simp) ?_;have c1:=dF false t t.ah[j];have c2:=mK t.ah[j] op v.int hc hv;have c3:=gZ (gV t.ah[j] op v.int) t.ah[j].degree;have hV:iE t t.ah[j]=min t.rows (dR t.ah[j].distinct t.ah[j].degree):=rfl;rw[<-hV]at c1
 clear hV;unfold tV;generalize iE t t.ah[j]=V at *
 by_cases k0:v.kind=0
 ·by_cases o18:op=18
  ·simp[k0,o18,h1,h2]
  ·simp[k0,o18,h1,h2]
 by_cases oE:op=12\/op=18
 ·by_cases e1:ks[j]=1
  ·by_cases e2:v.kind=1
   ·by_cases e3:v.int<t.ah[j].lo
    ·rcases oE with o|o<;>simp[k0,o,h1,h2,e1,e2,e3]
    ·by_cases e4:t.ah[j].hi<v.int
     ·rcases oE with o|o<;>simp[k0,o,h1,h2,e1,e2,e3,e4]
     ·rcases oE with o|o<;>simp[k0,o,h1,h2,e1,e2,e3,e4]
   ·rcases oE with o|o<;>simp[k0,o,h1,h2,e1,e2]
  ·rcases oE with o|o<;>simp[k0,o,h1,h2,e1]
 ·have o1:¬op=12:=fun h=>oE (.inl h);have o2:¬op=18:=fun h=>oE (.inr h);by_cases e1:ks[j]=1
  ·by_cases e2:v.kind=1
   ·simp[k0,o1,o2,h1,h2,e1,e2,c1,c2,c3]
   ·simp[k0,o1,o2,h1,h2,e1,e2,c1,c2,c3]
  ·simp[k0,o1,o2,h1,h2,e1,c1,c2,c3]
theorem wR(n:Int):dR 0 n=0:=by
 have h:dm 0=0:=by decide
 unfold dR;rw[h,Int.zero_mul];decide
theorem AP(a b:Int):0<=dR a b:=by have h1:=bA a;have h2:=bA b;have:=Int.mul_nonneg h1.1 h2.1;unfold dR;omega
theorem Dp{t:TS}(h:0<=t.rows)(c:dh):0<=iE t c:=by have:=AP c.distinct c.degree;unfold iE;omega
set_option maxHeartbeats 1000000 in
theorem sK(ks:List Int)(t:TS)(op:Int)(j:Nat)(v:Val)(h1:j<ks.length)(h2:j<t.ah.length)(hc:qK t.ah[j])(hv:gI v.int)(hr:0<=t.rows) :
 call T YB [aH ks t,Cmp.enc ⟨op,j,v⟩]=some (i6 (tV t ks[j] t.ah[j] op v)):=by
 refine q71g (by simp) ?_;have c1:=dM ks t j h2;have c2:=Ch t.ah[j] op v.int hv;have c3:=mg (gV t.ah[j] op v.int) t.ah[j].degree;have hV:iE t t.ah[j]=min t.rows (dR t.ah[j].distinct t.ah[j].degree):=rfl;have hV0:=Dp hr t.ah[j];have hsr:=zY (op:=op) hc hv;rw[<-hV,aH]at c1
 clear hV;unfold tV;generalize iE t t.ah[j]=V at *
 by_cases k0:v.kind=0
 ·by_cases o18:op=18
  ·by_cases e1:ks[j]=1
   ·simp[aH,k0,o18,h1,h2,e1]
   ·simp[aH,k0,o18,h1,h2,e1]
  ·by_cases e1:ks[j]=1
   ·simp[aH,k0,o18,h1,h2,e1]
   ·simp[aH,k0,o18,h1,h2,e1]
 by_cases oE:op=12\/op=18
 ·by_cases e1:ks[j]=1
  ·by_cases e2:v.kind=1
   ·by_cases e3:v.int<t.ah[j].lo
    ·rcases oE with o|o<;>simp[aH,k0,o,h1,h2,e1,e2,e3]
    ·by_cases e4:t.ah[j].hi<v.int
     ·rcases oE with o|o<;>simp[aH,k0,o,h1,h2,e1,e2,e3,e4]
     ·rcases oE with o|o<;>simp[aH,k0,o,h1,h2,e1,e2,e3,e4]
   ·rcases oE with o|o<;>simp[aH,k0,o,h1,h2,e1,e2]
  ·rcases oE with o|o<;>simp[aH,k0,o,h1,h2,e1]
 have o1:¬op=12:=fun h=>oE (.inl h);have o2:¬op=18:=fun h=>oE (.inr h);by_cases e1:ks[j]=1
 case neg=>simp[aH,k0,o1,o2,h1,h2,e1,c1]
 by_cases e2:v.kind=1
 case neg=>simp[aH,k0,o1,o2,h1,h2,e1,e2,c1]
 rw[if_neg k0,if_neg oE,if_pos ⟨e1,e2⟩];have ei:¬(aV t.ah[j] op v.int).2.2=true\/(aV t.ah[j] op v.int).2.1<(aV t.ah[j] op v.int).1->gV t.ah[j] op v.int=0:=by
  intro h;by_cases h13:op=13
  ·have sp:aV t.ah[j] op v.int=(t.ah[j].lo,t.ah[j].hi,true):=by simp[aV,h13]
   rw[sp]at h
   simp at h;simp[gV,sp,h,jU]
  ·rcases h with h|h
   ·simp[gV,h13,h]
   ·simp[gV,h13,h,jU]
 have ej:(aV t.ah[j] op v.int).2.2=true->¬(aV t.ah[j] op v.int).2.1<(aV t.ah[j] op v.int).1->
  (op=13/\¬(v.int<(aV t.ah[j] op v.int).1)/\¬((aV t.ah[j] op v.int).2.1<v.int)/\gV t.ah[j] op v.int=min ((aV t.ah[j] op v.int).2.1-(aV t.ah[j] op v.int).1) 4611686018427387904)\/
  ((¬op=13\/v.int<(aV t.ah[j] op v.int).1\/(aV t.ah[j] op v.int).2.1<v.int)/\gV t.ah[j] op v.int=min ((aV t.ah[j] op v.int).2.1-(aV t.ah[j] op v.int).1) 4611686018427387903+1):=by
  intro ha hb;by_cases h13:op=13
  ·subst h13;have sp:aV t.ah[j] 13 v.int=(t.ah[j].lo,t.ah[j].hi,true):=by simp[aV]
   rw[sp]at hb ⊢
   dsimp only at hb ⊢;by_cases g1:v.int<t.ah[j].lo
   ·have e:gV t.ah[j] 13 v.int=jU t.ah[j].lo t.ah[j].hi:=by simp[gV,sp,g1]
    exact .inr ⟨.inr (.inl g1),by rw[e,jU,if_neg hb]⟩
   ·by_cases g2:t.ah[j].hi<v.int
    ·have e:gV t.ah[j] 13 v.int=jU t.ah[j].lo t.ah[j].hi:=by simp[gV,sp,g2]
     exact .inr ⟨.inr (.inr g2),by rw[e,jU,if_neg hb]⟩
    ·have e:gV t.ah[j] 13 v.int=min (t.ah[j].hi-t.ah[j].lo) 4611686018427387904:=if_pos ⟨rfl,fun h=>by rcases h with h|h|h<;>contradiction⟩
     exact .inl ⟨rfl,g1,g2,e⟩
  ·right;exact⟨.inl h13,by simp[gV,h13,ha,jU,hb]⟩
 generalize gV t.ah[j] op v.int=I at *
 generalize aV t.ah[j] op v.int=S at *
 obtain⟨lo,hi,b⟩:=S;obtain⟨⟨q1,q2⟩,q3,q4⟩:=hsr;simp only at *
 have z0:min V 0=0:=by omega
 by_cases hb:b=true
 case neg=>
  have hI:=ei (.inl hb);subst hI;simp[aH,k0,o1,o2,h1,h2,e1,e2,c1,c2,hb,wR,z0]
 by_cases hlo:hi<lo
 ·have hI:=ei (.inr hlo);subst hI;simp[aH,k0,o1,o2,h1,h2,e1,e2,c1,c2,hb,hlo,wR,z0]
 have hw:IntKind.u64.wrap (IntKind.u64.wrap hi-IntKind.u64.wrap lo)=hi-lo:=by simp only[IntKind.wrap_u64];omega
 have w4:IntKind.u64.wrap (min (hi-lo) 4611686018427387904+1)=min (hi-lo) 4611686018427387904+1:=u64_in (by omega) (by omega);have w5:IntKind.i64.wrap (min (min (hi-lo) 4611686018427387904+1) 4611686018427387904)=min (hi-lo) 4611686018427387903+1:=by rw[iM (by omega) (by omega)];omega
 have w6:IntKind.i64.wrap (min (hi-lo) 4611686018427387904)=min (hi-lo) 4611686018427387904:=iM (by omega) (by omega);rcases ej hb hlo with⟨h13,g1,g2,hI⟩|⟨h13,hI⟩
 ·subst hI;subst h13;simp[aH,k0,h1,h2,e1,e2,c1,c2,hb,hlo,g1,g2,hw,w6,c3]
 ·subst hI;by_cases p1:op=13
  ·subst p1;by_cases g1:v.int<lo
   ·simp[aH,k0,h1,h2,e1,e2,c1,c2,hb,hlo,g1,hw,w4,w5,c3]
   ·have g2:hi<v.int:=by omega
    simp[aH,k0,h1,h2,e1,e2,c1,c2,hb,hlo,g1,g2,hw,w4,w5,c3]
  ·simp[aH,k0,o1,o2,h1,h2,e1,e2,c1,c2,hb,hlo,p1,hw,w4,w5,c3]
def dS(t:TS)(n:Int):dh:=t.ah.getD n.toNat ⟨0,0,0,0,0⟩
def y5(ks:List Int)(n:Int):Int:=ks.getD n.toNat 0
theorem dz{t:TS}{j:Nat}(h:j<t.ah.length):dS t (j:Int)=t.ah[j]:=by simp[dS,h]
theorem jL{ks:List Int}{j:Nat}(h:j<ks.length):y5 ks (j:Int)=ks[j]:=by simp[y5,h]
def tZ(ks:List Int)(t:TS)(op a b:Int):Int:=
 if op=12/\y5 ks a=1/\y5 ks b=1/\min (dS t a).hi (dS t b).hi<max (dS t a).lo (dS t b).lo then 0 else min (iE t (dS t a)) (iE t (dS t b))
def pM(ks:List Int)(t:TS)(op:Int)(kids:List Ex):Int:=
 if(bS op kids).2=true then tV t (y5 ks (bS op kids).1.col) (dS t (bS op kids).1.col) (bS op kids).1.op (bS op kids).1.v
 else if(kN op kids).2.2=true then tZ ks t op (kN op kids).1 (kN op kids).2.1 else t.rows
def dP(l:List Ex):Ex:=l.headD (.mk 0 0 0 ⟨#[]⟩ 0 0 [] [])
def fP(t:TS)(e:Ex):Int:=if e.bG=true then(dS t e.n).degree else if e.op=20/\(dP e.kids).bG=true then iE t (dS t (dP e.kids).n)else t.rows
mutual
def Ex.most(ks:List Int)(t:TS):Ex->Int
 | .mk op vk vi vs up n kids sub=>min (if op=0 then(if vk=3/\vi=1 then t.rows else 0)else if op=2 then(dS t n).degree else if op=22 then fP t (dP kids)
  else if op=20 then(if(dP kids).bG=true then(dS t (dP kids).n).bQ else t.rows)else if op=19 then(if(dP kids).bG=true then iE t (dS t (dP kids).n)else t.rows)
  else if op=21\/op=23 then Ex.tX ks t t.rows kids else if op=24 then Ex.tY ks t 0 kids else pM ks t op kids) t.rows
def Ex.tX(ks:List Int)(t:TS)(a:Int):List Ex->Int
 | []=>a
 | e::l=>Ex.tX ks t (min a (e.most ks t)) l
def Ex.tY(ks:List Int)(t:TS)(a:Int):List Ex->Int
 | []=>a
 | e::l=>Ex.tY ks t (ol a (e.most ks t)) l
end
def fH(f:Ex->Int)(a:Int)(l:List Ex):Int:=l.foldl (fun n e=>min n (f e)) a
def gy(f:Ex->Int)(a:Int)(l:List Ex):Int:=l.foldl (fun n e=>ol n (f e)) a
theorem Ex.G7(ks:List Int)(t:TS)(a:Int)(l:List Ex):tX ks t a l=fH (Ex.most ks t) a l:=by
 induction l generalizing a with
 | nil=>simp only[Ex.tX,fH,List.foldl_nil]
 | cons e l ih=>simp only[Ex.tX,ih,fH,List.foldl_cons]
theorem Ex.G8(ks:List Int)(t:TS)(a:Int)(l:List Ex):tY ks t a l=gy (Ex.most ks t) a l:=by
 induction l generalizing a with
 | nil=>simp only[Ex.tY,gy,List.foldl_nil]
 | cons e l ih=>simp only[Ex.tY,ih,gy,List.foldl_cons]
theorem Ex.JQ(ks:List Int)(t:TS)(e:Ex):e.most ks t=min (if e.op=0 then(if e.vk=3/\e.vi=1 then t.rows else 0)else if e.op=2 then(dS t e.n).degree else if e.op=22 then fP t (dP e.kids)
 else if e.op=20 then(if(dP e.kids).bG=true then(dS t (dP e.kids).n).bQ else t.rows)else if e.op=19 then(if(dP e.kids).bG=true then iE t (dS t (dP e.kids).n)else t.rows)
 else if e.op=21\/e.op=23 then fH (Ex.most ks t) t.rows e.kids else if e.op=24 then gy (Ex.most ks t) 0 e.kids else pM ks t e.op e.kids) t.rows:=by
 cases e;simp only[Ex.most,Ex.G7,Ex.G8,op,vk,vi,n,kids];rfl
theorem tJ{f:Ex->Int}{a:Int}{l:List Ex}{i:Nat}(h:i<l.length):fH f a (l.drop i)=fH f (min a (f l[i])) (l.drop (i+1)):=by rw[List.drop_eq_getElem_cons h];rfl
theorem tK{f:Ex->Int}{a:Int}{l:List Ex}{i:Nat}(h:i<l.length):gy f a (l.drop i)=gy f (ol a (f l[i])) (l.drop (i+1)):=by rw[List.drop_eq_getElem_cons h];rfl
theorem wm{f:Ex->Int}{a:Int}{l:List Ex}{i:Nat}(h:l.length<=i):fH f a (l.drop i)=a:=by rw[List.drop_eq_nil_of_le h];rfl
theorem wo{f:Ex->Int}{a:Int}{l:List Ex}{i:Nat}(h:l.length<=i):gy f a (l.drop i)=a:=by rw[List.drop_eq_nil_of_le h];rfl
mutual
def Ex.good(w:Nat):Ex->Prop
 | .mk op _ vi _ up n kids _=>((op=2->up=0/\0<=n/\n<w)/\(19<=op/\op<=22->1<=kids.length)/\(op=21->kids.length=1)/\(12<=op/\op<=17->kids.length=2)/\gI vi/\aS kids)/\Ex.EO w kids
def Ex.EO(w:Nat):List Ex->Prop
 | []=>True
 | e::l=>e.good w/\Ex.EO w l
end
theorem Ex.Mh{w:Nat}{l:List Ex}:EO w l↔∀k∈l,k.good w:=by
 induction l with
 | nil=>simp[Ex.EO]
 | cons x l ih=>simp[Ex.EO,ih]
structure Ex.GoodE (w:Nat) (e:Ex):Prop where
 col:e.op=2->e.up=0/\0<=e.n/\e.n<w
 has:19<=e.op/\e.op<=22->1<=e.kids.length
 one:e.op=21->e.kids.length=1
 two:12<=e.op/\e.op<=17->e.kids.length=2
 vi:gI e.vi
 len:aS e.kids
 kid:∀k∈e.kids,k.good w
theorem Ex.jl{w:Nat}{e:Ex}:e.good w↔e.GoodE w:=by cases e;simp only[Ex.good,Ex.Mh];exact⟨fun⟨⟨h1,h2,h3,h3',h4,h5⟩,h6⟩=>⟨h1,h2,h3,h3',h4,h5,h6⟩,fun⟨h1,h2,h3,h3',h4,h5,h6⟩=>⟨⟨h1,h2,h3,h3',h4,h5⟩,h6⟩⟩
theorem Ex.fO{w:Nat}{e:Ex}(h:e.good w)(hc:e.bG=true):∃j:Nat,e.n=(j:Int)/\j<w:=by have:=(Ex.jl.1 h).col (mQ.1 hc).1;exact⟨e.n.toNat,by omega,by omega⟩
theorem Ex.jm{w:Nat}{e:Ex}(h:e.good w)(hc:19<=e.op/\e.op<=22):∃k l,e.kids=k::l/\k.good w:=by
 have h1:=(Ex.jl.1 h).has hc;have h2:=(Ex.jl.1 h).kid;rcases hk:e.kids with _|⟨k,l⟩
 ·rw[hk]at h1;simp at h1
 ·exact⟨k,l,rfl,h2 k (by simp[hk])⟩
theorem AV{w:Nat}{op:Int}{kids:List Ex}(h:∀k∈kids,k.good w)(hb:(bS op kids).2=true):(∃j:Nat,(bS op kids).1.col=j/\j<w)/\gI (bS op kids).1.v.int:=by
 by_cases hl:kids.length=2
 ·obtain⟨a,b,rfl⟩:=wD hl;have h1:=h a (by simp);have h2:=h b (by simp);by_cases hc:(bM op||decide (op=18))=true
  ·simp only[bS,hc,if_true]at hb ⊢;by_cases g1:a.op=0
   ·simp only[g1,if_true]at hb ⊢;exact⟨Ex.fO h2 hb,(Ex.jl.1 h1).vi⟩
   ·simp only[g1,if_false,bE]at hb ⊢;exact⟨Ex.fO h1 hb.1,(Ex.jl.1 h2).vi⟩
  ·simp[bS,hc]at hb
 ·simp[oN hl]at hb
theorem Lh{w:Nat}{op:Int}{kids:List Ex}(h:∀k∈kids,k.good w)(hb:(kN op kids).2.2=true):(∃j:Nat,(kN op kids).1=j/\j<w)/\(∃j:Nat,(kN op kids).2.1=j/\j<w):=by
 by_cases hl:kids.length=2
 ·obtain⟨a,b,rfl⟩:=wD hl;have h1:=h a (by simp);have h2:=h b (by simp);by_cases hc:bM op=true
  ·simp only[kN,hc,if_true,bE]at hb ⊢;exact⟨Ex.fO h1 hb.1,Ex.fO h2 hb.2⟩
  ·simp[kN,hc]at hb
 ·simp[vR hl]at hb
structure TOk (ks:List Int) (t:TS):Prop where
 len:t.ah.length=ks.length
 lo:∀(j:Nat) (h:j<t.ah.length),qK t.ah[j]
 rows:0<=t.rows
theorem wY(ks:List Int)(t:TS)(ht:TOk ks t)(e:Ex)(h:e.good t.ah.length):call T YF [aH ks t,e.enc]=some (i6 (fP t e)):=by
 refine q73g (by simp) ?_;have he:=e.aB;have ce:=dB e;by_cases hc:e.bG=true
 ·obtain⟨j,hj,hw⟩:=Ex.fO h hc;have hv:dS t e.n=t.ah[j]:=by rw[hj,dz hw]
  simp only[fP,hv];rw[hc]at ce
  rw[hj]at ce he
  simp[aH,he,ce,hc,hw]
 ·simp only[Bool.not_eq_true]at hc;rw[hc]at ce
  by_cases h20:e.op=20
  ·obtain⟨k,l,hk,hg⟩:=Ex.jm h (by omega);have hke:=k.aB;have ck:=dB k;have hh:dP e.kids=k:=by rw[hk];rfl
   simp only[fP,hc,h20,hh];rw[hk,h20]at ce he
   by_cases hkc:k.bG=true
   ·obtain⟨j,hj,hw⟩:=Ex.fO hg hkc;have cv:=dM ks t j hw;rw[aH]at cv
    have hv:dS t k.n=t.ah[j]:=by rw[hj,dz hw]
    rw[hkc,hj]at ck
    rw[hj]at hke
    rw[List.map_cons,hke]at ce he
    simp[aH,he,ce,hke,ck,hkc,cv,hv,iE]
   ·simp only[Bool.not_eq_true]at hkc;rw[hkc]at ck
    rw[List.map_cons,hke]at ce he
    simp[aH,he,ce,hke,ck,hkc]
  ·simp[fP,aH,he,ce,hc,h20]
theorem oQ(ks:List Int)(t:TS)(ht:TOk ks t)(e:Ex)(h:e.good t.ah.length):call T YD [aH ks t,e.enc]=some (i6 (pM ks t e.op e.kids)):=by
 refine q72g (by simp) ?_;have he:=e.aB;have ca:=Aj e;have cc:=wX e;have hkid:=(Ex.jl.1 h).kid;have i1:=AV (op:=e.op) hkid;have i2:=Lh (op:=e.op) hkid;unfold pM;generalize bS e.op e.kids=A at *
 generalize kN e.op e.kids=B at *
 obtain⟨⟨o,c,v⟩,b⟩:=A;obtain⟨x,y,b'⟩:=B;rw[he]at ca cc ⊢
 cases b
 ·cases b'
  ·simp[aH,ca,cc]
  ·obtain⟨⟨j,hj,hw⟩,⟨k,hk,hw'⟩⟩:=i2 rfl;simp only at hj hk;subst hj;subst hk;have v1:=dM ks t j hw;have v2:=dM ks t k hw';rw[aH]at v1 v2
   have e1:=dz hw;have e2:=dz hw';have l1:j<ks.length:=by rw[<-ht.len];exact hw
   have l2:k<ks.length:=by rw[<-ht.len];exact hw'
   have e3:=jL l1;have e4:=jL l2;simp only[tZ,e1,e2,e3,e4,iE];simp[aH,ca,cc,v1,v2,hw,hw',l1,l2];by_cases o12:e.op=12
   ·by_cases k1:ks[j]=1
    ·by_cases k2:ks[k]=1
     ·simp[aH,ca,cc,v1,v2,hw,hw',l1,l2,o12,k1,k2];refine aj (fun m=>?_) (fun m=>?_)<;>(have m':=m;try simp at m')<;>(try simp[*])
      all_goals (intro hh;omega)
     ·simp[aH,ca,cc,v1,v2,hw,hw',l1,l2,o12,k1,k2]
    ·simp[aH,ca,cc,v1,v2,hw,hw',l1,l2,o12,k1]
   ·simp[aH,ca,cc,v1,v2,hw,hw',l1,l2,o12]
 ·obtain⟨⟨j,hj,hw⟩,hv⟩:=i1 rfl;simp only at hj hv;subst hj;have l1:j<ks.length:=by rw[<-ht.len];exact hw
  have cm:=sK ks t o j v l1 hw (ht.lo j hw) hv ht.rows;rw[aH]at cm
  have e1:=dz hw;have e3:=jL l1;simp only[e1,e3];simp[aH,ca,cc,cm]
theorem sV{e:Ex}(h:e.bG=true):e.dw=e.n:=by rw[Ex.dw,if_pos (mQ.1 h)]
theorem sW{e:Ex}(h:e.bG=false):e.dw=-1:=by rw[Ex.dw,if_neg];intro hh;rw[mQ.2 hh]at h;cases h
theorem nC(t:TS)(e:Ex)(h:e.good t.ah.length):call T KN [t.enc false,e.enc]=some (i6 (fP t e)):=by
 refine q170g (by simp) ?_;have he:=e.aB;have ce:=bf e;by_cases hc:e.bG=true
 ·obtain⟨j,hj,hw⟩:=Ex.fO h hc;have hv:dS t e.n=t.ah[j]:=by rw[hj,dz hw]
  simp only[fP,hv];rw[sV hc,hj]at ce
  rw[hj]at he
  simp[he,ce,hc,hw]
 ·simp only[Bool.not_eq_true]at hc;rw[sW hc]at ce
  by_cases h20:e.op=20
  ·obtain⟨k,l,hk,hg⟩:=Ex.jm h (by omega);have hke:=k.aB;have ck:=bf k;have hh:dP e.kids=k:=by rw[hk];rfl
   simp only[fP,hc,h20,hh];rw[hk,h20]at ce he
   by_cases hkc:k.bG=true
   ·obtain⟨j,hj,hw⟩:=Ex.fO hg hkc;have cv:=dF false t t.ah[j];have hv:dS t k.n=t.ah[j]:=by rw[hj,dz hw]
    rw[sV hkc,hj]at ck
    rw[hj]at hke
    rw[List.map_cons,hke]at ce he
    simp[he,ce,hke,ck,hkc,cv,hv,hw,iE]
   ·simp only[Bool.not_eq_true]at hkc;rw[sW hkc]at ck
    rw[List.map_cons,hke]at ce he
    simp[he,ce,hke,ck,hkc]
  ·simp[fP,he,ce,hc,h20]
theorem nD(ks:List Int)(t:TS)(ht:TOk ks t)(op:Int)(j k:Nat)(hw:j<t.ah.length)(hw':k<t.ah.length) :
 call T KP [.sl false (ks.map u8),t.enc false,u8 op,i6 j,i6 k]=some (i6 (tZ ks t op j k)):=by
 refine q172g (by simp) ?_;have v1:=dF false t t.ah[j];have v2:=dF false t t.ah[k];have e1:=dz hw;have e2:=dz hw';have l1:j<ks.length:=by rw[<-ht.len];exact hw
 have l2:k<ks.length:=by rw[<-ht.len];exact hw'
 have e3:=jL l1;have e4:=jL l2;simp only[tZ,e1,e2,e3,e4,iE];by_cases o12:op=12
 ·by_cases k1:ks[j]=1
  ·by_cases k2:ks[k]=1
   ·simp[v1,v2,hw,hw',l1,l2,o12,k1,k2];refine aj (fun m=>?_) (fun m=>?_)<;>(have m':=m;try simp at m')<;>(try simp[*])
    all_goals (intro hh;omega)
   ·simp[v1,v2,hw,hw',l1,l2,o12,k1,k2]
  ·simp[v1,v2,hw,hw',l1,l2,o12,k1]
 ·simp[v1,v2,hw,hw',l1,l2,o12]
theorem JH{w:Nat}{kids:List Ex}(h:∀k∈kids,k.good w):∀k∈kids,k.bG=true->0<=k.n:=fun k hk hc=>by obtain⟨j,hj,_⟩:=Ex.fO (h k hk) hc;omega
theorem EK{f:Ex->Int}{a:Int}{k:Ex}:fH f a [k]=min a (f k):=rfl
def BV(ks:List Int)(t:TS)(e:Ex):Prop:=∃m,call T KO [.sl false (ks.map u8),t.enc false,e.enc]=some (i6 m)/\min t.rows m=e.most ks t
theorem jg{ks:List Int}{t:TS}{e:Ex}(h:BV ks t e):call T uG [.sl false (ks.map u8),t.enc false,e.enc]=some (i6 (e.most ks t)):=by
 obtain⟨m,hm,hr⟩:=h;refine q162g (by simp) ?_;have he:=e.aB;rw[<-hr];rw[he]at hm ⊢
 simp[hm]
set_option maxHeartbeats 1000000 in
theorem oD(ks:List Int)(t:TS)(ht:TOk ks t)(e:Ex)(h:e.good t.ah.length):BV ks t e:=by
 revert h;refine Ex.induct (p:=fun e=>e.good t.ah.length->BV ks t e) (fun e ih h=>?_) e;have he:=e.aB;have hg:=Ex.jl.1 h;have hlen:e.kids.length<=9223372036854775807:=gJ hg.len (by decide);have hk:∀k∈e.kids,call T uG [.sl false (ks.map u8),t.enc false,k.enc]=some (i6 (k.most ks t)):=fun k hk=>jg (ih k hk (hg.kid k hk))
 unfold BV;rw[Ex.JQ];by_cases h0:e.op=0
 ·rw[h0]at he
  refine⟨if e.vk=3/\e.vi=1 then t.rows else 0,?_,by rw[if_pos h0];omega⟩;refine uH (by simp) ?_;by_cases g1:e.vk=3
  ·by_cases g2:e.vi=1
   ·simp[he,g1,g2]
   ·simp[he,g1,g2]
  ·simp[he,g1]
 by_cases h2:e.op=2
 ·refine⟨(dS t e.n).degree,?_,by rw[if_neg h0,if_pos h2];omega⟩;refine uH (by simp) ?_;obtain⟨hu,hn0,hn1⟩:=hg.col h2;obtain⟨j,hj⟩:∃j:Nat,e.n=j:=⟨e.n.toNat,by omega⟩
  have hw:j<t.ah.length:=by omega
  rw[h2,hj]at he
  have e1:=dz hw;simp[he,h2,hj,hw,e1]
 by_cases h22:e.op=22
 ·refine⟨fP t (dP e.kids),?_,by rw[if_neg h0,if_neg h2,if_pos h22];omega⟩;refine uH (by simp) ?_;obtain⟨k,l,hkl,hgk⟩:=Ex.jm h (by omega);have hh:dP e.kids=k:=by rw[hkl];rfl
  have hke:=k.aB;have cn:=nC t k hgk;rw[hke]at cn
  rw[h22,hkl,List.map_cons,hke]at he
  simp[he,h22,hh,cn]
 by_cases h20:e.op=20
 ·refine⟨if(dP e.kids).bG=true then(dS t (dP e.kids).n).bQ else t.rows,?_,by rw[if_neg h0,if_neg h2,if_neg h22,if_pos h20];omega⟩;refine uH (by simp) ?_;obtain⟨k,l,hkl,hgk⟩:=Ex.jm h (by omega);have hh:dP e.kids=k:=by rw[hkl];rfl
  have hke:=k.aB;have ck:=bf k;have ca:=h_ e;have cc:=ig e;rw[h20,uP (by decide) (by decide)]at ca
  have t2:qb 20 e.kids=(-1,-1):=by rcases e.kids with _|⟨a,_|⟨b,_|⟨c,l⟩⟩⟩<;>simp[qb,bM]
  rw[h20,t2]at cc
  by_cases hkc:k.bG=true
  ·obtain⟨j,hj,hw⟩:=Ex.fO hgk hkc;have hv:dS t k.n=t.ah[j]:=by rw[hj,dz hw]
   rw[sV hkc,hj]at ck
   rw[hj]at hke
   rw[h20,hkl,List.map_cons,hke]at he
   simp[he,h20,hh,ck,hkc,hv,hw]
  ·simp only[Bool.not_eq_true]at hkc;rw[sW hkc]at ck
   rw[h20,hkl,List.map_cons,hke]at he
   rw[he]at ca cc
   simp[he,h20,hh,ck,hkc,ca,cc,zeroV]
 by_cases h19:e.op=19
 ·refine⟨if(dP e.kids).bG=true then iE t (dS t (dP e.kids).n)else t.rows,?_,by rw[if_neg h0,if_neg h2,if_neg h22,if_neg h20,if_pos h19];omega⟩;refine uH (by simp) ?_;obtain⟨k,l,hkl,hgk⟩:=Ex.jm h (by omega);have hh:dP e.kids=k:=by rw[hkl];rfl
  have hke:=k.aB;have ck:=bf k;have ca:=h_ e;have cc:=ig e;rw[h19,uP (by decide) (by decide)]at ca
  have t2:qb 19 e.kids=(-1,-1):=by rcases e.kids with _|⟨a,_|⟨b,_|⟨c,l⟩⟩⟩<;>simp[qb,bM]
  rw[h19,t2]at cc
  by_cases hkc:k.bG=true
  ·obtain⟨j,hj,hw⟩:=Ex.fO hgk hkc;have cv:=dF false t t.ah[j];have hv:dS t k.n=t.ah[j]:=by rw[hj,dz hw]
   rw[sV hkc,hj]at ck
   rw[hj]at hke
   rw[h19,hkl,List.map_cons,hke]at he
   simp[he,h19,hh,ck,hkc,hv,hw,cv,iE]
  ·simp only[Bool.not_eq_true]at hkc;rw[sW hkc]at ck
   rw[h19,hkl,List.map_cons,hke]at he
   rw[he]at ca cc
   simp[he,h19,hh,ck,hkc,ca,cc,zeroV]
 by_cases h21:e.op=21
 ·have hone:=hg.one h21;obtain⟨k,l,hkl,hgk⟩:=Ex.jm h (by omega);have hl:l=[]:=by rw[hkl]at hone;simpa using hone
  subst hl;refine⟨k.most ks t,?_,by rw[if_neg h0,if_neg h2,if_neg h22,if_neg h20,if_neg h19,if_pos (.inl h21),hkl,EK];omega⟩;refine uH (by simp) ?_;have hke:=k.aB;have cr:=hk k (by simp[hkl]);rw[hke]at cr
  rw[h21,hkl,List.map_cons,hke]at he
  simp[he,cr]
 by_cases h23:e.op=23
 ·refine⟨fH (Ex.most ks t) t.rows e.kids,?_,by rw[if_neg h0,if_neg h2,if_neg h22,if_neg h20,if_neg h19,if_pos (.inr h23)];omega⟩;refine uH (by simp) ?_;generalize hM:fH (Ex.most ks t) t.rows e.kids=M;replace hM:=Hd.mk hM;rw[h23]at he
  simp[he];refine av (σ:=Nat) (fun i en s=>en 0=.sl false (ks.map u8)/\en 4=.ptr 4 1 0/\en 5=.ptr 5 1 0/\en 8=i6 i/\(∃a,en 7=i6 a/\Hd (fH (Ex.most ks t) a (e.kids.drop i)=M))/\(∃q,s 4=⟨1,true,some (.box (t.enc false)),q⟩)/\(∃q,s 5=⟨1,true,some (.box e.enc),q⟩)/\i<=e.kids.length) (fun i=>e.kids.length-i) ?_ 0 _ _
   ⟨by simp,by simp,by simp,by simp,⟨t.rows,by simp,⟨by rw[List.drop_zero];exact hM.out⟩⟩,⟨_,by simp;rfl⟩,⟨_,by simp[he];rfl⟩,by omega⟩
  rintro i en s ⟨h0,h4,h5,h8,⟨a,h7,hA⟩,⟨q,s4⟩,⟨q',s5⟩,hi⟩ ih;rw[he]at s5
  simp[h0,h4,h5,h8,h7,s4,s5];refine aj (fun h=>?_) (fun h=>?_)<;>(have h':=h;try simp at h')<;>(try simp[*])
  ·have hc:=hk e.kids[i] (List.getElem_mem h');have hke:=e.kids[i].aB;rw[hke]at hc
   replace hA:=Hd.mk ((tJ h').symm.trans hA.out);simp only[hke];simp[hc,h0,h4,h5,h8,h7,s4,s5];refine ih.out (i+1) _ _ ?_ (by omega);exact⟨by simp[h0],by simp[h4],by simp[h5],by simp[ai h' hlen],⟨_,by simp,hA⟩,⟨q,by simp[s4]⟩,⟨q',by rw[he];simp[s5]⟩,h'⟩
  ·have:=hA.out;rw[wm (by omega)]at this
   exact this
 have h213:¬(e.op=21\/e.op=23):=fun hh=>hh.elim h21 h23;by_cases h24:e.op=24
 ·refine⟨gy (Ex.most ks t) 0 e.kids,?_,by rw[if_neg h0,if_neg h2,if_neg h22,if_neg h20,if_neg h19,if_neg h213,if_pos h24];omega⟩;refine uH (by simp) ?_;generalize hM:gy (Ex.most ks t) 0 e.kids=M;replace hM:=Hd.mk hM;rw[h24]at he
  simp[he];refine av (σ:=Nat) (fun i en s=>en 0=.sl false (ks.map u8)/\en 4=.ptr 4 1 0/\en 5=.ptr 5 1 0/\en 10=i6 i/\(∃a,en 9=i6 a/\Hd (gy (Ex.most ks t) a (e.kids.drop i)=M))/\(∃q,s 4=⟨1,true,some (.box (t.enc false)),q⟩)/\(∃q,s 5=⟨1,true,some (.box e.enc),q⟩)/\i<=e.kids.length) (fun i=>e.kids.length-i) ?_ 0 _ _
   ⟨by simp,by simp,by simp,by simp,⟨0,by simp,⟨by rw[List.drop_zero];exact hM.out⟩⟩,⟨_,by simp;rfl⟩,⟨_,by simp[he];rfl⟩,by omega⟩
  rintro i en s ⟨h0,h4,h5,h8,⟨a,h7,hA⟩,⟨q,s4⟩,⟨q',s5⟩,hi⟩ ih;rw[he]at s5
  simp[h0,h4,h5,h8,h7,s4,s5];refine aj (fun h=>?_) (fun h=>?_)<;>(have h':=h;try simp at h')<;>(try simp[*])
  ·have hc:=hk e.kids[i] (List.getElem_mem h');have hke:=e.kids[i].aB;have hp:=kI a (e.kids[i].most ks t);rw[hke]at hc
   replace hA:=Hd.mk ((tK h').symm.trans hA.out);simp only[hke];simp[hc,hp,h0,h4,h5,h8,h7,s4,s5];refine ih.out (i+1) _ _ ?_ (by omega);exact⟨by simp[h0],by simp[h4],by simp[h5],by simp[ai h' hlen],⟨_,by simp,hA⟩,⟨q,by simp[s4]⟩,⟨q',by rw[he];simp[s5]⟩,h'⟩
  ·have:=hA.out;rw[wo (by omega)]at this
   exact this
 refine⟨pM ks t e.op e.kids,?_,by rw[if_neg h0,if_neg h2,if_neg h22,if_neg h20,if_neg h19,if_neg h213,if_neg h24];omega⟩;refine uH (by simp) ?_;have ca:=h_ e;have cc:=ig e;have b1:=Gd (op:=e.op) (JH hg.kid);have b2:=RQ (op:=e.op) (JH hg.kid);have i1:=AV (op:=e.op) hg.kid;have i2:=Lh (op:=e.op) hg.kid;unfold pM;generalize bS e.op e.kids=A at *
 generalize kN e.op e.kids=B at *
 generalize jf e.op e.kids=A' at *
 generalize qb e.op e.kids=B' at *
 obtain⟨⟨o,c,v⟩,b⟩:=A;obtain⟨x,y,b'⟩:=B;obtain⟨o',c',v'⟩:=A';obtain⟨x',y'⟩:=B';rw[he]at ca cc ⊢
 rcases b1 with⟨b1,b1',b1n⟩|⟨b1,b1'⟩
 ·simp only at b1 b1' b1n;subst b1;simp only[Cmp.mk.injEq]at b1';obtain⟨rfl,rfl,rfl⟩:=b1';obtain⟨⟨j,hj,hw⟩,hv⟩:=i1 rfl;simp only at hj hv;subst hj;have l1:j<ks.length:=by rw[<-ht.len];exact hw
  have cm:=lZ ks t false o' j v' l1 hw (ht.lo j hw) hv;have e1:=dz hw;have e3:=jL l1;simp only[e1,e3];simp[ca,cc,cm,h0,h2,h22,h20,h19,h21,h23,h24]
 ·simp only at b1 b1';subst b1;have b1n:¬0<=c':=by omega
  rcases b2 with⟨b2,b2',b2n⟩|⟨b2,b2'⟩
  ·simp only at b2 b2' b2n;subst b2;simp only[bq]at b2';obtain⟨rfl,rfl⟩:=b2';obtain⟨⟨j,hj,hw⟩,⟨k,hk',hw'⟩⟩:=i2 rfl;simp only at hj hk';subst hj;subst hk';have cm:=nD ks t ht e.op j k hw hw';simp[ca,cc,cm,h0,h2,h22,h20,h19,h21,h23,h24,b1',b1n]
  ·simp only at b2 b2';subst b2;have b2n:¬0<=x':=by omega
   simp[ca,cc,h0,h2,h22,h20,h19,h21,h23,h24,b1',b1n,b2',b2n]
theorem qH(ks:List Int)(t:TS)(ht:TOk ks t)(e:Ex)(h:e.good t.ah.length):call T uG [.sl false (ks.map u8),t.enc false,e.enc]=some (i6 (e.most ks t)):=
 jg (oD ks t ht e h)
set_option maxHeartbeats 1000000 in
theorem Cf(ks:List Int)(t:TS)(ht:TOk ks t)(e:Ex)(h:e.good t.ah.length):call T Df [aH ks t,e.enc]=some (i6 (e.most ks t)):=by
 revert h;refine Ex.induct (p:=fun e=>e.good t.ah.length->call T Df [aH ks t,e.enc]=some (i6 (e.most ks t))) (fun e ih h=>?_) e;refine q70g (by simp) ?_;have he:=e.aB;have hg:=Ex.jl.1 h;have hlen:e.kids.length<=9223372036854775807:=gJ hg.len (by decide);have hk:∀k∈e.kids,call T Df [aH ks t,k.enc]=some (i6 (k.most ks t)):=fun k hk=>ih k hk (hg.kid k hk)
 rw[Ex.JQ];by_cases h0:e.op=0
 ·rw[h0]at he
  by_cases g1:e.vk=3
  ·by_cases g2:e.vi=1
   ·simp[aH,he,h0,g1,g2]
   ·simp[aH,he,h0,g1,g2]
  ·simp[aH,he,h0,g1]
 by_cases h2:e.op=2
 ·obtain⟨hu,hn0,hn1⟩:=hg.col h2;obtain⟨j,hj⟩:∃j:Nat,e.n=j:=⟨e.n.toNat,by omega⟩
  have hw:j<t.ah.length:=by omega
  rw[h2,hj]at he
  have e1:=dz hw;simp[aH,he,h2,hj,hw,e1]
 by_cases h22:e.op=22
 ·obtain⟨k,l,hkl,hgk⟩:=Ex.jm h (by omega);have hh:dP e.kids=k:=by rw[hkl];rfl
  have hke:=k.aB;have cn:=wY ks t ht k hgk;rw[aH,hke]at cn
  rw[h22,hkl,List.map_cons,hke]at he
  simp[aH,he,h22,hh,cn]
 by_cases h20:e.op=20
 ·obtain⟨k,l,hkl,hgk⟩:=Ex.jm h (by omega);have hh:dP e.kids=k:=by rw[hkl];rfl
  have hke:=k.aB;have ck:=dB k;by_cases hkc:k.bG=true
  ·obtain⟨j,hj,hw⟩:=Ex.fO hgk hkc;have hv:dS t k.n=t.ah[j]:=by rw[hj,dz hw]
   rw[hj]at hke
   rw[hkc,hj]at ck
   rw[h20,hkl,List.map_cons,hke]at he
   simp[aH,he,h20,hh,ck,hkc,hv,hw]
  ·simp only[Bool.not_eq_true]at hkc;rw[hkc]at ck
   rw[h20,hkl,List.map_cons,hke]at he
   simp[aH,he,h20,hh,ck,hkc]
 by_cases h19:e.op=19
 ·obtain⟨k,l,hkl,hgk⟩:=Ex.jm h (by omega);have hh:dP e.kids=k:=by rw[hkl];rfl
  have hke:=k.aB;have ck:=dB k;by_cases hkc:k.bG=true
  ·obtain⟨j,hj,hw⟩:=Ex.fO hgk hkc;have cv:=dM ks t j hw;rw[aH]at cv
   have hv:dS t k.n=t.ah[j]:=by rw[hj,dz hw]
   rw[hj]at hke
   rw[hkc,hj]at ck
   rw[h19,hkl,List.map_cons,hke]at he
   simp[aH,he,h19,hh,ck,hkc,hv,hw,cv,iE]
  ·simp only[Bool.not_eq_true]at hkc;rw[hkc]at ck
   rw[h19,hkl,List.map_cons,hke]at he
   simp[aH,he,h19,hh,ck,hkc]
 by_cases h21:e.op=21\/e.op=23
 ·have hcond:(if e.op=0 then(if e.vk=3/\e.vi=1 then t.rows else 0)else if e.op=2 then(dS t e.n).degree else if e.op=22 then fP t (dP e.kids)
   else if e.op=20 then(if(dP e.kids).bG=true then(dS t (dP e.kids).n).bQ else t.rows)else if e.op=19 then(if(dP e.kids).bG=true then iE t (dS t (dP e.kids).n)else t.rows)
   else if e.op=21\/e.op=23 then fH (Ex.most ks t) t.rows e.kids else if e.op=24 then gy (Ex.most ks t) 0 e.kids else pM ks t e.op e.kids)=fH (Ex.most ks t) t.rows e.kids:=by
   rw[if_neg h0,if_neg h2,if_neg h22,if_neg h20,if_neg h19,if_pos h21]
  rw[hcond];clear hcond;generalize hM:fH (Ex.most ks t) t.rows e.kids=M;replace hM:=Hd.mk hM;have main:∀(en:Env) (s:ay) (q:Nat),en 2=.ptr 2 1 0->en 88=.sl false (e.kids.map Ex.enc)->en 89=i6 e.kids.length->en 90=i6 0->en 5=i6 t.rows->s 2=⟨1,true,some (.box (aH ks t)),q⟩->
   wp T [It.lp q70l1,It.bl 1,It.bl 0,It.code ((IC.ops Q0).seq IC.ret)] en s (fun e' s'=>aC e' s' [fI.tmp 4]=some (i6 (min M t.rows))):=by
   intro en s q e2 e88 e89 e90 e5 s2;refine av (σ:=Nat) (fun i en s=>en 2=.ptr 2 1 0/\en 88=.sl false (e.kids.map Ex.enc)/\en 89=i6 e.kids.length/\en 90=i6 i/\(∃a,en 5=i6 a/\Hd (fH (Ex.most ks t) a (e.kids.drop i)=M))/\(∃q,s 2=⟨1,true,some (.box (aH ks t)),q⟩)/\i<=e.kids.length) (fun i=>e.kids.length-i) ?_ 0 _ _
    ⟨e2,e88,e89,by simp[e90],⟨t.rows,e5,⟨by rw[List.drop_zero];exact hM.out⟩⟩,⟨q,s2⟩,by omega⟩
   rintro i en s ⟨h2,h88,h89,h90,⟨a,h5,hA⟩,⟨q,s2⟩,hi⟩ ih;simp[h2,h88,h89,h90,h5,s2];refine aj (fun h=>?_) (fun h=>?_)<;>(have h':=h;try simp at h')<;>(try simp[*])
   ·have hc:=hk e.kids[i] (List.getElem_mem h');have hke:=e.kids[i].aB;rw[aH,hke]at hc
    replace hA:=Hd.mk ((tJ h').symm.trans hA.out);simp only[hke];simp[aH,hc,h2,h88,h89,h90,h5,s2];refine ih.out (i+1) _ _ ?_ (by omega);exact⟨by simp[h2],by simp[h88],by simp[h89],by simp[ai h' hlen],⟨_,by simp,hA⟩,⟨q,by simp[s2,aH]⟩,h'⟩
   ·have:=hA.out;rw[wm (by omega)]at this
    subst this;simp[aH,h2,h5,s2]
  rcases h21 with h21|h21
  ·rw[h21]at he
   simp[aH,he];exact main _ _ _ (by simp) (by simp) (by simp) (by simp) (by simp) (by simp[aH];rfl)
  ·rw[h21]at he
   simp[aH,he];exact main _ _ _ (by simp) (by simp) (by simp) (by simp) (by simp) (by simp[aH];rfl)
 have h21':¬e.op=21:=fun hh=>h21 (.inl hh);have h23':¬e.op=23:=fun hh=>h21 (.inr hh);by_cases h24:e.op=24
 ·have hcond:(if e.op=0 then(if e.vk=3/\e.vi=1 then t.rows else 0)else if e.op=2 then(dS t e.n).degree else if e.op=22 then fP t (dP e.kids)
   else if e.op=20 then(if(dP e.kids).bG=true then(dS t (dP e.kids).n).bQ else t.rows)else if e.op=19 then(if(dP e.kids).bG=true then iE t (dS t (dP e.kids).n)else t.rows)
   else if e.op=21\/e.op=23 then fH (Ex.most ks t) t.rows e.kids else if e.op=24 then gy (Ex.most ks t) 0 e.kids else pM ks t e.op e.kids)=gy (Ex.most ks t) 0 e.kids:=by
   rw[if_neg h0,if_neg h2,if_neg h22,if_neg h20,if_neg h19,if_neg h21,if_pos h24]
  rw[hcond];clear hcond;generalize hM:gy (Ex.most ks t) 0 e.kids=M;replace hM:=Hd.mk hM;rw[h24]at he
  simp[aH,he];refine av (σ:=Nat) (fun i en s=>en 2=.ptr 2 1 0/\en 103=.sl false (e.kids.map Ex.enc)/\en 104=i6 e.kids.length/\en 105=i6 i/\(∃a,en 5=i6 a/\Hd (gy (Ex.most ks t) a (e.kids.drop i)=M))/\(∃q,s 2=⟨1,true,some (.box (aH ks t)),q⟩)/\i<=e.kids.length) (fun i=>e.kids.length-i) ?_ 0 _ _
   ⟨by simp,by simp,by simp,by simp,⟨0,by simp,⟨by rw[List.drop_zero];exact hM.out⟩⟩,⟨_,by simp[aH];rfl⟩,by omega⟩
  rintro i en s ⟨h2,h103,h104,h105,⟨a,h5,hA⟩,⟨q,s2⟩,hi⟩ ih;simp[h2,h103,h104,h105,h5,s2];refine aj (fun h=>?_) (fun h=>?_)<;>(have h':=h;try simp at h')<;>(try simp[*])
  ·have hc:=hk e.kids[i] (List.getElem_mem h');have hke:=e.kids[i].aB;have hp:=sS a (e.kids[i].most ks t);rw[aH,hke]at hc
   replace hA:=Hd.mk ((tK h').symm.trans hA.out);simp only[hke];simp[aH,hc,hp,h2,h103,h104,h105,h5,s2];refine ih.out (i+1) _ _ ?_ (by omega);exact⟨by simp[h2],by simp[h103],by simp[h104],by simp[ai h' hlen],⟨_,by simp,hA⟩,⟨q,by simp[s2,aH]⟩,h'⟩
  ·have:=hA.out;rw[wo (by omega)]at this
   subst this;simp[aH,h2,h5,s2]
 have cm:=oQ ks t ht e h;rw[aH,he]at cm
 simp[aH,he,h0,h2,h22,h20,h19,h21',h23',h24,cm]
end Go.Proofs.YtbmkfjmlepjpfaaGreatDoor
