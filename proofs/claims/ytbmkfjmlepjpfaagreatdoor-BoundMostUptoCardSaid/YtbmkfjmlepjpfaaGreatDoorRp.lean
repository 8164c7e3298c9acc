/- A part of the proof. -/
import Derived.Test.YtbmkfjmlepjpfaaGreatDoorEa
set_option linter.all false
set_option maxRecDepth 100000
namespace Go.Proofs.YtbmkfjmlepjpfaaGreatDoor
open Go.RowKit
theorem yD(op:Int):call T Kh [u8 op]=some (.v (.bool (decide (op<=29)&&(!decide (op=1)&&!decide (op=3))))):=by
 refine q131g (by simp) ?_;by_cases h:op<=29
 ·by_cases h1:op=1
  ·simp[h1]
  ·by_cases h3:op=3
   ·simp[h3]
   ·simp[h,h1,h3]
 ·simp[h]
theorem F3{op:Int}:dZ op=(decide (op=27)||(decide (op=28)||decide (op=29))):=by
 by_cases h:op=27\/op=28\/op=29
 ·rcases h with rfl|rfl|rfl<;>rfl
 ·have h1:¬op=27:=fun q=>h (.inl q);have h2:¬op=28:=fun q=>h (.inr (.inl q));have h3:¬op=29:=fun q=>h (.inr (.inr q));simp only[dZ,h1,h2,h3,decide_false,Bool.or_false,Bool.and_eq_false_iff,decide_eq_false_iff_not];omega
theorem yB(op:Int):call T BH [u8 op]=some (.v (.bool (dZ op))):=by
 refine q127g (by simp) ?_;rw[F3];by_cases h1:op=27
 ·simp[h1]
 ·by_cases h2:op=28
  ·simp[h2]
  ·simp[h1,h2]
theorem dN(n:Int):call T pV [i6 n]=some (.v (.bool (aZ n))):=by
 refine q145g (by simp) ?_;by_cases h:0<=n
 ·simp[aZ,h]
 ·simp[aZ,h]
theorem yC(op:Int)(h:0<=op):call T Kg [u8 op]=some (i6 (aN op:Nat)):=by
 refine q129g (by simp) ?_;by_cases h0:op=0
 ·simp[h0,aN]
 by_cases h1:op=1
 ·simp[h1,aN]
 by_cases h2:op=2
 ·simp[h2,aN]
 by_cases h3:op=3
 ·simp[h3,aN]
 by_cases h10:op=10
 ·simp[h10,aN]
 by_cases h11:op=11
 ·simp[h11,aN]
 by_cases h12:op=12
 ·simp[h12,aN]
 by_cases h13:op=13
 ·simp[h13,aN]
 have e1:aN op=2:=by rw[aN,if_neg (by omega),if_neg (by omega)]
 simp[h0,h1,h2,h3,h10,h11,h12,h13,e1]
theorem uZ(op:Int):call T Kb [u8 op]=some (.v (.bool (decide (op=2)||(decide (4<=op)&&decide (op<=8))))):=by
 refine q126g (by simp) ?_;by_cases h0:op=2
 ·simp[h0]
 ·by_cases h1:4<=op
  ·simp[h0,h1]
  ·simp[h0,h1]
theorem u_(op:Int):call T Ko [u8 op]=some (.v (.bool (decide (op=3)||decide (op=9)))):=by
 refine q143g (by simp) ?_;by_cases h0:op=3
 ·simp[h0]
 ·simp[h0]
set_option maxHeartbeats 4000000 in
theorem rf(e:Ex)(hs:e.uO):call T Kl [e.enc]=some (.v (.bool (eO e.op e.v e.up e.n e.kids.length e.sub.length))):=by
 refine q138g (by simp) ?_;have he:=e.aB;have cL:=yD e.op;have cS:=yB e.op;have cv:call T BF [.agg [.v (.int .u8 e.vk),.v (.int .i64 e.vi),.v (.string e.vs)]]=some (.v (.bool e.v.valid)):=jY e.v;have cz:call T Fs [.agg [.v (.int .u8 e.vk),.v (.int .i64 e.vi),.v (.string e.vs)],.agg [.v (.int .u8 0),.v (.int .i64 0),.v (.string ⟨#[]⟩)]]=some (.v (.bool e.v.isZero)):=by
  have h:e.v.same ⟨0,0,⟨#[]⟩⟩=e.v.isZero:=by simp only[Val.same,Val.isZero,toList_eq,Bool.and_assoc]
  have:=qE e.v ⟨0,0,⟨#[]⟩⟩;rw[h]at this
  exact this
 have cu:=dN e.up;have cn:=dN e.n;unfold eO;generalize (decide (e.op<=29)&&(!decide (e.op=1)&&!decide (e.op=3)))=L at cL ⊢;cases L
 ·simp[he,cL]
 by_cases h0:e.op=0
 ·rw[h0]at he cL cS
  generalize e.v.valid=b at cv ⊢;cases b
  ·simp[he,cL,cv,h0]
  by_cases u:e.up=0
  ·by_cases n:e.n=0
   ·by_cases s:(e.sub.length:Int)=0
    ·have s':e.sub=[]:=by simpa using s
     simp[he,cL,cv,h0,u,n,s,s',cS,dZ]
    ·have s':¬e.sub=[]:=by simpa using s
     simp[he,cL,cv,h0,u,n,s,s',cS,dZ]
   ·simp[he,cL,cv,h0,u,n]
  ·simp[he,cL,cv,h0,u]
 generalize e.v.isZero=z at cz ⊢;cases z
 ·simp[he,cL,cz,h0]
 by_cases h2:e.op=2
 ·rw[h2]at he cL cS
  generalize aZ e.up=b1 at cu ⊢;generalize aZ e.n=b2 at cn ⊢;cases b1
  ·simp[he,cL,cz,cu,h2]
  cases b2
  ·simp[he,cL,cz,cu,cn,h2]
  by_cases s:(e.sub.length:Int)=0
  ·have s':e.sub=[]:=by simpa using s
   simp[he,cL,cz,cu,cn,h2,s,s',cS,dZ]
  ·have s':¬e.sub=[]:=by simpa using s
   simp[he,cL,cz,cu,cn,h2,s,s',cS,dZ]
 by_cases u:e.up=0
 case neg=>simp[he,cL,cz,h0,h2,u]
 by_cases n:e.n=0
 case neg=>simp[he,cL,cz,h0,h2,u,n]
 generalize hso:dZ e.op=so at cS ⊢;cases so
 ·by_cases s:(e.sub.length:Int)=0
  ·have s':e.sub=[]:=by simpa using s
   have h28:¬e.op=28:=fun h=>by rw[h]at hso;cases hso
   simp[he,cL,cz,h0,h2,u,n,cS,s,s',h28]
  ·have s':¬e.sub=[]:=by simpa using s
   simp[he,cL,cz,h0,h2,u,n,cS,s,s']
 ·by_cases s:(e.sub.length:Int)=1
  ·have s':e.sub.length=1:=by omega
   by_cases h28:e.op=28
   ·rw[h28]at he cL cS
    by_cases k:(e.kids.length:Int)=1
    ·have k':e.kids.length=1:=by omega
     simp[he,cL,cz,u,n,cS,s,s',h28,k,k']
    ·have k':¬e.kids.length=1:=by omega
     simp[he,cL,cz,u,n,cS,s,s',h28,k,k']
   ·by_cases k:(e.kids.length:Int)=0
    ·have k':e.kids=[]:=by simpa using k
     simp[he,cL,cz,h0,h2,u,n,cS,s,s',h28,k,k']
    ·have k':¬e.kids=[]:=by simpa using k
     simp[he,cL,cz,h0,h2,u,n,cS,s,s',h28,k,k']
  ·have s':¬e.sub.length=1:=by omega
   simp[he,cL,cz,h0,h2,u,n,cS,s,s']
theorem IV(p:Pn)(k:List It)(en:Env)(s:ay)(q:Nat)(Q:Env->ay->Prop)(h1:en 1=.ptr 1 1 0)(hs:s 1=⟨1,true,some (.box (.agg [.v (.int .u8 p.op),i6 p.table,.sl false (p.kinds.map u8),.sl false (p.rows.map oJ),.sl false (p.conds.map Ex.enc),.sl false (p.exprs.map Ex.enc),.sl false (p.ah.map i6),.sl false (p.ax.map Ag.enc),.sl false (p.keys.map Ky.enc),i6 p.fr,i6 p.ct,.sl false (p.kids.map Pn.enc)])),q⟩)
 (h:∀en':Env,(∀j,j<10->¬j=3->en' j=en j)->en' 3=.v (.bool (decide (p.op=0)||(decide (p.kinds.length=0)&&decide (p.rows.length=0))))->wp T k en' s Q):wp T (.ops HY::k) en s Q:=by
 by_cases t0:p.op=0
 ·simp[h1,hs,t0];exact h _ (fun j a b=>by simp[show ∀m,10<=m->¬j=m by omega,b]) (by simp[h1,hs,t0])
 ·by_cases t5:p.kinds=[]
  ·by_cases t10:p.rows=[]
   ·simp[h1,hs,t0,t5,t10];exact h _ (fun j a b=>by simp[show ∀m,10<=m->¬j=m by omega,b]) (by simp[h1,hs,t0,t5,t10])
   ·simp[h1,hs,t0,t5,t10];exact h _ (fun j a b=>by simp[show ∀m,10<=m->¬j=m by omega,b]) (by simp[h1,hs,t0,t5,t10])
  ·simp[h1,hs,t0,t5];exact h _ (fun j a b=>by simp[show ∀m,10<=m->¬j=m by omega,b]) (by simp[h1,hs,t0,t5])
theorem IW(p:Pn)(k:List It)(en:Env)(s:ay)(q:Nat)(Q:Env->ay->Prop)(h1:en 1=.ptr 1 1 0)(hs:s 1=⟨1,true,some (.box (.agg [.v (.int .u8 p.op),i6 p.table,.sl false (p.kinds.map u8),.sl false (p.rows.map oJ),.sl false (p.conds.map Ex.enc),.sl false (p.exprs.map Ex.enc),.sl false (p.ah.map i6),.sl false (p.ax.map Ag.enc),.sl false (p.keys.map Ky.enc),i6 p.fr,i6 p.ct,.sl false (p.kids.map Pn.enc)])),q⟩)
 (h:∀en':Env,(∀j,j<10->¬j=4->en' j=en j)->en' 4=.v (.bool (decide (p.op=1)||decide (p.table=0)))->wp T k en' s Q):wp T (.ops P5::k) en s Q:=by
 by_cases t1:p.op=1
 ·simp[h1,hs,t1];exact h _ (fun j a b=>by simp[show ∀m,10<=m->¬j=m by omega,b]) (by simp[h1,hs,t1])
 ·by_cases t6:p.table=0
  ·simp[h1,hs,t1,t6];exact h _ (fun j a b=>by simp[show ∀m,10<=m->¬j=m by omega,b]) (by simp[h1,hs,t1,t6])
  ·simp[h1,hs,t1,t6];exact h _ (fun j a b=>by simp[show ∀m,10<=m->¬j=m by omega,b]) (by simp[h1,hs,t1,t6])
theorem IX(p:Pn)(k:List It)(en:Env)(s:ay)(q:Nat)(Q:Env->ay->Prop)(h1:en 1=.ptr 1 1 0)(hs:s 1=⟨1,true,some (.box (.agg [.v (.int .u8 p.op),i6 p.table,.sl false (p.kinds.map u8),.sl false (p.rows.map oJ),.sl false (p.conds.map Ex.enc),.sl false (p.exprs.map Ex.enc),.sl false (p.ah.map i6),.sl false (p.ax.map Ag.enc),.sl false (p.keys.map Ky.enc),i6 p.fr,i6 p.ct,.sl false (p.kids.map Pn.enc)])),q⟩)
 (h:∀en':Env,(∀j,j<10->¬j=5->en' j=en j)->en' 5=.v (.bool ((decide (p.op=2)||(decide (4<=p.op)&&decide (p.op<=8)))||decide (p.conds.length=0)))->wp T k en' s Q):wp T (.ops P6::k) en s Q:=by
 have c1:=uZ p.op;generalize (decide (p.op=2)||(decide (4<=p.op)&&decide (p.op<=8)))=C at c1 h;cases C
 ·by_cases t2:p.conds=[]
  ·simp[h1,hs,c1,t2];exact h _ (fun j a b=>by simp[show ∀m,10<=m->¬j=m by omega,b]) (by simp[h1,hs,c1,t2])
  ·simp[h1,hs,c1,t2];exact h _ (fun j a b=>by simp[show ∀m,10<=m->¬j=m by omega,b]) (by simp[h1,hs,c1,t2])
 ·simp[h1,hs,c1];exact h _ (fun j a b=>by simp[show ∀m,10<=m->¬j=m by omega,b]) (by simp[h1,hs,c1])
theorem IY(p:Pn)(k:List It)(en:Env)(s:ay)(q:Nat)(Q:Env->ay->Prop)(h1:en 1=.ptr 1 1 0)(hs:s 1=⟨1,true,some (.box (.agg [.v (.int .u8 p.op),i6 p.table,.sl false (p.kinds.map u8),.sl false (p.rows.map oJ),.sl false (p.conds.map Ex.enc),.sl false (p.exprs.map Ex.enc),.sl false (p.ah.map i6),.sl false (p.ax.map Ag.enc),.sl false (p.keys.map Ky.enc),i6 p.fr,i6 p.ct,.sl false (p.kids.map Pn.enc)])),q⟩)
 (h:∀en':Env,(∀j,j<10->¬j=6->en' j=en j)->en' 6=.v (.bool ((decide (p.op=3)||decide (p.op=9))||decide (p.exprs.length=0)))->wp T k en' s Q):wp T (.ops P7::k) en s Q:=by
 have c1:=u_ p.op;generalize (decide (p.op=3)||decide (p.op=9))=C at c1 h;cases C
 ·by_cases t2:p.exprs=[]
  ·simp[h1,hs,c1,t2];exact h _ (fun j a b=>by simp[show ∀m,10<=m->¬j=m by omega,b]) (by simp[h1,hs,c1,t2])
  ·simp[h1,hs,c1,t2];exact h _ (fun j a b=>by simp[show ∀m,10<=m->¬j=m by omega,b]) (by simp[h1,hs,c1,t2])
 ·simp[h1,hs,c1];exact h _ (fun j a b=>by simp[show ∀m,10<=m->¬j=m by omega,b]) (by simp[h1,hs,c1])
theorem IZ(p:Pn)(k:List It)(en:Env)(s:ay)(q:Nat)(Q:Env->ay->Prop)(h1:en 1=.ptr 1 1 0)(hs:s 1=⟨1,true,some (.box (.agg [.v (.int .u8 p.op),i6 p.table,.sl false (p.kinds.map u8),.sl false (p.rows.map oJ),.sl false (p.conds.map Ex.enc),.sl false (p.exprs.map Ex.enc),.sl false (p.ah.map i6),.sl false (p.ax.map Ag.enc),.sl false (p.keys.map Ky.enc),i6 p.fr,i6 p.ct,.sl false (p.kids.map Pn.enc)])),q⟩)
 (h:∀en':Env,(∀j,j<10->¬j=7->en' j=en j)->en' 7=.v (.bool (decide (p.op=10)||(decide (p.ah.length=0)&&decide (p.ax.length=0))))->wp T k en' s Q):wp T (.ops P8::k) en s Q:=by
 by_cases t0:p.op=10
 ·simp[h1,hs,t0];exact h _ (fun j a b=>by simp[show ∀m,10<=m->¬j=m by omega,b]) (by simp[h1,hs,t0])
 ·by_cases t5:p.ah=[]
  ·by_cases t10:p.ax=[]
   ·simp[h1,hs,t0,t5,t10];exact h _ (fun j a b=>by simp[show ∀m,10<=m->¬j=m by omega,b]) (by simp[h1,hs,t0,t5,t10])
   ·simp[h1,hs,t0,t5,t10];exact h _ (fun j a b=>by simp[show ∀m,10<=m->¬j=m by omega,b]) (by simp[h1,hs,t0,t5,t10])
  ·simp[h1,hs,t0,t5];exact h _ (fun j a b=>by simp[show ∀m,10<=m->¬j=m by omega,b]) (by simp[h1,hs,t0,t5])
theorem I4(p:Pn)(k:List It)(en:Env)(s:ay)(q:Nat)(Q:Env->ay->Prop)(h1:en 1=.ptr 1 1 0)(hs:s 1=⟨1,true,some (.box (.agg [.v (.int .u8 p.op),i6 p.table,.sl false (p.kinds.map u8),.sl false (p.rows.map oJ),.sl false (p.conds.map Ex.enc),.sl false (p.exprs.map Ex.enc),.sl false (p.ah.map i6),.sl false (p.ax.map Ag.enc),.sl false (p.keys.map Ky.enc),i6 p.fr,i6 p.ct,.sl false (p.kids.map Pn.enc)])),q⟩)
 (h:∀en':Env,(∀j,j<10->¬j=8->en' j=en j)->en' 8=.v (.bool (decide (p.op=12)||(decide (p.op=13)||decide (p.keys.length=0))))->wp T k en' s Q):wp T (.ops P9::k) en s Q:=by
 by_cases t0:p.op=12
 ·simp[h1,hs,t0];exact h _ (fun j a b=>by simp[show ∀m,10<=m->¬j=m by omega,b]) (by simp[h1,hs,t0])
 ·by_cases t5:p.op=13
  ·simp[h1,hs,t0,t5];exact h _ (fun j a b=>by simp[show ∀m,10<=m->¬j=m by omega,b]) (by simp[h1,hs,t0,t5])
  ·by_cases t10:p.keys=[]
   ·simp[h1,hs,t0,t5,t10];exact h _ (fun j a b=>by simp[show ∀m,10<=m->¬j=m by omega,b]) (by simp[h1,hs,t0,t5,t10])
   ·simp[h1,hs,t0,t5,t10];exact h _ (fun j a b=>by simp[show ∀m,10<=m->¬j=m by omega,b]) (by simp[h1,hs,t0,t5,t10])
theorem I5(p:Pn)(k:List It)(en:Env)(s:ay)(q:Nat)(Q:Env->ay->Prop)(h1:en 1=.ptr 1 1 0)(hs:s 1=⟨1,true,some (.box (.agg [.v (.int .u8 p.op),i6 p.table,.sl false (p.kinds.map u8),.sl false (p.rows.map oJ),.sl false (p.conds.map Ex.enc),.sl false (p.exprs.map Ex.enc),.sl false (p.ah.map i6),.sl false (p.ax.map Ag.enc),.sl false (p.keys.map Ky.enc),i6 p.fr,i6 p.ct,.sl false (p.kids.map Pn.enc)])),q⟩)
 (h:∀en':Env,(∀j,j<10->¬j=9->en' j=en j)->en' 9=.v (.bool (decide (p.op=13)||(decide (p.fr=0)&&decide (p.ct=0))))->wp T k en' s Q):wp T (.ops P_::k) en s Q:=by
 by_cases t0:p.op=13
 ·simp[h1,hs,t0];exact h _ (fun j a b=>by simp[show ∀m,10<=m->¬j=m by omega,b]) (by simp[h1,hs,t0])
 ·by_cases t5:p.fr=0
  ·by_cases t10:p.ct=0
   ·simp[h1,hs,t0,t5,t10];exact h _ (fun j a b=>by simp[show ∀m,10<=m->¬j=m by omega,b]) (by simp[h1,hs,t0,t5,t10])
   ·simp[h1,hs,t0,t5,t10];exact h _ (fun j a b=>by simp[show ∀m,10<=m->¬j=m by omega,b]) (by simp[h1,hs,t0,t5,t10])
  ·simp[h1,hs,t0,t5];exact h _ (fun j a b=>by simp[show ∀m,10<=m->¬j=m by omega,b]) (by simp[h1,hs,t0,t5])
theorem Ao(p:Pn):call T Ki [p.enc]=some (.v (.bool (jk p))):=by
 refine q135g (by simp) ?_;rw[p.aB];simp only[wp_seq,wp_ops];generalize hK:It.code (IC.seq (.ops HY) _)=K;simp;subst hK;simp only[wp_seq,wp_ops];refine IV p _ _ _ 1 _ (by simp) (by simp) ?_;intro e1 f1 g1;have h1:e1 1=.ptr 1 1 0:=by rw[f1 1 (by decide) (by decide)];simp
 clear f1;simp only[wp_seq,wp_ops];refine IW p _ _ _ 1 _ (by simp[*]) (by simp) ?_;intro e2 f2 g2;have k1:=f2 1 (by decide) (by decide);have m1:=f2 3 (by decide) (by decide);rw[g1]at m1
 replace g1:=m1;clear m1;rw[h1]at k1
 replace h1:=k1;clear k1;clear f2;simp only[wp_seq,wp_ops];refine IX p _ _ _ 1 _ (by simp[*]) (by simp) ?_;intro e3 f3 g3;have k1:=f3 1 (by decide) (by decide);have m1:=f3 3 (by decide) (by decide);rw[g1]at m1
 replace g1:=m1;clear m1;have m2:=f3 4 (by decide) (by decide);rw[g2]at m2
 replace g2:=m2;clear m2;rw[h1]at k1
 replace h1:=k1;clear k1;clear f3;simp only[wp_seq,wp_ops];refine IY p _ _ _ 1 _ (by simp[*]) (by simp) ?_;intro e4 f4 g4;have k1:=f4 1 (by decide) (by decide);have m1:=f4 3 (by decide) (by decide);rw[g1]at m1
 replace g1:=m1;clear m1;have m2:=f4 4 (by decide) (by decide);rw[g2]at m2
 replace g2:=m2;clear m2;have m3:=f4 5 (by decide) (by decide);rw[g3]at m3
 replace g3:=m3;clear m3;rw[h1]at k1
 replace h1:=k1;clear k1;clear f4;simp only[wp_seq,wp_ops];refine IZ p _ _ _ 1 _ (by simp[*]) (by simp) ?_;intro e5 f5 g5;have k1:=f5 1 (by decide) (by decide);have m1:=f5 3 (by decide) (by decide);rw[g1]at m1
 replace g1:=m1;clear m1;have m2:=f5 4 (by decide) (by decide);rw[g2]at m2
 replace g2:=m2;clear m2;have m3:=f5 5 (by decide) (by decide);rw[g3]at m3
 replace g3:=m3;clear m3;have m4:=f5 6 (by decide) (by decide);rw[g4]at m4
 replace g4:=m4;clear m4;rw[h1]at k1
 replace h1:=k1;clear k1;clear f5;simp only[wp_seq,wp_ops];refine I4 p _ _ _ 1 _ (by simp[*]) (by simp) ?_;intro e6 f6 g6;have k1:=f6 1 (by decide) (by decide);have m1:=f6 3 (by decide) (by decide);rw[g1]at m1
 replace g1:=m1;clear m1;have m2:=f6 4 (by decide) (by decide);rw[g2]at m2
 replace g2:=m2;clear m2;have m3:=f6 5 (by decide) (by decide);rw[g3]at m3
 replace g3:=m3;clear m3;have m4:=f6 6 (by decide) (by decide);rw[g4]at m4
 replace g4:=m4;clear m4;have m5:=f6 7 (by decide) (by decide);rw[g5]at m5
 replace g5:=m5;clear m5;rw[h1]at k1
 replace h1:=k1;clear k1;clear f6;simp only[wp_seq,wp_ops];refine I5 p _ _ _ 1 _ (by simp[*]) (by simp) ?_;intro e7 f7 g7;have k1:=f7 1 (by decide) (by decide);have m1:=f7 3 (by decide) (by decide);rw[g1]at m1
 replace g1:=m1;clear m1;have m2:=f7 4 (by decide) (by decide);rw[g2]at m2
 replace g2:=m2;clear m2;have m3:=f7 5 (by decide) (by decide);rw[g3]at m3
 replace g3:=m3;clear m3;have m4:=f7 6 (by decide) (by decide);rw[g4]at m4
 replace g4:=m4;clear m4;have m5:=f7 7 (by decide) (by decide);rw[g5]at m5
 replace g5:=m5;clear m5;have m6:=f7 8 (by decide) (by decide);rw[g6]at m6
 replace g6:=m6;clear m6;rw[h1]at k1
 replace h1:=k1;clear k1;clear f7;simp only[wp_seq,wp_ops];unfold jk;have hC':∀b,(decide (p.op=2)||((decide (4<=p.op)&&decide (p.op<=8))||b))=((decide (p.op=2)||(decide (4<=p.op)&&decide (p.op<=8)))||b):=fun b=>by rw[Bool.or_assoc]
 have hE':∀b,(decide (p.op=3)||(decide (p.op=9)||b))=((decide (p.op=3)||decide (p.op=9))||b):=fun b=>by rw[Bool.or_assoc]
 rw[hC',hE'];clear hC' hE';generalize (decide (p.op=0)||(decide (p.kinds.length=0)&&decide (p.rows.length=0)))=b1 at g1 ⊢;generalize (decide (p.op=1)||decide (p.table=0))=b2 at g2 ⊢;generalize ((decide (p.op=2)||(decide (4<=p.op)&&decide (p.op<=8)))||decide (p.conds.length=0))=b3 at g3 ⊢;generalize ((decide (p.op=3)||decide (p.op=9))||decide (p.exprs.length=0))=b4 at g4 ⊢;generalize (decide (p.op=10)||(decide (p.ah.length=0)&&decide (p.ax.length=0)))=b5 at g5 ⊢;generalize (decide (p.op=12)||(decide (p.op=13)||decide (p.keys.length=0)))=b6 at g6 ⊢;generalize (decide (p.op=13)||(decide (p.fr=0)&&decide (p.ct=0)))=b7 at g7 ⊢;cases b1
 ·simp[g1,g2,g3,g4,g5,g6,g7]
 cases b2
 ·simp[g1,g2,g3,g4,g5,g6,g7]
 cases b3
 ·simp[g1,g2,g3,g4,g5,g6,g7]
 cases b4
 ·simp[g1,g2,g3,g4,g5,g6,g7]
 cases b5
 ·simp[g1,g2,g3,g4,g5,g6,g7]
 cases b6
 ·simp[g1,g2,g3,g4,g5,g6,g7]
 cases b7
 ·simp[g1,g2,g3,g4,g5,g6,g7]
 simp[g1,g2,g3,g4,g5,g6,g7]
def pI(k:Ky):Bool:=aZ k.col
theorem dU{α:Type}{p:α->Bool}{l:List α}{i:Nat}(h':i<l.length)(hA:∀j (hj:j<i) (h:j<l.length),p l[j]=true)(g:p l[i]=true):∀j (hj:j<i+1) (h:j<l.length),p l[j]=true:=fun j hj h=>by
 rcases Nat.lt_or_eq_of_le (Nat.le_of_lt_succ hj)with h2|h2
 ·exact hA j h2 h
 ·subst h2;exact g
set_option maxHeartbeats 1000000 in
theorem oH(x:Pn)(hs:x.je):call T Km [x.enc]=some (.v (.bool (jN x))):=by
 refine q139g (by simp) ?_;have he:=x.aB;have hlcols:x.ah.length<=9223372036854775807:=gJ hs.ah (by decide);have hlaggs:x.ax.length<=9223372036854775807:=gJ hs.ax (by decide);have hlkeys:x.keys.length<=9223372036854775807:=gJ hs.keys (by decide);have t1:=dN x.table;have t2:=dN x.fr;have t3:=dN x.ct;have hB:jN x=((aZ x.table&&(aZ x.fr&&aZ x.ct))&&(x.ah.all aZ&&(x.ax.all jB&&x.keys.all pI))):=rfl;generalize jN x=B at hB ⊢;replace hB:=Hd.mk hB;have loop3:∀(en:Env) (s:ay) (q:Nat),B=x.keys.all pI->en 1=.ptr 1 1 0->en 6=i6 (0:Nat)->s 1=⟨1,true,some (.box x.enc),q⟩->
  wp T [It.lp rV,It.bl 4,It.code ((IC.ops nU).seq IC.ret)] en s (fun e' s'=>aC e' s' [fI.tmp 2]=some (.v (.bool B))):=by
  intro en s q hR e1 e4 s1;replace hR:=Hd.mk hR;refine av (σ:=Nat) (fun i en s=>en 1=.ptr 1 1 0/\en 6=i6 i/\(∃q,s 1=⟨1,true,some (.box x.enc),q⟩)/\i<=x.keys.length/\Hd (∀j (hj:j<i) (h:j<x.keys.length),pI x.keys[j]=true)) (fun i=>x.keys.length-i) ?_ 0 _ _
   ⟨e1,e4,⟨q,s1⟩,by omega,⟨fun _ h=>by omega⟩⟩
  rintro i en s ⟨e1,e4,⟨q,s1⟩,hi,hA⟩ ih;have s1':=s1;rw[he]at s1
  simp[e1,e4,s1];refine aj (fun h=>?_) (fun h=>?_)<;>(have h':=h;try simp at h')<;>(try simp[*])
  ·have hf:Hd (pI x.keys[i]=false->B=false):=⟨fun g=>by rw[hR.out,bT h' g]⟩
   have hg:Hd (pI x.keys[i]=true->∀j (hj:j<i+1) (h:j<x.keys.length),pI x.keys[j]=true):=⟨fun g=>dU h' hA.out g⟩
   have next:∀en' s' q',pI x.keys[i]=true->en' 1=.ptr 1 1 0->en' 6=i6 ((i+1:Nat):Int)->s' 1=⟨1,true,some (.box x.enc),q'⟩->wp T [It.lp rV,It.bl 4,It.code ((IC.ops nU).seq IC.ret)] en' s' (fun e' s'=>aC e' s' [fI.tmp 2]=some (.v (.bool B))):=fun en' s' q' g a b c=>
    ih.out (i+1) en' s' ⟨a,b,⟨q',c⟩,h',⟨hg.out g⟩⟩ (by omega)
   replace next:=Hd.mk next
   clear ih;have hc:=dN x.keys[i].col;have hv:pI x.keys[i]=aZ x.keys[i].col:=rfl;rw[hv]at hf hg next
   generalize aZ x.keys[i].col=b at hc hf hg next ⊢
   try simp[hc,e1,e4,s1]
   cases b
   ·simp[hf.out rfl]
   ·simp[e1,e4,s1];exact next.out _ _ q rfl (by simp[e1]) (by simp[ai h' hlkeys]) (by simp[s1',s1,he])
  ·have hn:x.keys.all pI=true:=bg (fun j hj=>hA.out j (by omega) hj);have hR':=hR.out;rw[hn]at hR'
   simp[hR']
 have loop2:∀(en:Env) (s:ay) (q:Nat),B=(x.ax.all jB&&x.keys.all pI)->en 1=.ptr 1 1 0->en 4=i6 (0:Nat)->s 1=⟨1,true,some (.box x.enc),q⟩->
  wp T [It.lp zy,It.bl 2,It.code (((IC.ops uy).seq (IC.block 4 (IC.loop rV))).seq ((IC.ops nU).seq IC.ret))] en s (fun e' s'=>aC e' s' [fI.tmp 2]=some (.v (.bool B))):=by
  intro en s q hR e1 e4 s1;replace hR:=Hd.mk hR;refine av (σ:=Nat) (fun i en s=>en 1=.ptr 1 1 0/\en 4=i6 i/\(∃q,s 1=⟨1,true,some (.box x.enc),q⟩)/\i<=x.ax.length/\Hd (∀j (hj:j<i) (h:j<x.ax.length),jB x.ax[j]=true)) (fun i=>x.ax.length-i) ?_ 0 _ _
   ⟨e1,e4,⟨q,s1⟩,by omega,⟨fun _ h=>by omega⟩⟩
  rintro i en s ⟨e1,e4,⟨q,s1⟩,hi,hA⟩ ih;have s1':=s1;rw[he]at s1
  simp[e1,e4,s1];refine aj (fun h=>?_) (fun h=>?_)<;>(have h':=h;try simp at h')<;>(try simp[*])
  ·have hf:Hd (jB x.ax[i]=false->B=false):=⟨fun g=>by rw[hR.out,bT h' g];rfl⟩
   have hg:Hd (jB x.ax[i]=true->∀j (hj:j<i+1) (h:j<x.ax.length),jB x.ax[j]=true):=⟨fun g=>dU h' hA.out g⟩
   have next:∀en' s' q',jB x.ax[i]=true->en' 1=.ptr 1 1 0->en' 4=i6 ((i+1:Nat):Int)->s' 1=⟨1,true,some (.box x.enc),q'⟩->wp T [It.lp zy,It.bl 2,It.code (((IC.ops uy).seq (IC.block 4 (IC.loop rV))).seq ((IC.ops nU).seq IC.ret))] en' s' (fun e' s'=>aC e' s' [fI.tmp 2]=some (.v (.bool B))):=fun en' s' q' g a b c=>
    ih.out (i+1) en' s' ⟨a,b,⟨q',c⟩,h',⟨hg.out g⟩⟩ (by omega)
   replace next:=Hd.mk next
   clear ih;have hc:=dN x.ax[i].col;have hv:jB x.ax[i]=(decide (x.ax[i].fn<=5)&&(aZ x.ax[i].col&&(!decide (x.ax[i].fn=0)||(decide (x.ax[i].col=0)&&!x.ax[i].ZU)))):=rfl;generalize jB x.ax[i]=v at hv hf hg next ⊢
   generalize aZ x.ax[i].col=b at hc hv ⊢;generalize x.ax[i].ZU=d at hv ⊢;have bad:v=false->B=false:=hf.out;by_cases k1:x.ax[i].fn<=5
   ·have k1':¬5<x.ax[i].fn:=by omega
    cases b
    ·simp at hv;simp[hc,k1',e1,e4,s1,bad hv]
    ·by_cases k2:x.ax[i].fn=0
     ·by_cases k3:x.ax[i].col=0
      ·rw[k3]at hc
       cases d
       ·simp[k1,k2,k3]at hv
        simp[hc,k2,k3,e1,e4,s1];exact next.out _ _ q hv (by simp[e1]) (by simp[ai h' hlaggs]) (by simp[s1',s1,he])
       ·simp[k1,k2,k3]at hv
        simp[hc,k2,k3,e1,e4,s1,bad hv]
      ·simp[k1,k2,k3]at hv
       simp[hc,k2,k3,e1,e4,s1,bad hv]
     ·simp[k1,k2]at hv
      simp[hc,k1',k2,e1,e4,s1];exact next.out _ _ q hv (by simp[e1]) (by simp[ai h' hlaggs]) (by simp[s1',s1,he])
   ·have k1':5<x.ax[i].fn:=by omega
    simp[k1]at hv
    simp[k1',e1,e4,s1,bad hv]
  ·have hn:x.ax.all jB=true:=bg (fun j hj=>hA.out j (by omega) hj);have hR':=hR.out;rw[hn,Bool.true_and]at hR'
   exact loop3 _ _ q hR' (by simp[e1]) (by simp) (by simp[s1',s1,he])
 have loop1:∀(en:Env) (s:ay) (q:Nat),B=(x.ah.all aZ&&(x.ax.all jB&&x.keys.all pI))->en 1=.ptr 1 1 0->en 3=i6 (0:Nat)->s 1=⟨1,true,some (.box x.enc),q⟩->
  wp T [It.lp HZ,It.bl 0,It.code (((IC.ops H6).seq (IC.block 2 (IC.loop zy))).seq (((IC.ops uy).seq (IC.block 4 (IC.loop rV))).seq ((IC.ops nU).seq IC.ret)))] en s (fun e' s'=>aC e' s' [fI.tmp 2]=some (.v (.bool B))):=by
  intro en s q hR e1 e4 s1;replace hR:=Hd.mk hR;refine av (σ:=Nat) (fun i en s=>en 1=.ptr 1 1 0/\en 3=i6 i/\(∃q,s 1=⟨1,true,some (.box x.enc),q⟩)/\i<=x.ah.length/\Hd (∀j (hj:j<i) (h:j<x.ah.length),aZ x.ah[j]=true)) (fun i=>x.ah.length-i) ?_ 0 _ _
   ⟨e1,e4,⟨q,s1⟩,by omega,⟨fun _ h=>by omega⟩⟩
  rintro i en s ⟨e1,e4,⟨q,s1⟩,hi,hA⟩ ih;have s1':=s1;rw[he]at s1
  simp[e1,e4,s1];refine aj (fun h=>?_) (fun h=>?_)<;>(have h':=h;try simp at h')<;>(try simp[*])
  ·have hf:Hd (aZ x.ah[i]=false->B=false):=⟨fun g=>by rw[hR.out,bT h' g];rfl⟩
   have hg:Hd (aZ x.ah[i]=true->∀j (hj:j<i+1) (h:j<x.ah.length),aZ x.ah[j]=true):=⟨fun g=>dU h' hA.out g⟩
   have next:∀en' s' q',aZ x.ah[i]=true->en' 1=.ptr 1 1 0->en' 3=i6 ((i+1:Nat):Int)->s' 1=⟨1,true,some (.box x.enc),q'⟩->wp T [It.lp HZ,It.bl 0,It.code (((IC.ops H6).seq (IC.block 2 (IC.loop zy))).seq (((IC.ops uy).seq (IC.block 4 (IC.loop rV))).seq ((IC.ops nU).seq IC.ret)))] en' s' (fun e' s'=>aC e' s' [fI.tmp 2]=some (.v (.bool B))):=fun en' s' q' g a b c=>
    ih.out (i+1) en' s' ⟨a,b,⟨q',c⟩,h',⟨hg.out g⟩⟩ (by omega)
   replace next:=Hd.mk next
   clear ih;have hc:=dN x.ah[i];generalize aZ x.ah[i]=b at hc hf hg next ⊢
   try simp[hc,e1,e4,s1]
   cases b
   ·simp[hf.out rfl]
   ·simp[e1,e4,s1];exact next.out _ _ q rfl (by simp[e1]) (by simp[ai h' hlcols]) (by simp[s1',s1,he])
  ·have hn:x.ah.all aZ=true:=bg (fun j hj=>hA.out j (by omega) hj);have hR':=hR.out;rw[hn,Bool.true_and]at hR'
   exact loop2 _ _ q hR' (by simp[e1]) (by simp) (by simp[s1',s1,he])
 replace hB:=hB.out;generalize aZ x.table=b1 at t1 hB;generalize aZ x.fr=b2 at t2 hB;generalize aZ x.ct=b3 at t3 hB;cases b1
 ·simp at hB;simp[he,t1,hB]
 cases b2
 ·simp at hB;simp[he,t1,t2,hB]
 cases b3
 ·simp at hB;simp[he,t1,t2,t3,hB]
 rw[Bool.true_and,Bool.true_and,Bool.true_and]at hB
 rw[he];simp[t1,t2,t3];exact loop1 _ _ 1 hB (by simp) (by simp) (by simp[he])
set_option maxHeartbeats 1000000 in
theorem Nc(x:Ex)(hs:x.uO)(hkkids:∀k∈x.kids,call T pU [k.enc]=some (.v (.bool k.formed)))(hksub:∀k∈x.sub,call T wK [k.enc]=some (.v (.bool k.formed))) :
 call T pU [x.enc]=some (.v (.bool x.formed)):=by
 refine q124g (by simp) ?_;have he:=x.aB;have hlkids:x.kids.length<=9223372036854775807:=gJ hs.kids (by decide);have hlsub:x.sub.length<=9223372036854775807:=gJ hs.sub (by decide);have t1:=rf x hs;have hB:=Ex.jJ x;generalize x.formed=B at hB ⊢;replace hB:=Hd.mk hB;have loop2:∀(en:Env) (s:ay) (q:Nat),B=x.sub.all Pn.formed->en 1=.ptr 1 1 0->en 4=i6 (0:Nat)->s 1=⟨1,true,some (.box x.enc),q⟩->
  wp T [It.lp zu,It.bl 2,It.code ((IC.ops uw).seq IC.ret)] en s (fun e' s'=>aC e' s' [fI.tmp 2]=some (.v (.bool B))):=by
  intro en s q hR e1 e4 s1;replace hR:=Hd.mk hR;refine av (σ:=Nat) (fun i en s=>en 1=.ptr 1 1 0/\en 4=i6 i/\(∃q,s 1=⟨1,true,some (.box x.enc),q⟩)/\i<=x.sub.length/\Hd (∀j (hj:j<i) (h:j<x.sub.length),Pn.formed x.sub[j]=true)) (fun i=>x.sub.length-i) ?_ 0 _ _
   ⟨e1,e4,⟨q,s1⟩,by omega,⟨fun _ h=>by omega⟩⟩
  rintro i en s ⟨e1,e4,⟨q,s1⟩,hi,hA⟩ ih;have s1':=s1;rw[he]at s1
  simp[e1,e4,s1];refine aj (fun h=>?_) (fun h=>?_)<;>(have h':=h;try simp at h')<;>(try simp[*])
  ·have hf:Hd (Pn.formed x.sub[i]=false->B=false):=⟨fun g=>by rw[hR.out,bT h' g]⟩
   have hg:Hd (Pn.formed x.sub[i]=true->∀j (hj:j<i+1) (h:j<x.sub.length),Pn.formed x.sub[j]=true):=⟨fun g=>dU h' hA.out g⟩
   have next:∀en' s' q',Pn.formed x.sub[i]=true->en' 1=.ptr 1 1 0->en' 4=i6 ((i+1:Nat):Int)->s' 1=⟨1,true,some (.box x.enc),q'⟩->wp T [It.lp zu,It.bl 2,It.code ((IC.ops uw).seq IC.ret)] en' s' (fun e' s'=>aC e' s' [fI.tmp 2]=some (.v (.bool B))):=fun en' s' q' g a b c=>
    ih.out (i+1) en' s' ⟨a,b,⟨q',c⟩,h',⟨hg.out g⟩⟩ (by omega)
   replace next:=Hd.mk next
   clear ih;have hc:=hksub x.sub[i] (List.getElem_mem h');have hke:=x.sub[i].aB;rw[hke]at hc
   simp only[hke];generalize Pn.formed x.sub[i]=b at hc hf hg next ⊢
   try simp[hc,e1,e4,s1]
   cases b
   ·simp[hf.out rfl]
   ·simp[e1,e4,s1];exact next.out _ _ q rfl (by simp[e1]) (by simp[ai h' hlsub]) (by simp[s1',s1,he])
  ·have hn:x.sub.all Pn.formed=true:=bg (fun j hj=>hA.out j (by omega) hj);have hR':=hR.out;rw[hn]at hR'
   simp[hR']
 have loop1:∀(en:Env) (s:ay) (q:Nat),B=(x.kids.all Ex.formed&&x.sub.all Pn.formed)->en 1=.ptr 1 1 0->en 3=i6 (0:Nat)->s 1=⟨1,true,some (.box x.enc),q⟩->
  wp T [It.lp Hw,It.bl 0,It.code (((IC.ops Hy).seq (IC.block 2 (IC.loop zu))).seq ((IC.ops uw).seq IC.ret))] en s (fun e' s'=>aC e' s' [fI.tmp 2]=some (.v (.bool B))):=by
  intro en s q hR e1 e4 s1;replace hR:=Hd.mk hR;refine av (σ:=Nat) (fun i en s=>en 1=.ptr 1 1 0/\en 3=i6 i/\(∃q,s 1=⟨1,true,some (.box x.enc),q⟩)/\i<=x.kids.length/\Hd (∀j (hj:j<i) (h:j<x.kids.length),Ex.formed x.kids[j]=true)) (fun i=>x.kids.length-i) ?_ 0 _ _
   ⟨e1,e4,⟨q,s1⟩,by omega,⟨fun _ h=>by omega⟩⟩
  rintro i en s ⟨e1,e4,⟨q,s1⟩,hi,hA⟩ ih;have s1':=s1;rw[he]at s1
  simp[e1,e4,s1];refine aj (fun h=>?_) (fun h=>?_)<;>(have h':=h;try simp at h')<;>(try simp[*])
  ·have hf:Hd (Ex.formed x.kids[i]=false->B=false):=⟨fun g=>by rw[hR.out,bT h' g];rfl⟩
   have hg:Hd (Ex.formed x.kids[i]=true->∀j (hj:j<i+1) (h:j<x.kids.length),Ex.formed x.kids[j]=true):=⟨fun g=>dU h' hA.out g⟩
   have next:∀en' s' q',Ex.formed x.kids[i]=true->en' 1=.ptr 1 1 0->en' 3=i6 ((i+1:Nat):Int)->s' 1=⟨1,true,some (.box x.enc),q'⟩->wp T [It.lp Hw,It.bl 0,It.code (((IC.ops Hy).seq (IC.block 2 (IC.loop zu))).seq ((IC.ops uw).seq IC.ret))] en' s' (fun e' s'=>aC e' s' [fI.tmp 2]=some (.v (.bool B))):=fun en' s' q' g a b c=>
    ih.out (i+1) en' s' ⟨a,b,⟨q',c⟩,h',⟨hg.out g⟩⟩ (by omega)
   replace next:=Hd.mk next
   clear ih;have hc:=hkkids x.kids[i] (List.getElem_mem h');have hke:=x.kids[i].aB;rw[hke]at hc
   simp only[hke];generalize Ex.formed x.kids[i]=b at hc hf hg next ⊢
   try simp[hc,e1,e4,s1]
   cases b
   ·simp[hf.out rfl]
   ·simp[e1,e4,s1];exact next.out _ _ q rfl (by simp[e1]) (by simp[ai h' hlkids]) (by simp[s1',s1,he])
  ·have hn:x.kids.all Ex.formed=true:=bg (fun j hj=>hA.out j (by omega) hj);have hR':=hR.out;rw[hn,Bool.true_and]at hR'
   exact loop2 _ _ q hR' (by simp[e1]) (by simp) (by simp[s1',s1,he])
 replace hB:=hB.out;generalize eO x.op x.v x.up x.n x.kids.length x.sub.length=b1 at t1 hB;rw[he]at t1
 cases b1
 ·simp at hB;simp[he,t1,hB]
 rw[Bool.true_and]at hB
 rw[he];simp[t1];exact loop1 _ _ 1 hB (by simp) (by simp) (by simp[he])
set_option maxHeartbeats 1000000 in
theorem Nf(x:Pn)(hs:x.je)(rows:call T FB [x.enc]=some (.v (.bool (lq x.kinds x.rows))))(hkkids:∀k∈x.kids,call T wK [k.enc]=some (.v (.bool k.formed)))(hkconds:∀k∈x.conds,call T pU [k.enc]=some (.v (.bool k.formed)))(hkexprs:∀k∈x.exprs,call T pU [k.enc]=some (.v (.bool k.formed))) :
 call T wK [x.enc]=some (.v (.bool x.formed)):=by
 refine q123g (by simp) ?_;have he:=x.aB;have hlkids:x.kids.length<=9223372036854775807:=gJ hs.kids (by decide);have hlconds:x.conds.length<=9223372036854775807:=gJ hs.conds (by decide);have hlexprs:x.exprs.length<=9223372036854775807:=gJ hs.exprs (by decide);have t1:=Ao x;have t2:=yC x.op hs.op.1;have t3:=oH x hs;have hB:=Pn.jJ x;have hP:mq x=(decide (x.op<=16)&&(decide (x.kids.length=aN x.op)&&(jk x&&(jN x&&(lq x.kinds x.rows&&(!decide (x.op=9)||decide (x.exprs.length=1))))))):=rfl;rw[hP]at hB
 clear hP;generalize x.formed=B at hB ⊢;replace hB:=Hd.mk hB;have loop3:∀(en:Env) (s:ay) (q:Nat),B=x.exprs.all Ex.formed->en 1=.ptr 1 1 0->en 5=i6 (0:Nat)->s 1=⟨1,true,some (.box x.enc),q⟩->
  wp T [It.lp pR,It.bl 4,It.code ((IC.ops lW).seq IC.ret)] en s (fun e' s'=>aC e' s' [fI.tmp 2]=some (.v (.bool B))):=by
  intro en s q hR e1 e4 s1;replace hR:=Hd.mk hR;refine av (σ:=Nat) (fun i en s=>en 1=.ptr 1 1 0/\en 5=i6 i/\(∃q,s 1=⟨1,true,some (.box x.enc),q⟩)/\i<=x.exprs.length/\Hd (∀j (hj:j<i) (h:j<x.exprs.length),Ex.formed x.exprs[j]=true)) (fun i=>x.exprs.length-i) ?_ 0 _ _
   ⟨e1,e4,⟨q,s1⟩,by omega,⟨fun _ h=>by omega⟩⟩
  rintro i en s ⟨e1,e4,⟨q,s1⟩,hi,hA⟩ ih;have s1':=s1;rw[he]at s1
  simp[e1,e4,s1];refine aj (fun h=>?_) (fun h=>?_)<;>(have h':=h;try simp at h')<;>(try simp[*])
  ·have hf:Hd (Ex.formed x.exprs[i]=false->B=false):=⟨fun g=>by rw[hR.out,bT h' g]⟩
   have hg:Hd (Ex.formed x.exprs[i]=true->∀j (hj:j<i+1) (h:j<x.exprs.length),Ex.formed x.exprs[j]=true):=⟨fun g=>dU h' hA.out g⟩
   have next:∀en' s' q',Ex.formed x.exprs[i]=true->en' 1=.ptr 1 1 0->en' 5=i6 ((i+1:Nat):Int)->s' 1=⟨1,true,some (.box x.enc),q'⟩->wp T [It.lp pR,It.bl 4,It.code ((IC.ops lW).seq IC.ret)] en' s' (fun e' s'=>aC e' s' [fI.tmp 2]=some (.v (.bool B))):=fun en' s' q' g a b c=>
    ih.out (i+1) en' s' ⟨a,b,⟨q',c⟩,h',⟨hg.out g⟩⟩ (by omega)
   replace next:=Hd.mk next
   clear ih;have hc:=hkexprs x.exprs[i] (List.getElem_mem h');have hke:=x.exprs[i].aB;rw[hke]at hc
   simp only[hke];generalize Ex.formed x.exprs[i]=b at hc hf hg next ⊢
   try simp[hc,e1,e4,s1]
   cases b
   ·simp[hf.out rfl]
   ·simp[e1,e4,s1];exact next.out _ _ q rfl (by simp[e1]) (by simp[ai h' hlexprs]) (by simp[s1',s1,he])
  ·have hn:x.exprs.all Ex.formed=true:=bg (fun j hj=>hA.out j (by omega) hj);have hR':=hR.out;rw[hn]at hR'
   simp[hR']
 have loop2:∀(en:Env) (s:ay) (q:Nat),B=(x.conds.all Ex.formed&&x.exprs.all Ex.formed)->en 1=.ptr 1 1 0->en 4=i6 (0:Nat)->s 1=⟨1,true,some (.box x.enc),q⟩->
  wp T [It.lp vJ,It.bl 2,It.code (((IC.ops qw).seq (IC.block 4 (IC.loop pR))).seq ((IC.ops lW).seq IC.ret))] en s (fun e' s'=>aC e' s' [fI.tmp 2]=some (.v (.bool B))):=by
  intro en s q hR e1 e4 s1;replace hR:=Hd.mk hR;refine av (σ:=Nat) (fun i en s=>en 1=.ptr 1 1 0/\en 4=i6 i/\(∃q,s 1=⟨1,true,some (.box x.enc),q⟩)/\i<=x.conds.length/\Hd (∀j (hj:j<i) (h:j<x.conds.length),Ex.formed x.conds[j]=true)) (fun i=>x.conds.length-i) ?_ 0 _ _
   ⟨e1,e4,⟨q,s1⟩,by omega,⟨fun _ h=>by omega⟩⟩
  rintro i en s ⟨e1,e4,⟨q,s1⟩,hi,hA⟩ ih;have s1':=s1;rw[he]at s1
  simp[e1,e4,s1];refine aj (fun h=>?_) (fun h=>?_)<;>(have h':=h;try simp at h')<;>(try simp[*])
  ·have hf:Hd (Ex.formed x.conds[i]=false->B=false):=⟨fun g=>by rw[hR.out,bT h' g];rfl⟩
   have hg:Hd (Ex.formed x.conds[i]=true->∀j (hj:j<i+1) (h:j<x.conds.length),Ex.formed x.conds[j]=true):=⟨fun g=>dU h' hA.out g⟩
   have next:∀en' s' q',Ex.formed x.conds[i]=true->en' 1=.ptr 1 1 0->en' 4=i6 ((i+1:Nat):Int)->s' 1=⟨1,true,some (.box x.enc),q'⟩->wp T [It.lp vJ,It.bl 2,It.code (((IC.ops qw).seq (IC.block 4 (IC.loop pR))).seq ((IC.ops lW).seq IC.ret))] en' s' (fun e' s'=>aC e' s' [fI.tmp 2]=some (.v (.bool B))):=fun en' s' q' g a b c=>
    ih.out (i+1) en' s' ⟨a,b,⟨q',c⟩,h',⟨hg.out g⟩⟩ (by omega)
   replace next:=Hd.mk next
   clear ih;have hc:=hkconds x.conds[i] (List.getElem_mem h');have hke:=x.conds[i].aB;rw[hke]at hc
   simp only[hke];generalize Ex.formed x.conds[i]=b at hc hf hg next ⊢
   try simp[hc,e1,e4,s1]
   cases b
   ·simp[hf.out rfl]
   ·simp[e1,e4,s1];exact next.out _ _ q rfl (by simp[e1]) (by simp[ai h' hlconds]) (by simp[s1',s1,he])
  ·have hn:x.conds.all Ex.formed=true:=bg (fun j hj=>hA.out j (by omega) hj);have hR':=hR.out;rw[hn,Bool.true_and]at hR'
   exact loop3 _ _ q hR' (by simp[e1]) (by simp) (by simp[s1',s1,he])
 have loop1:∀(en:Env) (s:ay) (q:Nat),B=(x.kids.all Pn.formed&&(x.conds.all Ex.formed&&x.exprs.all Ex.formed))->en 1=.ptr 1 1 0->en 3=i6 (0:Nat)->s 1=⟨1,true,some (.box x.enc),q⟩->
  wp T [It.lp CY,It.bl 0,It.code (((IC.ops xS).seq (IC.block 2 (IC.loop vJ))).seq (((IC.ops qw).seq (IC.block 4 (IC.loop pR))).seq ((IC.ops lW).seq IC.ret)))] en s (fun e' s'=>aC e' s' [fI.tmp 2]=some (.v (.bool B))):=by
  intro en s q hR e1 e4 s1;replace hR:=Hd.mk hR;refine av (σ:=Nat) (fun i en s=>en 1=.ptr 1 1 0/\en 3=i6 i/\(∃q,s 1=⟨1,true,some (.box x.enc),q⟩)/\i<=x.kids.length/\Hd (∀j (hj:j<i) (h:j<x.kids.length),Pn.formed x.kids[j]=true)) (fun i=>x.kids.length-i) ?_ 0 _ _
   ⟨e1,e4,⟨q,s1⟩,by omega,⟨fun _ h=>by omega⟩⟩
  rintro i en s ⟨e1,e4,⟨q,s1⟩,hi,hA⟩ ih;have s1':=s1;rw[he]at s1
  simp[e1,e4,s1];refine aj (fun h=>?_) (fun h=>?_)<;>(have h':=h;try simp at h')<;>(try simp[*])
  ·have hf:Hd (Pn.formed x.kids[i]=false->B=false):=⟨fun g=>by rw[hR.out,bT h' g];rfl⟩
   have hg:Hd (Pn.formed x.kids[i]=true->∀j (hj:j<i+1) (h:j<x.kids.length),Pn.formed x.kids[j]=true):=⟨fun g=>dU h' hA.out g⟩
   have next:∀en' s' q',Pn.formed x.kids[i]=true->en' 1=.ptr 1 1 0->en' 3=i6 ((i+1:Nat):Int)->s' 1=⟨1,true,some (.box x.enc),q'⟩->wp T [It.lp CY,It.bl 0,It.code (((IC.ops xS).seq (IC.block 2 (IC.loop vJ))).seq (((IC.ops qw).seq (IC.block 4 (IC.loop pR))).seq ((IC.ops lW).seq IC.ret)))] en' s' (fun e' s'=>aC e' s' [fI.tmp 2]=some (.v (.bool B))):=fun en' s' q' g a b c=>
    ih.out (i+1) en' s' ⟨a,b,⟨q',c⟩,h',⟨hg.out g⟩⟩ (by omega)
   replace next:=Hd.mk next
   clear ih;have hc:=hkkids x.kids[i] (List.getElem_mem h');have hke:=x.kids[i].aB;rw[hke]at hc
   simp only[hke];generalize Pn.formed x.kids[i]=b at hc hf hg next ⊢
   try simp[hc,e1,e4,s1]
   cases b
   ·simp[hf.out rfl]
   ·simp[e1,e4,s1];exact next.out _ _ q rfl (by simp[e1]) (by simp[ai h' hlkids]) (by simp[s1',s1,he])
  ·have hn:x.kids.all Pn.formed=true:=bg (fun j hj=>hA.out j (by omega) hj);have hR':=hR.out;rw[hn,Bool.true_and]at hR'
   exact loop2 _ _ q hR' (by simp[e1]) (by simp) (by simp[s1',s1,he])
 replace hB:=hB.out;generalize jk x=b1 at t1 hB;generalize jN x=b2 at t3 hB;generalize lq x.kinds x.rows=b3 at rows hB;have rows':=rows;rw[he]at t1 t3 rows'
 by_cases h16:16<x.op
 ·have:¬x.op<=16:=by omega
  simp[this]at hB
  simp[he,h16,hB]
 have h16':x.op<=16:=by omega
 cases b1
 ·simp at hB;simp[he,h16,t1,hB]
 by_cases hkl:x.kids.length=aN x.op
 case neg=>
  have:¬(x.kids.length:Int)=(aN x.op:Nat):=by omega
  simp[hkl]at hB
  simp[he,h16,t1,t2,hkl,this,hB]
 have c1:(x.kids.length:Int)=(aN x.op:Nat):=by omega
 cases b2
 ·simp at hB;simp[he,h16,t1,t2,c1,t3,hB]
 cases b3
 ·simp at hB;simp[he,h16,t1,t2,c1,t3,rows',hB]
 have step:∀(en:Env) (s:ay) (q:Nat),en 1=.ptr 1 1 0->s 1=⟨1,true,some (.box x.enc),q⟩->wp T (.ops Hu::.code (.cond (.t 41) (.seq (.ops PO) .ret) .skip)::.code (.seq (.seq (.ops PS) (.block 0 (.loop CY))) (.seq (.seq (.ops xS) (.block 2 (.loop vJ))) (.seq (.seq (.ops qw) (.block 4 (.loop pR))) (.seq (.ops lW) .ret))))::[]) en s (fun e' s'=>aC e' s' [fI.tmp 2]=some (.v (.bool B))):=by
  intro en s q e1 s1;have s1':=s1;rw[he]at s1
  by_cases h9:x.op=9
  ·by_cases h1:(x.exprs.length:Int)=1
   ·have h1':x.exprs.length=1:=by omega
    rw[decide_eq_true h16',decide_eq_true hkl,decide_eq_true h9,decide_eq_true h1']at hB
    rw[h9]at s1
    simp[e1,s1,h1];exact loop1 _ _ q (by rw[hB];rfl) (by simp[e1]) (by simp) (by simp[s1',he,s1])
   ·have h1':¬x.exprs.length=1:=by omega
    simp[h9,h1']at hB
    rw[h9]at s1
    simp[e1,s1,h1,hB]
  ·rw[decide_eq_true h16',decide_eq_true hkl,decide_eq_false h9]at hB
   simp[e1,s1,h9];exact loop1 _ _ q (by rw[hB];rfl) (by simp[e1]) (by simp) (by simp[s1',he,s1])
 simp only[PN];generalize hK:(IC.seq (IC.seq (.ops Hu) _) _)=K;rw[he];simp[h16,t1,t2,c1,t3,rows'];subst hK;simp only[wp_seq,wp_ops];exact step _ _ 1 (by simp) (by simp[he])
def kindOk(k:Int):Bool:=decide (k<=3)
set_option maxHeartbeats 2000000 in
theorem ru(x:Pn)(hs:x.je):call T FB [x.enc]=some (.v (.bool (lq x.kinds x.rows))):=by
 refine q140g (by simp) ?_;have he:=x.aB;have hlkinds:x.kinds.length<=9223372036854775807:=gJ hs.kinds (by decide);have hlrows:x.rows.length<=9223372036854775807:=gJ hs.rows (by decide);have hB:lq x.kinds x.rows=(x.kinds.all kindOk&&x.rows.all (mr x.kinds)):=rfl;generalize lq x.kinds x.rows=B at hB ⊢;replace hB:=Hd.mk hB;have loop2:∀(en:Env) (s:ay) (q:Nat),B=x.rows.all (mr x.kinds)->en 1=.ptr 1 1 0->en 4=i6 (0:Nat)->s 1=⟨1,true,some (.box x.enc),q⟩->
  wp T [It.lp vK,It.bl 2,It.code ((IC.ops qx).seq IC.ret)] en s (fun e' s'=>aC e' s' [fI.tmp 2]=some (.v (.bool B))):=by
  intro en s q hR e1 e4 s1;replace hR:=Hd.mk hR;refine av (σ:=Nat) (fun i en s=>en 1=.ptr 1 1 0/\en 4=i6 i/\(∃q,s 1=⟨1,true,some (.box x.enc),q⟩)/\i<=x.rows.length/\Hd (∀j (hj:j<i) (h:j<x.rows.length),(mr x.kinds) x.rows[j]=true)) (fun i=>x.rows.length-i) ?_ 0 _ _
   ⟨e1,e4,⟨q,s1⟩,by omega,⟨fun _ h=>by omega⟩⟩
  rintro i en s ⟨e1,e4,⟨q,s1⟩,hi,hA⟩ ih;have s1':=s1;rw[he]at s1
  simp[e1,e4,s1];refine aj (fun h=>?_) (fun h=>?_)<;>(have h':=h;try simp at h')<;>(try simp[*])
  ·have hf:Hd ((mr x.kinds) x.rows[i]=false->B=false):=⟨fun g=>by rw[hR.out,bT h' g]⟩
   have hg:Hd ((mr x.kinds) x.rows[i]=true->∀j (hj:j<i+1) (h:j<x.rows.length),(mr x.kinds) x.rows[j]=true):=⟨fun g=>dU h' hA.out g⟩
   have next:∀en' s' q',(mr x.kinds) x.rows[i]=true->en' 1=.ptr 1 1 0->en' 4=i6 ((i+1:Nat):Int)->s' 1=⟨1,true,some (.box x.enc),q'⟩->wp T [It.lp vK,It.bl 2,It.code ((IC.ops qx).seq IC.ret)] en' s' (fun e' s'=>aC e' s' [fI.tmp 2]=some (.v (.bool B))):=fun en' s' q' g a b c=>
    ih.out (i+1) en' s' ⟨a,b,⟨q',c⟩,h',⟨hg.out g⟩⟩ (by omega)
   replace next:=Hd.mk next
   clear ih;have hro:=hs.row x.rows[i] (List.getElem_mem h');have hrl:x.rows[i].length<=9223372036854775807:=gJ hro.1 (by decide);have hrv:=hro.2;clear hro;generalize x.rows[i]=r at hf hg next hrl hrv ⊢
   try simp[e1,e4,s1]
   by_cases hn:r.length=x.kinds.length
   case neg=>
    have hn':¬(r.length:Int)=(x.kinds.length:Int):=by omega
    have hv:mr x.kinds r=false:=by simp[mr,hn]
    have hb:=hf.out hv;simp[hn,hn',e1,e4,s1,hb]
   have hv:mr x.kinds r=iN (x.kinds.drop 0) (r.drop 0):=by simp[mr,hn]
   rw[hv]at hf hg next
   generalize hC:iN (x.kinds.drop 0) (r.drop 0)=C at hf hg next
   replace hC:=Hd.mk hC;simp[hn,e1,e4,s1];replace hn:=Hd.mk hn;clear hv;refine av (σ:=Nat) (fun j en s=>en 1=.ptr 1 1 0/\en 4=i6 i/\en 5=.sl false (r.map Val.enc)/\en 6=i6 j/\(∃q,s 1=⟨1,true,some (.box x.enc),q⟩)/\j<=r.length/\Hd (iN (x.kinds.drop j) (r.drop j)=C)) (fun j=>r.length-j) ?_ 0 _ _
    ⟨by simp[e1],by simp[e4],by simp,by simp,⟨q,by simp[s1,he]⟩,by omega,hC⟩
   rintro j en s ⟨e1,e4,e5,e6,⟨q,s1⟩,hj,hD⟩ ih2;have s1':=s1;rw[he]at s1
   simp[e1,e4,e5,e6,s1];refine aj (fun d=>?_) (fun d=>?_)<;>(have d':=d;try simp at d')<;>(try simp[*])
   ·have hk:j<x.kinds.length:=by have:=hn.out;omega
    have hc:=jY r[j];replace hD:=Hd.mk ((vW hk d').symm.trans hD.out);have hcell:Ju x.kinds[j] r[j]=(r[j].valid&&(decide (r[j].kind=0)||decide (r[j].kind=x.kinds[j]))):=rfl;rw[hcell]at hD
    clear hcell;have nx:∀e' s' q',Hd (iN (x.kinds.drop (j+1)) (r.drop (j+1))=C)->e' 1=.ptr 1 1 0->e' 4=i6 i->e' 5=.sl false (r.map Val.enc)->e' 6=i6 ((j+1:Nat):Int)->s' 1=⟨1,true,some (.box x.enc),q'⟩->wp T [It.lp Qh,It.bl 4,It.bl 3,It.code (IC.ops Qj),It.lp vK,It.bl 2,It.code ((IC.ops qx).seq IC.ret)] e' s' (fun e s=>aC e s [fI.tmp 2]=some (.v (.bool B))):=by intro e' s' q' a b c d2 f g;exact ih2.out (j+1) e' s' ⟨b,c,d2,f,⟨q',g⟩,d',a⟩ (by omega)
    replace nx:=Hd.mk nx;generalize r[j].valid=b at hc hD ⊢
    try simp[hc,e1,e4,e5,e6,s1]
    cases b
    ·simp at hD;simp[hf.out hD.out]
    ·simp at hD;by_cases k0:r[j].kind=0
     ·simp[k0]at hD
      simp[k0,hk,d',e1,e4,e5,e6,s1];exact nx.out _ _ q hD (by simp[e1]) (by simp[e4]) (by simp[e5]) (by simp[ai d' hrl]) (by simp[s1',s1,he])
     ·by_cases k1:r[j].kind=x.kinds[j]
      ·simp[k1]at hD
       rw[k1]at k0
       simp[k0,k1,hk,d',e1,e4,e5,e6,s1];exact nx.out _ _ q hD (by simp[e1]) (by simp[e4]) (by simp[e5]) (by simp[ai d' hrl]) (by simp[s1',s1,he])
      ·simp[k0,k1]at hD
       simp[k0,k1,hk,d',e1,e4,e5,e6,s1,hf.out hD.out]
   ·have hE:=hD.out;rw[yJ (by have:=hn.out;omega)]at hE
    try simp[e1,e4,s1]
    exact next.out _ _ q hE.symm (by simp[e1]) (by simp[ai h' hlrows]) (by simp[s1',s1,he])
  ·have hn:x.rows.all (mr x.kinds)=true:=bg (fun j hj=>hA.out j (by omega) hj);have hR':=hR.out;rw[hn]at hR'
   simp[hR']
 have loop1:∀(en:Env) (s:ay) (q:Nat),B=(x.kinds.all kindOk&&x.rows.all (mr x.kinds))->en 1=.ptr 1 1 0->en 3=i6 (0:Nat)->s 1=⟨1,true,some (.box x.enc),q⟩->
  wp T [It.lp Ie,It.bl 0,It.code (((IC.ops Ig).seq (IC.block 2 (IC.loop vK))).seq ((IC.ops qx).seq IC.ret))] en s (fun e' s'=>aC e' s' [fI.tmp 2]=some (.v (.bool B))):=by
  intro en s q hR e1 e4 s1;replace hR:=Hd.mk hR;refine av (σ:=Nat) (fun i en s=>en 1=.ptr 1 1 0/\en 3=i6 i/\(∃q,s 1=⟨1,true,some (.box x.enc),q⟩)/\i<=x.kinds.length/\Hd (∀j (hj:j<i) (h:j<x.kinds.length),kindOk x.kinds[j]=true)) (fun i=>x.kinds.length-i) ?_ 0 _ _
   ⟨e1,e4,⟨q,s1⟩,by omega,⟨fun _ h=>by omega⟩⟩
  rintro i en s ⟨e1,e4,⟨q,s1⟩,hi,hA⟩ ih;have s1':=s1;rw[he]at s1
  simp[e1,e4,s1];refine aj (fun h=>?_) (fun h=>?_)<;>(have h':=h;try simp at h')<;>(try simp[*])
  ·have hf:Hd (kindOk x.kinds[i]=false->B=false):=⟨fun g=>by rw[hR.out,bT h' g];rfl⟩
   have hg:Hd (kindOk x.kinds[i]=true->∀j (hj:j<i+1) (h:j<x.kinds.length),kindOk x.kinds[j]=true):=⟨fun g=>dU h' hA.out g⟩
   have next:∀en' s' q',kindOk x.kinds[i]=true->en' 1=.ptr 1 1 0->en' 3=i6 ((i+1:Nat):Int)->s' 1=⟨1,true,some (.box x.enc),q'⟩->wp T [It.lp Ie,It.bl 0,It.code (((IC.ops Ig).seq (IC.block 2 (IC.loop vK))).seq ((IC.ops qx).seq IC.ret))] en' s' (fun e' s'=>aC e' s' [fI.tmp 2]=some (.v (.bool B))):=fun en' s' q' g a b c=>
    ih.out (i+1) en' s' ⟨a,b,⟨q',c⟩,h',⟨hg.out g⟩⟩ (by omega)
   replace next:=Hd.mk next
   clear ih;have hv:kindOk x.kinds[i]=decide (x.kinds[i]<=3):=rfl;by_cases k:x.kinds[i]<=3
   ·have k':¬3<x.kinds[i]:=by omega
    rw[decide_eq_true k]at hv
    simp[k',e1,e4,s1];exact next.out _ _ q hv (by simp[e1]) (by simp[ai h' hlkinds]) (by simp[s1',s1,he])
   ·have k':3<x.kinds[i]:=by omega
    rw[decide_eq_false k]at hv
    have hb:=hf.out hv;simp[k',e1,e4,s1,hb]
  ·have hn:x.kinds.all kindOk=true:=bg (fun j hj=>hA.out j (by omega) hj);have hR':=hR.out;rw[hn,Bool.true_and]at hR'
   exact loop2 _ _ q hR' (by simp[e1]) (by simp) (by simp[s1',s1,he])
 rw[he];simp;exact loop1 _ _ 1 hB.out (by simp) (by simp) (by simp[he])
theorem zM:(∀e:Ex,e.small->call T pU [e.enc]=some (.v (.bool e.formed)))/\(∀p:Pn,p.small->call T wK [p.enc]=some (.v (.bool p.formed))):=by
 refine dL (fun e h1 h2 hs=>?_) (fun x h1 h2 h3 hs=>?_)
 ·have hs':=Ex.cK hs;exact Nc e hs' (fun k hk=>h1 k hk (hs'.kid k hk)) (fun k hk=>h2 k hk (hs'.subs k hk))
 ·have hs':=Pn.cK hs;exact Nf x hs' (ru x hs') (fun k hk=>h1 k hk (hs'.kid k hk)) (fun k hk=>h2 k hk (hs'.cond k hk)) (fun k hk=>h3 k hk (hs'.expr k hk))
end Go.Proofs.YtbmkfjmlepjpfaaGreatDoor
