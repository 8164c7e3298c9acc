/- A part of the proof. -/
import Derived.Test.YtbmkfjmlepjpfaaGreatDoorEa
set_option linter.all false
set_option maxRecDepth 100000
namespace Go.Proofs.YtbmkfjmlepjpfaaGreatDoor
open Go.RowKit
theorem AJ(op:Int):call T NG [u8 op]=some (.v (.bool (decide (op<=29)&&(!decide (op=1)&&!decide (op=3))))):=by
 refine q131g (by simp) ?_;by_cases h:op<=29
 ·by_cases h1:op=1
  ·simp[h1]
  ·by_cases h3:op=3
   ·simp[h3]
   ·simp[h,h1,h3]
 ·simp[h]
theorem JQ{op:Int}:fD op=(decide (op=27)||(decide (op=28)||decide (op=29))):=by
 by_cases h:op=27\/op=28\/op=29
 ·rcases h with rfl|rfl|rfl<;>rfl
 ·have h1:¬op=27:=fun q=>h (.inl q);have h2:¬op=28:=fun q=>h (.inr (.inl q));have h3:¬op=29:=fun q=>h (.inr (.inr q));simp only[fD,h1,h2,h3,decide_false,Bool.or_false,Bool.and_eq_false_iff,decide_eq_false_iff_not];omega
theorem AA(op:Int):call T Ee [u8 op]=some (.v (.bool (fD op))):=by
 refine q127g (by simp) ?_;rw[JQ];by_cases h1:op=27
 ·simp[h1]
 ·by_cases h2:op=28
  ·simp[h2]
  ·simp[h1,h2]
theorem eu(n:Int):call T ru [i6 n]=some (.v (.bool (bD n))):=by
 refine q145g (by simp) ?_;by_cases h:0<=n
 ·simp[bD,h]
 ·simp[bD,h]
theorem AB(op:Int)(h:0<=op):call T NF [u8 op]=some (i6 (aR op:Nat)):=by
 refine q129g (by simp) ?_;by_cases h0:op=0
 ·simp[h0,aR]
 by_cases h1:op=1
 ·simp[h1,aR]
 by_cases h2:op=2
 ·simp[h2,aR]
 by_cases h3:op=3
 ·simp[h3,aR]
 by_cases h10:op=10
 ·simp[h10,aR]
 by_cases h11:op=11
 ·simp[h11,aR]
 by_cases h12:op=12
 ·simp[h12,aR]
 by_cases h13:op=13
 ·simp[h13,aR]
 have e1:aR op=2:=by rw[aR,if_neg (by omega),if_neg (by omega)]
 simp[h0,h1,h2,h3,h10,h11,h12,h13,e1]
theorem xw(op:Int):call T ND [u8 op]=some (.v (.bool (decide (op=2)||(decide (4<=op)&&decide (op<=8))))):=by
 refine q126g (by simp) ?_;by_cases h0:op=2
 ·simp[h0]
 ·by_cases h1:4<=op
  ·simp[h0,h1]
  ·simp[h0,h1]
theorem xA(op:Int):call T NP [u8 op]=some (.v (.bool (decide (op=3)||decide (op=9)))):=by
 refine q143g (by simp) ?_;by_cases h0:op=3
 ·simp[h0]
 ·simp[h0]
set_option maxHeartbeats 4000000 in
theorem uj(e:Ex)(hs:e.wX):call T NK [e.enc]=some (.v (.bool (fU e.op e.v e.up e.n e.kids.length e.sub.length))):=by
 refine q138g (by simp) ?_;have he:=e.ay;have cL:=AJ e.op;have cS:=AA e.op;have cv:call T Ec [.agg [.v (.int .u8 e.vk),.v (.int .i64 e.vi),.v (.string e.vs)]]=some (.v (.bool e.v.valid)):=lm e.v;have cz:call T Jg [.agg [.v (.int .u8 e.vk),.v (.int .i64 e.vi),.v (.string e.vs)],.agg [.v (.int .u8 0),.v (.int .i64 0),.v (.string ⟨#[]⟩)]]=some (.v (.bool e.v.isZero)):=by
  have h:e.v.same ⟨0,0,⟨#[]⟩⟩=e.v.isZero:=by simp only[Val.same,Val.isZero,toList_eq,Bool.and_assoc]
  have:=sQ e.v ⟨0,0,⟨#[]⟩⟩;rw[h]at this
  exact this
 have cu:=eu e.up;have cn:=eu e.n;unfold fU;generalize (decide (e.op<=29)&&(!decide (e.op=1)&&!decide (e.op=3)))=L at cL ⊢;cases L
 ·simp[he,cL]
 by_cases h0:e.op=0
 ·rw[h0]at he cL cS
  generalize e.v.valid=b at cv ⊢;cases b
  ·simp[he,cL,cv,h0]
  by_cases u:e.up=0
  ·by_cases n:e.n=0
   ·by_cases s:(e.sub.length:Int)=0
    ·have s':e.sub=[]:=by simpa using s
     simp[he,cL,cv,h0,u,n,s,s',cS,fD]
    ·have s':¬e.sub=[]:=by simpa using s
     simp[he,cL,cv,h0,u,n,s,s',cS,fD]
   ·simp[he,cL,cv,h0,u,n]
  ·simp[he,cL,cv,h0,u]
 generalize e.v.isZero=z at cz ⊢;cases z
 ·simp[he,cL,cz,h0]
 by_cases h2:e.op=2
 ·rw[h2]at he cL cS
  generalize bD e.up=b1 at cu ⊢;generalize bD e.n=b2 at cn ⊢;cases b1
  ·simp[he,cL,cz,cu,h2]
  cases b2
  ·simp[he,cL,cz,cu,cn,h2]
  by_cases s:(e.sub.length:Int)=0
  ·have s':e.sub=[]:=by simpa using s
   simp[he,cL,cz,cu,cn,h2,s,s',cS,fD]
  ·have s':¬e.sub=[]:=by simpa using s
   simp[he,cL,cz,cu,cn,h2,s,s',cS,fD]
 by_cases u:e.up=0
 case neg=>simp[he,cL,cz,h0,h2,u]
 by_cases n:e.n=0
 case neg=>simp[he,cL,cz,h0,h2,u,n]
 generalize hso:fD e.op=so at cS ⊢;cases so
 ·by_cases s:(e.sub.length:Int)=0
  ·have s':e.sub=[]:=by simpa using s
   have h28:¬e.op=28:=fun h=>by rw[h]at hso;cases hso
   simp[he,cL,cz,h0,h2,u,n,cS,s,s',h28]
  ·have s':¬e.sub=[]:=by simpa using s
   simp[he,cL,cz,h0,h2,u,n,cS,s,s']
 ·by_cases s:(e.sub.length:Int)=1
  ·have s':e.sub.length=1:=by omega
   by_cases h28:e.op=28
   ·rw[h28]at he cL cS
    by_cases k:(e.kids.length:Int)=1
    ·have k':e.kids.length=1:=by omega
     simp[he,cL,cz,u,n,cS,s,s',h28,k,k']
    ·have k':¬e.kids.length=1:=by omega
     simp[he,cL,cz,u,n,cS,s,s',h28,k,k']
   ·by_cases k:(e.kids.length:Int)=0
    ·have k':e.kids=[]:=by simpa using k
     simp[he,cL,cz,h0,h2,u,n,cS,s,s',h28,k,k']
    ·have k':¬e.kids=[]:=by simpa using k
     simp[he,cL,cz,h0,h2,u,n,cS,s,s',h28,k,k']
  ·have s':¬e.sub.length=1:=by omega
   simp[he,cL,cz,h0,h2,u,n,cS,s,s']
theorem L6(p:Pn)(k:List It)(en:Env)(s:ax)(q:Nat)(Q:Env->ax->Prop)(h1:en 1=.ptr 1 1 0)(hs:s 1=⟨1,true,some (.box (.agg [.v (.int .u8 p.op),i6 p.table,.sl false (p.kinds.map u8),.sl false (p.rows.map ql),.sl false (p.conds.map Ex.enc),.sl false (p.exprs.map Ex.enc),.sl false (p.ah.map i6),.sl false (p.aA.map Ag.enc),.sl false (p.keys.map Ky.enc),i6 p.fr,i6 p.ct,.sl false (p.kids.map Pn.enc)])),q⟩)
 (h:∀en':Env,(∀j,j<10->¬j=3->en' j=en j)->en' 3=.v (.bool (decide (p.op=0)||(decide (p.kinds.length=0)&&decide (p.rows.length=0))))->wp T k en' s Q):wp T (.ops K_::k) en s Q:=by
 by_cases t0:p.op=0
 ·simp[h1,hs,t0];exact h _ (fun j a b=>by simp[show ∀m,10<=m->¬j=m by omega,b]) (by simp[h1,hs,t0])
 ·by_cases t5:p.kinds=[]
  ·by_cases t10:p.rows=[]
   ·simp[h1,hs,t0,t5,t10];exact h _ (fun j a b=>by simp[show ∀m,10<=m->¬j=m by omega,b]) (by simp[h1,hs,t0,t5,t10])
   ·simp[h1,hs,t0,t5,t10];exact h _ (fun j a b=>by simp[show ∀m,10<=m->¬j=m by omega,b]) (by simp[h1,hs,t0,t5,t10])
  ·simp[h1,hs,t0,t5];exact h _ (fun j a b=>by simp[show ∀m,10<=m->¬j=m by omega,b]) (by simp[h1,hs,t0,t5])
theorem L8(p:Pn)(k:List It)(en:Env)(s:ax)(q:Nat)(Q:Env->ax->Prop)(h1:en 1=.ptr 1 1 0)(hs:s 1=⟨1,true,some (.box (.agg [.v (.int .u8 p.op),i6 p.table,.sl false (p.kinds.map u8),.sl false (p.rows.map ql),.sl false (p.conds.map Ex.enc),.sl false (p.exprs.map Ex.enc),.sl false (p.ah.map i6),.sl false (p.aA.map Ag.enc),.sl false (p.keys.map Ky.enc),i6 p.fr,i6 p.ct,.sl false (p.kids.map Pn.enc)])),q⟩)
 (h:∀en':Env,(∀j,j<10->¬j=4->en' j=en j)->en' 4=.v (.bool (decide (p.op=1)||decide (p.table=0)))->wp T k en' s Q):wp T (.ops TQ::k) en s Q:=by
 by_cases t1:p.op=1
 ·simp[h1,hs,t1];exact h _ (fun j a b=>by simp[show ∀m,10<=m->¬j=m by omega,b]) (by simp[h1,hs,t1])
 ·by_cases t6:p.table=0
  ·simp[h1,hs,t1,t6];exact h _ (fun j a b=>by simp[show ∀m,10<=m->¬j=m by omega,b]) (by simp[h1,hs,t1,t6])
  ·simp[h1,hs,t1,t6];exact h _ (fun j a b=>by simp[show ∀m,10<=m->¬j=m by omega,b]) (by simp[h1,hs,t1,t6])
theorem L9(p:Pn)(k:List It)(en:Env)(s:ax)(q:Nat)(Q:Env->ax->Prop)(h1:en 1=.ptr 1 1 0)(hs:s 1=⟨1,true,some (.box (.agg [.v (.int .u8 p.op),i6 p.table,.sl false (p.kinds.map u8),.sl false (p.rows.map ql),.sl false (p.conds.map Ex.enc),.sl false (p.exprs.map Ex.enc),.sl false (p.ah.map i6),.sl false (p.aA.map Ag.enc),.sl false (p.keys.map Ky.enc),i6 p.fr,i6 p.ct,.sl false (p.kids.map Pn.enc)])),q⟩)
 (h:∀en':Env,(∀j,j<10->¬j=5->en' j=en j)->en' 5=.v (.bool ((decide (p.op=2)||(decide (4<=p.op)&&decide (p.op<=8)))||decide (p.conds.length=0)))->wp T k en' s Q):wp T (.ops TR::k) en s Q:=by
 have c1:=xw p.op;generalize (decide (p.op=2)||(decide (4<=p.op)&&decide (p.op<=8)))=C at c1 h;cases C
 ·by_cases t2:p.conds=[]
  ·simp[h1,hs,c1,t2];exact h _ (fun j a b=>by simp[show ∀m,10<=m->¬j=m by omega,b]) (by simp[h1,hs,c1,t2])
  ·simp[h1,hs,c1,t2];exact h _ (fun j a b=>by simp[show ∀m,10<=m->¬j=m by omega,b]) (by simp[h1,hs,c1,t2])
 ·simp[h1,hs,c1];exact h _ (fun j a b=>by simp[show ∀m,10<=m->¬j=m by omega,b]) (by simp[h1,hs,c1])
theorem L_(p:Pn)(k:List It)(en:Env)(s:ax)(q:Nat)(Q:Env->ax->Prop)(h1:en 1=.ptr 1 1 0)(hs:s 1=⟨1,true,some (.box (.agg [.v (.int .u8 p.op),i6 p.table,.sl false (p.kinds.map u8),.sl false (p.rows.map ql),.sl false (p.conds.map Ex.enc),.sl false (p.exprs.map Ex.enc),.sl false (p.ah.map i6),.sl false (p.aA.map Ag.enc),.sl false (p.keys.map Ky.enc),i6 p.fr,i6 p.ct,.sl false (p.kids.map Pn.enc)])),q⟩)
 (h:∀en':Env,(∀j,j<10->¬j=6->en' j=en j)->en' 6=.v (.bool ((decide (p.op=3)||decide (p.op=9))||decide (p.exprs.length=0)))->wp T k en' s Q):wp T (.ops TT::k) en s Q:=by
 have c1:=xA p.op;generalize (decide (p.op=3)||decide (p.op=9))=C at c1 h;cases C
 ·by_cases t2:p.exprs=[]
  ·simp[h1,hs,c1,t2];exact h _ (fun j a b=>by simp[show ∀m,10<=m->¬j=m by omega,b]) (by simp[h1,hs,c1,t2])
  ·simp[h1,hs,c1,t2];exact h _ (fun j a b=>by simp[show ∀m,10<=m->¬j=m by omega,b]) (by simp[h1,hs,c1,t2])
 ·simp[h1,hs,c1];exact h _ (fun j a b=>by simp[show ∀m,10<=m->¬j=m by omega,b]) (by simp[h1,hs,c1])
theorem Ma(p:Pn)(k:List It)(en:Env)(s:ax)(q:Nat)(Q:Env->ax->Prop)(h1:en 1=.ptr 1 1 0)(hs:s 1=⟨1,true,some (.box (.agg [.v (.int .u8 p.op),i6 p.table,.sl false (p.kinds.map u8),.sl false (p.rows.map ql),.sl false (p.conds.map Ex.enc),.sl false (p.exprs.map Ex.enc),.sl false (p.ah.map i6),.sl false (p.aA.map Ag.enc),.sl false (p.keys.map Ky.enc),i6 p.fr,i6 p.ct,.sl false (p.kids.map Pn.enc)])),q⟩)
 (h:∀en':Env,(∀j,j<10->¬j=7->en' j=en j)->en' 7=.v (.bool (decide (p.op=10)||(decide (p.ah.length=0)&&decide (p.aA.length=0))))->wp T k en' s Q):wp T (.ops TU::k) en s Q:=by
 by_cases t0:p.op=10
 ·simp[h1,hs,t0];exact h _ (fun j a b=>by simp[show ∀m,10<=m->¬j=m by omega,b]) (by simp[h1,hs,t0])
 ·by_cases t5:p.ah=[]
  ·by_cases t10:p.aA=[]
   ·simp[h1,hs,t0,t5,t10];exact h _ (fun j a b=>by simp[show ∀m,10<=m->¬j=m by omega,b]) (by simp[h1,hs,t0,t5,t10])
   ·simp[h1,hs,t0,t5,t10];exact h _ (fun j a b=>by simp[show ∀m,10<=m->¬j=m by omega,b]) (by simp[h1,hs,t0,t5,t10])
  ·simp[h1,hs,t0,t5];exact h _ (fun j a b=>by simp[show ∀m,10<=m->¬j=m by omega,b]) (by simp[h1,hs,t0,t5])
theorem Mc(p:Pn)(k:List It)(en:Env)(s:ax)(q:Nat)(Q:Env->ax->Prop)(h1:en 1=.ptr 1 1 0)(hs:s 1=⟨1,true,some (.box (.agg [.v (.int .u8 p.op),i6 p.table,.sl false (p.kinds.map u8),.sl false (p.rows.map ql),.sl false (p.conds.map Ex.enc),.sl false (p.exprs.map Ex.enc),.sl false (p.ah.map i6),.sl false (p.aA.map Ag.enc),.sl false (p.keys.map Ky.enc),i6 p.fr,i6 p.ct,.sl false (p.kids.map Pn.enc)])),q⟩)
 (h:∀en':Env,(∀j,j<10->¬j=8->en' j=en j)->en' 8=.v (.bool (decide (p.op=12)||(decide (p.op=13)||decide (p.keys.length=0))))->wp T k en' s Q):wp T (.ops TV::k) en s Q:=by
 by_cases t0:p.op=12
 ·simp[h1,hs,t0];exact h _ (fun j a b=>by simp[show ∀m,10<=m->¬j=m by omega,b]) (by simp[h1,hs,t0])
 ·by_cases t5:p.op=13
  ·simp[h1,hs,t0,t5];exact h _ (fun j a b=>by simp[show ∀m,10<=m->¬j=m by omega,b]) (by simp[h1,hs,t0,t5])
  ·by_cases t10:p.keys=[]
   ·simp[h1,hs,t0,t5,t10];exact h _ (fun j a b=>by simp[show ∀m,10<=m->¬j=m by omega,b]) (by simp[h1,hs,t0,t5,t10])
   ·simp[h1,hs,t0,t5,t10];exact h _ (fun j a b=>by simp[show ∀m,10<=m->¬j=m by omega,b]) (by simp[h1,hs,t0,t5,t10])
theorem Md(p:Pn)(k:List It)(en:Env)(s:ax)(q:Nat)(Q:Env->ax->Prop)(h1:en 1=.ptr 1 1 0)(hs:s 1=⟨1,true,some (.box (.agg [.v (.int .u8 p.op),i6 p.table,.sl false (p.kinds.map u8),.sl false (p.rows.map ql),.sl false (p.conds.map Ex.enc),.sl false (p.exprs.map Ex.enc),.sl false (p.ah.map i6),.sl false (p.aA.map Ag.enc),.sl false (p.keys.map Ky.enc),i6 p.fr,i6 p.ct,.sl false (p.kids.map Pn.enc)])),q⟩)
 (h:∀en':Env,(∀j,j<10->¬j=9->en' j=en j)->en' 9=.v (.bool (decide (p.op=13)||(decide (p.fr=0)&&decide (p.ct=0))))->wp T k en' s Q):wp T (.ops TW::k) en s Q:=by
 by_cases t0:p.op=13
 ·simp[h1,hs,t0];exact h _ (fun j a b=>by simp[show ∀m,10<=m->¬j=m by omega,b]) (by simp[h1,hs,t0])
 ·by_cases t5:p.fr=0
  ·by_cases t10:p.ct=0
   ·simp[h1,hs,t0,t5,t10];exact h _ (fun j a b=>by simp[show ∀m,10<=m->¬j=m by omega,b]) (by simp[h1,hs,t0,t5,t10])
   ·simp[h1,hs,t0,t5,t10];exact h _ (fun j a b=>by simp[show ∀m,10<=m->¬j=m by omega,b]) (by simp[h1,hs,t0,t5,t10])
  ·simp[h1,hs,t0,t5];exact h _ (fun j a b=>by simp[show ∀m,10<=m->¬j=m by omega,b]) (by simp[h1,hs,t0,t5])
theorem CX(p:Pn):call T NH [p.enc]=some (.v (.bool (jS p))):=by
 refine q135g (by simp) ?_;rw[p.ay];simp only[wp_seq,wp_ops];generalize hK:It.code (IC.seq (.ops K_) _)=K;simp;subst hK;simp only[wp_seq,wp_ops];refine L6 p _ _ _ 1 _ (by simp) (by simp) ?_;intro e1 f1 g1;have h1:e1 1=.ptr 1 1 0:=by rw[f1 1 (by decide) (by decide)];simp
 clear f1;simp only[wp_seq,wp_ops];refine L8 p _ _ _ 1 _ (by simp[*]) (by simp) ?_;intro e2 f2 g2;have k1:=f2 1 (by decide) (by decide);have m1:=f2 3 (by decide) (by decide);rw[g1]at m1
 replace g1:=m1;clear m1;rw[h1]at k1
 replace h1:=k1;clear k1;clear f2;simp only[wp_seq,wp_ops];refine L9 p _ _ _ 1 _ (by simp[*]) (by simp) ?_;intro e3 f3 g3;have k1:=f3 1 (by decide) (by decide);have m1:=f3 3 (by decide) (by decide);rw[g1]at m1
 replace g1:=m1;clear m1;have m2:=f3 4 (by decide) (by decide);rw[g2]at m2
 replace g2:=m2;clear m2;rw[h1]at k1
 replace h1:=k1;clear k1;clear f3;simp only[wp_seq,wp_ops];refine L_ p _ _ _ 1 _ (by simp[*]) (by simp) ?_;intro e4 f4 g4;have k1:=f4 1 (by decide) (by decide);have m1:=f4 3 (by decide) (by decide);rw[g1]at m1
 replace g1:=m1;clear m1;have m2:=f4 4 (by decide) (by decide);rw[g2]at m2
 replace g2:=m2;clear m2;have m3:=f4 5 (by decide) (by decide);rw[g3]at m3
 replace g3:=m3;clear m3;rw[h1]at k1
 replace h1:=k1;clear k1;clear f4;simp only[wp_seq,wp_ops];refine Ma p _ _ _ 1 _ (by simp[*]) (by simp) ?_;intro e5 f5 g5;have k1:=f5 1 (by decide) (by decide);have m1:=f5 3 (by decide) (by decide);rw[g1]at m1
 replace g1:=m1;clear m1;have m2:=f5 4 (by decide) (by decide);rw[g2]at m2
 replace g2:=m2;clear m2;have m3:=f5 5 (by decide) (by decide);rw[g3]at m3
 replace g3:=m3;clear m3;have m4:=f5 6 (by decide) (by decide);rw[g4]at m4
 replace g4:=m4;clear m4;rw[h1]at k1
 replace h1:=k1;clear k1;clear f5;simp only[wp_seq,wp_ops];refine Mc p _ _ _ 1 _ (by simp[*]) (by simp) ?_;intro e6 f6 g6;have k1:=f6 1 (by decide) (by decide);have m1:=f6 3 (by decide) (by decide);rw[g1]at m1
 replace g1:=m1;clear m1;have m2:=f6 4 (by decide) (by decide);rw[g2]at m2
 replace g2:=m2;clear m2;have m3:=f6 5 (by decide) (by decide);rw[g3]at m3
 replace g3:=m3;clear m3;have m4:=f6 6 (by decide) (by decide);rw[g4]at m4
 replace g4:=m4;clear m4;have m5:=f6 7 (by decide) (by decide);rw[g5]at m5
 replace g5:=m5;clear m5;rw[h1]at k1
 replace h1:=k1;clear k1;clear f6;simp only[wp_seq,wp_ops];refine Md p _ _ _ 1 _ (by simp[*]) (by simp) ?_;intro e7 f7 g7;have k1:=f7 1 (by decide) (by decide);have m1:=f7 3 (by decide) (by decide);rw[g1]at m1
 replace g1:=m1;clear m1;have m2:=f7 4 (by decide) (by decide);rw[g2]at m2
 replace g2:=m2;clear m2;have m3:=f7 5 (by decide) (by decide);rw[g3]at m3
 replace g3:=m3;clear m3;have m4:=f7 6 (by decide) (by decide);rw[g4]at m4
 replace g4:=m4;clear m4;have m5:=f7 7 (by decide) (by decide);rw[g5]at m5
 replace g5:=m5;clear m5;have m6:=f7 8 (by decide) (by decide);rw[g6]at m6
 replace g6:=m6;clear m6;rw[h1]at k1
 replace h1:=k1;clear k1;clear f7;simp only[wp_seq,wp_ops];unfold jS;have hC':∀b,(decide (p.op=2)||((decide (4<=p.op)&&decide (p.op<=8))||b))=((decide (p.op=2)||(decide (4<=p.op)&&decide (p.op<=8)))||b):=fun b=>by rw[Bool.or_assoc]
 have hE':∀b,(decide (p.op=3)||(decide (p.op=9)||b))=((decide (p.op=3)||decide (p.op=9))||b):=fun b=>by rw[Bool.or_assoc]
 rw[hC',hE'];clear hC' hE';generalize (decide (p.op=0)||(decide (p.kinds.length=0)&&decide (p.rows.length=0)))=b1 at g1 ⊢;generalize (decide (p.op=1)||decide (p.table=0))=b2 at g2 ⊢;generalize ((decide (p.op=2)||(decide (4<=p.op)&&decide (p.op<=8)))||decide (p.conds.length=0))=b3 at g3 ⊢;generalize ((decide (p.op=3)||decide (p.op=9))||decide (p.exprs.length=0))=b4 at g4 ⊢;generalize (decide (p.op=10)||(decide (p.ah.length=0)&&decide (p.aA.length=0)))=b5 at g5 ⊢;generalize (decide (p.op=12)||(decide (p.op=13)||decide (p.keys.length=0)))=b6 at g6 ⊢;generalize (decide (p.op=13)||(decide (p.fr=0)&&decide (p.ct=0)))=b7 at g7 ⊢;cases b1
 ·simp[g1,g2,g3,g4,g5,g6,g7]
 cases b2
 ·simp[g1,g2,g3,g4,g5,g6,g7]
 cases b3
 ·simp[g1,g2,g3,g4,g5,g6,g7]
 cases b4
 ·simp[g1,g2,g3,g4,g5,g6,g7]
 cases b5
 ·simp[g1,g2,g3,g4,g5,g6,g7]
 cases b6
 ·simp[g1,g2,g3,g4,g5,g6,g7]
 cases b7
 ·simp[g1,g2,g3,g4,g5,g6,g7]
 simp[g1,g2,g3,g4,g5,g6,g7]
def qO(k:Ky):Bool:=bD k.col
theorem eH{α:Type}{p:α->Bool}{l:List α}{i:Nat}(h':i<l.length)(hA:∀j (hj:j<i) (h:j<l.length),p l[j]=true)(g:p l[i]=true):∀j (hj:j<i+1) (h:j<l.length),p l[j]=true:=fun j hj h=>by
 rcases qP (qQ hj)with h2|h2
 ·exact hA j h2 h
 ·subst h2;exact g
set_option maxHeartbeats 1000000 in
theorem qi(x:Pn)(hs:x.jO):call T NM [x.enc]=some (.v (.bool (kL x))):=by
 refine q139g (by simp) ?_;have he:=x.ay;have hlcols:x.ah.length<=9223372036854775807:=iq hs.ah (by decide);have hlaggs:x.aA.length<=9223372036854775807:=iq hs.aA (by decide);have hlkeys:x.keys.length<=9223372036854775807:=iq hs.keys (by decide);have t1:=eu x.table;have t2:=eu x.fr;have t3:=eu x.ct;have hB:kL x=((bD x.table&&(bD x.fr&&bD x.ct))&&(x.ah.all bD&&(x.aA.all j5&&x.keys.all qO))):=rfl;generalize kL x=B at hB ⊢;replace hB:=Hd.mk hB;have loop3:∀(en:Env) (s:ax) (q:Nat),B=x.keys.all qO->en 1=.ptr 1 1 0->en 6=i6 (0:Nat)->s 1=⟨1,true,some (.box x.enc),q⟩->
  wp T [It.lp uQ,It.bl 4,It.code ((IC.ops pU).seq IC.ret)] en s (fun e' s'=>aC e' s' [gQ.tmp 2]=some (.v (.bool B))):=by
  intro en s q hR e1 e4 s1;replace hR:=Hd.mk hR;refine av (σ:=Nat) (fun i en s=>en 1=.ptr 1 1 0/\en 6=i6 i/\(∃q,s 1=⟨1,true,some (.box x.enc),q⟩)/\i<=x.keys.length/\Hd (∀j (hj:j<i) (h:j<x.keys.length),qO x.keys[j]=true)) (fun i=>x.keys.length-i) ?_ 0 _ _
   ⟨e1,e4,⟨q,s1⟩,by omega,⟨fun _ h=>by omega⟩⟩
  rintro i en s ⟨e1,e4,⟨q,s1⟩,hi,hA⟩ ih;have s1':=s1;rw[he]at s1
  simp[e1,e4,s1];refine aj (fun h=>?_) (fun h=>?_)<;>(have h':=h;try simp at h')<;>(try simp[*])
  ·have hf:Hd (qO x.keys[i]=false->B=false):=⟨fun g=>by rw[hR.out,dz h' g]⟩
   have hg:Hd (qO x.keys[i]=true->∀j (hj:j<i+1) (h:j<x.keys.length),qO x.keys[j]=true):=⟨fun g=>eH h' hA.out g⟩
   have next:∀en' s' q',qO x.keys[i]=true->en' 1=.ptr 1 1 0->en' 6=i6 ((i+1:Nat):Int)->s' 1=⟨1,true,some (.box x.enc),q'⟩->wp T [It.lp uQ,It.bl 4,It.code ((IC.ops pU).seq IC.ret)] en' s' (fun e' s'=>aC e' s' [gQ.tmp 2]=some (.v (.bool B))):=fun en' s' q' g a b c=>
    ih.out (i+1) en' s' ⟨a,b,⟨q',c⟩,h',⟨hg.out g⟩⟩ (by omega)
   replace next:=Hd.mk next
   clear ih;have hc:=eu x.keys[i].col;have hv:qO x.keys[i]=bD x.keys[i].col:=rfl;rw[hv]at hf hg next
   generalize bD x.keys[i].col=b at hc hf hg next ⊢
   try simp[hc,e1,e4,s1]
   cases b
   ·simp[hf.out rfl]
   ·simp[e1,e4,s1];exact next.out _ _ q rfl (by simp[e1]) (by simp[ai h' hlkeys]) (by simp[s1',s1,he])
  ·have hn:x.keys.all qO=true:=bH (fun j hj=>hA.out j (by omega) hj);have hR':=hR.out;rw[hn]at hR'
   simp[hR']
 have loop2:∀(en:Env) (s:ax) (q:Nat),B=(x.aA.all j5&&x.keys.all qO)->en 1=.ptr 1 1 0->en 4=i6 (0:Nat)->s 1=⟨1,true,some (.box x.enc),q⟩->
  wp T [It.lp BR,It.bl 2,It.code (((IC.ops wM).seq (IC.block 4 (IC.loop uQ))).seq ((IC.ops pU).seq IC.ret))] en s (fun e' s'=>aC e' s' [gQ.tmp 2]=some (.v (.bool B))):=by
  intro en s q hR e1 e4 s1;replace hR:=Hd.mk hR;refine av (σ:=Nat) (fun i en s=>en 1=.ptr 1 1 0/\en 4=i6 i/\(∃q,s 1=⟨1,true,some (.box x.enc),q⟩)/\i<=x.aA.length/\Hd (∀j (hj:j<i) (h:j<x.aA.length),j5 x.aA[j]=true)) (fun i=>x.aA.length-i) ?_ 0 _ _
   ⟨e1,e4,⟨q,s1⟩,by omega,⟨fun _ h=>by omega⟩⟩
  rintro i en s ⟨e1,e4,⟨q,s1⟩,hi,hA⟩ ih;have s1':=s1;rw[he]at s1
  simp[e1,e4,s1];refine aj (fun h=>?_) (fun h=>?_)<;>(have h':=h;try simp at h')<;>(try simp[*])
  ·have hf:Hd (j5 x.aA[i]=false->B=false):=⟨fun g=>by rw[hR.out,dz h' g];rfl⟩
   have hg:Hd (j5 x.aA[i]=true->∀j (hj:j<i+1) (h:j<x.aA.length),j5 x.aA[j]=true):=⟨fun g=>eH h' hA.out g⟩
   have next:∀en' s' q',j5 x.aA[i]=true->en' 1=.ptr 1 1 0->en' 4=i6 ((i+1:Nat):Int)->s' 1=⟨1,true,some (.box x.enc),q'⟩->wp T [It.lp BR,It.bl 2,It.code (((IC.ops wM).seq (IC.block 4 (IC.loop uQ))).seq ((IC.ops pU).seq IC.ret))] en' s' (fun e' s'=>aC e' s' [gQ.tmp 2]=some (.v (.bool B))):=fun en' s' q' g a b c=>
    ih.out (i+1) en' s' ⟨a,b,⟨q',c⟩,h',⟨hg.out g⟩⟩ (by omega)
   replace next:=Hd.mk next
   clear ih;have hc:=eu x.aA[i].col;have hv:j5 x.aA[i]=(decide (x.aA[i].fn<=5)&&(bD x.aA[i].col&&(!decide (x.aA[i].fn=0)||(decide (x.aA[i].col=0)&&!x.aA[i].ZG)))):=rfl;generalize j5 x.aA[i]=v at hv hf hg next ⊢
   generalize bD x.aA[i].col=b at hc hv ⊢;generalize x.aA[i].ZG=d at hv ⊢;have bad:v=false->B=false:=hf.out;by_cases k1:x.aA[i].fn<=5
   ·have k1':¬5<x.aA[i].fn:=by omega
    cases b
    ·simp at hv;simp[hc,k1',e1,e4,s1,bad hv]
    ·by_cases k2:x.aA[i].fn=0
     ·by_cases k3:x.aA[i].col=0
      ·rw[k3]at hc
       cases d
       ·simp[k1,k2,k3]at hv
        simp[hc,k2,k3,e1,e4,s1];exact next.out _ _ q hv (by simp[e1]) (by simp[ai h' hlaggs]) (by simp[s1',s1,he])
       ·simp[k1,k2,k3]at hv
        simp[hc,k2,k3,e1,e4,s1,bad hv]
      ·simp[k1,k2,k3]at hv
       simp[hc,k2,k3,e1,e4,s1,bad hv]
     ·simp[k1,k2]at hv
      simp[hc,k1',k2,e1,e4,s1];exact next.out _ _ q hv (by simp[e1]) (by simp[ai h' hlaggs]) (by simp[s1',s1,he])
   ·have k1':5<x.aA[i].fn:=by omega
    simp[k1]at hv
    simp[k1',e1,e4,s1,bad hv]
  ·have hn:x.aA.all j5=true:=bH (fun j hj=>hA.out j (by omega) hj);have hR':=hR.out;rw[hn,Bool.true_and]at hR'
   exact loop3 _ _ q hR' (by simp[e1]) (by simp) (by simp[s1',s1,he])
 have loop1:∀(en:Env) (s:ax) (q:Nat),B=(x.ah.all bD&&(x.aA.all j5&&x.keys.all qO))->en 1=.ptr 1 1 0->en 3=i6 (0:Nat)->s 1=⟨1,true,some (.box x.enc),q⟩->
  wp T [It.lp La,It.bl 0,It.code (((IC.ops Lb).seq (IC.block 2 (IC.loop BR))).seq (((IC.ops wM).seq (IC.block 4 (IC.loop uQ))).seq ((IC.ops pU).seq IC.ret)))] en s (fun e' s'=>aC e' s' [gQ.tmp 2]=some (.v (.bool B))):=by
  intro en s q hR e1 e4 s1;replace hR:=Hd.mk hR;refine av (σ:=Nat) (fun i en s=>en 1=.ptr 1 1 0/\en 3=i6 i/\(∃q,s 1=⟨1,true,some (.box x.enc),q⟩)/\i<=x.ah.length/\Hd (∀j (hj:j<i) (h:j<x.ah.length),bD x.ah[j]=true)) (fun i=>x.ah.length-i) ?_ 0 _ _
   ⟨e1,e4,⟨q,s1⟩,by omega,⟨fun _ h=>by omega⟩⟩
  rintro i en s ⟨e1,e4,⟨q,s1⟩,hi,hA⟩ ih;have s1':=s1;rw[he]at s1
  simp[e1,e4,s1];refine aj (fun h=>?_) (fun h=>?_)<;>(have h':=h;try simp at h')<;>(try simp[*])
  ·have hf:Hd (bD x.ah[i]=false->B=false):=⟨fun g=>by rw[hR.out,dz h' g];rfl⟩
   have hg:Hd (bD x.ah[i]=true->∀j (hj:j<i+1) (h:j<x.ah.length),bD x.ah[j]=true):=⟨fun g=>eH h' hA.out g⟩
   have next:∀en' s' q',bD x.ah[i]=true->en' 1=.ptr 1 1 0->en' 3=i6 ((i+1:Nat):Int)->s' 1=⟨1,true,some (.box x.enc),q'⟩->wp T [It.lp La,It.bl 0,It.code (((IC.ops Lb).seq (IC.block 2 (IC.loop BR))).seq (((IC.ops wM).seq (IC.block 4 (IC.loop uQ))).seq ((IC.ops pU).seq IC.ret)))] en' s' (fun e' s'=>aC e' s' [gQ.tmp 2]=some (.v (.bool B))):=fun en' s' q' g a b c=>
    ih.out (i+1) en' s' ⟨a,b,⟨q',c⟩,h',⟨hg.out g⟩⟩ (by omega)
   replace next:=Hd.mk next
   clear ih;have hc:=eu x.ah[i];generalize bD x.ah[i]=b at hc hf hg next ⊢
   try simp[hc,e1,e4,s1]
   cases b
   ·simp[hf.out rfl]
   ·simp[e1,e4,s1];exact next.out _ _ q rfl (by simp[e1]) (by simp[ai h' hlcols]) (by simp[s1',s1,he])
  ·have hn:x.ah.all bD=true:=bH (fun j hj=>hA.out j (by omega) hj);have hR':=hR.out;rw[hn,Bool.true_and]at hR'
   exact loop2 _ _ q hR' (by simp[e1]) (by simp) (by simp[s1',s1,he])
 replace hB:=hB.out;generalize bD x.table=b1 at t1 hB;generalize bD x.fr=b2 at t2 hB;generalize bD x.ct=b3 at t3 hB;cases b1
 ·simp at hB;simp[he,t1,hB]
 cases b2
 ·simp at hB;simp[he,t1,t2,hB]
 cases b3
 ·simp at hB;simp[he,t1,t2,t3,hB]
 rw[Bool.true_and,Bool.true_and,Bool.true_and]at hB
 rw[he];simp[t1,t2,t3];exact loop1 _ _ 1 hB (by simp) (by simp) (by simp[he])
set_option maxHeartbeats 1000000 in
theorem QH(x:Ex)(hs:x.wX)(hkkids:∀k∈x.kids,call T rf [k.enc]=some (.v (.bool k.formed)))(hksub:∀k∈x.sub,call T yP [k.enc]=some (.v (.bool k.formed))) :
 call T rf [x.enc]=some (.v (.bool x.formed)):=by
 refine q124g (by simp) ?_;have he:=x.ay;have hlkids:x.kids.length<=9223372036854775807:=iq hs.kids (by decide);have hlsub:x.sub.length<=9223372036854775807:=iq hs.sub (by decide);have t1:=uj x hs;have hB:=Ex.kI x;generalize x.formed=B at hB ⊢;replace hB:=Hd.mk hB;have loop2:∀(en:Env) (s:ax) (q:Nat),B=x.sub.all Pn.formed->en 1=.ptr 1 1 0->en 4=i6 (0:Nat)->s 1=⟨1,true,some (.box x.enc),q⟩->
  wp T [It.lp BO,It.bl 2,It.code ((IC.ops wL).seq IC.ret)] en s (fun e' s'=>aC e' s' [gQ.tmp 2]=some (.v (.bool B))):=by
  intro en s q hR e1 e4 s1;replace hR:=Hd.mk hR;refine av (σ:=Nat) (fun i en s=>en 1=.ptr 1 1 0/\en 4=i6 i/\(∃q,s 1=⟨1,true,some (.box x.enc),q⟩)/\i<=x.sub.length/\Hd (∀j (hj:j<i) (h:j<x.sub.length),Pn.formed x.sub[j]=true)) (fun i=>x.sub.length-i) ?_ 0 _ _
   ⟨e1,e4,⟨q,s1⟩,by omega,⟨fun _ h=>by omega⟩⟩
  rintro i en s ⟨e1,e4,⟨q,s1⟩,hi,hA⟩ ih;have s1':=s1;rw[he]at s1
  simp[e1,e4,s1];refine aj (fun h=>?_) (fun h=>?_)<;>(have h':=h;try simp at h')<;>(try simp[*])
  ·have hf:Hd (Pn.formed x.sub[i]=false->B=false):=⟨fun g=>by rw[hR.out,dz h' g]⟩
   have hg:Hd (Pn.formed x.sub[i]=true->∀j (hj:j<i+1) (h:j<x.sub.length),Pn.formed x.sub[j]=true):=⟨fun g=>eH h' hA.out g⟩
   have next:∀en' s' q',Pn.formed x.sub[i]=true->en' 1=.ptr 1 1 0->en' 4=i6 ((i+1:Nat):Int)->s' 1=⟨1,true,some (.box x.enc),q'⟩->wp T [It.lp BO,It.bl 2,It.code ((IC.ops wL).seq IC.ret)] en' s' (fun e' s'=>aC e' s' [gQ.tmp 2]=some (.v (.bool B))):=fun en' s' q' g a b c=>
    ih.out (i+1) en' s' ⟨a,b,⟨q',c⟩,h',⟨hg.out g⟩⟩ (by omega)
   replace next:=Hd.mk next
   clear ih;have hc:=hksub x.sub[i] (gG h');have hke:=x.sub[i].ay;rw[hke]at hc
   simp only[hke];generalize Pn.formed x.sub[i]=b at hc hf hg next ⊢
   try simp[hc,e1,e4,s1]
   cases b
   ·simp[hf.out rfl]
   ·simp[e1,e4,s1];exact next.out _ _ q rfl (by simp[e1]) (by simp[ai h' hlsub]) (by simp[s1',s1,he])
  ·have hn:x.sub.all Pn.formed=true:=bH (fun j hj=>hA.out j (by omega) hj);have hR':=hR.out;rw[hn]at hR'
   simp[hR']
 have loop1:∀(en:Env) (s:ax) (q:Nat),B=(x.kids.all Ex.formed&&x.sub.all Pn.formed)->en 1=.ptr 1 1 0->en 3=i6 (0:Nat)->s 1=⟨1,true,some (.box x.enc),q⟩->
  wp T [It.lp K6,It.bl 0,It.code (((IC.ops K7).seq (IC.block 2 (IC.loop BO))).seq ((IC.ops wL).seq IC.ret))] en s (fun e' s'=>aC e' s' [gQ.tmp 2]=some (.v (.bool B))):=by
  intro en s q hR e1 e4 s1;replace hR:=Hd.mk hR;refine av (σ:=Nat) (fun i en s=>en 1=.ptr 1 1 0/\en 3=i6 i/\(∃q,s 1=⟨1,true,some (.box x.enc),q⟩)/\i<=x.kids.length/\Hd (∀j (hj:j<i) (h:j<x.kids.length),Ex.formed x.kids[j]=true)) (fun i=>x.kids.length-i) ?_ 0 _ _
   ⟨e1,e4,⟨q,s1⟩,by omega,⟨fun _ h=>by omega⟩⟩
  rintro i en s ⟨e1,e4,⟨q,s1⟩,hi,hA⟩ ih;have s1':=s1;rw[he]at s1
  simp[e1,e4,s1];refine aj (fun h=>?_) (fun h=>?_)<;>(have h':=h;try simp at h')<;>(try simp[*])
  ·have hf:Hd (Ex.formed x.kids[i]=false->B=false):=⟨fun g=>by rw[hR.out,dz h' g];rfl⟩
   have hg:Hd (Ex.formed x.kids[i]=true->∀j (hj:j<i+1) (h:j<x.kids.length),Ex.formed x.kids[j]=true):=⟨fun g=>eH h' hA.out g⟩
   have next:∀en' s' q',Ex.formed x.kids[i]=true->en' 1=.ptr 1 1 0->en' 3=i6 ((i+1:Nat):Int)->s' 1=⟨1,true,some (.box x.enc),q'⟩->wp T [It.lp K6,It.bl 0,It.code (((IC.ops K7).seq (IC.block 2 (IC.loop BO))).seq ((IC.ops wL).seq IC.ret))] en' s' (fun e' s'=>aC e' s' [gQ.tmp 2]=some (.v (.bool B))):=fun en' s' q' g a b c=>
    ih.out (i+1) en' s' ⟨a,b,⟨q',c⟩,h',⟨hg.out g⟩⟩ (by omega)
   replace next:=Hd.mk next
   clear ih;have hc:=hkkids x.kids[i] (gG h');have hke:=x.kids[i].ay;rw[hke]at hc
   simp only[hke];generalize Ex.formed x.kids[i]=b at hc hf hg next ⊢
   try simp[hc,e1,e4,s1]
   cases b
   ·simp[hf.out rfl]
   ·simp[e1,e4,s1];exact next.out _ _ q rfl (by simp[e1]) (by simp[ai h' hlkids]) (by simp[s1',s1,he])
  ·have hn:x.kids.all Ex.formed=true:=bH (fun j hj=>hA.out j (by omega) hj);have hR':=hR.out;rw[hn,Bool.true_and]at hR'
   exact loop2 _ _ q hR' (by simp[e1]) (by simp) (by simp[s1',s1,he])
 replace hB:=hB.out;generalize fU x.op x.v x.up x.n x.kids.length x.sub.length=b1 at t1 hB;rw[he]at t1
 cases b1
 ·simp at hB;simp[he,t1,hB]
 rw[Bool.true_and]at hB
 rw[he];simp[t1];exact loop1 _ _ 1 hB (by simp) (by simp) (by simp[he])
set_option maxHeartbeats 1000000 in
theorem QI(x:Pn)(hs:x.jO)(rows:call T Jm [x.enc]=some (.v (.bool (mY x.kinds x.rows))))(hkkids:∀k∈x.kids,call T yP [k.enc]=some (.v (.bool k.formed)))(hkconds:∀k∈x.conds,call T rf [k.enc]=some (.v (.bool k.formed)))(hkexprs:∀k∈x.exprs,call T rf [k.enc]=some (.v (.bool k.formed))) :
 call T yP [x.enc]=some (.v (.bool x.formed)):=by
 refine q123g (by simp) ?_;have he:=x.ay;have hlkids:x.kids.length<=9223372036854775807:=iq hs.kids (by decide);have hlconds:x.conds.length<=9223372036854775807:=iq hs.conds (by decide);have hlexprs:x.exprs.length<=9223372036854775807:=iq hs.exprs (by decide);have t1:=CX x;have t2:=AB x.op hs.op.1;have t3:=qi x hs;have hB:=Pn.kI x;have hP:nZ x=(decide (x.op<=16)&&(decide (x.kids.length=aR x.op)&&(jS x&&(kL x&&(mY x.kinds x.rows&&(!decide (x.op=9)||decide (x.exprs.length=1))))))):=rfl;rw[hP]at hB
 clear hP;generalize x.formed=B at hB ⊢;replace hB:=Hd.mk hB;have loop3:∀(en:Env) (s:ax) (q:Nat),B=x.exprs.all Ex.formed->en 1=.ptr 1 1 0->en 5=i6 (0:Nat)->s 1=⟨1,true,some (.box x.enc),q⟩->
  wp T [It.lp q9,It.bl 4,It.code ((IC.ops nM).seq IC.ret)] en s (fun e' s'=>aC e' s' [gQ.tmp 2]=some (.v (.bool B))):=by
  intro en s q hR e1 e4 s1;replace hR:=Hd.mk hR;refine av (σ:=Nat) (fun i en s=>en 1=.ptr 1 1 0/\en 5=i6 i/\(∃q,s 1=⟨1,true,some (.box x.enc),q⟩)/\i<=x.exprs.length/\Hd (∀j (hj:j<i) (h:j<x.exprs.length),Ex.formed x.exprs[j]=true)) (fun i=>x.exprs.length-i) ?_ 0 _ _
   ⟨e1,e4,⟨q,s1⟩,by omega,⟨fun _ h=>by omega⟩⟩
  rintro i en s ⟨e1,e4,⟨q,s1⟩,hi,hA⟩ ih;have s1':=s1;rw[he]at s1
  simp[e1,e4,s1];refine aj (fun h=>?_) (fun h=>?_)<;>(have h':=h;try simp at h')<;>(try simp[*])
  ·have hf:Hd (Ex.formed x.exprs[i]=false->B=false):=⟨fun g=>by rw[hR.out,dz h' g]⟩
   have hg:Hd (Ex.formed x.exprs[i]=true->∀j (hj:j<i+1) (h:j<x.exprs.length),Ex.formed x.exprs[j]=true):=⟨fun g=>eH h' hA.out g⟩
   have next:∀en' s' q',Ex.formed x.exprs[i]=true->en' 1=.ptr 1 1 0->en' 5=i6 ((i+1:Nat):Int)->s' 1=⟨1,true,some (.box x.enc),q'⟩->wp T [It.lp q9,It.bl 4,It.code ((IC.ops nM).seq IC.ret)] en' s' (fun e' s'=>aC e' s' [gQ.tmp 2]=some (.v (.bool B))):=fun en' s' q' g a b c=>
    ih.out (i+1) en' s' ⟨a,b,⟨q',c⟩,h',⟨hg.out g⟩⟩ (by omega)
   replace next:=Hd.mk next
   clear ih;have hc:=hkexprs x.exprs[i] (gG h');have hke:=x.exprs[i].ay;rw[hke]at hc
   simp only[hke];generalize Ex.formed x.exprs[i]=b at hc hf hg next ⊢
   try simp[hc,e1,e4,s1]
   cases b
   ·simp[hf.out rfl]
   ·simp[e1,e4,s1];exact next.out _ _ q rfl (by simp[e1]) (by simp[ai h' hlexprs]) (by simp[s1',s1,he])
  ·have hn:x.exprs.all Ex.formed=true:=bH (fun j hj=>hA.out j (by omega) hj);have hR':=hR.out;rw[hn]at hR'
   simp[hR']
 have loop2:∀(en:Env) (s:ax) (q:Nat),B=(x.conds.all Ex.formed&&x.exprs.all Ex.formed)->en 1=.ptr 1 1 0->en 4=i6 (0:Nat)->s 1=⟨1,true,some (.box x.enc),q⟩->
  wp T [It.lp xV,It.bl 2,It.code (((IC.ops sG).seq (IC.block 4 (IC.loop q9))).seq ((IC.ops nM).seq IC.ret))] en s (fun e' s'=>aC e' s' [gQ.tmp 2]=some (.v (.bool B))):=by
  intro en s q hR e1 e4 s1;replace hR:=Hd.mk hR;refine av (σ:=Nat) (fun i en s=>en 1=.ptr 1 1 0/\en 4=i6 i/\(∃q,s 1=⟨1,true,some (.box x.enc),q⟩)/\i<=x.conds.length/\Hd (∀j (hj:j<i) (h:j<x.conds.length),Ex.formed x.conds[j]=true)) (fun i=>x.conds.length-i) ?_ 0 _ _
   ⟨e1,e4,⟨q,s1⟩,by omega,⟨fun _ h=>by omega⟩⟩
  rintro i en s ⟨e1,e4,⟨q,s1⟩,hi,hA⟩ ih;have s1':=s1;rw[he]at s1
  simp[e1,e4,s1];refine aj (fun h=>?_) (fun h=>?_)<;>(have h':=h;try simp at h')<;>(try simp[*])
  ·have hf:Hd (Ex.formed x.conds[i]=false->B=false):=⟨fun g=>by rw[hR.out,dz h' g];rfl⟩
   have hg:Hd (Ex.formed x.conds[i]=true->∀j (hj:j<i+1) (h:j<x.conds.length),Ex.formed x.conds[j]=true):=⟨fun g=>eH h' hA.out g⟩
   have next:∀en' s' q',Ex.formed x.conds[i]=true->en' 1=.ptr 1 1 0->en' 4=i6 ((i+1:Nat):Int)->s' 1=⟨1,true,some (.box x.enc),q'⟩->wp T [It.lp xV,It.bl 2,It.code (((IC.ops sG).seq (IC.block 4 (IC.loop q9))).seq ((IC.ops nM).seq IC.ret))] en' s' (fun e' s'=>aC e' s' [gQ.tmp 2]=some (.v (.bool B))):=fun en' s' q' g a b c=>
    ih.out (i+1) en' s' ⟨a,b,⟨q',c⟩,h',⟨hg.out g⟩⟩ (by omega)
   replace next:=Hd.mk next
   clear ih;have hc:=hkconds x.conds[i] (gG h');have hke:=x.conds[i].ay;rw[hke]at hc
   simp only[hke];generalize Ex.formed x.conds[i]=b at hc hf hg next ⊢
   try simp[hc,e1,e4,s1]
   cases b
   ·simp[hf.out rfl]
   ·simp[e1,e4,s1];exact next.out _ _ q rfl (by simp[e1]) (by simp[ai h' hlconds]) (by simp[s1',s1,he])
  ·have hn:x.conds.all Ex.formed=true:=bH (fun j hj=>hA.out j (by omega) hj);have hR':=hR.out;rw[hn,Bool.true_and]at hR'
   exact loop3 _ _ q hR' (by simp[e1]) (by simp) (by simp[s1',s1,he])
 have loop1:∀(en:Env) (s:ax) (q:Nat),B=(x.kids.all Pn.formed&&(x.conds.all Ex.formed&&x.exprs.all Ex.formed))->en 1=.ptr 1 1 0->en 3=i6 (0:Nat)->s 1=⟨1,true,some (.box x.enc),q⟩->
  wp T [It.lp Fu,It.bl 0,It.code (((IC.ops zT).seq (IC.block 2 (IC.loop xV))).seq (((IC.ops sG).seq (IC.block 4 (IC.loop q9))).seq ((IC.ops nM).seq IC.ret)))] en s (fun e' s'=>aC e' s' [gQ.tmp 2]=some (.v (.bool B))):=by
  intro en s q hR e1 e4 s1;replace hR:=Hd.mk hR;refine av (σ:=Nat) (fun i en s=>en 1=.ptr 1 1 0/\en 3=i6 i/\(∃q,s 1=⟨1,true,some (.box x.enc),q⟩)/\i<=x.kids.length/\Hd (∀j (hj:j<i) (h:j<x.kids.length),Pn.formed x.kids[j]=true)) (fun i=>x.kids.length-i) ?_ 0 _ _
   ⟨e1,e4,⟨q,s1⟩,by omega,⟨fun _ h=>by omega⟩⟩
  rintro i en s ⟨e1,e4,⟨q,s1⟩,hi,hA⟩ ih;have s1':=s1;rw[he]at s1
  simp[e1,e4,s1];refine aj (fun h=>?_) (fun h=>?_)<;>(have h':=h;try simp at h')<;>(try simp[*])
  ·have hf:Hd (Pn.formed x.kids[i]=false->B=false):=⟨fun g=>by rw[hR.out,dz h' g];rfl⟩
   have hg:Hd (Pn.formed x.kids[i]=true->∀j (hj:j<i+1) (h:j<x.kids.length),Pn.formed x.kids[j]=true):=⟨fun g=>eH h' hA.out g⟩
   have next:∀en' s' q',Pn.formed x.kids[i]=true->en' 1=.ptr 1 1 0->en' 3=i6 ((i+1:Nat):Int)->s' 1=⟨1,true,some (.box x.enc),q'⟩->wp T [It.lp Fu,It.bl 0,It.code (((IC.ops zT).seq (IC.block 2 (IC.loop xV))).seq (((IC.ops sG).seq (IC.block 4 (IC.loop q9))).seq ((IC.ops nM).seq IC.ret)))] en' s' (fun e' s'=>aC e' s' [gQ.tmp 2]=some (.v (.bool B))):=fun en' s' q' g a b c=>
    ih.out (i+1) en' s' ⟨a,b,⟨q',c⟩,h',⟨hg.out g⟩⟩ (by omega)
   replace next:=Hd.mk next
   clear ih;have hc:=hkkids x.kids[i] (gG h');have hke:=x.kids[i].ay;rw[hke]at hc
   simp only[hke];generalize Pn.formed x.kids[i]=b at hc hf hg next ⊢
   try simp[hc,e1,e4,s1]
   cases b
   ·simp[hf.out rfl]
   ·simp[e1,e4,s1];exact next.out _ _ q rfl (by simp[e1]) (by simp[ai h' hlkids]) (by simp[s1',s1,he])
  ·have hn:x.kids.all Pn.formed=true:=bH (fun j hj=>hA.out j (by omega) hj);have hR':=hR.out;rw[hn,Bool.true_and]at hR'
   exact loop2 _ _ q hR' (by simp[e1]) (by simp) (by simp[s1',s1,he])
 replace hB:=hB.out;generalize jS x=b1 at t1 hB;generalize kL x=b2 at t3 hB;generalize mY x.kinds x.rows=b3 at rows hB;have rows':=rows;rw[he]at t1 t3 rows'
 by_cases h16:16<x.op
 ·have:¬x.op<=16:=by omega
  simp[this]at hB
  simp[he,h16,hB]
 have h16':x.op<=16:=by omega
 cases b1
 ·simp at hB;simp[he,h16,t1,hB]
 by_cases hkl:x.kids.length=aR x.op
 case neg=>
  have:¬(x.kids.length:Int)=(aR x.op:Nat):=by omega
  simp[hkl]at hB
  simp[he,h16,t1,t2,hkl,this,hB]
 have c1:(x.kids.length:Int)=(aR x.op:Nat):=by omega
 cases b2
 ·simp at hB;simp[he,h16,t1,t2,c1,t3,hB]
 cases b3
 ·simp at hB;simp[he,h16,t1,t2,c1,t3,rows',hB]
 have step:∀(en:Env) (s:ax) (q:Nat),en 1=.ptr 1 1 0->s 1=⟨1,true,some (.box x.enc),q⟩->wp T (.ops K5::.code (.cond (.t 41) (.seq (.ops TI) .ret) .skip)::.code (.seq (.seq (.ops TJ) (.block 0 (.loop Fu))) (.seq (.seq (.ops zT) (.block 2 (.loop xV))) (.seq (.seq (.ops sG) (.block 4 (.loop q9))) (.seq (.ops nM) .ret))))::[]) en s (fun e' s'=>aC e' s' [gQ.tmp 2]=some (.v (.bool B))):=by
  intro en s q e1 s1;have s1':=s1;rw[he]at s1
  by_cases h9:x.op=9
  ·by_cases h1:(x.exprs.length:Int)=1
   ·have h1':x.exprs.length=1:=by omega
    rw[decide_eq_true h16',decide_eq_true hkl,decide_eq_true h9,decide_eq_true h1']at hB
    rw[h9]at s1
    simp[e1,s1,h1];exact loop1 _ _ q (by rw[hB];rfl) (by simp[e1]) (by simp) (by simp[s1',he,s1])
   ·have h1':¬x.exprs.length=1:=by omega
    simp[h9,h1']at hB
    rw[h9]at s1
    simp[e1,s1,h1,hB]
  ·rw[decide_eq_true h16',decide_eq_true hkl,decide_eq_false h9]at hB
   simp[e1,s1,h9];exact loop1 _ _ q (by rw[hB];rfl) (by simp[e1]) (by simp) (by simp[s1',he,s1])
 simp only[TH];generalize hK:(IC.seq (IC.seq (.ops K5) _) _)=K;rw[he];simp[h16,t1,t2,c1,t3,rows'];subst hK;simp only[wp_seq,wp_ops];exact step _ _ 1 (by simp) (by simp[he])
def kindOk(k:Int):Bool:=decide (k<=3)
set_option maxHeartbeats 2000000 in
theorem ul(x:Pn)(hs:x.jO):call T Jm [x.enc]=some (.v (.bool (mY x.kinds x.rows))):=by
 refine q140g (by simp) ?_;have he:=x.ay;have hlkinds:x.kinds.length<=9223372036854775807:=iq hs.kinds (by decide);have hlrows:x.rows.length<=9223372036854775807:=iq hs.rows (by decide);have hB:mY x.kinds x.rows=(x.kinds.all kindOk&&x.rows.all (og x.kinds)):=rfl;generalize mY x.kinds x.rows=B at hB ⊢;replace hB:=Hd.mk hB;have loop2:∀(en:Env) (s:ax) (q:Nat),B=x.rows.all (og x.kinds)->en 1=.ptr 1 1 0->en 4=i6 (0:Nat)->s 1=⟨1,true,some (.box x.enc),q⟩->
  wp T [It.lp xW,It.bl 2,It.code ((IC.ops sH).seq IC.ret)] en s (fun e' s'=>aC e' s' [gQ.tmp 2]=some (.v (.bool B))):=by
  intro en s q hR e1 e4 s1;replace hR:=Hd.mk hR;refine av (σ:=Nat) (fun i en s=>en 1=.ptr 1 1 0/\en 4=i6 i/\(∃q,s 1=⟨1,true,some (.box x.enc),q⟩)/\i<=x.rows.length/\Hd (∀j (hj:j<i) (h:j<x.rows.length),(og x.kinds) x.rows[j]=true)) (fun i=>x.rows.length-i) ?_ 0 _ _
   ⟨e1,e4,⟨q,s1⟩,by omega,⟨fun _ h=>by omega⟩⟩
  rintro i en s ⟨e1,e4,⟨q,s1⟩,hi,hA⟩ ih;have s1':=s1;rw[he]at s1
  simp[e1,e4,s1];refine aj (fun h=>?_) (fun h=>?_)<;>(have h':=h;try simp at h')<;>(try simp[*])
  ·have hf:Hd ((og x.kinds) x.rows[i]=false->B=false):=⟨fun g=>by rw[hR.out,dz h' g]⟩
   have hg:Hd ((og x.kinds) x.rows[i]=true->∀j (hj:j<i+1) (h:j<x.rows.length),(og x.kinds) x.rows[j]=true):=⟨fun g=>eH h' hA.out g⟩
   have next:∀en' s' q',(og x.kinds) x.rows[i]=true->en' 1=.ptr 1 1 0->en' 4=i6 ((i+1:Nat):Int)->s' 1=⟨1,true,some (.box x.enc),q'⟩->wp T [It.lp xW,It.bl 2,It.code ((IC.ops sH).seq IC.ret)] en' s' (fun e' s'=>aC e' s' [gQ.tmp 2]=some (.v (.bool B))):=fun en' s' q' g a b c=>
    ih.out (i+1) en' s' ⟨a,b,⟨q',c⟩,h',⟨hg.out g⟩⟩ (by omega)
   replace next:=Hd.mk next
   clear ih;have hro:=hs.row x.rows[i] (gG h');have hrl:x.rows[i].length<=9223372036854775807:=iq hro.1 (by decide);have hrv:=hro.2;clear hro;generalize x.rows[i]=r at hf hg next hrl hrv ⊢
   try simp[e1,e4,s1]
   by_cases hn:r.length=x.kinds.length
   case neg=>
    have hn':¬(r.length:Int)=(x.kinds.length:Int):=by omega
    have hv:og x.kinds r=false:=by simp[og,hn]
    have hb:=hf.out hv;simp[hn,hn',e1,e4,s1,hb]
   have hv:og x.kinds r=jA (x.kinds.drop 0) (r.drop 0):=by simp[og,hn]
   rw[hv]at hf hg next
   generalize hC:jA (x.kinds.drop 0) (r.drop 0)=C at hf hg next
   replace hC:=Hd.mk hC;simp[hn,e1,e4,s1];replace hn:=Hd.mk hn;clear hv;refine av (σ:=Nat) (fun j en s=>en 1=.ptr 1 1 0/\en 4=i6 i/\en 5=.sl false (r.map Val.enc)/\en 6=i6 j/\(∃q,s 1=⟨1,true,some (.box x.enc),q⟩)/\j<=r.length/\Hd (jA (x.kinds.drop j) (r.drop j)=C)) (fun j=>r.length-j) ?_ 0 _ _
    ⟨by simp[e1],by simp[e4],by simp,by simp,⟨q,by simp[s1,he]⟩,by omega,hC⟩
   rintro j en s ⟨e1,e4,e5,e6,⟨q,s1⟩,hj,hD⟩ ih2;have s1':=s1;rw[he]at s1
   simp[e1,e4,e5,e6,s1];refine aj (fun d=>?_) (fun d=>?_)<;>(have d':=d;try simp at d')<;>(try simp[*])
   ·have hk:j<x.kinds.length:=by have:=hn.out;omega
    have hc:=lm r[j];replace hD:=Hd.mk ((yw hk d').symm.trans hD.out);have hcell:MP x.kinds[j] r[j]=(r[j].valid&&(decide (r[j].kind=0)||decide (r[j].kind=x.kinds[j]))):=rfl;rw[hcell]at hD
    clear hcell;have nx:∀e' s' q',Hd (jA (x.kinds.drop (j+1)) (r.drop (j+1))=C)->e' 1=.ptr 1 1 0->e' 4=i6 i->e' 5=.sl false (r.map Val.enc)->e' 6=i6 ((j+1:Nat):Int)->s' 1=⟨1,true,some (.box x.enc),q'⟩->wp T [It.lp Ub,It.bl 4,It.bl 3,It.code (IC.ops Uc),It.lp xW,It.bl 2,It.code ((IC.ops sH).seq IC.ret)] e' s' (fun e s=>aC e s [gQ.tmp 2]=some (.v (.bool B))):=by intro e' s' q' a b c d2 f g;exact ih2.out (j+1) e' s' ⟨b,c,d2,f,⟨q',g⟩,d',a⟩ (by omega)
    replace nx:=Hd.mk nx;generalize r[j].valid=b at hc hD ⊢
    try simp[hc,e1,e4,e5,e6,s1]
    cases b
    ·simp at hD;simp[hf.out hD.out]
    ·simp at hD;by_cases k0:r[j].kind=0
     ·simp[k0]at hD
      simp[k0,hk,d',e1,e4,e5,e6,s1];exact nx.out _ _ q hD (by simp[e1]) (by simp[e4]) (by simp[e5]) (by simp[ai d' hrl]) (by simp[s1',s1,he])
     ·by_cases k1:r[j].kind=x.kinds[j]
      ·simp[k1]at hD
       rw[k1]at k0
       simp[k0,k1,hk,d',e1,e4,e5,e6,s1];exact nx.out _ _ q hD (by simp[e1]) (by simp[e4]) (by simp[e5]) (by simp[ai d' hrl]) (by simp[s1',s1,he])
      ·simp[k0,k1]at hD
       simp[k0,k1,hk,d',e1,e4,e5,e6,s1,hf.out hD.out]
   ·have hE:=hD.out;rw[AX (by have:=hn.out;omega)]at hE
    try simp[e1,e4,s1]
    exact next.out _ _ q hE.symm (by simp[e1]) (by simp[ai h' hlrows]) (by simp[s1',s1,he])
  ·have hn:x.rows.all (og x.kinds)=true:=bH (fun j hj=>hA.out j (by omega) hj);have hR':=hR.out;rw[hn]at hR'
   simp[hR']
 have loop1:∀(en:Env) (s:ax) (q:Nat),B=(x.kinds.all kindOk&&x.rows.all (og x.kinds))->en 1=.ptr 1 1 0->en 3=i6 (0:Nat)->s 1=⟨1,true,some (.box x.enc),q⟩->
  wp T [It.lp Li,It.bl 0,It.code (((IC.ops Lj).seq (IC.block 2 (IC.loop xW))).seq ((IC.ops sH).seq IC.ret))] en s (fun e' s'=>aC e' s' [gQ.tmp 2]=some (.v (.bool B))):=by
  intro en s q hR e1 e4 s1;replace hR:=Hd.mk hR;refine av (σ:=Nat) (fun i en s=>en 1=.ptr 1 1 0/\en 3=i6 i/\(∃q,s 1=⟨1,true,some (.box x.enc),q⟩)/\i<=x.kinds.length/\Hd (∀j (hj:j<i) (h:j<x.kinds.length),kindOk x.kinds[j]=true)) (fun i=>x.kinds.length-i) ?_ 0 _ _
   ⟨e1,e4,⟨q,s1⟩,by omega,⟨fun _ h=>by omega⟩⟩
  rintro i en s ⟨e1,e4,⟨q,s1⟩,hi,hA⟩ ih;have s1':=s1;rw[he]at s1
  simp[e1,e4,s1];refine aj (fun h=>?_) (fun h=>?_)<;>(have h':=h;try simp at h')<;>(try simp[*])
  ·have hf:Hd (kindOk x.kinds[i]=false->B=false):=⟨fun g=>by rw[hR.out,dz h' g];rfl⟩
   have hg:Hd (kindOk x.kinds[i]=true->∀j (hj:j<i+1) (h:j<x.kinds.length),kindOk x.kinds[j]=true):=⟨fun g=>eH h' hA.out g⟩
   have next:∀en' s' q',kindOk x.kinds[i]=true->en' 1=.ptr 1 1 0->en' 3=i6 ((i+1:Nat):Int)->s' 1=⟨1,true,some (.box x.enc),q'⟩->wp T [It.lp Li,It.bl 0,It.code (((IC.ops Lj).seq (IC.block 2 (IC.loop xW))).seq ((IC.ops sH).seq IC.ret))] en' s' (fun e' s'=>aC e' s' [gQ.tmp 2]=some (.v (.bool B))):=fun en' s' q' g a b c=>
    ih.out (i+1) en' s' ⟨a,b,⟨q',c⟩,h',⟨hg.out g⟩⟩ (by omega)
   replace next:=Hd.mk next
   clear ih;have hv:kindOk x.kinds[i]=decide (x.kinds[i]<=3):=rfl;by_cases k:x.kinds[i]<=3
   ·have k':¬3<x.kinds[i]:=by omega
    rw[decide_eq_true k]at hv
    simp[k',e1,e4,s1];exact next.out _ _ q hv (by simp[e1]) (by simp[ai h' hlkinds]) (by simp[s1',s1,he])
   ·have k':3<x.kinds[i]:=by omega
    rw[decide_eq_false k]at hv
    have hb:=hf.out hv;simp[k',e1,e4,s1,hb]
  ·have hn:x.kinds.all kindOk=true:=bH (fun j hj=>hA.out j (by omega) hj);have hR':=hR.out;rw[hn,Bool.true_and]at hR'
   exact loop2 _ _ q hR' (by simp[e1]) (by simp) (by simp[s1',s1,he])
 rw[he];simp;exact loop1 _ _ 1 hB.out (by simp) (by simp) (by simp[he])
theorem Cm:(∀e:Ex,e.small->call T rf [e.enc]=some (.v (.bool e.formed)))/\(∀p:Pn,p.small->call T yP [p.enc]=some (.v (.bool p.formed))):=by
 refine d9 (fun e h1 h2 hs=>?_) (fun x h1 h2 h3 hs=>?_)
 ·have hs':=Ex.dH hs;exact QH e hs' (fun k hk=>h1 k hk (hs'.kid k hk)) (fun k hk=>h2 k hk (hs'.subs k hk))
 ·have hs':=Pn.dH hs;exact QI x hs' (ul x hs') (fun k hk=>h1 k hk (hs'.kid k hk)) (fun k hk=>h2 k hk (hs'.cond k hk)) (fun k hk=>h3 k hk (hs'.expr k hk))
end Go.Proofs.YtbmkfjmlepjpfaaGreatDoor
