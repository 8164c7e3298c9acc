/- A part of the proof. -/
import Derived.Test.YtbmkfjmlepjpfaaGreatDoorEa
set_option linter.all false
set_option maxRecDepth 100000
namespace Go.Proofs.YtbmkfjmlepjpfaaGreatDoor
open Go.RowKit
theorem Zh{n:Int}(h:ig n):(2147483647<IntKind.u64.wrap n)=(bD n=false):=by obtain⟨h1,h2⟩:=h;apply propext;simp only[bD,IntKind.wrap_u64,Bool.and_eq_false_iff,decide_eq_false_iff_not];omega
theorem gU(l:List Int)(hl:aV l)(hn:∀n∈l,ig n):call T JA [.sl false (l.map i6)]=some (.v (.bool (l.all bD))):=by
 refine q36g (by simp) ?_;have hl':l.length<=9223372036854775807:=iq hl (by decide);simp;refine av (σ:=Nat) (fun i e s=>e 5=.sl false (l.map i6)/\e 6=i6 l.length/\e 7=i6 i/\i<=l.length/\Hd (∀j (hj:j<i) (h:j<l.length),bD l[j]=true)) (fun i=>l.length-i) ?_ 0 _ _ ⟨by simp,by simp,by simp,by omega,⟨fun _ h=>by omega⟩⟩;rintro i e s ⟨h5,h6,h7,hi,hA⟩ ih;simp[h5,h6,h7];refine aj (fun h=>?_) (fun h=>?_)<;>(have h':=h;try simp at h')<;>(try simp[*])
 ·have hu:=Zh (hn l[i] (gG h'));have hf:Hd (bD l[i]=false->l.all bD=false):=⟨fun g=>dz h' g⟩
  have hg:Hd (bD l[i]=true->∀j (hj:j<i+1) (h:j<l.length),bD l[j]=true):=⟨fun g j hj h=>by
   rcases qP (qQ hj)with h2|h2
   ·exact hA.out j h2 h
   ·subst h2;exact g⟩
  generalize bD l[i]=b at hu hf hg ⊢;simp[hu,h5,h6,h7];cases b
  ·simp[hf.out rfl]
  ·simp[h5,h6,h7];refine ih.out (i+1) _ _ ?_ (by omega);exact⟨by simp[h5],by simp[h6],by simp[ai h' hl'],h',⟨hg.out rfl⟩⟩
 ·have hn:=bH (p:=bD) (l:=l) (fun j hj=>hA.out j (by omega) hj)
  first
  | exact hn.symm
  | (simp[hn])
  | (rw[oH]at hn;simpa using hn)
theorem Kc(k:Ky)(h:ig k.col):call T Uu [k.enc]=some (.v (.bool (bD k.col))):=by refine q20g (by simp) ?_;have hw:=gU [k.col] (by simp[aV]) (by simpa using h);simp only[ku,List.map_nil,List.all_cons,List.all_nil,Bool.and_true]at hw;simp[hw]
theorem Kg(a:Ag)(h:ig a.col):call T Uy [a.enc]=some (.v (.bool (j5 a))):=by
 refine q21g (by simp) ?_;have hw:=gU [a.col] (by simp[aV]) (by simpa using h);simp only[ku,List.map_nil,List.all_cons,List.all_nil,Bool.and_true]at hw;unfold j5;by_cases h1:a.fn<=5
 ·generalize bD a.col=b at hw ⊢;cases b
  ·simp[hw,h1]
  ·by_cases h0:a.fn=0
   ·simp[hw,h1,h0]
   ·simp[hw,h1,h0]
 ·simp[hw,h1]
theorem Kh(k:Int):call T Uz [u8 k]=some (.v (.bool (decide (k<=3)))):=by refine q22g (by simp) ?_;simp
theorem G5(k:Int):call T UF [u8 k]=some (.v (.bool (decide (k<=3)))):=by refine q29g (by simp) ?_;simp
def jV(op:Int):Nat:=if op=0 then 1 else if op=1 then 2 else if op=3\/op=9 then 8 else if op=10 then 16 else if op=12 then 32 else if op=13 then 96 else if op=11\/op=14\/op=15\/op=16 then 0 else 4
theorem y_(op:Int)(h:0<=op):call T Yg [u8 op]=some (.cZ [i6 (aR op:Nat),.v (.int .u64 (jV op:Nat))]):=by
 refine q31g (by simp) ?_;by_cases h0:op=0
 ·simp[h0,aR,jV]
 by_cases h1:op=1
 ·simp[h1,aR,jV]
 by_cases h2:op=2
 ·simp[h2,aR,jV]
 by_cases h3:op=3
 ·simp[h3,aR,jV]
 by_cases h10:op=10
 ·simp[h10,aR,jV]
 by_cases h11:op=11
 ·simp[h11,aR,jV]
 by_cases h12:op=12
 ·simp[h12,aR,jV]
 by_cases h13:op=13
 ·simp[h13,aR,jV]
 by_cases h9:op=9
 ·simp[h9,aR,jV]
 by_cases h14:op=14
 ·simp[h14,aR,jV]
 by_cases h15:op=15
 ·simp[h15,aR,jV]
 by_cases h16:op=16
 ·simp[h16,aR,jV]
 have k1:¬op<=1:=by omega
 have k2:¬(10<=op/\op<=13):=by omega
 have k3:10<=op->¬op<=13:=fun a b=>k2 ⟨a,b⟩;have e1:aR op=2:=by rw[aR,if_neg k1,if_neg (by omega)]
 simp[h0,h1,h2,h3,h9,h10,h11,h12,h13,h14,h15,h16,e1,jV]
def outF(F:Nat)(q0 q1 q2 q3 q4 q5 q6:Bool):Nat:=yZ q0 q1 q2 q3 q4 q5 q6-(yZ q0 q1 q2 q3 q4 q5 q6&&& F)
def fieldsB(op:Int)(q0 q1 q2 q3 q4 q5 q6:Bool):Bool:=
 (decide (op=0)||!q0)&&((decide (op=1)||!q1)&&((decide (op=2)||((decide (4<=op)&&decide (op<=8))||!q2))&&
  ((decide (op=3)||(decide (op=9)||!q3))&&((decide (op=10)||!q4)&&((decide (op=12)||(decide (op=13)||!q5))&&(decide (op=13)||!q6))))))
theorem GN(op:Int)(h0:0<=op)(h1:op<=16)(q0 q1 q2 q3 q4 q5 q6:Bool) :
 ∃z:Nat,(∀s:ax,h_ .andNot (.v (.int .u64 (yZ q0 q1 q2 q3 q4 q5 q6:Nat))) (.v (.int .u64 (jV op:Nat))) s=some (.v (.int .u64 z),s))/\decide (z=0)=fieldsB op q0 q1 q2 q3 q4 q5 q6:=by
 have key:∀F∈[0,1,2,4,8,16,32,96],∀q0 q1 q2 q3 q4 q5 q6:Bool,IntKind.u64.wrap (BitVec.ofInt IntKind.u64.bits (yZ q0 q1 q2 q3 q4 q5 q6:Nat)&&& ~~~(BitVec.ofInt IntKind.u64.bits (F:Nat))).toNat=(outF F q0 q1 q2 q3 q4 q5 q6:Nat):=by decide +kernel
 have key2:∀op:Fin 17,∀q0 q1 q2 q3 q4 q5 q6:Bool,jV (op.val:Int)∈[0,1,2,4,8,16,32,96]/\decide (outF (jV (op.val:Int)) q0 q1 q2 q3 q4 q5 q6=0)=fieldsB (op.val:Int) q0 q1 q2 q3 q4 q5 q6:=by decide +kernel
 have k3:=key2 ⟨op.toNat,by omega⟩ q0 q1 q2 q3 q4 q5 q6;have e:((op.toNat:Nat):Int)=op:=by omega
 simp only[e]at k3;have k1:=key _ k3.1 q0 q1 q2 q3 q4 q5 q6;refine⟨_,?_,k3.2⟩;have hb:jY .andNot (.int .u64 (yZ q0 q1 q2 q3 q4 q5 q6:Nat)) (.int .u64 (jV op:Nat))=some (.int .u64 (outF (jV op) q0 q1 q2 q3 q4 q5 q6:Nat)):=by rw[<-k1];rfl
 intro s;simp only[h_,hb]
theorem sP(ks:List Int):call T Ya [.sl false (ks.map u8)]=some (.fn Qx [.ip (.sl false (ks.map u8)) 0]):=by refine q18g (by simp) ?_;simp;simp[nI,mK,X.deep,aT]
set_option maxHeartbeats 400000 in
theorem CV(ks:List Int)(r:List Val)(hl:aV r)(ho:∀v∈r,v.ok):call T Qx [ql r,.ip (.sl false (ks.map u8)) 0]=some (.v (.bool (og ks r))):=by
 refine q19g (by simp) ?_;have hl':r.length<=9223372036854775807:=iq hl (by decide);by_cases hn:r.length=ks.length
 ·have hR:og ks r=jA (ks.drop 0) (r.drop 0):=by simp[og,hn]
  rw[hR];clear hR;generalize hR:jA (ks.drop 0) (r.drop 0)=R;replace hR:=Hd.mk hR;simp[hn];replace hn:=Hd.mk hn;refine av (σ:=Nat) (fun i e s=>e 1=.ip (.sl false (ks.map u8)) 0/\e 11=.sl false (r.map Val.enc)/\e 12=i6 r.length/\e 13=i6 i/\i<=r.length/\Hd (jA (ks.drop i) (r.drop i)=R)) (fun i=>r.length-i) ?_ 0 _ _ ⟨by simp,by simp,by simp[hn.out],by simp,by omega,hR⟩;rintro i e s ⟨h1,h11,h12,h13,hi,hA⟩ ih;simp[h1,h11,h12,h13];refine aj (fun h=>?_) (fun h=>?_)<;>(have h':=h;try simp at h')<;>(try simp[*])
  ·have hk:i<ks.length:=by have:=hn.out;omega
   have hv:=tL r[i] (ho r[i] (gG h'));replace hA:=Hd.mk ((yw hk h').symm.trans hA.out);have hcell:MP ks[i] r[i]=(r[i].valid&&(decide (r[i].kind=0)||decide (r[i].kind=ks[i]))):=rfl;rw[hcell]at hA
   clear hcell;have next:∀e' s',Hd (jA (ks.drop (i+1)) (r.drop (i+1))=R)->e' 1=.ip (.sl false (ks.map u8)) 0->e' 11=.sl false (r.map Val.enc)->e' 12=i6 r.length->e' 13=i6 ((i+1:Nat):Int)->wp T [It.lp abr,It.bl 0,It.code ((IC.ops abt).seq IC.ret)] e' s' (fun e s=>aC e s [gQ.tmp 3]=some (.v (.bool R))):=by intro e' s' a b c d f;exact ih.out (i+1) e' s' ⟨b,c,d,f,h',a⟩ (by omega)
   replace next:=Hd.mk next
   generalize r[i].valid=b at hv hA ⊢
   try simp[hv,h1,h11,h12,h13]
   cases b
   ·simp at hA;simp[hA.out]
   ·simp at hA;by_cases k0:r[i].kind=0
    ·simp[k0]at hA
     simp[k0,hk,h1,h11,h12,h13];exact next.out _ _ hA (by simp[h1]) (by simp[h11]) (by simp[h12]) (by simp[ai h' hl'])
    ·by_cases k1:r[i].kind=ks[i]
     ·simp[k1]at hA
      rw[k1]at k0
      simp[k0,k1,hk,h1,h11,h12,h13];exact next.out _ _ hA (by simp[h1]) (by simp[h11]) (by simp[h12]) (by simp[ai h' hl'])
     ·simp[k0,k1]at hA
      simp[k0,k1,hk,h1,h11,h12,h13,hA.out]
  ·have:=hA.out;rw[AX (by have:=hn.out;omega)]at this
   exact this.symm
 ·simp[og,hn]
theorem Am(p:Pn)(h:p.jO):call T UH [p.enc]=some (.v (.int .u64 ((yZ (decide (0<(p.kinds.length:Int)+p.rows.length)) (p.table != 0) (decide (0<p.conds.length)) (decide (0<p.exprs.length)) (decide (0<(p.ah.length:Int)+p.aA.length)) (decide (0<p.keys.length)) (p.fr != 0||p.ct != 0):Nat):Int))):=by
 have hT:T UH=some (.ext Er):=by kernel_rfl
 have h1:=h.kinds;have h2:=h.rows;have h3:=h.ah;have h4:=h.aA;simp only[aV]at h1 h2 h3 h4;have hc:call T UH [p.enc]=Er [p.enc]:=by rw[p.ay];simp only[call,jG,hT]
 rw[hc,p.ay];simp only[Er,Bq,List.length_map];rw[if_pos ⟨by omega,by omega⟩]
theorem Wj(a b:Nat):(!decide (0<(a:Int)+b))=(decide (a=0)&&decide (b=0)):=by
 by_cases h:a=0
 ·by_cases h':b=0
  ·simp[h,h']
  ·have:0<(a:Int)+b:=by omega
   simp[this,h']
 ·have:0<(a:Int)+b:=by omega
  simp[this,h]
theorem Iw(p:Pn):jS p=fieldsB p.op (decide (0<(p.kinds.length:Int)+p.rows.length)) (p.table != 0) (decide (0<p.conds.length)) (decide (0<p.exprs.length)) (decide (0<(p.ah.length:Int)+p.aA.length)) (decide (0<p.keys.length)) (p.fr != 0||p.ct != 0):=by
 have n1:∀n:Nat,(!decide (0<n))=decide (n=0):=fun n=>by cases n<;>simp
 have n2:∀n:Int,(!(n != 0))=decide (n=0):=fun n=>by by_cases h:n=0<;>simp[h]
 have n3:(!(p.fr != 0||p.ct != 0))=(decide (p.fr=0)&&decide (p.ct=0)):=by rw[Bool.not_or,n2,n2]
 simp only[jS,fieldsB,Wj,n1,n2,n3]
set_option maxHeartbeats 4000000 in
theorem EU(e:Ex)(hs:e.wX)(hk:∀k∈e.kids,call T wR [k.enc]=some (.v (.bool k.formed)))(hp:∀k∈e.sub,call T BX [k.enc]=some (.v (.bool k.formed))) :
 call T wR [e.enc]=some (.v (.bool e.formed)):=by
 have a1:=ug e.kids hs.kids wR Ex.formed hk;have a2:=Ap e.sub hs.sub BX Pn.formed hp;refine q17g (by simp) ?_;have he:=e.ay;have cv:call T Ci [.agg [.v (.int .u8 e.vk),.v (.int .i64 e.vi),.v (.string e.vs)]]=some (.v (.bool e.v.valid)):=tL e.v hs.vi;have cw:=gU [e.up,e.n] (by simp[aV]) (by intro n hn;simp at hn;rcases hn with rfl|rfl;exact hs.up;exact hs.n);simp only[ku,List.map_nil,List.all_cons,List.all_nil,Bool.and_true]at cw;rw[Ex.kI];generalize hA:(e.kids.all Ex.formed&&e.sub.all Pn.formed)=A;have hZ:e.v.isZero=(decide (e.vk=0)&&(decide (e.vi=0)&&e.vs.toList.isEmpty)):=rfl;have hop:=hs.op;by_cases h0:e.op=0
 ·rw[h0]at he
  have hn:fU e.op e.v e.up e.n e.kids.length e.sub.length=(e.v.valid&&(decide (e.up=0)&&(decide (e.n=0)&&(decide (e.sub.length=0)&&decide (e.kids.length=0))))):=by simp[fU,h0,fD,Bool.and_assoc]
  rw[hn];clear hn;generalize e.v.valid=b at cv ⊢;cases b
  ·simp[he,cv]
  by_cases u:e.up=0
  ·by_cases n:e.n=0
   ·by_cases k:e.kids=[]
    ·by_cases s:e.sub=[]
     ·rw[k]at hA a1
      rw[s]at hA a2
      simp at hA a1 a2;subst hA;simp[he,cv,u,n,k,s,a1,a2]
     ·have s':¬e.sub.length=0:=by simpa using s
      simp[he,cv,u,n,k,s,s']
    ·have k':¬e.kids.length=0:=by simpa using k
     simp[he,cv,u,n,k,k']
   ·simp[he,cv,u,n]
  ·simp[he,cv,u]
 by_cases h2:e.op=2
 ·rw[h2]at he
  have hn:fU e.op e.v e.up e.n e.kids.length e.sub.length=(e.v.isZero&&((bD e.up&&bD e.n)&&(decide (e.sub.length=0)&&decide (e.kids.length=0)))):=by simp[fU,h2,fD,Bool.and_assoc]
  rw[hn,hZ];clear hn;generalize (bD e.up&&bD e.n)=b at cw ⊢;cases b
  ·simp[he,cw]
  by_cases z1:e.vk=0
  ·by_cases z2:e.vi=0
   ·by_cases z3:e.vs.toList.isEmpty=true
    ·by_cases k:e.kids=[]
     ·by_cases s:e.sub=[]
      ·rw[k]at hA a1
       rw[s]at hA a2
       simp at hA a1 a2;subst hA;simp[he,cw,z1,z2,z3,k,s,a1,a2]
      ·have s':¬e.sub.length=0:=by simpa using s
       simp[he,cw,z1,z2,z3,k,s,s']
     ·have k':¬e.kids.length=0:=by simpa using k
      simp[he,cw,z1,z2,z3,k,k']
    ·simp[he,cw,z1,z2,z3]
   ·simp[he,cw,z1,z2]
  ·simp[he,cw,z1]
 by_cases h1:e.op=1
 ·rw[h1]at he
  simp[he,fU,h1]
 by_cases h3:e.op=3
 ·rw[h3]at he
  simp[he,fU,h3]
 by_cases h29:29<e.op
 ·have h28:¬e.op=28:=by omega
  have h27:¬e.op=27:=by omega
  have h29':¬e.op=29:=by omega
  have h29'':¬e.op<=29:=by omega
  simp[he,fU,h0,h1,h2,h3,h28,h27,h29,h29',h29'']
 have h29'':e.op<=29:=by omega
 have g2:2<e.op:=by omega
 by_cases hso:fD e.op=true
 ·have hso':e.op=27\/e.op=28\/e.op=29:=by simp[fD]at hso;omega
  by_cases h28:e.op=28
  ·rw[h28]at he
   have hn:fU e.op e.v e.up e.n e.kids.length e.sub.length=(e.v.isZero&&(decide (e.up=0)&&(decide (e.n=0)&&(decide (e.sub.length=1)&&decide (e.kids.length=1))))):=by simp[fU,h28,fD,Bool.and_assoc]
   rw[hn,hZ];clear hn;by_cases k:e.kids.length=1
   ·by_cases s:e.sub.length=1
    ·by_cases z1:e.vk=0
     ·by_cases z2:e.vi=0
      ·by_cases z3:e.vs.toList.isEmpty=true
       ·by_cases u:e.up=0
        ·by_cases n:e.n=0
         ·generalize e.kids.all Ex.formed=x at a1 hA;generalize e.sub.all Pn.formed=y at a2 hA;subst hA;cases x<;>cases y<;>simp[he,k,s,z1,z2,z3,u,n,a1,a2]
         ·simp[he,k,s,z1,z2,z3,u,n]
        ·simp[he,k,s,z1,z2,z3,u]
       ·simp[he,k,s,z1,z2,z3]
      ·simp[he,k,s,z1,z2]
     ·simp[he,k,s,z1]
    ·have s2:¬(e.sub.length:Int)=1:=by omega
     simp[he,k,s,s2]
   ·have s2:¬(e.kids.length:Int)=1:=by omega
    simp[he,k,s2]
  ·have hn:fU e.op e.v e.up e.n e.kids.length e.sub.length=(e.v.isZero&&(decide (e.up=0)&&(decide (e.n=0)&&(decide (e.sub.length=1)&&decide (e.kids.length=0))))):=by simp[fU,h0,h1,h2,h3,h28,hso,h29'',Bool.and_assoc]
   rw[hn,hZ];clear hn;have h2729:e.op=27\/e.op=29:=by omega
   rcases h2729 with hh|hh
   all_goals
    rw[hh]at he
    by_cases k:e.kids.length=0
    ·have k':e.kids=[]:=by simpa using k
     by_cases s:e.sub.length=1
     ·by_cases z1:e.vk=0
      ·by_cases z2:e.vi=0
       ·by_cases z3:e.vs.toList.isEmpty=true
        ·by_cases u:e.up=0
         ·by_cases n:e.n=0
          ·generalize e.kids.all Ex.formed=x at a1 hA;generalize e.sub.all Pn.formed=y at a2 hA;subst hA;cases x<;>cases y<;>simp[he,k,s,z1,z2,z3,u,n,a1,a2]
          ·simp[he,k,s,z1,z2,z3,u,n]
         ·simp[he,k,s,z1,z2,z3,u]
        ·simp[he,k,s,z1,z2,z3]
       ·simp[he,k,s,z1,z2]
      ·simp[he,k,s,z1]
     ·have s2:¬(e.sub.length:Int)=1:=by omega
      simp[he,k,s,s2]
    ·simp[he,k]
 ·have hno:¬e.op=27/\¬e.op=28/\¬e.op=29:=by simp[fD]at hso;omega
  obtain⟨n27,n28,n29⟩:=hno;have n29':¬29<e.op:=by omega
  have hn:fU e.op e.v e.up e.n e.kids.length e.sub.length=(e.v.isZero&&(decide (e.up=0)&&(decide (e.n=0)&&decide (e.sub.length=0)))):=by simp[fU,h0,h1,h2,h3,n28,hso,h29'',Bool.and_assoc]
  rw[hn,hZ];clear hn;by_cases s:e.sub=[]
  ·have s':e.sub.length=0:=by simpa using s
   by_cases z1:e.vk=0
   ·by_cases z2:e.vi=0
    ·by_cases z3:e.vs.toList.isEmpty=true
     ·by_cases u:e.up=0
      ·by_cases n:e.n=0
       ·generalize e.kids.all Ex.formed=x at a1 hA;generalize e.sub.all Pn.formed=y at a2 hA;subst hA;cases x<;>cases y<;>simp[he,h0,h1,h2,h3,n27,n28,n29,n29',g2,s',z1,z2,z3,u,n,a1,a2]
       ·simp[he,h0,h1,h2,h3,n27,n28,n29,n29',g2,s',z1,z2,z3,u,n]
      ·simp[he,h0,h1,h2,h3,n27,n28,n29,n29',g2,s',z1,z2,z3,u]
     ·simp[he,h0,h1,h2,h3,n27,n28,n29,n29',g2,s',z1,z2,z3]
    ·simp[he,h0,h1,h2,h3,n27,n28,n29,n29',g2,s',z1,z2]
   ·simp[he,h0,h1,h2,h3,n27,n28,n29,n29',g2,s',z1]
  ·have s':¬e.sub.length=0:=by simpa using s
   simp[he,h0,h1,h2,h3,n27,n28,n29,n29',g2,s']
set_option maxHeartbeats 4000000 in
theorem EW(p:Pn)(hs:p.jO)(hk:∀k∈p.kids,call T BX [k.enc]=some (.v (.bool k.formed)))(hc:∀k∈p.conds,call T wR [k.enc]=some (.v (.bool k.formed)))(he:∀k∈p.exprs,call T wR [k.enc]=some (.v (.bool k.formed))) :
 call T BX [p.enc]=some (.v (.bool p.formed)):=by
 have a1:=Ap p.kids hs.kids BX Pn.formed hk;have a2:=ug p.conds hs.conds wR Ex.formed hc;have a3:=ug p.exprs hs.exprs wR Ex.formed he;have a4:=Pf p.keys hs.keys Uu (fun k=>bD k.col) (fun k hk=>Kc k (hs.key k hk));have a5:=Pe p.aA hs.aA Uy j5 (fun k hk=>Kg k (hs.agg k hk));have a6:=Ao p.kinds hs.kinds Uz (fun k=>decide (k<=3)) (fun k hk=>Kh k);have a7:=Pg p.kinds p.rows hs.rows Qx (og p.kinds) (fun r hr=>CV p.kinds r (hs.row r hr).1 (hs.row r hr).2);have a8:=sP p.kinds;have a9:=y_ p.op hs.op.1;have b1:=gU [p.table,p.fr,p.ct] (by simp[aV]) (by intro n hn;simp at hn;rcases hn with rfl|rfl|rfl;exact hs.table;exact hs.fr;exact hs.ct);have b2:=gU p.ah hs.ah hs.col;have b3:=Am p hs;simp only[ku,List.map_nil,List.all_cons,List.all_nil,Bool.and_true]at b1;refine q16g (by simp) ?_;have hen:=p.ay;have hR:p.formed=(nZ p&&(p.kids.all Pn.formed&&(p.conds.all Ex.formed&&p.exprs.all Ex.formed))):=Pn.kI p;have hP:nZ p=(decide (p.op<=16)&&(decide (p.kids.length=aR p.op)&&(jS p&&(((bD p.table&&(bD p.fr&&bD p.ct))&&(p.ah.all bD&&(p.aA.all j5&&p.keys.all fun k=>bD k.col)))&&((p.kinds.all (fun k=>decide (k<=3))&&p.rows.all (og p.kinds))&&(!decide (p.op=9)||decide (p.exprs.length=1))))))):=rfl;rw[hP]at hR
 clear hP hk hc he;generalize p.formed=R at hR ⊢;generalize (bD p.table&&(bD p.fr&&bD p.ct))=B1 at b1 hR;generalize p.ah.all bD=B2 at b2 hR;generalize p.aA.all j5=B3 at a5 hR;generalize (p.keys.all fun k=>bD k.col)=B4 at a4 hR;generalize p.kinds.all (fun k=>decide (k<=3))=B5 at a6 hR;generalize p.rows.all (og p.kinds)=B6 at a7 hR;generalize p.kids.all Pn.formed=B7 at a1 hR;generalize p.conds.all Ex.formed=B8 at a2 hR;generalize p.exprs.all Ex.formed=B9 at a3 hR;by_cases h16:16<p.op
 ·have:¬p.op<=16:=by omega
  simp[this]at hR
  subst hR;simp[hen,a9,h16]
 have h16':p.op<=16:=by omega
 by_cases hkl:p.kids.length=aR p.op
 case neg=>
  have:¬(p.kids.length:Int)=(aR p.op:Nat):=by omega
  simp[hkl]at hR
  subst hR;simp[hen,a9,h16,hkl,this]
 obtain⟨z,hz,hz'⟩:=GN p.op hs.op.1 h16' (decide (0<(p.kinds.length:Int)+p.rows.length)) (p.table != 0) (decide (0<p.conds.length)) (decide (0<p.exprs.length)) (decide (0<(p.ah.length:Int)+p.aA.length)) (decide (0<p.keys.length)) (p.fr != 0||p.ct != 0);rw[<-Iw]at hz'
 generalize yZ (decide (0<(p.kinds.length:Int)+p.rows.length)) (p.table != 0) (decide (0<p.conds.length)) (decide (0<p.exprs.length)) (decide (0<(p.ah.length:Int)+p.aA.length)) (decide (0<p.keys.length)) (p.fr != 0||p.ct != 0)=U at b3 hz;rw[<-hz']at hR
 rw[hen]at b3
 have c1:(p.kids.length:Int)=(aR p.op:Nat):=by omega
 by_cases hz0:z=0
 case neg=>
  simp[hz0]at hR
  subst hR;simp[hen,a9,h16,c1,b3,hz,hz0]
 subst hz0;simp[h16',hkl]at hR
 by_cases h9:p.op=9
 ·simp only[h9]at a9 hen b3 hz c1 hR;have g16:¬(16:Int)<9:=by decide
  clear h16 h16';by_cases h91:p.exprs.length=1
  case neg=>
   have h91':¬(p.exprs.length:Int)=1:=by omega
   simp[h91]at hR
   subst hR;simp[hen,a9,c1,b3,hz,h91']
  have h91':(p.exprs.length:Int)=1:=by omega
  simp[h91]at hR
  cases B1
  ·simp at hR;subst hR;simp[hen,a9,c1,b3,hz,b1,b2,a1,a2,a3,a4,a5,a6,a7,a8,h91,h91']
  cases B2
  ·simp at hR;subst hR;simp[hen,a9,c1,b3,hz,b1,b2,a1,a2,a3,a4,a5,a6,a7,a8,h91,h91']
  cases B4
  ·simp at hR;subst hR;simp[hen,a9,c1,b3,hz,b1,b2,a1,a2,a3,a4,a5,a6,a7,a8,h91,h91']
  cases B3
  ·simp at hR;subst hR;simp[hen,a9,c1,b3,hz,b1,b2,a1,a2,a3,a4,a5,a6,a7,a8,h91,h91']
  cases B5
  ·simp at hR;subst hR;simp[hen,a9,c1,b3,hz,b1,b2,a1,a2,a3,a4,a5,a6,a7,a8,h91,h91']
  cases B6
  ·simp at hR;subst hR;simp[hen,a9,c1,b3,hz,b1,b2,a1,a2,a3,a4,a5,a6,a7,a8,h91,h91']
  cases B7
  ·simp at hR;subst hR;simp[hen,a9,c1,b3,hz,b1,b2,a1,a2,a3,a4,a5,a6,a7,a8,h91,h91']
  cases B8
  ·simp at hR;subst hR;simp[hen,a9,c1,b3,hz,b1,b2,a1,a2,a3,a4,a5,a6,a7,a8,h91,h91']
  cases B9
  ·simp at hR;subst hR;simp[hen,a9,c1,b3,hz,b1,b2,a1,a2,a3,a4,a5,a6,a7,a8,h91,h91']
  simp at hR;subst hR;simp[hen,a9,c1,b3,hz,b1,b2,a1,a2,a3,a4,a5,a6,a7,a8,h91,h91']
 simp[h9]at hR
 cases B1
 ·simp at hR;subst hR;simp[hen,a9,h16,c1,b3,hz,b1,b2,a1,a2,a3,a4,a5,a6,a7,a8,h9]
 cases B2
 ·simp at hR;subst hR;simp[hen,a9,h16,c1,b3,hz,b1,b2,a1,a2,a3,a4,a5,a6,a7,a8,h9]
 cases B4
 ·simp at hR;subst hR;simp[hen,a9,h16,c1,b3,hz,b1,b2,a1,a2,a3,a4,a5,a6,a7,a8,h9]
 cases B3
 ·simp at hR;subst hR;simp[hen,a9,h16,c1,b3,hz,b1,b2,a1,a2,a3,a4,a5,a6,a7,a8,h9]
 cases B5
 ·simp at hR;subst hR;simp[hen,a9,h16,c1,b3,hz,b1,b2,a1,a2,a3,a4,a5,a6,a7,a8,h9]
 cases B6
 ·simp at hR;subst hR;simp[hen,a9,h16,c1,b3,hz,b1,b2,a1,a2,a3,a4,a5,a6,a7,a8,h9]
 cases B7
 ·simp at hR;subst hR;simp[hen,a9,h16,c1,b3,hz,b1,b2,a1,a2,a3,a4,a5,a6,a7,a8,h9]
 cases B8
 ·simp at hR;subst hR;simp[hen,a9,h16,c1,b3,hz,b1,b2,a1,a2,a3,a4,a5,a6,a7,a8,h9]
 cases B9
 ·simp at hR;subst hR;simp[hen,a9,h16,c1,b3,hz,b1,b2,a1,a2,a3,a4,a5,a6,a7,a8,h9]
 simp at hR;subst hR;simp[hen,a9,h16,c1,b3,hz,b1,b2,a1,a2,a3,a4,a5,a6,a7,a8,h9]
theorem IE:(∀e:Ex,e.small->call T wR [e.enc]=some (.v (.bool e.formed)))/\(∀p:Pn,p.small->call T BX [p.enc]=some (.v (.bool p.formed))):=by
 refine d9 (fun e h1 h2 hs=>?_) (fun x h1 h2 h3 hs=>?_)
 ·have hs':=Ex.dH hs;exact EU e hs' (fun k hk=>h1 k hk (hs'.kid k hk)) (fun k hk=>h2 k hk (hs'.subs k hk))
 ·have hs':=Pn.dH hs;exact EW x hs' (fun k hk=>h1 k hk (hs'.kid k hk)) (fun k hk=>h2 k hk (hs'.cond k hk)) (fun k hk=>h3 k hk (hs'.expr k hk))
end Go.Proofs.YtbmkfjmlepjpfaaGreatDoor
