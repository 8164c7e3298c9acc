/- A part of the proof. -/
import Derived.Test.YtbmkfjmlepjpfaaGreatDoorEa
set_option linter.all false
set_option maxRecDepth 100000
namespace Go.Proofs.YtbmkfjmlepjpfaaGreatDoor
open Go.RowKit
theorem Zv{n:Int}(h:gI n):(2147483647<IntKind.u64.wrap n)=(aZ n=false):=by obtain⟨h1,h2⟩:=h;apply propext;simp only[aZ,IntKind.wrap_u64,Bool.and_eq_false_iff,decide_eq_false_iff_not];omega
theorem fJ(l:List Int)(hl:aS l)(hn:∀n∈l,gI n):call T FL [.sl false (l.map i6)]=some (.v (.bool (l.all aZ))):=by
 refine q36g (by simp) ?_;have hl':l.length<=9223372036854775807:=gJ hl (by decide);simp;refine av (σ:=Nat) (fun i e s=>e 5=.sl false (l.map i6)/\e 6=i6 l.length/\e 7=i6 i/\i<=l.length/\Hd (∀j (hj:j<i) (h:j<l.length),aZ l[j]=true)) (fun i=>l.length-i) ?_ 0 _ _ ⟨by simp,by simp,by simp,by omega,⟨fun _ h=>by omega⟩⟩;rintro i e s ⟨h5,h6,h7,hi,hA⟩ ih;simp[h5,h6,h7];refine aj (fun h=>?_) (fun h=>?_)<;>(have h':=h;try simp at h')<;>(try simp[*])
 ·have hu:=Zv (hn l[i] (List.getElem_mem h'));have hf:Hd (aZ l[i]=false->l.all aZ=false):=⟨fun g=>bT h' g⟩
  have hg:Hd (aZ l[i]=true->∀j (hj:j<i+1) (h:j<l.length),aZ l[j]=true):=⟨fun g j hj h=>by
   rcases Nat.lt_or_eq_of_le (Nat.le_of_lt_succ hj)with h2|h2
   ·exact hA.out j h2 h
   ·subst h2;exact g⟩
  generalize aZ l[i]=b at hu hf hg ⊢;simp[hu,h5,h6,h7];cases b
  ·simp[hf.out rfl]
  ·simp[h5,h6,h7];refine ih.out (i+1) _ _ ?_ (by omega);exact⟨by simp[h5],by simp[h6],by simp[ai h' hl'],h',⟨hg.out rfl⟩⟩
 ·have hn:=bg (p:=aZ) (l:=l) (fun j hj=>hA.out j (by omega) hj)
  first
  | exact hn.symm
  | (simp[hn])
  | (rw[nk]at hn;simpa using hn)
theorem Gp(k:Ky)(h:gI k.col):call T QH [k.enc]=some (.v (.bool (aZ k.col))):=by refine q20g (by simp) ?_;have hw:=fJ [k.col] (by simp[aS]) (by simpa using h);simp only[List.map_cons,List.map_nil,List.all_cons,List.all_nil,Bool.and_true]at hw;simp[hw]
theorem Gq(a:Ag)(h:gI a.col):call T QK [a.enc]=some (.v (.bool (jB a))):=by
 refine q21g (by simp) ?_;have hw:=fJ [a.col] (by simp[aS]) (by simpa using h);simp only[List.map_cons,List.map_nil,List.all_cons,List.all_nil,Bool.and_true]at hw;unfold jB;by_cases h1:a.fn<=5
 ·generalize aZ a.col=b at hw ⊢;cases b
  ·simp[hw,h1]
  ·by_cases h0:a.fn=0
   ·simp[hw,h1,h0]
   ·simp[hw,h1,h0]
 ·simp[hw,h1]
theorem Gt(k:Int):call T QL [u8 k]=some (.v (.bool (decide (k<=3)))):=by refine q22g (by simp) ?_;simp
theorem DW(k:Int):call T QT [u8 k]=some (.v (.bool (decide (k<=3)))):=by refine q29g (by simp) ?_;simp
def jr(op:Int):Nat:=if op=0 then 1 else if op=1 then 2 else if op=3\/op=9 then 8 else if op=10 then 16 else if op=12 then 32 else if op=13 then 96 else if op=11\/op=14\/op=15\/op=16 then 0 else 4
theorem wW(op:Int)(h:0<=op):call T Yr [u8 op]=some (.bU [i6 (aN op:Nat),.v (.int .u64 (jr op:Nat))]):=by
 refine q31g (by simp) ?_;by_cases h0:op=0
 ·simp[h0,aN,jr]
 by_cases h1:op=1
 ·simp[h1,aN,jr]
 by_cases h2:op=2
 ·simp[h2,aN,jr]
 by_cases h3:op=3
 ·simp[h3,aN,jr]
 by_cases h10:op=10
 ·simp[h10,aN,jr]
 by_cases h11:op=11
 ·simp[h11,aN,jr]
 by_cases h12:op=12
 ·simp[h12,aN,jr]
 by_cases h13:op=13
 ·simp[h13,aN,jr]
 by_cases h9:op=9
 ·simp[h9,aN,jr]
 by_cases h14:op=14
 ·simp[h14,aN,jr]
 by_cases h15:op=15
 ·simp[h15,aN,jr]
 by_cases h16:op=16
 ·simp[h16,aN,jr]
 have k1:¬op<=1:=by omega
 have k2:¬(10<=op/\op<=13):=by omega
 have k3:10<=op->¬op<=13:=fun a b=>k2 ⟨a,b⟩;have e1:aN op=2:=by rw[aN,if_neg k1,if_neg (by omega)]
 simp[h0,h1,h2,h3,h9,h10,h11,h12,h13,h14,h15,h16,e1,jr]
def outF(F:Nat)(q0 q1 q2 q3 q4 q5 q6:Bool):Nat:=wS q0 q1 q2 q3 q4 q5 q6-(wS q0 q1 q2 q3 q4 q5 q6&&& F)
def fieldsB(op:Int)(q0 q1 q2 q3 q4 q5 q6:Bool):Bool:=
 (decide (op=0)||!q0)&&((decide (op=1)||!q1)&&((decide (op=2)||((decide (4<=op)&&decide (op<=8))||!q2))&&
  ((decide (op=3)||(decide (op=9)||!q3))&&((decide (op=10)||!q4)&&((decide (op=12)||(decide (op=13)||!q5))&&(decide (op=13)||!q6))))))
theorem DI(op:Int)(h0:0<=op)(h1:op<=16)(q0 q1 q2 q3 q4 q5 q6:Bool) :
 ∃z:Nat,(∀s:ay,fU .andNot (.v (.int .u64 (wS q0 q1 q2 q3 q4 q5 q6:Nat))) (.v (.int .u64 (jr op:Nat))) s=some (.v (.int .u64 z),s))/\decide (z=0)=fieldsB op q0 q1 q2 q3 q4 q5 q6:=by
 have key:∀F∈[0,1,2,4,8,16,32,96],∀q0 q1 q2 q3 q4 q5 q6:Bool,IntKind.u64.wrap (BitVec.ofInt IntKind.u64.bits (wS q0 q1 q2 q3 q4 q5 q6:Nat)&&& ~~~(BitVec.ofInt IntKind.u64.bits (F:Nat))).toNat=(outF F q0 q1 q2 q3 q4 q5 q6:Nat):=by decide +kernel
 have key2:∀op:Fin 17,∀q0 q1 q2 q3 q4 q5 q6:Bool,jr (op.val:Int)∈[0,1,2,4,8,16,32,96]/\decide (outF (jr (op.val:Int)) q0 q1 q2 q3 q4 q5 q6=0)=fieldsB (op.val:Int) q0 q1 q2 q3 q4 q5 q6:=by decide +kernel
 have k3:=key2 ⟨op.toNat,by omega⟩ q0 q1 q2 q3 q4 q5 q6;have e:((op.toNat:Nat):Int)=op:=by omega
 simp only[e]at k3;have k1:=key _ k3.1 q0 q1 q2 q3 q4 q5 q6;refine⟨_,?_,k3.2⟩;have hb:jy .andNot (.int .u64 (wS q0 q1 q2 q3 q4 q5 q6:Nat)) (.int .u64 (jr op:Nat))=some (.int .u64 (outF (jr op) q0 q1 q2 q3 q4 q5 q6:Nat)):=by rw[<-k1];rfl
 intro s;simp only[fU,hb]
theorem qC(ks:List Int):call T Yd [.sl false (ks.map u8)]=some (.fn M4 [.ip (.sl false (ks.map u8)) 0]):=by refine q18g (by simp) ?_;simp;simp[oh,rZ,X.deep,aP]
set_option maxHeartbeats 400000 in
theorem Al(ks:List Int)(r:List Val)(hl:aS r)(ho:∀v∈r,v.ok):call T M4 [oJ r,.ip (.sl false (ks.map u8)) 0]=some (.v (.bool (mr ks r))):=by
 refine q19g (by simp) ?_;have hl':r.length<=9223372036854775807:=gJ hl (by decide);by_cases hn:r.length=ks.length
 ·have hR:mr ks r=iN (ks.drop 0) (r.drop 0):=by simp[mr,hn]
  rw[hR];clear hR;generalize hR:iN (ks.drop 0) (r.drop 0)=R;replace hR:=Hd.mk hR;simp[hn];replace hn:=Hd.mk hn;refine av (σ:=Nat) (fun i e s=>e 1=.ip (.sl false (ks.map u8)) 0/\e 11=.sl false (r.map Val.enc)/\e 12=i6 r.length/\e 13=i6 i/\i<=r.length/\Hd (iN (ks.drop i) (r.drop i)=R)) (fun i=>r.length-i) ?_ 0 _ _ ⟨by simp,by simp,by simp[hn.out],by simp,by omega,hR⟩;rintro i e s ⟨h1,h11,h12,h13,hi,hA⟩ ih;simp[h1,h11,h12,h13];refine aj (fun h=>?_) (fun h=>?_)<;>(have h':=h;try simp at h')<;>(try simp[*])
  ·have hk:i<ks.length:=by have:=hn.out;omega
   have hv:=qP r[i] (ho r[i] (List.getElem_mem h'));replace hA:=Hd.mk ((vW hk h').symm.trans hA.out);have hcell:Ju ks[i] r[i]=(r[i].valid&&(decide (r[i].kind=0)||decide (r[i].kind=ks[i]))):=rfl;rw[hcell]at hA
   clear hcell;have next:∀e' s',Hd (iN (ks.drop (i+1)) (r.drop (i+1))=R)->e' 1=.ip (.sl false (ks.map u8)) 0->e' 11=.sl false (r.map Val.enc)->e' 12=i6 r.length->e' 13=i6 ((i+1:Nat):Int)->wp T [It.lp abG,It.bl 0,It.code ((IC.ops abH).seq IC.ret)] e' s' (fun e s=>aC e s [fI.tmp 3]=some (.v (.bool R))):=by intro e' s' a b c d f;exact ih.out (i+1) e' s' ⟨b,c,d,f,h',a⟩ (by omega)
   replace next:=Hd.mk next
   generalize r[i].valid=b at hv hA ⊢
   try simp[hv,h1,h11,h12,h13]
   cases b
   ·simp at hA;simp[hA.out]
   ·simp at hA;by_cases k0:r[i].kind=0
    ·simp[k0]at hA
     simp[k0,hk,h1,h11,h12,h13];exact next.out _ _ hA (by simp[h1]) (by simp[h11]) (by simp[h12]) (by simp[ai h' hl'])
    ·by_cases k1:r[i].kind=ks[i]
     ·simp[k1]at hA
      rw[k1]at k0
      simp[k0,k1,hk,h1,h11,h12,h13];exact next.out _ _ hA (by simp[h1]) (by simp[h11]) (by simp[h12]) (by simp[ai h' hl'])
     ·simp[k0,k1]at hA
      simp[k0,k1,hk,h1,h11,h12,h13,hA.out]
  ·have:=hA.out;rw[yJ (by have:=hn.out;omega)]at this
   exact this.symm
 ·simp[mr,hn]
theorem yc(p:Pn)(h:p.je):call T QV [p.enc]=some (.v (.int .u64 ((wS (decide (0<(p.kinds.length:Int)+p.rows.length)) (p.table != 0) (decide (0<p.conds.length)) (decide (0<p.exprs.length)) (decide (0<(p.ah.length:Int)+p.ax.length)) (decide (0<p.keys.length)) (p.fr != 0||p.ct != 0):Nat):Int))):=by
 have hT:T QV=some (.ext BR):=by kernel_rfl
 have h1:=h.kinds;have h2:=h.rows;have h3:=h.ah;have h4:=h.ax;simp only[aS]at h1 h2 h3 h4;have hc:call T QV [p.enc]=BR [p.enc]:=by rw[p.aB];simp only[call,iW,hT]
 rw[hc,p.aB];simp only[BR,zb,List.length_map];rw[if_pos ⟨by omega,by omega⟩]
theorem SA(a b:Nat):(!decide (0<(a:Int)+b))=(decide (a=0)&&decide (b=0)):=by
 by_cases h:a=0
 ·by_cases h':b=0
  ·simp[h,h']
  ·have:0<(a:Int)+b:=by omega
   simp[this,h']
 ·have:0<(a:Int)+b:=by omega
  simp[this,h]
theorem EG(p:Pn):jk p=fieldsB p.op (decide (0<(p.kinds.length:Int)+p.rows.length)) (p.table != 0) (decide (0<p.conds.length)) (decide (0<p.exprs.length)) (decide (0<(p.ah.length:Int)+p.ax.length)) (decide (0<p.keys.length)) (p.fr != 0||p.ct != 0):=by
 have n1:∀n:Nat,(!decide (0<n))=decide (n=0):=fun n=>by cases n<;>simp
 have n2:∀n:Int,(!(n != 0))=decide (n=0):=fun n=>by by_cases h:n=0<;>simp[h]
 have n3:(!(p.fr != 0||p.ct != 0))=(decide (p.fr=0)&&decide (p.ct=0)):=by rw[Bool.not_or,n2,n2]
 simp only[jk,fieldsB,SA,n1,n2,n3]
set_option maxHeartbeats 4000000 in
theorem CG(e:Ex)(hs:e.uO)(hk:∀k∈e.kids,call T uI [k.enc]=some (.v (.bool k.formed)))(hp:∀k∈e.sub,call T zD [k.enc]=some (.v (.bool k.formed))) :
 call T uI [e.enc]=some (.v (.bool e.formed)):=by
 have a1:=q8 e.kids hs.kids uI Ex.formed hk;have a2:=yh e.sub hs.sub zD Pn.formed hp;refine q17g (by simp) ?_;have he:=e.aB;have cv:call T zK [.agg [.v (.int .u8 e.vk),.v (.int .i64 e.vi),.v (.string e.vs)]]=some (.v (.bool e.v.valid)):=qP e.v hs.vi;have cw:=fJ [e.up,e.n] (by simp[aS]) (by intro n hn;simp at hn;rcases hn with rfl|rfl;exact hs.up;exact hs.n);simp only[List.map_cons,List.map_nil,List.all_cons,List.all_nil,Bool.and_true]at cw;rw[Ex.jJ];generalize hA:(e.kids.all Ex.formed&&e.sub.all Pn.formed)=A;have hZ:e.v.isZero=(decide (e.vk=0)&&(decide (e.vi=0)&&e.vs.toList.isEmpty)):=rfl;have hop:=hs.op;by_cases h0:e.op=0
 ·rw[h0]at he
  have hn:eO e.op e.v e.up e.n e.kids.length e.sub.length=(e.v.valid&&(decide (e.up=0)&&(decide (e.n=0)&&(decide (e.sub.length=0)&&decide (e.kids.length=0))))):=by simp[eO,h0,dZ,Bool.and_assoc]
  rw[hn];clear hn;generalize e.v.valid=b at cv ⊢;cases b
  ·simp[he,cv]
  by_cases u:e.up=0
  ·by_cases n:e.n=0
   ·by_cases k:e.kids=[]
    ·by_cases s:e.sub=[]
     ·rw[k]at hA a1
      rw[s]at hA a2
      simp at hA a1 a2;subst hA;simp[he,cv,u,n,k,s,a1,a2]
     ·have s':¬e.sub.length=0:=by simpa using s
      simp[he,cv,u,n,k,s,s']
    ·have k':¬e.kids.length=0:=by simpa using k
     simp[he,cv,u,n,k,k']
   ·simp[he,cv,u,n]
  ·simp[he,cv,u]
 by_cases h2:e.op=2
 ·rw[h2]at he
  have hn:eO e.op e.v e.up e.n e.kids.length e.sub.length=(e.v.isZero&&((aZ e.up&&aZ e.n)&&(decide (e.sub.length=0)&&decide (e.kids.length=0)))):=by simp[eO,h2,dZ,Bool.and_assoc]
  rw[hn,hZ];clear hn;generalize (aZ e.up&&aZ e.n)=b at cw ⊢;cases b
  ·simp[he,cw]
  by_cases z1:e.vk=0
  ·by_cases z2:e.vi=0
   ·by_cases z3:e.vs.toList.isEmpty=true
    ·by_cases k:e.kids=[]
     ·by_cases s:e.sub=[]
      ·rw[k]at hA a1
       rw[s]at hA a2
       simp at hA a1 a2;subst hA;simp[he,cw,z1,z2,z3,k,s,a1,a2]
      ·have s':¬e.sub.length=0:=by simpa using s
       simp[he,cw,z1,z2,z3,k,s,s']
     ·have k':¬e.kids.length=0:=by simpa using k
      simp[he,cw,z1,z2,z3,k,k']
    ·simp[he,cw,z1,z2,z3]
   ·simp[he,cw,z1,z2]
  ·simp[he,cw,z1]
 by_cases h1:e.op=1
 ·rw[h1]at he
  simp[he,eO,h1]
 by_cases h3:e.op=3
 ·rw[h3]at he
  simp[he,eO,h3]
 by_cases h29:29<e.op
 ·have h28:¬e.op=28:=by omega
  have h27:¬e.op=27:=by omega
  have h29':¬e.op=29:=by omega
  have h29'':¬e.op<=29:=by omega
  simp[he,eO,h0,h1,h2,h3,h28,h27,h29,h29',h29'']
 have h29'':e.op<=29:=by omega
 have g2:2<e.op:=by omega
 by_cases hso:dZ e.op=true
 ·have hso':e.op=27\/e.op=28\/e.op=29:=by simp[dZ]at hso;omega
  by_cases h28:e.op=28
  ·rw[h28]at he
   have hn:eO e.op e.v e.up e.n e.kids.length e.sub.length=(e.v.isZero&&(decide (e.up=0)&&(decide (e.n=0)&&(decide (e.sub.length=1)&&decide (e.kids.length=1))))):=by simp[eO,h28,dZ,Bool.and_assoc]
   rw[hn,hZ];clear hn;by_cases k:e.kids.length=1
   ·by_cases s:e.sub.length=1
    ·by_cases z1:e.vk=0
     ·by_cases z2:e.vi=0
      ·by_cases z3:e.vs.toList.isEmpty=true
       ·by_cases u:e.up=0
        ·by_cases n:e.n=0
         ·generalize e.kids.all Ex.formed=x at a1 hA;generalize e.sub.all Pn.formed=y at a2 hA;subst hA;cases x<;>cases y<;>simp[he,k,s,z1,z2,z3,u,n,a1,a2]
         ·simp[he,k,s,z1,z2,z3,u,n]
        ·simp[he,k,s,z1,z2,z3,u]
       ·simp[he,k,s,z1,z2,z3]
      ·simp[he,k,s,z1,z2]
     ·simp[he,k,s,z1]
    ·have s2:¬(e.sub.length:Int)=1:=by omega
     simp[he,k,s,s2]
   ·have s2:¬(e.kids.length:Int)=1:=by omega
    simp[he,k,s2]
  ·have hn:eO e.op e.v e.up e.n e.kids.length e.sub.length=(e.v.isZero&&(decide (e.up=0)&&(decide (e.n=0)&&(decide (e.sub.length=1)&&decide (e.kids.length=0))))):=by simp[eO,h0,h1,h2,h3,h28,hso,h29'',Bool.and_assoc]
   rw[hn,hZ];clear hn;have h2729:e.op=27\/e.op=29:=by omega
   rcases h2729 with hh|hh
   all_goals
    rw[hh]at he
    by_cases k:e.kids.length=0
    ·have k':e.kids=[]:=by simpa using k
     by_cases s:e.sub.length=1
     ·by_cases z1:e.vk=0
      ·by_cases z2:e.vi=0
       ·by_cases z3:e.vs.toList.isEmpty=true
        ·by_cases u:e.up=0
         ·by_cases n:e.n=0
          ·generalize e.kids.all Ex.formed=x at a1 hA;generalize e.sub.all Pn.formed=y at a2 hA;subst hA;cases x<;>cases y<;>simp[he,k,s,z1,z2,z3,u,n,a1,a2]
          ·simp[he,k,s,z1,z2,z3,u,n]
         ·simp[he,k,s,z1,z2,z3,u]
        ·simp[he,k,s,z1,z2,z3]
       ·simp[he,k,s,z1,z2]
      ·simp[he,k,s,z1]
     ·have s2:¬(e.sub.length:Int)=1:=by omega
      simp[he,k,s,s2]
    ·simp[he,k]
 ·have hno:¬e.op=27/\¬e.op=28/\¬e.op=29:=by simp[dZ]at hso;omega
  obtain⟨n27,n28,n29⟩:=hno;have n29':¬29<e.op:=by omega
  have hn:eO e.op e.v e.up e.n e.kids.length e.sub.length=(e.v.isZero&&(decide (e.up=0)&&(decide (e.n=0)&&decide (e.sub.length=0)))):=by simp[eO,h0,h1,h2,h3,n28,hso,h29'',Bool.and_assoc]
  rw[hn,hZ];clear hn;by_cases s:e.sub=[]
  ·have s':e.sub.length=0:=by simpa using s
   by_cases z1:e.vk=0
   ·by_cases z2:e.vi=0
    ·by_cases z3:e.vs.toList.isEmpty=true
     ·by_cases u:e.up=0
      ·by_cases n:e.n=0
       ·generalize e.kids.all Ex.formed=x at a1 hA;generalize e.sub.all Pn.formed=y at a2 hA;subst hA;cases x<;>cases y<;>simp[he,h0,h1,h2,h3,n27,n28,n29,n29',g2,s',z1,z2,z3,u,n,a1,a2]
       ·simp[he,h0,h1,h2,h3,n27,n28,n29,n29',g2,s',z1,z2,z3,u,n]
      ·simp[he,h0,h1,h2,h3,n27,n28,n29,n29',g2,s',z1,z2,z3,u]
     ·simp[he,h0,h1,h2,h3,n27,n28,n29,n29',g2,s',z1,z2,z3]
    ·simp[he,h0,h1,h2,h3,n27,n28,n29,n29',g2,s',z1,z2]
   ·simp[he,h0,h1,h2,h3,n27,n28,n29,n29',g2,s',z1]
  ·have s':¬e.sub.length=0:=by simpa using s
   simp[he,h0,h1,h2,h3,n27,n28,n29,n29',g2,s']
set_option maxHeartbeats 4000000 in
theorem CJ(p:Pn)(hs:p.je)(hk:∀k∈p.kids,call T zD [k.enc]=some (.v (.bool k.formed)))(hc:∀k∈p.conds,call T uI [k.enc]=some (.v (.bool k.formed)))(he:∀k∈p.exprs,call T uI [k.enc]=some (.v (.bool k.formed))) :
 call T zD [p.enc]=some (.v (.bool p.formed)):=by
 have a1:=yh p.kids hs.kids zD Pn.formed hk;have a2:=q8 p.conds hs.conds uI Ex.formed hc;have a3:=q8 p.exprs hs.exprs uI Ex.formed he;have a4:=LJ p.keys hs.keys QH (fun k=>aZ k.col) (fun k hk=>Gp k (hs.key k hk));have a5:=LH p.ax hs.ax QK jB (fun k hk=>Gq k (hs.agg k hk));have a6:=yg p.kinds hs.kinds QL (fun k=>decide (k<=3)) (fun k hk=>Gt k);have a7:=LM p.kinds p.rows hs.rows M4 (mr p.kinds) (fun r hr=>Al p.kinds r (hs.row r hr).1 (hs.row r hr).2);have a8:=qC p.kinds;have a9:=wW p.op hs.op.1;have b1:=fJ [p.table,p.fr,p.ct] (by simp[aS]) (by intro n hn;simp at hn;rcases hn with rfl|rfl|rfl;exact hs.table;exact hs.fr;exact hs.ct);have b2:=fJ p.ah hs.ah hs.col;have b3:=yc p hs;simp only[List.map_cons,List.map_nil,List.all_cons,List.all_nil,Bool.and_true]at b1;refine q16g (by simp) ?_;have hen:=p.aB;have hR:p.formed=(mq p&&(p.kids.all Pn.formed&&(p.conds.all Ex.formed&&p.exprs.all Ex.formed))):=Pn.jJ p;have hP:mq p=(decide (p.op<=16)&&(decide (p.kids.length=aN p.op)&&(jk p&&(((aZ p.table&&(aZ p.fr&&aZ p.ct))&&(p.ah.all aZ&&(p.ax.all jB&&p.keys.all fun k=>aZ k.col)))&&((p.kinds.all (fun k=>decide (k<=3))&&p.rows.all (mr p.kinds))&&(!decide (p.op=9)||decide (p.exprs.length=1))))))):=rfl;rw[hP]at hR
 clear hP hk hc he;generalize p.formed=R at hR ⊢;generalize (aZ p.table&&(aZ p.fr&&aZ p.ct))=B1 at b1 hR;generalize p.ah.all aZ=B2 at b2 hR;generalize p.ax.all jB=B3 at a5 hR;generalize (p.keys.all fun k=>aZ k.col)=B4 at a4 hR;generalize p.kinds.all (fun k=>decide (k<=3))=B5 at a6 hR;generalize p.rows.all (mr p.kinds)=B6 at a7 hR;generalize p.kids.all Pn.formed=B7 at a1 hR;generalize p.conds.all Ex.formed=B8 at a2 hR;generalize p.exprs.all Ex.formed=B9 at a3 hR;by_cases h16:16<p.op
 ·have:¬p.op<=16:=by omega
  simp[this]at hR
  subst hR;simp[hen,a9,h16]
 have h16':p.op<=16:=by omega
 by_cases hkl:p.kids.length=aN p.op
 case neg=>
  have:¬(p.kids.length:Int)=(aN p.op:Nat):=by omega
  simp[hkl]at hR
  subst hR;simp[hen,a9,h16,hkl,this]
 obtain⟨z,hz,hz'⟩:=DI p.op hs.op.1 h16' (decide (0<(p.kinds.length:Int)+p.rows.length)) (p.table != 0) (decide (0<p.conds.length)) (decide (0<p.exprs.length)) (decide (0<(p.ah.length:Int)+p.ax.length)) (decide (0<p.keys.length)) (p.fr != 0||p.ct != 0);rw[<-EG]at hz'
 generalize wS (decide (0<(p.kinds.length:Int)+p.rows.length)) (p.table != 0) (decide (0<p.conds.length)) (decide (0<p.exprs.length)) (decide (0<(p.ah.length:Int)+p.ax.length)) (decide (0<p.keys.length)) (p.fr != 0||p.ct != 0)=U at b3 hz;rw[<-hz']at hR
 rw[hen]at b3
 have c1:(p.kids.length:Int)=(aN p.op:Nat):=by omega
 by_cases hz0:z=0
 case neg=>
  simp[hz0]at hR
  subst hR;simp[hen,a9,h16,c1,b3,hz,hz0]
 subst hz0;simp[h16',hkl]at hR
 by_cases h9:p.op=9
 ·simp only[h9]at a9 hen b3 hz c1 hR;have g16:¬(16:Int)<9:=by decide
  clear h16 h16';by_cases h91:p.exprs.length=1
  case neg=>
   have h91':¬(p.exprs.length:Int)=1:=by omega
   simp[h91]at hR
   subst hR;simp[hen,a9,c1,b3,hz,h91']
  have h91':(p.exprs.length:Int)=1:=by omega
  simp[h91]at hR
  cases B1
  ·simp at hR;subst hR;simp[hen,a9,c1,b3,hz,b1,b2,a1,a2,a3,a4,a5,a6,a7,a8,h91,h91']
  cases B2
  ·simp at hR;subst hR;simp[hen,a9,c1,b3,hz,b1,b2,a1,a2,a3,a4,a5,a6,a7,a8,h91,h91']
  cases B4
  ·simp at hR;subst hR;simp[hen,a9,c1,b3,hz,b1,b2,a1,a2,a3,a4,a5,a6,a7,a8,h91,h91']
  cases B3
  ·simp at hR;subst hR;simp[hen,a9,c1,b3,hz,b1,b2,a1,a2,a3,a4,a5,a6,a7,a8,h91,h91']
  cases B5
  ·simp at hR;subst hR;simp[hen,a9,c1,b3,hz,b1,b2,a1,a2,a3,a4,a5,a6,a7,a8,h91,h91']
  cases B6
  ·simp at hR;subst hR;simp[hen,a9,c1,b3,hz,b1,b2,a1,a2,a3,a4,a5,a6,a7,a8,h91,h91']
  cases B7
  ·simp at hR;subst hR;simp[hen,a9,c1,b3,hz,b1,b2,a1,a2,a3,a4,a5,a6,a7,a8,h91,h91']
  cases B8
  ·simp at hR;subst hR;simp[hen,a9,c1,b3,hz,b1,b2,a1,a2,a3,a4,a5,a6,a7,a8,h91,h91']
  cases B9
  ·simp at hR;subst hR;simp[hen,a9,c1,b3,hz,b1,b2,a1,a2,a3,a4,a5,a6,a7,a8,h91,h91']
  simp at hR;subst hR;simp[hen,a9,c1,b3,hz,b1,b2,a1,a2,a3,a4,a5,a6,a7,a8,h91,h91']
 simp[h9]at hR
 cases B1
 ·simp at hR;subst hR;simp[hen,a9,h16,c1,b3,hz,b1,b2,a1,a2,a3,a4,a5,a6,a7,a8,h9]
 cases B2
 ·simp at hR;subst hR;simp[hen,a9,h16,c1,b3,hz,b1,b2,a1,a2,a3,a4,a5,a6,a7,a8,h9]
 cases B4
 ·simp at hR;subst hR;simp[hen,a9,h16,c1,b3,hz,b1,b2,a1,a2,a3,a4,a5,a6,a7,a8,h9]
 cases B3
 ·simp at hR;subst hR;simp[hen,a9,h16,c1,b3,hz,b1,b2,a1,a2,a3,a4,a5,a6,a7,a8,h9]
 cases B5
 ·simp at hR;subst hR;simp[hen,a9,h16,c1,b3,hz,b1,b2,a1,a2,a3,a4,a5,a6,a7,a8,h9]
 cases B6
 ·simp at hR;subst hR;simp[hen,a9,h16,c1,b3,hz,b1,b2,a1,a2,a3,a4,a5,a6,a7,a8,h9]
 cases B7
 ·simp at hR;subst hR;simp[hen,a9,h16,c1,b3,hz,b1,b2,a1,a2,a3,a4,a5,a6,a7,a8,h9]
 cases B8
 ·simp at hR;subst hR;simp[hen,a9,h16,c1,b3,hz,b1,b2,a1,a2,a3,a4,a5,a6,a7,a8,h9]
 cases B9
 ·simp at hR;subst hR;simp[hen,a9,h16,c1,b3,hz,b1,b2,a1,a2,a3,a4,a5,a6,a7,a8,h9]
 simp at hR;subst hR;simp[hen,a9,h16,c1,b3,hz,b1,b2,a1,a2,a3,a4,a5,a6,a7,a8,h9]
theorem EL:(∀e:Ex,e.small->call T uI [e.enc]=some (.v (.bool e.formed)))/\(∀p:Pn,p.small->call T zD [p.enc]=some (.v (.bool p.formed))):=by
 refine dL (fun e h1 h2 hs=>?_) (fun x h1 h2 h3 hs=>?_)
 ·have hs':=Ex.cK hs;exact CG e hs' (fun k hk=>h1 k hk (hs'.kid k hk)) (fun k hk=>h2 k hk (hs'.subs k hk))
 ·have hs':=Pn.cK hs;exact CJ x hs' (fun k hk=>h1 k hk (hs'.kid k hk)) (fun k hk=>h2 k hk (hs'.cond k hk)) (fun k hk=>h3 k hk (hs'.expr k hk))
end Go.Proofs.YtbmkfjmlepjpfaaGreatDoor
