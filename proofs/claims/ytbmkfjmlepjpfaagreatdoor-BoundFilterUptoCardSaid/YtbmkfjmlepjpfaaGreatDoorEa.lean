/- A part of the proof. -/
import Derived.Test.YtbmkfjmlepjpfaaGreatDoorEx
import Derived.Test.YtbmkfjmlepjpfaaGreatDoorVv
set_option linter.all false
set_option maxRecDepth 100000
namespace Go.Proofs.YtbmkfjmlepjpfaaGreatDoor
open Go.RowKit
mutual
def Ex.size:Ex->Nat
 | .mk _ _ _ _ _ _ kids sub=>1+Ex.nN kids+Pn.nN sub
def Ex.nN:List Ex->Nat
 | []=>0
 | e::l=>e.size+Ex.nN l
def Pn.size:Pn->Nat
 | .mk _ _ _ _ conds exprs _ _ _ _ _ kids=>1+Pn.nN kids+Ex.nN conds+Ex.nN exprs
def Pn.nN:List Pn->Nat
 | []=>0
 | e::l=>e.size+Pn.nN l
end
def aS{α:Type}(f:α->Nat):List α->Nat
 | []=>0
 | a::l=>f a+aS f l
theorem Ex.rM(l:List Ex):nN l=aS Ex.size l:=by
 induction l with
 | nil=>simp only[Ex.nN,aS]
 | cons a l ih=>simp only[Ex.nN,aS,ih]
theorem Pn.rM(l:List Pn):nN l=aS Pn.size l:=by
 induction l with
 | nil=>simp only[Pn.nN,aS]
 | cons a l ih=>simp only[Pn.nN,aS,ih]
theorem Ex.size_eq(e:Ex):e.size=1+aS Ex.size e.kids+aS Pn.size e.sub:=by cases e;simp only[Ex.size,Ex.rM,Pn.rM,kids,sub]
theorem Pn.size_eq(e:Pn):e.size=1+aS Pn.size e.kids+aS Ex.size e.conds+aS Ex.size e.exprs:=by cases e;simp only[Pn.size,Ex.rM,Pn.rM,kids,conds,exprs]
theorem jc{α:Type}{f:α->Nat}{l:List α}{i:Nat}(h:i<l.length):aS f (l.take (i+1))=aS f (l.take i)+f l[i]:=by
 induction l generalizing i with
 | nil=>simp at h
 | cons a l ih=>
  cases i with
  | zero=>simp[aS]
  | succ i=>simp at h;simp[aS,ih h];omega
theorem kR{α:Type}{f:α->Nat}{l:List α}{i:Nat}(h:l.length<=i):aS f (l.take i)=aS f l:=by rw[wU h]
theorem kY{α:Type}{f:α->Nat}{l:List α}{i:Nat}:aS f (l.take i)<=aS f l:=by
 induction l generalizing i with
 | nil=>simp[aS]
 | cons a l ih=>
  cases i with
  | zero=>simp[aS]
  | succ i=>simp[aS];exact ih
def bD(n:Int):Bool:=decide (0<=n)&&decide (n<=2147483647)
def Val.isZero(v:Val):Bool:=decide (v.kind=0)&&(decide (v.int=0)&&v.text.toList.isEmpty)
def fD(op:Int):Bool:=decide (27<=op)&&decide (op<=29)
def fU(op:Int)(v:Val)(up n:Int)(kids sub:Nat):Bool:=
 (decide (op<=29)&&(!decide (op=1)&&!decide (op=3)))&&((if op=0 then v.valid else v.isZero)&&((if op=2 then bD up&&bD n else decide (up=0)&&decide (n=0))&&
  (decide (sub=if fD op=true then 1 else 0)&&(if op=28 then decide (kids=1)else if op=0\/op=2\/fD op=true then decide (kids=0)else true))))
def aR(op:Int):Nat:=if op<=1 then 0 else if op=2\/op=3\/(10<=op/\op<=13)then 1 else 2
def jS(p:Pn):Bool:=
 (decide (p.op=0)||(decide (p.kinds.length=0)&&decide (p.rows.length=0)))&&((decide (p.op=1)||decide (p.table=0))&&((decide (p.op=2)||((decide (4<=p.op)&&decide (p.op<=8))||decide (p.conds.length=0)))&&
  ((
   decide (p.op=3)||(decide (p.op=9)||decide (p.exprs.length=0)))&&((decide (p.op=10)||(decide (p.ah.length=0)&&decide (p.aA.length=0)))&&
   ((decide (p.op=12)||(decide (p.op=13)||decide (p.keys.length=0)))&&(decide (p.op=13)||(decide (p.fr=0)&&decide (p.ct=0))))))))
def j5(a:Ag):Bool:=decide (a.fn<=5)&&(bD a.col&&(!decide (a.fn=0)||(decide (a.col=0)&&!a.ZG)))
def kL(p:Pn):Bool:=(bD p.table&&(bD p.fr&&bD p.ct))&&(p.ah.all bD&&(p.aA.all j5&&p.keys.all fun k=>bD k.col))
def nZ(p:Pn):Bool:=decide (p.op<=16)&&(decide (p.kids.length=aR p.op)&&(jS p&&(kL p&&(mY p.kinds p.rows&&(!decide (p.op=9)||decide (p.exprs.length=1))))))
mutual
def Ex.formed:Ex->Bool
 | .mk op vk vi vs up n kids sub=>fU op ⟨vk,vi,vs⟩ up n kids.length sub.length&&(Ex.iN kids&&Pn.iN sub)
def Ex.iN:List Ex->Bool
 | []=>true
 | e::l=>e.formed&&Ex.iN l
def Pn.formed:Pn->Bool
 | .mk op table kinds rows conds exprs ah aA keys fr ct kids=>nZ (.mk op table kinds rows conds exprs ah aA keys fr ct kids)&&(Pn.iN kids&&(Ex.iN conds&&Ex.iN exprs))
def Pn.iN:List Pn->Bool
 | []=>true
 | e::l=>e.formed&&Pn.iN l
end
theorem Ex.mZ(l:List Ex):iN l=l.all Ex.formed:=by
 induction l with
 | nil=>simp only[Ex.iN,List.all_nil]
 | cons a l ih=>simp only[Ex.iN,List.all_cons,ih]
theorem Pn.mZ(l:List Pn):iN l=l.all Pn.formed:=by
 induction l with
 | nil=>simp only[Pn.iN,List.all_nil]
 | cons a l ih=>simp only[Pn.iN,List.all_cons,ih]
theorem Ex.kI(e:Ex):e.formed=(fU e.op e.v e.up e.n e.kids.length e.sub.length&&(e.kids.all Ex.formed&&e.sub.all Pn.formed)):=by cases e;simp only[Ex.formed,Ex.mZ,Pn.mZ,op,v,vk,vi,vs,up,n,kids,sub]
theorem Pn.kI(e:Pn):e.formed=(nZ e&&(e.kids.all Pn.formed&&(e.conds.all Ex.formed&&e.exprs.all Ex.formed))):=by cases e;simp only[Pn.formed,Ex.mZ,Pn.mZ,kids,conds,exprs]
def aL(a b:Int):Bool:=decide (a=b)||(decide (a=0)||decide (b=0))
def lI(l:List Int):Int:=l.foldl max 0
def dY(l:List Int):Bool:=l.all fun k=>aL k (lI l)
def bY(op:Int)(n:Nat):Bool:=
 if op=4\/op=11\/(20<=op/\op<=22)then decide (n=1)else if(5<=op/\op<=10)\/(12<=op/\op<=19)then decide (n=2)
 else if op=23\/op=24 then true else if op=25 then decide (2<=n)else if op=26 then decide (1<=n)else false
def iZ(op:Int):Int:=if 4<=op/\op<=9 then 1 else if op=10\/op=11\/op=19 then 2 else if 21<=op/\op<=24 then 3 else 0
def jf(op:Int):Int:=if(4<=op/\op<=9)\/op=11 then 1 else if op=10 then 2 else 3
def qj(n i:Nat):Bool:=decide (i % 2=0)&&decide (i+1<n)
def dQ(l:List Int):Nat->List Int
 | 0=>[]
 | i+1=>if qj l.length i=true then dQ l i else dQ l i++[l.getD i 0]
def jN(l:List Int):Nat->List Int
 | 0=>[]
 | i+1=>if qj l.length i=true then jN l i++[l.getD i 0]else jN l i
def tQ(l:List Int):Int×Int:=if(jN l l.length).all (fun k=>aL k 3)=true/\dY (dQ l l.length)=true then(lI (dQ l l.length),0)else(0,50)
def je(op:Int)(l:List Int):Int×Int:=
 if bY op l.length=true/\aX l=true then
  (if op=25 then tQ l else if dY (iZ op::l)=true then(if op=26 then(lI l,0)else(jf op,0))else(0,50))
 else(0,1)
def ET(r:Int×Int):Int×Int:=if r.2=0 then r else if r.2=1 then(0,80)else(0,50)
def aF{α β:Type}(f:α->β×Int):List α->List β×Int
 | []=>([],0)
 | a::l=>if(f a).2=0 then(if(aF f l).2=0 then((f a).1::(aF f l).1,0)else([],(aF f l).2))else([],(f a).2)
theorem DW{α β:Type}{f:α->β×Int}{l:List α}(h:∀a∈l,(f a).2=0):aF f l=(l.map fun a=>(f a).1,0):=by
 induction l with
 | nil=>rfl
 | cons a l ih=>simp[aF,h a (by simp),ih fun b hb=>h b (by simp[hb])]
theorem gJ{α β:Type}{f:α->β×Int}{l:List α}{i:Nat}(h:i<l.length)(h1:∀j (hj:j<i),(f l[j]).2=0)(h2:¬(f l[i]).2=0):aF f l=([],(f l[i]).2):=by
 induction l generalizing i with
 | nil=>simp at h
 | cons a l ih=>
  cases i with
  | zero=>simp at h2;simp[aF,h2]
  | succ i=>
   have h0:=h1 0 (by omega);simp at h0 h2 h;have:=ih h (fun j hj=>by have:=h1 (j+1) (by omega);simpa using this) h2;simp[aF,h0,this,h2]
theorem gI{α β:Type}{f:α->β×Int}{l:List α}(h:∀j (hj:j<l.length),(f l[j]).2=0):aF f l=(l.map fun a=>(f a).1,0):=
 DW fun a ha=>by obtain⟨j,hj,rfl⟩:=List.getElem_of_mem ha;exact h j hj
def EK(env:List (List Int))(up n:Int):Int×Int:=
 if up<env.length/\n<(env.getD up.toNat []).length then((env.getD up.toNat []).getD n.toNat 0,0)else(0,81)
def qm(op:Int)(ks:List Int)(r:List (List Int)×Int):Int×Int:=
 if r.2=0 then(if op=27 then(3,0)else match r.1 with
  | [[k]]=>if op=29 then(k,0)else if aL (ks.headD 0) k=true then(3,0)else(0,50)
  | _=>(0,81))else(0,r.2)
def dm(r:Int×Int):Int×Int:=if r.2=0 then(if aL r.1 3=true then r else(0,50))else r
def bT(op:Int)(kids:List (List Int)):List Int:=if op=9 then kids.headD []else kids.flatten
def bQ(ah:List Int)(aA:List Ag)(keys:List Ky)(own:List Int):Int:=
 if(ah.all (fun n=>decide (n<own.length))&&(aA.all (fun a=>decide (a.fn=0)||decide (a.col<own.length))&&keys.all (fun k=>decide (k.col<own.length))))=true then
  (if aA.all (fun a=>(!decide (a.fn=2)&&!decide (a.fn=5))||aL (own.getD a.col.toNat 0) 1)=true then 0 else 50)else 81
def oh(a b:List Int):List Int×Int:=if a.length=b.length then aF (fun x:Int×Int=>if aL x.1 x.2=true then(max x.1 x.2,0)else(0,50)) (a.zip b)else([],81)
def aQ(sc:List (List Int))(op table:Int)(kinds ah:List Int)(aA:List Ag)(kids:List (List Int))(own exprs:List Int):List Int×Int:=
 if op=0 then(kinds,0)else if op=1 then(sc.getD table.toNat [],0)else if op=3 then(exprs,0)
 else if op=10 then(ah.map (fun n=>own.getD n.toNat 0)++aA.map (fun a=>if a.fn=3\/a.fn=4 then own.getD a.col.toNat 0 else 1),0)
 else if op=7\/op=8 then(kids.headD [],0)
 else if op=9 then(match (kids.getD 1 [])with
  | [k]=>if aL (exprs.headD 0) k=true then(kids.headD [],0)else([],50)
  | _=>([],81))
 else if 14<=op then oh (kids.headD []) (kids.getD 1 [])else(own,0)
def gM(r:List Int×Int):List Int×Int:=if r.2=0/\64<r.1.length then([],2)else r
mutual
def Ex.kind(sc:List (List Int))(env:List (List Int)):Ex->Int×Int
 | .mk op vk vi vs up n kids sub=>if(Ex.oG sc env kids).2=0 then(if op=0 then(vk,0)else if op=2 then EK env up n else if fD op=true then qm op (Ex.oG sc env kids).1 (Pn.ko sc env sub)else ET (je op (Ex.oG sc env kids).1))else(0,(Ex.oG sc env kids).2)
def Ex.oG(sc:List (List Int))(env:List (List Int)):List Ex->List Int×Int
 | []=>([],0)
 | a::l=>if(a.kind sc env).2=0 then(if(Ex.oG sc env l).2=0 then((a.kind sc env).1::(Ex.oG sc env l).1,0)else([],(Ex.oG sc env l).2))else([],(a.kind sc env).2)
def Ex.yB(sc:List (List Int))(env:List (List Int)):List Ex->List Int×Int
 | []=>([],0)
 | a::l=>if(dm (a.kind sc env)).2=0 then(if(Ex.yB sc env l).2=0 then((dm (a.kind sc env)).1::(Ex.yB sc env l).1,0)else([],(Ex.yB sc env l).2))else([],(dm (a.kind sc env)).2)
def Pn.columns(sc:List (List Int))(env:List (List Int)):Pn->List Int×Int
 | .mk op table kinds rows conds exprs ah aA keys fr ct kids=>
  if(Pn.ko sc env kids).2=0 then
   (if op=1/\sc.length<=table then([],81)else
    if bQ ah aA keys (bT op (Pn.ko sc env kids).1)=0 then
     (if(Ex.yB sc (bT op (Pn.ko sc env kids).1::env) conds).2=0 then
      (if(Ex.oG sc (bT op (Pn.ko sc env kids).1::env) exprs).2=0 then
       gM (aQ sc op table kinds ah aA (Pn.ko sc env kids).1 (bT op (Pn.ko sc env kids).1) (Ex.oG sc (bT op (Pn.ko sc env kids).1::env) exprs).1)
      else([],(Ex.oG sc (bT op (Pn.ko sc env kids).1::env) exprs).2))
     else([],(Ex.yB sc (bT op (Pn.ko sc env kids).1::env) conds).2))
    else([],bQ ah aA keys (bT op (Pn.ko sc env kids).1)))
  else([],(Pn.ko sc env kids).2)
def Pn.ko(sc:List (List Int))(env:List (List Int)):List Pn->List (List Int)×Int
 | []=>([],0)
 | a::l=>if(a.columns sc env).2=0 then(if(Pn.ko sc env l).2=0 then((a.columns sc env).1::(Pn.ko sc env l).1,0)else([],(Pn.ko sc env l).2))else([],(a.columns sc env).2)
end
theorem Ex.IQ(sc env:List (List Int))(l:List Ex):oG sc env l=aF (Ex.kind sc env) l:=by
 induction l with
 | nil=>simp only[Ex.oG,aF]
 | cons a l ih=>simp only[Ex.oG,aF,ih]
theorem Ex.RQ(sc env:List (List Int))(l:List Ex):yB sc env l=aF (fun e=>dm (Ex.kind sc env e)) l:=by
 induction l with
 | nil=>simp only[Ex.yB,aF]
 | cons a l ih=>simp only[Ex.yB,aF,ih]
theorem Pn.Hu(sc env:List (List Int))(l:List Pn):ko sc env l=aF (Pn.columns sc env) l:=by
 induction l with
 | nil=>simp only[Pn.ko,aF]
 | cons a l ih=>simp only[Pn.ko,aF,ih]
theorem Ex.zL(sc env:List (List Int))(e:Ex):e.kind sc env=if(aF (Ex.kind sc env) e.kids).2=0 then(if e.op=0 then(e.vk,0)else if e.op=2 then EK env e.up e.n else if fD e.op=true then qm e.op (aF (Ex.kind sc env) e.kids).1 (aF (Pn.columns sc env) e.sub)else ET (je e.op (aF (Ex.kind sc env) e.kids).1))else(0,(aF (Ex.kind sc env) e.kids).2):=by cases e;simp only[Ex.kind,Ex.IQ,Pn.Hu,op,vk,up,n,kids,sub];rfl
def Pn.jU(sc env:List (List Int))(p:Pn):List (List Int)×Int:=aF (Pn.columns sc env) p.kids
def Pn.own(sc env:List (List Int))(p:Pn):List Int:=bT p.op (p.jU sc env).1
theorem Pn.pu(sc env:List (List Int))(p:Pn):p.columns sc env =
 if(p.jU sc env).2=0 then
  (if p.op=1/\sc.length<=p.table then([],81)else
   if bQ p.ah p.aA p.keys (p.own sc env)=0 then
    (if(aF (fun e=>dm (Ex.kind sc (p.own sc env::env) e)) p.conds).2=0 then
     (if(aF (Ex.kind sc (p.own sc env::env)) p.exprs).2=0 then
      gM (aQ sc p.op p.table p.kinds p.ah p.aA (p.jU sc env).1 (p.own sc env) (aF (Ex.kind sc (p.own sc env::env)) p.exprs).1)
     else([],(aF (Ex.kind sc (p.own sc env::env)) p.exprs).2))
    else([],(aF (fun e=>dm (Ex.kind sc (p.own sc env::env) e)) p.conds).2))
   else([],bQ p.ah p.aA p.keys (p.own sc env)))
 else([],(p.jU sc env).2):=by
 cases p;simp only[Pn.columns,Ex.IQ,Ex.RQ,Pn.Hu,Pn.jU,Pn.own,op,table,kinds,conds,exprs,ah,aA,keys,kids];rfl
theorem dz{α:Type}{p:α->Bool}{l:List α}{i:Nat}(h:i<l.length)(hp:p l[i]=false):l.all p=false:=by rw[List.all_eq_false];exact⟨_,gG h,by simp[hp]⟩
theorem bH{α:Type}{p:α->Bool}{l:List α}(h:∀j (hj:j<l.length),p l[j]=true):l.all p=true:=by rw[oH];intro x hx;obtain⟨j,hj,rfl⟩:=List.getElem_of_mem hx;exact h j hj
theorem ug(l:List Ex)(hl:aV l)(f:Nat)(p:Ex->Bool)(hp:∀k∈l,call T f [k.enc]=some (.v (.bool (p k)))) :
 call T UU [.sl false (l.map Ex.enc),.fn f []]=some (.v (.bool (l.all p))):=by
 refine q7g (by simp) ?_;have hl':l.length<=9223372036854775807:=iq hl (by decide);simp;refine av (σ:=Nat) (fun i e s=>e 1=.fn f []/\e 7=.sl false (l.map Ex.enc)/\e 8=i6 l.length/\e 9=i6 i/\i<=l.length/\Hd (∀j (hj:j<i) (h:j<l.length),p l[j]=true)) (fun i=>l.length-i) ?_ 0 _ _ ⟨by simp,by simp,by simp,by simp,by omega,⟨fun _ h=>by omega⟩⟩;rintro i e s ⟨h1,h7,h8,h9,hi,hA⟩ ih;simp[h1,h7,h8,h9];refine aj (fun h=>?_) (fun h=>?_)<;>(have h':=h;try simp at h')<;>(try simp[*])
 ·have hc:=hp l[i] (gG h');have hf:Hd (p l[i]=false->l.all p=false):=⟨fun g=>dz h' g⟩
  have hg:Hd (p l[i]=true->∀j (hj:j<i+1) (h:j<l.length),p l[j]=true):=⟨fun g j hj h=>by
   rcases qP (qQ hj)with h2|h2
   ·exact hA.out j h2 h
   ·subst h2;exact g⟩
  generalize p l[i]=b at hc hf hg ⊢;have he:=l[i].ay;rw[he]at hc
  simp only[he]
  try simp[hc,h1,h7,h8,h9]
  cases b
  ·simp[hf.out rfl]
  ·simp[hc,h1,h7,h8,h9];refine ih.out (i+1) _ _ ?_ (by omega);exact⟨by simp[h1],by simp[h7],by simp[h8],by simp[ai h' hl'],h',⟨hg.out rfl⟩⟩
 ·have hn:=bH (p:=p) (l:=l) (fun j hj=>hA.out j (by omega) hj)
  first
  | exact hn.symm
  | (simp[hn])
  | (rw[oH]at hn;simpa using hn)
theorem Ap(l:List Pn)(hl:aV l)(f:Nat)(p:Pn->Bool)(hp:∀k∈l,call T f [k.enc]=some (.v (.bool (p k)))) :
 call T Fs [.sl false (l.map Pn.enc),.fn f []]=some (.v (.bool (l.all p))):=by
 refine q10g (by simp) ?_;have hl':l.length<=9223372036854775807:=iq hl (by decide);simp;refine av (σ:=Nat) (fun i e s=>e 1=.fn f []/\e 7=.sl false (l.map Pn.enc)/\e 8=i6 l.length/\e 9=i6 i/\i<=l.length/\Hd (∀j (hj:j<i) (h:j<l.length),p l[j]=true)) (fun i=>l.length-i) ?_ 0 _ _ ⟨by simp,by simp,by simp,by simp,by omega,⟨fun _ h=>by omega⟩⟩;rintro i e s ⟨h1,h7,h8,h9,hi,hA⟩ ih;simp[h1,h7,h8,h9];refine aj (fun h=>?_) (fun h=>?_)<;>(have h':=h;try simp at h')<;>(try simp[*])
 ·have hc:=hp l[i] (gG h');have hf:Hd (p l[i]=false->l.all p=false):=⟨fun g=>dz h' g⟩
  have hg:Hd (p l[i]=true->∀j (hj:j<i+1) (h:j<l.length),p l[j]=true):=⟨fun g j hj h=>by
   rcases qP (qQ hj)with h2|h2
   ·exact hA.out j h2 h
   ·subst h2;exact g⟩
  generalize p l[i]=b at hc hf hg ⊢;have he:=l[i].ay;rw[he]at hc
  simp only[he]
  try simp[hc,h1,h7,h8,h9]
  cases b
  ·simp[hf.out rfl]
  ·simp[hc,h1,h7,h8,h9];refine ih.out (i+1) _ _ ?_ (by omega);exact⟨by simp[h1],by simp[h7],by simp[h8],by simp[ai h' hl'],h',⟨hg.out rfl⟩⟩
 ·have hn:=bH (p:=p) (l:=l) (fun j hj=>hA.out j (by omega) hj)
  first
  | exact hn.symm
  | (simp[hn])
  | (rw[oH]at hn;simpa using hn)
theorem Pf(l:List Ky)(hl:aV l)(f:Nat)(p:Ky->Bool)(hp:∀k∈l,call T f [k.enc]=some (.v (.bool (p k)))) :
 call T q8n [.sl false (l.map Ky.enc),.fn f []]=some (.v (.bool (l.all p))):=by
 refine q8g (by simp) ?_;have hl':l.length<=9223372036854775807:=iq hl (by decide);simp;refine av (σ:=Nat) (fun i e s=>e 1=.fn f []/\e 7=.sl false (l.map Ky.enc)/\e 8=i6 l.length/\e 9=i6 i/\i<=l.length/\Hd (∀j (hj:j<i) (h:j<l.length),p l[j]=true)) (fun i=>l.length-i) ?_ 0 _ _ ⟨by simp,by simp,by simp,by simp,by omega,⟨fun _ h=>by omega⟩⟩;rintro i e s ⟨h1,h7,h8,h9,hi,hA⟩ ih;simp[h1,h7,h8,h9];refine aj (fun h=>?_) (fun h=>?_)<;>(have h':=h;try simp at h')<;>(try simp[*])
 ·have hc:=hp l[i] (gG h');have hf:Hd (p l[i]=false->l.all p=false):=⟨fun g=>dz h' g⟩
  have hg:Hd (p l[i]=true->∀j (hj:j<i+1) (h:j<l.length),p l[j]=true):=⟨fun g j hj h=>by
   rcases qP (qQ hj)with h2|h2
   ·exact hA.out j h2 h
   ·subst h2;exact g⟩
  generalize p l[i]=b at hc hf hg ⊢
  try simp[hc,h1,h7,h8,h9]
  cases b
  ·simp[hf.out rfl]
  ·simp[hc,h1,h7,h8,h9];refine ih.out (i+1) _ _ ?_ (by omega);exact⟨by simp[h1],by simp[h7],by simp[h8],by simp[ai h' hl'],h',⟨hg.out rfl⟩⟩
 ·have hn:=bH (p:=p) (l:=l) (fun j hj=>hA.out j (by omega) hj)
  first
  | exact hn.symm
  | (simp[hn])
  | (rw[oH]at hn;simpa using hn)
theorem Pe(l:List Ag)(hl:aV l)(f:Nat)(p:Ag->Bool)(hp:∀k∈l,call T f [k.enc]=some (.v (.bool (p k)))) :
 call T q6n [.sl false (l.map Ag.enc),.fn f []]=some (.v (.bool (l.all p))):=by
 refine q6g (by simp) ?_;have hl':l.length<=9223372036854775807:=iq hl (by decide);simp;refine av (σ:=Nat) (fun i e s=>e 1=.fn f []/\e 7=.sl false (l.map Ag.enc)/\e 8=i6 l.length/\e 9=i6 i/\i<=l.length/\Hd (∀j (hj:j<i) (h:j<l.length),p l[j]=true)) (fun i=>l.length-i) ?_ 0 _ _ ⟨by simp,by simp,by simp,by simp,by omega,⟨fun _ h=>by omega⟩⟩;rintro i e s ⟨h1,h7,h8,h9,hi,hA⟩ ih;simp[h1,h7,h8,h9];refine aj (fun h=>?_) (fun h=>?_)<;>(have h':=h;try simp at h')<;>(try simp[*])
 ·have hc:=hp l[i] (gG h');have hf:Hd (p l[i]=false->l.all p=false):=⟨fun g=>dz h' g⟩
  have hg:Hd (p l[i]=true->∀j (hj:j<i+1) (h:j<l.length),p l[j]=true):=⟨fun g j hj h=>by
   rcases qP (qQ hj)with h2|h2
   ·exact hA.out j h2 h
   ·subst h2;exact g⟩
  generalize p l[i]=b at hc hf hg ⊢
  try simp[hc,h1,h7,h8,h9]
  cases b
  ·simp[hf.out rfl]
  ·simp[hc,h1,h7,h8,h9];refine ih.out (i+1) _ _ ?_ (by omega);exact⟨by simp[h1],by simp[h7],by simp[h8],by simp[ai h' hl'],h',⟨hg.out rfl⟩⟩
 ·have hn:=bH (p:=p) (l:=l) (fun j hj=>hA.out j (by omega) hj)
  first
  | exact hn.symm
  | (simp[hn])
  | (rw[oH]at hn;simpa using hn)
theorem Ka(ks:List Int)(l:List Ky)(hl:aV l)(f:Nat)(p:Ky->Bool)(hp:∀k∈l,call T f [k.enc,.ip (.sl false (ks.map u8)) 0]=some (.v (.bool (p k)))) :
 call T q8n [.sl false (l.map Ky.enc),.fn f [.ip (.sl false (ks.map u8)) 0]]=some (.v (.bool (l.all p))):=by
 refine q8g (by simp) ?_;have hl':l.length<=9223372036854775807:=iq hl (by decide);simp;refine av (σ:=Nat) (fun i e s=>e 1=.fn f [.ip (.sl false (ks.map u8)) 0]/\e 7=.sl false (l.map Ky.enc)/\e 8=i6 l.length/\e 9=i6 i/\i<=l.length/\Hd (∀j (hj:j<i) (h:j<l.length),p l[j]=true)) (fun i=>l.length-i) ?_ 0 _ _ ⟨by simp,by simp,by simp,by simp,by omega,⟨fun _ h=>by omega⟩⟩;rintro i e s ⟨h1,h7,h8,h9,hi,hA⟩ ih;simp[h1,h7,h8,h9];refine aj (fun h=>?_) (fun h=>?_)<;>(have h':=h;try simp at h')<;>(try simp[*])
 ·have hc:=hp l[i] (gG h');have hf:Hd (p l[i]=false->l.all p=false):=⟨fun g=>dz h' g⟩
  have hg:Hd (p l[i]=true->∀j (hj:j<i+1) (h:j<l.length),p l[j]=true):=⟨fun g j hj h=>by
   rcases qP (qQ hj)with h2|h2
   ·exact hA.out j h2 h
   ·subst h2;exact g⟩
  generalize p l[i]=b at hc hf hg ⊢
  try simp[hc,h1,h7,h8,h9]
  cases b
  ·simp[hf.out rfl]
  ·simp[hc,h1,h7,h8,h9];refine ih.out (i+1) _ _ ?_ (by omega);exact⟨by simp[h1],by simp[h7],by simp[h8],by simp[ai h' hl'],h',⟨hg.out rfl⟩⟩
 ·have hn:=bH (p:=p) (l:=l) (fun j hj=>hA.out j (by omega) hj)
  first
  | exact hn.symm
  | (simp[hn])
  | (rw[oH]at hn;simpa using hn)
theorem J_(ks:List Int)(l:List Ag)(hl:aV l)(f:Nat)(p:Ag->Bool)(hp:∀k∈l,call T f [k.enc,.ip (.sl false (ks.map u8)) 0]=some (.v (.bool (p k)))) :
 call T q6n [.sl false (l.map Ag.enc),.fn f [.ip (.sl false (ks.map u8)) 0]]=some (.v (.bool (l.all p))):=by
 refine q6g (by simp) ?_;have hl':l.length<=9223372036854775807:=iq hl (by decide);simp;refine av (σ:=Nat) (fun i e s=>e 1=.fn f [.ip (.sl false (ks.map u8)) 0]/\e 7=.sl false (l.map Ag.enc)/\e 8=i6 l.length/\e 9=i6 i/\i<=l.length/\Hd (∀j (hj:j<i) (h:j<l.length),p l[j]=true)) (fun i=>l.length-i) ?_ 0 _ _ ⟨by simp,by simp,by simp,by simp,by omega,⟨fun _ h=>by omega⟩⟩;rintro i e s ⟨h1,h7,h8,h9,hi,hA⟩ ih;simp[h1,h7,h8,h9];refine aj (fun h=>?_) (fun h=>?_)<;>(have h':=h;try simp at h')<;>(try simp[*])
 ·have hc:=hp l[i] (gG h');have hf:Hd (p l[i]=false->l.all p=false):=⟨fun g=>dz h' g⟩
  have hg:Hd (p l[i]=true->∀j (hj:j<i+1) (h:j<l.length),p l[j]=true):=⟨fun g j hj h=>by
   rcases qP (qQ hj)with h2|h2
   ·exact hA.out j h2 h
   ·subst h2;exact g⟩
  generalize p l[i]=b at hc hf hg ⊢
  try simp[hc,h1,h7,h8,h9]
  cases b
  ·simp[hf.out rfl]
  ·simp[hc,h1,h7,h8,h9];refine ih.out (i+1) _ _ ?_ (by omega);exact⟨by simp[h1],by simp[h7],by simp[h8],by simp[ai h' hl'],h',⟨hg.out rfl⟩⟩
 ·have hn:=bH (p:=p) (l:=l) (fun j hj=>hA.out j (by omega) hj)
  first
  | exact hn.symm
  | (simp[hn])
  | (rw[oH]at hn;simpa using hn)
theorem Ao(l:List Int)(hl:aV l)(f:Nat)(p:Int->Bool)(hp:∀k∈l,call T f [u8 k]=some (.v (.bool (p k)))) :
 call T q9n [.sl false (l.map u8),.fn f []]=some (.v (.bool (l.all p))):=by
 refine q9g (by simp) ?_;have hl':l.length<=9223372036854775807:=iq hl (by decide);simp;refine av (σ:=Nat) (fun i e s=>e 1=.fn f []/\e 7=.sl false (l.map u8)/\e 8=i6 l.length/\e 9=i6 i/\i<=l.length/\Hd (∀j (hj:j<i) (h:j<l.length),p l[j]=true)) (fun i=>l.length-i) ?_ 0 _ _ ⟨by simp,by simp,by simp,by simp,by omega,⟨fun _ h=>by omega⟩⟩;rintro i e s ⟨h1,h7,h8,h9,hi,hA⟩ ih;simp[h1,h7,h8,h9];refine aj (fun h=>?_) (fun h=>?_)<;>(have h':=h;try simp at h')<;>(try simp[*])
 ·have hc:=hp l[i] (gG h');have hf:Hd (p l[i]=false->l.all p=false):=⟨fun g=>dz h' g⟩
  have hg:Hd (p l[i]=true->∀j (hj:j<i+1) (h:j<l.length),p l[j]=true):=⟨fun g j hj h=>by
   rcases qP (qQ hj)with h2|h2
   ·exact hA.out j h2 h
   ·subst h2;exact g⟩
  generalize p l[i]=b at hc hf hg ⊢
  try simp[hc,h1,h7,h8,h9]
  cases b
  ·simp[hf.out rfl]
  ·simp[hc,h1,h7,h8,h9];refine ih.out (i+1) _ _ ?_ (by omega);exact⟨by simp[h1],by simp[h7],by simp[h8],by simp[ai h' hl'],h',⟨hg.out rfl⟩⟩
 ·have hn:=bH (p:=p) (l:=l) (fun j hj=>hA.out j (by omega) hj)
  first
  | exact hn.symm
  | (simp[hn])
  | (rw[oH]at hn;simpa using hn)
theorem Pg(ks:List Int)(l:List (List Val))(hl:aV l)(f:Nat)(p:(List Val)->Bool)(hp:∀k∈l,call T f [ql k,.ip (.sl false (ks.map u8)) 0]=some (.v (.bool (p k)))) :
 call T Xe [.sl false (l.map ql),.fn f [.ip (.sl false (ks.map u8)) 0]]=some (.v (.bool (l.all p))):=by
 refine q11g (by simp) ?_;have hl':l.length<=9223372036854775807:=iq hl (by decide);simp;refine av (σ:=Nat) (fun i e s=>e 1=.fn f [.ip (.sl false (ks.map u8)) 0]/\e 7=.sl false (l.map ql)/\e 8=i6 l.length/\e 9=i6 i/\i<=l.length/\Hd (∀j (hj:j<i) (h:j<l.length),p l[j]=true)) (fun i=>l.length-i) ?_ 0 _ _ ⟨by simp,by simp,by simp,by simp,by omega,⟨fun _ h=>by omega⟩⟩;rintro i e s ⟨h1,h7,h8,h9,hi,hA⟩ ih;simp[h1,h7,h8,h9];refine aj (fun h=>?_) (fun h=>?_)<;>(have h':=h;try simp at h')<;>(try simp[*])
 ·have hc:=hp l[i] (gG h');have hf:Hd (p l[i]=false->l.all p=false):=⟨fun g=>dz h' g⟩
  have hg:Hd (p l[i]=true->∀j (hj:j<i+1) (h:j<l.length),p l[j]=true):=⟨fun g j hj h=>by
   rcases qP (qQ hj)with h2|h2
   ·exact hA.out j h2 h
   ·subst h2;exact g⟩
  generalize p l[i]=b at hc hf hg ⊢
  try simp[hc,h1,h7,h8,h9]
  cases b
  ·simp[hf.out rfl]
  ·simp[hc,h1,h7,h8,h9];refine ih.out (i+1) _ _ ?_ (by omega);exact⟨by simp[h1],by simp[h7],by simp[h8],by simp[ai h' hl'],h',⟨hg.out rfl⟩⟩
 ·have hn:=bH (p:=p) (l:=l) (fun j hj=>hA.out j (by omega) hj)
  first
  | exact hn.symm
  | (simp[hn])
  | (rw[oH]at hn;simpa using hn)
theorem Ph(ks:List Int)(l:List Int)(hl:aV l)(f:Nat)(p:Int->Bool)(hp:∀k∈l,call T f [i6 k,.ip (.sl false (ks.map u8)) 0]=some (.v (.bool (p k)))) :
 call T Xj [.sl false (l.map i6),.fn f [.ip (.sl false (ks.map u8)) 0]]=some (.v (.bool (l.all p))):=by
 refine q12g (by simp) ?_;have hl':l.length<=9223372036854775807:=iq hl (by decide);simp;refine av (σ:=Nat) (fun i e s=>e 1=.fn f [.ip (.sl false (ks.map u8)) 0]/\e 7=.sl false (l.map i6)/\e 8=i6 l.length/\e 9=i6 i/\i<=l.length/\Hd (∀j (hj:j<i) (h:j<l.length),p l[j]=true)) (fun i=>l.length-i) ?_ 0 _ _ ⟨by simp,by simp,by simp,by simp,by omega,⟨fun _ h=>by omega⟩⟩;rintro i e s ⟨h1,h7,h8,h9,hi,hA⟩ ih;simp[h1,h7,h8,h9];refine aj (fun h=>?_) (fun h=>?_)<;>(have h':=h;try simp at h')<;>(try simp[*])
 ·have hc:=hp l[i] (gG h');have hf:Hd (p l[i]=false->l.all p=false):=⟨fun g=>dz h' g⟩
  have hg:Hd (p l[i]=true->∀j (hj:j<i+1) (h:j<l.length),p l[j]=true):=⟨fun g j hj h=>by
   rcases qP (qQ hj)with h2|h2
   ·exact hA.out j h2 h
   ·subst h2;exact g⟩
  generalize p l[i]=b at hc hf hg ⊢
  try simp[hc,h1,h7,h8,h9]
  cases b
  ·simp[hf.out rfl]
  ·simp[hc,h1,h7,h8,h9];refine ih.out (i+1) _ _ ?_ (by omega);exact⟨by simp[h1],by simp[h7],by simp[h8],by simp[ai h' hl'],h',⟨hg.out rfl⟩⟩
 ·have hn:=bH (p:=p) (l:=l) (fun j hj=>hA.out j (by omega) hj)
  first
  | exact hn.symm
  | (simp[hn])
  | (rw[oH]at hn;simpa using hn)
theorem xg(l:List Ex)(hl:l.length<=9223372036854775807)(f:Nat)(p:Ex->Bool)(hp:∀k∈l,call T f [k.enc]=some (.v (.bool (p k)))) :
 call T Ou [.sl false (l.map Ex.enc),.fn f []]=some (i6 (xL p l)):=by
 refine q203g (by simp) ?_;simp;refine av (σ:=Nat) (fun i e s=>e 0=.sl false (l.map Ex.enc)/\e 1=.fn f []/\e 7=i6 l.length/\e 8=i6 i/\i<=l.length/\Hd (∀j (hj:j<i) (h:j<l.length),p l[j]=false)) (fun i=>l.length-i) ?_ 0 _ _ ⟨rfl,rfl,rfl,rfl,by omega,⟨fun _ h=>by omega⟩⟩;rintro i e s ⟨h0,h1,h7,h8,hi,hA⟩ ih;simp[h0,h1,h7,h8];refine aj (fun h=>?_) (fun h=>?_)<;>(have h':=h;try simp at h')<;>(try simp[*])
 ·have hc:=hp l[i] (gG h');have hf:Hd (p l[i]=true->xL p l=i):=⟨fun g=>pI h' (fun j hj=>hA.out j hj (by omega)) g⟩
  have hg:Hd (p l[i]=false->∀j (hj:j<i+1) (h:j<l.length),p l[j]=false):=⟨fun g j hj h=>by
   rcases qP (qQ hj)with h2|h2
   ·exact hA.out j h2 h
   ·subst h2;exact g⟩
  generalize p l[i]=b at hc hf hg;have he:=Ex.ay l[i];rw[he]at hc
  simp only[he];simp[hc,h0,h1,h7,h8];cases b
  ·simp[h0,h1,h7,h8];refine ih.out (i+1) _ _ ?_ (by omega);exact⟨by simp[h0],by simp[h1],by simp[h7],by simp[ai h' hl],h',⟨hg.out rfl⟩⟩
  ·simp[hf.out rfl]
 ·exact(rZ (fun j hj=>hA.out j (by omega) hj)).symm
theorem sO(l:List Ex)(hl:l.length<=9223372036854775807)(f:Nat)(p:Ex->Bool)(hp:∀k∈l,call T f [k.enc]=some (.v (.bool (p k)))) :
 call T Ot [.sl false (l.map Ex.enc),.fn f []]=some (.v (.bool (l.any p))):=by
 refine q199g (by simp) ?_;simp[xg l hl f p hp,v_]
namespace Ex
theorem O6(l:List Ex):Ew l=l.any fu:=by
 induction l with
 | nil=>rfl
 | cons e l ih=>simp only[Ew,List.any_cons,ih]
theorem xK(e:Ex):e.fu=(!e.sub.isEmpty||e.kids.any fu):=by cases e;simp only[fu,O6,kids,sub]
end Ex
theorem zb(e:Ex)(h:e.small):call T LA [e.enc]=some (.v (.bool e.fu)):=by
 revert h;refine Ex.induct (p:=fun e=>e.small->call T LA [e.enc]=some (.v (.bool e.fu))) (fun e ih hs=>?_) e;have s1:e.kids.length<=9223372036854775807:=iq (Ex.dH hs).kids (by decide);have s3:=(Ex.dH hs).kid;refine q63g (by simp) ?_;have hc:=sO e.kids s1 LA Ex.fu (fun k hk=>ih k hk (s3 k hk));rw[Ex.ay,Ex.xK];by_cases h:e.sub=[]
 ·simp[h,hc]
 ·have h0:0<e.sub.length:=List.length_pos_iff.2 h;have h1:e.sub.isEmpty=false:=by simpa using h
  simp[h0,h1]
theorem any_at{α:Type}{p:α->Bool}{l:List α}{i:Nat}(h:i<l.length)(hp:p l[i]=true):l.any p=true:=List.any_eq_true.2 ⟨_,gG h,hp⟩
theorem any_no{α:Type}{p:α->Bool}{l:List α}(h:∀j (hj:j<l.length),p l[j]=false):l.any p=false:=by rw[List.any_eq_false];intro x hx;obtain⟨j,hj,rfl⟩:=List.getElem_of_mem hx;simp[h j hj]
theorem qf(e:Ex)(h:e.small):call T Cc [e.enc]=some (.v (.bool e.fu)):=by
 revert h;refine Ex.induct (p:=fun e=>e.small->call T Cc [e.enc]=some (.v (.bool e.fu))) (fun e ih hs=>?_) e;have s1:e.kids.length<=9223372036854775807:=iq (Ex.dH hs).kids (by decide);have s3:=(Ex.dH hs).kid;refine q171g (by simp) ?_;have hp:∀k∈e.kids,call T Cc [k.enc]=some (.v (.bool k.fu)):=fun k hk=>ih k hk (s3 k hk)
 rw[Ex.xK,Ex.ay];by_cases h:e.sub=[]
 ·simp[h];refine av (σ:=Nat) (fun i en s=>en 1=.ptr 1 1 0/\en 3=i6 i/\(∃q,s 1=⟨1,true,some (.box (.agg [.v (.int .u8 e.op),.v (.int .u8 e.vk),i6 e.vi,.v (.string e.vs),i6 e.up,i6 e.n,.sl false (e.kids.map Ex.enc),.sl false []])),q⟩)/\i<=e.kids.length/\Hd (∀j (hj:j<i) (h:j<e.kids.length),e.kids[j].fu=false)) (fun i=>e.kids.length-i) ?_ 0 _ _ ⟨rfl,rfl,⟨_,rfl⟩,by omega,⟨fun _ h=>by omega⟩⟩;rintro i en s ⟨h1,h3,⟨q,d1⟩,hi,hA⟩ ih;simp[h1,h3,d1];refine aj (fun h=>?_) (fun h=>?_)<;>(have h':=h;try simp at h')<;>(try simp[*])
  ·have hc:=hp e.kids[i] (gG h');have hf:Hd (e.kids[i].fu=true->e.kids.any Ex.fu=true):=⟨fun g=>any_at h' g⟩
   have hg:Hd (e.kids[i].fu=false->∀j (hj:j<i+1) (h:j<e.kids.length),e.kids[j].fu=false):=⟨fun g j hj h=>by
    rcases qP (qQ hj)with h2|h2
    ·exact hA.out j h2 h
    ·subst h2;exact g⟩
   generalize e.kids[i].fu=b at hc hf hg;have he:=Ex.ay e.kids[i];rw[he]at hc
   simp[he,hc,h1,h3,d1];cases b
   ·simp[h1,h3,d1];refine ih.out (i+1) _ _ ?_ (by omega);exact⟨by simp[h1],by simp[ai h' s1],⟨_,d1⟩,h',⟨hg.out rfl⟩⟩
   ·simp[hf.out rfl]
  ·have hn:=any_no (p:=Ex.fu) (l:=e.kids) (fun j hj=>hA.out j (by omega) hj)
   first
   | exact hn.symm
   | (rw[List.any_eq_false]at hn;simpa using hn)
   | (rw[hn];rfl)
 ·have h0:0<e.sub.length:=List.length_pos_iff.2 h;have h1:e.sub.isEmpty=false:=by simpa using h
  simp[h0,h1]
end Go.Proofs.YtbmkfjmlepjpfaaGreatDoor
