/- A part of the proof. -/
import Derived.Test.YtbmkfjmlepjpfaaGreatDoorEx
import Derived.Test.YtbmkfjmlepjpfaaGreatDoorVv
set_option linter.all false
set_option maxRecDepth 100000
namespace Go.Proofs.YtbmkfjmlepjpfaaGreatDoor
open Go.RowKit
mutual
def Ex.size:Ex->Nat
 | .mk _ _ _ _ _ _ kids sub=>1+Ex.lX kids+Pn.lX sub
def Ex.lX:List Ex->Nat
 | []=>0
 | e::l=>e.size+Ex.lX l
def Pn.size:Pn->Nat
 | .mk _ _ _ _ conds exprs _ _ _ _ _ kids=>1+Pn.lX kids+Ex.lX conds+Ex.lX exprs
def Pn.lX:List Pn->Nat
 | []=>0
 | e::l=>e.size+Pn.lX l
end
def aU{α:Type}(f:α->Nat):List α->Nat
 | []=>0
 | a::l=>f a+aU f l
theorem Ex.qa(l:List Ex):lX l=aU Ex.size l:=by
 induction l with
 | nil=>simp only[Ex.lX,aU]
 | cons a l ih=>simp only[Ex.lX,aU,ih]
theorem Pn.qa(l:List Pn):lX l=aU Pn.size l:=by
 induction l with
 | nil=>simp only[Pn.lX,aU]
 | cons a l ih=>simp only[Pn.lX,aU,ih]
theorem Ex.size_eq(e:Ex):e.size=1+aU Ex.size e.kids+aU Pn.size e.sub:=by cases e;simp only[Ex.size,Ex.qa,Pn.qa,kids,sub]
theorem Pn.size_eq(e:Pn):e.size=1+aU Pn.size e.kids+aU Ex.size e.conds+aU Ex.size e.exprs:=by cases e;simp only[Pn.size,Ex.qa,Pn.qa,kids,conds,exprs]
theorem jS{α:Type}{f:α->Nat}{l:List α}{i:Nat}(h:i<l.length):aU f (l.take (i+1))=aU f (l.take i)+f l[i]:=by
 induction l generalizing i with
 | nil=>simp at h
 | cons a l ih=>
  cases i with
  | zero=>simp[aU]
  | succ i=>simp at h;simp[aU,ih h];omega
theorem jR{α:Type}{f:α->Nat}{l:List α}{i:Nat}(h:l.length<=i):aU f (l.take i)=aU f l:=by rw[List.take_of_length_le h]
theorem n_{α:Type}{f:α->Nat}{l:List α}{i:Nat}:aU f (l.take i)<=aU f l:=by
 induction l generalizing i with
 | nil=>simp[aU]
 | cons a l ih=>
  cases i with
  | zero=>simp[aU]
  | succ i=>simp[aU];exact ih
def aZ(n:Int):Bool:=decide (0<=n)&&decide (n<=2147483647)
def Val.isZero(v:Val):Bool:=decide (v.kind=0)&&(decide (v.int=0)&&v.text.toList.isEmpty)
def dZ(op:Int):Bool:=decide (27<=op)&&decide (op<=29)
def eO(op:Int)(v:Val)(up n:Int)(kids sub:Nat):Bool:=
 (decide (op<=29)&&(!decide (op=1)&&!decide (op=3)))&&((if op=0 then v.valid else v.isZero)&&((if op=2 then aZ up&&aZ n else decide (up=0)&&decide (n=0))&&
  (decide (sub=if dZ op=true then 1 else 0)&&(if op=28 then decide (kids=1)else if op=0\/op=2\/dZ op=true then decide (kids=0)else true))))
def aN(op:Int):Nat:=if op<=1 then 0 else if op=2\/op=3\/(10<=op/\op<=13)then 1 else 2
def jk(p:Pn):Bool:=
 (decide (p.op=0)||(decide (p.kinds.length=0)&&decide (p.rows.length=0)))&&((decide (p.op=1)||decide (p.table=0))&&((decide (p.op=2)||((decide (4<=p.op)&&decide (p.op<=8))||decide (p.conds.length=0)))&&
  ((
   decide (p.op=3)||(decide (p.op=9)||decide (p.exprs.length=0)))&&((decide (p.op=10)||(decide (p.ah.length=0)&&decide (p.ax.length=0)))&&
   ((decide (p.op=12)||(decide (p.op=13)||decide (p.keys.length=0)))&&(decide (p.op=13)||(decide (p.fr=0)&&decide (p.ct=0))))))))
def jB(a:Ag):Bool:=decide (a.fn<=5)&&(aZ a.col&&(!decide (a.fn=0)||(decide (a.col=0)&&!a.ZU)))
def jN(p:Pn):Bool:=(aZ p.table&&(aZ p.fr&&aZ p.ct))&&(p.ah.all aZ&&(p.ax.all jB&&p.keys.all fun k=>aZ k.col))
def mq(p:Pn):Bool:=decide (p.op<=16)&&(decide (p.kids.length=aN p.op)&&(jk p&&(jN p&&(lq p.kinds p.rows&&(!decide (p.op=9)||decide (p.exprs.length=1))))))
mutual
def Ex.formed:Ex->Bool
 | .mk op vk vi vs up n kids sub=>eO op ⟨vk,vi,vs⟩ up n kids.length sub.length&&(Ex.gQ kids&&Pn.gQ sub)
def Ex.gQ:List Ex->Bool
 | []=>true
 | e::l=>e.formed&&Ex.gQ l
def Pn.formed:Pn->Bool
 | .mk op table kinds rows conds exprs ah ax keys fr ct kids=>mq (.mk op table kinds rows conds exprs ah ax keys fr ct kids)&&(Pn.gQ kids&&(Ex.gQ conds&&Ex.gQ exprs))
def Pn.gQ:List Pn->Bool
 | []=>true
 | e::l=>e.formed&&Pn.gQ l
end
theorem Ex.lu(l:List Ex):gQ l=l.all Ex.formed:=by
 induction l with
 | nil=>simp only[Ex.gQ,List.all_nil]
 | cons a l ih=>simp only[Ex.gQ,List.all_cons,ih]
theorem Pn.lu(l:List Pn):gQ l=l.all Pn.formed:=by
 induction l with
 | nil=>simp only[Pn.gQ,List.all_nil]
 | cons a l ih=>simp only[Pn.gQ,List.all_cons,ih]
theorem Ex.jJ(e:Ex):e.formed=(eO e.op e.v e.up e.n e.kids.length e.sub.length&&(e.kids.all Ex.formed&&e.sub.all Pn.formed)):=by cases e;simp only[Ex.formed,Ex.lu,Pn.lu,op,v,vk,vi,vs,up,n,kids,sub]
theorem Pn.jJ(e:Pn):e.formed=(mq e&&(e.kids.all Pn.formed&&(e.conds.all Ex.formed&&e.exprs.all Ex.formed))):=by cases e;simp only[Pn.formed,Ex.lu,Pn.lu,kids,conds,exprs]
def aG(a b:Int):Bool:=decide (a=b)||(decide (a=0)||decide (b=0))
def ku(l:List Int):Int:=l.foldl max 0
def dH(l:List Int):Bool:=l.all fun k=>aG k (ku l)
def bI(op:Int)(n:Nat):Bool:=
 if op=4\/op=11\/(20<=op/\op<=22)then decide (n=1)else if(5<=op/\op<=10)\/(12<=op/\op<=19)then decide (n=2)
 else if op=23\/op=24 then true else if op=25 then decide (2<=n)else if op=26 then decide (1<=n)else false
def iA(op:Int):Int:=if 4<=op/\op<=9 then 1 else if op=10\/op=11\/op=19 then 2 else if 21<=op/\op<=24 then 3 else 0
def iF(op:Int):Int:=if(4<=op/\op<=9)\/op=11 then 1 else if op=10 then 2 else 3
def oI(n i:Nat):Bool:=decide (i % 2=0)&&decide (i+1<n)
def dx(l:List Int):Nat->List Int
 | 0=>[]
 | i+1=>if oI l.length i=true then dx l i else dx l i++[l.getD i 0]
def jd(l:List Int):Nat->List Int
 | 0=>[]
 | i+1=>if oI l.length i=true then jd l i++[l.getD i 0]else jd l i
def qU(l:List Int):Int×Int:=if(jd l l.length).all (fun k=>aG k 3)=true/\dH (dx l l.length)=true then(ku (dx l l.length),0)else(0,50)
def iD(op:Int)(l:List Int):Int×Int:=
 if bI op l.length=true/\aT l=true then
  (if op=25 then qU l else if dH (iA op::l)=true then(if op=26 then(ku l,0)else(iF op,0))else(0,50))
 else(0,1)
def CF(r:Int×Int):Int×Int:=if r.2=0 then r else if r.2=1 then(0,80)else(0,50)
def aF{α β:Type}(f:α->β×Int):List α->List β×Int
 | []=>([],0)
 | a::l=>if(f a).2=0 then(if(aF f l).2=0 then((f a).1::(aF f l).1,0)else([],(aF f l).2))else([],(f a).2)
theorem Bl{α β:Type}{f:α->β×Int}{l:List α}(h:∀a∈l,(f a).2=0):aF f l=(l.map fun a=>(f a).1,0):=by
 induction l with
 | nil=>rfl
 | cons a l ih=>simp[aF,h a (by simp),ih fun b hb=>h b (by simp[hb])]
theorem fD{α β:Type}{f:α->β×Int}{l:List α}{i:Nat}(h:i<l.length)(h1:∀j (hj:j<i),(f l[j]).2=0)(h2:¬(f l[i]).2=0):aF f l=([],(f l[i]).2):=by
 induction l generalizing i with
 | nil=>simp at h
 | cons a l ih=>
  cases i with
  | zero=>simp at h2;simp[aF,h2]
  | succ i=>
   have h0:=h1 0 (by omega);simp at h0 h2 h;have:=ih h (fun j hj=>by have:=h1 (j+1) (by omega);simpa using this) h2;simp[aF,h0,this,h2]
theorem fC{α β:Type}{f:α->β×Int}{l:List α}(h:∀j (hj:j<l.length),(f l[j]).2=0):aF f l=(l.map fun a=>(f a).1,0):=
 Bl fun a ha=>by obtain⟨j,hj,rfl⟩:=List.getElem_of_mem ha;exact h j hj
def Cs(env:List (List Int))(up n:Int):Int×Int:=
 if up<env.length/\n<(env.getD up.toNat []).length then((env.getD up.toNat []).getD n.toNat 0,0)else(0,81)
def oK(op:Int)(ks:List Int)(r:List (List Int)×Int):Int×Int:=
 if r.2=0 then(if op=27 then(3,0)else match r.1 with
  | [[k]]=>if op=29 then(k,0)else if aG (ks.headD 0) k=true then(3,0)else(0,50)
  | _=>(0,81))else(0,r.2)
def bN(r:Int×Int):Int×Int:=if r.2=0 then(if aG r.1 3=true then r else(0,50))else r
def bH(op:Int)(kids:List (List Int)):List Int:=if op=9 then kids.headD []else kids.flatten
def bC(ah:List Int)(ax:List Ag)(keys:List Ky)(own:List Int):Int:=
 if(ah.all (fun n=>decide (n<own.length))&&(ax.all (fun a=>decide (a.fn=0)||decide (a.col<own.length))&&keys.all (fun k=>decide (k.col<own.length))))=true then
  (if ax.all (fun a=>(!decide (a.fn=2)&&!decide (a.fn=5))||aG (own.getD a.col.toNat 0) 1)=true then 0 else 50)else 81
def mD(a b:List Int):List Int×Int:=if a.length=b.length then aF (fun x:Int×Int=>if aG x.1 x.2=true then(max x.1 x.2,0)else(0,50)) (a.zip b)else([],81)
def aM(sc:List (List Int))(op table:Int)(kinds ah:List Int)(ax:List Ag)(kids:List (List Int))(own exprs:List Int):List Int×Int:=
 if op=0 then(kinds,0)else if op=1 then(sc.getD table.toNat [],0)else if op=3 then(exprs,0)
 else if op=10 then(ah.map (fun n=>own.getD n.toNat 0)++ax.map (fun a=>if a.fn=3\/a.fn=4 then own.getD a.col.toNat 0 else 1),0)
 else if op=7\/op=8 then(kids.headD [],0)
 else if op=9 then(match (kids.getD 1 [])with
  | [k]=>if aG (exprs.headD 0) k=true then(kids.headD [],0)else([],50)
  | _=>([],81))
 else if 14<=op then mD (kids.headD []) (kids.getD 1 [])else(own,0)
def fF(r:List Int×Int):List Int×Int:=if r.2=0/\64<r.1.length then([],2)else r
mutual
def Ex.kind(sc:List (List Int))(env:List (List Int)):Ex->Int×Int
 | .mk op vk vi vs up n kids sub=>if(Ex.mR sc env kids).2=0 then(if op=0 then(vk,0)else if op=2 then Cs env up n else if dZ op=true then oK op (Ex.mR sc env kids).1 (Pn.jD sc env sub)else CF (iD op (Ex.mR sc env kids).1))else(0,(Ex.mR sc env kids).2)
def Ex.mR(sc:List (List Int))(env:List (List Int)):List Ex->List Int×Int
 | []=>([],0)
 | a::l=>if(a.kind sc env).2=0 then(if(Ex.mR sc env l).2=0 then((a.kind sc env).1::(Ex.mR sc env l).1,0)else([],(Ex.mR sc env l).2))else([],(a.kind sc env).2)
def Ex.vZ(sc:List (List Int))(env:List (List Int)):List Ex->List Int×Int
 | []=>([],0)
 | a::l=>if(bN (a.kind sc env)).2=0 then(if(Ex.vZ sc env l).2=0 then((bN (a.kind sc env)).1::(Ex.vZ sc env l).1,0)else([],(Ex.vZ sc env l).2))else([],(bN (a.kind sc env)).2)
def Pn.columns(sc:List (List Int))(env:List (List Int)):Pn->List Int×Int
 | .mk op table kinds rows conds exprs ah ax keys fr ct kids=>
  if(Pn.jD sc env kids).2=0 then
   (if op=1/\sc.length<=table then([],81)else
    if bC ah ax keys (bH op (Pn.jD sc env kids).1)=0 then
     (if(Ex.vZ sc (bH op (Pn.jD sc env kids).1::env) conds).2=0 then
      (if(Ex.mR sc (bH op (Pn.jD sc env kids).1::env) exprs).2=0 then
       fF (aM sc op table kinds ah ax (Pn.jD sc env kids).1 (bH op (Pn.jD sc env kids).1) (Ex.mR sc (bH op (Pn.jD sc env kids).1::env) exprs).1)
      else([],(Ex.mR sc (bH op (Pn.jD sc env kids).1::env) exprs).2))
     else([],(Ex.vZ sc (bH op (Pn.jD sc env kids).1::env) conds).2))
    else([],bC ah ax keys (bH op (Pn.jD sc env kids).1)))
  else([],(Pn.jD sc env kids).2)
def Pn.jD(sc:List (List Int))(env:List (List Int)):List Pn->List (List Int)×Int
 | []=>([],0)
 | a::l=>if(a.columns sc env).2=0 then(if(Pn.jD sc env l).2=0 then((a.columns sc env).1::(Pn.jD sc env l).1,0)else([],(Pn.jD sc env l).2))else([],(a.columns sc env).2)
end
theorem Ex.ER(sc env:List (List Int))(l:List Ex):mR sc env l=aF (Ex.kind sc env) l:=by
 induction l with
 | nil=>simp only[Ex.mR,aF]
 | cons a l ih=>simp only[Ex.mR,aF,ih]
theorem Ex.Oo(sc env:List (List Int))(l:List Ex):vZ sc env l=aF (fun e=>bN (Ex.kind sc env e)) l:=by
 induction l with
 | nil=>simp only[Ex.vZ,aF]
 | cons a l ih=>simp only[Ex.vZ,aF,ih]
theorem Pn.Ee(sc env:List (List Int))(l:List Pn):jD sc env l=aF (Pn.columns sc env) l:=by
 induction l with
 | nil=>simp only[Pn.jD,aF]
 | cons a l ih=>simp only[Pn.jD,aF,ih]
theorem Ex.xN(sc env:List (List Int))(e:Ex):e.kind sc env=if(aF (Ex.kind sc env) e.kids).2=0 then(if e.op=0 then(e.vk,0)else if e.op=2 then Cs env e.up e.n else if dZ e.op=true then oK e.op (aF (Ex.kind sc env) e.kids).1 (aF (Pn.columns sc env) e.sub)else CF (iD e.op (aF (Ex.kind sc env) e.kids).1))else(0,(aF (Ex.kind sc env) e.kids).2):=by cases e;simp only[Ex.kind,Ex.ER,Pn.Ee,op,vk,up,n,kids,sub];rfl
def Pn.jq(sc env:List (List Int))(p:Pn):List (List Int)×Int:=aF (Pn.columns sc env) p.kids
def Pn.own(sc env:List (List Int))(p:Pn):List Int:=bH p.op (p.jq sc env).1
theorem Pn.nG(sc env:List (List Int))(p:Pn):p.columns sc env =
 if(p.jq sc env).2=0 then
  (if p.op=1/\sc.length<=p.table then([],81)else
   if bC p.ah p.ax p.keys (p.own sc env)=0 then
    (if(aF (fun e=>bN (Ex.kind sc (p.own sc env::env) e)) p.conds).2=0 then
     (if(aF (Ex.kind sc (p.own sc env::env)) p.exprs).2=0 then
      fF (aM sc p.op p.table p.kinds p.ah p.ax (p.jq sc env).1 (p.own sc env) (aF (Ex.kind sc (p.own sc env::env)) p.exprs).1)
     else([],(aF (Ex.kind sc (p.own sc env::env)) p.exprs).2))
    else([],(aF (fun e=>bN (Ex.kind sc (p.own sc env::env) e)) p.conds).2))
   else([],bC p.ah p.ax p.keys (p.own sc env)))
 else([],(p.jq sc env).2):=by
 cases p;simp only[Pn.columns,Ex.ER,Ex.Oo,Pn.Ee,Pn.jq,Pn.own,op,table,kinds,conds,exprs,ah,ax,keys,kids];rfl
theorem bT{α:Type}{p:α->Bool}{l:List α}{i:Nat}(h:i<l.length)(hp:p l[i]=false):l.all p=false:=by rw[List.all_eq_false];exact⟨_,List.getElem_mem h,by simp[hp]⟩
theorem bg{α:Type}{p:α->Bool}{l:List α}(h:∀j (hj:j<l.length),p l[j]=true):l.all p=true:=by rw[nk];intro x hx;obtain⟨j,hj,rfl⟩:=List.getElem_of_mem hx;exact h j hj
theorem q8(l:List Ex)(hl:aS l)(f:Nat)(p:Ex->Bool)(hp:∀k∈l,call T f [k.enc]=some (.v (.bool (p k)))) :
 call T Q5 [.sl false (l.map Ex.enc),.fn f []]=some (.v (.bool (l.all p))):=by
 refine q7g (by simp) ?_;have hl':l.length<=9223372036854775807:=gJ hl (by decide);simp;refine av (σ:=Nat) (fun i e s=>e 1=.fn f []/\e 7=.sl false (l.map Ex.enc)/\e 8=i6 l.length/\e 9=i6 i/\i<=l.length/\Hd (∀j (hj:j<i) (h:j<l.length),p l[j]=true)) (fun i=>l.length-i) ?_ 0 _ _ ⟨by simp,by simp,by simp,by simp,by omega,⟨fun _ h=>by omega⟩⟩;rintro i e s ⟨h1,h7,h8,h9,hi,hA⟩ ih;simp[h1,h7,h8,h9];refine aj (fun h=>?_) (fun h=>?_)<;>(have h':=h;try simp at h')<;>(try simp[*])
 ·have hc:=hp l[i] (List.getElem_mem h');have hf:Hd (p l[i]=false->l.all p=false):=⟨fun g=>bT h' g⟩
  have hg:Hd (p l[i]=true->∀j (hj:j<i+1) (h:j<l.length),p l[j]=true):=⟨fun g j hj h=>by
   rcases Nat.lt_or_eq_of_le (Nat.le_of_lt_succ hj)with h2|h2
   ·exact hA.out j h2 h
   ·subst h2;exact g⟩
  generalize p l[i]=b at hc hf hg ⊢;have he:=l[i].aB;rw[he]at hc
  simp only[he]
  try simp[hc,h1,h7,h8,h9]
  cases b
  ·simp[hf.out rfl]
  ·simp[hc,h1,h7,h8,h9];refine ih.out (i+1) _ _ ?_ (by omega);exact⟨by simp[h1],by simp[h7],by simp[h8],by simp[ai h' hl'],h',⟨hg.out rfl⟩⟩
 ·have hn:=bg (p:=p) (l:=l) (fun j hj=>hA.out j (by omega) hj)
  first
  | exact hn.symm
  | (simp[hn])
  | (rw[nk]at hn;simpa using hn)
theorem yh(l:List Pn)(hl:aS l)(f:Nat)(p:Pn->Bool)(hp:∀k∈l,call T f [k.enc]=some (.v (.bool (p k)))) :
 call T CX [.sl false (l.map Pn.enc),.fn f []]=some (.v (.bool (l.all p))):=by
 refine q10g (by simp) ?_;have hl':l.length<=9223372036854775807:=gJ hl (by decide);simp;refine av (σ:=Nat) (fun i e s=>e 1=.fn f []/\e 7=.sl false (l.map Pn.enc)/\e 8=i6 l.length/\e 9=i6 i/\i<=l.length/\Hd (∀j (hj:j<i) (h:j<l.length),p l[j]=true)) (fun i=>l.length-i) ?_ 0 _ _ ⟨by simp,by simp,by simp,by simp,by omega,⟨fun _ h=>by omega⟩⟩;rintro i e s ⟨h1,h7,h8,h9,hi,hA⟩ ih;simp[h1,h7,h8,h9];refine aj (fun h=>?_) (fun h=>?_)<;>(have h':=h;try simp at h')<;>(try simp[*])
 ·have hc:=hp l[i] (List.getElem_mem h');have hf:Hd (p l[i]=false->l.all p=false):=⟨fun g=>bT h' g⟩
  have hg:Hd (p l[i]=true->∀j (hj:j<i+1) (h:j<l.length),p l[j]=true):=⟨fun g j hj h=>by
   rcases Nat.lt_or_eq_of_le (Nat.le_of_lt_succ hj)with h2|h2
   ·exact hA.out j h2 h
   ·subst h2;exact g⟩
  generalize p l[i]=b at hc hf hg ⊢;have he:=l[i].aB;rw[he]at hc
  simp only[he]
  try simp[hc,h1,h7,h8,h9]
  cases b
  ·simp[hf.out rfl]
  ·simp[hc,h1,h7,h8,h9];refine ih.out (i+1) _ _ ?_ (by omega);exact⟨by simp[h1],by simp[h7],by simp[h8],by simp[ai h' hl'],h',⟨hg.out rfl⟩⟩
 ·have hn:=bg (p:=p) (l:=l) (fun j hj=>hA.out j (by omega) hj)
  first
  | exact hn.symm
  | (simp[hn])
  | (rw[nk]at hn;simpa using hn)
theorem LJ(l:List Ky)(hl:aS l)(f:Nat)(p:Ky->Bool)(hp:∀k∈l,call T f [k.enc]=some (.v (.bool (p k)))) :
 call T q8n [.sl false (l.map Ky.enc),.fn f []]=some (.v (.bool (l.all p))):=by
 refine q8g (by simp) ?_;have hl':l.length<=9223372036854775807:=gJ hl (by decide);simp;refine av (σ:=Nat) (fun i e s=>e 1=.fn f []/\e 7=.sl false (l.map Ky.enc)/\e 8=i6 l.length/\e 9=i6 i/\i<=l.length/\Hd (∀j (hj:j<i) (h:j<l.length),p l[j]=true)) (fun i=>l.length-i) ?_ 0 _ _ ⟨by simp,by simp,by simp,by simp,by omega,⟨fun _ h=>by omega⟩⟩;rintro i e s ⟨h1,h7,h8,h9,hi,hA⟩ ih;simp[h1,h7,h8,h9];refine aj (fun h=>?_) (fun h=>?_)<;>(have h':=h;try simp at h')<;>(try simp[*])
 ·have hc:=hp l[i] (List.getElem_mem h');have hf:Hd (p l[i]=false->l.all p=false):=⟨fun g=>bT h' g⟩
  have hg:Hd (p l[i]=true->∀j (hj:j<i+1) (h:j<l.length),p l[j]=true):=⟨fun g j hj h=>by
   rcases Nat.lt_or_eq_of_le (Nat.le_of_lt_succ hj)with h2|h2
   ·exact hA.out j h2 h
   ·subst h2;exact g⟩
  generalize p l[i]=b at hc hf hg ⊢
  try simp[hc,h1,h7,h8,h9]
  cases b
  ·simp[hf.out rfl]
  ·simp[hc,h1,h7,h8,h9];refine ih.out (i+1) _ _ ?_ (by omega);exact⟨by simp[h1],by simp[h7],by simp[h8],by simp[ai h' hl'],h',⟨hg.out rfl⟩⟩
 ·have hn:=bg (p:=p) (l:=l) (fun j hj=>hA.out j (by omega) hj)
  first
  | exact hn.symm
  | (simp[hn])
  | (rw[nk]at hn;simpa using hn)
theorem LH(l:List Ag)(hl:aS l)(f:Nat)(p:Ag->Bool)(hp:∀k∈l,call T f [k.enc]=some (.v (.bool (p k)))) :
 call T q6n [.sl false (l.map Ag.enc),.fn f []]=some (.v (.bool (l.all p))):=by
 refine q6g (by simp) ?_;have hl':l.length<=9223372036854775807:=gJ hl (by decide);simp;refine av (σ:=Nat) (fun i e s=>e 1=.fn f []/\e 7=.sl false (l.map Ag.enc)/\e 8=i6 l.length/\e 9=i6 i/\i<=l.length/\Hd (∀j (hj:j<i) (h:j<l.length),p l[j]=true)) (fun i=>l.length-i) ?_ 0 _ _ ⟨by simp,by simp,by simp,by simp,by omega,⟨fun _ h=>by omega⟩⟩;rintro i e s ⟨h1,h7,h8,h9,hi,hA⟩ ih;simp[h1,h7,h8,h9];refine aj (fun h=>?_) (fun h=>?_)<;>(have h':=h;try simp at h')<;>(try simp[*])
 ·have hc:=hp l[i] (List.getElem_mem h');have hf:Hd (p l[i]=false->l.all p=false):=⟨fun g=>bT h' g⟩
  have hg:Hd (p l[i]=true->∀j (hj:j<i+1) (h:j<l.length),p l[j]=true):=⟨fun g j hj h=>by
   rcases Nat.lt_or_eq_of_le (Nat.le_of_lt_succ hj)with h2|h2
   ·exact hA.out j h2 h
   ·subst h2;exact g⟩
  generalize p l[i]=b at hc hf hg ⊢
  try simp[hc,h1,h7,h8,h9]
  cases b
  ·simp[hf.out rfl]
  ·simp[hc,h1,h7,h8,h9];refine ih.out (i+1) _ _ ?_ (by omega);exact⟨by simp[h1],by simp[h7],by simp[h8],by simp[ai h' hl'],h',⟨hg.out rfl⟩⟩
 ·have hn:=bg (p:=p) (l:=l) (fun j hj=>hA.out j (by omega) hj)
  first
  | exact hn.symm
  | (simp[hn])
  | (rw[nk]at hn;simpa using hn)
theorem Gm(ks:List Int)(l:List Ky)(hl:aS l)(f:Nat)(p:Ky->Bool)(hp:∀k∈l,call T f [k.enc,.ip (.sl false (ks.map u8)) 0]=some (.v (.bool (p k)))) :
 call T q8n [.sl false (l.map Ky.enc),.fn f [.ip (.sl false (ks.map u8)) 0]]=some (.v (.bool (l.all p))):=by
 refine q8g (by simp) ?_;have hl':l.length<=9223372036854775807:=gJ hl (by decide);simp;refine av (σ:=Nat) (fun i e s=>e 1=.fn f [.ip (.sl false (ks.map u8)) 0]/\e 7=.sl false (l.map Ky.enc)/\e 8=i6 l.length/\e 9=i6 i/\i<=l.length/\Hd (∀j (hj:j<i) (h:j<l.length),p l[j]=true)) (fun i=>l.length-i) ?_ 0 _ _ ⟨by simp,by simp,by simp,by simp,by omega,⟨fun _ h=>by omega⟩⟩;rintro i e s ⟨h1,h7,h8,h9,hi,hA⟩ ih;simp[h1,h7,h8,h9];refine aj (fun h=>?_) (fun h=>?_)<;>(have h':=h;try simp at h')<;>(try simp[*])
 ·have hc:=hp l[i] (List.getElem_mem h');have hf:Hd (p l[i]=false->l.all p=false):=⟨fun g=>bT h' g⟩
  have hg:Hd (p l[i]=true->∀j (hj:j<i+1) (h:j<l.length),p l[j]=true):=⟨fun g j hj h=>by
   rcases Nat.lt_or_eq_of_le (Nat.le_of_lt_succ hj)with h2|h2
   ·exact hA.out j h2 h
   ·subst h2;exact g⟩
  generalize p l[i]=b at hc hf hg ⊢
  try simp[hc,h1,h7,h8,h9]
  cases b
  ·simp[hf.out rfl]
  ·simp[hc,h1,h7,h8,h9];refine ih.out (i+1) _ _ ?_ (by omega);exact⟨by simp[h1],by simp[h7],by simp[h8],by simp[ai h' hl'],h',⟨hg.out rfl⟩⟩
 ·have hn:=bg (p:=p) (l:=l) (fun j hj=>hA.out j (by omega) hj)
  first
  | exact hn.symm
  | (simp[hn])
  | (rw[nk]at hn;simpa using hn)
theorem Gj(ks:List Int)(l:List Ag)(hl:aS l)(f:Nat)(p:Ag->Bool)(hp:∀k∈l,call T f [k.enc,.ip (.sl false (ks.map u8)) 0]=some (.v (.bool (p k)))) :
 call T q6n [.sl false (l.map Ag.enc),.fn f [.ip (.sl false (ks.map u8)) 0]]=some (.v (.bool (l.all p))):=by
 refine q6g (by simp) ?_;have hl':l.length<=9223372036854775807:=gJ hl (by decide);simp;refine av (σ:=Nat) (fun i e s=>e 1=.fn f [.ip (.sl false (ks.map u8)) 0]/\e 7=.sl false (l.map Ag.enc)/\e 8=i6 l.length/\e 9=i6 i/\i<=l.length/\Hd (∀j (hj:j<i) (h:j<l.length),p l[j]=true)) (fun i=>l.length-i) ?_ 0 _ _ ⟨by simp,by simp,by simp,by simp,by omega,⟨fun _ h=>by omega⟩⟩;rintro i e s ⟨h1,h7,h8,h9,hi,hA⟩ ih;simp[h1,h7,h8,h9];refine aj (fun h=>?_) (fun h=>?_)<;>(have h':=h;try simp at h')<;>(try simp[*])
 ·have hc:=hp l[i] (List.getElem_mem h');have hf:Hd (p l[i]=false->l.all p=false):=⟨fun g=>bT h' g⟩
  have hg:Hd (p l[i]=true->∀j (hj:j<i+1) (h:j<l.length),p l[j]=true):=⟨fun g j hj h=>by
   rcases Nat.lt_or_eq_of_le (Nat.le_of_lt_succ hj)with h2|h2
   ·exact hA.out j h2 h
   ·subst h2;exact g⟩
  generalize p l[i]=b at hc hf hg ⊢
  try simp[hc,h1,h7,h8,h9]
  cases b
  ·simp[hf.out rfl]
  ·simp[hc,h1,h7,h8,h9];refine ih.out (i+1) _ _ ?_ (by omega);exact⟨by simp[h1],by simp[h7],by simp[h8],by simp[ai h' hl'],h',⟨hg.out rfl⟩⟩
 ·have hn:=bg (p:=p) (l:=l) (fun j hj=>hA.out j (by omega) hj)
  first
  | exact hn.symm
  | (simp[hn])
  | (rw[nk]at hn;simpa using hn)
theorem yg(l:List Int)(hl:aS l)(f:Nat)(p:Int->Bool)(hp:∀k∈l,call T f [u8 k]=some (.v (.bool (p k)))) :
 call T q9n [.sl false (l.map u8),.fn f []]=some (.v (.bool (l.all p))):=by
 refine q9g (by simp) ?_;have hl':l.length<=9223372036854775807:=gJ hl (by decide);simp;refine av (σ:=Nat) (fun i e s=>e 1=.fn f []/\e 7=.sl false (l.map u8)/\e 8=i6 l.length/\e 9=i6 i/\i<=l.length/\Hd (∀j (hj:j<i) (h:j<l.length),p l[j]=true)) (fun i=>l.length-i) ?_ 0 _ _ ⟨by simp,by simp,by simp,by simp,by omega,⟨fun _ h=>by omega⟩⟩;rintro i e s ⟨h1,h7,h8,h9,hi,hA⟩ ih;simp[h1,h7,h8,h9];refine aj (fun h=>?_) (fun h=>?_)<;>(have h':=h;try simp at h')<;>(try simp[*])
 ·have hc:=hp l[i] (List.getElem_mem h');have hf:Hd (p l[i]=false->l.all p=false):=⟨fun g=>bT h' g⟩
  have hg:Hd (p l[i]=true->∀j (hj:j<i+1) (h:j<l.length),p l[j]=true):=⟨fun g j hj h=>by
   rcases Nat.lt_or_eq_of_le (Nat.le_of_lt_succ hj)with h2|h2
   ·exact hA.out j h2 h
   ·subst h2;exact g⟩
  generalize p l[i]=b at hc hf hg ⊢
  try simp[hc,h1,h7,h8,h9]
  cases b
  ·simp[hf.out rfl]
  ·simp[hc,h1,h7,h8,h9];refine ih.out (i+1) _ _ ?_ (by omega);exact⟨by simp[h1],by simp[h7],by simp[h8],by simp[ai h' hl'],h',⟨hg.out rfl⟩⟩
 ·have hn:=bg (p:=p) (l:=l) (fun j hj=>hA.out j (by omega) hj)
  first
  | exact hn.symm
  | (simp[hn])
  | (rw[nk]at hn;simpa using hn)
theorem LM(ks:List Int)(l:List (List Val))(hl:aS l)(f:Nat)(p:(List Val)->Bool)(hp:∀k∈l,call T f [oJ k,.ip (.sl false (ks.map u8)) 0]=some (.v (.bool (p k)))) :
 call T UA [.sl false (l.map oJ),.fn f [.ip (.sl false (ks.map u8)) 0]]=some (.v (.bool (l.all p))):=by
 refine q11g (by simp) ?_;have hl':l.length<=9223372036854775807:=gJ hl (by decide);simp;refine av (σ:=Nat) (fun i e s=>e 1=.fn f [.ip (.sl false (ks.map u8)) 0]/\e 7=.sl false (l.map oJ)/\e 8=i6 l.length/\e 9=i6 i/\i<=l.length/\Hd (∀j (hj:j<i) (h:j<l.length),p l[j]=true)) (fun i=>l.length-i) ?_ 0 _ _ ⟨by simp,by simp,by simp,by simp,by omega,⟨fun _ h=>by omega⟩⟩;rintro i e s ⟨h1,h7,h8,h9,hi,hA⟩ ih;simp[h1,h7,h8,h9];refine aj (fun h=>?_) (fun h=>?_)<;>(have h':=h;try simp at h')<;>(try simp[*])
 ·have hc:=hp l[i] (List.getElem_mem h');have hf:Hd (p l[i]=false->l.all p=false):=⟨fun g=>bT h' g⟩
  have hg:Hd (p l[i]=true->∀j (hj:j<i+1) (h:j<l.length),p l[j]=true):=⟨fun g j hj h=>by
   rcases Nat.lt_or_eq_of_le (Nat.le_of_lt_succ hj)with h2|h2
   ·exact hA.out j h2 h
   ·subst h2;exact g⟩
  generalize p l[i]=b at hc hf hg ⊢
  try simp[hc,h1,h7,h8,h9]
  cases b
  ·simp[hf.out rfl]
  ·simp[hc,h1,h7,h8,h9];refine ih.out (i+1) _ _ ?_ (by omega);exact⟨by simp[h1],by simp[h7],by simp[h8],by simp[ai h' hl'],h',⟨hg.out rfl⟩⟩
 ·have hn:=bg (p:=p) (l:=l) (fun j hj=>hA.out j (by omega) hj)
  first
  | exact hn.symm
  | (simp[hn])
  | (rw[nk]at hn;simpa using hn)
theorem LP(ks:List Int)(l:List Int)(hl:aS l)(f:Nat)(p:Int->Bool)(hp:∀k∈l,call T f [i6 k,.ip (.sl false (ks.map u8)) 0]=some (.v (.bool (p k)))) :
 call T UR [.sl false (l.map i6),.fn f [.ip (.sl false (ks.map u8)) 0]]=some (.v (.bool (l.all p))):=by
 refine q12g (by simp) ?_;have hl':l.length<=9223372036854775807:=gJ hl (by decide);simp;refine av (σ:=Nat) (fun i e s=>e 1=.fn f [.ip (.sl false (ks.map u8)) 0]/\e 7=.sl false (l.map i6)/\e 8=i6 l.length/\e 9=i6 i/\i<=l.length/\Hd (∀j (hj:j<i) (h:j<l.length),p l[j]=true)) (fun i=>l.length-i) ?_ 0 _ _ ⟨by simp,by simp,by simp,by simp,by omega,⟨fun _ h=>by omega⟩⟩;rintro i e s ⟨h1,h7,h8,h9,hi,hA⟩ ih;simp[h1,h7,h8,h9];refine aj (fun h=>?_) (fun h=>?_)<;>(have h':=h;try simp at h')<;>(try simp[*])
 ·have hc:=hp l[i] (List.getElem_mem h');have hf:Hd (p l[i]=false->l.all p=false):=⟨fun g=>bT h' g⟩
  have hg:Hd (p l[i]=true->∀j (hj:j<i+1) (h:j<l.length),p l[j]=true):=⟨fun g j hj h=>by
   rcases Nat.lt_or_eq_of_le (Nat.le_of_lt_succ hj)with h2|h2
   ·exact hA.out j h2 h
   ·subst h2;exact g⟩
  generalize p l[i]=b at hc hf hg ⊢
  try simp[hc,h1,h7,h8,h9]
  cases b
  ·simp[hf.out rfl]
  ·simp[hc,h1,h7,h8,h9];refine ih.out (i+1) _ _ ?_ (by omega);exact⟨by simp[h1],by simp[h7],by simp[h8],by simp[ai h' hl'],h',⟨hg.out rfl⟩⟩
 ·have hn:=bg (p:=p) (l:=l) (fun j hj=>hA.out j (by omega) hj)
  first
  | exact hn.symm
  | (simp[hn])
  | (rw[nk]at hn;simpa using hn)
theorem uV(l:List Ex)(hl:l.length<=9223372036854775807)(f:Nat)(p:Ex->Bool)(hp:∀k∈l,call T f [k.enc]=some (.v (.bool (p k)))) :
 call T KV [.sl false (l.map Ex.enc),.fn f []]=some (i6 (vD p l)):=by
 refine q198g (by simp) ?_;simp;refine av (σ:=Nat) (fun i e s=>e 0=.sl false (l.map Ex.enc)/\e 1=.fn f []/\e 7=i6 l.length/\e 8=i6 i/\i<=l.length/\Hd (∀j (hj:j<i) (h:j<l.length),p l[j]=false)) (fun i=>l.length-i) ?_ 0 _ _ ⟨rfl,rfl,rfl,rfl,by omega,⟨fun _ h=>by omega⟩⟩;rintro i e s ⟨h0,h1,h7,h8,hi,hA⟩ ih;simp[h0,h1,h7,h8];refine aj (fun h=>?_) (fun h=>?_)<;>(have h':=h;try simp at h')<;>(try simp[*])
 ·have hc:=hp l[i] (List.getElem_mem h');have hf:Hd (p l[i]=true->vD p l=i):=⟨fun g=>nJ h' (fun j hj=>hA.out j hj (by omega)) g⟩
  have hg:Hd (p l[i]=false->∀j (hj:j<i+1) (h:j<l.length),p l[j]=false):=⟨fun g j hj h=>by
   rcases Nat.lt_or_eq_of_le (Nat.le_of_lt_succ hj)with h2|h2
   ·exact hA.out j h2 h
   ·subst h2;exact g⟩
  generalize p l[i]=b at hc hf hg;have he:=Ex.aB l[i];rw[he]at hc
  simp only[he];simp[hc,h0,h1,h7,h8];cases b
  ·simp[h0,h1,h7,h8];refine ih.out (i+1) _ _ ?_ (by omega);exact⟨by simp[h0],by simp[h1],by simp[h7],by simp[ai h' hl],h',⟨hg.out rfl⟩⟩
  ·simp[hf.out rfl]
 ·exact(qj (fun j hj=>hA.out j (by omega) hj)).symm
theorem qB(l:List Ex)(hl:l.length<=9223372036854775807)(f:Nat)(p:Ex->Bool)(hp:∀k∈l,call T f [k.enc]=some (.v (.bool (p k)))) :
 call T KU [.sl false (l.map Ex.enc),.fn f []]=some (.v (.bool (l.any p))):=by
 refine q194g (by simp) ?_;simp[uV l hl f p hp,tQ]
namespace Ex
theorem Lu(l:List Ex):BZ l=l.any dX:=by
 induction l with
 | nil=>rfl
 | cons e l ih=>simp only[BZ,List.any_cons,ih]
theorem vC(e:Ex):e.dX=(!e.sub.isEmpty||e.kids.any dX):=by cases e;simp only[dX,Lu,kids,sub]
end Ex
theorem wZ(e:Ex)(h:e.small):call T Io [e.enc]=some (.v (.bool e.dX)):=by
 revert h;refine Ex.induct (p:=fun e=>e.small->call T Io [e.enc]=some (.v (.bool e.dX))) (fun e ih hs=>?_) e;have s1:e.kids.length<=9223372036854775807:=gJ (Ex.cK hs).kids (by decide);have s3:=(Ex.cK hs).kid;refine q63g (by simp) ?_;have hc:=qB e.kids s1 Io Ex.dX (fun k hk=>ih k hk (s3 k hk));rw[Ex.aB,Ex.vC];by_cases h:e.sub=[]
 ·simp[h,hc]
 ·have h0:0<e.sub.length:=List.length_pos_iff.2 h;have h1:e.sub.isEmpty=false:=by simpa using h
  simp[h0,h1]
theorem any_at{α:Type}{p:α->Bool}{l:List α}{i:Nat}(h:i<l.length)(hp:p l[i]=true):l.any p=true:=List.any_eq_true.2 ⟨_,List.getElem_mem h,hp⟩
theorem any_no{α:Type}{p:α->Bool}{l:List α}(h:∀j (hj:j<l.length),p l[j]=false):l.any p=false:=by rw[List.any_eq_false];intro x hx;obtain⟨j,hj,rfl⟩:=List.getElem_of_mem hx;simp[h j hj]
theorem oC(e:Ex)(h:e.small):call T zC [e.enc]=some (.v (.bool e.dX)):=by
 revert h;refine Ex.induct (p:=fun e=>e.small->call T zC [e.enc]=some (.v (.bool e.dX))) (fun e ih hs=>?_) e;have s1:e.kids.length<=9223372036854775807:=gJ (Ex.cK hs).kids (by decide);have s3:=(Ex.cK hs).kid;refine q167g (by simp) ?_;have hp:∀k∈e.kids,call T zC [k.enc]=some (.v (.bool k.dX)):=fun k hk=>ih k hk (s3 k hk)
 rw[Ex.vC,Ex.aB];by_cases h:e.sub=[]
 ·simp[h];refine av (σ:=Nat) (fun i en s=>en 1=.ptr 1 1 0/\en 3=i6 i/\(∃q,s 1=⟨1,true,some (.box (.agg [.v (.int .u8 e.op),.v (.int .u8 e.vk),i6 e.vi,.v (.string e.vs),i6 e.up,i6 e.n,.sl false (e.kids.map Ex.enc),.sl false []])),q⟩)/\i<=e.kids.length/\Hd (∀j (hj:j<i) (h:j<e.kids.length),e.kids[j].dX=false)) (fun i=>e.kids.length-i) ?_ 0 _ _ ⟨rfl,rfl,⟨_,rfl⟩,by omega,⟨fun _ h=>by omega⟩⟩;rintro i en s ⟨h1,h3,⟨q,d1⟩,hi,hA⟩ ih;simp[h1,h3,d1];refine aj (fun h=>?_) (fun h=>?_)<;>(have h':=h;try simp at h')<;>(try simp[*])
  ·have hc:=hp e.kids[i] (List.getElem_mem h');have hf:Hd (e.kids[i].dX=true->e.kids.any Ex.dX=true):=⟨fun g=>any_at h' g⟩
   have hg:Hd (e.kids[i].dX=false->∀j (hj:j<i+1) (h:j<e.kids.length),e.kids[j].dX=false):=⟨fun g j hj h=>by
    rcases Nat.lt_or_eq_of_le (Nat.le_of_lt_succ hj)with h2|h2
    ·exact hA.out j h2 h
    ·subst h2;exact g⟩
   generalize e.kids[i].dX=b at hc hf hg;have he:=Ex.aB e.kids[i];rw[he]at hc
   simp[he,hc,h1,h3,d1];cases b
   ·simp[h1,h3,d1];refine ih.out (i+1) _ _ ?_ (by omega);exact⟨by simp[h1],by simp[ai h' s1],⟨_,d1⟩,h',⟨hg.out rfl⟩⟩
   ·simp[hf.out rfl]
  ·have hn:=any_no (p:=Ex.dX) (l:=e.kids) (fun j hj=>hA.out j (by omega) hj)
   first
   | exact hn.symm
   | (rw[List.any_eq_false]at hn;simpa using hn)
   | (rw[hn];rfl)
 ·have h0:0<e.sub.length:=List.length_pos_iff.2 h;have h1:e.sub.isEmpty=false:=by simpa using h
  simp[h0,h1]
end Go.Proofs.YtbmkfjmlepjpfaaGreatDoor
