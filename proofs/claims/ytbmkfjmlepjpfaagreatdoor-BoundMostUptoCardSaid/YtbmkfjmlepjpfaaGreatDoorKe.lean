/- A part of the proof. -/
import Derived.Test.YtbmkfjmlepjpfaaGreatDoorEa
set_option linter.all false
set_option maxRecDepth 100000
namespace Go.Proofs.YtbmkfjmlepjpfaaGreatDoor
open Go.RowKit
def dpHP(g j:Nat)(x:SO):Option X:=match x.o with
 | some (.box y)=>if g=x.g then match Ay y with
  | some z=>some (.ip z j)
  | none=>none
  else none
 | _=>none
@[simp] theorem dpG_ipE(s:ay)(x:X)(j:Nat):wh s (.ip x j)=if x.deep then some (.ip x j)else none:=rfl
@[simp] theorem dpH_ipE(s:ay)(x:X)(j:Nat):xI s (.ip x j)=if x.deep then some (.ip x j)else none:=rfl
@[simp] theorem dpH_ptrE(s:ay)(o g j:Nat):xI s (.ptr o g j)=dpHP g j (s o):=rfl
@[simp] theorem dpG_ptrE(s:ay)(o g j:Nat):wh s (.ptr o g j)=dpHP g j (s o):=rfl
@[simp] theorem dpHP_box(g j g':Nat)(wr:Bool)(y:X)(n:Nat):dpHP g j ⟨g',wr,some (.box y),n⟩=if g=g' then(match Ay y with
 | some z=>some (.ip z j)
 | none=>none)else none:=rfl
@[simp] theorem dpC0_v(u:Value):Ay (.v u)=some (.v u):=rfl
@[simp] theorem dpC0_sl(f:Bool)(es:List X):Ay (.sl f es)=if aP es then some (.sl f es)else none:=rfl
theorem sM(a b:Int):call T Q7 [u8 a,u8 b]=some (.v (.bool (aG a b))):=by
 refine q86g (by simp) ?_;unfold aG;by_cases h:a=b
 ·simp[h]
 ·by_cases h0:a=0
  ·have hb:¬0=b:=fun hh=>h (by rw[h0];exact hh);simp[h0,hb]
  ·simp[h,h0]
theorem gG(a b:Int):call T q5n [u8 a,u8 b]=some (.v (.bool (aG a b))):=by
 refine q5g (by simp) ?_;unfold aG;by_cases h:a=b
 ·simp[h]
 ·by_cases h0:a=0
  ·have hb:¬0=b:=fun hh=>h (by rw[h0];exact hh);simp[h0,hb]
  ·simp[h,h0]
theorem l_(a b:Int):call T BG [u8 a,u8 b]=some (.v (.bool (aG a b))):=by
 refine q108g (by simp) ?_;unfold aG;by_cases h:a=b
 ·simp[h]
 ·by_cases h0:a=0
  ·have hb:¬0=b:=fun hh=>h (by rw[h0];exact hh);simp[h0,hb]
  ·simp[h,h0]
theorem iH(a b:Int):call T wJ [u8 a,u8 b]=some (.v (.bool (aG a b))):=by
 refine q121g (by simp) ?_;unfold aG;by_cases h:a=b
 ·simp[h]
 ·by_cases h0:a=0
  ·have hb:¬0=b:=fun hh=>h (by rw[h0];exact hh);simp[h0,hb]
  ·simp[h,h0]
theorem w_(a k:Int):call T M_ [u8 a,.ip (u8 k) 0]=some (.v (.bool (!aG a k))):=by refine q89g (by simp) ?_;have h:=sM a k;simp[h]
theorem Ak(k:Int):call T Q6 [u8 k]=some (.v (.bool (decide (3<k)))):=by refine q85g (by simp) ?_;simp
theorem sG(m:Int)(l:List Int)(hl:l.length<=9223372036854775807)(f:Nat)(p:Int->Bool)(hp:∀k∈l,call T f [u8 k,.ip (u8 m) 0]=some (.v (.bool (p k)))) :
 call T BI [.sl false (l.map u8),.fn f [.ip (u8 m) 0]]=some (i6 (vD p l)):=by
 refine QD (by simp) ?_;simp;refine av (σ:=Nat) (fun i e s=>e 0=.sl false (l.map u8)/\e 1=.fn f [.ip (u8 m) 0]/\e 7=i6 l.length/\e 8=i6 i/\i<=l.length/\Hd (∀j (hj:j<i) (h:j<l.length),p l[j]=false)) (fun i=>l.length-i) ?_ 0 _ _ ⟨rfl,rfl,by simp,rfl,by omega,⟨fun _ h=>by omega⟩⟩;rintro i e s ⟨h0,h1,h7,h8,hi,hA⟩ ih;simp[h0,h1,h7,h8];refine aj (fun h=>?_) (fun h=>?_)<;>(have h':=h;try simp at h')<;>(try simp[*])
 ·have hc:=hp l[i] (List.getElem_mem h');have hf:Hd (p l[i]=true->vD p l=i):=⟨fun g=>nJ h' (fun j hj=>hA.out j hj (by omega)) g⟩
  have hg:Hd (p l[i]=false->∀j (hj:j<i+1) (h:j<l.length),p l[j]=false):=⟨fun g j hj h=>by
   rcases Nat.lt_or_eq_of_le (Nat.le_of_lt_succ hj)with h2|h2
   ·exact hA.out j h2 h
   ·subst h2;exact g⟩
  generalize p l[i]=b at hc hf hg
  try simp[hc,h0,h1,h7,h8]
  cases b
  ·simp[h0,h1,h7,h8];refine ih.out (i+1) _ _ ?_ (by omega);exact⟨by simp[h0],by simp[h1],by simp[h7],by simp[ai h' hl],h',⟨hg.out rfl⟩⟩
  ·simp[hf.out rfl]
 ·exact(qj (fun j hj=>hA.out j (by omega) hj)).symm
theorem oP(m:Int)(l:List Int)(hl:l.length<=9223372036854775807)(f:Nat)(p:Int->Bool)(hp:∀k∈l,call T f [u8 k,.ip (u8 m) 0]=some (.v (.bool (p k)))) :
 call T qX [.sl false (l.map u8),.fn f [.ip (u8 m) 0]]=some (.v (.bool (l.any p))):=by
 refine QC (by simp) ?_;simp[sG m l hl f p hp,tQ]
theorem Sk{l:List Int}{p:Int->Bool}:(l.any fun k=>!p k)=!l.all p:=by
 induction l with
 | nil=>rfl
 | cons a l ih=>simp only[List.any_cons,List.all_cons,ih,Bool.not_and]
set_option maxHeartbeats 1000000 in
theorem qO(l:List Int)(hl':l.length<=9223372036854775807):call T Rb [.sl false (l.map u8)]=some (.bU [u8 (ku l),.v (.bool (dH l))]):=by
 refine q88g (by simp) ?_;have hc:∀k,call T qX [.sl false (l.map u8),.fn M_ [.ip (u8 k) 0]]=some (.v (.bool (l.any fun a=>!aG a k))):=fun k=>oP k l hl' M_ _ (fun a _=>w_ a k);have hS:dH l=l.all fun k=>aG k (ku l):=rfl;rw[hS];clear hS;have hM:l.foldl max 0=ku l:=rfl;generalize ku l=M at hM ⊢;replace hM:=Hd.mk hM;simp;refine av (σ:=Nat) (fun i e s=>e 0=.sl false (l.map u8)/\e 2=.ptr 2 1 0/\e 6=.sl false (l.map u8)/\e 7=i6 l.length/\e 8=i6 i/\(∃a q,s 2=⟨1,true,some (.box (u8 a)),q⟩/\Hd ((l.drop i).foldl max a=M))/\i<=l.length) (fun i=>l.length-i) ?_ 0 _ _
  ⟨by simp,by simp,by simp,by simp,by simp,⟨0,1,by simp,⟨by rw[List.drop_zero];exact hM.out⟩⟩,by omega⟩
 rintro i e s ⟨h0,h2,h6,h7,h8,⟨a,q,s2,hA⟩,hi⟩ ih;simp[h0,h2,h6,h7,h8,s2];refine aj (fun h=>?_) (fun h=>?_)<;>(have h':=h;try simp at h')<;>(try simp[*])
 ·have hd:l.drop i=l[i]::l.drop (i+1):=List.drop_eq_getElem_cons h';rw[hd]at hA
  refine ih.out (i+1) _ _ ?_ (by omega);exact⟨by simp[h0],by simp[h2],by simp[h6],by simp[h7],by simp[ai h' hl'],⟨max a l[i],q+1,by simp[s2],hA⟩,h'⟩
 ·have hA':=hA.out;rw[List.drop_eq_nil_of_le (by omega)]at hA'
  simp at hA';subst hA';simp[hc,h0,h2,s2];exact Sk
theorem A8{s:ay}(i:Nat):fU .rem (.v (.int .i64 (i:Int))) (.v (.int .i64 2)) s=some (.v (.int .i64 ((i % 2:Nat):Int)),s):=by
 have h:(i:Int).tmod 2=((i % 2:Nat):Int):=by rw[Int.tmod_eq_emod_of_nonneg (by omega)];omega
 simp[fU,jy,h]
theorem mZ(l:List Int)(i:Nat):(dx l i).length<=i:=by
 induction i with
 | zero=>simp[dx]
 | succ i ih=>
  simp only[dx];split
  ·omega
  ·simp;omega
theorem D_(l:List Int)(i:Nat):(jd l i).length<=i:=by
 induction i with
 | zero=>simp[jd]
 | succ i ih=>
  simp only[jd];split
  ·simp;omega
  ·omega
theorem Fb{l:List Int}{i:Nat}(h:oI l.length i=true):dx l (i+1)=dx l i:=by rw[dx,if_pos h]
theorem qp{l:List Int}{i:Nat}(h:i<l.length)(h':oI l.length i=false):dx l (i+1)=dx l i++[l[i]]:=by rw[dx,if_neg (by simp[h'])];simp[h]
theorem Eb{l:List Int}{i:Nat}(h:i<l.length)(h':oI l.length i=true):jd l (i+1)=jd l i++[l[i]]:=by rw[jd,if_pos h'];simp[h]
theorem xH{l:List Int}{i:Nat}(h:oI l.length i=false):jd l (i+1)=jd l i:=by rw[jd,if_neg (by simp[h])]
theorem Oj{l:List Int}{p:Int->Bool}(i n:Nat)(h:i<=n)(hn:(jd l n).all p=true):(jd l i).all p=true:=by
 induction n with
 | zero=>
  have:i=0:=by omega
  subst this;exact hn
 | succ n ih=>
  by_cases e:i=n+1
  ·subst e;exact hn
  ·refine ih (by omega) ?_;simp only[jd]at hn;split at hn
   ·rw[List.all_append]at hn;simp at hn;simp;exact hn.1
   ·exact hn
def iU(s:ay)(o:Nat)(x:X)(es:List Int):Prop:=(es=[]/\x=.nil)\/(¬es=[]/\∃g n,x=.ref o g 1 0 es.length/\s o=⟨g,true,some (.row 1 (es.map u8)),n⟩)
set_option maxHeartbeats 1000000 in
theorem w9(l:List Int)(hl:aS l):call T YI [.sl false (l.map u8)]=some (.bU [u8 (qU l).1,i6 (qU l).2]):=by
 refine q87g (by simp) ?_;have hl':l.length<=9223372036854775807:=gJ hl (by decide);have hl2:l.length<=1099511627776:=hl;have hbad:∀i,i<=l.length->¬(jd l i).all (fun k=>aG k 3)=true->qU l=(0,50):=fun i hi h=>if_neg (fun hh=>h (Oj i l.length hi hh.1));have hend:(jd l l.length).all (fun k=>aG k 3)=true->qU l=if dH (dx l l.length)=true then(ku (dx l l.length),0)else(0,50):=fun h=>by simp only[qU,h,true_and]
 have hcm:=qO (dx l l.length) (gJ (mZ l l.length) hl');generalize qU l=C at hbad hend ⊢;simp;refine av (σ:=Nat) (fun i e s=>e 0=.sl false (l.map u8)/\e 10=.sl false (l.map u8)/\e 11=i6 l.length/\e 12=i6 i/\iU s 32 (e 4) (dx l i)/\i<=l.length/\Hd ((jd l i).all (fun k=>aG k 3)=true)) (fun i=>l.length-i) ?_ 0 _ _
  ⟨by simp,by simp,by simp,by simp,.inl ⟨rfl,by simp⟩,by omega,⟨by simp[jd]⟩⟩
 rintro i e s ⟨h0,h10,h11,h12,hrow,hi,hA⟩ ih;simp[h0,h10,h11,h12];refine aj (fun h=>?_) (fun h=>?_)<;>(have h':=h;try simp at h')<;>(try simp[*])
 ·have hr:=fun s=>A8 (s:=s) i;have hw:IntKind.i64.wrap ((l.length:Int)-1)=(l.length:Int)-1:=iM (by omega) (by omega);have hag:=sM l[i] 3;have next:∀e' s',(jd l (i+1)).all (fun k=>aG k 3)=true->e' 0=.sl false (l.map u8)->e' 10=.sl false (l.map u8)->e' 11=i6 l.length->e' 12=i6 ((i+1:Nat):Int)->iU s' 32 (e' 4) (dx l (i+1))->wp T [It.lp q87l1,It.bl 0,It.code ((IC.ops Q8).seq (((IC.ops Q9).seq (IC.cond (Ar.t 43) ((IC.ops Q_).seq IC.ret) IC.skip)).seq ((IC.ops Ra).seq IC.ret)))] e' s' (fun e s=>aC e s [fI.tmp 2,fI.tmp 3]=some (.bU [u8 C.1,i6 C.2])):=
   fun e' s' a b c d f g=>ih.out (i+1) e' s' ⟨b,c,d,f,g,h',⟨a⟩⟩ (by omega)
  replace next:=Hd.mk next
  clear ih;by_cases m:i % 2=0
  ·have m1:((i % 2:Nat):Int)=0:=by omega
   have m2:(i:Int) % 2=0:=by omega
   by_cases n:(i:Int)<(l.length:Int)-1
   ·have hco:oI l.length i=true:=by simp only[oI,m,decide_true,Bool.true_and,decide_eq_true_eq];omega
    generalize hb:aG l[i] 3=b at hag;have hcs:=Eb h' hco;cases b
    ·have hn:=hbad (i+1) h' (by rw[hcs,List.all_append];simp[hb]);simp[hr,hw,m1,m2,n,hag,h0,h10,h11,h12,hn]
    ·simp[hr,hw,m1,m2,n,hag,h0,h10,h11,h12];refine next.out _ _ (by rw[hcs,List.all_append,hA.out];simp[hb]) (by simp[h0]) (by simp[h10]) (by simp[h11]) (by simp[ai h' hl']) ?_
     rw[Fb hco];simpa using hrow
   ·have hco:oI l.length i=false:=by simp only[oI,Bool.and_eq_false_iff,decide_eq_false_iff_not];omega
    have hcs:=xH (l:=l) hco;have hos:=qp h' hco;have hol:=mZ l i;rcases hrow with⟨r1,r2⟩|⟨r1,g,c,r2,r3⟩
    ·simp[hr,hw,m1,m2,n,h0,h10,h11,h12,r2];refine next.out _ _ (by rw[hcs];exact hA.out) (by simp[h0]) (by simp[h10]) (by simp[h11]) (by simp[ai h' hl']) ?_
     rw[hos,r1];exact .inr ⟨by simp,(s 32).g+1,_,by simp,by simp;rfl⟩
    ·simp[hr,hw,m1,m2,n,h0,h10,h11,h12,r2,r3,show(dx l i).length<=140737488355327 by omega];refine next.out _ _ (by rw[hcs];exact hA.out) (by simp[h0]) (by simp[h10]) (by simp[h11]) (by simp[ai h' hl']) ?_
     rw[hos];exact .inr ⟨by simp,g+1,_,by simp,by simp[r3];rfl⟩
  ·have hco:oI l.length i=false:=by simp[oI,m]
   have m1:¬((i % 2:Nat):Int)=0:=by omega
   have m2:¬(i:Int) % 2=0:=by omega
   have hcs:=xH (l:=l) hco;have hos:=qp h' hco;have hol:=mZ l i;rcases hrow with⟨r1,r2⟩|⟨r1,g,c,r2,r3⟩
   ·simp[hr,hw,m1,m2,h0,h10,h11,h12,r2];refine next.out _ _ (by rw[hcs];exact hA.out) (by simp[h0]) (by simp[h10]) (by simp[h11]) (by simp[ai h' hl']) ?_
    rw[hos,r1];exact .inr ⟨by simp,(s 32).g+1,_,by simp,by simp;rfl⟩
   ·simp[hr,hw,m1,m2,h0,h10,h11,h12,r2,r3,show(dx l i).length<=140737488355327 by omega];refine next.out _ _ (by rw[hcs];exact hA.out) (by simp[h0]) (by simp[h10]) (by simp[h11]) (by simp[ai h' hl']) ?_
    rw[hos];exact .inr ⟨by simp,g+1,_,by simp,by simp[r3];rfl⟩
 ·have hin:i=l.length:=by omega
  have hA':=hA.out;rw[hin]at hA'
  have hC:=hend hA';rw[hin]at hrow
  generalize dx l l.length=O at hrow hcm hC;generalize dH O=b at hcm hC;generalize ku O=M at hcm hC;rcases hrow with⟨r1,r2⟩|⟨r1,g,c,r2,r3⟩
  ·rw[r1]at hcm
   simp only[List.map_nil]at hcm;cases b
   ·simp at hC;subst hC;simp[hcm,r2,h0]
   ·simp at hC;subst hC;simp[hcm,r2,h0]
  ·cases b
   ·simp at hC;subst hC;simp[hcm,r2,r3,h0]
   ·simp at hC;subst hC;simp[hcm,r2,r3,h0]
def Rz(op:Int):Int:=if op=4\/op=11\/(20<=op/\op<=22)\/op=26 then 1 else if op=23\/op=24 then 0 else 2
def RA(op:Int):Int:=if op=4\/op=11\/(20<=op/\op<=22)then 1 else if op=23\/op=24\/op=26 then 4611686018427387904 else 2
def sigG(op:Int):Int:=if op=26 then 0 else iF op
def AO(op:Int):Bool:=(decide (4<=op)&&decide (op<=24))||decide (op=26)
theorem sN(op:Int):call T YJ [u8 op]=some (if AO op=true then .bU [.agg [i6 (Rz op),i6 (RA op),u8 (iA op),u8 (sigG op)],.v (.bool true)]else .bU [.agg [i6 0,i6 0,u8 0,u8 0],.v (.bool false)]):=by
 refine q90g (by simp) ?_;by_cases h:(4<=op/\op<=24)\/op=26
 ·have h':op=4\/op=5\/op=6\/op=7\/op=8\/op=9\/op=10\/op=11\/op=12\/op=13\/op=14\/op=15\/op=16\/op=17\/op=18\/op=19\/op=20\/op=21\/op=22\/op=23\/op=24\/op=26:=by omega
  rcases h' with rfl|rfl|rfl|rfl|rfl|rfl|rfl|rfl|rfl|rfl|rfl|rfl|rfl|rfl|rfl|rfl|rfl|rfl|rfl|rfl|rfl|rfl
  all_goals simp[AO,Rz,RA,sigG,iA,iF]
 ·have hO:AO op=false:=by simp only[AO,Bool.or_eq_false_iff,Bool.and_eq_false_iff,decide_eq_false_iff_not];omega
  rw[hO];have h4:¬op=4:=by omega
  have h5:¬op=5:=by omega
  have h6:¬op=6:=by omega
  have h7:¬op=7:=by omega
  have h8:¬op=8:=by omega
  have h9:¬op=9:=by omega
  have h10:¬op=10:=by omega
  have h11:¬op=11:=by omega
  have h12:¬op=12:=by omega
  have h13:¬op=13:=by omega
  have h14:¬op=14:=by omega
  have h15:¬op=15:=by omega
  have h16:¬op=16:=by omega
  have h17:¬op=17:=by omega
  have h18:¬op=18:=by omega
  have h19:¬op=19:=by omega
  have h20:¬op=20:=by omega
  have h21:¬op=21:=by omega
  have h22:¬op=22:=by omega
  have h23:¬op=23:=by omega
  have h24:¬op=24:=by omega
  have h26:¬op=26:=by omega
  simp[h4,h5,h6,h7,h8,h9,h10,h11,h12,h13,h14,h15,h16,h17,h18,h19,h20,h21,h22,h23,h24,h26]
theorem LB(op:Int)(n:Nat)(hn:n<=1099511627776):(AO op=true/\Rz op<=n/\n<=RA op)\/(op=25/\2<=n)↔bI op n=true:=by
 by_cases h:(4<=op/\op<=26)
 ·have h':op=4\/op=5\/op=6\/op=7\/op=8\/op=9\/op=10\/op=11\/op=12\/op=13\/op=14\/op=15\/op=16\/op=17\/op=18\/op=19\/op=20\/op=21\/op=22\/op=23\/op=24\/op=25\/op=26:=by omega
  rcases h' with rfl|rfl|rfl|rfl|rfl|rfl|rfl|rfl|rfl|rfl|rfl|rfl|rfl|rfl|rfl|rfl|rfl|rfl|rfl|rfl|rfl|rfl|rfl
  all_goals simp[AO,Rz,RA,bI]
  all_goals omega
 ·have hO:AO op=false:=by simp only[AO,Bool.or_eq_false_iff,Bool.and_eq_false_iff,decide_eq_false_iff_not];omega
  have hA:bI op n=false:=by unfold bI;rw[if_neg (by omega),if_neg (by omega),if_neg (by omega),if_neg (by omega),if_neg (by omega)]
  rw[hO,hA];have:¬op=25:=by omega
  simp[this]
theorem Bp(l:List Int):ku (0::l)=ku l:=rfl
theorem Lv(l:List Int):(l.any fun k=>decide (3<k))=!aT l:=by
 have h:aT l=l.all fun k=>!decide (3<k):=by
  unfold aT;congr 1;funext k;by_cases h:k<=3
  ·have:¬3<k:=by omega
   simp[h,this]
  ·have:3<k:=by omega
   simp[h,this]
 rw[h];induction l with
 | nil=>rfl
 | cons a l ih=>simp only[List.any_cons,List.all_cons,Bool.not_and,Bool.not_not]at *;rw[ih];unfold aT;congr 1;funext k;by_cases h:k<=3<;>simp[h]<;>omega
set_option maxHeartbeats 1000000 in
theorem DR(op:Int)(l:List Int)(hl:aS l):call T YH [u8 op,.sl false (l.map u8)]=some (.bU [u8 (iD op l).1,i6 (iD op l).2]):=by
 refine q84g (by simp) ?_;have hl2:l.length<=1099511627776:=hl;have hs:=sN op;have hc:=kH l (gJ hl (by decide)) Q6 (fun k=>decide (3<k)) (fun k=>Ak k);rw[Lv]at hc
 have har:=LB op l.length hl2;have hcs:=w9 l hl;have hcm:=qO (iA op::l) (by simp;omega);simp only[List.map_cons]at hcm;have htk:(l.map u8).take l.length=l.map u8:=List.take_of_length_le (by simp);unfold iD;generalize aT l=kb at hc ⊢;by_cases h25:op=25
 ·subst h25;have hO:AO 25=false:=by decide
  rw[hO]at hs har
  simp at hs har;by_cases h2:2<=l.length
  ·have h2':¬(l.length:Int)<2:=by omega
   have h3:¬(4611686018427387904:Int)<l.length:=by omega
   rw[har.1 h2];cases kb
   ·simp[hs,hc,h2',h3]
   ·simp[hs,hc,h2',h3,h2,hcs]
  ·have h2':(l.length:Int)<2:=by omega
   have hA:bI 25 l.length=false:=by
    cases hA:bI 25 l.length
    ·rfl
    ·exact absurd (har.2 hA) h2
   rw[hA];simp[hs,h2']
 by_cases hO:AO op=true
 case neg=>
  simp only[Bool.not_eq_true]at hO;rw[hO]at hs har
  simp at hs;have hA:bI op l.length=false:=by
   cases hA:bI op l.length
   ·rfl
   ·rw[hA]at har;simp at har;exact absurd har.1 h25
  rw[hA];simp[hs,h25]
 rw[hO]at hs har
 simp at hs;by_cases h1:(l.length:Int)<Rz op
 ·have hA:bI op l.length=false:=by
   cases hA:bI op l.length
   ·rfl
   ·rw[hA]at har;simp[h25]at har;omega
  rw[hA];simp[hs,h25,h1]
 by_cases h2:RA op<(l.length:Int)
 ·have hA:bI op l.length=false:=by
   cases hA:bI op l.length
   ·rfl
   ·rw[hA]at har;simp[h25]at har;omega
  rw[hA];simp[hs,h25,h1,h2]
 have hA:bI op l.length=true:=har.1 (.inl ⟨rfl,by omega,by omega⟩);rw[hA];cases kb
 ·simp[hs,hc,h25,h1,h2]
 generalize dH (iA op::l)=b at hcm ⊢;cases b
 ·simp[hs,hc,h25,h1,h2,hcm,show l.length<=140737488355327 by omega,Nat.add_comm 1 l.length,htk]
 by_cases h26:op=26
 ·subst h26;have ht:iA 26=0:=by decide
  rw[ht]at hs hcm
  rw[Bp]at hcm
  simp[hs,hc,h1,h2,hcm,show l.length<=140737488355327 by omega,Nat.add_comm 1 l.length,htk]
 ·have hg:sigG op=iF op:=if_neg h26;rw[hg]at hs
  simp[hs,hc,h25,h26,h1,h2,hcm,show l.length<=140737488355327 by omega,Nat.add_comm 1 l.length,htk]
theorem tL(l:List Int)(a:Int):a<=l.foldl max a/\(∀k∈l,k<=l.foldl max a)/\(l.foldl max a=a\/l.foldl max a∈l):=by
 induction l generalizing a with
 | nil=>simp
 | cons x l ih=>
  obtain⟨h1,h2,h3⟩:=ih (max a x);simp only[List.foldl_cons];refine⟨by omega,?_,?_⟩
  ·intro k hk;rcases List.mem_cons.1 hk with rfl|hk
   ·omega
   ·exact h2 k hk
  ·rcases h3 with h3|h3
   ·rw[h3];by_cases h:a<=x
    ·right;have:max a x=x:=by omega
     rw[this];simp
    ·left;omega
   ·right;exact List.mem_cons_of_mem _ h3
theorem fB{a b:Int}:aG a b=true↔a=b\/a=0\/b=0:=by simp[aG]
theorem FR{l:List Int}{a:Int}(h0:0<=a)(h:∀k∈l,k=0\/k=a)(ha:a=0\/a∈l):ku l=a/\dH l=true:=by
 obtain⟨h1,h2,h3⟩:=tL l 0;have hm:ku l=a:=by
  unfold ku;rcases ha with ha|ha
  ·rcases h3 with h3|h3
   ·omega
   ·rcases h _ h3 with q|q<;>omega
  ·have:=h2 a ha;rcases h3 with h3|h3
   ·omega
   ·rcases h _ h3 with q|q<;>omega
 refine⟨hm,?_⟩;simp only[dH,hm,nk,fB];intro k hk;rcases h k hk with q|q
 ·exact .inr (.inl q)
 ·exact .inl q
theorem BN{l:List Int}{x y:Int}(hx:x∈l)(hy:y∈l)(x0:0<x)(y0:0<y)(hxy:¬x=y):dH l=false:=by
 obtain⟨h1,h2,h3⟩:=tL l 0;cases hs:dH l
 ·rfl
 ·simp only[dH,nk,fB,ku]at hs;have:=hs x hx;have:=hs y hy;have:=h2 x hx;omega
theorem pX{t:Int}{l:List Int}(ht:0<t)(hn:∀k∈l,0<=k):dH (t::l)=l.all fun k=>aG k t:=by
 cases h:l.all fun k=>aG k t
 ·rw[List.all_eq_false]at h
  obtain⟨x,hx,hxa⟩:=h;rw[fB]at hxa
  have:=hn x hx;exact BN (x:=t) (y:=x) (by simp) (by simp[hx]) ht (by omega) (by omega)
 ·simp only[nk,fB]at h;refine(FR (a:=t) (by omega) ?_ (.inr (by simp))).2;intro k hk;rcases List.mem_cons.1 hk with rfl|hk
  ·exact .inr rfl
  ·have:=h k hk;omega
theorem IJ(l:List Int):dH (0::l)=dH l:=by
 simp only[dH,Bp,List.all_cons];have:aG 0 (ku l)=true:=by rw[fB];exact .inr (.inl rfl)
 rw[this,Bool.true_and]
theorem Np{a b:Int}(ha:0<=a)(hb:0<=b):dH [a,b]=aG a b:=by
 have e:ku [a,b]=max (max 0 a) b:=rfl;simp only[dH,e,List.all_cons,List.all_nil,Bool.and_true];have h1:(aG a (max (max 0 a) b)&&aG b (max (max 0 a) b))=true↔aG a b=true:=by simp only[bE,fB];omega
 cases hx:aG a b<;>simp_all
theorem iB(l:List Int)(t:Int)(hl:l.length<=9223372036854775807):call T uq [.sl false (l.map u8),u8 t]=some (.v (.bool (l.all fun k=>aG k t))):=by
 refine q111g (by simp) ?_;simp;refine av (σ:=Nat) (fun i e s=>e 0=.sl false (l.map u8)/\e 1=u8 t/\e 5=i6 i/\i<=l.length/\Hd (∀j (hj:j<i) (h:j<l.length),aG l[j] t=true)) (fun i=>l.length-i) ?_ 0 _ _ ⟨by simp,by simp,by simp,by omega,⟨fun _ h=>by omega⟩⟩;rintro i e s ⟨h0,h1,h5,hi,hA⟩ ih;simp[h0,h1,h5];refine aj (fun h=>?_) (fun h=>?_)<;>(have h':=h;try simp at h')<;>(try simp[*])
 ·have hc:=l_ l[i] t;have hf:Hd (aG l[i] t=false->(l.all fun k=>aG k t)=false):=⟨fun g=>bT h' g⟩
  have hg:Hd (aG l[i] t=true->∀j (hj:j<i+1) (h:j<l.length),aG l[j] t=true):=⟨fun g j hj h=>by
   rcases Nat.lt_or_eq_of_le (Nat.le_of_lt_succ hj)with h2|h2
   ·exact hA.out j h2 h
   ·subst h2;exact g⟩
  generalize aG l[i] t=b at hc hf hg;simp[hc,h0,h1,h5];cases b
  ·have hq:=hf.out rfl;simp[h0,h1,h5];rw[List.all_eq_false]at hq
   simpa using hq
  ·simp[h0,h1,h5];refine ih.out (i+1) _ _ ?_ (by omega);exact⟨by simp[h0],by simp[h1],by simp[ai h' hl],h',⟨hg.out rfl⟩⟩
 ·have hn:=bg (p:=fun k=>aG k t) (l:=l) (fun j hj=>hA.out j (by omega) hj)
  first
  | exact hn.symm
  | (simp[hn])
  | (rw[nk]at hn;simpa using hn)
theorem oU(l:List Int)(hl:l.length<=9223372036854775807)(hn:∀k∈l,0<=k):call T Fu [.sl false (l.map u8)]=some (.bU [u8 (if dH l=true then ku l else 0),.v (.bool (dH l))]):=by
 refine q109g (by simp) ?_;have hno:∀(a b:Int),a∈l->b∈l->0<a->0<b->¬a=b->dH l=false:=fun a b h1 h2 h3 h4 h5=>BN h1 h2 h3 h4 h5;have hyes:∀a:Int,0<=a->(∀k∈l,k=0\/k=a)->(a=0\/a∈l)->ku l=a/\dH l=true:=fun a h1 h2 h3=>FR h1 h2 h3;generalize dH l=S at hno hyes ⊢;generalize ku l=M at hyes ⊢;simp;refine av (σ:=Nat) (fun i e s=>e 0=.sl false (l.map u8)/\e 5=i6 i/\(∃a:Int,e 4=u8 a/\0<=a/\(a=0\/a∈l)/\Hd (∀j (hj:j<i) (h:j<l.length),l[j]=0\/l[j]=a))/\i<=l.length) (fun i=>l.length-i) ?_ 0 _ _
  ⟨by simp,by simp,⟨0,by simp,by omega,.inl rfl,⟨fun _ h=>by omega⟩⟩,by omega⟩
 rintro i e s ⟨h0,h5,⟨a,h4,ha0,ha,hA⟩,hi⟩ ih;simp[h0,h5,h4];refine aj (fun h=>?_) (fun h=>?_)<;>(have h':=h;try simp at h')<;>(try simp[*])
 ·have hc:=l_ a l[i];have hmem:l[i]∈l:=List.getElem_mem h';have hnn:=hn l[i] hmem;have step:∀b:Int,(l[i]=0\/l[i]=b)->(a=0\/a=b)->∀j (hj:j<i+1) (h:j<l.length),l[j]=0\/l[j]=b:=fun b h1 h2 j hj h=>by
   rcases Nat.lt_or_eq_of_le (Nat.le_of_lt_succ hj)with q|q
   ·rcases hA.out j q h with r|r
    ·exact .inl r
    ·rcases h2 with h2|h2
     ·exact .inl (by rw[r,h2])
     ·exact .inr (by rw[r,h2])
   ·subst q;exact h1
  by_cases hag:aG a l[i]=true
  ·rw[hag]at hc
   rw[fB]at hag
   by_cases a0:a=0
   ·subst a0;simp[hc,h',h0,h5,h4];refine ih.out (i+1) _ _ ?_ (by omega);exact⟨by simp[h0],by simp[ai h' hl],⟨l[i],by simp,hnn,.inr hmem,⟨step l[i] (.inr rfl) (.inl rfl)⟩⟩,h'⟩
   ·simp[hc,h0,h5,h4,a0];refine ih.out (i+1) _ _ ?_ (by omega);exact⟨by simp[h0],by simp[ai h' hl],⟨a,by simp[h4],ha0,ha,⟨step a (by omega) (.inr rfl)⟩⟩,h'⟩
  ·simp only[Bool.not_eq_true]at hag;rw[hag]at hc
   have hag':¬(a=l[i]\/a=0\/l[i]=0):=by rw[<-fB,hag];simp
   have hS:=hno a l[i] (by rcases ha with q|q;exact absurd (.inr (.inl q)) hag';exact q) hmem (by omega) (by omega) (fun q=>hag' (.inl q));subst hS;simp[hc,h0,h5,h4]
 ·have hq:=hyes a ha0 (fun k hk=>by obtain⟨j,hj,rfl⟩:=List.getElem_of_mem hk;exact hA.out j (by omega) hj) ha
  obtain⟨rfl,rfl⟩:=hq;simp
set_option maxHeartbeats 1000000 in
theorem sP(l:List Int)(hl:aS l):call T J7 [.sl false (l.map u8)]=some (.bU [.sl true ((jd l l.length).map u8),.sl true ((dx l l.length).map u8)]):=by
 refine q112g (by simp) ?_;have hl':l.length<=9223372036854775807:=gJ hl (by decide);have hl2:l.length<=1099511627776:=hl;simp;refine av (σ:=Nat) (fun i e s=>e 0=.sl false (l.map u8)/\e 6=i6 i/\iU s 29 (e 4) (jd l i)/\iU s 36 (e 5) (dx l i)/\i<=l.length) (fun i=>l.length-i) ?_ 0 _ _
  ⟨by simp,by simp,.inl ⟨rfl,by simp⟩,.inl ⟨rfl,by simp⟩,by omega⟩
 rintro i e s ⟨h0,h6,hco,hou,hi⟩ ih;simp[h0,h6];refine aj (fun h=>?_) (fun h=>?_)<;>(have h':=h;try simp at h')<;>(try simp[*])
 ·have hr:=fun s=>A8 (s:=s) i;have hw:IntKind.i64.wrap ((i:Int)+1)=(i:Int)+1:=iM (by omega) (by omega);have next:∀e' s',e' 0=.sl false (l.map u8)->e' 6=i6 ((i+1:Nat):Int)->iU s' 29 (e' 4) (jd l (i+1))->iU s' 36 (e' 5) (dx l (i+1))->wp T [It.lp PI,It.bl 0,It.code ((IC.ops PK).seq IC.ret)] e' s' (fun e s=>aC e s [fI.tmp 2,fI.tmp 3]=some (.bU [.sl true ((jd l l.length).map u8),.sl true ((dx l l.length).map u8)])):=
   fun e' s' a b c d=>ih.out (i+1) e' s' ⟨a,b,c,d,h'⟩ (by omega)
  replace next:=Hd.mk next
  clear ih;have hc1:=D_ l i;have hc2:=mZ l i;by_cases m:i % 2=0
  ·have m1:((i % 2:Nat):Int)=0:=by omega
   have m2:(i:Int) % 2=0:=by omega
   by_cases n:(i:Int)+1<(l.length:Int)
   ·have hat:oI l.length i=true:=by simp only[oI,m,decide_true,Bool.true_and,decide_eq_true_eq];omega
    have e1:=Eb h' hat;have e2:=Fb hat;have n':i+1<l.length:=by omega
    rcases hco with⟨r1,r2⟩|⟨r1,g,c,r2,r3⟩
    ·simp[hr,hw,m1,m2,n,n',h',r2,h0,h6];refine next.out _ _ (by simp[h0]) (by simp[ai h' hl']) ?_ ?_
     ·rw[e1,r1];exact .inr ⟨by simp,(s 29).g+1,_,by simp,by simp;rfl⟩
     ·rw[e2];simpa[iU]using hou
    ·simp[hr,hw,m1,m2,n,n',h',r2,r3,show(jd l i).length<=140737488355327 by omega,h0,h6];refine next.out _ _ (by simp[h0]) (by simp[ai h' hl']) ?_ ?_
     ·rw[e1];exact .inr ⟨by simp,g+1,_,by simp,by simp[r3];rfl⟩
     ·rw[e2];simpa[iU]using hou
   ·have hat:oI l.length i=false:=by simp only[oI,Bool.and_eq_false_iff,decide_eq_false_iff_not];omega
    have e1:=xH (l:=l) hat;have e2:=qp h' hat;have n':¬i+1<l.length:=by omega
    rcases hou with⟨r1,r2⟩|⟨r1,g,c,r2,r3⟩
    ·simp[hr,hw,m1,m2,n,n',h',r2,h0,h6];refine next.out _ _ (by simp[h0]) (by simp[ai h' hl']) ?_ ?_
     ·rw[e1];simpa[iU]using hco
     ·rw[e2,r1];exact .inr ⟨by simp,(s 36).g+1,_,by simp,by simp;rfl⟩
    ·simp[hr,hw,m1,m2,n,n',h',r2,r3,show(dx l i).length<=140737488355327 by omega,h0,h6];refine next.out _ _ (by simp[h0]) (by simp[ai h' hl']) ?_ ?_
     ·rw[e1];simpa[iU]using hco
     ·rw[e2];exact .inr ⟨by simp,g+1,_,by simp,by simp[r3];rfl⟩
  ·have hat:oI l.length i=false:=by simp[oI,m]
   have e1:=xH (l:=l) hat;have e2:=qp h' hat;have m1:¬((i % 2:Nat):Int)=0:=by omega
   have m2:¬(i:Int) % 2=0:=by omega
   rcases hou with⟨r1,r2⟩|⟨r1,g,c,r2,r3⟩
   ·simp[hr,hw,m1,m2,h',r2,h0,h6];refine next.out _ _ (by simp[h0]) (by simp[ai h' hl']) ?_ ?_
    ·rw[e1];simpa[iU]using hco
    ·rw[e2,r1];exact .inr ⟨by simp,(s 36).g+1,_,by simp,by simp;rfl⟩
   ·simp[hr,hw,m1,m2,h',r2,r3,show(dx l i).length<=140737488355327 by omega,h0,h6];refine next.out _ _ (by simp[h0]) (by simp[ai h' hl']) ?_ ?_
    ·rw[e1];simpa[iU]using hco
    ·rw[e2];exact .inr ⟨by simp,g+1,_,by simp,by simp[r3];rfl⟩
 ·have hin:i=l.length:=by omega
  rw[hin]at hco hou
  rcases hco with⟨r1,r2⟩|⟨r1,g,c,r2,r3⟩
  ·rcases hou with⟨q1,q2⟩|⟨q1,g',c',q2,q3⟩
   ·simp[r2,q2,r1,q1]
   ·simp[r2,q2,q3,r1]
  ·rcases hou with⟨q1,q2⟩|⟨q1,g',c',q2,q3⟩
   ·simp[r2,r3,q2,q1]
   ·simp[r2,r3,q2,q3]
def cO(op:Int):Int:=if 4<=op/\op<=9 then 1 else if op=10 then 2 else if op=11 then 3 else if 12<=op/\op<=18 then 4 else if op=19 then 5 else if op=20 then 6 else if op=21\/op=22 then 7 else if op=23\/op=24 then 8 else if op=25 then 9 else if op=26 then 10 else 0
def jH(op:Int):Int:=if op=4\/op=11\/(20<=op/\op<=22)then 1 else if 5<=op/\op<=19 then 2 else if 23<=op/\op<=26 then -1 else 0
theorem yx(op:Int):call T J9 [u8 op]=some (.bU [i6 (cO op),i6 (jH op)]):=by
 refine q114g (by simp) ?_;by_cases h:4<=op/\op<=26
 ·have h':op=4\/op=5\/op=6\/op=7\/op=8\/op=9\/op=10\/op=11\/op=12\/op=13\/op=14\/op=15\/op=16\/op=17\/op=18\/op=19\/op=20\/op=21\/op=22\/op=23\/op=24\/op=25\/op=26:=by omega
  rcases h' with rfl|rfl|rfl|rfl|rfl|rfl|rfl|rfl|rfl|rfl|rfl|rfl|rfl|rfl|rfl|rfl|rfl|rfl|rfl|rfl|rfl|rfl|rfl
  all_goals simp[cO,jH]
 ·have e1:cO op=0:=by unfold cO;rw[if_neg (by omega),if_neg (by omega),if_neg (by omega),if_neg (by omega),if_neg (by omega),if_neg (by omega),if_neg (by omega),if_neg (by omega),if_neg (by omega),if_neg (by omega)]
  have e2:jH op=0:=by unfold jH;rw[if_neg (by omega),if_neg (by omega),if_neg (by omega)]
  rw[e1,e2];have h4:¬op=4:=by omega
  have h5:¬op=5:=by omega
  have h6:¬op=6:=by omega
  have h7:¬op=7:=by omega
  have h8:¬op=8:=by omega
  have h9:¬op=9:=by omega
  have h10:¬op=10:=by omega
  have h11:¬op=11:=by omega
  have h12:¬op=12:=by omega
  have h13:¬op=13:=by omega
  have h14:¬op=14:=by omega
  have h15:¬op=15:=by omega
  have h16:¬op=16:=by omega
  have h17:¬op=17:=by omega
  have h18:¬op=18:=by omega
  have h19:¬op=19:=by omega
  have h20:¬op=20:=by omega
  have h21:¬op=21:=by omega
  have h22:¬op=22:=by omega
  have h23:¬op=23:=by omega
  have h24:¬op=24:=by omega
  have h25:¬op=25:=by omega
  have h26:¬op=26:=by omega
  simp[h4,h5,h6,h7,h8,h9,h10,h11,h12,h13,h14,h15,h16,h17,h18,h19,h20,h21,h22,h23,h24,h25,h26]
def vE(s:Int)(l:List Int):Int×Bool:=
 if s=1 then(1,l.all fun k=>aG k 1)else if s=2 then(2,l.all fun k=>aG k 2)else if s=3 then(1,l.all fun k=>aG k 2)
 else if s=4 then(3,aG (l.getD 0 0) (l.getD 1 0))else if s=5 then(3,l.all fun k=>aG k 2)else if s=6 then(3,true)else if s=7\/s=8 then(3,l.all fun k=>aG k 3)
 else if s=9 then(if dH (dx l l.length)=true then ku (dx l l.length)else 0,dH (dx l l.length)&&(jd l l.length).all fun k=>aG k 3)
 else(if dH l=true then ku l else 0,dH l)
theorem MQ{l:List Int}{P:Int->Prop}(h:∀k∈l,P k)(n:Nat)(hn:n<=l.length):∀k∈dx l n,P k:=by
 induction n with
 | zero=>simp[dx]
 | succ n ih=>
  have hn':n<l.length:=hn;simp only[dx];split
  ·exact ih (by omega)
  ·intro k hk;rcases List.mem_append.1 hk with hk|hk
   ·exact ih (by omega) k hk
   ·simp[hn']at hk
    subst hk;exact h _ (List.getElem_mem hn')
theorem yw(s:Int)(hs:1<=s/\s<=10)(l:List Int)(hl:aS l)(hn:∀k∈l,0<=k)(h4:s=4->l.length=2):call T J8 [i6 s,.sl false (l.map u8)]=some (.bU [u8 (vE s l).1,.v (.bool (vE s l).2)]):=by
 refine q113g (by simp) ?_;have hl':l.length<=9223372036854775807:=gJ hl (by decide);have a1:=iB l 1 hl';have a2:=iB l 2 hl';have a3:=iB l 3 hl';have ac:=iB (jd l l.length) 3 (gJ (D_ l l.length) hl');have k1:=sP l hl;have k2:=oU (dx l l.length) (gJ (mZ l l.length) hl') (MQ hn _ (Nat.le_refl _));have k3:=oU l hl' hn;have hc:s=1\/s=2\/s=3\/s=4\/s=5\/s=6\/s=7\/s=8\/s=9\/s=10:=by omega
 rcases hc with rfl|rfl|rfl|rfl|rfl|rfl|rfl|rfl|rfl|rfl
 ·simp[a1,vE]
 ·simp[a2,vE]
 ·simp[a2,vE]
 ·have h2:=h4 rfl;rcases l with _|⟨a,_|⟨b,_|⟨c,l⟩⟩⟩<;>simp at h2
  have hag:=l_ a b;simp[hag,vE]
 ·simp[a2,vE]
 ·simp[vE]
 ·simp[a3,vE]
 ·simp[a3,vE]
 ·unfold vE;generalize (jd l l.length).all (fun k=>aG k 3)=B at ac ⊢;generalize dH (dx l l.length)=S at k2 ⊢;cases S
  ·simp at k2;simp[k1,k2]
  ·simp at k2;simp[k1,k2,ac]
 ·unfold vE;generalize dH l=S at k3 ⊢;cases S
  ·simp at k3;simp[k3]
  ·simp at k3;simp[k3]
theorem Gf(op:Int)(n:Nat):(¬cO op=0/\(0<=jH op->(n:Int)=jH op)/\(cO op=9->2<=n)/\(cO op=10->1<=n))↔bI op n=true:=by
 by_cases h:4<=op/\op<=26
 ·have h':op=4\/op=5\/op=6\/op=7\/op=8\/op=9\/op=10\/op=11\/op=12\/op=13\/op=14\/op=15\/op=16\/op=17\/op=18\/op=19\/op=20\/op=21\/op=22\/op=23\/op=24\/op=25\/op=26:=by omega
  rcases h' with rfl|rfl|rfl|rfl|rfl|rfl|rfl|rfl|rfl|rfl|rfl|rfl|rfl|rfl|rfl|rfl|rfl|rfl|rfl|rfl|rfl|rfl|rfl
  all_goals simp[cO,jH,bI]
  all_goals omega
 ·have e1:cO op=0:=by unfold cO;rw[if_neg (by omega),if_neg (by omega),if_neg (by omega),if_neg (by omega),if_neg (by omega),if_neg (by omega),if_neg (by omega),if_neg (by omega),if_neg (by omega),if_neg (by omega)]
  have hA:bI op n=false:=by unfold bI;rw[if_neg (by omega),if_neg (by omega),if_neg (by omega),if_neg (by omega),if_neg (by omega)]
  rw[e1,hA];simp
theorem I7(op:Int)(h:¬cO op=0):(1<=cO op/\cO op<=10)/\4<=op/\op<=26:=by
 by_cases h':4<=op/\op<=26
 ·refine⟨?_,h'⟩;have h':op=4\/op=5\/op=6\/op=7\/op=8\/op=9\/op=10\/op=11\/op=12\/op=13\/op=14\/op=15\/op=16\/op=17\/op=18\/op=19\/op=20\/op=21\/op=22\/op=23\/op=24\/op=25\/op=26:=by omega
  rcases h' with rfl|rfl|rfl|rfl|rfl|rfl|rfl|rfl|rfl|rfl|rfl|rfl|rfl|rfl|rfl|rfl|rfl|rfl|rfl|rfl|rfl|rfl|rfl
  all_goals simp[cO]
 ·exfalso;apply h;unfold cO;rw[if_neg (by omega),if_neg (by omega),if_neg (by omega),if_neg (by omega),if_neg (by omega),if_neg (by omega),if_neg (by omega),if_neg (by omega),if_neg (by omega),if_neg (by omega)]
theorem Nl(a:Int)(h:0<=a):dH [a]=true:=by have:ku [a]=max 0 a:=rfl;simp only[dH,this,List.all_cons,List.all_nil,Bool.and_true,fB];omega
theorem Ti{l:List Int}(h:l.length=2):∃a b,l=[a,b]:=by rcases l with _|⟨a,_|⟨b,_|⟨c,l⟩⟩⟩<;>simp at h ⊢
theorem CP{l:List Int}(h:l.length=1):∃a,l=[a]:=by rcases l with _|⟨a,_|⟨b,l⟩⟩<;>simp at h ⊢
theorem O1(op:Int)(l:List Int)(h:4<=op/\op<=26)(ha:bI op l.length=true)(hk:aT l=true)(hn:∀k∈l,0<=k):iD op l=if(vE (cO op) l).2=true then((vE (cO op) l).1,0)else(0,50):=by
 have t1:=pX (t:=1) (by omega) hn;have t2:=pX (t:=2) (by omega) hn;have t3:=pX (t:=3) (by omega) hn;have tz:=IJ l;unfold iD;rw[if_pos ⟨ha,hk⟩];by_cases hi:op=4\/op=5\/op=6\/op=7\/op=8\/op=9
 ·rcases hi with rfl|rfl|rfl|rfl|rfl|rfl
  all_goals simp[vE,cO,iA,iF,t1]
 by_cases h2:op=12\/op=13\/op=14\/op=15\/op=16\/op=17\/op=18
 ·have hl:l.length=2:=by rcases h2 with rfl|rfl|rfl|rfl|rfl|rfl|rfl<;>simpa[bI]using ha
  obtain⟨a,b,rfl⟩:=Ti hl;have hs:=Np (a:=a) (b:=b) (hn a (by simp)) (hn b (by simp));rcases h2 with rfl|rfl|rfl|rfl|rfl|rfl|rfl
  all_goals simp[vE,cO,iA,iF,tz,hs]
 by_cases h20:op=20
 ·subst h20;have hl:l.length=1:=by simpa[bI]using ha
  obtain⟨a,rfl⟩:=CP hl;have hs:=Nl a (hn a (by simp));simp[vE,cO,iA,iF,tz,hs]
 have h3:op=10\/op=11\/op=19\/op=21\/op=22\/op=23\/op=24\/op=25\/op=26:=by omega
 rcases h3 with rfl|rfl|rfl|rfl|rfl|rfl|rfl|rfl|rfl
 ·simp[vE,cO,iA,iF,t2]
 ·simp[vE,cO,iA,iF,t2]
 ·simp[vE,cO,iA,iF,t2]
 ·simp[vE,cO,iA,iF,t3]
 ·simp[vE,cO,iA,iF,t3]
 ·simp[vE,cO,iA,iF,t3]
 ·simp[vE,cO,iA,iF,t3]
 ·have e:vE (cO 25) l=(if dH (dx l l.length)=true then ku (dx l l.length)else 0,dH (dx l l.length)&&(jd l l.length).all fun k=>aG k 3):=rfl;rw[e,if_pos rfl];unfold qU;generalize (jd l l.length).all (fun k=>aG k 3)=B;generalize dH (dx l l.length)=S;cases B<;>cases S<;>simp
 ·have e:vE (cO 26) l=(if dH l=true then ku l else 0,dH l):=rfl;rw[e];have ht:iA 26=0:=by decide
  rw[ht,tz];generalize dH l=S;cases S<;>simp
set_option maxHeartbeats 1000000 in
theorem Ci(op:Int)(l:List Int)(hl:aS l)(hn:∀k∈l,0<=k):call T J3 [u8 op,.sl false (l.map u8)]=some (.bU [u8 (iD op l).1,i6 (iD op l).2]):=by
 refine q110g (by simp) ?_;have hl':l.length<=9223372036854775807:=gJ hl (by decide);have hs:=yx op;have har:=Gf op l.length;have hbad:bI op l.length=false->iD op l=(0,1):=fun h=>by simp[iD,h]
 have hneg:∀ {P:Prop},(bI op l.length=true->P)->¬P->iD op l=(0,1):=fun h hp=>hbad (by
  cases hA:bI op l.length
  ·rfl
  ·exact absurd (h hA) hp)
 by_cases s0:cO op=0
 ·have hC:=hneg (fun h=>(har.2 h).1) (by simpa using s0);rw[s0]at hs
  rw[hC];simp[hs]
 obtain⟨hsr,hopr⟩:=I7 op s0;by_cases hN:0<=jH op/\¬(l.length:Int)=jH op
 ·have hC:=hneg (fun h=>(har.2 h).2.1) (fun q=>hN.2 (q hN.1));rw[hC];simp[hs,s0,hN.1,hN.2]
 by_cases h9:cO op=9/\¬2<=l.length
 ·have hC:=hneg (fun h=>(har.2 h).2.2.1) (fun q=>h9.2 (q h9.1));have h9':(l.length:Int)<2:=by omega
  rw[hC];rw[h9.1]at hs
  by_cases hN0:0<=jH op
  ·have hN1:(l.length:Int)=jH op:=Decidable.not_not.1 (fun q=>hN ⟨hN0,q⟩);have hN2:jH op<2:=by omega
   simp[hs,hN0,hN1,hN2]
  ·simp[hs,hN0,h9']
 by_cases h10:cO op=10/\¬1<=l.length
 ·have hC:=hneg (fun h=>(har.2 h).2.2.2) (fun q=>h10.2 (q h10.1));have h10':(l.length:Int)<1:=by omega
  have h10'':l=[]:=by
   rcases l with _|⟨a,l⟩
   ·rfl
   ·simp at h10
  rw[hC];rw[h10.1]at hs
  subst h10'';by_cases hN0:0<=jH op
  ·have hN1:(0:Int)=jH op:=by have:=Decidable.not_not.1 (fun q=>hN ⟨hN0,q⟩);simpa using this
   simp[hs,hN0,hN1.symm]
  ·simp[hs,hN0]
 have hA:bI op l.length=true:=har.1 ⟨s0,fun q=>Decidable.not_not.1 (fun r=>hN ⟨q,r⟩),fun q=>Decidable.not_not.1 (fun r=>h9 ⟨q,r⟩),fun q=>Decidable.not_not.1 (fun r=>h10 ⟨q,r⟩)⟩;have hk:=yw (cO op) hsr l hl hn (fun h4=>by
  have h:12<=op/\op<=18:=by
   have h':op=4\/op=5\/op=6\/op=7\/op=8\/op=9\/op=10\/op=11\/op=12\/op=13\/op=14\/op=15\/op=16\/op=17\/op=18\/op=19\/op=20\/op=21\/op=22\/op=23\/op=24\/op=25\/op=26:=by omega
   rcases h' with rfl|rfl|rfl|rfl|rfl|rfl|rfl|rfl|rfl|rfl|rfl|rfl|rfl|rfl|rfl|rfl|rfl|rfl|rfl|rfl|rfl|rfl|rfl
   all_goals simp[cO]at h4 ⊢
  have:bI op l.length=decide (l.length=2):=by unfold bI;rw[if_neg (by omega),if_pos (by omega)]
  rw[this]at hA
  simpa using hA)
 have hcalc:=fun hkb=>O1 op l hopr hA hkb hn;have hbadk:aT l=false->iD op l=(0,1):=fun h=>by simp[iD,h]
 generalize iD op l=C at hbad hneg hcalc hbadk ⊢;clear hbad hneg;have main:∀(en:Env) (s:ay),en 1=.sl false (l.map u8)->en 6=i6 (cO op)->en 8=i6 (0:Nat)->wp T [It.lp PE,It.bl 0,It.code ((IC.ops PG).seq (((IC.ops J4).seq (IC.cond (Ar.t 64) ((IC.ops J5).seq IC.ret) IC.skip)).seq ((IC.ops J6).seq IC.ret)))] en s (fun e s=>aC e s [fI.tmp 4,fI.tmp 5]=some (.bU [u8 C.1,i6 C.2])):=by
  intro en s e1 e6 e8;refine av (σ:=Nat) (fun i e s=>e 1=.sl false (l.map u8)/\e 6=i6 (cO op)/\e 8=i6 i/\i<=l.length/\Hd (∀j (hj:j<i) (h:j<l.length),decide (l[j]<=3)=true)) (fun i=>l.length-i) ?_ 0 _ _ ⟨e1,e6,e8,by omega,⟨fun _ h=>by omega⟩⟩;rintro i e s ⟨e1,e6,e8,hi,hA⟩ ih;simp[e1,e6,e8];refine aj (fun h=>?_) (fun h=>?_)<;>(have h':=h;try simp at h')<;>(try simp[*])
  ·by_cases k:l[i]<=3
   ·have k':¬3<l[i]:=by omega
    have hg:∀j (hj:j<i+1) (h:j<l.length),decide (l[j]<=3)=true:=fun j hj h=>by
     rcases Nat.lt_or_eq_of_le (Nat.le_of_lt_succ hj)with h2|h2
     ·exact hA.out j h2 h
     ·subst h2;simpa using k
    simp[k',e1,e6,e8];refine ih.out (i+1) _ _ ?_ (by omega);exact⟨by simp[e1],by simp[e6],by simp[ai h' hl'],h',⟨hg⟩⟩
   ·have k':3<l[i]:=by omega
    have hkb:aT l=false:=bT (p:=fun k=>decide (k<=3)) h' (by simpa using k');have hC:=hbadk hkb;subst hC;simp[k',e1,e6,e8]
  ·have hkb:aT l=true:=bg (p:=fun k=>decide (k<=3)) (fun j hj=>hA.out j (by omega) hj);have hC:=hcalc hkb;generalize vE (cO op) l=KK at hk hC;obtain⟨k1,k2⟩:=KK;cases k2
   ·simp at hC;subst hC;simp[hk]
   ·simp at hC;subst hC;simp[hk]
 by_cases hN0:0<=jH op
 ·have hN1:(l.length:Int)=jH op:=Decidable.not_not.1 (fun q=>hN ⟨hN0,q⟩);by_cases c9:cO op=9
  ·have h2:2<=l.length:=Decidable.not_not.1 (fun q=>h9 ⟨c9,q⟩);have h2':¬jH op<2:=by omega
   simp[hs,hN0,hN1,c9,h2'];exact main _ _ (by simp) (by simp[c9]) (by simp)
  ·by_cases c10:cO op=10
   ·have h2:1<=l.length:=Decidable.not_not.1 (fun q=>h10 ⟨c10,q⟩);have h2':¬jH op<1:=by omega
    simp[hs,hN0,hN1,c10,h2'];exact main _ _ (by simp) (by simp[c10]) (by simp)
   ·simp[hs,s0,hN0,hN1,c9,c10];exact main _ _ (by simp) (by simp) (by simp)
 ·by_cases c9:cO op=9
  ·have h2:2<=l.length:=Decidable.not_not.1 (fun q=>h9 ⟨c9,q⟩);have h2':¬(l.length:Int)<2:=by omega
   simp[hs,hN0,c9,h2'];exact main _ _ (by simp) (by simp[c9]) (by simp)
  ·by_cases c10:cO op=10
   ·have h2:1<=l.length:=Decidable.not_not.1 (fun q=>h10 ⟨c10,q⟩);have h2':¬(l.length:Int)<1:=by omega
    have h2'':¬l=[]:=by intro q;subst q;simp at h2
    simp[hs,hN0,c10,h2',h2''];exact main _ _ (by simp) (by simp[c10]) (by simp)
   ·simp[hs,s0,hN0,c9,c10];exact main _ _ (by simp) (by simp) (by simp)
end Go.Proofs.YtbmkfjmlepjpfaaGreatDoor
