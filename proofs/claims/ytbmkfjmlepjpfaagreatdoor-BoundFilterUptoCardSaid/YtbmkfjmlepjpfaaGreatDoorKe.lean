/- A part of the proof. -/
import Derived.Test.YtbmkfjmlepjpfaaGreatDoorEa
set_option linter.all false
set_option maxRecDepth 100000
namespace Go.Proofs.YtbmkfjmlepjpfaaGreatDoor
open Go.RowKit
def dpHP(g j:Nat)(x:SO):Option X:=match x.o with
 | some (.box y)=>if g=x.g then match Da y with
  | some z=>some (.ip z j)
  | none=>none
  else none
 | _=>none
@[simp] theorem dpG_ipE(s:ax)(x:X)(j:Nat):yD s (.ip x j)=if x.deep then some (.ip x j)else none:=rfl
@[simp] theorem dpH_ipE(s:ax)(x:X)(j:Nat):zF s (.ip x j)=if x.deep then some (.ip x j)else none:=rfl
@[simp] theorem dpH_ptrE(s:ax)(o g j:Nat):zF s (.ptr o g j)=dpHP g j (s o):=rfl
@[simp] theorem dpG_ptrE(s:ax)(o g j:Nat):yD s (.ptr o g j)=dpHP g j (s o):=rfl
@[simp] theorem dpHP_box(g j g':Nat)(wr:Bool)(y:X)(n:Nat):dpHP g j ⟨g',wr,some (.box y),n⟩=if g=g' then(match Da y with
 | some z=>some (.ip z j)
 | none=>none)else none:=rfl
@[simp] theorem dpC0_v(u:Value):Da (.v u)=some (.v u):=rfl
@[simp] theorem dpC0_sl(f:Bool)(es:List X):Da (.sl f es)=if aT es then some (.sl f es)else none:=rfl
theorem vD(a b:Int):call T UX [u8 a,u8 b]=some (.v (.bool (aL a b))):=by
 refine q86g (by simp) ?_;unfold aL;by_cases h:a=b
 ·simp[h]
 ·by_cases h0:a=0
  ·have hb:¬0=b:=fun hh=>h (by rw[h0];exact hh);simp[h0,hb]
  ·simp[h,h0]
theorem iD(a b:Int):call T q5n [u8 a,u8 b]=some (.v (.bool (aL a b))):=by
 refine q5g (by simp) ?_;unfold aL;by_cases h:a=b
 ·simp[h]
 ·by_cases h0:a=0
  ·have hb:¬0=b:=fun hh=>h (by rw[h0];exact hh);simp[h0,hb]
  ·simp[h,h0]
theorem nR(a b:Int):call T Ed [u8 a,u8 b]=some (.v (.bool (aL a b))):=by
 refine q108g (by simp) ?_;unfold aL;by_cases h:a=b
 ·simp[h]
 ·by_cases h0:a=0
  ·have hb:¬0=b:=fun hh=>h (by rw[h0];exact hh);simp[h0,hb]
  ·simp[h,h0]
theorem jk(a b:Int):call T yO [u8 a,u8 b]=some (.v (.bool (aL a b))):=by
 refine q121g (by simp) ?_;unfold aL;by_cases h:a=b
 ·simp[h]
 ·by_cases h0:a=0
  ·have hb:¬0=b:=fun hh=>h (by rw[h0];exact hh);simp[h0,hb]
  ·simp[h,h0]
theorem zf(a k:Int):call T QD [u8 a,.ip (u8 k) 0]=some (.v (.bool (!aL a k))):=by refine q89g (by simp) ?_;have h:=vD a k;simp[h]
theorem CU(k:Int):call T UW [u8 k]=some (.v (.bool (decide (3<k)))):=by refine q85g (by simp) ?_;simp
theorem vo(m:Int)(l:List Int)(hl:l.length<=9223372036854775807)(f:Nat)(p:Int->Bool)(hp:∀k∈l,call T f [u8 k,.ip (u8 m) 0]=some (.v (.bool (p k)))) :
 call T Eg [.sl false (l.map u8),.fn f [.ip (u8 m) 0]]=some (i6 (xL p l)):=by
 refine Ut (by simp) ?_;simp;refine av (σ:=Nat) (fun i e s=>e 0=.sl false (l.map u8)/\e 1=.fn f [.ip (u8 m) 0]/\e 7=i6 l.length/\e 8=i6 i/\i<=l.length/\Hd (∀j (hj:j<i) (h:j<l.length),p l[j]=false)) (fun i=>l.length-i) ?_ 0 _ _ ⟨rfl,rfl,by simp,rfl,by omega,⟨fun _ h=>by omega⟩⟩;rintro i e s ⟨h0,h1,h7,h8,hi,hA⟩ ih;simp[h0,h1,h7,h8];refine aj (fun h=>?_) (fun h=>?_)<;>(have h':=h;try simp at h')<;>(try simp[*])
 ·have hc:=hp l[i] (gG h');have hf:Hd (p l[i]=true->xL p l=i):=⟨fun g=>pI h' (fun j hj=>hA.out j hj (by omega)) g⟩
  have hg:Hd (p l[i]=false->∀j (hj:j<i+1) (h:j<l.length),p l[j]=false):=⟨fun g j hj h=>by
   rcases qP (qQ hj)with h2|h2
   ·exact hA.out j h2 h
   ·subst h2;exact g⟩
  generalize p l[i]=b at hc hf hg
  try simp[hc,h0,h1,h7,h8]
  cases b
  ·simp[h0,h1,h7,h8];refine ih.out (i+1) _ _ ?_ (by omega);exact⟨by simp[h0],by simp[h1],by simp[h7],by simp[ai h' hl],h',⟨hg.out rfl⟩⟩
  ·simp[hf.out rfl]
 ·exact(rZ (fun j hj=>hA.out j (by omega) hj)).symm
theorem qA(m:Int)(l:List Int)(hl:l.length<=9223372036854775807)(f:Nat)(p:Int->Bool)(hp:∀k∈l,call T f [u8 k,.ip (u8 m) 0]=some (.v (.bool (p k)))) :
 call T tY [.sl false (l.map u8),.fn f [.ip (u8 m) 0]]=some (.v (.bool (l.any p))):=by
 refine Us (by simp) ?_;simp[vo m l hl f p hp,v_]
theorem V4{l:List Int}{p:Int->Bool}:(l.any fun k=>!p k)=!l.all p:=by
 induction l with
 | nil=>rfl
 | cons a l ih=>simp only[List.any_cons,List.all_cons,ih,Bool.not_and]
set_option maxHeartbeats 1000000 in
theorem tK(l:List Int)(hl':l.length<=9223372036854775807):call T U2 [.sl false (l.map u8)]=some (.cZ [u8 (lI l),.v (.bool (dY l))]):=by
 refine q88g (by simp) ?_;have hc:∀k,call T tY [.sl false (l.map u8),.fn QD [.ip (u8 k) 0]]=some (.v (.bool (l.any fun a=>!aL a k))):=fun k=>qA k l hl' QD _ (fun a _=>zf a k);have hS:dY l=l.all fun k=>aL k (lI l):=rfl;rw[hS];clear hS;have hM:l.foldl max 0=lI l:=rfl;generalize lI l=M at hM ⊢;replace hM:=Hd.mk hM;simp;refine av (σ:=Nat) (fun i e s=>e 0=.sl false (l.map u8)/\e 2=.ptr 2 1 0/\e 6=.sl false (l.map u8)/\e 7=i6 l.length/\e 8=i6 i/\(∃a q,s 2=⟨1,true,some (.box (u8 a)),q⟩/\Hd ((l.drop i).foldl max a=M))/\i<=l.length) (fun i=>l.length-i) ?_ 0 _ _
  ⟨by simp,by simp,by simp,by simp,by simp,⟨0,1,by simp,⟨by rw[List.drop_zero];exact hM.out⟩⟩,by omega⟩
 rintro i e s ⟨h0,h2,h6,h7,h8,⟨a,q,s2,hA⟩,hi⟩ ih;simp[h0,h2,h6,h7,h8,s2];refine aj (fun h=>?_) (fun h=>?_)<;>(have h':=h;try simp at h')<;>(try simp[*])
 ·have hd:l.drop i=l[i]::l.drop (i+1):=List.drop_eq_getElem_cons h';rw[hd]at hA
  refine ih.out (i+1) _ _ ?_ (by omega);exact⟨by simp[h0],by simp[h2],by simp[h6],by simp[h7],by simp[ai h' hl'],⟨max a l[i],q+1,by simp[s2],hA⟩,h'⟩
 ·have hA':=hA.out;rw[List.drop_eq_nil_of_le (by omega)]at hA'
  simp at hA';subst hA';simp[hc,h0,h2,s2];exact V4
theorem Dz{s:ax}(i:Nat):h_ .rem (.v (.int .i64 (i:Int))) (.v (.int .i64 2)) s=some (.v (.int .i64 ((i % 2:Nat):Int)),s):=by
 have h:(i:Int).tmod 2=((i % 2:Nat):Int):=by rw[Int.tmod_eq_emod_of_nonneg (by omega)];omega
 simp[h_,jY,h]
theorem oL(l:List Int)(i:Nat):(dQ l i).length<=i:=by
 induction i with
 | zero=>simp[dQ]
 | succ i ih=>
  simp only[dQ];split
  ·omega
  ·simp;omega
theorem Hl(l:List Int)(i:Nat):(jN l i).length<=i:=by
 induction i with
 | zero=>simp[jN]
 | succ i ih=>
  simp only[jN];split
  ·simp;omega
  ·omega
theorem Jc{l:List Int}{i:Nat}(h:qj l.length i=true):dQ l (i+1)=dQ l i:=by rw[dQ,if_pos h]
theorem sF{l:List Int}{i:Nat}(h:i<l.length)(h':qj l.length i=false):dQ l (i+1)=dQ l i++[l[i]]:=by rw[dQ,if_neg (by simp[h'])];simp[h]
theorem Ho{l:List Int}{i:Nat}(h:i<l.length)(h':qj l.length i=true):jN l (i+1)=jN l i++[l[i]]:=by rw[jN,if_pos h'];simp[h]
theorem zD{l:List Int}{i:Nat}(h:qj l.length i=false):jN l (i+1)=jN l i:=by rw[jN,if_neg (by simp[h])]
theorem RL{l:List Int}{p:Int->Bool}(i n:Nat)(h:i<=n)(hn:(jN l n).all p=true):(jN l i).all p=true:=by
 induction n with
 | zero=>
  have:i=0:=by omega
  subst this;exact hn
 | succ n ih=>
  by_cases e:i=n+1
  ·subst e;exact hn
  ·refine ih (by omega) ?_;simp only[jN]at hn;split at hn
   ·rw[List.all_append]at hn;simp at hn;simp;exact hn.1
   ·exact hn
def jF(s:ax)(o:Nat)(x:X)(es:List Int):Prop:=(es=[]/\x=.nil)\/(¬es=[]/\∃g n,x=.ref o g 1 0 es.length/\s o=⟨g,true,some (.row 1 (es.map u8)),n⟩)
set_option maxHeartbeats 1000000 in
theorem ze(l:List Int)(hl:aV l):call T Yu [.sl false (l.map u8)]=some (.cZ [u8 (tQ l).1,i6 (tQ l).2]):=by
 refine q87g (by simp) ?_;have hl':l.length<=9223372036854775807:=iq hl (by decide);have hl2:l.length<=1099511627776:=hl;have hbad:∀i,i<=l.length->¬(jN l i).all (fun k=>aL k 3)=true->tQ l=(0,50):=fun i hi h=>if_neg (fun hh=>h (RL i l.length hi hh.1));have hend:(jN l l.length).all (fun k=>aL k 3)=true->tQ l=if dY (dQ l l.length)=true then(lI (dQ l l.length),0)else(0,50):=fun h=>by simp only[tQ,h,true_and]
 have hcm:=tK (dQ l l.length) (iq (oL l l.length) hl');generalize tQ l=C at hbad hend ⊢;simp;refine av (σ:=Nat) (fun i e s=>e 0=.sl false (l.map u8)/\e 10=.sl false (l.map u8)/\e 11=i6 l.length/\e 12=i6 i/\jF s 32 (e 4) (dQ l i)/\i<=l.length/\Hd ((jN l i).all (fun k=>aL k 3)=true)) (fun i=>l.length-i) ?_ 0 _ _
  ⟨by simp,by simp,by simp,by simp,.inl ⟨rfl,by simp⟩,by omega,⟨by simp[jN]⟩⟩
 rintro i e s ⟨h0,h10,h11,h12,hrow,hi,hA⟩ ih;simp[h0,h10,h11,h12];refine aj (fun h=>?_) (fun h=>?_)<;>(have h':=h;try simp at h')<;>(try simp[*])
 ·have hr:=fun s=>Dz (s:=s) i;have hw:IntKind.i64.wrap ((l.length:Int)-1)=(l.length:Int)-1:=jv (by omega) (by omega);have hag:=vD l[i] 3;have next:∀e' s',(jN l (i+1)).all (fun k=>aL k 3)=true->e' 0=.sl false (l.map u8)->e' 10=.sl false (l.map u8)->e' 11=i6 l.length->e' 12=i6 ((i+1:Nat):Int)->jF s' 32 (e' 4) (dQ l (i+1))->wp T [It.lp q87l1,It.bl 0,It.code ((IC.ops UY).seq (((IC.ops UZ).seq (IC.cond (Ar.t 43) ((IC.ops U0).seq IC.ret) IC.skip)).seq ((IC.ops U1).seq IC.ret)))] e' s' (fun e s=>aC e s [gQ.tmp 2,gQ.tmp 3]=some (.cZ [u8 C.1,i6 C.2])):=
   fun e' s' a b c d f g=>ih.out (i+1) e' s' ⟨b,c,d,f,g,h',⟨a⟩⟩ (by omega)
  replace next:=Hd.mk next
  clear ih;by_cases m:i % 2=0
  ·have m1:((i % 2:Nat):Int)=0:=by omega
   have m2:(i:Int) % 2=0:=by omega
   by_cases n:(i:Int)<(l.length:Int)-1
   ·have hco:qj l.length i=true:=by simp only[qj,m,decide_true,Bool.true_and,decide_eq_true_eq];omega
    generalize hb:aL l[i] 3=b at hag;have hcs:=Ho h' hco;cases b
    ·have hn:=hbad (i+1) h' (by rw[hcs,List.all_append];simp[hb]);simp[hr,hw,m1,m2,n,hag,h0,h10,h11,h12,hn]
    ·simp[hr,hw,m1,m2,n,hag,h0,h10,h11,h12];refine next.out _ _ (by rw[hcs,List.all_append,hA.out];simp[hb]) (by simp[h0]) (by simp[h10]) (by simp[h11]) (by simp[ai h' hl']) ?_
     rw[Jc hco];simpa using hrow
   ·have hco:qj l.length i=false:=by simp only[qj,Bool.and_eq_false_iff,decide_eq_false_iff_not];omega
    have hcs:=zD (l:=l) hco;have hos:=sF h' hco;have hol:=oL l i;rcases hrow with⟨r1,r2⟩|⟨r1,g,c,r2,r3⟩
    ·simp[hr,hw,m1,m2,n,h0,h10,h11,h12,r2];refine next.out _ _ (by rw[hcs];exact hA.out) (by simp[h0]) (by simp[h10]) (by simp[h11]) (by simp[ai h' hl']) ?_
     rw[hos,r1];exact .inr ⟨by simp,(s 32).g+1,_,by simp,by simp;rfl⟩
    ·simp[hr,hw,m1,m2,n,h0,h10,h11,h12,r2,r3,show(dQ l i).length<=140737488355327 by omega];refine next.out _ _ (by rw[hcs];exact hA.out) (by simp[h0]) (by simp[h10]) (by simp[h11]) (by simp[ai h' hl']) ?_
     rw[hos];exact .inr ⟨by simp,g+1,_,by simp,by simp[r3];rfl⟩
  ·have hco:qj l.length i=false:=by simp[qj,m]
   have m1:¬((i % 2:Nat):Int)=0:=by omega
   have m2:¬(i:Int) % 2=0:=by omega
   have hcs:=zD (l:=l) hco;have hos:=sF h' hco;have hol:=oL l i;rcases hrow with⟨r1,r2⟩|⟨r1,g,c,r2,r3⟩
   ·simp[hr,hw,m1,m2,h0,h10,h11,h12,r2];refine next.out _ _ (by rw[hcs];exact hA.out) (by simp[h0]) (by simp[h10]) (by simp[h11]) (by simp[ai h' hl']) ?_
    rw[hos,r1];exact .inr ⟨by simp,(s 32).g+1,_,by simp,by simp;rfl⟩
   ·simp[hr,hw,m1,m2,h0,h10,h11,h12,r2,r3,show(dQ l i).length<=140737488355327 by omega];refine next.out _ _ (by rw[hcs];exact hA.out) (by simp[h0]) (by simp[h10]) (by simp[h11]) (by simp[ai h' hl']) ?_
    rw[hos];exact .inr ⟨by simp,g+1,_,by simp,by simp[r3];rfl⟩
 ·have hin:i=l.length:=by omega
  have hA':=hA.out;rw[hin]at hA'
  have hC:=hend hA';rw[hin]at hrow
  generalize dQ l l.length=O at hrow hcm hC;generalize dY O=b at hcm hC;generalize lI O=M at hcm hC;rcases hrow with⟨r1,r2⟩|⟨r1,g,c,r2,r3⟩
  ·rw[r1]at hcm
   simp only[List.map_nil]at hcm;cases b
   ·simp at hC;subst hC;simp[hcm,r2,h0]
   ·simp at hC;subst hC;simp[hcm,r2,h0]
  ·cases b
   ·simp at hC;subst hC;simp[hcm,r2,r3,h0]
   ·simp at hC;subst hC;simp[hcm,r2,r3,h0]
def Vn(op:Int):Int:=if op=4\/op=11\/(20<=op/\op<=22)\/op=26 then 1 else if op=23\/op=24 then 0 else 2
def Vo(op:Int):Int:=if op=4\/op=11\/(20<=op/\op<=22)then 1 else if op=23\/op=24\/op=26 then 4611686018427387904 else 2
def sigG(op:Int):Int:=if op=26 then 0 else jf op
def Dn(op:Int):Bool:=(decide (4<=op)&&decide (op<=24))||decide (op=26)
theorem vE(op:Int):call T Yv [u8 op]=some (if Dn op=true then .cZ [.agg [i6 (Vn op),i6 (Vo op),u8 (iZ op),u8 (sigG op)],.v (.bool true)]else .cZ [.agg [i6 0,i6 0,u8 0,u8 0],.v (.bool false)]):=by
 refine q90g (by simp) ?_;by_cases h:(4<=op/\op<=24)\/op=26
 ·have h':op=4\/op=5\/op=6\/op=7\/op=8\/op=9\/op=10\/op=11\/op=12\/op=13\/op=14\/op=15\/op=16\/op=17\/op=18\/op=19\/op=20\/op=21\/op=22\/op=23\/op=24\/op=26:=by omega
  rcases h' with rfl|rfl|rfl|rfl|rfl|rfl|rfl|rfl|rfl|rfl|rfl|rfl|rfl|rfl|rfl|rfl|rfl|rfl|rfl|rfl|rfl|rfl
  all_goals simp[Dn,Vn,Vo,sigG,iZ,jf]
 ·have hO:Dn op=false:=by simp only[Dn,Bool.or_eq_false_iff,Bool.and_eq_false_iff,decide_eq_false_iff_not];omega
  rw[hO];have h4:¬op=4:=by omega
  have h5:¬op=5:=by omega
  have h6:¬op=6:=by omega
  have h7:¬op=7:=by omega
  have h8:¬op=8:=by omega
  have h9:¬op=9:=by omega
  have h10:¬op=10:=by omega
  have h11:¬op=11:=by omega
  have h12:¬op=12:=by omega
  have h13:¬op=13:=by omega
  have h14:¬op=14:=by omega
  have h15:¬op=15:=by omega
  have h16:¬op=16:=by omega
  have h17:¬op=17:=by omega
  have h18:¬op=18:=by omega
  have h19:¬op=19:=by omega
  have h20:¬op=20:=by omega
  have h21:¬op=21:=by omega
  have h22:¬op=22:=by omega
  have h23:¬op=23:=by omega
  have h24:¬op=24:=by omega
  have h26:¬op=26:=by omega
  simp[h4,h5,h6,h7,h8,h9,h10,h11,h12,h13,h14,h15,h16,h17,h18,h19,h20,h21,h22,h23,h24,h26]
theorem O_(op:Int)(n:Nat)(hn:n<=1099511627776):(Dn op=true/\Vn op<=n/\n<=Vo op)\/(op=25/\2<=n)↔bY op n=true:=by
 by_cases h:(4<=op/\op<=26)
 ·have h':op=4\/op=5\/op=6\/op=7\/op=8\/op=9\/op=10\/op=11\/op=12\/op=13\/op=14\/op=15\/op=16\/op=17\/op=18\/op=19\/op=20\/op=21\/op=22\/op=23\/op=24\/op=25\/op=26:=by omega
  rcases h' with rfl|rfl|rfl|rfl|rfl|rfl|rfl|rfl|rfl|rfl|rfl|rfl|rfl|rfl|rfl|rfl|rfl|rfl|rfl|rfl|rfl|rfl|rfl
  all_goals simp[Dn,Vn,Vo,bY]
  all_goals omega
 ·have hO:Dn op=false:=by simp only[Dn,Bool.or_eq_false_iff,Bool.and_eq_false_iff,decide_eq_false_iff_not];omega
  have hA:bY op n=false:=by unfold bY;rw[if_neg (by omega),if_neg (by omega),if_neg (by omega),if_neg (by omega),if_neg (by omega)]
  rw[hO,hA];have:¬op=25:=by omega
  simp[this]
theorem DY(l:List Int):lI (0::l)=lI l:=rfl
theorem O7(l:List Int):(l.any fun k=>decide (3<k))=!aX l:=by
 have h:aX l=l.all fun k=>!decide (3<k):=by
  unfold aX;congr 1;funext k;by_cases h:k<=3
  ·have:¬3<k:=by omega
   simp[h,this]
  ·have:3<k:=by omega
   simp[h,this]
 rw[h];induction l with
 | nil=>rfl
 | cons a l ih=>simp only[List.any_cons,List.all_cons,Bool.not_and,Bool.not_not]at *;rw[ih];unfold aX;congr 1;funext k;by_cases h:k<=3<;>simp[h]<;>omega
set_option maxHeartbeats 1000000 in
theorem GV(op:Int)(l:List Int)(hl:aV l):call T Yt [u8 op,.sl false (l.map u8)]=some (.cZ [u8 (je op l).1,i6 (je op l).2]):=by
 refine q84g (by simp) ?_;have hl2:l.length<=1099511627776:=hl;have hs:=vE op;have hc:=lY l (iq hl (by decide)) UW (fun k=>decide (3<k)) (fun k=>CU k);rw[O7]at hc
 have har:=O_ op l.length hl2;have hcs:=ze l hl;have hcm:=tK (iZ op::l) (by simp;omega);simp only[ku]at hcm;have htk:(l.map u8).take l.length=l.map u8:=wU (by simp);unfold je;generalize aX l=kb at hc ⊢;by_cases h25:op=25
 ·subst h25;have hO:Dn 25=false:=by decide
  rw[hO]at hs har
  simp at hs har;by_cases h2:2<=l.length
  ·have h2':¬(l.length:Int)<2:=by omega
   have h3:¬(4611686018427387904:Int)<l.length:=by omega
   rw[har.1 h2];cases kb
   ·simp[hs,hc,h2',h3]
   ·simp[hs,hc,h2',h3,h2,hcs]
  ·have h2':(l.length:Int)<2:=by omega
   have hA:bY 25 l.length=false:=by
    cases hA:bY 25 l.length
    ·rfl
    ·exact absurd (har.2 hA) h2
   rw[hA];simp[hs,h2']
 by_cases hO:Dn op=true
 case neg=>
  simp only[Bool.not_eq_true]at hO;rw[hO]at hs har
  simp at hs;have hA:bY op l.length=false:=by
   cases hA:bY op l.length
   ·rfl
   ·rw[hA]at har;simp at har;exact absurd har.1 h25
  rw[hA];simp[hs,h25]
 rw[hO]at hs har
 simp at hs;by_cases h1:(l.length:Int)<Vn op
 ·have hA:bY op l.length=false:=by
   cases hA:bY op l.length
   ·rfl
   ·rw[hA]at har;simp[h25]at har;omega
  rw[hA];simp[hs,h25,h1]
 by_cases h2:Vo op<(l.length:Int)
 ·have hA:bY op l.length=false:=by
   cases hA:bY op l.length
   ·rfl
   ·rw[hA]at har;simp[h25]at har;omega
  rw[hA];simp[hs,h25,h1,h2]
 have hA:bY op l.length=true:=har.1 (.inl ⟨rfl,by omega,by omega⟩);rw[hA];cases kb
 ·simp[hs,hc,h25,h1,h2]
 generalize dY (iZ op::l)=b at hcm ⊢;cases b
 ·simp[hs,hc,h25,h1,h2,hcm,show l.length<=140737488355327 by omega,Nat.add_comm 1 l.length,htk]
 by_cases h26:op=26
 ·subst h26;have ht:iZ 26=0:=by decide
  rw[ht]at hs hcm
  rw[DY]at hcm
  simp[hs,hc,h1,h2,hcm,show l.length<=140737488355327 by omega,Nat.add_comm 1 l.length,htk]
 ·have hg:sigG op=jf op:=if_neg h26;rw[hg]at hs
  simp[hs,hc,h25,h26,h1,h2,hcm,show l.length<=140737488355327 by omega,Nat.add_comm 1 l.length,htk]
theorem vW(l:List Int)(a:Int):a<=l.foldl max a/\(∀k∈l,k<=l.foldl max a)/\(l.foldl max a=a\/l.foldl max a∈l):=by
 induction l generalizing a with
 | nil=>simp
 | cons x l ih=>
  obtain⟨h1,h2,h3⟩:=ih (max a x);simp only[List.foldl_cons];refine⟨by omega,?_,?_⟩
  ·intro k hk;rcases List.mem_cons.1 hk with rfl|hk
   ·omega
   ·exact h2 k hk
  ·rcases h3 with h3|h3
   ·rw[h3];by_cases h:a<=x
    ·right;have:max a x=x:=by omega
     rw[this];simp
    ·left;omega
   ·right;exact List.mem_cons_of_mem _ h3
theorem gH{a b:Int}:aL a b=true↔a=b\/a=0\/b=0:=by simp[aL]
theorem JI{l:List Int}{a:Int}(h0:0<=a)(h:∀k∈l,k=0\/k=a)(ha:a=0\/a∈l):lI l=a/\dY l=true:=by
 obtain⟨h1,h2,h3⟩:=vW l 0;have hm:lI l=a:=by
  unfold lI;rcases ha with ha|ha
  ·rcases h3 with h3|h3
   ·omega
   ·rcases h _ h3 with q|q<;>omega
  ·have:=h2 a ha;rcases h3 with h3|h3
   ·omega
   ·rcases h _ h3 with q|q<;>omega
 refine⟨hm,?_⟩;simp only[dY,hm,oH,gH];intro k hk;rcases h k hk with q|q
 ·exact .inr (.inl q)
 ·exact .inl q
theorem Em{l:List Int}{x y:Int}(hx:x∈l)(hy:y∈l)(x0:0<x)(y0:0<y)(hxy:¬x=y):dY l=false:=by
 obtain⟨h1,h2,h3⟩:=vW l 0;cases hs:dY l
 ·rfl
 ·simp only[dY,oH,gH,lI]at hs;have:=hs x hx;have:=hs y hy;have:=h2 x hx;omega
theorem rD{t:Int}{l:List Int}(ht:0<t)(hn:∀k∈l,0<=k):dY (t::l)=l.all fun k=>aL k t:=by
 cases h:l.all fun k=>aL k t
 ·rw[List.all_eq_false]at h
  obtain⟨x,hx,hxa⟩:=h;rw[gH]at hxa
  have:=hn x hx;exact Em (x:=t) (y:=x) (by simp) (by simp[hx]) ht (by omega) (by omega)
 ·simp only[oH,gH]at h;refine(JI (a:=t) (by omega) ?_ (.inr (by simp))).2;intro k hk;rcases List.mem_cons.1 hk with rfl|hk
  ·exact .inr rfl
  ·have:=h k hk;omega
theorem LV(l:List Int):dY (0::l)=dY l:=by
 simp only[dY,DY,List.all_cons];have:aL 0 (lI l)=true:=by rw[gH];exact .inr (.inl rfl)
 rw[this,Bool.true_and]
theorem QR{a b:Int}(ha:0<=a)(hb:0<=b):dY [a,b]=aL a b:=by
 have e:lI [a,b]=max (max 0 a) b:=rfl;simp only[dY,e,List.all_cons,List.all_nil,Bool.and_true];have h1:(aL a (max (max 0 a) b)&&aL b (max (max 0 a) b))=true↔aL a b=true:=by simp only[bN,gH];omega
 cases hx:aL a b<;>simp_all
theorem ja(l:List Int)(t:Int)(hl:l.length<=9223372036854775807):call T wK [.sl false (l.map u8),u8 t]=some (.v (.bool (l.all fun k=>aL k t))):=by
 refine q111g (by simp) ?_;simp;refine av (σ:=Nat) (fun i e s=>e 0=.sl false (l.map u8)/\e 1=u8 t/\e 5=i6 i/\i<=l.length/\Hd (∀j (hj:j<i) (h:j<l.length),aL l[j] t=true)) (fun i=>l.length-i) ?_ 0 _ _ ⟨by simp,by simp,by simp,by omega,⟨fun _ h=>by omega⟩⟩;rintro i e s ⟨h0,h1,h5,hi,hA⟩ ih;simp[h0,h1,h5];refine aj (fun h=>?_) (fun h=>?_)<;>(have h':=h;try simp at h')<;>(try simp[*])
 ·have hc:=nR l[i] t;have hf:Hd (aL l[i] t=false->(l.all fun k=>aL k t)=false):=⟨fun g=>dz h' g⟩
  have hg:Hd (aL l[i] t=true->∀j (hj:j<i+1) (h:j<l.length),aL l[j] t=true):=⟨fun g j hj h=>by
   rcases qP (qQ hj)with h2|h2
   ·exact hA.out j h2 h
   ·subst h2;exact g⟩
  generalize aL l[i] t=b at hc hf hg;simp[hc,h0,h1,h5];cases b
  ·have hq:=hf.out rfl;simp[h0,h1,h5];rw[List.all_eq_false]at hq
   simpa using hq
  ·simp[h0,h1,h5];refine ih.out (i+1) _ _ ?_ (by omega);exact⟨by simp[h0],by simp[h1],by simp[ai h' hl],h',⟨hg.out rfl⟩⟩
 ·have hn:=bH (p:=fun k=>aL k t) (l:=l) (fun j hj=>hA.out j (by omega) hj)
  first
  | exact hn.symm
  | (simp[hn])
  | (rw[oH]at hn;simpa using hn)
theorem qC(l:List Int)(hl:l.length<=9223372036854775807)(hn:∀k∈l,0<=k):call T Jh [.sl false (l.map u8)]=some (.cZ [u8 (if dY l=true then lI l else 0),.v (.bool (dY l))]):=by
 refine q109g (by simp) ?_;have hno:∀(a b:Int),a∈l->b∈l->0<a->0<b->¬a=b->dY l=false:=fun a b h1 h2 h3 h4 h5=>Em h1 h2 h3 h4 h5;have hyes:∀a:Int,0<=a->(∀k∈l,k=0\/k=a)->(a=0\/a∈l)->lI l=a/\dY l=true:=fun a h1 h2 h3=>JI h1 h2 h3;generalize dY l=S at hno hyes ⊢;generalize lI l=M at hyes ⊢;simp;refine av (σ:=Nat) (fun i e s=>e 0=.sl false (l.map u8)/\e 5=i6 i/\(∃a:Int,e 4=u8 a/\0<=a/\(a=0\/a∈l)/\Hd (∀j (hj:j<i) (h:j<l.length),l[j]=0\/l[j]=a))/\i<=l.length) (fun i=>l.length-i) ?_ 0 _ _
  ⟨by simp,by simp,⟨0,by simp,by omega,.inl rfl,⟨fun _ h=>by omega⟩⟩,by omega⟩
 rintro i e s ⟨h0,h5,⟨a,h4,ha0,ha,hA⟩,hi⟩ ih;simp[h0,h5,h4];refine aj (fun h=>?_) (fun h=>?_)<;>(have h':=h;try simp at h')<;>(try simp[*])
 ·have hc:=nR a l[i];have hmem:l[i]∈l:=gG h';have hnn:=hn l[i] hmem;have step:∀b:Int,(l[i]=0\/l[i]=b)->(a=0\/a=b)->∀j (hj:j<i+1) (h:j<l.length),l[j]=0\/l[j]=b:=fun b h1 h2 j hj h=>by
   rcases qP (qQ hj)with q|q
   ·rcases hA.out j q h with r|r
    ·exact .inl r
    ·rcases h2 with h2|h2
     ·exact .inl (by rw[r,h2])
     ·exact .inr (by rw[r,h2])
   ·subst q;exact h1
  by_cases hag:aL a l[i]=true
  ·rw[hag]at hc
   rw[gH]at hag
   by_cases a0:a=0
   ·subst a0;simp[hc,h',h0,h5,h4];refine ih.out (i+1) _ _ ?_ (by omega);exact⟨by simp[h0],by simp[ai h' hl],⟨l[i],by simp,hnn,.inr hmem,⟨step l[i] (.inr rfl) (.inl rfl)⟩⟩,h'⟩
   ·simp[hc,h0,h5,h4,a0];refine ih.out (i+1) _ _ ?_ (by omega);exact⟨by simp[h0],by simp[ai h' hl],⟨a,by simp[h4],ha0,ha,⟨step a (by omega) (.inr rfl)⟩⟩,h'⟩
  ·simp only[Bool.not_eq_true]at hag;rw[hag]at hc
   have hag':¬(a=l[i]\/a=0\/l[i]=0):=by rw[<-gH,hag];simp
   have hS:=hno a l[i] (by rcases ha with q|q;exact absurd (.inr (.inl q)) hag';exact q) hmem (by omega) (by omega) (fun q=>hag' (.inl q));subst hS;simp[hc,h0,h5,h4]
 ·have hq:=hyes a ha0 (fun k hk=>by obtain⟨j,hj,rfl⟩:=List.getElem_of_mem hk;exact hA.out j (by omega) hj) ha
  obtain⟨rfl,rfl⟩:=hq;simp
set_option maxHeartbeats 1000000 in
theorem vG(l:List Int)(hl:aV l):call T Nw [.sl false (l.map u8)]=some (.cZ [.sl true ((jN l l.length).map u8),.sl true ((dQ l l.length).map u8)]):=by
 refine q112g (by simp) ?_;have hl':l.length<=9223372036854775807:=iq hl (by decide);have hl2:l.length<=1099511627776:=hl;simp;refine av (σ:=Nat) (fun i e s=>e 0=.sl false (l.map u8)/\e 6=i6 i/\jF s 29 (e 4) (jN l i)/\jF s 36 (e 5) (dQ l i)/\i<=l.length) (fun i=>l.length-i) ?_ 0 _ _
  ⟨by simp,by simp,.inl ⟨rfl,by simp⟩,.inl ⟨rfl,by simp⟩,by omega⟩
 rintro i e s ⟨h0,h6,hco,hou,hi⟩ ih;simp[h0,h6];refine aj (fun h=>?_) (fun h=>?_)<;>(have h':=h;try simp at h')<;>(try simp[*])
 ·have hr:=fun s=>Dz (s:=s) i;have hw:IntKind.i64.wrap ((i:Int)+1)=(i:Int)+1:=jv (by omega) (by omega);have next:∀e' s',e' 0=.sl false (l.map u8)->e' 6=i6 ((i+1:Nat):Int)->jF s' 29 (e' 4) (jN l (i+1))->jF s' 36 (e' 5) (dQ l (i+1))->wp T [It.lp TB,It.bl 0,It.code ((IC.ops TF).seq IC.ret)] e' s' (fun e s=>aC e s [gQ.tmp 2,gQ.tmp 3]=some (.cZ [.sl true ((jN l l.length).map u8),.sl true ((dQ l l.length).map u8)])):=
   fun e' s' a b c d=>ih.out (i+1) e' s' ⟨a,b,c,d,h'⟩ (by omega)
  replace next:=Hd.mk next
  clear ih;have hc1:=Hl l i;have hc2:=oL l i;by_cases m:i % 2=0
  ·have m1:((i % 2:Nat):Int)=0:=by omega
   have m2:(i:Int) % 2=0:=by omega
   by_cases n:(i:Int)+1<(l.length:Int)
   ·have hat:qj l.length i=true:=by simp only[qj,m,decide_true,Bool.true_and,decide_eq_true_eq];omega
    have e1:=Ho h' hat;have e2:=Jc hat;have n':i+1<l.length:=by omega
    rcases hco with⟨r1,r2⟩|⟨r1,g,c,r2,r3⟩
    ·simp[hr,hw,m1,m2,n,n',h',r2,h0,h6];refine next.out _ _ (by simp[h0]) (by simp[ai h' hl']) ?_ ?_
     ·rw[e1,r1];exact .inr ⟨by simp,(s 29).g+1,_,by simp,by simp;rfl⟩
     ·rw[e2];simpa[jF]using hou
    ·simp[hr,hw,m1,m2,n,n',h',r2,r3,show(jN l i).length<=140737488355327 by omega,h0,h6];refine next.out _ _ (by simp[h0]) (by simp[ai h' hl']) ?_ ?_
     ·rw[e1];exact .inr ⟨by simp,g+1,_,by simp,by simp[r3];rfl⟩
     ·rw[e2];simpa[jF]using hou
   ·have hat:qj l.length i=false:=by simp only[qj,Bool.and_eq_false_iff,decide_eq_false_iff_not];omega
    have e1:=zD (l:=l) hat;have e2:=sF h' hat;have n':¬i+1<l.length:=by omega
    rcases hou with⟨r1,r2⟩|⟨r1,g,c,r2,r3⟩
    ·simp[hr,hw,m1,m2,n,n',h',r2,h0,h6];refine next.out _ _ (by simp[h0]) (by simp[ai h' hl']) ?_ ?_
     ·rw[e1];simpa[jF]using hco
     ·rw[e2,r1];exact .inr ⟨by simp,(s 36).g+1,_,by simp,by simp;rfl⟩
    ·simp[hr,hw,m1,m2,n,n',h',r2,r3,show(dQ l i).length<=140737488355327 by omega,h0,h6];refine next.out _ _ (by simp[h0]) (by simp[ai h' hl']) ?_ ?_
     ·rw[e1];simpa[jF]using hco
     ·rw[e2];exact .inr ⟨by simp,g+1,_,by simp,by simp[r3];rfl⟩
  ·have hat:qj l.length i=false:=by simp[qj,m]
   have e1:=zD (l:=l) hat;have e2:=sF h' hat;have m1:¬((i % 2:Nat):Int)=0:=by omega
   have m2:¬(i:Int) % 2=0:=by omega
   rcases hou with⟨r1,r2⟩|⟨r1,g,c,r2,r3⟩
   ·simp[hr,hw,m1,m2,h',r2,h0,h6];refine next.out _ _ (by simp[h0]) (by simp[ai h' hl']) ?_ ?_
    ·rw[e1];simpa[jF]using hco
    ·rw[e2,r1];exact .inr ⟨by simp,(s 36).g+1,_,by simp,by simp;rfl⟩
   ·simp[hr,hw,m1,m2,h',r2,r3,show(dQ l i).length<=140737488355327 by omega,h0,h6];refine next.out _ _ (by simp[h0]) (by simp[ai h' hl']) ?_ ?_
    ·rw[e1];simpa[jF]using hco
    ·rw[e2];exact .inr ⟨by simp,g+1,_,by simp,by simp[r3];rfl⟩
 ·have hin:i=l.length:=by omega
  rw[hin]at hco hou
  rcases hco with⟨r1,r2⟩|⟨r1,g,c,r2,r3⟩
  ·rcases hou with⟨q1,q2⟩|⟨q1,g',c',q2,q3⟩
   ·simp[r2,q2,r1,q1]
   ·simp[r2,q2,q3,r1]
  ·rcases hou with⟨q1,q2⟩|⟨q1,g',c',q2,q3⟩
   ·simp[r2,r3,q2,q1]
   ·simp[r2,r3,q2,q3]
def dI(op:Int):Int:=if 4<=op/\op<=9 then 1 else if op=10 then 2 else if op=11 then 3 else if 12<=op/\op<=18 then 4 else if op=19 then 5 else if op=20 then 6 else if op=21\/op=22 then 7 else if op=23\/op=24 then 8 else if op=25 then 9 else if op=26 then 10 else 0
def kE(op:Int):Int:=if op=4\/op=11\/(20<=op/\op<=22)then 1 else if 5<=op/\op<=19 then 2 else if 23<=op/\op<=26 then -1 else 0
theorem Ay(op:Int):call T Nz [u8 op]=some (.cZ [i6 (dI op),i6 (kE op)]):=by
 refine q114g (by simp) ?_;by_cases h:4<=op/\op<=26
 ·have h':op=4\/op=5\/op=6\/op=7\/op=8\/op=9\/op=10\/op=11\/op=12\/op=13\/op=14\/op=15\/op=16\/op=17\/op=18\/op=19\/op=20\/op=21\/op=22\/op=23\/op=24\/op=25\/op=26:=by omega
  rcases h' with rfl|rfl|rfl|rfl|rfl|rfl|rfl|rfl|rfl|rfl|rfl|rfl|rfl|rfl|rfl|rfl|rfl|rfl|rfl|rfl|rfl|rfl|rfl
  all_goals simp[dI,kE]
 ·have e1:dI op=0:=by unfold dI;rw[if_neg (by omega),if_neg (by omega),if_neg (by omega),if_neg (by omega),if_neg (by omega),if_neg (by omega),if_neg (by omega),if_neg (by omega),if_neg (by omega),if_neg (by omega)]
  have e2:kE op=0:=by unfold kE;rw[if_neg (by omega),if_neg (by omega),if_neg (by omega)]
  rw[e1,e2];have h4:¬op=4:=by omega
  have h5:¬op=5:=by omega
  have h6:¬op=6:=by omega
  have h7:¬op=7:=by omega
  have h8:¬op=8:=by omega
  have h9:¬op=9:=by omega
  have h10:¬op=10:=by omega
  have h11:¬op=11:=by omega
  have h12:¬op=12:=by omega
  have h13:¬op=13:=by omega
  have h14:¬op=14:=by omega
  have h15:¬op=15:=by omega
  have h16:¬op=16:=by omega
  have h17:¬op=17:=by omega
  have h18:¬op=18:=by omega
  have h19:¬op=19:=by omega
  have h20:¬op=20:=by omega
  have h21:¬op=21:=by omega
  have h22:¬op=22:=by omega
  have h23:¬op=23:=by omega
  have h24:¬op=24:=by omega
  have h25:¬op=25:=by omega
  have h26:¬op=26:=by omega
  simp[h4,h5,h6,h7,h8,h9,h10,h11,h12,h13,h14,h15,h16,h17,h18,h19,h20,h21,h22,h23,h24,h25,h26]
def xM(s:Int)(l:List Int):Int×Bool:=
 if s=1 then(1,l.all fun k=>aL k 1)else if s=2 then(2,l.all fun k=>aL k 2)else if s=3 then(1,l.all fun k=>aL k 2)
 else if s=4 then(3,aL (l.getD 0 0) (l.getD 1 0))else if s=5 then(3,l.all fun k=>aL k 2)else if s=6 then(3,true)else if s=7\/s=8 then(3,l.all fun k=>aL k 3)
 else if s=9 then(if dY (dQ l l.length)=true then lI (dQ l l.length)else 0,dY (dQ l l.length)&&(jN l l.length).all fun k=>aL k 3)
 else(if dY l=true then lI l else 0,dY l)
theorem Qo{l:List Int}{P:Int->Prop}(h:∀k∈l,P k)(n:Nat)(hn:n<=l.length):∀k∈dQ l n,P k:=by
 induction n with
 | zero=>simp[dQ]
 | succ n ih=>
  have hn':n<l.length:=hn;simp only[dQ];split
  ·exact ih (by omega)
  ·intro k hk;rcases List.mem_append.1 hk with hk|hk
   ·exact ih (by omega) k hk
   ·simp[hn']at hk
    subst hk;exact h _ (gG hn')
theorem Av(s:Int)(hs:1<=s/\s<=10)(l:List Int)(hl:aV l)(hn:∀k∈l,0<=k)(h4:s=4->l.length=2):call T Ny [i6 s,.sl false (l.map u8)]=some (.cZ [u8 (xM s l).1,.v (.bool (xM s l).2)]):=by
 refine q113g (by simp) ?_;have hl':l.length<=9223372036854775807:=iq hl (by decide);have a1:=ja l 1 hl';have a2:=ja l 2 hl';have a3:=ja l 3 hl';have ac:=ja (jN l l.length) 3 (iq (Hl l l.length) hl');have k1:=vG l hl;have k2:=qC (dQ l l.length) (iq (oL l l.length) hl') (Qo hn _ (Nat.le_refl _));have k3:=qC l hl' hn;have hc:s=1\/s=2\/s=3\/s=4\/s=5\/s=6\/s=7\/s=8\/s=9\/s=10:=by omega
 rcases hc with rfl|rfl|rfl|rfl|rfl|rfl|rfl|rfl|rfl|rfl
 ·simp[a1,xM]
 ·simp[a2,xM]
 ·simp[a2,xM]
 ·have h2:=h4 rfl;rcases l with _|⟨a,_|⟨b,_|⟨c,l⟩⟩⟩<;>simp at h2
  have hag:=nR a b;simp[hag,xM]
 ·simp[a2,xM]
 ·simp[xM]
 ·simp[a3,xM]
 ·simp[a3,xM]
 ·unfold xM;generalize (jN l l.length).all (fun k=>aL k 3)=B at ac ⊢;generalize dY (dQ l l.length)=S at k2 ⊢;cases S
  ·simp at k2;simp[k1,k2]
  ·simp at k2;simp[k1,k2,ac]
 ·unfold xM;generalize dY l=S at k3 ⊢;cases S
  ·simp at k3;simp[k3]
  ·simp at k3;simp[k3]
theorem J5(op:Int)(n:Nat):(¬dI op=0/\(0<=kE op->(n:Int)=kE op)/\(dI op=9->2<=n)/\(dI op=10->1<=n))↔bY op n=true:=by
 by_cases h:4<=op/\op<=26
 ·have h':op=4\/op=5\/op=6\/op=7\/op=8\/op=9\/op=10\/op=11\/op=12\/op=13\/op=14\/op=15\/op=16\/op=17\/op=18\/op=19\/op=20\/op=21\/op=22\/op=23\/op=24\/op=25\/op=26:=by omega
  rcases h' with rfl|rfl|rfl|rfl|rfl|rfl|rfl|rfl|rfl|rfl|rfl|rfl|rfl|rfl|rfl|rfl|rfl|rfl|rfl|rfl|rfl|rfl|rfl
  all_goals simp[dI,kE,bY]
  all_goals omega
 ·have e1:dI op=0:=by unfold dI;rw[if_neg (by omega),if_neg (by omega),if_neg (by omega),if_neg (by omega),if_neg (by omega),if_neg (by omega),if_neg (by omega),if_neg (by omega),if_neg (by omega),if_neg (by omega)]
  have hA:bY op n=false:=by unfold bY;rw[if_neg (by omega),if_neg (by omega),if_neg (by omega),if_neg (by omega),if_neg (by omega)]
  rw[e1,hA];simp
theorem Mf(op:Int)(h:¬dI op=0):(1<=dI op/\dI op<=10)/\4<=op/\op<=26:=by
 by_cases h':4<=op/\op<=26
 ·refine⟨?_,h'⟩;have h':op=4\/op=5\/op=6\/op=7\/op=8\/op=9\/op=10\/op=11\/op=12\/op=13\/op=14\/op=15\/op=16\/op=17\/op=18\/op=19\/op=20\/op=21\/op=22\/op=23\/op=24\/op=25\/op=26:=by omega
  rcases h' with rfl|rfl|rfl|rfl|rfl|rfl|rfl|rfl|rfl|rfl|rfl|rfl|rfl|rfl|rfl|rfl|rfl|rfl|rfl|rfl|rfl|rfl|rfl
  all_goals simp[dI]
 ·exfalso;apply h;unfold dI;rw[if_neg (by omega),if_neg (by omega),if_neg (by omega),if_neg (by omega),if_neg (by omega),if_neg (by omega),if_neg (by omega),if_neg (by omega),if_neg (by omega),if_neg (by omega)]
theorem QO(a:Int)(h:0<=a):dY [a]=true:=by have:lI [a]=max 0 a:=rfl;simp only[dY,this,List.all_cons,List.all_nil,Bool.and_true,gH];omega
theorem WL{l:List Int}(h:l.length=2):∃a b,l=[a,b]:=by rcases l with _|⟨a,_|⟨b,_|⟨c,l⟩⟩⟩<;>simp at h ⊢
theorem E5{l:List Int}(h:l.length=1):∃a,l=[a]:=by rcases l with _|⟨a,_|⟨b,l⟩⟩<;>simp at h ⊢
theorem SB(op:Int)(l:List Int)(h:4<=op/\op<=26)(ha:bY op l.length=true)(hk:aX l=true)(hn:∀k∈l,0<=k):je op l=if(xM (dI op) l).2=true then((xM (dI op) l).1,0)else(0,50):=by
 have t1:=rD (t:=1) (by omega) hn;have t2:=rD (t:=2) (by omega) hn;have t3:=rD (t:=3) (by omega) hn;have tz:=LV l;unfold je;rw[if_pos ⟨ha,hk⟩];by_cases hi:op=4\/op=5\/op=6\/op=7\/op=8\/op=9
 ·rcases hi with rfl|rfl|rfl|rfl|rfl|rfl
  all_goals simp[xM,dI,iZ,jf,t1]
 by_cases h2:op=12\/op=13\/op=14\/op=15\/op=16\/op=17\/op=18
 ·have hl:l.length=2:=by rcases h2 with rfl|rfl|rfl|rfl|rfl|rfl|rfl<;>simpa[bY]using ha
  obtain⟨a,b,rfl⟩:=WL hl;have hs:=QR (a:=a) (b:=b) (hn a (by simp)) (hn b (by simp));rcases h2 with rfl|rfl|rfl|rfl|rfl|rfl|rfl
  all_goals simp[xM,dI,iZ,jf,tz,hs]
 by_cases h20:op=20
 ·subst h20;have hl:l.length=1:=by simpa[bY]using ha
  obtain⟨a,rfl⟩:=E5 hl;have hs:=QO a (hn a (by simp));simp[xM,dI,iZ,jf,tz,hs]
 have h3:op=10\/op=11\/op=19\/op=21\/op=22\/op=23\/op=24\/op=25\/op=26:=by omega
 rcases h3 with rfl|rfl|rfl|rfl|rfl|rfl|rfl|rfl|rfl
 ·simp[xM,dI,iZ,jf,t2]
 ·simp[xM,dI,iZ,jf,t2]
 ·simp[xM,dI,iZ,jf,t2]
 ·simp[xM,dI,iZ,jf,t3]
 ·simp[xM,dI,iZ,jf,t3]
 ·simp[xM,dI,iZ,jf,t3]
 ·simp[xM,dI,iZ,jf,t3]
 ·have e:xM (dI 25) l=(if dY (dQ l l.length)=true then lI (dQ l l.length)else 0,dY (dQ l l.length)&&(jN l l.length).all fun k=>aL k 3):=rfl;rw[e,if_pos rfl];unfold tQ;generalize (jN l l.length).all (fun k=>aL k 3)=B;generalize dY (dQ l l.length)=S;cases B<;>cases S<;>simp
 ·have e:xM (dI 26) l=(if dY l=true then lI l else 0,dY l):=rfl;rw[e];have ht:iZ 26=0:=by decide
  rw[ht,tz];generalize dY l=S;cases S<;>simp
set_option maxHeartbeats 1000000 in
theorem EF(op:Int)(l:List Int)(hl:aV l)(hn:∀k∈l,0<=k):call T Ns [u8 op,.sl false (l.map u8)]=some (.cZ [u8 (je op l).1,i6 (je op l).2]):=by
 refine q110g (by simp) ?_;have hl':l.length<=9223372036854775807:=iq hl (by decide);have hs:=Ay op;have har:=J5 op l.length;have hbad:bY op l.length=false->je op l=(0,1):=fun h=>by simp[je,h]
 have hneg:∀ {P:Prop},(bY op l.length=true->P)->¬P->je op l=(0,1):=fun h hp=>hbad (by
  cases hA:bY op l.length
  ·rfl
  ·exact absurd (h hA) hp)
 by_cases s0:dI op=0
 ·have hC:=hneg (fun h=>(har.2 h).1) (by simpa using s0);rw[s0]at hs
  rw[hC];simp[hs]
 obtain⟨hsr,hopr⟩:=Mf op s0;by_cases hN:0<=kE op/\¬(l.length:Int)=kE op
 ·have hC:=hneg (fun h=>(har.2 h).2.1) (fun q=>hN.2 (q hN.1));rw[hC];simp[hs,s0,hN.1,hN.2]
 by_cases h9:dI op=9/\¬2<=l.length
 ·have hC:=hneg (fun h=>(har.2 h).2.2.1) (fun q=>h9.2 (q h9.1));have h9':(l.length:Int)<2:=by omega
  rw[hC];rw[h9.1]at hs
  by_cases hN0:0<=kE op
  ·have hN1:(l.length:Int)=kE op:=Decidable.not_not.1 (fun q=>hN ⟨hN0,q⟩);have hN2:kE op<2:=by omega
   simp[hs,hN0,hN1,hN2]
  ·simp[hs,hN0,h9']
 by_cases h10:dI op=10/\¬1<=l.length
 ·have hC:=hneg (fun h=>(har.2 h).2.2.2) (fun q=>h10.2 (q h10.1));have h10':(l.length:Int)<1:=by omega
  have h10'':l=[]:=by
   rcases l with _|⟨a,l⟩
   ·rfl
   ·simp at h10
  rw[hC];rw[h10.1]at hs
  subst h10'';by_cases hN0:0<=kE op
  ·have hN1:(0:Int)=kE op:=by have:=Decidable.not_not.1 (fun q=>hN ⟨hN0,q⟩);simpa using this
   simp[hs,hN0,hN1.symm]
  ·simp[hs,hN0]
 have hA:bY op l.length=true:=har.1 ⟨s0,fun q=>Decidable.not_not.1 (fun r=>hN ⟨q,r⟩),fun q=>Decidable.not_not.1 (fun r=>h9 ⟨q,r⟩),fun q=>Decidable.not_not.1 (fun r=>h10 ⟨q,r⟩)⟩;have hk:=Av (dI op) hsr l hl hn (fun h4=>by
  have h:12<=op/\op<=18:=by
   have h':op=4\/op=5\/op=6\/op=7\/op=8\/op=9\/op=10\/op=11\/op=12\/op=13\/op=14\/op=15\/op=16\/op=17\/op=18\/op=19\/op=20\/op=21\/op=22\/op=23\/op=24\/op=25\/op=26:=by omega
   rcases h' with rfl|rfl|rfl|rfl|rfl|rfl|rfl|rfl|rfl|rfl|rfl|rfl|rfl|rfl|rfl|rfl|rfl|rfl|rfl|rfl|rfl|rfl|rfl
   all_goals simp[dI]at h4 ⊢
  have:bY op l.length=decide (l.length=2):=by unfold bY;rw[if_neg (by omega),if_pos (by omega)]
  rw[this]at hA
  simpa using hA)
 have hcalc:=fun hkb=>SB op l hopr hA hkb hn;have hbadk:aX l=false->je op l=(0,1):=fun h=>by simp[je,h]
 generalize je op l=C at hbad hneg hcalc hbadk ⊢;clear hbad hneg;have main:∀(en:Env) (s:ax),en 1=.sl false (l.map u8)->en 6=i6 (dI op)->en 8=i6 (0:Nat)->wp T [It.lp Tz,It.bl 0,It.code ((IC.ops TA).seq (((IC.ops Nt).seq (IC.cond (Ar.t 64) ((IC.ops Nu).seq IC.ret) IC.skip)).seq ((IC.ops Nv).seq IC.ret)))] en s (fun e s=>aC e s [gQ.tmp 4,gQ.tmp 5]=some (.cZ [u8 C.1,i6 C.2])):=by
  intro en s e1 e6 e8;refine av (σ:=Nat) (fun i e s=>e 1=.sl false (l.map u8)/\e 6=i6 (dI op)/\e 8=i6 i/\i<=l.length/\Hd (∀j (hj:j<i) (h:j<l.length),decide (l[j]<=3)=true)) (fun i=>l.length-i) ?_ 0 _ _ ⟨e1,e6,e8,by omega,⟨fun _ h=>by omega⟩⟩;rintro i e s ⟨e1,e6,e8,hi,hA⟩ ih;simp[e1,e6,e8];refine aj (fun h=>?_) (fun h=>?_)<;>(have h':=h;try simp at h')<;>(try simp[*])
  ·by_cases k:l[i]<=3
   ·have k':¬3<l[i]:=by omega
    have hg:∀j (hj:j<i+1) (h:j<l.length),decide (l[j]<=3)=true:=fun j hj h=>by
     rcases qP (qQ hj)with h2|h2
     ·exact hA.out j h2 h
     ·subst h2;simpa using k
    simp[k',e1,e6,e8];refine ih.out (i+1) _ _ ?_ (by omega);exact⟨by simp[e1],by simp[e6],by simp[ai h' hl'],h',⟨hg⟩⟩
   ·have k':3<l[i]:=by omega
    have hkb:aX l=false:=dz (p:=fun k=>decide (k<=3)) h' (by simpa using k');have hC:=hbadk hkb;subst hC;simp[k',e1,e6,e8]
  ·have hkb:aX l=true:=bH (p:=fun k=>decide (k<=3)) (fun j hj=>hA.out j (by omega) hj);have hC:=hcalc hkb;generalize xM (dI op) l=KK at hk hC;obtain⟨k1,k2⟩:=KK;cases k2
   ·simp at hC;subst hC;simp[hk]
   ·simp at hC;subst hC;simp[hk]
 by_cases hN0:0<=kE op
 ·have hN1:(l.length:Int)=kE op:=Decidable.not_not.1 (fun q=>hN ⟨hN0,q⟩);by_cases c9:dI op=9
  ·have h2:2<=l.length:=Decidable.not_not.1 (fun q=>h9 ⟨c9,q⟩);have h2':¬kE op<2:=by omega
   simp[hs,hN0,hN1,c9,h2'];exact main _ _ (by simp) (by simp[c9]) (by simp)
  ·by_cases c10:dI op=10
   ·have h2:1<=l.length:=Decidable.not_not.1 (fun q=>h10 ⟨c10,q⟩);have h2':¬kE op<1:=by omega
    simp[hs,hN0,hN1,c10,h2'];exact main _ _ (by simp) (by simp[c10]) (by simp)
   ·simp[hs,s0,hN0,hN1,c9,c10];exact main _ _ (by simp) (by simp) (by simp)
 ·by_cases c9:dI op=9
  ·have h2:2<=l.length:=Decidable.not_not.1 (fun q=>h9 ⟨c9,q⟩);have h2':¬(l.length:Int)<2:=by omega
   simp[hs,hN0,c9,h2'];exact main _ _ (by simp) (by simp[c9]) (by simp)
  ·by_cases c10:dI op=10
   ·have h2:1<=l.length:=Decidable.not_not.1 (fun q=>h10 ⟨c10,q⟩);have h2':¬(l.length:Int)<1:=by omega
    have h2'':¬l=[]:=by intro q;subst q;simp at h2
    simp[hs,hN0,c10,h2',h2''];exact main _ _ (by simp) (by simp[c10]) (by simp)
   ·simp[hs,s0,hN0,c9,c10];exact main _ _ (by simp) (by simp) (by simp)
end Go.Proofs.YtbmkfjmlepjpfaaGreatDoor
