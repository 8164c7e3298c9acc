/- A part of the proof. -/
import Derived.Test.YtbmkfjmlepjpfaaGreatDoorMm
import Derived.Test.YtbmkfjmlepjpfaaGreatDoorRp
import Derived.Test.YtbmkfjmlepjpfaaGreatDoorEa
set_option linter.all false
set_option maxRecDepth 100000
namespace Go.Proofs.YtbmkfjmlepjpfaaGreatDoor
open Go.RowKit
theorem Az(a b:Int):call T NA [u8 a,u8 b]=some (u8 (if a=0 then b else a)):=by
 refine q122g (by simp) ?_;by_cases h:a=0
 ·simp[h]
 ·simp[h]
theorem CW(row:List Int)(env:List (List Int))(h1:env.length<=5864062014804):call T NC [kX row,.sl false (env.map kX)]=some (.sl true (kX row::env.map kX)):=by
 refine q125g (by simp) ?_;have hl':env.length<=9223372036854775807:=by omega
 simp;refine av (σ:=Nat) (fun i e s=>e 1=.sl false (env.map kX)/\e 6=i6 i/\(∃g c,e 5=.ref 8 g 1 0 (i+1)/\s 8=⟨g,true,some (.row 1 (kX row::(env.map kX).take i)),c⟩)/\i<=env.length) (fun i=>env.length-i) ?_ 0 _ _
  ⟨by simp,by simp,⟨1,1,by simp,by simp⟩,by omega⟩
 rintro i e s ⟨e1,e6,⟨g,c,e5,s8⟩,hi⟩ ih;simp[e1,e6,e5];refine aj (fun h=>?_) (fun h=>?_)<;>(have h':=h;try simp at h')<;>(try simp[*])
 ·have htk:(env.map kX).take (i+1)=(env.map kX).take i++[kX env[i]]:=by rw[dJ (by simpa using h')];simp
  have hlt:((env.map kX).take i).length=i:=by simp;omega
  generalize (env.map kX).take i=pre at htk hlt s8 ⊢
  try simp[e1,e6,e5,s8,h',hlt,show i<=5864062014803 by omega]
  refine ih.out (i+1) _ _ ?_ (by omega);exact⟨by simp[e1],by simp[ai h' hl'],⟨g+1,_,by simp,by rw[htk];simp[s8];rfl⟩,h'⟩
 ·have hfull:(env.map kX).take i=env.map kX:=wU (by simp;omega);have hin:i=env.length:=by omega
  rw[hfull]at s8
  subst hin;simp[e5,s8]
theorem qD(a b:List Int)(ha:a.length<=1099511627776)(hb:b.length<=1099511627776):call T Ji [kX a,kX b]=some (.sl true ((a++b).map u8)):=by
 refine q128g (by simp) ?_;have hla:a.length<=9223372036854775807:=by omega
 have hlb:b.length<=9223372036854775807:=by omega
 generalize hF:a++b=F;replace hF:=Hd.mk hF;have loop2:∀(en:Env) (st:ax),en 1=kX b->en 7=i6 (0:Nat)->oV st 20 33 (en 5) a->wp T [It.lp TK,It.bl 2,It.code ((IC.ops NE).seq IC.ret)] en st (fun e s=>aC e s [gQ.tmp 4]=some (.sl true (F.map u8))):=by
  intro en st e1 e7 hrow;refine av (σ:=Nat) (fun i e s=>e 1=kX b/\e 7=i6 i/\oV s 20 33 (e 5) (a++b.take i)/\i<=b.length) (fun i=>b.length-i) ?_ 0 _ _
   ⟨e1,e7,by rw[List.take_zero,List.append_nil];exact hrow,by omega⟩
  rintro i e s ⟨e1,e7,hrow,hi⟩ ih;simp[e1,e7];refine aj (fun h=>?_) (fun h=>?_)<;>(have h':=h;try simp at h')<;>(try simp[*])
  ·have htk:=dJ h';have hln:(a++b.take i).length<=140737488355327:=by simp;omega
   have hap:a++b.take (i+1)=(a++b.take i)++[b[i]]:=by rw[htk,List.append_assoc]
   generalize a++b.take i=es at hrow hln hap;rcases hrow with⟨r1,r2⟩|⟨r1,o,g,c,ro,r2,r3⟩
   ·simp[e1,e7,h',r2];refine ih.out (i+1) _ _ ?_ (by omega);refine⟨by simp[e1],by simp[ai h' hlb],?_,h'⟩;rw[hap,r1];exact .inr ⟨by simp,33,(s 33).g+1,_,.inr rfl,by simp,by simp;rfl⟩
   ·rcases ro with rfl|rfl
    ·simp[e1,e7,h',r2,r3,hln];refine ih.out (i+1) _ _ ?_ (by omega);refine⟨by simp[e1],by simp[ai h' hlb],?_,h'⟩;rw[hap];exact .inr ⟨by simp,20,g+1,_,.inl rfl,by simp,by simp[r3];rfl⟩
    ·simp[e1,e7,h',r2,r3,hln];refine ih.out (i+1) _ _ ?_ (by omega);refine⟨by simp[e1],by simp[ai h' hlb],?_,h'⟩;rw[hap];exact .inr ⟨by simp,33,g+1,_,.inr rfl,by simp,by simp[r3];rfl⟩
  ·have hfull:b.take i=b:=wU (by omega);rw[hfull,hF.out]at hrow
   rcases hrow with⟨r1,r2⟩|⟨r1,o,g,c,ro,r2,r3⟩
   ·simp[r2,r1]
   ·rcases ro with rfl|rfl
    ·simp[r2,r3]
    ·simp[r2,r3]
 simp;refine av (σ:=Nat) (fun i e s=>e 0=kX a/\e 1=kX b/\e 6=i6 i/\oV s 20 33 (e 5) (a.take i)/\i<=a.length) (fun i=>a.length-i) ?_ 0 _ _
  ⟨by simp,by simp,by simp,.inl ⟨by simp,by simp⟩,by omega⟩
 rintro i e s ⟨e0,e1,e6,hrow,hi⟩ ih;simp[e0,e1,e6];refine aj (fun h=>?_) (fun h=>?_)<;>(have h':=h;try simp at h')<;>(try simp[*])
 ·have htk:=dJ h';have hln:(a.take i).length<=140737488355327:=by simp;omega
  generalize a.take i=es at hrow hln htk;rcases hrow with⟨r1,r2⟩|⟨r1,o,g,c,ro,r2,r3⟩
  ·simp[e0,e1,e6,h',r2];refine ih.out (i+1) _ _ ?_ (by omega);refine⟨by simp[e0],by simp[e1],by simp[ai h' hla],?_,h'⟩;rw[htk,r1];exact .inr ⟨by simp,20,(s 20).g+1,_,.inl rfl,by simp,by simp;rfl⟩
  ·rcases ro with rfl|rfl
   ·simp[e0,e1,e6,h',r2,r3,hln];refine ih.out (i+1) _ _ ?_ (by omega);refine⟨by simp[e0],by simp[e1],by simp[ai h' hla],?_,h'⟩;rw[htk];exact .inr ⟨by simp,20,g+1,_,.inl rfl,by simp,by simp[r3];rfl⟩
   ·simp[e0,e1,e6,h',r2,r3,hln];refine ih.out (i+1) _ _ ?_ (by omega);refine⟨by simp[e0],by simp[e1],by simp[ai h' hla],?_,h'⟩;rw[htk];exact .inr ⟨by simp,33,g+1,_,.inr rfl,by simp,by simp[r3];rfl⟩
 ·have hfull:a.take i=a:=wU (by omega);rw[hfull]at hrow
  try simp[e0,e1,e6]
  refine loop2 _ _ (by simp[e1]) (by simp) ?_;simpa[oV]using hrow
theorem CY(p:Pn)(kids:List (List Int))(h:kids.length<=2)(hl:∀k∈kids,k.length<=64):∃fl,call T NU [p.enc,.sl false (kids.map kX)]=some (.sl fl ((bT p.op kids).map u8)):=by
 have he:=p.ay;rcases Nc h with rfl|⟨a,rfl⟩|⟨a,b,rfl⟩
 ·refine⟨true,NT (by simp) ?_⟩;simp[he,bT]
 ·refine⟨false,NT (by simp) ?_⟩;by_cases h9:p.op=9
  ·simp[he,bT,h9]
  ·simp[he,bT,h9]
 ·by_cases h9:p.op=9
  ·refine⟨false,NT (by simp) ?_⟩;simp[he,bT,h9]
  ·refine⟨true,NT (by simp) ?_⟩;have ha:=hl a (by simp);have hb:=hl b (by simp);have hj:=qD a b (by omega) (by omega);simp[he,bT,h9,hj];rw[<-List.map_append];exact Hz _
theorem sW(s:List fZ)(hst:∀t∈s,aV t.ah)(n:Int)(hn:0<=n):call T NV [kN s,i6 n]=some (.cZ [.sl true ((if s.length<=n then []else(s.map kT).getD n.toNat []).map u8),i6 (if s.length<=n then 81 else 0)]):=by
 refine q149g (by simp) ?_;by_cases hs:(s.length:Int)<=n
 ·simp[hs]
 obtain⟨j,rfl⟩:∃j:Nat,n=j:=⟨n.toNat,by omega⟩
 have hjs:j<s.length:=by omega
 have hg:(s.map kT).getD ((j:Int)).toNat []=kT s[j]:=by simp[hjs]
 rw[if_neg hs,if_neg hs,hg];have htl:s[j].ah.length<=1099511627776:=hst s[j] (gG hjs);have hl':s[j].ah.length<=9223372036854775807:=by omega
 have hs':¬s.length<=j:=by omega
 simp[hs,hs'];refine av (σ:=Nat) (fun i e st=>e 0=kN s/\e 1=i6 j/\e 7=i6 i/\jF st 33 (e 6) ((kT s[j]).take i)/\i<=s[j].ah.length) (fun i=>s[j].ah.length-i) ?_ 0 _ _
  ⟨by simp,by simp,by simp,.inl ⟨by simp,by simp⟩,by omega⟩
 rintro i e st ⟨e0,e1,e7,hrow,hi⟩ ih;simp[e0,e1,e7,hjs];refine aj (fun h=>?_) (fun h=>?_)<;>(have h':=h;try simp at h')<;>(try simp[*])
 ·have hkl:i<(kT s[j]).length:=by simp[kT];exact h'
  have hst:=dJ hkl;have hel:(kT s[j])[i]=s[j].ah[i].kind:=by simp[kT]
  rw[hel]at hst
  have hln:((kT s[j]).take i).length<=140737488355327:=by simp[kT];omega
  generalize (kT s[j]).take i=es at hst hln hrow;rcases hrow with⟨r1,r2⟩|⟨r1,g,c,r2,r3⟩
  ·simp[e0,e1,e7,hjs,h',r2];refine ih.out (i+1) _ _ ?_ (by omega);refine⟨by simp[e0],by simp[e1],by simp[ai h' hl'],?_,h'⟩;rw[hst,r1];exact .inr ⟨by simp,(st 33).g+1,_,by simp,by simp;rfl⟩
  ·simp[e0,e1,e7,hjs,h',r2,r3,hln];refine ih.out (i+1) _ _ ?_ (by omega);refine⟨by simp[e0],by simp[e1],by simp[ai h' hl'],?_,h'⟩;rw[hst];exact .inr ⟨by simp,g+1,_,by simp,by simp[r3];rfl⟩
 ·have hfull:(kT s[j]).take i=kT s[j]:=wU (by simp[kT];omega);rw[hfull]at hrow
  rcases hrow with⟨r1,r2⟩|⟨r1,g,c,r2,r3⟩
  ·simp[r2,r1]
  ·simp[r2,r3]
def VW(own:List Int)(n:Int):Bool:=decide (n<own.length)
def Rk(own:List Int)(k:Ky):Bool:=decide (k.col<own.length)
set_option maxHeartbeats 2000000 in
theorem zi(p:Pn)(hs:p.jO)(hfa:∀a∈p.aA,0<=a.col)(own:List Int):call T NR [p.enc,kX own]=some (i6 (bQ p.ah p.aA p.keys own)):=by
 refine q146g (by simp) ?_;have he:=p.ay;have hN:bQ p.ah p.aA p.keys own=(if p.ah.all (VW own)=true then(if p.aA.all (zu own)=true then(if p.keys.all (Rk own)=true then(if p.aA.all (iL own)=true then 0 else 50)else 81)else 81)else 81):=by
  have h:bQ p.ah p.aA p.keys own=if(p.ah.all (VW own)&&(p.aA.all (zu own)&&p.keys.all (Rk own)))=true then(if p.aA.all (iL own)=true then 0 else 50)else 81:=rfl
  rw[h];generalize p.ah.all (VW own)=B1;generalize p.aA.all (zu own)=B2;generalize p.keys.all (Rk own)=B3;cases B1<;>cases B2<;>cases B3<;>rfl
 have hinall:p.aA.all (zu own)=true->∀(i:Nat) (h:i<p.aA.length),zu own p.aA[i]=true:=fun h i hi=>List.all_eq_true.1 h _ (gG hi);generalize bQ p.ah p.aA p.keys own=R at hN ⊢;replace hN:=Hd.mk hN;have loop4:(∀(i:Nat) (h:i<p.aA.length),zu own p.aA[i]=true)->R=(if p.aA.all (iL own)=true then 0 else 50)->∀(en:Env) (st:ax) (q:Nat),en 1=kX own->en 2=.ptr 2 1 0->en 8=i6 (0:Nat)->st 2=⟨1,true,some (.box p.enc),q⟩->
  wp T [It.lp pV,It.bl 6,It.code ((IC.ops mG).seq IC.ret)] en st (fun e s=>aC e s [gQ.tmp 4]=some (i6 R)):=by
  intro hin hR en st q e1 e2 e4 s2;replace hR:=Hd.mk hR;replace hin:=Hd.mk hin;have hl':p.aA.length<=9223372036854775807:=iq hs.aA (by decide);refine av (σ:=Nat) (fun i e s=>e 1=kX own/\e 2=.ptr 2 1 0/\e 8=i6 i/\(∃q,s 2=⟨1,true,some (.box p.enc),q⟩)/\i<=p.aA.length/\Hd (∀j (hj:j<i) (h:j<p.aA.length),iL own p.aA[j]=true)) (fun i=>p.aA.length-i) ?_ 0 _ _
   ⟨e1,e2,e4,⟨q,s2⟩,by omega,⟨fun _ h=>by omega⟩⟩
  rintro i e s ⟨e1,e2,e4,⟨q,s2⟩,hi,hA⟩ ih;have s2':=s2;rw[he]at s2
  simp[e1,e2,e4,s2];refine aj (fun h=>?_) (fun h=>?_)<;>(have h':=h;try simp at h')<;>(try simp[*])
  ·have hf:Hd (iL own p.aA[i]=false->R=50):=⟨fun g=>by rw[hR.out,dz (p:=iL own) h' g];rfl⟩
   have next:∀en' s' q',iL own p.aA[i]=true->en' 1=kX own->en' 2=.ptr 2 1 0->en' 8=i6 ((i+1:Nat):Int)->s' 2=⟨1,true,some (.box p.enc),q'⟩->wp T [It.lp pV,It.bl 6,It.code ((IC.ops mG).seq IC.ret)] en' s' (fun e s=>aC e s [gQ.tmp 4]=some (i6 R)):=fun en' s' q' g a b c d=>
    ih.out (i+1) en' s' ⟨a,b,c,⟨q',d⟩,h',⟨eH h' hA.out g⟩⟩ (by omega)
   replace next:=Hd.mk next
   clear ih;have hv:iL own p.aA[i]=((!decide (p.aA[i].fn=2)&&!decide (p.aA[i].fn=5))||aL (own.getD p.aA[i].col.toNat 0) 1):=rfl;have hii:zu own p.aA[i]=(decide (p.aA[i].fn=0)||decide (p.aA[i].col<own.length)):=rfl;have hin':=hin.out i h';rw[hii]at hin'
   have hc0:=hfa p.aA[i] (gG h');generalize iL own p.aA[i]=v at hv hf next
   generalize p.aA[i]=a at hv hin' hc0 ⊢;obtain⟨fn,col,ZG⟩:=a;simp only at hv hin' hc0;clear hii;by_cases f2:fn=2\/fn=5
   ·have f0:¬fn=0:=by omega
    have hcl:col<own.length:=by simpa[f0]using hin'
    obtain⟨j,rfl⟩:∃j:Nat,col=j:=⟨col.toNat,by omega⟩
    have hj:j<own.length:=by omega
    have hag:=jk own[j] 1;have hv':v=aL own[j] 1:=by rw[hv];rcases f2 with rfl|rfl<;>simp[hj]
    rw[<-hv']at hag
    cases v
    ·have hb':=hf.out rfl;rcases f2 with rfl|rfl
     ·simp[hag,hj,e1,e2,e4,s2,hb']
     ·simp[hag,hj,e1,e2,e4,s2,hb']
    ·rcases f2 with rfl|rfl
     ·simp[hag,hj,e1,e2,e4,s2];exact next.out _ _ q rfl (by simp[e1]) (by simp[e2]) (by simp[ai h' hl']) (by simp[s2',s2,he])
     ·simp[hag,hj,e1,e2,e4,s2];exact next.out _ _ q rfl (by simp[e1]) (by simp[e2]) (by simp[ai h' hl']) (by simp[s2',s2,he])
   ·have f2':¬fn=2:=fun h=>f2 (.inl h);have f5':¬fn=5:=fun h=>f2 (.inr h);have hv':v=true:=by rw[hv];simp[f2',f5']
    simp[f2',f5',e1,e2,e4,s2];exact next.out _ _ q hv' (by simp[e1]) (by simp[e2]) (by simp[ai h' hl']) (by simp[s2',s2,he])
  ·have hn:p.aA.all (iL own)=true:=bH (fun j hj=>hA.out j (by omega) hj);have hR':=hR.out;rw[if_pos hn]at hR'
   simp[hR']
 have loop3:(∀(i:Nat) (h:i<p.aA.length),zu own p.aA[i]=true)->R=(if p.keys.all (Rk own)=true then(if p.aA.all (iL own)=true then 0 else 50)else 81)->∀(en:Env) (st:ax) (q:Nat),en 1=kX own->en 2=.ptr 2 1 0->en 7=i6 (0:Nat)->st 2=⟨1,true,some (.box p.enc),q⟩->
  wp T [It.lp uT,It.bl 4,It.code (((IC.ops pW).seq (IC.block 6 (IC.loop pV))).seq ((IC.ops mG).seq IC.ret))] en st (fun e s=>aC e s [gQ.tmp 4]=some (i6 R)):=by
  intro hin hR en st q e1 e2 e4 s2;replace hR:=Hd.mk hR;replace hin:=Hd.mk hin;have hl':p.keys.length<=9223372036854775807:=iq hs.keys (by decide);refine av (σ:=Nat) (fun i e s=>e 1=kX own/\e 2=.ptr 2 1 0/\e 7=i6 i/\(∃q,s 2=⟨1,true,some (.box p.enc),q⟩)/\i<=p.keys.length/\Hd (∀j (hj:j<i) (h:j<p.keys.length),Rk own p.keys[j]=true)) (fun i=>p.keys.length-i) ?_ 0 _ _
   ⟨e1,e2,e4,⟨q,s2⟩,by omega,⟨fun _ h=>by omega⟩⟩
  rintro i e s ⟨e1,e2,e4,⟨q,s2⟩,hi,hA⟩ ih;have s2':=s2;rw[he]at s2
  simp[e1,e2,e4,s2];refine aj (fun h=>?_) (fun h=>?_)<;>(have h':=h;try simp at h')<;>(try simp[*])
  ·have hf:Hd (Rk own p.keys[i]=false->R=81):=⟨fun g=>by rw[hR.out,dz (p:=Rk own) h' g];rfl⟩
   have next:∀en' s' q',Rk own p.keys[i]=true->en' 1=kX own->en' 2=.ptr 2 1 0->en' 7=i6 ((i+1:Nat):Int)->s' 2=⟨1,true,some (.box p.enc),q'⟩->wp T [It.lp uT,It.bl 4,It.code (((IC.ops pW).seq (IC.block 6 (IC.loop pV))).seq ((IC.ops mG).seq IC.ret))] en' s' (fun e s=>aC e s [gQ.tmp 4]=some (i6 R)):=fun en' s' q' g a b c d=>
    ih.out (i+1) en' s' ⟨a,b,c,⟨q',d⟩,h',⟨eH h' hA.out g⟩⟩ (by omega)
   replace next:=Hd.mk next
   clear ih;have hv:Rk own p.keys[i]=decide (p.keys[i].col<own.length):=rfl;by_cases k:p.keys[i].col<own.length
   ·have k':¬(own.length:Int)<=p.keys[i].col:=by omega
    rw[decide_eq_true k]at hv
    simp[k',e1,e2,e4,s2];exact next.out _ _ q hv (by simp[e1]) (by simp[e2]) (by simp[ai h' hl']) (by simp[s2',s2,he])
   ·have k':(own.length:Int)<=p.keys[i].col:=by omega
    rw[decide_eq_false k]at hv
    have hb:=hf.out hv;simp[k',e1,e2,e4,s2,hb]
  ·have hn:p.keys.all (Rk own)=true:=bH (fun j hj=>hA.out j (by omega) hj);have hR':=hR.out;rw[if_pos hn]at hR'
   exact loop4 hin.out hR' _ _ q (by simp[e1]) (by simp[e2]) (by simp) (by simp[s2',s2,he])
 have loop2:R=(if p.aA.all (zu own)=true then(if p.keys.all (Rk own)=true then(if p.aA.all (iL own)=true then 0 else 50)else 81)else 81)->∀(en:Env) (st:ax) (q:Nat),en 1=kX own->en 2=.ptr 2 1 0->en 6=i6 (0:Nat)->st 2=⟨1,true,some (.box p.enc),q⟩->
  wp T [It.lp BS,It.bl 2,It.code (((IC.ops wN).seq (IC.block 4 (IC.loop uT))).seq (((IC.ops pW).seq (IC.block 6 (IC.loop pV))).seq ((IC.ops mG).seq IC.ret)))] en st (fun e s=>aC e s [gQ.tmp 4]=some (i6 R)):=by
  intro hR en st q e1 e2 e4 s2;replace hR:=Hd.mk hR
  skip
  have hl':p.aA.length<=9223372036854775807:=iq hs.aA (by decide);refine av (σ:=Nat) (fun i e s=>e 1=kX own/\e 2=.ptr 2 1 0/\e 6=i6 i/\(∃q,s 2=⟨1,true,some (.box p.enc),q⟩)/\i<=p.aA.length/\Hd (∀j (hj:j<i) (h:j<p.aA.length),zu own p.aA[j]=true)) (fun i=>p.aA.length-i) ?_ 0 _ _
   ⟨e1,e2,e4,⟨q,s2⟩,by omega,⟨fun _ h=>by omega⟩⟩
  rintro i e s ⟨e1,e2,e4,⟨q,s2⟩,hi,hA⟩ ih;have s2':=s2;rw[he]at s2
  simp[e1,e2,e4,s2];refine aj (fun h=>?_) (fun h=>?_)<;>(have h':=h;try simp at h')<;>(try simp[*])
  ·have hf:Hd (zu own p.aA[i]=false->R=81):=⟨fun g=>by rw[hR.out,dz (p:=zu own) h' g];rfl⟩
   have next:∀en' s' q',zu own p.aA[i]=true->en' 1=kX own->en' 2=.ptr 2 1 0->en' 6=i6 ((i+1:Nat):Int)->s' 2=⟨1,true,some (.box p.enc),q'⟩->wp T [It.lp BS,It.bl 2,It.code (((IC.ops wN).seq (IC.block 4 (IC.loop uT))).seq (((IC.ops pW).seq (IC.block 6 (IC.loop pV))).seq ((IC.ops mG).seq IC.ret)))] en' s' (fun e s=>aC e s [gQ.tmp 4]=some (i6 R)):=fun en' s' q' g a b c d=>
    ih.out (i+1) en' s' ⟨a,b,c,⟨q',d⟩,h',⟨eH h' hA.out g⟩⟩ (by omega)
   replace next:=Hd.mk next
   clear ih;have hv:zu own p.aA[i]=(decide (p.aA[i].fn=0)||decide (p.aA[i].col<own.length)):=rfl;by_cases k0:p.aA[i].fn=0
   ·have hv':zu own p.aA[i]=true:=by rw[hv,decide_eq_true k0];rfl
    simp[k0,h',e1,e2,e4,s2];exact next.out _ _ q hv' (by simp[e1]) (by simp[e2]) (by simp[ai h' hl']) (by simp[s2',s2,he])
   ·by_cases k:p.aA[i].col<own.length
    ·have k':¬(own.length:Int)<=p.aA[i].col:=by omega
     have hv':zu own p.aA[i]=true:=by rw[hv,decide_eq_true k,Bool.or_true]
     simp[k0,k',h',e1,e2,e4,s2];exact next.out _ _ q hv' (by simp[e1]) (by simp[e2]) (by simp[ai h' hl']) (by simp[s2',s2,he])
    ·have k':(own.length:Int)<=p.aA[i].col:=by omega
     have hv':zu own p.aA[i]=false:=by rw[hv,decide_eq_false k,decide_eq_false k0];rfl
     have hb:=hf.out hv';simp[k0,k',h',e1,e2,e4,s2,hb]
  ·have hn:p.aA.all (zu own)=true:=bH (fun j hj=>hA.out j (by omega) hj);have hR':=hR.out;rw[if_pos hn]at hR'
   exact loop3 (hinall hn) hR' _ _ q (by simp[e1]) (by simp[e2]) (by simp) (by simp[s2',s2,he])
 have loop1:R=(if p.ah.all (VW own)=true then(if p.aA.all (zu own)=true then(if p.keys.all (Rk own)=true then(if p.aA.all (iL own)=true then 0 else 50)else 81)else 81)else 81)->∀(en:Env) (st:ax) (q:Nat),en 1=kX own->en 2=.ptr 2 1 0->en 5=i6 (0:Nat)->st 2=⟨1,true,some (.box p.enc),q⟩->
  wp T [It.lp Lm,It.bl 0,It.code (((IC.ops Lp).seq (IC.block 2 (IC.loop BS))).seq (((IC.ops wN).seq (IC.block 4 (IC.loop uT))).seq (((IC.ops pW).seq (IC.block 6 (IC.loop pV))).seq ((IC.ops mG).seq IC.ret))))] en st (fun e s=>aC e s [gQ.tmp 4]=some (i6 R)):=by
  intro hR en st q e1 e2 e4 s2;replace hR:=Hd.mk hR
  skip
  have hl':p.ah.length<=9223372036854775807:=iq hs.ah (by decide);refine av (σ:=Nat) (fun i e s=>e 1=kX own/\e 2=.ptr 2 1 0/\e 5=i6 i/\(∃q,s 2=⟨1,true,some (.box p.enc),q⟩)/\i<=p.ah.length/\Hd (∀j (hj:j<i) (h:j<p.ah.length),VW own p.ah[j]=true)) (fun i=>p.ah.length-i) ?_ 0 _ _
   ⟨e1,e2,e4,⟨q,s2⟩,by omega,⟨fun _ h=>by omega⟩⟩
  rintro i e s ⟨e1,e2,e4,⟨q,s2⟩,hi,hA⟩ ih;have s2':=s2;rw[he]at s2
  simp[e1,e2,e4,s2];refine aj (fun h=>?_) (fun h=>?_)<;>(have h':=h;try simp at h')<;>(try simp[*])
  ·have hf:Hd (VW own p.ah[i]=false->R=81):=⟨fun g=>by rw[hR.out,dz (p:=VW own) h' g];rfl⟩
   have next:∀en' s' q',VW own p.ah[i]=true->en' 1=kX own->en' 2=.ptr 2 1 0->en' 5=i6 ((i+1:Nat):Int)->s' 2=⟨1,true,some (.box p.enc),q'⟩->wp T [It.lp Lm,It.bl 0,It.code (((IC.ops Lp).seq (IC.block 2 (IC.loop BS))).seq (((IC.ops wN).seq (IC.block 4 (IC.loop uT))).seq (((IC.ops pW).seq (IC.block 6 (IC.loop pV))).seq ((IC.ops mG).seq IC.ret))))] en' s' (fun e s=>aC e s [gQ.tmp 4]=some (i6 R)):=fun en' s' q' g a b c d=>
    ih.out (i+1) en' s' ⟨a,b,c,⟨q',d⟩,h',⟨eH h' hA.out g⟩⟩ (by omega)
   replace next:=Hd.mk next
   clear ih;have hv:VW own p.ah[i]=decide (p.ah[i]<own.length):=rfl;by_cases k:p.ah[i]<own.length
   ·have k':¬(own.length:Int)<=p.ah[i]:=by omega
    rw[decide_eq_true k]at hv
    simp[k',e1,e2,e4,s2];exact next.out _ _ q hv (by simp[e1]) (by simp[e2]) (by simp[ai h' hl']) (by simp[s2',s2,he])
   ·have k':(own.length:Int)<=p.ah[i]:=by omega
    rw[decide_eq_false k]at hv
    have hb:=hf.out hv;simp[k',e1,e2,e4,s2,hb]
  ·have hn:p.ah.all (VW own)=true:=bH (fun j hj=>hA.out j (by omega) hj);have hR':=hR.out;rw[if_pos hn]at hR'
   exact loop2 hR' _ _ q (by simp[e1]) (by simp[e2]) (by simp) (by simp[s2',s2,he])
 rw[he];simp;exact loop1 hN.out _ _ 1 (by simp) (by simp) (by simp) (by simp[he])
def J4(s:ax)(os:List Nat)(x:X)(es:List Int):Prop:=(es=[]/\x=.nil)\/(¬es=[]/\∃o g n,o∈os/\x=.ref o g 1 0 es.length/\s o=⟨g,true,some (.row 1 (es.map u8)),n⟩)
set_option maxHeartbeats 4000000 in
theorem qE(p:Pn)(hs:p.jO)(own:List Int)(hcols:∀n∈p.ah,0<=n/\n<own.length)(haggs:∀a∈p.aA,a.fn=3\/a.fn=4->0<=a.col/\a.col<own.length) :
 call T NN [p.enc,kX own]=some (.sl true ((p.ah.map (fun n=>own.getD n.toNat 0)++p.aA.map (dK own)).map u8)):=by
 refine q141g (by simp) ?_;have he:=p.ay;have hcl:p.ah.length<=1099511627776:=hs.ah;have hal:p.aA.length<=1099511627776:=hs.aA;have hcl':p.ah.length<=9223372036854775807:=by omega
 have hal':p.aA.length<=9223372036854775807:=by omega
 replace hcols:=Hd.mk hcols;generalize hF:p.ah.map (fun n=>own.getD n.toNat 0)++p.aA.map (dK own)=F;generalize hC:p.ah.map (fun n=>own.getD n.toNat 0)=C at hF;replace hF:=Hd.mk hF;have hCl:C.length=p.ah.length:=by rw[<-hC];simp
 have hCi:∀i (h:i<p.ah.length) (h':i<C.length),C[i]=own.getD p.ah[i].toNat 0:=by intro i h h';subst hC;simp
 clear hC;have loop2:∀(en:Env) (st:ax) (q:Nat),en 1=kX own->en 2=.ptr 2 1 0->en 7=i6 (0:Nat)->st 2=⟨1,true,some (.box p.enc),q⟩->J4 st [26,54,57] (en 5) C->wp T [It.lp Ll,It.bl 2,It.code ((IC.ops Fz).seq IC.ret)] en st (fun e s=>aC e s [gQ.tmp 4]=some (.sl true (F.map u8))):=by
  intro en st q e1 e2 e7 s2 hrow;refine av (σ:=Nat) (fun i e s=>e 1=kX own/\e 2=.ptr 2 1 0/\e 7=i6 i/\(∃q,s 2=⟨1,true,some (.box p.enc),q⟩)/\J4 s [26,54,57] (e 5) (C++(p.aA.map (dK own)).take i)/\i<=p.aA.length) (fun i=>p.aA.length-i) ?_ 0 _ _
   ⟨e1,e2,e7,⟨q,s2⟩,by rw[List.take_zero,List.append_nil];exact hrow,by omega⟩
  rintro i e s ⟨e1,e2,e7,⟨q,s2⟩,hrow,hi⟩ ih;have s2':=s2;rw[he]at s2
  simp[e1,e2,e7,s2];refine aj (fun h=>?_) (fun h=>?_)<;>(have h':=h;try simp at h')<;>(try simp[*])
  ·have hkl:i<(p.aA.map (dK own)).length:=by simpa using h'
   have hst:=dJ hkl;have hel:(p.aA.map (dK own))[i]=dK own p.aA[i]:=by simp
   rw[hel]at hst
   have hln:(C++(p.aA.map (dK own)).take i).length<=140737488355327:=by simp;omega
   have hao:dK own p.aA[i]=if p.aA[i].fn=3\/p.aA[i].fn=4 then own.getD p.aA[i].col.toNat 0 else 1:=rfl
   have hin:=haggs p.aA[i] (gG h');have next:∀e' s' q',e' 1=kX own->e' 2=.ptr 2 1 0->e' 7=i6 ((i+1:Nat):Int)->s' 2=⟨1,true,some (.box p.enc),q'⟩->J4 s' [26,54,57] (e' 5) (C++(p.aA.map (dK own)).take i++[dK own p.aA[i]])->wp T [It.lp Ll,It.bl 2,It.code ((IC.ops Fz).seq IC.ret)] e' s' (fun e s=>aC e s [gQ.tmp 4]=some (.sl true (F.map u8))):=
    fun e' s' q' a b c d f=>ih.out (i+1) e' s' ⟨a,b,c,⟨q',d⟩,by rw[hst,<-List.append_assoc];exact f,h'⟩ (by omega)
   replace next:=Hd.mk next
   clear ih hst hkl hel;generalize C++(p.aA.map (dK own)).take i=es at hrow hln next
   generalize dK own p.aA[i]=v at hao next
   generalize p.aA[i]=a at hao hin ⊢;obtain⟨fn,col,ZG⟩:=a;simp only at hao hin;by_cases hfn:fn=3\/fn=4
   ·obtain⟨c0,c1⟩:=hin hfn;obtain⟨j,rfl⟩:∃j:Nat,col=j:=⟨col.toNat,by omega⟩
    have hj:j<own.length:=by omega
    have hv:v=own[j]:=by rw[hao,if_pos hfn];simp[hj]
    rw[hv]at next
    clear hao hin;rcases hfn with rfl|rfl
    ·rcases hrow with⟨r1,r2⟩|⟨r1,o,g,c,ro,r2,r3⟩
     ·simp[hj,e1,e2,e7,s2,r2];refine next.out _ _ q (by simp[e1]) (by simp[e2]) (by simp[ai h' hal']) (by simp[s2',s2,he]) ?_
      rw[r1];exact .inr ⟨by simp,54,(s 54).g+1,_,by simp,by simp,by simp;rfl⟩
     ·simp only[List.mem_cons,List.not_mem_nil,or_false]at ro;rcases ro with rfl|rfl|rfl
      ·simp[hj,e1,e2,e7,s2,r2,r3,hln];refine next.out _ _ q (by simp[e1]) (by simp[e2]) (by simp[ai h' hal']) (by simp[s2',s2,he]) ?_
       exact .inr ⟨by simp,26,g+1,_,by simp,by simp,by simp[r3];rfl⟩
      ·simp[hj,e1,e2,e7,s2,r2,r3,hln];refine next.out _ _ q (by simp[e1]) (by simp[e2]) (by simp[ai h' hal']) (by simp[s2',s2,he]) ?_
       exact .inr ⟨by simp,54,g+1,_,by simp,by simp,by simp[r3];rfl⟩
      ·simp[hj,e1,e2,e7,s2,r2,r3,hln];refine next.out _ _ q (by simp[e1]) (by simp[e2]) (by simp[ai h' hal']) (by simp[s2',s2,he]) ?_
       exact .inr ⟨by simp,57,g+1,_,by simp,by simp,by simp[r3];rfl⟩
    ·rcases hrow with⟨r1,r2⟩|⟨r1,o,g,c,ro,r2,r3⟩
     ·simp[hj,e1,e2,e7,s2,r2];refine next.out _ _ q (by simp[e1]) (by simp[e2]) (by simp[ai h' hal']) (by simp[s2',s2,he]) ?_
      rw[r1];exact .inr ⟨by simp,54,(s 54).g+1,_,by simp,by simp,by simp;rfl⟩
     ·simp only[List.mem_cons,List.not_mem_nil,or_false]at ro;rcases ro with rfl|rfl|rfl
      ·simp[hj,e1,e2,e7,s2,r2,r3,hln];refine next.out _ _ q (by simp[e1]) (by simp[e2]) (by simp[ai h' hal']) (by simp[s2',s2,he]) ?_
       exact .inr ⟨by simp,26,g+1,_,by simp,by simp,by simp[r3];rfl⟩
      ·simp[hj,e1,e2,e7,s2,r2,r3,hln];refine next.out _ _ q (by simp[e1]) (by simp[e2]) (by simp[ai h' hal']) (by simp[s2',s2,he]) ?_
       exact .inr ⟨by simp,54,g+1,_,by simp,by simp,by simp[r3];rfl⟩
      ·simp[hj,e1,e2,e7,s2,r2,r3,hln];refine next.out _ _ q (by simp[e1]) (by simp[e2]) (by simp[ai h' hal']) (by simp[s2',s2,he]) ?_
       exact .inr ⟨by simp,57,g+1,_,by simp,by simp,by simp[r3];rfl⟩
   ·have f3:¬fn=3:=fun h=>hfn (.inl h);have f4:¬fn=4:=fun h=>hfn (.inr h);have hv:v=1:=by rw[hao,if_neg hfn]
    rw[hv]at next
    rcases hrow with⟨r1,r2⟩|⟨r1,o,g,c,ro,r2,r3⟩
    ·simp[f3,f4,e1,e2,e7,s2,r2];refine next.out _ _ q (by simp[e1]) (by simp[e2]) (by simp[ai h' hal']) (by simp[s2',s2,he]) ?_
     rw[r1];exact .inr ⟨by simp,57,(s 57).g+1,_,by simp,by simp,by simp;rfl⟩
    ·simp only[List.mem_cons,List.not_mem_nil,or_false]at ro;rcases ro with rfl|rfl|rfl
     ·simp[f3,f4,e1,e2,e7,s2,r2,r3,hln];refine next.out _ _ q (by simp[e1]) (by simp[e2]) (by simp[ai h' hal']) (by simp[s2',s2,he]) ?_
      exact .inr ⟨by simp,26,g+1,_,by simp,by simp,by simp[r3];rfl⟩
     ·simp[f3,f4,e1,e2,e7,s2,r2,r3,hln];refine next.out _ _ q (by simp[e1]) (by simp[e2]) (by simp[ai h' hal']) (by simp[s2',s2,he]) ?_
      exact .inr ⟨by simp,54,g+1,_,by simp,by simp,by simp[r3];rfl⟩
     ·simp[f3,f4,e1,e2,e7,s2,r2,r3,hln];refine next.out _ _ q (by simp[e1]) (by simp[e2]) (by simp[ai h' hal']) (by simp[s2',s2,he]) ?_
      exact .inr ⟨by simp,57,g+1,_,by simp,by simp,by simp[r3];rfl⟩
  ·have hfull:(p.aA.map (dK own)).take i=p.aA.map (dK own):=wU (by simp;omega);rw[hfull,hF.out]at hrow
   rcases hrow with⟨r1,r2⟩|⟨r1,o,g,c,ro,r2,r3⟩
   ·simp[r2,r1]
   ·simp only[List.mem_cons,List.not_mem_nil,or_false]at ro;rcases ro with rfl|rfl|rfl
    ·simp[r2,r3]
    ·simp[r2,r3]
    ·simp[r2,r3]
 rw[he];simp;refine av (σ:=Nat) (fun i e s=>e 1=kX own/\e 2=.ptr 2 1 0/\e 6=i6 i/\(∃q,s 2=⟨1,true,some (.box p.enc),q⟩)/\jF s 26 (e 5) (C.take i)/\i<=p.ah.length) (fun i=>p.ah.length-i) ?_ 0 _ _
  ⟨by simp,by simp,by simp,⟨1,by simp[he]⟩,.inl ⟨by simp,by simp⟩,by omega⟩
 rintro i e s ⟨e1,e2,e6,⟨q,s2⟩,hrow,hi⟩ ih;have s2':=s2;rw[he]at s2
 simp[e1,e2,e6,s2];refine aj (fun h=>?_) (fun h=>?_)<;>(have h':=h;try simp at h')<;>(try simp[*])
 ·have hkl:i<C.length:=by omega
  have hst:=dJ hkl;have hln:(C.take i).length<=140737488355327:=by simp;omega
  obtain⟨c0,c1⟩:=hcols.out p.ah[i] (gG h');have hel:=hCi i h' hkl;rw[hel]at hst
  generalize p.ah[i]=n at c0 c1 hst ⊢;obtain⟨j,rfl⟩:∃j:Nat,n=j:=⟨n.toNat,by omega⟩
  have hj:j<own.length:=by omega
  have hg:own.getD ((j:Int)).toNat 0=own[j]:=by simp[hj]
  rw[hg]at hst
  generalize hes:C.take i=es at hrow hln hst;rcases hrow with⟨r1,r2⟩|⟨r1,g,c,r2,r3⟩
  ·simp[hj,e1,e2,e6,s2,r2];refine ih.out (i+1) _ _ ?_ (by omega);refine⟨by simp[e1],by simp[e2],by simp[ai h' hcl'],⟨q,by simp[s2',s2,he]⟩,?_,h'⟩;rw[hst,r1];exact .inr ⟨by simp,(s 26).g+1,_,by simp,by simp;rfl⟩
  ·simp[hj,e1,e2,e6,s2,r2,r3,hln];refine ih.out (i+1) _ _ ?_ (by omega);refine⟨by simp[e1],by simp[e2],by simp[ai h' hcl'],⟨q,by simp[s2',s2,he]⟩,?_,h'⟩;rw[hst];exact .inr ⟨by simp,g+1,_,by simp,by simp[r3];rfl⟩
 ·have hfull:C.take i=C:=wU (by omega);rw[hfull]at hrow
  try simp[e1,e2,s2]
  refine loop2 _ _ q (by simp[e1]) (by simp[e2]) (by simp) (by simp[s2',s2,he]) ?_;rcases hrow with⟨r1,r2⟩|⟨r1,g,c,r2,r3⟩
  ·exact .inl ⟨r1,by simp[r2]⟩
  ·exact .inr ⟨r1,26,g,c,by simp,by simp[r2],by simp[r3]⟩
theorem Kq{a b:Int}(ha:0<=a)(hb:0<=b)(h:aL a b=true):(if a=0 then b else a)=max a b:=by
 rw[gH]at h
 split<;>omega
set_option maxHeartbeats 2000000 in
theorem uq(a b:List Int)(ha64:a.length<=64)(ha:∀k∈a,0<=k)(hb:∀k∈b,0<=k):call T NW [kX a,kX b]=some (.cZ [.sl true ((oh a b).1.map u8),i6 (oh a b).2]):=by
 refine q150g (by simp) ?_;have hal':a.length<=9223372036854775807:=by omega
 by_cases hab:a.length=b.length
 case neg=>
  have hab':¬(a.length:Int)=b.length:=by omega
  have hS:oh a b=([],81):=if_neg hab;rw[hS];simp[hab,hab']
 have hS:oh a b=aF fw (a.zip b):=if_pos hab;have hzi:∀i (h:i<a.length) (h2:i<b.length) (h3:i<(a.zip b).length),(a.zip b)[i]=(a[i],b[i]):=by intro i h h2 h3;simp
 have hz:(a.zip b).length=a.length:=by simp[hab]
 have hyes:(∀j (hj:j<(a.zip b).length),(fw (a.zip b)[j]).2=0)->oh a b=((a.zip b).map (fun x=>max x.1 x.2),0):=fun h=>by
  rw[hS,gI h];congr 1;refine List.map_congr_left fun x hx=>?_;obtain⟨j,hj,rfl⟩:=List.getElem_of_mem hx;have:=h j hj;unfold fw at this ⊢;split
  ·rfl
  ·rename_i hh;rw[if_neg hh]at this;simp at this
 have hno:∀i (h:i<(a.zip b).length),(∀j (hj:j<i),(fw (a.zip b)[j]).2=0)->¬(fw (a.zip b)[i]).2=0->oh a b=([],(fw (a.zip b)[i]).2):=fun i h h1 h2=>by rw[hS,gJ h h1 h2]
 have hOl:((a.zip b).map (fun x=>max x.1 x.2)).length=a.length:=by simp[hab]
 have hOi:∀i (h:i<a.length) (h2:i<b.length) (h3:i<((a.zip b).map (fun x=>max x.1 x.2)).length),((a.zip b).map (fun x=>max x.1 x.2))[i]=max a[i] b[i]:=by intro i h h2 h3;simp
 generalize oh a b=S at hyes hno ⊢;generalize (a.zip b).map (fun x=>max x.1 x.2)=O at hyes hOl hOi;replace hyes:=Hd.mk hyes;replace hno:=Hd.mk hno;clear hS;simp[hab];replace hab:=Hd.mk hab;replace ha:=Hd.mk ha;replace hb:=Hd.mk hb;refine av (σ:=Nat) (fun i e s=>e 0=kX a/\e 1=kX b/\e 7=i6 i/\jF s 40 (e 6) (O.take i)/\i<=a.length/\Hd (∀j (hj:j<i) (h:j<(a.zip b).length),(fw (a.zip b)[j]).2=0)) (fun i=>a.length-i) ?_ 0 _ _
  ⟨by simp,by simp,by simp,.inl ⟨by simp,by simp⟩,by omega,⟨fun _ h=>by omega⟩⟩
 rintro i e s ⟨e0,e1,e7,hrow,hi,hA⟩ ih;simp[e0,e1,e7];refine aj (fun h=>?_) (fun h=>?_)<;>(have h':=h;try simp at h')<;>(try simp[*])
 ·have hib:i<b.length:=by have:=hab.out;omega
  have hiz:i<(a.zip b).length:=by omega
  have hag:=jk a[i] b[i];have hcm:=Az a[i] b[i];have hel:=hzi i h' hib hiz;have hst:=dJ (l:=O) (i:=i) (by omega);rw[hOi i h' hib (by omega)]at hst
  by_cases hg:aL a[i] b[i]=true
  ·rw[hg]at hag
   rw[Kq (ha.out _ (gG h')) (hb.out _ (gG hib)) hg]at hcm
   have hone:(fw (a.zip b)[i]).2=0:=by rw[hel];simp[fw,hg]
   have hA':∀j (hj:j<i+1) (h:j<(a.zip b).length),(fw (a.zip b)[j]).2=0:=fun j hj h=>by
    rcases qP (qQ hj)with h2|h2
    ·exact hA.out j h2 h
    ·subst h2;exact hone
   have hln:(O.take i).length<=140737488355327:=by simp;omega
   clear hel hone;generalize hes:O.take i=es at hrow hln hst;rcases hrow with⟨r1,r2⟩|⟨r1,g,c,r2,r3⟩
   ·simp[hag,hcm,h',hib,e0,e1,e7,r2];refine ih.out (i+1) _ _ ?_ (by omega);refine⟨by simp[e0],by simp[e1],by simp[ai h' hal'],?_,h',⟨hA'⟩⟩;rw[hst,r1];exact .inr ⟨by simp,(s 40).g+1,_,by simp,by simp;rfl⟩
   ·simp[hag,hcm,h',hib,e0,e1,e7,r2,r3,hln];refine ih.out (i+1) _ _ ?_ (by omega);refine⟨by simp[e0],by simp[e1],by simp[ai h' hal'],?_,h',⟨hA'⟩⟩;rw[hst];exact .inr ⟨by simp,g+1,_,by simp,by simp[r3];rfl⟩
  ·simp only[Bool.not_eq_true]at hg;rw[hg]at hag
   have hone:(fw (a.zip b)[i]).2=50:=by rw[hel];simp[fw,hg]
   have hSS:=hno.out i hiz (fun j hj=>hA.out j hj (by omega)) (by rw[hone];decide);rw[hone]at hSS
   subst hSS;simp[hag,h',hib,e0,e1,e7]
 ·have hSS:=hyes.out (fun j hj=>hA.out j (by omega) hj);have hfull:O.take i=O:=wU (by omega);rw[hfull]at hrow
  subst hSS;rcases hrow with⟨r1,r2⟩|⟨r1,g,c,r2,r3⟩
  ·simp[r2,r1]
  ·simp[r2,r3]
set_option maxHeartbeats 2000000 in
theorem G6(s:List fZ)(p:Pn)(hs:p.jO)(kids:List (List Int))(own exprs:List Int)(ho:MH s p kids own exprs)(h1:¬p.op=1)(hn:∀r∈kids,∀k∈r,0<=k) :
 ∃fl,call T NS [p.enc,.sl false (kids.map kX),kX own,kX exprs]=some (.cZ [.sl fl ((aQ (s.map kT) p.op p.table p.kinds p.ah p.aA kids own exprs).1.map u8),i6 (aQ (s.map kT) p.op p.table p.kinds p.ah p.aA kids own exprs).2]):=by
 have he:=p.ay;by_cases h0:p.op=0
 ·refine⟨true,?_⟩;refine tX (by simp) ?_;have hR:aQ (s.map kT) p.op p.table p.kinds p.ah p.aA kids own exprs=(p.kinds,0):=if_pos h0;rw[hR];have hj:=qD p.kinds [] hs.kinds (by simp);rw[List.append_nil]at hj
  have hk0:kX ([]:List Int)=.sl false []:=rfl;rw[hk0]at hj
  simp[he,h0,hj]
 by_cases h3:p.op=3
 ·refine⟨false,?_⟩;refine tX (by simp) ?_;have hR:aQ (s.map kT) p.op p.table p.kinds p.ah p.aA kids own exprs=(exprs,0):=by unfold aQ;rw[if_neg h0,if_neg h1,if_pos h3]
  rw[hR];simp[he,h3]
 by_cases h10:p.op=10
 ·refine⟨true,?_⟩;refine tX (by simp) ?_;have hR:aQ (s.map kT) p.op p.table p.kinds p.ah p.aA kids own exprs=(p.ah.map (fun n=>own.getD n.toNat 0)++p.aA.map (dK own),0):=by unfold aQ;rw[if_neg h0,if_neg h1,if_neg h3,if_pos h10];rfl
  rw[hR];have hg:=qE p hs own (ho.RP h10) (ho.Rs h10);generalize p.ah.map (fun n=>own.getD n.toNat 0)++p.aA.map (dK own)=F at hg ⊢;rw[he]at hg
  rw[h10]at he hg
  simp[he,hg]
 have hk:=ho.ZQ;by_cases h9:p.op=9
 ·have hk2:kids.length=2:=by rw[hk,h9];rfl
  obtain⟨a,b,rfl⟩:∃a b,kids=[a,b]:=by rcases kids with _|⟨a,_|⟨b,_|⟨c,l⟩⟩⟩<;>simp at hk2 ⊢
  have he1:=ho.R7 h9;clear ho hk hk2 hn;have hR:aQ (s.map kT) p.op p.table p.kinds p.ah p.aA [a,b] own exprs=(match b with
   | [k]=>if aL (exprs.headD 0) k=true then(a,0)else([],50)
   | _=>([],81)):=by
   unfold aQ;rw[if_neg h0,if_neg h1,if_neg h3,if_neg h10,if_neg (by omega),if_pos h9];rfl
  rw[hR];rw[h9]at he
  rcases hb:b with _|⟨k,_|⟨k',l⟩⟩
  ·refine⟨true,?_⟩;refine tX (by simp) ?_;simp[he]
  ·have hag:=jk (exprs.headD 0) k;rcases hx:exprs with _|⟨x,xs⟩
   ·rw[hx]at he1;simp at he1
   rw[hx]at hag
   by_cases hg:aL ((x::xs).headD 0) k=true
   ·dsimp only;rw[if_pos hg];simp only[List.headD_cons]at hag hg;rw[hg]at hag
    refine⟨false,?_⟩;refine tX (by simp) ?_;simp[he,hag]
   ·dsimp only;rw[if_neg hg];simp only[List.headD_cons,Bool.not_eq_true]at hag hg;rw[hg]at hag
    refine⟨true,?_⟩;refine tX (by simp) ?_;simp[he,hag]
  ·refine⟨true,?_⟩;refine tX (by simp) ?_;have hne:¬((l.length:Int)+1+1=1):=by omega
   simp[he,hne]
 by_cases h78:p.op=7\/p.op=8
 ·refine⟨false,?_⟩;refine tX (by simp) ?_;have hk2:kids.length=2:=by rw[hk];rcases h78 with h|h<;>rw[h]<;>rfl
  obtain⟨a,b,rfl⟩:∃a b,kids=[a,b]:=by rcases kids with _|⟨a,_|⟨b,_|⟨c,l⟩⟩⟩<;>simp at hk2 ⊢
  have hR:aQ (s.map kT) p.op p.table p.kinds p.ah p.aA [a,b] own exprs=(a,0):=by unfold aQ;rw[if_neg h0,if_neg h1,if_neg h3,if_neg h10,if_pos h78];rfl
  rw[hR];rcases h78 with h|h
  ·rw[h]at he
   simp[he]
  ·rw[h]at he
   simp[he]
 by_cases h14:14<=p.op
 ·have hk2:kids.length=2:=by rw[hk];unfold aR;rw[if_neg (by omega),if_neg (by omega)]
  obtain⟨a,b,rfl⟩:∃a b,kids=[a,b]:=by rcases kids with _|⟨a,_|⟨b,_|⟨c,l⟩⟩⟩<;>simp at hk2 ⊢
  have hR:aQ (s.map kT) p.op p.table p.kinds p.ah p.aA [a,b] own exprs=oh a b:=by unfold aQ;rw[if_neg h0,if_neg h1,if_neg h3,if_neg h10,if_neg h78,if_neg h9,if_pos h14];rfl
  rw[hR];refine⟨true,?_⟩;refine tX (by simp) ?_;have hset:=uq a b (ho.small a (by simp)) (hn a (by simp)) (hn b (by simp));have h16:=ho.op16;generalize oh a b=S at hset ⊢;rcases(show p.op=14\/p.op=15\/p.op=16 by omega)with h|h|h
  all_goals
   rw[h]at he
   simp[he,hset]
 ·refine⟨false,?_⟩;refine tX (by simp) ?_;have hR:aQ (s.map kT) p.op p.table p.kinds p.ah p.aA kids own exprs=(own,0):=by unfold aQ;rw[if_neg h0,if_neg h1,if_neg h3,if_neg h10,if_neg h78,if_neg h9,if_neg h14]
  rw[hR];have n7:¬p.op=7:=fun h=>h78 (.inl h);have n8:¬p.op=8:=fun h=>h78 (.inr h);have n14:¬p.op=14:=by omega
  have n15:¬p.op=15:=by omega
  have n16:¬p.op=16:=by omega
  simp[he,h0,h3,h10,h9,n7,n8,n14,n15,n16]
abbrev nn(l:List Int):Prop:=∀k∈l,0<=k
theorem fK:nn []:=fun k hk=>by cases hk
theorem E9{l:List Int}(h:nn l)(i:Nat):0<=l.getD i 0:=by
 by_cases hi:i<l.length
 ·simp[hi];exact h _ (gG hi)
 ·simp[show l.length<=i by omega]
theorem BB{l:List (List Int)}(h:∀r∈l,nn r)(i:Nat):nn (l.getD i []):=by
 by_cases hi:i<l.length
 ·simp[hi];exact h _ (gG hi)
 ·simp[show l.length<=i by omega];exact fK
theorem wE{l:List (List Int)}(h:∀r∈l,nn r):nn (l.headD []):=by
 cases l with
 | nil=>first|exact fK|simp
 | cons a l=>simpa using h a (by simp)
theorem Nf(l:List Int):0<=lI l:=by
 have h:∀(l:List Int) (a:Int),0<=a->0<=l.foldl max a:=by
  intro l;induction l with
  | nil=>intro a h;simpa using h
  | cons b l ih=>intro a h;simp only[List.foldl_cons];exact ih _ (by omega)
 exact h l 0 (by omega)
theorem rW{α β:Type}{f:α->β×Int}{l:List α}{P:β->Prop}(h:∀a∈l,P (f a).1):∀x∈(aF f l).1,P x:=by
 induction l with
 | nil=>simp[aF]
 | cons a l ih=>
  have ih':=ih fun b hb=>h b (by simp[hb]);unfold aF;split
  ·split
   ·intro x hx;rcases List.mem_cons.1 hx with rfl|hx
    ·exact h a (by simp)
    ·exact ih' x hx
   ·first|exact fK|simp
  ·first|exact fK|simp
theorem RI(l:List Int):0<=(tQ l).1:=by
 unfold tQ;split
 ·exact Nf _
 ·first|exact fK|simp
theorem PN(op:Int):0<=jf op:=by unfold jf;split;simp;split<;>simp
theorem RF(op:Int)(l:List Int):0<=(je op l).1:=by
 unfold je;split
 ·split
  ·exact RI l
  ·split
   ·split
    ·exact Nf _
    ·exact PN _
   ·first|exact fK|simp
 ·first|exact fK|simp
theorem Wq{r:Int×Int}(h:0<=r.1):0<=(ET r).1:=by
 unfold ET;split
 ·exact h
 ·split<;>simp
theorem Wi{env:List (List Int)}(h:∀r∈env,nn r)(up n:Int):0<=(EK env up n).1:=by
 unfold EK;split
 ·exact E9 (BB h _) _
 ·first|exact fK|simp
theorem Zd(op:Int)(ks:List Int){r:List (List Int)×Int}(h:∀x∈r.1,nn x):0<=(qm op ks r).1:=by
 unfold qm;split
 ·split
  ·first|exact fK|simp
  ·split
   ·rename_i k hk;split
    ·exact h [k] (by rw[hk];simp) k (by simp)
    ·split<;>simp
   ·first|exact fK|simp
 ·first|exact fK|simp
theorem OJ(op:Int){kids:List (List Int)}(h:∀r∈kids,nn r):nn (bT op kids):=by
 unfold bT;split
 ·exact wE h
 ·intro k hk;obtain⟨r,hr,hk⟩:=List.mem_flatten.1 hk;exact h r hr k hk
theorem YH{a b:List Int}(ha:nn a)(hb:nn b):nn (oh a b).1:=by
 unfold oh;split
 ·refine rW (P:=fun k=>0<=k) fun x hx=>?_;have:=ha x.1 (List.of_mem_zip hx).1;split
  ·show 0<=max x.1 x.2;omega
  ·first|exact fK|simp
 ·first|exact fK|simp
theorem LJ{sc:List (List Int)}(hsc:∀r∈sc,nn r)(op table:Int){kinds:List Int}(hk:nn kinds)(ah:List Int)(aA:List Ag){kids:List (List Int)}(hkd:∀r∈kids,nn r){own exprs:List Int}(ho:nn own)(hx:nn exprs):nn (aQ sc op table kinds ah aA kids own exprs).1:=by
 unfold aQ;split
 ·exact hk
 split
 ·exact BB hsc _
 split
 ·exact hx
 split
 ·intro k hk;rcases List.mem_append.1 hk with h|h
  ·obtain⟨n,_,rfl⟩:=List.mem_map.1 h;exact E9 ho _
  ·obtain⟨a,_,rfl⟩:=List.mem_map.1 h;split
   ·exact E9 ho _
   ·first|exact fK|simp
 split
 ·exact wE hkd
 split
 ·split
  ·split
   ·exact wE hkd
   ·first|exact fK|simp
  ·first|exact fK|simp
 split
 ·exact YH (wE hkd) (BB hkd _)
 ·exact ho
theorem Q8{r:List Int×Int}(h:nn r.1):nn (gM r).1:=by
 unfold gM;split
 ·first|exact fK|simp
 ·exact h
theorem WY{sc:List (List Int)}(hsc:∀r∈sc,nn r) :
 (∀e:Ex,e.small->∀env:List (List Int),(∀r∈env,nn r)->0<=(e.kind sc env).1)/\(∀p:Pn,p.small->∀env:List (List Int),(∀r∈env,nn r)->nn (p.columns sc env).1):=by
 refine d9 (fun e h1 h2 hs env hv=>?_) (fun x h1 h2 h3 hs env hv=>?_)
 ·have hs':=Ex.dH hs;rw[Ex.zL];split
  ·split
   ·exact hs'.vk.1
   ·split
    ·exact Wi hv _ _
    ·split
     ·exact Zd _ _ (rW (P:=nn) fun q hq=>h2 q hq (hs'.subs q hq) env hv)
     ·exact Wq (RF _ _)
  ·first|exact fK|simp
 ·have hs':=Pn.dH hs;rw[Pn.pu];have hkd:∀r∈(x.jU sc env).1,nn r:=rW (P:=nn) fun q hq=>h1 q hq (hs'.kid q hq) env hv;have hown:nn (x.own sc env):=OJ _ hkd;have hv':∀r∈x.own sc env::env,nn r:=fun r hr=>by
   rcases List.mem_cons.1 hr with rfl|hr
   ·exact hown
   ·exact hv r hr
  split
  ·split
   ·first|exact fK|simp
   ·split
    ·split
     ·split
      ·exact Q8 (LJ hsc _ _ (fun k hk=>(hs'.kind k hk).1) _ _ hkd hown (rW (P:=fun k=>0<=k) fun q hq=>h3 q hq (hs'.expr q hq) _ hv'))
      ·first|exact fK|simp
     ·first|exact fK|simp
    ·first|exact fK|simp
  ·first|exact fK|simp
def oq(s:List fZ)(env:List (List Int))(e:Ex):Prop:=call T BQ [kN s,e.enc,.sl false (env.map kX)]=some (.cZ [u8 (e.kind (s.map kT) env).1,i6 (e.kind (s.map kT) env).2])
def Dt(s:List fZ)(env:List (List Int))(p:Pn):Prop:=∃fl,call T Jl [kN s,p.enc,.sl false (env.map kX)]=some (.cZ [.sl fl ((p.columns (s.map kT) env).1.map u8),i6 (p.columns (s.map kT) env).2])
theorem zk(s:List fZ)(env:List (List Int))(e:Ex)(hf:e.formed=true)(hso:fD e.op=true)(hp:∀q∈e.sub,Dt s env q)(x:Int) :
 call T Jo [kN s,e.enc,u8 x,.sl false (env.map kX)]=some (.cZ [u8 (qm e.op [x] (aF (Pn.columns (s.map kT) env) e.sub)).1,i6 (qm e.op [x] (aF (Pn.columns (s.map kT) env) e.sub)).2]):=by
 refine q151g (by simp) ?_;have he:=e.ay;obtain⟨q,hq⟩:=I7 hf hso;obtain⟨fl,hcol⟩:=hp q (by simp[hq]);have hE:qm e.op [x] (aF (Pn.columns (s.map kT) env) e.sub)=qm e.op [x] (if(q.columns (s.map kT) env).2=0 then([(q.columns (s.map kT) env).1],0)else([],(q.columns (s.map kT) env).2)):=by rw[hq];simp[aF]
 generalize qm e.op [x] (aF (Pn.columns (s.map kT) env) e.sub)=E at hE ⊢;have hqe:=q.ay;rw[hqe]at hcol
 rw[hq]at he
 simp only[ku,List.map_nil,hqe]at he;generalize q.columns (s.map kT) env=C at hcol hE;obtain⟨ah,err⟩:=C;simp only at hcol hE;have hop3:e.op=27\/e.op=28\/e.op=29:=by simp[fD]at hso;omega
 by_cases er:err=0
 case neg=>
  rw[if_neg er]at hE
  simp only[qm,if_neg er]at hE;subst hE;rcases hop3 with hx|hx|hx
  all_goals
   rw[hx]at he
   simp[he,hcol,er]
 subst er;simp only[qm,if_true]at hE;by_cases h27:e.op=27
 ·rw[if_pos h27]at hE
  subst hE;rw[h27]at he
  simp[he,hcol]
 rw[if_neg h27]at hE
 have hop2:e.op=28\/e.op=29:=by omega
 rcases hcc:ah with _|⟨k,_|⟨k',l⟩⟩
 ·rw[hcc]at hcol hE
  simp only at hE;subst hE;rcases hop2 with hx|hx
  all_goals
   rw[hx]at he
   simp[he,hcol]
 ·rw[hcc]at hcol hE
  simp only at hE;by_cases h29:e.op=29
  ·rw[if_pos h29]at hE
   subst hE;rw[h29]at he
   simp[he,hcol]
  ·rw[if_neg h29]at hE
   have h28:e.op=28:=by omega
   rw[h28]at he
   replace hE:E=(if aL x k=true then(3,0)else(0,50)):=hE;have hag:=jk x k;by_cases hg:aL x k=true
   ·rw[if_pos hg]at hE
    rw[hg]at hag
    subst hE;simp[he,hcol,hag]
   ·rw[if_neg hg]at hE
    simp only[Bool.not_eq_true]at hg;rw[hg]at hag
    subst hE;simp[he,hcol,hag]
 ·rw[hcc]at hcol hE
  simp only at hE;subst hE;have hne:¬((l.length:Int)+1+1=1):=by omega
  rcases hop2 with hx|hx
  all_goals
   rw[hx]at he
   simp[he,hcol,hne]
set_option maxHeartbeats 4000000 in
theorem LM(s:List fZ)(env:List (List Int))(e:Ex)(hs:e.wX)(hf:e.formed=true)(hk:∀k∈e.kids,oq s env k)(hn:∀k∈e.kids,0<=(k.kind (s.map kT) env).1)(hp:∀q∈e.sub,Dt s env q):oq s env e:=by
 unfold oq;refine q136g (by simp) ?_;have he:=e.ay;have hlk:e.kids.length<=1099511627776:=hs.kids;have hl':e.kids.length<=9223372036854775807:=by omega
 have hE:=Ex.zL (s.map kT) env e;have hbad:∀i (h:i<e.kids.length),(∀j (hj:j<i),(Ex.kind (s.map kT) env e.kids[j]).2=0)->¬(Ex.kind (s.map kT) env e.kids[i]).2=0->e.kind (s.map kT) env=(0,(Ex.kind (s.map kT) env e.kids[i]).2):=fun i h h1 h2=>by rw[hE,gJ h h1 h2];exact if_neg h2
 have hgood:(∀j (hj:j<e.kids.length),(Ex.kind (s.map kT) env e.kids[j]).2=0)->e.kind (s.map kT) env=(if e.op=0 then(e.vk,0)else if e.op=2 then EK env e.up e.n else if fD e.op=true then qm e.op (e.kids.map fun k=>(Ex.kind (s.map kT) env k).1) (aF (Pn.columns (s.map kT) env) e.sub)else ET (je e.op (e.kids.map fun k=>(Ex.kind (s.map kT) env k).1))):=fun h=>by rw[hE,gI h];exact if_pos rfl
 clear hE;generalize e.kind (s.map kT) env=E at hbad hgood ⊢;have hnk:nn (e.kids.map fun k=>(Ex.kind (s.map kT) env k).1):=fun x hx=>by obtain⟨k,hk,rfl⟩:=List.mem_map.1 hx;exact hn k hk
 generalize hks:(e.kids.map fun k=>(Ex.kind (s.map kT) env k).1)=ks at hgood hnk;have hkl:ks.length=e.kids.length:=by rw[<-hks];simp
 have hki:∀i (h:i<e.kids.length) (h':i<ks.length),ks[i]=(Ex.kind (s.map kT) env e.kids[i]).1:=by intro i h h';subst hks;simp
 clear hks hn;have hsub:=fun h x=>zk s env e hf h hp x
 rw[he];replace hkl:=Hd.mk hkl;simp;refine av (σ:=Nat) (fun i en st=>en 0=kN s/\en 2=.sl false (env.map kX)/\en 4=.ptr 4 1 0/\jF st 38 (en 8) (ks.take i)/\en 9=i6 i/\
  (∃q,st 4=⟨1,true,some (.box e.enc),q⟩)/\i<=e.kids.length/\Hd (∀j (hj:j<i) (h:j<e.kids.length),(Ex.kind (s.map kT) env e.kids[j]).2=0)) (fun i=>e.kids.length-i) ?_ 0 _ _
  ⟨by simp,by simp,by simp,.inl ⟨by simp,by simp⟩,by simp,⟨1,by simp[he]⟩,by omega,⟨fun _ h=>by omega⟩⟩
 rintro i en st ⟨e0,e2,e4,hrow,e9,⟨q4,s4⟩,hi,hA⟩ ih;have s4':=s4;rw[he]at s4'
 simp[e0,e2,e4,e9,s4'];refine aj (fun h=>?_) (fun h=>?_)<;>(have h':=h;try simp at h')<;>(try simp[*])
 ·have hc:=hk e.kids[i] (gG h');unfold oq at hc;have hb:=hbad i h' (fun j hj=>hA.out j hj (by omega));have hic:i<ks.length:=by have:=hkl.out;omega
  have hkie:=hki i h' hic;have hke:=e.kids[i].ay;have hA':(Ex.kind (s.map kT) env e.kids[i]).2=0->∀j (hj:j<i+1) (h:j<e.kids.length),(Ex.kind (s.map kT) env e.kids[j]).2=0:=fun g j hj h=>by
   rcases qP (qQ hj)with h2|h2
   ·exact hA.out j h2 h
   ·subst h2;exact g
  have htk:=dJ hic;rw[hkie]at htk
  have hln:(ks.take i).length<=140737488355327:=by simp;omega
  replace hA':=Hd.mk hA';clear hkie;generalize Ex.kind (s.map kT) env e.kids[i]=kr at hc hb htk hA';obtain⟨k1,k2⟩:=kr;simp only at hc hb htk hA';rw[hke]at hc
  simp only[hke];by_cases k0:k2=0
  ·subst k0;generalize ks.take i=ys at hrow htk hln;rcases hrow with⟨r1,r2⟩|⟨r1,g,c,r2,r3⟩
   ·simp[hc,e0,e2,e4,e9,s4',h',hke,r2];refine ih.out (i+1) _ _ ?_ (by omega);refine⟨by simp[e0],by simp[e2],by simp[e4],?_,by simp[ai h' hl'],⟨q4,by simp[s4',s4,he]⟩,h',⟨hA'.out rfl⟩⟩;rw[htk,r1];exact .inr ⟨by simp,(st 38).g+1,_,by simp,by simp;rfl⟩
   ·simp[hc,e0,e2,e4,e9,s4',h',hke,r2,r3,hln];refine ih.out (i+1) _ _ ?_ (by omega);refine⟨by simp[e0],by simp[e2],by simp[e4],?_,by simp[ai h' hl'],⟨q4,by simp[s4',s4,he]⟩,h',⟨hA'.out rfl⟩⟩;rw[htk];exact .inr ⟨by simp,g+1,_,by simp,by simp[r3];rfl⟩
  ·have hE:=hb k0;subst hE;simp[hc,e0,e2,e4,e9,s4',h',hke,k0]
 ·have hin:i=ks.length:=by have:=hkl.out;omega
  have hE:=hgood (fun j hj=>hA.out j (by omega) hj);have hfull:ks.take i=ks:=wU (by omega);rw[hfull]at hrow
  clear hbad hgood ih hA hki hfull hk hp;by_cases h0:e.op=0
  ·rw[if_pos h0]at hE
   subst hE;simp[e4,s4',h0]
  rw[if_neg h0]at hE
  by_cases h2:e.op=2
  ·rw[if_pos h2]at hE
   obtain⟨u0,n0⟩:=BD hf h2;obtain⟨u,hu⟩:∃j:Nat,e.up=j:=⟨e.up.toNat,by omega⟩
   obtain⟨m,hm⟩:∃j:Nat,e.n=j:=⟨e.n.toNat,by omega⟩
   rw[hu,hm]at s4'
   rw[hu,hm]at hE
   unfold EK at hE;by_cases hue:u<env.length
   ·have hg:env.getD ((u:Int)).toNat []=env[u]:=by simp[hue]
    rw[hg]at hE
    by_cases hme:m<env[u].length
    ·have hg2:env[u].getD ((m:Int)).toNat 0=env[u][m]:=by simp[hme]
     rw[hg2,if_pos ⟨by omega,by omega⟩]at hE
     subst hE;have hue':¬(env.length:Int)<=u:=by omega
     have hme':¬(env[u].length:Int)<=m:=by omega
     simp[e2,e4,s4',h2,hue,hme,hue',hme']
    ·rw[if_neg (by omega)]at hE
     subst hE;have hue':¬(env.length:Int)<=u:=by omega
     have hme':(env[u].length:Int)<=m:=by omega
     simp[e2,e4,s4',h2,hue,hue',hme']
   ·rw[if_neg (by omega)]at hE
    subst hE;have hue':(env.length:Int)<=u:=by omega
    simp[e2,e4,s4',h2,hue,hue']
  rw[if_neg h2]at hE
  by_cases hso:fD e.op=true
  ·rw[if_pos hso]at hE
   replace hsub:=hsub hso;rw[he]at hsub
   generalize aF (Pn.columns (s.map kT) env) e.sub=D at hsub hE;have hop3:e.op=27\/e.op=28\/e.op=29:=by simp[fD]at hso;omega
   by_cases h28:e.op=28
   ·obtain⟨k0,hk0⟩:=Ni hf h28;have hksl:ks.length=1:=by rw[hkl.out,hk0];rfl
    obtain⟨x,hx⟩:=E5 hksl;rw[hx]at hE hrow
    have hS:=hsub x;rw[<-hE]at hS
    rw[h28]at hS
    rcases hrow with⟨r1,r2⟩|⟨r1,g,c,r2,r3⟩
    ·simp at r1
    ·simp[hS,e0,e2,e4,s4',h28,r2,r3]
   ·have hS:=hsub 0;have hq:qm e.op [0] D=qm e.op ks D:=by
     unfold qm;split
     ·split
      ·rfl
      ·rename_i h27;have h29:e.op=29:=by omega
       split
       ·rw[if_pos h29,if_pos h29]
       ·rfl
     ·rfl
    rw[hq,<-hE]at hS
    rcases hop3 with hx|hx|hx
    ·rw[hx]at hS
     simp[hS,e0,e2,e4,s4',hx]
    ·exact absurd hx h28
    ·rw[hx]at hS
     simp[hS,e0,e2,e4,s4',hx]
  ·rw[if_neg hso]at hE
   have n27:¬e.op=27:=by intro h;apply hso;rw[h];rfl
   have n28:¬e.op=28:=by intro h;apply hso;rw[h];rfl
   have n29:¬e.op=29:=by intro h;apply hso;rw[h];rfl
   have hcK:=EF e.op ks (by rw[aV,hkl.out];exact hlk) hnk;generalize je e.op ks=C at hcK hE;obtain⟨k,err⟩:=C;simp only[ET]at hcK hE;rcases hrow with⟨r1,r2⟩|⟨r1,g,c,r2,r3⟩
   ·have hk0:List.map u8 ks=[]:=by rw[r1];rfl
    rw[hk0]at hcK
    by_cases er:err=0
    ·rw[if_pos er]at hE
     subst hE;subst er;simp[hcK,e4,r2,s4',h0,h2,n27,n28,n29]
    ·rw[if_neg er]at hE
     by_cases er1:err=1
     ·rw[if_pos er1]at hE
      subst hE;subst er1;simp[hcK,e4,r2,s4',h0,h2,n27,n28,n29]
     ·rw[if_neg er1]at hE
      subst hE;simp[hcK,e4,r2,s4',h0,h2,n27,n28,n29,er,er1]
   ·by_cases er:err=0
    ·rw[if_pos er]at hE
     subst hE;subst er;simp[hcK,e4,r2,r3,s4',h0,h2,n27,n28,n29]
    ·rw[if_neg er]at hE
     by_cases er1:err=1
     ·rw[if_pos er1]at hE
      subst hE;subst er1;simp[hcK,e4,r2,r3,s4',h0,h2,n27,n28,n29]
     ·rw[if_neg er1]at hE
      subst hE;simp[hcK,e4,r2,r3,s4',h0,h2,n27,n28,n29,er,er1]
def jB(sc env:List (List Int))(p:Pn):List Int×Int:=
 if(aF (fun e=>dm (Ex.kind sc env e)) p.conds).2=0 then aF (Ex.kind sc env) p.exprs else([],(aF (fun e=>dm (Ex.kind sc env e)) p.conds).2)
set_option maxHeartbeats 4000000 in
theorem zh(s:List fZ)(env:List (List Int))(p:Pn)(hs:p.jO)(hc:∀e∈p.conds,oq s env e)(hx:∀e∈p.exprs,oq s env e) :
 call T NI [kN s,p.enc,.sl false (env.map kX)]=some (.cZ [.sl true ((jB (s.map kT) env p).1.map u8),i6 (jB (s.map kT) env p).2]):=by
 refine q137g (by simp) ?_;have he:=p.ay;have hE:jB (s.map kT) env p=if(aF (fun e=>dm (Ex.kind (s.map kT) env e)) p.conds).2=0 then aF (Ex.kind (s.map kT) env) p.exprs else([],(aF (fun e=>dm (Ex.kind (s.map kT) env e)) p.conds).2):=rfl
 generalize jB (s.map kT) env p=E at hE ⊢;replace hE:=Hd.mk hE;have loop2:E=aF (Ex.kind (s.map kT) env) p.exprs->∀(en:Env) (st:ax) (q:Nat),en 0=kN s->en 2=.sl false (env.map kX)->en 4=.ptr 4 1 0->en 11=.nil->en 12=i6 (0:Nat)->st 4=⟨1,true,some (.box p.enc),q⟩->
  wp T [It.lp TY,It.bl 2,It.code ((IC.ops NJ).seq IC.ret)] en st (fun e s=>aC e s [gQ.tmp 6,gQ.tmp 7]=some (.cZ [.sl true (E.1.map u8),i6 E.2])):=by
  intro hE en st q e0 e2 e4 e11 e12 s4;have hl:p.exprs.length<=1099511627776:=hs.exprs;have hl':p.exprs.length<=9223372036854775807:=by omega
  have hbad:∀i (h:i<p.exprs.length),(∀j (hj:j<i),(Ex.kind (s.map kT) env p.exprs[j]).2=0)->¬(Ex.kind (s.map kT) env p.exprs[i]).2=0->E=([],(Ex.kind (s.map kT) env p.exprs[i]).2):=fun i h a b=>by rw[hE,gJ h a b]
  generalize hxs:(p.exprs.map fun k=>(Ex.kind (s.map kT) env k).1)=xs;have hgood:(∀j (hj:j<p.exprs.length),(Ex.kind (s.map kT) env p.exprs[j]).2=0)->E=(xs,0):=fun h=>by rw[hE,gI h,hxs]
  have hxl:xs.length=p.exprs.length:=by rw[<-hxs];simp
  have hxi:∀i (h:i<p.exprs.length) (h':i<xs.length),xs[i]=(Ex.kind (s.map kT) env p.exprs[i]).1:=by intro i h h';subst hxs;simp
  clear hxs hE;replace hxl:=Hd.mk hxl;refine av (σ:=Nat) (fun i en st=>en 0=kN s/\en 2=.sl false (env.map kX)/\en 4=.ptr 4 1 0/\jF st 63 (en 11) (xs.take i)/\en 12=i6 i/\(∃q,st 4=⟨1,true,some (.box p.enc),q⟩)/\i<=p.exprs.length/\Hd (∀j (hj:j<i) (h:j<p.exprs.length),(Ex.kind (s.map kT) env p.exprs[j]).2=0)) (fun i=>p.exprs.length-i) ?_ 0 _ _
   ⟨e0,e2,e4,.inl ⟨by simp,e11⟩,e12,⟨q,s4⟩,by omega,⟨fun _ h=>by omega⟩⟩
  rintro i en st ⟨e0,e2,e4,hrow,e12,⟨q4,s4⟩,hi,hA⟩ ih;have s4':=s4;rw[he]at s4'
  simp[e0,e2,e4,e12,s4'];refine aj (fun h=>?_) (fun h=>?_)<;>(have h':=h;try simp at h')<;>(try simp[*])
  ·have hcall:=hx p.exprs[i] (gG h');unfold oq at hcall;have hb:=hbad i h' (fun j hj=>hA.out j hj (by omega));have hix:i<xs.length:=by have:=hxl.out;omega
   have hxie:=hxi i h' hix;have hke:=p.exprs[i].ay;have hA':(Ex.kind (s.map kT) env p.exprs[i]).2=0->∀j (hj:j<i+1) (h:j<p.exprs.length),(Ex.kind (s.map kT) env p.exprs[j]).2=0:=fun g j hj h=>by
    rcases qP (qQ hj)with h2|h2
    ·exact hA.out j h2 h
    ·subst h2;exact g
   have htk:=dJ hix;rw[hxie]at htk
   have hln:(xs.take i).length<=140737488355327:=by simp;omega
   replace hA':=Hd.mk hA';clear hxie;generalize Ex.kind (s.map kT) env p.exprs[i]=kr at hcall hb htk hA';obtain⟨k1,k2⟩:=kr;simp only at hcall hb htk hA';rw[hke]at hcall
   simp only[hke];by_cases k0:k2=0
   ·subst k0;generalize xs.take i=ys at hrow htk hln;rcases hrow with⟨r1,r2⟩|⟨r1,g,c,r2,r3⟩
    ·simp[hcall,e0,e2,e4,e12,s4',h',hke,r2];refine ih.out (i+1) _ _ ?_ (by omega);refine⟨by simp[e0],by simp[e2],by simp[e4],?_,by simp[ai h' hl'],⟨q4,by simp[s4',s4,he]⟩,h',⟨hA'.out rfl⟩⟩;rw[htk,r1];exact .inr ⟨by simp,(st 63).g+1,_,by simp,by simp;rfl⟩
    ·simp[hcall,e0,e2,e4,e12,s4',h',hke,r2,r3,hln];refine ih.out (i+1) _ _ ?_ (by omega);refine⟨by simp[e0],by simp[e2],by simp[e4],?_,by simp[ai h' hl'],⟨q4,by simp[s4',s4,he]⟩,h',⟨hA'.out rfl⟩⟩;rw[htk];exact .inr ⟨by simp,g+1,_,by simp,by simp[r3];rfl⟩
   ·have hE:=hb k0;subst hE;simp[hcall,e0,e2,e4,e12,s4',h',hke,k0]
  ·have hE:=hgood (fun j hj=>hA.out j (by omega) hj);have hfull:xs.take i=xs:=wU (by have:=hxl.out;omega);rw[hfull]at hrow
   subst hE;rcases hrow with⟨r1,r2⟩|⟨r1,g,c,r2,r3⟩
   ·simp[r2,r1]
   ·simp[r2,r3]
 have hl:p.conds.length<=1099511627776:=hs.conds;have hl':p.conds.length<=9223372036854775807:=by omega
 have hbad:∀i (h:i<p.conds.length),(∀j (hj:j<i),(dm (Ex.kind (s.map kT) env p.conds[j])).2=0)->¬(dm (Ex.kind (s.map kT) env p.conds[i])).2=0->E=([],(dm (Ex.kind (s.map kT) env p.conds[i])).2):=fun i h a b=>by rw[hE.out,gJ (f:=fun e=>dm (Ex.kind (s.map kT) env e)) h a b];exact if_neg b
 have hgood:(∀j (hj:j<p.conds.length),(dm (Ex.kind (s.map kT) env p.conds[j])).2=0)->E=aF (Ex.kind (s.map kT) env) p.exprs:=fun h=>by rw[hE.out,gI (f:=fun e=>dm (Ex.kind (s.map kT) env e)) h];exact if_pos rfl
 clear hE;replace loop2:=Hd.mk loop2;rw[he];simp;refine av (σ:=Nat) (fun i en st=>en 0=kN s/\en 2=.sl false (env.map kX)/\en 4=.ptr 4 1 0/\en 8=i6 i/\(∃q,st 4=⟨1,true,some (.box p.enc),q⟩)/\i<=p.conds.length/\Hd (∀j (hj:j<i) (h:j<p.conds.length),(dm (Ex.kind (s.map kT) env p.conds[j])).2=0)) (fun i=>p.conds.length-i) ?_ 0 _ _
  ⟨by simp,by simp,by simp,by simp,⟨1,by simp[he]⟩,by omega,⟨fun _ h=>by omega⟩⟩
 rintro i en st ⟨e0,e2,e4,e8,⟨q4,s4⟩,hi,hA⟩ ih;have s4':=s4;rw[he]at s4'
 simp[e0,e2,e4,e8,s4'];refine aj (fun h=>?_) (fun h=>?_)<;>(have h':=h;try simp at h')<;>(try simp[*])
 ·have hcall:=hc p.conds[i] (gG h');unfold oq at hcall;have hb:=hbad i h' (fun j hj=>hA.out j hj (by omega));have hke:=p.conds[i].ay;have hA':(dm (Ex.kind (s.map kT) env p.conds[i])).2=0->∀j (hj:j<i+1) (h:j<p.conds.length),(dm (Ex.kind (s.map kT) env p.conds[j])).2=0:=fun g j hj h=>by
   rcases qP (qQ hj)with h2|h2
   ·exact hA.out j h2 h
   ·subst h2;exact g
  replace hA':=Hd.mk hA';generalize Ex.kind (s.map kT) env p.conds[i]=kr at hcall hb hA';obtain⟨k1,k2⟩:=kr;simp only at hcall;rw[hke]at hcall
  simp only[hke];have hag:=jk k1 3;by_cases k0:k2=0
  ·subst k0;by_cases hg:aL k1 3=true
   ·have hck:dm (k1,0)=(k1,0):=by simp[dm,hg]
    rw[hck]at hA'
    rw[hg]at hag
    simp[hcall,hag,e0,e2,e4,e8,s4',h',hke];refine ih.out (i+1) _ _ ?_ (by omega);exact⟨by simp[e0],by simp[e2],by simp[e4],by simp[ai h' hl'],⟨q4,by simp[s4',s4,he]⟩,h',⟨hA'.out rfl⟩⟩
   ·simp only[Bool.not_eq_true]at hg;have hck:dm (k1,0)=(0,50):=by simp[dm,hg]
    rw[hck]at hb
    have hE:=hb (by decide);rw[hg]at hag
    subst hE;simp[hcall,hag,e0,e2,e4,e8,s4',h',hke]
  ·have hck:dm (k1,k2)=(k1,k2):=by simp[dm,k0]
   rw[hck]at hb
   have hE:=hb k0;subst hE;simp[hcall,e0,e2,e4,e8,s4',h',hke,k0]
 ·have hCE:=hgood (fun j hj=>hA.out j (by omega) hj)
  try simp[e0,e2,e4,s4']
  exact loop2.out hCE _ _ q4 (by simp[e0]) (by simp[e2]) (by simp[e4]) (by simp) (by simp) (by simp[s4',s4,he])
theorem SX{α:Type}{l:List α}(h:l.length=0):l=[]:=List.length_eq_zero_iff.1 h
theorem LX{p:Pn}(h:nZ p=true)(h1:p.op=1):p.kids=[]/\p.conds=[]/\p.exprs=[]/\p.ah=[]/\p.aA=[]/\p.keys=[]:=by
 have hk:=(xU h).kids;rw[h1]at hk
 simp only[nZ,bN]at h;have hf:=h.2.2.1;simp[jS,h1]at hf
 exact⟨SX hk,hf.2.1,hf.2.2.1,hf.2.2.2.1.1,hf.2.2.2.1.2,hf.2.2.2.2.1⟩
theorem KD{α β:Type}(f:α->β×Int)(l:List α)(h:¬(aF f l).2=0):(aF f l).1=[]:=by
 induction l with
 | nil=>rfl
 | cons a l ih=>
  unfold aF at h ⊢;split
  ·split
   ·rename_i g1 g2;rw[if_pos g1,if_pos g2]at h;exact absurd rfl h
   ·rfl
  ·rfl
theorem Vl(a b:List Int)(h:¬(oh a b).2=0):(oh a b).1=[]:=by
 unfold oh at h ⊢;split
 ·rename_i g;rw[if_pos g]at h;exact KD _ _ h
 ·rfl
theorem JE(sc:List (List Int))(op table:Int)(kinds ah:List Int)(aA:List Ag)(kids:List (List Int))(own exprs:List Int)(h:¬(aQ sc op table kinds ah aA kids own exprs).2=0):(aQ sc op table kinds ah aA kids own exprs).1=[]:=by
 unfold aQ at h ⊢;by_cases c0:op=0
 ·rw[if_pos c0]at h;exact absurd rfl h
 rw[if_neg c0]at h ⊢
 by_cases c1:op=1
 ·rw[if_pos c1]at h;exact absurd rfl h
 rw[if_neg c1]at h ⊢
 by_cases c3:op=3
 ·rw[if_pos c3]at h;exact absurd rfl h
 rw[if_neg c3]at h ⊢
 by_cases c10:op=10
 ·rw[if_pos c10]at h;exact absurd rfl h
 rw[if_neg c10]at h ⊢
 by_cases c7:op=7\/op=8
 ·rw[if_pos c7]at h;exact absurd rfl h
 rw[if_neg c7]at h ⊢
 by_cases c9:op=9
 ·rw[if_pos c9]at h ⊢
  split
  ·rename_i k hk;rw[hk]at h
   simp only at h;split
   ·rename_i g;rw[if_pos g]at h;exact absurd rfl h
   ·rfl
  ·rfl
 rw[if_neg c9]at h ⊢
 by_cases c14:14<=op
 ·rw[if_pos c14]at h ⊢;exact Vl _ _ h
 rw[if_neg c14]at h
 exact absurd rfl h
set_option maxHeartbeats 8000000 in
theorem LD(s:List fZ)(hst:∀t∈s,t.ah.length<=64)(env:List (List Int))(henv:env.length<=5864062014804)(p:Pn)(hs:p.jO)(hf:p.formed=true)(hk:∀q∈p.kids,Dt s env q)
 (hnn:∀q∈p.kids,nn (q.columns (s.map kT) env).1)
 (hc:∀own,nn own->∀e∈p.conds,oq s (own::env) e) (hx:∀own,nn own->∀e∈p.exprs,oq s (own::env) e):Dt s env p:=by
 unfold Dt
 suffices h:∃a:Fl,call T Jl [kN s,p.enc,.sl false (env.map kX)]=some (.cZ [.sl a.b ((p.columns (s.map kT) env).1.map u8),i6 (p.columns (s.map kT) env).2])by obtain⟨a,ha⟩:=h;exact⟨a.b,ha⟩
 refine G8 (nt:=86) (res:=[.tmp 6,.tmp 7]) (body:=aar) (x:=fun(fl:Fl)=>.cZ [.sl fl.b ((p.columns (s.map kT) env).1.map u8),i6 (p.columns (s.map kT) env).2]) (by kernel_rfl) (by simp) ?_;have hst':∀t∈s,aV t.ah:=fun t ht=>by have:=hst t ht;show t.ah.length<=1099511627776;omega
 have he:=p.ay;have hpo:=xU (lG hf).1;have hse:=LX (lG hf).1;have hk2:p.kids.length<=2:=by rw[hpo.kids];exact yN p.op
 have hC:=Pn.pu (s.map kT) env p;have hbad:∀i (h:i<p.kids.length),(∀j (hj:j<i),(Pn.columns (s.map kT) env p.kids[j]).2=0)->¬(Pn.columns (s.map kT) env p.kids[i]).2=0->p.columns (s.map kT) env=([],(Pn.columns (s.map kT) env p.kids[i]).2):=fun i h h1 h2=>by have hkc:p.jU (s.map kT) env=([],(Pn.columns (s.map kT) env p.kids[i]).2):=gJ h h1 h2;rw[hC,hkc];exact if_neg h2
 have hcn:∀r∈p.kids.map (fun k=>(Pn.columns (s.map kT) env k).1),nn r:=fun r hr=>by obtain⟨q,hq,rfl⟩:=List.mem_map.1 hr;exact hnn q hq
 generalize hcs:(p.kids.map fun k=>(Pn.columns (s.map kT) env k).1)=cs at hcn;have hgood:(∀j (hj:j<p.kids.length),(Pn.columns (s.map kT) env p.kids[j]).2=0)->p.columns (s.map kT) env =
  if p.op=1/\s.length<=p.table then([],81)else
   if bQ p.ah p.aA p.keys (bT p.op cs)=0 then
    (if(jB (s.map kT) (bT p.op cs::env) p).2=0 then
     gM (aQ (s.map kT) p.op p.table p.kinds p.ah p.aA cs (bT p.op cs) (jB (s.map kT) (bT p.op cs::env) p).1)
     else([],(jB (s.map kT) (bT p.op cs::env) p).2))
   else([],bQ p.ah p.aA p.keys (bT p.op cs)):=fun h=>by
  have hkc:p.jU (s.map kT) env=(cs,0):=by rw[<-hcs];exact gI h
  have hown:p.own (s.map kT) env=bT p.op cs:=by unfold Pn.own;rw[hkc]
  rw[hC,hown,hkc];simp only[if_true,List.length_map];unfold jB;generalize (aF (fun e=>dm (Ex.kind (s.map kT) (bT p.op cs::env) e)) p.conds).2=b;by_cases hb:b=0
  ·rw[if_pos hb,if_pos hb]
  ·rw[if_neg hb,if_neg hb];simp only[if_neg hb]
 have hcl:cs.length=p.kids.length:=by rw[<-hcs];simp
 have hci:∀i (h:i<p.kids.length) (h':i<cs.length),cs[i]=(Pn.columns (s.map kT) env p.kids[i]).1:=by intro i h h';subst hcs;simp
 have hc64:(∀j (hj:j<p.kids.length),(Pn.columns (s.map kT) env p.kids[j]).2=0)->∀k∈cs,k.length<=64:=fun h k hk=>by obtain⟨j,hj,rfl⟩:=List.getElem_of_mem hk;rw[hci j (by omega) hj];exact(yA (s.map kT) env p.kids[j]).elim id (fun q=>absurd (h j (by omega)) q)
 clear hcs hC hnn;generalize p.columns (s.map kT) env=C at hbad hgood ⊢;rw[he];simp;refine av (σ:=Nat) (fun i en st=>en 0=kN s/\en 2=.sl false (env.map kX)/\en 4=.ptr 4 1 0/\en 9=i6 i/\(∃es,RowG st 40 (en 8) es/\gB es=(cs.take i).map kX/\aT es=true/\es.length=i)/\
  (∃q,st 4=⟨1,true,some (.box p.enc),q⟩)/\i<=p.kids.length/\Hd (∀j (hj:j<i) (h:j<p.kids.length),(Pn.columns (s.map kT) env p.kids[j]).2=0)) (fun i=>p.kids.length-i) ?_ 0 _ _
  ⟨by simp,by simp,by simp,by simp,⟨[],.inl ⟨rfl,by simp⟩,by simp,by simp,by simp⟩,⟨1,by simp[he]⟩,by omega,⟨fun _ h=>by omega⟩⟩
 rintro i en st ⟨e0,e2,e4,e9,⟨es,hrow,hsh,hdp,hel⟩,⟨q4,s4⟩,hi,hA⟩ ih;have s4':=s4;rw[he]at s4'
 replace hk2:=Hd.mk hk2;replace hcl:=Hd.mk hcl;simp[e0,e2,e4,e9,s4'];refine aj (fun h=>?_) (fun h=>?_)<;>(have h':=h;try simp at h')<;>(try simp[*])
 ·have hl':p.kids.length<=9223372036854775807:=by have:=hk2.out;omega
  obtain⟨fl,hcall⟩:=hk p.kids[i] (gG h');have hb:=hbad i h' (fun j hj=>hA.out j hj (by omega));have hic:i<cs.length:=by have:=hcl.out;omega
  have hkie:=hci i h' hic;have hke:=p.kids[i].ay;have hA':(Pn.columns (s.map kT) env p.kids[i]).2=0->∀j (hj:j<i+1) (h:j<p.kids.length),(Pn.columns (s.map kT) env p.kids[j]).2=0:=fun g j hj h=>by
   rcases qP (qQ hj)with h2|h2
   ·exact hA.out j h2 h
   ·subst h2;exact g
  have htk:=dJ hic;rw[hkie]at htk
  replace hA':=Hd.mk hA';clear hkie;generalize Pn.columns (s.map kT) env p.kids[i]=kr at hcall hb htk hA';obtain⟨k1,k2⟩:=kr;simp only at hcall hb htk hA';rw[hke]at hcall
  simp only[hke];by_cases k0:k2=0
  ·subst k0;have hlen:es.length<=5864062014804:=by have:=hk2.out;omega
   rcases hrow with⟨r1,r2⟩|⟨r1,g,c,r2,r3⟩
   ·simp[hcall,e0,e2,e4,e9,s4',h',hke,r2];refine ih.out (i+1) _ _ ?_ (by omega);refine⟨by simp[e0],by simp[e2],by simp[e4],by simp[ai h' hl'],⟨es++[.sl fl (k1.map u8)],?_,?_,?_,?_⟩,⟨q4,by simp[s4',s4,he]⟩,h',⟨hA'.out rfl⟩⟩
    ·rw[r1];exact .inr ⟨by simp,(st 40).g+1,_,by simp,by simp;rfl⟩
    ·have hsh0:(cs.take i).map kX=[]:=by rw[<-hsh,r1];rfl
     rw[r1,htk,List.map_append,hsh0];simp
    ·rw[r1];simp
    ·simp[hel]
   ·simp[hcall,e0,e2,e4,e9,s4',h',hke,r2,r3,hlen];refine ih.out (i+1) _ _ ?_ (by omega);refine⟨by simp[e0],by simp[e2],by simp[e4],by simp[ai h' hl'],⟨es++[.sl fl (k1.map u8)],?_,?_,?_,?_⟩,⟨q4,by simp[s4',s4,he]⟩,h',⟨hA'.out rfl⟩⟩
    ·exact .inr ⟨by simp,g+1,_,by simp,by simp[r3];rfl⟩
    ·rw[htk,List.map_append,<-hsh,iQ,iQ];simp
    ·rw[bf]at hdp ⊢
     intro x hx;rcases List.mem_append.1 hx with hx|hx
     ·exact hdp x hx
     ·simp at hx;subst hx;simp
    ·simp[hel]
  ·have hE:=hb k0;subst hE;simp[hcall,e0,e2,e4,e9,s4',h',hke,k0]
 ·have hE:=hgood (fun j hj=>hA.out j (by omega) hj);have h64:=hc64 (fun j hj=>hA.out j (by omega) hj);have hc2:cs.length<=2:=by rw[hcl.out];exact hk2.out
  have hfull:cs.take i=cs:=wU (by rw[hcl.out];omega);rw[hfull]at hsh
  clear hbad hgood ih hA hci hc64 hfull hk;by_cases h1:p.op=1
  ·obtain⟨k0,q2,q3,q4',q5,q6⟩:=hse h1;have hsc:=sW s hst' p.table hpo.table;have hcs0:cs=[]:=SX (by rw[hcl.out,k0];rfl);subst hcs0;have hX:jB (s.map kT) (bT p.op []::env) p=([],0):=by unfold jB;rw[q2,q3];rfl
   have hN:bQ p.ah p.aA p.keys (bT p.op [])=0:=by rw[q4',q5,q6];rfl
   rw[hX,hN]at hE
   by_cases hn:(s.length:Int)<=p.table
   ·rw[if_pos ⟨h1,hn⟩]at hE
    rw[if_pos hn,if_pos hn]at hsc
    subst hE;simp[e0,e4,s4',h1,hsc]
   ·rw[if_neg (fun q=>hn q.2),if_pos rfl,if_pos rfl]at hE
    have hR:aQ (s.map kT) p.op p.table p.kinds p.ah p.aA [] (bT p.op []) []=((s.map kT).getD p.table.toNat [],0):=by unfold aQ;rw[if_neg (by omega),if_pos h1]
    rw[hR]at hE
    have hlt:((s.map kT).getD p.table.toNat []).length<=64:=by
     have h0:=hpo.table;have hj:p.table.toNat<s.length:=by omega
     have hg:(s.map kT).getD p.table.toNat []=kT s[p.table.toNat]:=by simp[hj]
     rw[hg];simp[kT];exact hst _ (gG hj)
    have hW:gM ((s.map kT).getD p.table.toNat [],0)=((s.map kT).getD p.table.toNat [],0):=if_neg (fun q=>by have:=q.2;simp only at this;omega);rw[hW]at hE
    rw[if_neg hn,if_neg hn]at hsc
    subst hE;simp[e0,e4,s4',h1,hsc]
  ·rw[if_neg (fun q=>h1 q.1)]at hE
   obtain⟨fr,hrw⟩:=CY p cs hc2 h64;have hown:=OJ p.op hcn;have hnum:=zi p hs hpo.aA (bT p.op cs);have hon:=CW (bT p.op cs) env henv;have hxo:=zh s (bT p.op cs::env) p hs (hc _ hown) (hx _ hown);have hrok:∀exprs:List Int,bQ p.ah p.aA p.keys (bT p.op cs)=0->exprs.length=p.exprs.length->MH s p cs (bT p.op cs) exprs:=fun exprs h2 h3=>by
    have hall:(p.ah.all (fun n=>decide (n<(bT p.op cs).length))&&(p.aA.all (fun a=>decide (a.fn=0)||decide (a.col<(bT p.op cs).length))&&p.keys.all (fun k=>decide (k.col<(bT p.op cs).length))))=true:=by
     unfold bQ at h2;split at h2
     ·assumption
     ·simp at h2
    simp only[bN,oH,decide_eq_true_eq,Bool.or_eq_true]at hall;refine⟨hs.op.1,hpo.op,by rw[hcl.out];exact hpo.kids,fun q=>absurd q h1,hst',fun _ n hn=>⟨hpo.ah n hn,hall.1 n hn⟩,fun _ a ha q=>⟨hpo.aA a ha,?_⟩,fun q=>by rw[h3,hpo.exprs q];omega,h64⟩;rcases hall.2.1 a ha with r|r
    ·omega
    ·exact r
   have hxl:(jB (s.map kT) (bT p.op cs::env) p).2=0->(jB (s.map kT) (bT p.op cs::env) p).1.length=p.exprs.length:=fun h=>by
    unfold jB at h ⊢;split
    ·rename_i h2;rw[if_pos h2]at h
     have hz:∀(f:Ex->Int×Int) (l:List Ex),(aF f l).2=0->(aF f l).1.length=l.length:=by
      intro f l;induction l with
      | nil=>intro _;rfl
      | cons a l ih=>
       intro h;unfold aF at h ⊢;split
       ·rename_i g;rw[if_pos g]at h
        split
        ·rename_i g2;simp[ih g2]
        ·rename_i g2;rw[if_neg g2]at h;exact absurd h g2
       ·rename_i g;rw[if_neg g]at h;exact absurd h g
     exact hz _ _ h
    ·rename_i h2;rw[if_neg h2]at h;exact absurd h h2
   have hres:bQ p.ah p.aA p.keys (bT p.op cs)=0->(jB (s.map kT) (bT p.op cs::env) p).2=0->_:=fun h2 h3=>G6 s p hs cs (bT p.op cs) _ (hrok _ h2 (hxl h3)) h1 hcn;rw[he]at hrw hnum hxo
   rw[he]at hres
   clear hrok hxl hc hx hse;generalize jB (s.map kT) (bT p.op cs::env) p=X at hE hxo hres;obtain⟨xs,xe⟩:=X;simp only at hE hxo hres;generalize bT p.op cs=own at hE hrw hnum hon hxo hres hown;generalize bQ p.ah p.aA p.keys own=N at hE hnum hres
   try simp only[ku]at hxo
   replace hE:=Hd.mk hE;by_cases hn:N=0
   ·subst hn;replace hE:=hE.out;rw[if_pos rfl]at hE
    by_cases hxe:xe=0
    ·subst hxe;rw[if_pos rfl]at hE
     obtain⟨fo,hres⟩:=hres rfl rfl;have hre:=JE (s.map kT) p.op p.table p.kinds p.ah p.aA cs own xs;generalize aQ (s.map kT) p.op p.table p.kinds p.ah p.aA cs own xs=R at hres hE hre;obtain⟨rc,rerr⟩:=R;simp only at hres hre;by_cases rz:rerr=0
     ·subst rz;by_cases r64:64<rc.length
      ·have hw:gM (rc,0)=([],2):=if_pos ⟨rfl,r64⟩;rw[hw]at hE
       subst hE;have r64':(64:Int)<rc.length:=by omega
       rcases hrow with⟨r1,r2⟩|⟨r1,g,c,r2,r3⟩
       ·have hsh0:(cs.map kX)=[]:=by rw[<-hsh,r1];rfl
        rw[hsh0]at hres hrw
        simp[hrw,hnum,hon,hxo,hres,e0,e2,e4,s4',h1,r2,r64,r64']
       ·simp[hrw,hnum,hon,hxo,hres,e0,e2,e4,s4',h1,r2,r3,hdp,hsh,r64,r64']
      ·have hw:gM (rc,0)=(rc,0):=if_neg (fun q=>r64 q.2);rw[hw]at hE
       subst hE;have r64':¬(64:Int)<rc.length:=by omega
       rcases hrow with⟨r1,r2⟩|⟨r1,g,c,r2,r3⟩
       ·have hsh0:(cs.map kX)=[]:=by rw[<-hsh,r1];rfl
        rw[hsh0]at hres hrw
        simp[hrw,hnum,hon,hxo,hres,e0,e2,e4,s4',h1,r2,r64,r64']
       ·simp[hrw,hnum,hon,hxo,hres,e0,e2,e4,s4',h1,r2,r3,hdp,hsh,r64,r64']
     ·have hw:gM (rc,rerr)=(rc,rerr):=if_neg (fun q=>rz q.1);have hrc:=hre rz;subst hrc;rw[hw]at hE
      subst hE;rcases hrow with⟨r1,r2⟩|⟨r1,g,c,r2,r3⟩
      ·have hsh0:(cs.map kX)=[]:=by rw[<-hsh,r1];rfl
       rw[hsh0]at hres hrw
       simp[hrw,hnum,hon,hxo,hres,e0,e2,e4,s4',h1,r2,rz]
      ·simp[hrw,hnum,hon,hxo,hres,e0,e2,e4,s4',h1,r2,r3,hdp,hsh,rz]
    ·rw[if_neg hxe]at hE
     subst hE;rcases hrow with⟨r1,r2⟩|⟨r1,g,c,r2,r3⟩
     ·have hsh0:(cs.map kX)=[]:=by rw[<-hsh,r1];rfl
      rw[hsh0]at hrw
      simp[hrw,hnum,hon,hxo,e0,e2,e4,s4',h1,r2,hxe]
     ·simp[hrw,hnum,hon,hxo,e0,e2,e4,s4',h1,r2,r3,hdp,hsh,hxe]
   ·replace hE:=hE.out;rw[if_neg hn]at hE
    subst hE;rcases hrow with⟨r1,r2⟩|⟨r1,g,c,r2,r3⟩
    ·have hsh0:(cs.map kX)=[]:=by rw[<-hsh,r1];rfl
     rw[hsh0]at hrw
     simp[hrw,hnum,hon,hxo,e0,e2,e4,s4',h1,r2,hn]
    ·simp[hrw,hnum,hon,hxo,e0,e2,e4,s4',h1,r2,r3,hdp,hsh,hn]
theorem jR(a b:Nat)(ha:a<=401)(hb:b<=401):∃m:Nat,call T yQ [i6 a,i6 b]=some (i6 m)/\m=min (a+b) 401:=by
 refine⟨_,?_,rfl⟩;refine q142g (by simp) ?_;generalize hm:min (a+b) 401=m;have hw:IntKind.i64.wrap ((a:Int)+(b:Int))=((a+b:Nat):Int):=by rw[jv (by omega) (by omega)];omega
 replace hm:=Hd.mk hm;simp[hw];refine aj (fun h=>?_) (fun h=>?_)<;>(have h':=h;try simp at h')<;>(try simp[*])
 ·have:=hm.out;omega
 ·have:=hm.out;omega
def SzE(f:Nat)(x:X)(n:Nat):Prop:=∃m:Nat,call T f [x]=some (i6 m)/\m=min n 401
theorem Ze:(∀e:Ex,e.small->SzE BP e.enc e.size)/\(∀p:Pn,p.small->SzE Jk p.enc p.size):=by
 refine d9 (fun x h1 h2 hs=>?_) (fun x h1 h2 h3 hs=>?_)
 ·have hs':=Ex.dH hs;have hkkids:=fun k hk=>h1 k hk (hs'.kid k hk);have hksub:=fun k hk=>h2 k hk (hs'.subs k hk);have hlkids:x.kids.length<=9223372036854775807:=iq hs'.kids (by decide);have hlsub:x.sub.length<=9223372036854775807:=iq hs'.sub (by decide);have he:=x.ay;have hsz:=Ex.size_eq x;refine⟨_,?_,rfl⟩;generalize hM:min x.size 401=M;refine q133g (by simp) ?_;have loop2:∀(en:Env) (s:ax) (q n:Nat),en 1=.ptr 1 1 0->en 5=i6 (0:Nat)->en 3=i6 n->n=min (1+aS Pn.size x.sub) 401->s 1=⟨1,true,some (.box x.enc),q⟩->
   wp T [It.lp K9,It.bl 2,It.code ((IC.ops Fy).seq IC.ret)] en s (fun e' s'=>aC e' s' [gQ.tmp 2]=some (i6 M)):=by
   intro en s q n e1 e4 e3 hn s1;refine av (σ:=Nat) (fun i en s=>en 1=.ptr 1 1 0/\en 5=i6 i/\(∃n:Nat,en 3=i6 n/\n=min (1+aS Pn.size x.sub+aS Ex.size (x.kids.take i)) 401)/\(∃q,s 1=⟨1,true,some (.box x.enc),q⟩)/\i<=x.kids.length) (fun i=>x.kids.length-i) ?_ 0 _ _
    ⟨e1,e4,⟨n,e3,by simp[aS,hn]⟩,⟨q,s1⟩,by omega⟩
   rintro i en s ⟨e1,e4,⟨n,e3,hn⟩,⟨q,s1⟩,hi⟩ ih;have hle:=kY (f:=Ex.size) (l:=x.kids) (i:=i);have s1':=s1;rw[he]at s1
   replace hn:=Hd.mk hn;simp[e1,e4,e3,s1];refine bg (fun h=>?_) (fun h=>?_)<;>(have h':=h;try simp at h')<;>(try simp[*])
   ·refine aj (fun h2=>?_) (fun h2=>?_)<;>(have h2':=h2;try simp at h2')<;>(try simp[*])
    ·obtain⟨m,hc,hm⟩:=hkkids x.kids[i] (gG h');obtain⟨m',hc',hm'⟩:=jR n m (by omega) (by omega);have hst:=jc (f:=Ex.size) h';have hke:=x.kids[i].ay;rw[hke]at hc
     simp only[hke];simp[hc,hc',e1,e4,e3,s1];refine ih.out (i+1) _ _ ?_ (by omega);exact⟨by simp[e1],by simp[ai h' hlkids],⟨m',by simp,by rw[hm',hm,hst];have:=hn.out;omega⟩,⟨q,by simp[s1',s1,he]⟩,h'⟩
    ·have hn':n=min (1+aS Pn.size x.sub+aS Ex.size x.kids) 401:=by have:=hn.out;omega
     (try simp[e3]);rw[<-hM,hn',hsz];omega
   ·have hn':n=min (1+aS Pn.size x.sub+aS Ex.size x.kids) 401:=by
     have:=hn.out;rw[kR (by omega)]at this
     exact this
    (try simp[e3]);rw[<-hM,hn',hsz];omega
  have loop1:∀(en:Env) (s:ax) (q n:Nat),en 1=.ptr 1 1 0->en 4=i6 (0:Nat)->en 3=i6 n->n=min (1) 401->s 1=⟨1,true,some (.box x.enc),q⟩->
   wp T [It.lp TN,It.bl 0,It.code (((IC.ops TP).seq (IC.block 2 (IC.loop K9))).seq ((IC.ops Fy).seq IC.ret))] en s (fun e' s'=>aC e' s' [gQ.tmp 2]=some (i6 M)):=by
   intro en s q n e1 e4 e3 hn s1;refine av (σ:=Nat) (fun i en s=>en 1=.ptr 1 1 0/\en 4=i6 i/\(∃n:Nat,en 3=i6 n/\n=min (1+aS Pn.size (x.sub.take i)) 401)/\(∃q,s 1=⟨1,true,some (.box x.enc),q⟩)/\i<=x.sub.length) (fun i=>x.sub.length-i) ?_ 0 _ _
    ⟨e1,e4,⟨n,e3,by simp[aS,hn]⟩,⟨q,s1⟩,by omega⟩
   rintro i en s ⟨e1,e4,⟨n,e3,hn⟩,⟨q,s1⟩,hi⟩ ih;have hle:=kY (f:=Pn.size) (l:=x.sub) (i:=i);have s1':=s1;rw[he]at s1
   replace hn:=Hd.mk hn;simp[e1,e4,e3,s1];refine bg (fun h=>?_) (fun h=>?_)<;>(have h':=h;try simp at h')<;>(try simp[*])
   ·refine aj (fun h2=>?_) (fun h2=>?_)<;>(have h2':=h2;try simp at h2')<;>(try simp[*])
    ·obtain⟨m,hc,hm⟩:=hksub x.sub[i] (gG h');obtain⟨m',hc',hm'⟩:=jR n m (by omega) (by omega);have hst:=jc (f:=Pn.size) h';have hke:=x.sub[i].ay;rw[hke]at hc
     simp only[hke];simp[hc,hc',e1,e4,e3,s1];refine ih.out (i+1) _ _ ?_ (by omega);exact⟨by simp[e1],by simp[ai h' hlsub],⟨m',by simp,by rw[hm',hm,hst];have:=hn.out;omega⟩,⟨q,by simp[s1',s1,he]⟩,h'⟩
    ·have hn':n=min (1+aS Pn.size x.sub) 401:=by have:=hn.out;omega
     exact loop2 _ _ q n (by simp[e1]) (by simp) (by simp[e3]) hn' (by simp[s1',s1,he])
   ·have hn':n=min (1+aS Pn.size x.sub) 401:=by
     have:=hn.out;rw[kR (by omega)]at this
     exact this
    exact loop2 _ _ q n (by simp[e1]) (by simp) (by simp[e3]) hn' (by simp[s1',s1,he])
  rw[he];simp;exact loop1 _ _ 1 1 (by simp) (by simp) (by simp) (by omega) (by simp[he])
 ·have hs':=Pn.dH hs;have hkkids:=fun k hk=>h1 k hk (hs'.kid k hk);have hkconds:=fun k hk=>h2 k hk (hs'.cond k hk);have hkexprs:=fun k hk=>h3 k hk (hs'.expr k hk);have hlkids:x.kids.length<=9223372036854775807:=iq hs'.kids (by decide);have hlconds:x.conds.length<=9223372036854775807:=iq hs'.conds (by decide);have hlexprs:x.exprs.length<=9223372036854775807:=iq hs'.exprs (by decide);have he:=x.ay;have hsz:=Pn.size_eq x;refine⟨_,?_,rfl⟩;generalize hM:min x.size 401=M;refine q132g (by simp) ?_;have loop3:∀(en:Env) (s:ax) (q n:Nat),en 1=.ptr 1 1 0->en 6=i6 (0:Nat)->en 3=i6 n->n=min (1+aS Pn.size x.kids+aS Ex.size x.conds) 401->s 1=⟨1,true,some (.box x.enc),q⟩->
   wp T [It.lp Fv,It.bl 4,It.code ((IC.ops zV).seq IC.ret)] en s (fun e' s'=>aC e' s' [gQ.tmp 2]=some (i6 M)):=by
   intro en s q n e1 e4 e3 hn s1;refine av (σ:=Nat) (fun i en s=>en 1=.ptr 1 1 0/\en 6=i6 i/\(∃n:Nat,en 3=i6 n/\n=min (1+aS Pn.size x.kids+aS Ex.size x.conds+aS Ex.size (x.exprs.take i)) 401)/\(∃q,s 1=⟨1,true,some (.box x.enc),q⟩)/\i<=x.exprs.length) (fun i=>x.exprs.length-i) ?_ 0 _ _
    ⟨e1,e4,⟨n,e3,by simp[aS,hn]⟩,⟨q,s1⟩,by omega⟩
   rintro i en s ⟨e1,e4,⟨n,e3,hn⟩,⟨q,s1⟩,hi⟩ ih;have hle:=kY (f:=Ex.size) (l:=x.exprs) (i:=i);have s1':=s1;rw[he]at s1
   replace hn:=Hd.mk hn;simp[e1,e4,e3,s1];refine bg (fun h=>?_) (fun h=>?_)<;>(have h':=h;try simp at h')<;>(try simp[*])
   ·refine aj (fun h2=>?_) (fun h2=>?_)<;>(have h2':=h2;try simp at h2')<;>(try simp[*])
    ·obtain⟨m,hc,hm⟩:=hkexprs x.exprs[i] (gG h');obtain⟨m',hc',hm'⟩:=jR n m (by omega) (by omega);have hst:=jc (f:=Ex.size) h';have hke:=x.exprs[i].ay;rw[hke]at hc
     simp only[hke];simp[hc,hc',e1,e4,e3,s1];refine ih.out (i+1) _ _ ?_ (by omega);exact⟨by simp[e1],by simp[ai h' hlexprs],⟨m',by simp,by rw[hm',hm,hst];have:=hn.out;omega⟩,⟨q,by simp[s1',s1,he]⟩,h'⟩
    ·have hn':n=min (1+aS Pn.size x.kids+aS Ex.size x.conds+aS Ex.size x.exprs) 401:=by have:=hn.out;omega
     (try simp[e3]);rw[<-hM,hn',hsz]
   ·have hn':n=min (1+aS Pn.size x.kids+aS Ex.size x.conds+aS Ex.size x.exprs) 401:=by
     have:=hn.out;rw[kR (by omega)]at this
     exact this
    (try simp[e3]);rw[<-hM,hn',hsz]
  have loop2:∀(en:Env) (s:ax) (q n:Nat),en 1=.ptr 1 1 0->en 5=i6 (0:Nat)->en 3=i6 n->n=min (1+aS Pn.size x.kids) 401->s 1=⟨1,true,some (.box x.enc),q⟩->
   wp T [It.lp K8,It.bl 2,It.code (((IC.ops Fw).seq (IC.block 4 (IC.loop Fv))).seq ((IC.ops zV).seq IC.ret))] en s (fun e' s'=>aC e' s' [gQ.tmp 2]=some (i6 M)):=by
   intro en s q n e1 e4 e3 hn s1;refine av (σ:=Nat) (fun i en s=>en 1=.ptr 1 1 0/\en 5=i6 i/\(∃n:Nat,en 3=i6 n/\n=min (1+aS Pn.size x.kids+aS Ex.size (x.conds.take i)) 401)/\(∃q,s 1=⟨1,true,some (.box x.enc),q⟩)/\i<=x.conds.length) (fun i=>x.conds.length-i) ?_ 0 _ _
    ⟨e1,e4,⟨n,e3,by simp[aS,hn]⟩,⟨q,s1⟩,by omega⟩
   rintro i en s ⟨e1,e4,⟨n,e3,hn⟩,⟨q,s1⟩,hi⟩ ih;have hle:=kY (f:=Ex.size) (l:=x.conds) (i:=i);have s1':=s1;rw[he]at s1
   replace hn:=Hd.mk hn;simp[e1,e4,e3,s1];refine bg (fun h=>?_) (fun h=>?_)<;>(have h':=h;try simp at h')<;>(try simp[*])
   ·refine aj (fun h2=>?_) (fun h2=>?_)<;>(have h2':=h2;try simp at h2')<;>(try simp[*])
    ·obtain⟨m,hc,hm⟩:=hkconds x.conds[i] (gG h');obtain⟨m',hc',hm'⟩:=jR n m (by omega) (by omega);have hst:=jc (f:=Ex.size) h';have hke:=x.conds[i].ay;rw[hke]at hc
     simp only[hke];simp[hc,hc',e1,e4,e3,s1];refine ih.out (i+1) _ _ ?_ (by omega);exact⟨by simp[e1],by simp[ai h' hlconds],⟨m',by simp,by rw[hm',hm,hst];have:=hn.out;omega⟩,⟨q,by simp[s1',s1,he]⟩,h'⟩
    ·have hn':n=min (1+aS Pn.size x.kids+aS Ex.size x.conds) 401:=by have:=hn.out;omega
     exact loop3 _ _ q n (by simp[e1]) (by simp) (by simp[e3]) hn' (by simp[s1',s1,he])
   ·have hn':n=min (1+aS Pn.size x.kids+aS Ex.size x.conds) 401:=by
     have:=hn.out;rw[kR (by omega)]at this
     exact this
    exact loop3 _ _ q n (by simp[e1]) (by simp) (by simp[e3]) hn' (by simp[s1',s1,he])
  have loop1:∀(en:Env) (s:ax) (q n:Nat),en 1=.ptr 1 1 0->en 4=i6 (0:Nat)->en 3=i6 n->n=min (1) 401->s 1=⟨1,true,some (.box x.enc),q⟩->
   wp T [It.lp TL,It.bl 0,It.code (((IC.ops TM).seq (IC.block 2 (IC.loop K8))).seq (((IC.ops Fw).seq (IC.block 4 (IC.loop Fv))).seq ((IC.ops zV).seq IC.ret)))] en s (fun e' s'=>aC e' s' [gQ.tmp 2]=some (i6 M)):=by
   intro en s q n e1 e4 e3 hn s1;refine av (σ:=Nat) (fun i en s=>en 1=.ptr 1 1 0/\en 4=i6 i/\(∃n:Nat,en 3=i6 n/\n=min (1+aS Pn.size (x.kids.take i)) 401)/\(∃q,s 1=⟨1,true,some (.box x.enc),q⟩)/\i<=x.kids.length) (fun i=>x.kids.length-i) ?_ 0 _ _
    ⟨e1,e4,⟨n,e3,by simp[aS,hn]⟩,⟨q,s1⟩,by omega⟩
   rintro i en s ⟨e1,e4,⟨n,e3,hn⟩,⟨q,s1⟩,hi⟩ ih;have hle:=kY (f:=Pn.size) (l:=x.kids) (i:=i);have s1':=s1;rw[he]at s1
   replace hn:=Hd.mk hn;simp[e1,e4,e3,s1];refine bg (fun h=>?_) (fun h=>?_)<;>(have h':=h;try simp at h')<;>(try simp[*])
   ·refine aj (fun h2=>?_) (fun h2=>?_)<;>(have h2':=h2;try simp at h2')<;>(try simp[*])
    ·obtain⟨m,hc,hm⟩:=hkkids x.kids[i] (gG h');obtain⟨m',hc',hm'⟩:=jR n m (by omega) (by omega);have hst:=jc (f:=Pn.size) h';have hke:=x.kids[i].ay;rw[hke]at hc
     simp only[hke];simp[hc,hc',e1,e4,e3,s1];refine ih.out (i+1) _ _ ?_ (by omega);exact⟨by simp[e1],by simp[ai h' hlkids],⟨m',by simp,by rw[hm',hm,hst];have:=hn.out;omega⟩,⟨q,by simp[s1',s1,he]⟩,h'⟩
    ·have hn':n=min (1+aS Pn.size x.kids) 401:=by have:=hn.out;omega
     exact loop2 _ _ q n (by simp[e1]) (by simp) (by simp[e3]) hn' (by simp[s1',s1,he])
   ·have hn':n=min (1+aS Pn.size x.kids) 401:=by
     have:=hn.out;rw[kR (by omega)]at this
     exact this
    exact loop2 _ _ q n (by simp[e1]) (by simp) (by simp[e3]) hn' (by simp[s1',s1,he])
  rw[he];simp;exact loop1 _ _ 1 1 (by simp) (by simp) (by simp) (by omega) (by simp[he])
theorem LQ(s:List fZ)(hst:∀t∈s,t.ah.length<=64)(hsn:∀r∈s.map kT,nn r) :
 (∀e:Ex,e.small->e.formed=true->∀env:List (List Int),(∀r∈env,nn r)->env.length+e.depth<=5864062014804->oq s env e)/\
 (∀p:Pn,p.small->p.formed=true->∀env:List (List Int),(∀r∈env,nn r)->env.length+p.depth<=5864062014804->Dt s env p):=by
 have hnb:=WY hsn;refine d9 (fun e h1 h2 hs hf env hv hd=>?_) (fun x h1 h2 h3 hs hf env hv hd=>?_)
 ·have hs':=Ex.dH hs;have hf':=jI hf;exact LM s env e hs' hf (fun k hk=>h1 k hk (hs'.kid k hk) (hf'.2.1 k hk) env hv (by have:=MW hk;omega)) (fun k hk=>hnb.1 k (hs'.kid k hk) env hv) (fun k hk=>h2 k hk (hs'.subs k hk) (hf'.2.2 k hk) env hv (by have:=MX hk;omega))
 ·have hs':=Pn.dH hs;have hf':=lG hf;have hv':∀own,nn own->∀r∈own::env,nn r:=fun own ho r hr=>by
   rcases List.mem_cons.1 hr with rfl|hr
   ·exact ho
   ·exact hv r hr
  exact LD s hst env (by omega) x hs' hf (fun k hk=>h1 k hk (hs'.kid k hk) (hf'.2.1 k hk) env hv (by have:=H6 hk;omega)) (fun k hk=>hnb.2 k (hs'.kid k hk) env hv)
   (fun own ho k hk=>h2 k hk (hs'.cond k hk) (hf'.2.2.1 k hk) (own::env) (hv' own ho) (by have:=HY hk;simp;omega))
   (fun own ho k hk=>h3 k hk (hs'.expr k hk) (hf'.2.2.2 k hk) (own::env) (hv' own ho) (by have:=HZ hk;simp;omega))
set_option maxHeartbeats 1000000 in
theorem um(env:List (List Int))(he:vS env):call T NQ [.sl false (env.map kX)]=some (.v (.bool (env.all aX))):=by
 refine q144g (by simp) ?_;have hl:env.length<=1099511627776:=he.1;have hl':env.length<=9223372036854775807:=by omega
 have hbad:∀i (h:i<env.length),aX env[i]=false->env.all aX=false:=fun i h g=>dz h g;have hgood:(∀i (h:i<env.length),aX env[i]=true)->env.all aX=true:=bH;generalize env.all aX=R at hbad hgood ⊢;simp;refine av (σ:=Nat) (fun i e s=>e 0=.sl false (env.map kX)/\e 3=i6 i/\i<=env.length/\Hd (∀j (hj:j<i) (h:j<env.length),aX env[j]=true)) (fun i=>env.length-i) ?_ 0 _ _ ⟨by simp,by simp,by omega,⟨fun _ h=>by omega⟩⟩;rintro i e s ⟨e0,e3,hi,hA⟩ ih;simp[e0,e3];refine aj (fun h=>?_) (fun h=>?_)<;>(have h':=h;try simp at h')<;>(try simp[*])
 ·have hb:=hbad i h';have hll:env[i].length<=1099511627776:=he.2 _ (gG h');have hll':env[i].length<=9223372036854775807:=by omega
  have hg:Hd (aX env[i]=true->∀j (hj:j<i+1) (h:j<env.length),aX env[j]=true):=⟨fun g j hj h=>by
   rcases qP (qQ hj)with h2|h2
   ·exact hA.out j h2 h
   ·subst h2;exact g⟩
  have hb2:Hd (∀j (hj:j<env[i].length),¬env[i][j]<=3->R=false):=⟨fun j hj g=>hb (dz (p:=fun k=>decide (k<=3)) hj (by simpa using g))⟩
  replace ih:=Hd.mk ih;refine av (σ:=Nat) (fun j e s=>e 0=.sl false (env.map kX)/\e 3=i6 i/\e 4=i6 j/\j<=env[i].length/\Hd (∀q (hq:q<j) (h:q<env[i].length),decide (env[i][q]<=3)=true)) (fun j=>env[i].length-j) ?_ 0 _ _ ⟨by simp[e0],by simp[e3],by simp,by omega,⟨fun _ h=>by omega⟩⟩;rintro j e s ⟨e0,e3,e4,hj,hB⟩ ih2;simp[e0,e3,e4,h'];refine aj (fun g=>?_) (fun g=>?_)<;>(have g':=g;try simp at g')<;>(try simp[*])
  ·by_cases k:env[i][j]<=3
   ·have k':¬3<env[i][j]:=by omega
    have hB':∀q (hq:q<j+1) (h:q<env[i].length),decide (env[i][q]<=3)=true:=fun q hq h=>by
     rcases qP (qQ hq)with h2|h2
     ·exact hB.out q h2 h
     ·subst h2;simpa using k
    simp[e0,e3,e4,h',g',k'];refine ih2.out (j+1) _ _ ?_ (by omega);exact⟨by simp[e0],by simp[e3],by simp[ai g' hll'],g',⟨hB'⟩⟩
   ·have k':3<env[i][j]:=by omega
    have hR:=hb2.out j g' k;subst hR;simp[e0,e3,e4,h',g',k']
  ·have hkb:aX env[i]=true:=bH (p:=fun k=>decide (k<=3)) (fun q hq=>hB.out q (by omega) hq)
   try simp[e0,e3,e4]
   refine ih.out.out (i+1) _ _ ?_ (by omega);exact⟨by simp[e0],by simp[ai h' hl'],h',⟨hg.out hkb⟩⟩
 ·have hR:=hgood (fun j hj=>hA.out j (by omega) hj);subst hR;simp
theorem EG(s:List fZ)(hval:call T BN [kN s]=some (.v (.bool (bP (fV s)))))(hst:fV s->∀t∈s,t.ah.length<=64)(hsn:∀r∈s.map kT,nn r)(env:List (List Int))(hv:vS env)(hvn:∀r∈env,nn r)(e:Ex)(he:e.small):call T Jj [kN s,e.enc,.sl false (env.map kX)]=some (.cZ [u8 (fT s env e).1,i6 (fT s env e).2]):=by
 refine q130g (by simp) ?_;obtain⟨m,hsz,hm⟩:=Ze.1 e he;have hfo:=Cm.1 e he;have hke:=um env hv;have hk:fV s->¬400<m->¬400<env.length->e.formed=true->oq s env e:=fun h h4 h5 hf=>by have:=H7.1 e;exact(LQ s (hst h) hsn).1 e he hf env hvn (by omega)
 unfold oq at hk;unfold fT tV;have hee:=e.ay;rw[<-hm];generalize e.formed=F at hfo hk ⊢;generalize e.kind (s.map kT) env=E at hk ⊢;obtain⟨E1,E2⟩:=E;simp only at hk;rw[hee]at hsz hfo hk ⊢
 by_cases hS:fV s
 ·have hbp:bP (fV s)=true:=Ez.2 hS;rw[hbp]at hval ⊢
  generalize env.all aX=B at hke ⊢;cases B
  ·simp[hval,hke]
  ·replace hk:=hk hS;by_cases h4:400<m
   ·have h4':(400:Int)<m:=by omega
    simp[hval,hke,hsz,h4,h4']
   ·have h4':¬(400:Int)<m:=by omega
    by_cases h5:400<env.length
    ·have h5':(400:Int)<env.length:=by omega
     simp[hval,hke,hsz,h4,h4',h5,h5']
    ·have h5':¬(400:Int)<env.length:=by omega
     replace hk:=hk h4 h5;cases F
     ·simp[hval,hke,hsz,hfo,h4,h4',h5,h5']
     ·have hk:=hk rfl;simp[hval,hke,hsz,hfo,hk,h4,h4',h5,h5']
 ·have hbp:bP (fV s)=false:=by
   cases hb:bP (fV s)
   ·rfl
   ·exact absurd (Ez.1 hb) hS
  rw[hbp]at hval ⊢
  simp[hval]
end Go.Proofs.YtbmkfjmlepjpfaaGreatDoor
