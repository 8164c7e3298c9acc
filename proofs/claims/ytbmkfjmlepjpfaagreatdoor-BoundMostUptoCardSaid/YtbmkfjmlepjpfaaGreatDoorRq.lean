/- A part of the proof. -/
import Derived.Test.YtbmkfjmlepjpfaaGreatDoorMm
import Derived.Test.YtbmkfjmlepjpfaaGreatDoorRp
import Derived.Test.YtbmkfjmlepjpfaaGreatDoorEa
set_option linter.all false
set_option maxRecDepth 100000
namespace Go.Proofs.YtbmkfjmlepjpfaaGreatDoor
open Go.RowKit
theorem yA(a b:Int):call T J_ [u8 a,u8 b]=some (u8 (if a=0 then b else a)):=by
 refine q122g (by simp) ?_;by_cases h:a=0
 ·simp[h]
 ·simp[h]
theorem Am(row:List Int)(env:List (List Int))(h1:env.length<=5864062014804):call T Ka [kX row,.sl false (env.map kX)]=some (.sl true (kX row::env.map kX)):=by
 refine q125g (by simp) ?_;have hl':env.length<=9223372036854775807:=by omega
 simp;refine av (σ:=Nat) (fun i e s=>e 1=.sl false (env.map kX)/\e 6=i6 i/\(∃g c,e 5=.ref 8 g 1 0 (i+1)/\s 8=⟨g,true,some (.row 1 (kX row::(env.map kX).take i)),c⟩)/\i<=env.length) (fun i=>env.length-i) ?_ 0 _ _
  ⟨by simp,by simp,⟨1,1,by simp,by simp⟩,by omega⟩
 rintro i e s ⟨e1,e6,⟨g,c,e5,s8⟩,hi⟩ ih;simp[e1,e6,e5];refine aj (fun h=>?_) (fun h=>?_)<;>(have h':=h;try simp at h')<;>(try simp[*])
 ·have htk:(env.map kX).take (i+1)=(env.map kX).take i++[kX env[i]]:=by rw[cZ (by simpa using h')];simp
  have hlt:((env.map kX).take i).length=i:=by simp;omega
  generalize (env.map kX).take i=pre at htk hlt s8 ⊢
  try simp[e1,e6,e5,s8,h',hlt,show i<=5864062014803 by omega]
  refine ih.out (i+1) _ _ ?_ (by omega);exact⟨by simp[e1],by simp[ai h' hl'],⟨g+1,_,by simp,by rw[htk];simp[s8];rfl⟩,h'⟩
 ·have hfull:(env.map kX).take i=env.map kX:=List.take_of_length_le (by simp;omega);have hin:i=env.length:=by omega
  rw[hfull]at s8
  subst hin;simp[e5,s8]
theorem oV(a b:List Int)(ha:a.length<=1099511627776)(hb:b.length<=1099511627776):call T Fv [kX a,kX b]=some (.sl true ((a++b).map u8)):=by
 refine q128g (by simp) ?_;have hla:a.length<=9223372036854775807:=by omega
 have hlb:b.length<=9223372036854775807:=by omega
 generalize hF:a++b=F;replace hF:=Hd.mk hF;have loop2:∀(en:Env) (st:ay),en 1=kX b->en 7=i6 (0:Nat)->ny st 20 33 (en 5) a->wp T [It.lp PU,It.bl 2,It.code ((IC.ops Kc).seq IC.ret)] en st (fun e s=>aC e s [fI.tmp 4]=some (.sl true (F.map u8))):=by
  intro en st e1 e7 hrow;refine av (σ:=Nat) (fun i e s=>e 1=kX b/\e 7=i6 i/\ny s 20 33 (e 5) (a++b.take i)/\i<=b.length) (fun i=>b.length-i) ?_ 0 _ _
   ⟨e1,e7,by rw[List.take_zero,List.append_nil];exact hrow,by omega⟩
  rintro i e s ⟨e1,e7,hrow,hi⟩ ih;simp[e1,e7];refine aj (fun h=>?_) (fun h=>?_)<;>(have h':=h;try simp at h')<;>(try simp[*])
  ·have htk:=cZ h';have hln:(a++b.take i).length<=140737488355327:=by simp;omega
   have hap:a++b.take (i+1)=(a++b.take i)++[b[i]]:=by rw[htk,List.append_assoc]
   generalize a++b.take i=es at hrow hln hap;rcases hrow with⟨r1,r2⟩|⟨r1,o,g,c,ro,r2,r3⟩
   ·simp[e1,e7,h',r2];refine ih.out (i+1) _ _ ?_ (by omega);refine⟨by simp[e1],by simp[ai h' hlb],?_,h'⟩;rw[hap,r1];exact .inr ⟨by simp,33,(s 33).g+1,_,.inr rfl,by simp,by simp;rfl⟩
   ·rcases ro with rfl|rfl
    ·simp[e1,e7,h',r2,r3,hln];refine ih.out (i+1) _ _ ?_ (by omega);refine⟨by simp[e1],by simp[ai h' hlb],?_,h'⟩;rw[hap];exact .inr ⟨by simp,20,g+1,_,.inl rfl,by simp,by simp[r3];rfl⟩
    ·simp[e1,e7,h',r2,r3,hln];refine ih.out (i+1) _ _ ?_ (by omega);refine⟨by simp[e1],by simp[ai h' hlb],?_,h'⟩;rw[hap];exact .inr ⟨by simp,33,g+1,_,.inr rfl,by simp,by simp[r3];rfl⟩
  ·have hfull:b.take i=b:=List.take_of_length_le (by omega);rw[hfull,hF.out]at hrow
   rcases hrow with⟨r1,r2⟩|⟨r1,o,g,c,ro,r2,r3⟩
   ·simp[r2,r1]
   ·rcases ro with rfl|rfl
    ·simp[r2,r3]
    ·simp[r2,r3]
 simp;refine av (σ:=Nat) (fun i e s=>e 0=kX a/\e 1=kX b/\e 6=i6 i/\ny s 20 33 (e 5) (a.take i)/\i<=a.length) (fun i=>a.length-i) ?_ 0 _ _
  ⟨by simp,by simp,by simp,.inl ⟨by simp,by simp⟩,by omega⟩
 rintro i e s ⟨e0,e1,e6,hrow,hi⟩ ih;simp[e0,e1,e6];refine aj (fun h=>?_) (fun h=>?_)<;>(have h':=h;try simp at h')<;>(try simp[*])
 ·have htk:=cZ h';have hln:(a.take i).length<=140737488355327:=by simp;omega
  generalize a.take i=es at hrow hln htk;rcases hrow with⟨r1,r2⟩|⟨r1,o,g,c,ro,r2,r3⟩
  ·simp[e0,e1,e6,h',r2];refine ih.out (i+1) _ _ ?_ (by omega);refine⟨by simp[e0],by simp[e1],by simp[ai h' hla],?_,h'⟩;rw[htk,r1];exact .inr ⟨by simp,20,(s 20).g+1,_,.inl rfl,by simp,by simp;rfl⟩
  ·rcases ro with rfl|rfl
   ·simp[e0,e1,e6,h',r2,r3,hln];refine ih.out (i+1) _ _ ?_ (by omega);refine⟨by simp[e0],by simp[e1],by simp[ai h' hla],?_,h'⟩;rw[htk];exact .inr ⟨by simp,20,g+1,_,.inl rfl,by simp,by simp[r3];rfl⟩
   ·simp[e0,e1,e6,h',r2,r3,hln];refine ih.out (i+1) _ _ ?_ (by omega);refine⟨by simp[e0],by simp[e1],by simp[ai h' hla],?_,h'⟩;rw[htk];exact .inr ⟨by simp,33,g+1,_,.inr rfl,by simp,by simp[r3];rfl⟩
 ·have hfull:a.take i=a:=List.take_of_length_le (by omega);rw[hfull]at hrow
  try simp[e0,e1,e6]
  refine loop2 _ _ (by simp[e1]) (by simp) ?_;simpa[ny]using hrow
theorem Ap(p:Pn)(kids:List (List Int))(h:kids.length<=2)(hl:∀k∈kids,k.length<=64):∃fl,call T Kv [p.enc,.sl false (kids.map kX)]=some (.sl fl ((bH p.op kids).map u8)):=by
 have he:=p.aB;rcases JO h with rfl|⟨a,rfl⟩|⟨a,b,rfl⟩
 ·refine⟨true,Ku (by simp) ?_⟩;simp[he,bH]
 ·refine⟨false,Ku (by simp) ?_⟩;by_cases h9:p.op=9
  ·simp[he,bH,h9]
  ·simp[he,bH,h9]
 ·by_cases h9:p.op=9
  ·refine⟨false,Ku (by simp) ?_⟩;simp[he,bH,h9]
  ·refine⟨true,Ku (by simp) ?_⟩;have ha:=hl a (by simp);have hb:=hl b (by simp);have hj:=oV a b (by omega) (by omega);simp[he,bH,h9,hj];rw[<-List.map_append];exact Eh _
theorem qI(s:List eT)(hst:∀t∈s,aS t.ah)(n:Int)(hn:0<=n):call T Kw [jO s,i6 n]=some (.bU [.sl true ((if s.length<=n then []else(s.map kT).getD n.toNat []).map u8),i6 (if s.length<=n then 81 else 0)]):=by
 refine q149g (by simp) ?_;by_cases hs:(s.length:Int)<=n
 ·simp[hs]
 obtain⟨j,rfl⟩:∃j:Nat,n=j:=⟨n.toNat,by omega⟩
 have hjs:j<s.length:=by omega
 have hg:(s.map kT).getD ((j:Int)).toNat []=kT s[j]:=by simp[hjs]
 rw[if_neg hs,if_neg hs,hg];have htl:s[j].ah.length<=1099511627776:=hst s[j] (List.getElem_mem hjs);have hl':s[j].ah.length<=9223372036854775807:=by omega
 have hs':¬s.length<=j:=by omega
 simp[hs,hs'];refine av (σ:=Nat) (fun i e st=>e 0=jO s/\e 1=i6 j/\e 7=i6 i/\iU st 33 (e 6) ((kT s[j]).take i)/\i<=s[j].ah.length) (fun i=>s[j].ah.length-i) ?_ 0 _ _
  ⟨by simp,by simp,by simp,.inl ⟨by simp,by simp⟩,by omega⟩
 rintro i e st ⟨e0,e1,e7,hrow,hi⟩ ih;simp[e0,e1,e7,hjs];refine aj (fun h=>?_) (fun h=>?_)<;>(have h':=h;try simp at h')<;>(try simp[*])
 ·have hkl:i<(kT s[j]).length:=by simp[kT];exact h'
  have hst:=cZ hkl;have hel:(kT s[j])[i]=s[j].ah[i].kind:=by simp[kT]
  rw[hel]at hst
  have hln:((kT s[j]).take i).length<=140737488355327:=by simp[kT];omega
  generalize (kT s[j]).take i=es at hst hln hrow;rcases hrow with⟨r1,r2⟩|⟨r1,g,c,r2,r3⟩
  ·simp[e0,e1,e7,hjs,h',r2];refine ih.out (i+1) _ _ ?_ (by omega);refine⟨by simp[e0],by simp[e1],by simp[ai h' hl'],?_,h'⟩;rw[hst,r1];exact .inr ⟨by simp,(st 33).g+1,_,by simp,by simp;rfl⟩
  ·simp[e0,e1,e7,hjs,h',r2,r3,hln];refine ih.out (i+1) _ _ ?_ (by omega);refine⟨by simp[e0],by simp[e1],by simp[ai h' hl'],?_,h'⟩;rw[hst];exact .inr ⟨by simp,g+1,_,by simp,by simp[r3];rfl⟩
 ·have hfull:(kT s[j]).take i=kT s[j]:=List.take_of_length_le (by simp[kT];omega);rw[hfull]at hrow
  rcases hrow with⟨r1,r2⟩|⟨r1,g,c,r2,r3⟩
  ·simp[r2,r1]
  ·simp[r2,r3]
def Sd(own:List Int)(n:Int):Bool:=decide (n<own.length)
def NM(own:List Int)(k:Ky):Bool:=decide (k.col<own.length)
set_option maxHeartbeats 2000000 in
theorem xk(p:Pn)(hs:p.je)(hfa:∀a∈p.ax,0<=a.col)(own:List Int):call T Kr [p.enc,kX own]=some (i6 (bC p.ah p.ax p.keys own)):=by
 refine q146g (by simp) ?_;have he:=p.aB;have hN:bC p.ah p.ax p.keys own=(if p.ah.all (Sd own)=true then(if p.ax.all (xB own)=true then(if p.keys.all (NM own)=true then(if p.ax.all (gN own)=true then 0 else 50)else 81)else 81)else 81):=by
  have h:bC p.ah p.ax p.keys own=if(p.ah.all (Sd own)&&(p.ax.all (xB own)&&p.keys.all (NM own)))=true then(if p.ax.all (gN own)=true then 0 else 50)else 81:=rfl
  rw[h];generalize p.ah.all (Sd own)=B1;generalize p.ax.all (xB own)=B2;generalize p.keys.all (NM own)=B3;cases B1<;>cases B2<;>cases B3<;>rfl
 have hinall:p.ax.all (xB own)=true->∀(i:Nat) (h:i<p.ax.length),xB own p.ax[i]=true:=fun h i hi=>List.all_eq_true.1 h _ (List.getElem_mem hi);generalize bC p.ah p.ax p.keys own=R at hN ⊢;replace hN:=Hd.mk hN;have loop4:(∀(i:Nat) (h:i<p.ax.length),xB own p.ax[i]=true)->R=(if p.ax.all (gN own)=true then 0 else 50)->∀(en:Env) (st:ay) (q:Nat),en 1=kX own->en 2=.ptr 2 1 0->en 8=i6 (0:Nat)->st 2=⟨1,true,some (.box p.enc),q⟩->
  wp T [It.lp nV,It.bl 6,It.code ((IC.ops kM).seq IC.ret)] en st (fun e s=>aC e s [fI.tmp 4]=some (i6 R)):=by
  intro hin hR en st q e1 e2 e4 s2;replace hR:=Hd.mk hR;replace hin:=Hd.mk hin;have hl':p.ax.length<=9223372036854775807:=gJ hs.ax (by decide);refine av (σ:=Nat) (fun i e s=>e 1=kX own/\e 2=.ptr 2 1 0/\e 8=i6 i/\(∃q,s 2=⟨1,true,some (.box p.enc),q⟩)/\i<=p.ax.length/\Hd (∀j (hj:j<i) (h:j<p.ax.length),gN own p.ax[j]=true)) (fun i=>p.ax.length-i) ?_ 0 _ _
   ⟨e1,e2,e4,⟨q,s2⟩,by omega,⟨fun _ h=>by omega⟩⟩
  rintro i e s ⟨e1,e2,e4,⟨q,s2⟩,hi,hA⟩ ih;have s2':=s2;rw[he]at s2
  simp[e1,e2,e4,s2];refine aj (fun h=>?_) (fun h=>?_)<;>(have h':=h;try simp at h')<;>(try simp[*])
  ·have hf:Hd (gN own p.ax[i]=false->R=50):=⟨fun g=>by rw[hR.out,bT (p:=gN own) h' g];rfl⟩
   have next:∀en' s' q',gN own p.ax[i]=true->en' 1=kX own->en' 2=.ptr 2 1 0->en' 8=i6 ((i+1:Nat):Int)->s' 2=⟨1,true,some (.box p.enc),q'⟩->wp T [It.lp nV,It.bl 6,It.code ((IC.ops kM).seq IC.ret)] en' s' (fun e s=>aC e s [fI.tmp 4]=some (i6 R)):=fun en' s' q' g a b c d=>
    ih.out (i+1) en' s' ⟨a,b,c,⟨q',d⟩,h',⟨dU h' hA.out g⟩⟩ (by omega)
   replace next:=Hd.mk next
   clear ih;have hv:gN own p.ax[i]=((!decide (p.ax[i].fn=2)&&!decide (p.ax[i].fn=5))||aG (own.getD p.ax[i].col.toNat 0) 1):=rfl;have hii:xB own p.ax[i]=(decide (p.ax[i].fn=0)||decide (p.ax[i].col<own.length)):=rfl;have hin':=hin.out i h';rw[hii]at hin'
   have hc0:=hfa p.ax[i] (List.getElem_mem h');generalize gN own p.ax[i]=v at hv hf next
   generalize p.ax[i]=a at hv hin' hc0 ⊢;obtain⟨fn,col,ZU⟩:=a;simp only at hv hin' hc0;clear hii;by_cases f2:fn=2\/fn=5
   ·have f0:¬fn=0:=by omega
    have hcl:col<own.length:=by simpa[f0]using hin'
    obtain⟨j,rfl⟩:∃j:Nat,col=j:=⟨col.toNat,by omega⟩
    have hj:j<own.length:=by omega
    have hag:=iH own[j] 1;have hv':v=aG own[j] 1:=by rw[hv];rcases f2 with rfl|rfl<;>simp[hj]
    rw[<-hv']at hag
    cases v
    ·have hb':=hf.out rfl;rcases f2 with rfl|rfl
     ·simp[hag,hj,e1,e2,e4,s2,hb']
     ·simp[hag,hj,e1,e2,e4,s2,hb']
    ·rcases f2 with rfl|rfl
     ·simp[hag,hj,e1,e2,e4,s2];exact next.out _ _ q rfl (by simp[e1]) (by simp[e2]) (by simp[ai h' hl']) (by simp[s2',s2,he])
     ·simp[hag,hj,e1,e2,e4,s2];exact next.out _ _ q rfl (by simp[e1]) (by simp[e2]) (by simp[ai h' hl']) (by simp[s2',s2,he])
   ·have f2':¬fn=2:=fun h=>f2 (.inl h);have f5':¬fn=5:=fun h=>f2 (.inr h);have hv':v=true:=by rw[hv];simp[f2',f5']
    simp[f2',f5',e1,e2,e4,s2];exact next.out _ _ q hv' (by simp[e1]) (by simp[e2]) (by simp[ai h' hl']) (by simp[s2',s2,he])
  ·have hn:p.ax.all (gN own)=true:=bg (fun j hj=>hA.out j (by omega) hj);have hR':=hR.out;rw[if_pos hn]at hR'
   simp[hR']
 have loop3:(∀(i:Nat) (h:i<p.ax.length),xB own p.ax[i]=true)->R=(if p.keys.all (NM own)=true then(if p.ax.all (gN own)=true then 0 else 50)else 81)->∀(en:Env) (st:ay) (q:Nat),en 1=kX own->en 2=.ptr 2 1 0->en 7=i6 (0:Nat)->st 2=⟨1,true,some (.box p.enc),q⟩->
  wp T [It.lp rW,It.bl 4,It.code (((IC.ops nW).seq (IC.block 6 (IC.loop nV))).seq ((IC.ops kM).seq IC.ret))] en st (fun e s=>aC e s [fI.tmp 4]=some (i6 R)):=by
  intro hin hR en st q e1 e2 e4 s2;replace hR:=Hd.mk hR;replace hin:=Hd.mk hin;have hl':p.keys.length<=9223372036854775807:=gJ hs.keys (by decide);refine av (σ:=Nat) (fun i e s=>e 1=kX own/\e 2=.ptr 2 1 0/\e 7=i6 i/\(∃q,s 2=⟨1,true,some (.box p.enc),q⟩)/\i<=p.keys.length/\Hd (∀j (hj:j<i) (h:j<p.keys.length),NM own p.keys[j]=true)) (fun i=>p.keys.length-i) ?_ 0 _ _
   ⟨e1,e2,e4,⟨q,s2⟩,by omega,⟨fun _ h=>by omega⟩⟩
  rintro i e s ⟨e1,e2,e4,⟨q,s2⟩,hi,hA⟩ ih;have s2':=s2;rw[he]at s2
  simp[e1,e2,e4,s2];refine aj (fun h=>?_) (fun h=>?_)<;>(have h':=h;try simp at h')<;>(try simp[*])
  ·have hf:Hd (NM own p.keys[i]=false->R=81):=⟨fun g=>by rw[hR.out,bT (p:=NM own) h' g];rfl⟩
   have next:∀en' s' q',NM own p.keys[i]=true->en' 1=kX own->en' 2=.ptr 2 1 0->en' 7=i6 ((i+1:Nat):Int)->s' 2=⟨1,true,some (.box p.enc),q'⟩->wp T [It.lp rW,It.bl 4,It.code (((IC.ops nW).seq (IC.block 6 (IC.loop nV))).seq ((IC.ops kM).seq IC.ret))] en' s' (fun e s=>aC e s [fI.tmp 4]=some (i6 R)):=fun en' s' q' g a b c d=>
    ih.out (i+1) en' s' ⟨a,b,c,⟨q',d⟩,h',⟨dU h' hA.out g⟩⟩ (by omega)
   replace next:=Hd.mk next
   clear ih;have hv:NM own p.keys[i]=decide (p.keys[i].col<own.length):=rfl;by_cases k:p.keys[i].col<own.length
   ·have k':¬(own.length:Int)<=p.keys[i].col:=by omega
    rw[decide_eq_true k]at hv
    simp[k',e1,e2,e4,s2];exact next.out _ _ q hv (by simp[e1]) (by simp[e2]) (by simp[ai h' hl']) (by simp[s2',s2,he])
   ·have k':(own.length:Int)<=p.keys[i].col:=by omega
    rw[decide_eq_false k]at hv
    have hb:=hf.out hv;simp[k',e1,e2,e4,s2,hb]
  ·have hn:p.keys.all (NM own)=true:=bg (fun j hj=>hA.out j (by omega) hj);have hR':=hR.out;rw[if_pos hn]at hR'
   exact loop4 hin.out hR' _ _ q (by simp[e1]) (by simp[e2]) (by simp) (by simp[s2',s2,he])
 have loop2:R=(if p.ax.all (xB own)=true then(if p.keys.all (NM own)=true then(if p.ax.all (gN own)=true then 0 else 50)else 81)else 81)->∀(en:Env) (st:ay) (q:Nat),en 1=kX own->en 2=.ptr 2 1 0->en 6=i6 (0:Nat)->st 2=⟨1,true,some (.box p.enc),q⟩->
  wp T [It.lp zA,It.bl 2,It.code (((IC.ops uz).seq (IC.block 4 (IC.loop rW))).seq (((IC.ops nW).seq (IC.block 6 (IC.loop nV))).seq ((IC.ops kM).seq IC.ret)))] en st (fun e s=>aC e s [fI.tmp 4]=some (i6 R)):=by
  intro hR en st q e1 e2 e4 s2;replace hR:=Hd.mk hR
  skip
  have hl':p.ax.length<=9223372036854775807:=gJ hs.ax (by decide);refine av (σ:=Nat) (fun i e s=>e 1=kX own/\e 2=.ptr 2 1 0/\e 6=i6 i/\(∃q,s 2=⟨1,true,some (.box p.enc),q⟩)/\i<=p.ax.length/\Hd (∀j (hj:j<i) (h:j<p.ax.length),xB own p.ax[j]=true)) (fun i=>p.ax.length-i) ?_ 0 _ _
   ⟨e1,e2,e4,⟨q,s2⟩,by omega,⟨fun _ h=>by omega⟩⟩
  rintro i e s ⟨e1,e2,e4,⟨q,s2⟩,hi,hA⟩ ih;have s2':=s2;rw[he]at s2
  simp[e1,e2,e4,s2];refine aj (fun h=>?_) (fun h=>?_)<;>(have h':=h;try simp at h')<;>(try simp[*])
  ·have hf:Hd (xB own p.ax[i]=false->R=81):=⟨fun g=>by rw[hR.out,bT (p:=xB own) h' g];rfl⟩
   have next:∀en' s' q',xB own p.ax[i]=true->en' 1=kX own->en' 2=.ptr 2 1 0->en' 6=i6 ((i+1:Nat):Int)->s' 2=⟨1,true,some (.box p.enc),q'⟩->wp T [It.lp zA,It.bl 2,It.code (((IC.ops uz).seq (IC.block 4 (IC.loop rW))).seq (((IC.ops nW).seq (IC.block 6 (IC.loop nV))).seq ((IC.ops kM).seq IC.ret)))] en' s' (fun e s=>aC e s [fI.tmp 4]=some (i6 R)):=fun en' s' q' g a b c d=>
    ih.out (i+1) en' s' ⟨a,b,c,⟨q',d⟩,h',⟨dU h' hA.out g⟩⟩ (by omega)
   replace next:=Hd.mk next
   clear ih;have hv:xB own p.ax[i]=(decide (p.ax[i].fn=0)||decide (p.ax[i].col<own.length)):=rfl;by_cases k0:p.ax[i].fn=0
   ·have hv':xB own p.ax[i]=true:=by rw[hv,decide_eq_true k0];rfl
    simp[k0,h',e1,e2,e4,s2];exact next.out _ _ q hv' (by simp[e1]) (by simp[e2]) (by simp[ai h' hl']) (by simp[s2',s2,he])
   ·by_cases k:p.ax[i].col<own.length
    ·have k':¬(own.length:Int)<=p.ax[i].col:=by omega
     have hv':xB own p.ax[i]=true:=by rw[hv,decide_eq_true k,Bool.or_true]
     simp[k0,k',h',e1,e2,e4,s2];exact next.out _ _ q hv' (by simp[e1]) (by simp[e2]) (by simp[ai h' hl']) (by simp[s2',s2,he])
    ·have k':(own.length:Int)<=p.ax[i].col:=by omega
     have hv':xB own p.ax[i]=false:=by rw[hv,decide_eq_false k,decide_eq_false k0];rfl
     have hb:=hf.out hv';simp[k0,k',h',e1,e2,e4,s2,hb]
  ·have hn:p.ax.all (xB own)=true:=bg (fun j hj=>hA.out j (by omega) hj);have hR':=hR.out;rw[if_pos hn]at hR'
   exact loop3 (hinall hn) hR' _ _ q (by simp[e1]) (by simp[e2]) (by simp) (by simp[s2',s2,he])
 have loop1:R=(if p.ah.all (Sd own)=true then(if p.ax.all (xB own)=true then(if p.keys.all (NM own)=true then(if p.ax.all (gN own)=true then 0 else 50)else 81)else 81)else 81)->∀(en:Env) (st:ay) (q:Nat),en 1=kX own->en 2=.ptr 2 1 0->en 5=i6 (0:Nat)->st 2=⟨1,true,some (.box p.enc),q⟩->
  wp T [It.lp Ii,It.bl 0,It.code (((IC.ops Ij).seq (IC.block 2 (IC.loop zA))).seq (((IC.ops uz).seq (IC.block 4 (IC.loop rW))).seq (((IC.ops nW).seq (IC.block 6 (IC.loop nV))).seq ((IC.ops kM).seq IC.ret))))] en st (fun e s=>aC e s [fI.tmp 4]=some (i6 R)):=by
  intro hR en st q e1 e2 e4 s2;replace hR:=Hd.mk hR
  skip
  have hl':p.ah.length<=9223372036854775807:=gJ hs.ah (by decide);refine av (σ:=Nat) (fun i e s=>e 1=kX own/\e 2=.ptr 2 1 0/\e 5=i6 i/\(∃q,s 2=⟨1,true,some (.box p.enc),q⟩)/\i<=p.ah.length/\Hd (∀j (hj:j<i) (h:j<p.ah.length),Sd own p.ah[j]=true)) (fun i=>p.ah.length-i) ?_ 0 _ _
   ⟨e1,e2,e4,⟨q,s2⟩,by omega,⟨fun _ h=>by omega⟩⟩
  rintro i e s ⟨e1,e2,e4,⟨q,s2⟩,hi,hA⟩ ih;have s2':=s2;rw[he]at s2
  simp[e1,e2,e4,s2];refine aj (fun h=>?_) (fun h=>?_)<;>(have h':=h;try simp at h')<;>(try simp[*])
  ·have hf:Hd (Sd own p.ah[i]=false->R=81):=⟨fun g=>by rw[hR.out,bT (p:=Sd own) h' g];rfl⟩
   have next:∀en' s' q',Sd own p.ah[i]=true->en' 1=kX own->en' 2=.ptr 2 1 0->en' 5=i6 ((i+1:Nat):Int)->s' 2=⟨1,true,some (.box p.enc),q'⟩->wp T [It.lp Ii,It.bl 0,It.code (((IC.ops Ij).seq (IC.block 2 (IC.loop zA))).seq (((IC.ops uz).seq (IC.block 4 (IC.loop rW))).seq (((IC.ops nW).seq (IC.block 6 (IC.loop nV))).seq ((IC.ops kM).seq IC.ret))))] en' s' (fun e s=>aC e s [fI.tmp 4]=some (i6 R)):=fun en' s' q' g a b c d=>
    ih.out (i+1) en' s' ⟨a,b,c,⟨q',d⟩,h',⟨dU h' hA.out g⟩⟩ (by omega)
   replace next:=Hd.mk next
   clear ih;have hv:Sd own p.ah[i]=decide (p.ah[i]<own.length):=rfl;by_cases k:p.ah[i]<own.length
   ·have k':¬(own.length:Int)<=p.ah[i]:=by omega
    rw[decide_eq_true k]at hv
    simp[k',e1,e2,e4,s2];exact next.out _ _ q hv (by simp[e1]) (by simp[e2]) (by simp[ai h' hl']) (by simp[s2',s2,he])
   ·have k':(own.length:Int)<=p.ah[i]:=by omega
    rw[decide_eq_false k]at hv
    have hb:=hf.out hv;simp[k',e1,e2,e4,s2,hb]
  ·have hn:p.ah.all (Sd own)=true:=bg (fun j hj=>hA.out j (by omega) hj);have hR':=hR.out;rw[if_pos hn]at hR'
   exact loop2 hR' _ _ q (by simp[e1]) (by simp[e2]) (by simp) (by simp[s2',s2,he])
 rw[he];simp;exact loop1 hN.out _ _ 1 (by simp) (by simp) (by simp) (by simp[he])
def Gc(s:ay)(os:List Nat)(x:X)(es:List Int):Prop:=(es=[]/\x=.nil)\/(¬es=[]/\∃o g n,o∈os/\x=.ref o g 1 0 es.length/\s o=⟨g,true,some (.row 1 (es.map u8)),n⟩)
set_option maxHeartbeats 4000000 in
theorem oW(p:Pn)(hs:p.je)(own:List Int)(hcols:∀n∈p.ah,0<=n/\n<own.length)(haggs:∀a∈p.ax,a.fn=3\/a.fn=4->0<=a.col/\a.col<own.length) :
 call T Kn [p.enc,kX own]=some (.sl true ((p.ah.map (fun n=>own.getD n.toNat 0)++p.ax.map (di own)).map u8)):=by
 refine q141g (by simp) ?_;have he:=p.aB;have hcl:p.ah.length<=1099511627776:=hs.ah;have hal:p.ax.length<=1099511627776:=hs.ax;have hcl':p.ah.length<=9223372036854775807:=by omega
 have hal':p.ax.length<=9223372036854775807:=by omega
 replace hcols:=Hd.mk hcols;generalize hF:p.ah.map (fun n=>own.getD n.toNat 0)++p.ax.map (di own)=F;generalize hC:p.ah.map (fun n=>own.getD n.toNat 0)=C at hF;replace hF:=Hd.mk hF;have hCl:C.length=p.ah.length:=by rw[<-hC];simp
 have hCi:∀i (h:i<p.ah.length) (h':i<C.length),C[i]=own.getD p.ah[i].toNat 0:=by intro i h h';subst hC;simp
 clear hC;have loop2:∀(en:Env) (st:ay) (q:Nat),en 1=kX own->en 2=.ptr 2 1 0->en 7=i6 (0:Nat)->st 2=⟨1,true,some (.box p.enc),q⟩->Gc st [26,54,57] (en 5) C->wp T [It.lp Ih,It.bl 2,It.code ((IC.ops C_).seq IC.ret)] en st (fun e s=>aC e s [fI.tmp 4]=some (.sl true (F.map u8))):=by
  intro en st q e1 e2 e7 s2 hrow;refine av (σ:=Nat) (fun i e s=>e 1=kX own/\e 2=.ptr 2 1 0/\e 7=i6 i/\(∃q,s 2=⟨1,true,some (.box p.enc),q⟩)/\Gc s [26,54,57] (e 5) (C++(p.ax.map (di own)).take i)/\i<=p.ax.length) (fun i=>p.ax.length-i) ?_ 0 _ _
   ⟨e1,e2,e7,⟨q,s2⟩,by rw[List.take_zero,List.append_nil];exact hrow,by omega⟩
  rintro i e s ⟨e1,e2,e7,⟨q,s2⟩,hrow,hi⟩ ih;have s2':=s2;rw[he]at s2
  simp[e1,e2,e7,s2];refine aj (fun h=>?_) (fun h=>?_)<;>(have h':=h;try simp at h')<;>(try simp[*])
  ·have hkl:i<(p.ax.map (di own)).length:=by simpa using h'
   have hst:=cZ hkl;have hel:(p.ax.map (di own))[i]=di own p.ax[i]:=by simp
   rw[hel]at hst
   have hln:(C++(p.ax.map (di own)).take i).length<=140737488355327:=by simp;omega
   have hao:di own p.ax[i]=if p.ax[i].fn=3\/p.ax[i].fn=4 then own.getD p.ax[i].col.toNat 0 else 1:=rfl
   have hin:=haggs p.ax[i] (List.getElem_mem h');have next:∀e' s' q',e' 1=kX own->e' 2=.ptr 2 1 0->e' 7=i6 ((i+1:Nat):Int)->s' 2=⟨1,true,some (.box p.enc),q'⟩->Gc s' [26,54,57] (e' 5) (C++(p.ax.map (di own)).take i++[di own p.ax[i]])->wp T [It.lp Ih,It.bl 2,It.code ((IC.ops C_).seq IC.ret)] e' s' (fun e s=>aC e s [fI.tmp 4]=some (.sl true (F.map u8))):=
    fun e' s' q' a b c d f=>ih.out (i+1) e' s' ⟨a,b,c,⟨q',d⟩,by rw[hst,<-List.append_assoc];exact f,h'⟩ (by omega)
   replace next:=Hd.mk next
   clear ih hst hkl hel;generalize C++(p.ax.map (di own)).take i=es at hrow hln next
   generalize di own p.ax[i]=v at hao next
   generalize p.ax[i]=a at hao hin ⊢;obtain⟨fn,col,ZU⟩:=a;simp only at hao hin;by_cases hfn:fn=3\/fn=4
   ·obtain⟨c0,c1⟩:=hin hfn;obtain⟨j,rfl⟩:∃j:Nat,col=j:=⟨col.toNat,by omega⟩
    have hj:j<own.length:=by omega
    have hv:v=own[j]:=by rw[hao,if_pos hfn];simp[hj]
    rw[hv]at next
    clear hao hin;rcases hfn with rfl|rfl
    ·rcases hrow with⟨r1,r2⟩|⟨r1,o,g,c,ro,r2,r3⟩
     ·simp[hj,e1,e2,e7,s2,r2];refine next.out _ _ q (by simp[e1]) (by simp[e2]) (by simp[ai h' hal']) (by simp[s2',s2,he]) ?_
      rw[r1];exact .inr ⟨by simp,54,(s 54).g+1,_,by simp,by simp,by simp;rfl⟩
     ·simp only[List.mem_cons,List.not_mem_nil,or_false]at ro;rcases ro with rfl|rfl|rfl
      ·simp[hj,e1,e2,e7,s2,r2,r3,hln];refine next.out _ _ q (by simp[e1]) (by simp[e2]) (by simp[ai h' hal']) (by simp[s2',s2,he]) ?_
       exact .inr ⟨by simp,26,g+1,_,by simp,by simp,by simp[r3];rfl⟩
      ·simp[hj,e1,e2,e7,s2,r2,r3,hln];refine next.out _ _ q (by simp[e1]) (by simp[e2]) (by simp[ai h' hal']) (by simp[s2',s2,he]) ?_
       exact .inr ⟨by simp,54,g+1,_,by simp,by simp,by simp[r3];rfl⟩
      ·simp[hj,e1,e2,e7,s2,r2,r3,hln];refine next.out _ _ q (by simp[e1]) (by simp[e2]) (by simp[ai h' hal']) (by simp[s2',s2,he]) ?_
       exact .inr ⟨by simp,57,g+1,_,by simp,by simp,by simp[r3];rfl⟩
    ·rcases hrow with⟨r1,r2⟩|⟨r1,o,g,c,ro,r2,r3⟩
     ·simp[hj,e1,e2,e7,s2,r2];refine next.out _ _ q (by simp[e1]) (by simp[e2]) (by simp[ai h' hal']) (by simp[s2',s2,he]) ?_
      rw[r1];exact .inr ⟨by simp,54,(s 54).g+1,_,by simp,by simp,by simp;rfl⟩
     ·simp only[List.mem_cons,List.not_mem_nil,or_false]at ro;rcases ro with rfl|rfl|rfl
      ·simp[hj,e1,e2,e7,s2,r2,r3,hln];refine next.out _ _ q (by simp[e1]) (by simp[e2]) (by simp[ai h' hal']) (by simp[s2',s2,he]) ?_
       exact .inr ⟨by simp,26,g+1,_,by simp,by simp,by simp[r3];rfl⟩
      ·simp[hj,e1,e2,e7,s2,r2,r3,hln];refine next.out _ _ q (by simp[e1]) (by simp[e2]) (by simp[ai h' hal']) (by simp[s2',s2,he]) ?_
       exact .inr ⟨by simp,54,g+1,_,by simp,by simp,by simp[r3];rfl⟩
      ·simp[hj,e1,e2,e7,s2,r2,r3,hln];refine next.out _ _ q (by simp[e1]) (by simp[e2]) (by simp[ai h' hal']) (by simp[s2',s2,he]) ?_
       exact .inr ⟨by simp,57,g+1,_,by simp,by simp,by simp[r3];rfl⟩
   ·have f3:¬fn=3:=fun h=>hfn (.inl h);have f4:¬fn=4:=fun h=>hfn (.inr h);have hv:v=1:=by rw[hao,if_neg hfn]
    rw[hv]at next
    rcases hrow with⟨r1,r2⟩|⟨r1,o,g,c,ro,r2,r3⟩
    ·simp[f3,f4,e1,e2,e7,s2,r2];refine next.out _ _ q (by simp[e1]) (by simp[e2]) (by simp[ai h' hal']) (by simp[s2',s2,he]) ?_
     rw[r1];exact .inr ⟨by simp,57,(s 57).g+1,_,by simp,by simp,by simp;rfl⟩
    ·simp only[List.mem_cons,List.not_mem_nil,or_false]at ro;rcases ro with rfl|rfl|rfl
     ·simp[f3,f4,e1,e2,e7,s2,r2,r3,hln];refine next.out _ _ q (by simp[e1]) (by simp[e2]) (by simp[ai h' hal']) (by simp[s2',s2,he]) ?_
      exact .inr ⟨by simp,26,g+1,_,by simp,by simp,by simp[r3];rfl⟩
     ·simp[f3,f4,e1,e2,e7,s2,r2,r3,hln];refine next.out _ _ q (by simp[e1]) (by simp[e2]) (by simp[ai h' hal']) (by simp[s2',s2,he]) ?_
      exact .inr ⟨by simp,54,g+1,_,by simp,by simp,by simp[r3];rfl⟩
     ·simp[f3,f4,e1,e2,e7,s2,r2,r3,hln];refine next.out _ _ q (by simp[e1]) (by simp[e2]) (by simp[ai h' hal']) (by simp[s2',s2,he]) ?_
      exact .inr ⟨by simp,57,g+1,_,by simp,by simp,by simp[r3];rfl⟩
  ·have hfull:(p.ax.map (di own)).take i=p.ax.map (di own):=List.take_of_length_le (by simp;omega);rw[hfull,hF.out]at hrow
   rcases hrow with⟨r1,r2⟩|⟨r1,o,g,c,ro,r2,r3⟩
   ·simp[r2,r1]
   ·simp only[List.mem_cons,List.not_mem_nil,or_false]at ro;rcases ro with rfl|rfl|rfl
    ·simp[r2,r3]
    ·simp[r2,r3]
    ·simp[r2,r3]
 rw[he];simp;refine av (σ:=Nat) (fun i e s=>e 1=kX own/\e 2=.ptr 2 1 0/\e 6=i6 i/\(∃q,s 2=⟨1,true,some (.box p.enc),q⟩)/\iU s 26 (e 5) (C.take i)/\i<=p.ah.length) (fun i=>p.ah.length-i) ?_ 0 _ _
  ⟨by simp,by simp,by simp,⟨1,by simp[he]⟩,.inl ⟨by simp,by simp⟩,by omega⟩
 rintro i e s ⟨e1,e2,e6,⟨q,s2⟩,hrow,hi⟩ ih;have s2':=s2;rw[he]at s2
 simp[e1,e2,e6,s2];refine aj (fun h=>?_) (fun h=>?_)<;>(have h':=h;try simp at h')<;>(try simp[*])
 ·have hkl:i<C.length:=by omega
  have hst:=cZ hkl;have hln:(C.take i).length<=140737488355327:=by simp;omega
  obtain⟨c0,c1⟩:=hcols.out p.ah[i] (List.getElem_mem h');have hel:=hCi i h' hkl;rw[hel]at hst
  generalize p.ah[i]=n at c0 c1 hst ⊢;obtain⟨j,rfl⟩:∃j:Nat,n=j:=⟨n.toNat,by omega⟩
  have hj:j<own.length:=by omega
  have hg:own.getD ((j:Int)).toNat 0=own[j]:=by simp[hj]
  rw[hg]at hst
  generalize hes:C.take i=es at hrow hln hst;rcases hrow with⟨r1,r2⟩|⟨r1,g,c,r2,r3⟩
  ·simp[hj,e1,e2,e6,s2,r2];refine ih.out (i+1) _ _ ?_ (by omega);refine⟨by simp[e1],by simp[e2],by simp[ai h' hcl'],⟨q,by simp[s2',s2,he]⟩,?_,h'⟩;rw[hst,r1];exact .inr ⟨by simp,(s 26).g+1,_,by simp,by simp;rfl⟩
  ·simp[hj,e1,e2,e6,s2,r2,r3,hln];refine ih.out (i+1) _ _ ?_ (by omega);refine⟨by simp[e1],by simp[e2],by simp[ai h' hcl'],⟨q,by simp[s2',s2,he]⟩,?_,h'⟩;rw[hst];exact .inr ⟨by simp,g+1,_,by simp,by simp[r3];rfl⟩
 ·have hfull:C.take i=C:=List.take_of_length_le (by omega);rw[hfull]at hrow
  try simp[e1,e2,s2]
  refine loop2 _ _ q (by simp[e1]) (by simp[e2]) (by simp) (by simp[s2',s2,he]) ?_;rcases hrow with⟨r1,r2⟩|⟨r1,g,c,r2,r3⟩
  ·exact .inl ⟨r1,by simp[r2]⟩
  ·exact .inr ⟨r1,26,g,c,by simp,by simp[r2],by simp[r3]⟩
theorem GD{a b:Int}(ha:0<=a)(hb:0<=b)(h:aG a b=true):(if a=0 then b else a)=max a b:=by
 rw[fB]at h
 split<;>omega
set_option maxHeartbeats 2000000 in
theorem rD(a b:List Int)(ha64:a.length<=64)(ha:∀k∈a,0<=k)(hb:∀k∈b,0<=k):call T Kz [kX a,kX b]=some (.bU [.sl true ((mD a b).1.map u8),i6 (mD a b).2]):=by
 refine q150g (by simp) ?_;have hal':a.length<=9223372036854775807:=by omega
 by_cases hab:a.length=b.length
 case neg=>
  have hab':¬(a.length:Int)=b.length:=by omega
  have hS:mD a b=([],81):=if_neg hab;rw[hS];simp[hab,hab']
 have hS:mD a b=aF dY (a.zip b):=if_pos hab;have hzi:∀i (h:i<a.length) (h2:i<b.length) (h3:i<(a.zip b).length),(a.zip b)[i]=(a[i],b[i]):=by intro i h h2 h3;simp
 have hz:(a.zip b).length=a.length:=by simp[hab]
 have hyes:(∀j (hj:j<(a.zip b).length),(dY (a.zip b)[j]).2=0)->mD a b=((a.zip b).map (fun x=>max x.1 x.2),0):=fun h=>by
  rw[hS,fC h];congr 1;refine List.map_congr_left fun x hx=>?_;obtain⟨j,hj,rfl⟩:=List.getElem_of_mem hx;have:=h j hj;unfold dY at this ⊢;split
  ·rfl
  ·rename_i hh;rw[if_neg hh]at this;simp at this
 have hno:∀i (h:i<(a.zip b).length),(∀j (hj:j<i),(dY (a.zip b)[j]).2=0)->¬(dY (a.zip b)[i]).2=0->mD a b=([],(dY (a.zip b)[i]).2):=fun i h h1 h2=>by rw[hS,fD h h1 h2]
 have hOl:((a.zip b).map (fun x=>max x.1 x.2)).length=a.length:=by simp[hab]
 have hOi:∀i (h:i<a.length) (h2:i<b.length) (h3:i<((a.zip b).map (fun x=>max x.1 x.2)).length),((a.zip b).map (fun x=>max x.1 x.2))[i]=max a[i] b[i]:=by intro i h h2 h3;simp
 generalize mD a b=S at hyes hno ⊢;generalize (a.zip b).map (fun x=>max x.1 x.2)=O at hyes hOl hOi;replace hyes:=Hd.mk hyes;replace hno:=Hd.mk hno;clear hS;simp[hab];replace hab:=Hd.mk hab;replace ha:=Hd.mk ha;replace hb:=Hd.mk hb;refine av (σ:=Nat) (fun i e s=>e 0=kX a/\e 1=kX b/\e 7=i6 i/\iU s 40 (e 6) (O.take i)/\i<=a.length/\Hd (∀j (hj:j<i) (h:j<(a.zip b).length),(dY (a.zip b)[j]).2=0)) (fun i=>a.length-i) ?_ 0 _ _
  ⟨by simp,by simp,by simp,.inl ⟨by simp,by simp⟩,by omega,⟨fun _ h=>by omega⟩⟩
 rintro i e s ⟨e0,e1,e7,hrow,hi,hA⟩ ih;simp[e0,e1,e7];refine aj (fun h=>?_) (fun h=>?_)<;>(have h':=h;try simp at h')<;>(try simp[*])
 ·have hib:i<b.length:=by have:=hab.out;omega
  have hiz:i<(a.zip b).length:=by omega
  have hag:=iH a[i] b[i];have hcm:=yA a[i] b[i];have hel:=hzi i h' hib hiz;have hst:=cZ (l:=O) (i:=i) (by omega);rw[hOi i h' hib (by omega)]at hst
  by_cases hg:aG a[i] b[i]=true
  ·rw[hg]at hag
   rw[GD (ha.out _ (List.getElem_mem h')) (hb.out _ (List.getElem_mem hib)) hg]at hcm
   have hone:(dY (a.zip b)[i]).2=0:=by rw[hel];simp[dY,hg]
   have hA':∀j (hj:j<i+1) (h:j<(a.zip b).length),(dY (a.zip b)[j]).2=0:=fun j hj h=>by
    rcases Nat.lt_or_eq_of_le (Nat.le_of_lt_succ hj)with h2|h2
    ·exact hA.out j h2 h
    ·subst h2;exact hone
   have hln:(O.take i).length<=140737488355327:=by simp;omega
   clear hel hone;generalize hes:O.take i=es at hrow hln hst;rcases hrow with⟨r1,r2⟩|⟨r1,g,c,r2,r3⟩
   ·simp[hag,hcm,h',hib,e0,e1,e7,r2];refine ih.out (i+1) _ _ ?_ (by omega);refine⟨by simp[e0],by simp[e1],by simp[ai h' hal'],?_,h',⟨hA'⟩⟩;rw[hst,r1];exact .inr ⟨by simp,(s 40).g+1,_,by simp,by simp;rfl⟩
   ·simp[hag,hcm,h',hib,e0,e1,e7,r2,r3,hln];refine ih.out (i+1) _ _ ?_ (by omega);refine⟨by simp[e0],by simp[e1],by simp[ai h' hal'],?_,h',⟨hA'⟩⟩;rw[hst];exact .inr ⟨by simp,g+1,_,by simp,by simp[r3];rfl⟩
  ·simp only[Bool.not_eq_true]at hg;rw[hg]at hag
   have hone:(dY (a.zip b)[i]).2=50:=by rw[hel];simp[dY,hg]
   have hSS:=hno.out i hiz (fun j hj=>hA.out j hj (by omega)) (by rw[hone];decide);rw[hone]at hSS
   subst hSS;simp[hag,h',hib,e0,e1,e7]
 ·have hSS:=hyes.out (fun j hj=>hA.out j (by omega) hj);have hfull:O.take i=O:=List.take_of_length_le (by omega);rw[hfull]at hrow
  subst hSS;rcases hrow with⟨r1,r2⟩|⟨r1,g,c,r2,r3⟩
  ·simp[r2,r1]
  ·simp[r2,r3]
set_option maxHeartbeats 2000000 in
theorem DX(s:List eT)(p:Pn)(hs:p.je)(kids:List (List Int))(own exprs:List Int)(ho:Jm s p kids own exprs)(h1:¬p.op=1)(hn:∀r∈kids,∀k∈r,0<=k) :
 ∃fl,call T Kt [p.enc,.sl false (kids.map kX),kX own,kX exprs]=some (.bU [.sl fl ((aM (s.map kT) p.op p.table p.kinds p.ah p.ax kids own exprs).1.map u8),i6 (aM (s.map kT) p.op p.table p.kinds p.ah p.ax kids own exprs).2]):=by
 have he:=p.aB;by_cases h0:p.op=0
 ·refine⟨true,?_⟩;refine qW (by simp) ?_;have hR:aM (s.map kT) p.op p.table p.kinds p.ah p.ax kids own exprs=(p.kinds,0):=if_pos h0;rw[hR];have hj:=oV p.kinds [] hs.kinds (by simp);rw[List.append_nil]at hj
  have hk0:kX ([]:List Int)=.sl false []:=rfl;rw[hk0]at hj
  simp[he,h0,hj]
 by_cases h3:p.op=3
 ·refine⟨false,?_⟩;refine qW (by simp) ?_;have hR:aM (s.map kT) p.op p.table p.kinds p.ah p.ax kids own exprs=(exprs,0):=by unfold aM;rw[if_neg h0,if_neg h1,if_pos h3]
  rw[hR];simp[he,h3]
 by_cases h10:p.op=10
 ·refine⟨true,?_⟩;refine qW (by simp) ?_;have hR:aM (s.map kT) p.op p.table p.kinds p.ah p.ax kids own exprs=(p.ah.map (fun n=>own.getD n.toNat 0)++p.ax.map (di own),0):=by unfold aM;rw[if_neg h0,if_neg h1,if_neg h3,if_pos h10];rfl
  rw[hR];have hg:=oW p hs own (ho.Om h10) (ho.NT h10);generalize p.ah.map (fun n=>own.getD n.toNat 0)++p.ax.map (di own)=F at hg ⊢;rw[he]at hg
  rw[h10]at he hg
  simp[he,hg]
 have hk:=ho.Z7;by_cases h9:p.op=9
 ·have hk2:kids.length=2:=by rw[hk,h9];rfl
  obtain⟨a,b,rfl⟩:∃a b,kids=[a,b]:=by rcases kids with _|⟨a,_|⟨b,_|⟨c,l⟩⟩⟩<;>simp at hk2 ⊢
  have he1:=ho.OD h9;clear ho hk hk2 hn;have hR:aM (s.map kT) p.op p.table p.kinds p.ah p.ax [a,b] own exprs=(match b with
   | [k]=>if aG (exprs.headD 0) k=true then(a,0)else([],50)
   | _=>([],81)):=by
   unfold aM;rw[if_neg h0,if_neg h1,if_neg h3,if_neg h10,if_neg (by omega),if_pos h9];rfl
  rw[hR];rw[h9]at he
  rcases hb:b with _|⟨k,_|⟨k',l⟩⟩
  ·refine⟨true,?_⟩;refine qW (by simp) ?_;simp[he]
  ·have hag:=iH (exprs.headD 0) k;rcases hx:exprs with _|⟨x,xs⟩
   ·rw[hx]at he1;simp at he1
   rw[hx]at hag
   by_cases hg:aG ((x::xs).headD 0) k=true
   ·dsimp only;rw[if_pos hg];simp only[List.headD_cons]at hag hg;rw[hg]at hag
    refine⟨false,?_⟩;refine qW (by simp) ?_;simp[he,hag]
   ·dsimp only;rw[if_neg hg];simp only[List.headD_cons,Bool.not_eq_true]at hag hg;rw[hg]at hag
    refine⟨true,?_⟩;refine qW (by simp) ?_;simp[he,hag]
  ·refine⟨true,?_⟩;refine qW (by simp) ?_;have hne:¬((l.length:Int)+1+1=1):=by omega
   simp[he,hne]
 by_cases h78:p.op=7\/p.op=8
 ·refine⟨false,?_⟩;refine qW (by simp) ?_;have hk2:kids.length=2:=by rw[hk];rcases h78 with h|h<;>rw[h]<;>rfl
  obtain⟨a,b,rfl⟩:∃a b,kids=[a,b]:=by rcases kids with _|⟨a,_|⟨b,_|⟨c,l⟩⟩⟩<;>simp at hk2 ⊢
  have hR:aM (s.map kT) p.op p.table p.kinds p.ah p.ax [a,b] own exprs=(a,0):=by unfold aM;rw[if_neg h0,if_neg h1,if_neg h3,if_neg h10,if_pos h78];rfl
  rw[hR];rcases h78 with h|h
  ·rw[h]at he
   simp[he]
  ·rw[h]at he
   simp[he]
 by_cases h14:14<=p.op
 ·have hk2:kids.length=2:=by rw[hk];unfold aN;rw[if_neg (by omega),if_neg (by omega)]
  obtain⟨a,b,rfl⟩:∃a b,kids=[a,b]:=by rcases kids with _|⟨a,_|⟨b,_|⟨c,l⟩⟩⟩<;>simp at hk2 ⊢
  have hR:aM (s.map kT) p.op p.table p.kinds p.ah p.ax [a,b] own exprs=mD a b:=by unfold aM;rw[if_neg h0,if_neg h1,if_neg h3,if_neg h10,if_neg h78,if_neg h9,if_pos h14];rfl
  rw[hR];refine⟨true,?_⟩;refine qW (by simp) ?_;have hset:=rD a b (ho.small a (by simp)) (hn a (by simp)) (hn b (by simp));have h16:=ho.op16;generalize mD a b=S at hset ⊢;rcases(show p.op=14\/p.op=15\/p.op=16 by omega)with h|h|h
  all_goals
   rw[h]at he
   simp[he,hset]
 ·refine⟨false,?_⟩;refine qW (by simp) ?_;have hR:aM (s.map kT) p.op p.table p.kinds p.ah p.ax kids own exprs=(own,0):=by unfold aM;rw[if_neg h0,if_neg h1,if_neg h3,if_neg h10,if_neg h78,if_neg h9,if_neg h14]
  rw[hR];have n7:¬p.op=7:=fun h=>h78 (.inl h);have n8:¬p.op=8:=fun h=>h78 (.inr h);have n14:¬p.op=14:=by omega
  have n15:¬p.op=15:=by omega
  have n16:¬p.op=16:=by omega
  simp[he,h0,h3,h10,h9,n7,n8,n14,n15,n16]
abbrev nn(l:List Int):Prop:=∀k∈l,0<=k
theorem eF:nn []:=fun k hk=>by cases hk
theorem CQ{l:List Int}(h:nn l)(i:Nat):0<=l.getD i 0:=by
 by_cases hi:i<l.length
 ·simp[hi];exact h _ (List.getElem_mem hi)
 ·simp[show l.length<=i by omega]
theorem zh{l:List (List Int)}(h:∀r∈l,nn r)(i:Nat):nn (l.getD i []):=by
 by_cases hi:i<l.length
 ·simp[hi];exact h _ (List.getElem_mem hi)
 ·simp[show l.length<=i by omega];exact eF
theorem t_{l:List (List Int)}(h:∀r∈l,nn r):nn (l.headD []):=by
 cases l with
 | nil=>first|exact eF|simp
 | cons a l=>simpa using h a (by simp)
theorem JP(l:List Int):0<=ku l:=by
 have h:∀(l:List Int) (a:Int),0<=a->0<=l.foldl max a:=by
  intro l;induction l with
  | nil=>intro a h;simpa using h
  | cons b l ih=>intro a h;simp only[List.foldl_cons];exact ih _ (by omega)
 exact h l 0 (by omega)
theorem qh{α β:Type}{f:α->β×Int}{l:List α}{P:β->Prop}(h:∀a∈l,P (f a).1):∀x∈(aF f l).1,P x:=by
 induction l with
 | nil=>simp[aF]
 | cons a l ih=>
  have ih':=ih fun b hb=>h b (by simp[hb]);unfold aF;split
  ·split
   ·intro x hx;rcases List.mem_cons.1 hx with rfl|hx
    ·exact h a (by simp)
    ·exact ih' x hx
   ·first|exact eF|simp
  ·first|exact eF|simp
theorem Oh(l:List Int):0<=(qU l).1:=by
 unfold qU;split
 ·exact JP _
 ·first|exact eF|simp
theorem Mg(op:Int):0<=iF op:=by unfold iF;split;simp;split<;>simp
theorem Od(op:Int)(l:List Int):0<=(iD op l).1:=by
 unfold iD;split
 ·split
  ·exact Oh l
  ·split
   ·split
    ·exact JP _
    ·exact Mg _
   ·first|exact eF|simp
 ·first|exact eF|simp
theorem SG{r:Int×Int}(h:0<=r.1):0<=(CF r).1:=by
 unfold CF;split
 ·exact h
 ·split<;>simp
theorem Sz{env:List (List Int)}(h:∀r∈env,nn r)(up n:Int):0<=(Cs env up n).1:=by
 unfold Cs;split
 ·exact CQ (zh h _) _
 ·first|exact eF|simp
theorem Zq(op:Int)(ks:List Int){r:List (List Int)×Int}(h:∀x∈r.1,nn x):0<=(oK op ks r).1:=by
 unfold oK;split
 ·split
  ·first|exact eF|simp
  ·split
   ·rename_i k hk;split
    ·exact h [k] (by rw[hk];simp) k (by simp)
    ·split<;>simp
   ·first|exact eF|simp
 ·first|exact eF|simp
theorem K6(op:Int){kids:List (List Int)}(h:∀r∈kids,nn r):nn (bH op kids):=by
 unfold bH;split
 ·exact t_ h
 ·intro k hk;obtain⟨r,hr,hk⟩:=List.mem_flatten.1 hk;exact h r hr k hk
theorem YV{a b:List Int}(ha:nn a)(hb:nn b):nn (mD a b).1:=by
 unfold mD;split
 ·refine qh (P:=fun k=>0<=k) fun x hx=>?_;have:=ha x.1 (List.of_mem_zip hx).1;split
  ·show 0<=max x.1 x.2;omega
  ·first|exact eF|simp
 ·first|exact eF|simp
theorem IA{sc:List (List Int)}(hsc:∀r∈sc,nn r)(op table:Int){kinds:List Int}(hk:nn kinds)(ah:List Int)(ax:List Ag){kids:List (List Int)}(hkd:∀r∈kids,nn r){own exprs:List Int}(ho:nn own)(hx:nn exprs):nn (aM sc op table kinds ah ax kids own exprs).1:=by
 unfold aM;split
 ·exact hk
 split
 ·exact zh hsc _
 split
 ·exact hx
 split
 ·intro k hk;rcases List.mem_append.1 hk with h|h
  ·obtain⟨n,_,rfl⟩:=List.mem_map.1 h;exact CQ ho _
  ·obtain⟨a,_,rfl⟩:=List.mem_map.1 h;split
   ·exact CQ ho _
   ·first|exact eF|simp
 split
 ·exact t_ hkd
 split
 ·split
  ·split
   ·exact t_ hkd
   ·first|exact eF|simp
  ·first|exact eF|simp
 split
 ·exact YV (t_ hkd) (zh hkd _)
 ·exact ho
theorem NE{r:List Int×Int}(h:nn r.1):nn (fF r).1:=by
 unfold fF;split
 ·first|exact eF|simp
 ·exact h
theorem Ty{sc:List (List Int)}(hsc:∀r∈sc,nn r) :
 (∀e:Ex,e.small->∀env:List (List Int),(∀r∈env,nn r)->0<=(e.kind sc env).1)/\(∀p:Pn,p.small->∀env:List (List Int),(∀r∈env,nn r)->nn (p.columns sc env).1):=by
 refine dL (fun e h1 h2 hs env hv=>?_) (fun x h1 h2 h3 hs env hv=>?_)
 ·have hs':=Ex.cK hs;rw[Ex.xN];split
  ·split
   ·exact hs'.vk.1
   ·split
    ·exact Sz hv _ _
    ·split
     ·exact Zq _ _ (qh (P:=nn) fun q hq=>h2 q hq (hs'.subs q hq) env hv)
     ·exact SG (Od _ _)
  ·first|exact eF|simp
 ·have hs':=Pn.cK hs;rw[Pn.nG];have hkd:∀r∈(x.jq sc env).1,nn r:=qh (P:=nn) fun q hq=>h1 q hq (hs'.kid q hq) env hv;have hown:nn (x.own sc env):=K6 _ hkd;have hv':∀r∈x.own sc env::env,nn r:=fun r hr=>by
   rcases List.mem_cons.1 hr with rfl|hr
   ·exact hown
   ·exact hv r hr
  split
  ·split
   ·first|exact eF|simp
   ·split
    ·split
     ·split
      ·exact NE (IA hsc _ _ (fun k hk=>(hs'.kind k hk).1) _ _ hkd hown (qh (P:=fun k=>0<=k) fun q hq=>h3 q hq (hs'.expr q hq) _ hv'))
      ·first|exact eF|simp
     ·first|exact eF|simp
    ·first|exact eF|simp
  ·first|exact eF|simp
def mG(s:List eT)(env:List (List Int))(e:Ex):Prop:=call T zx [jO s,e.enc,.sl false (env.map kX)]=some (.bU [u8 (e.kind (s.map kT) env).1,i6 (e.kind (s.map kT) env).2])
def AR(s:List eT)(env:List (List Int))(p:Pn):Prop:=∃fl,call T Fz [jO s,p.enc,.sl false (env.map kX)]=some (.bU [.sl fl ((p.columns (s.map kT) env).1.map u8),i6 (p.columns (s.map kT) env).2])
theorem xq(s:List eT)(env:List (List Int))(e:Ex)(hf:e.formed=true)(hso:dZ e.op=true)(hp:∀q∈e.sub,AR s env q)(x:Int) :
 call T FC [jO s,e.enc,u8 x,.sl false (env.map kX)]=some (.bU [u8 (oK e.op [x] (aF (Pn.columns (s.map kT) env) e.sub)).1,i6 (oK e.op [x] (aF (Pn.columns (s.map kT) env) e.sub)).2]):=by
 refine q151g (by simp) ?_;have he:=e.aB;obtain⟨q,hq⟩:=EZ hf hso;obtain⟨fl,hcol⟩:=hp q (by simp[hq]);have hE:oK e.op [x] (aF (Pn.columns (s.map kT) env) e.sub)=oK e.op [x] (if(q.columns (s.map kT) env).2=0 then([(q.columns (s.map kT) env).1],0)else([],(q.columns (s.map kT) env).2)):=by rw[hq];simp[aF]
 generalize oK e.op [x] (aF (Pn.columns (s.map kT) env) e.sub)=E at hE ⊢;have hqe:=q.aB;rw[hqe]at hcol
 rw[hq]at he
 simp only[List.map_cons,List.map_nil,hqe]at he;generalize q.columns (s.map kT) env=C at hcol hE;obtain⟨ah,err⟩:=C;simp only at hcol hE;have hop3:e.op=27\/e.op=28\/e.op=29:=by simp[dZ]at hso;omega
 by_cases er:err=0
 case neg=>
  rw[if_neg er]at hE
  simp only[oK,if_neg er]at hE;subst hE;rcases hop3 with hx|hx|hx
  all_goals
   rw[hx]at he
   simp[he,hcol,er]
 subst er;simp only[oK,if_true]at hE;by_cases h27:e.op=27
 ·rw[if_pos h27]at hE
  subst hE;rw[h27]at he
  simp[he,hcol]
 rw[if_neg h27]at hE
 have hop2:e.op=28\/e.op=29:=by omega
 rcases hcc:ah with _|⟨k,_|⟨k',l⟩⟩
 ·rw[hcc]at hcol hE
  simp only at hE;subst hE;rcases hop2 with hx|hx
  all_goals
   rw[hx]at he
   simp[he,hcol]
 ·rw[hcc]at hcol hE
  simp only at hE;by_cases h29:e.op=29
  ·rw[if_pos h29]at hE
   subst hE;rw[h29]at he
   simp[he,hcol]
  ·rw[if_neg h29]at hE
   have h28:e.op=28:=by omega
   rw[h28]at he
   replace hE:E=(if aG x k=true then(3,0)else(0,50)):=hE;have hag:=iH x k;by_cases hg:aG x k=true
   ·rw[if_pos hg]at hE
    rw[hg]at hag
    subst hE;simp[he,hcol,hag]
   ·rw[if_neg hg]at hE
    simp only[Bool.not_eq_true]at hg;rw[hg]at hag
    subst hE;simp[he,hcol,hag]
 ·rw[hcc]at hcol hE
  simp only at hE;subst hE;have hne:¬((l.length:Int)+1+1=1):=by omega
  rcases hop2 with hx|hx
  all_goals
   rw[hx]at he
   simp[he,hcol,hne]
set_option maxHeartbeats 4000000 in
theorem IB(s:List eT)(env:List (List Int))(e:Ex)(hs:e.uO)(hf:e.formed=true)(hk:∀k∈e.kids,mG s env k)(hn:∀k∈e.kids,0<=(k.kind (s.map kT) env).1)(hp:∀q∈e.sub,AR s env q):mG s env e:=by
 unfold mG;refine q136g (by simp) ?_;have he:=e.aB;have hlk:e.kids.length<=1099511627776:=hs.kids;have hl':e.kids.length<=9223372036854775807:=by omega
 have hE:=Ex.xN (s.map kT) env e;have hbad:∀i (h:i<e.kids.length),(∀j (hj:j<i),(Ex.kind (s.map kT) env e.kids[j]).2=0)->¬(Ex.kind (s.map kT) env e.kids[i]).2=0->e.kind (s.map kT) env=(0,(Ex.kind (s.map kT) env e.kids[i]).2):=fun i h h1 h2=>by rw[hE,fD h h1 h2];exact if_neg h2
 have hgood:(∀j (hj:j<e.kids.length),(Ex.kind (s.map kT) env e.kids[j]).2=0)->e.kind (s.map kT) env=(if e.op=0 then(e.vk,0)else if e.op=2 then Cs env e.up e.n else if dZ e.op=true then oK e.op (e.kids.map fun k=>(Ex.kind (s.map kT) env k).1) (aF (Pn.columns (s.map kT) env) e.sub)else CF (iD e.op (e.kids.map fun k=>(Ex.kind (s.map kT) env k).1))):=fun h=>by rw[hE,fC h];exact if_pos rfl
 clear hE;generalize e.kind (s.map kT) env=E at hbad hgood ⊢;have hnk:nn (e.kids.map fun k=>(Ex.kind (s.map kT) env k).1):=fun x hx=>by obtain⟨k,hk,rfl⟩:=List.mem_map.1 hx;exact hn k hk
 generalize hks:(e.kids.map fun k=>(Ex.kind (s.map kT) env k).1)=ks at hgood hnk;have hkl:ks.length=e.kids.length:=by rw[<-hks];simp
 have hki:∀i (h:i<e.kids.length) (h':i<ks.length),ks[i]=(Ex.kind (s.map kT) env e.kids[i]).1:=by intro i h h';subst hks;simp
 clear hks hn;have hsub:=fun h x=>xq s env e hf h hp x
 rw[he];replace hkl:=Hd.mk hkl;simp;refine av (σ:=Nat) (fun i en st=>en 0=jO s/\en 2=.sl false (env.map kX)/\en 4=.ptr 4 1 0/\iU st 38 (en 8) (ks.take i)/\en 9=i6 i/\
  (∃q,st 4=⟨1,true,some (.box e.enc),q⟩)/\i<=e.kids.length/\Hd (∀j (hj:j<i) (h:j<e.kids.length),(Ex.kind (s.map kT) env e.kids[j]).2=0)) (fun i=>e.kids.length-i) ?_ 0 _ _
  ⟨by simp,by simp,by simp,.inl ⟨by simp,by simp⟩,by simp,⟨1,by simp[he]⟩,by omega,⟨fun _ h=>by omega⟩⟩
 rintro i en st ⟨e0,e2,e4,hrow,e9,⟨q4,s4⟩,hi,hA⟩ ih;have s4':=s4;rw[he]at s4'
 simp[e0,e2,e4,e9,s4'];refine aj (fun h=>?_) (fun h=>?_)<;>(have h':=h;try simp at h')<;>(try simp[*])
 ·have hc:=hk e.kids[i] (List.getElem_mem h');unfold mG at hc;have hb:=hbad i h' (fun j hj=>hA.out j hj (by omega));have hic:i<ks.length:=by have:=hkl.out;omega
  have hkie:=hki i h' hic;have hke:=e.kids[i].aB;have hA':(Ex.kind (s.map kT) env e.kids[i]).2=0->∀j (hj:j<i+1) (h:j<e.kids.length),(Ex.kind (s.map kT) env e.kids[j]).2=0:=fun g j hj h=>by
   rcases Nat.lt_or_eq_of_le (Nat.le_of_lt_succ hj)with h2|h2
   ·exact hA.out j h2 h
   ·subst h2;exact g
  have htk:=cZ hic;rw[hkie]at htk
  have hln:(ks.take i).length<=140737488355327:=by simp;omega
  replace hA':=Hd.mk hA';clear hkie;generalize Ex.kind (s.map kT) env e.kids[i]=kr at hc hb htk hA';obtain⟨k1,k2⟩:=kr;simp only at hc hb htk hA';rw[hke]at hc
  simp only[hke];by_cases k0:k2=0
  ·subst k0;generalize ks.take i=ys at hrow htk hln;rcases hrow with⟨r1,r2⟩|⟨r1,g,c,r2,r3⟩
   ·simp[hc,e0,e2,e4,e9,s4',h',hke,r2];refine ih.out (i+1) _ _ ?_ (by omega);refine⟨by simp[e0],by simp[e2],by simp[e4],?_,by simp[ai h' hl'],⟨q4,by simp[s4',s4,he]⟩,h',⟨hA'.out rfl⟩⟩;rw[htk,r1];exact .inr ⟨by simp,(st 38).g+1,_,by simp,by simp;rfl⟩
   ·simp[hc,e0,e2,e4,e9,s4',h',hke,r2,r3,hln];refine ih.out (i+1) _ _ ?_ (by omega);refine⟨by simp[e0],by simp[e2],by simp[e4],?_,by simp[ai h' hl'],⟨q4,by simp[s4',s4,he]⟩,h',⟨hA'.out rfl⟩⟩;rw[htk];exact .inr ⟨by simp,g+1,_,by simp,by simp[r3];rfl⟩
  ·have hE:=hb k0;subst hE;simp[hc,e0,e2,e4,e9,s4',h',hke,k0]
 ·have hin:i=ks.length:=by have:=hkl.out;omega
  have hE:=hgood (fun j hj=>hA.out j (by omega) hj);have hfull:ks.take i=ks:=List.take_of_length_le (by omega);rw[hfull]at hrow
  clear hbad hgood ih hA hki hfull hk hp;by_cases h0:e.op=0
  ·rw[if_pos h0]at hE
   subst hE;simp[e4,s4',h0]
  rw[if_neg h0]at hE
  by_cases h2:e.op=2
  ·rw[if_pos h2]at hE
   obtain⟨u0,n0⟩:=zi hf h2;obtain⟨u,hu⟩:∃j:Nat,e.up=j:=⟨e.up.toNat,by omega⟩
   obtain⟨m,hm⟩:∃j:Nat,e.n=j:=⟨e.n.toNat,by omega⟩
   rw[hu,hm]at s4'
   rw[hu,hm]at hE
   unfold Cs at hE;by_cases hue:u<env.length
   ·have hg:env.getD ((u:Int)).toNat []=env[u]:=by simp[hue]
    rw[hg]at hE
    by_cases hme:m<env[u].length
    ·have hg2:env[u].getD ((m:Int)).toNat 0=env[u][m]:=by simp[hme]
     rw[hg2,if_pos ⟨by omega,by omega⟩]at hE
     subst hE;have hue':¬(env.length:Int)<=u:=by omega
     have hme':¬(env[u].length:Int)<=m:=by omega
     simp[e2,e4,s4',h2,hue,hme,hue',hme']
    ·rw[if_neg (by omega)]at hE
     subst hE;have hue':¬(env.length:Int)<=u:=by omega
     have hme':(env[u].length:Int)<=m:=by omega
     simp[e2,e4,s4',h2,hue,hue',hme']
   ·rw[if_neg (by omega)]at hE
    subst hE;have hue':(env.length:Int)<=u:=by omega
    simp[e2,e4,s4',h2,hue,hue']
  rw[if_neg h2]at hE
  by_cases hso:dZ e.op=true
  ·rw[if_pos hso]at hE
   replace hsub:=hsub hso;rw[he]at hsub
   generalize aF (Pn.columns (s.map kT) env) e.sub=D at hsub hE;have hop3:e.op=27\/e.op=28\/e.op=29:=by simp[dZ]at hso;omega
   by_cases h28:e.op=28
   ·obtain⟨k0,hk0⟩:=JU hf h28;have hksl:ks.length=1:=by rw[hkl.out,hk0];rfl
    obtain⟨x,hx⟩:=CP hksl;rw[hx]at hE hrow
    have hS:=hsub x;rw[<-hE]at hS
    rw[h28]at hS
    rcases hrow with⟨r1,r2⟩|⟨r1,g,c,r2,r3⟩
    ·simp at r1
    ·simp[hS,e0,e2,e4,s4',h28,r2,r3]
   ·have hS:=hsub 0;have hq:oK e.op [0] D=oK e.op ks D:=by
     unfold oK;split
     ·split
      ·rfl
      ·rename_i h27;have h29:e.op=29:=by omega
       split
       ·rw[if_pos h29,if_pos h29]
       ·rfl
     ·rfl
    rw[hq,<-hE]at hS
    rcases hop3 with hx|hx|hx
    ·rw[hx]at hS
     simp[hS,e0,e2,e4,s4',hx]
    ·exact absurd hx h28
    ·rw[hx]at hS
     simp[hS,e0,e2,e4,s4',hx]
  ·rw[if_neg hso]at hE
   have n27:¬e.op=27:=by intro h;apply hso;rw[h];rfl
   have n28:¬e.op=28:=by intro h;apply hso;rw[h];rfl
   have n29:¬e.op=29:=by intro h;apply hso;rw[h];rfl
   have hcK:=Ci e.op ks (by rw[aS,hkl.out];exact hlk) hnk;generalize iD e.op ks=C at hcK hE;obtain⟨k,err⟩:=C;simp only[CF]at hcK hE;rcases hrow with⟨r1,r2⟩|⟨r1,g,c,r2,r3⟩
   ·have hk0:List.map u8 ks=[]:=by rw[r1];rfl
    rw[hk0]at hcK
    by_cases er:err=0
    ·rw[if_pos er]at hE
     subst hE;subst er;simp[hcK,e4,r2,s4',h0,h2,n27,n28,n29]
    ·rw[if_neg er]at hE
     by_cases er1:err=1
     ·rw[if_pos er1]at hE
      subst hE;subst er1;simp[hcK,e4,r2,s4',h0,h2,n27,n28,n29]
     ·rw[if_neg er1]at hE
      subst hE;simp[hcK,e4,r2,s4',h0,h2,n27,n28,n29,er,er1]
   ·by_cases er:err=0
    ·rw[if_pos er]at hE
     subst hE;subst er;simp[hcK,e4,r2,r3,s4',h0,h2,n27,n28,n29]
    ·rw[if_neg er]at hE
     by_cases er1:err=1
     ·rw[if_pos er1]at hE
      subst hE;subst er1;simp[hcK,e4,r2,r3,s4',h0,h2,n27,n28,n29]
     ·rw[if_neg er1]at hE
      subst hE;simp[hcK,e4,r2,r3,s4',h0,h2,n27,n28,n29,er,er1]
def iO(sc env:List (List Int))(p:Pn):List Int×Int:=
 if(aF (fun e=>bN (Ex.kind sc env e)) p.conds).2=0 then aF (Ex.kind sc env) p.exprs else([],(aF (fun e=>bN (Ex.kind sc env e)) p.conds).2)
set_option maxHeartbeats 4000000 in
theorem xg(s:List eT)(env:List (List Int))(p:Pn)(hs:p.je)(hc:∀e∈p.conds,mG s env e)(hx:∀e∈p.exprs,mG s env e) :
 call T Kj [jO s,p.enc,.sl false (env.map kX)]=some (.bU [.sl true ((iO (s.map kT) env p).1.map u8),i6 (iO (s.map kT) env p).2]):=by
 refine q137g (by simp) ?_;have he:=p.aB;have hE:iO (s.map kT) env p=if(aF (fun e=>bN (Ex.kind (s.map kT) env e)) p.conds).2=0 then aF (Ex.kind (s.map kT) env) p.exprs else([],(aF (fun e=>bN (Ex.kind (s.map kT) env e)) p.conds).2):=rfl
 generalize iO (s.map kT) env p=E at hE ⊢;replace hE:=Hd.mk hE;have loop2:E=aF (Ex.kind (s.map kT) env) p.exprs->∀(en:Env) (st:ay) (q:Nat),en 0=jO s->en 2=.sl false (env.map kX)->en 4=.ptr 4 1 0->en 11=.nil->en 12=i6 (0:Nat)->st 4=⟨1,true,some (.box p.enc),q⟩->
  wp T [It.lp Qd,It.bl 2,It.code ((IC.ops Kk).seq IC.ret)] en st (fun e s=>aC e s [fI.tmp 6,fI.tmp 7]=some (.bU [.sl true (E.1.map u8),i6 E.2])):=by
  intro hE en st q e0 e2 e4 e11 e12 s4;have hl:p.exprs.length<=1099511627776:=hs.exprs;have hl':p.exprs.length<=9223372036854775807:=by omega
  have hbad:∀i (h:i<p.exprs.length),(∀j (hj:j<i),(Ex.kind (s.map kT) env p.exprs[j]).2=0)->¬(Ex.kind (s.map kT) env p.exprs[i]).2=0->E=([],(Ex.kind (s.map kT) env p.exprs[i]).2):=fun i h a b=>by rw[hE,fD h a b]
  generalize hxs:(p.exprs.map fun k=>(Ex.kind (s.map kT) env k).1)=xs;have hgood:(∀j (hj:j<p.exprs.length),(Ex.kind (s.map kT) env p.exprs[j]).2=0)->E=(xs,0):=fun h=>by rw[hE,fC h,hxs]
  have hxl:xs.length=p.exprs.length:=by rw[<-hxs];simp
  have hxi:∀i (h:i<p.exprs.length) (h':i<xs.length),xs[i]=(Ex.kind (s.map kT) env p.exprs[i]).1:=by intro i h h';subst hxs;simp
  clear hxs hE;replace hxl:=Hd.mk hxl;refine av (σ:=Nat) (fun i en st=>en 0=jO s/\en 2=.sl false (env.map kX)/\en 4=.ptr 4 1 0/\iU st 63 (en 11) (xs.take i)/\en 12=i6 i/\(∃q,st 4=⟨1,true,some (.box p.enc),q⟩)/\i<=p.exprs.length/\Hd (∀j (hj:j<i) (h:j<p.exprs.length),(Ex.kind (s.map kT) env p.exprs[j]).2=0)) (fun i=>p.exprs.length-i) ?_ 0 _ _
   ⟨e0,e2,e4,.inl ⟨by simp,e11⟩,e12,⟨q,s4⟩,by omega,⟨fun _ h=>by omega⟩⟩
  rintro i en st ⟨e0,e2,e4,hrow,e12,⟨q4,s4⟩,hi,hA⟩ ih;have s4':=s4;rw[he]at s4'
  simp[e0,e2,e4,e12,s4'];refine aj (fun h=>?_) (fun h=>?_)<;>(have h':=h;try simp at h')<;>(try simp[*])
  ·have hcall:=hx p.exprs[i] (List.getElem_mem h');unfold mG at hcall;have hb:=hbad i h' (fun j hj=>hA.out j hj (by omega));have hix:i<xs.length:=by have:=hxl.out;omega
   have hxie:=hxi i h' hix;have hke:=p.exprs[i].aB;have hA':(Ex.kind (s.map kT) env p.exprs[i]).2=0->∀j (hj:j<i+1) (h:j<p.exprs.length),(Ex.kind (s.map kT) env p.exprs[j]).2=0:=fun g j hj h=>by
    rcases Nat.lt_or_eq_of_le (Nat.le_of_lt_succ hj)with h2|h2
    ·exact hA.out j h2 h
    ·subst h2;exact g
   have htk:=cZ hix;rw[hxie]at htk
   have hln:(xs.take i).length<=140737488355327:=by simp;omega
   replace hA':=Hd.mk hA';clear hxie;generalize Ex.kind (s.map kT) env p.exprs[i]=kr at hcall hb htk hA';obtain⟨k1,k2⟩:=kr;simp only at hcall hb htk hA';rw[hke]at hcall
   simp only[hke];by_cases k0:k2=0
   ·subst k0;generalize xs.take i=ys at hrow htk hln;rcases hrow with⟨r1,r2⟩|⟨r1,g,c,r2,r3⟩
    ·simp[hcall,e0,e2,e4,e12,s4',h',hke,r2];refine ih.out (i+1) _ _ ?_ (by omega);refine⟨by simp[e0],by simp[e2],by simp[e4],?_,by simp[ai h' hl'],⟨q4,by simp[s4',s4,he]⟩,h',⟨hA'.out rfl⟩⟩;rw[htk,r1];exact .inr ⟨by simp,(st 63).g+1,_,by simp,by simp;rfl⟩
    ·simp[hcall,e0,e2,e4,e12,s4',h',hke,r2,r3,hln];refine ih.out (i+1) _ _ ?_ (by omega);refine⟨by simp[e0],by simp[e2],by simp[e4],?_,by simp[ai h' hl'],⟨q4,by simp[s4',s4,he]⟩,h',⟨hA'.out rfl⟩⟩;rw[htk];exact .inr ⟨by simp,g+1,_,by simp,by simp[r3];rfl⟩
   ·have hE:=hb k0;subst hE;simp[hcall,e0,e2,e4,e12,s4',h',hke,k0]
  ·have hE:=hgood (fun j hj=>hA.out j (by omega) hj);have hfull:xs.take i=xs:=List.take_of_length_le (by have:=hxl.out;omega);rw[hfull]at hrow
   subst hE;rcases hrow with⟨r1,r2⟩|⟨r1,g,c,r2,r3⟩
   ·simp[r2,r1]
   ·simp[r2,r3]
 have hl:p.conds.length<=1099511627776:=hs.conds;have hl':p.conds.length<=9223372036854775807:=by omega
 have hbad:∀i (h:i<p.conds.length),(∀j (hj:j<i),(bN (Ex.kind (s.map kT) env p.conds[j])).2=0)->¬(bN (Ex.kind (s.map kT) env p.conds[i])).2=0->E=([],(bN (Ex.kind (s.map kT) env p.conds[i])).2):=fun i h a b=>by rw[hE.out,fD (f:=fun e=>bN (Ex.kind (s.map kT) env e)) h a b];exact if_neg b
 have hgood:(∀j (hj:j<p.conds.length),(bN (Ex.kind (s.map kT) env p.conds[j])).2=0)->E=aF (Ex.kind (s.map kT) env) p.exprs:=fun h=>by rw[hE.out,fC (f:=fun e=>bN (Ex.kind (s.map kT) env e)) h];exact if_pos rfl
 clear hE;replace loop2:=Hd.mk loop2;rw[he];simp;refine av (σ:=Nat) (fun i en st=>en 0=jO s/\en 2=.sl false (env.map kX)/\en 4=.ptr 4 1 0/\en 8=i6 i/\(∃q,st 4=⟨1,true,some (.box p.enc),q⟩)/\i<=p.conds.length/\Hd (∀j (hj:j<i) (h:j<p.conds.length),(bN (Ex.kind (s.map kT) env p.conds[j])).2=0)) (fun i=>p.conds.length-i) ?_ 0 _ _
  ⟨by simp,by simp,by simp,by simp,⟨1,by simp[he]⟩,by omega,⟨fun _ h=>by omega⟩⟩
 rintro i en st ⟨e0,e2,e4,e8,⟨q4,s4⟩,hi,hA⟩ ih;have s4':=s4;rw[he]at s4'
 simp[e0,e2,e4,e8,s4'];refine aj (fun h=>?_) (fun h=>?_)<;>(have h':=h;try simp at h')<;>(try simp[*])
 ·have hcall:=hc p.conds[i] (List.getElem_mem h');unfold mG at hcall;have hb:=hbad i h' (fun j hj=>hA.out j hj (by omega));have hke:=p.conds[i].aB;have hA':(bN (Ex.kind (s.map kT) env p.conds[i])).2=0->∀j (hj:j<i+1) (h:j<p.conds.length),(bN (Ex.kind (s.map kT) env p.conds[j])).2=0:=fun g j hj h=>by
   rcases Nat.lt_or_eq_of_le (Nat.le_of_lt_succ hj)with h2|h2
   ·exact hA.out j h2 h
   ·subst h2;exact g
  replace hA':=Hd.mk hA';generalize Ex.kind (s.map kT) env p.conds[i]=kr at hcall hb hA';obtain⟨k1,k2⟩:=kr;simp only at hcall;rw[hke]at hcall
  simp only[hke];have hag:=iH k1 3;by_cases k0:k2=0
  ·subst k0;by_cases hg:aG k1 3=true
   ·have hck:bN (k1,0)=(k1,0):=by simp[bN,hg]
    rw[hck]at hA'
    rw[hg]at hag
    simp[hcall,hag,e0,e2,e4,e8,s4',h',hke];refine ih.out (i+1) _ _ ?_ (by omega);exact⟨by simp[e0],by simp[e2],by simp[e4],by simp[ai h' hl'],⟨q4,by simp[s4',s4,he]⟩,h',⟨hA'.out rfl⟩⟩
   ·simp only[Bool.not_eq_true]at hg;have hck:bN (k1,0)=(0,50):=by simp[bN,hg]
    rw[hck]at hb
    have hE:=hb (by decide);rw[hg]at hag
    subst hE;simp[hcall,hag,e0,e2,e4,e8,s4',h',hke]
  ·have hck:bN (k1,k2)=(k1,k2):=by simp[bN,k0]
   rw[hck]at hb
   have hE:=hb k0;subst hE;simp[hcall,e0,e2,e4,e8,s4',h',hke,k0]
 ·have hCE:=hgood (fun j hj=>hA.out j (by omega) hj)
  try simp[e0,e2,e4,s4']
  exact loop2.out hCE _ _ q4 (by simp[e0]) (by simp[e2]) (by simp[e4]) (by simp) (by simp) (by simp[s4',s4,he])
theorem Pe{α:Type}{l:List α}(h:l.length=0):l=[]:=List.length_eq_zero_iff.1 h
theorem IL{p:Pn}(h:mq p=true)(h1:p.op=1):p.kids=[]/\p.conds=[]/\p.exprs=[]/\p.ah=[]/\p.ax=[]/\p.keys=[]:=by
 have hk:=(vI h).kids;rw[h1]at hk
 simp only[mq,bE]at h;have hf:=h.2.2.1;simp[jk,h1]at hf
 exact⟨Pe hk,hf.2.1,hf.2.2.1,hf.2.2.2.1.1,hf.2.2.2.1.2,hf.2.2.2.2.1⟩
theorem GN{α β:Type}(f:α->β×Int)(l:List α)(h:¬(aF f l).2=0):(aF f l).1=[]:=by
 induction l with
 | nil=>rfl
 | cons a l ih=>
  unfold aF at h ⊢;split
  ·split
   ·rename_i g1 g2;rw[if_pos g1,if_pos g2]at h;exact absurd rfl h
   ·rfl
  ·rfl
theorem Rx(a b:List Int)(h:¬(mD a b).2=0):(mD a b).1=[]:=by
 unfold mD at h ⊢;split
 ·rename_i g;rw[if_pos g]at h;exact GN _ _ h
 ·rfl
theorem FN(sc:List (List Int))(op table:Int)(kinds ah:List Int)(ax:List Ag)(kids:List (List Int))(own exprs:List Int)(h:¬(aM sc op table kinds ah ax kids own exprs).2=0):(aM sc op table kinds ah ax kids own exprs).1=[]:=by
 unfold aM at h ⊢;by_cases c0:op=0
 ·rw[if_pos c0]at h;exact absurd rfl h
 rw[if_neg c0]at h ⊢
 by_cases c1:op=1
 ·rw[if_pos c1]at h;exact absurd rfl h
 rw[if_neg c1]at h ⊢
 by_cases c3:op=3
 ·rw[if_pos c3]at h;exact absurd rfl h
 rw[if_neg c3]at h ⊢
 by_cases c10:op=10
 ·rw[if_pos c10]at h;exact absurd rfl h
 rw[if_neg c10]at h ⊢
 by_cases c7:op=7\/op=8
 ·rw[if_pos c7]at h;exact absurd rfl h
 rw[if_neg c7]at h ⊢
 by_cases c9:op=9
 ·rw[if_pos c9]at h ⊢
  split
  ·rename_i k hk;rw[hk]at h
   simp only at h;split
   ·rename_i g;rw[if_pos g]at h;exact absurd rfl h
   ·rfl
  ·rfl
 rw[if_neg c9]at h ⊢
 by_cases c14:14<=op
 ·rw[if_pos c14]at h ⊢;exact Rx _ _ h
 rw[if_neg c14]at h
 exact absurd rfl h
set_option maxHeartbeats 8000000 in
theorem Iw(s:List eT)(hst:∀t∈s,t.ah.length<=64)(env:List (List Int))(henv:env.length<=5864062014804)(p:Pn)(hs:p.je)(hf:p.formed=true)(hk:∀q∈p.kids,AR s env q)
 (hnn:∀q∈p.kids,nn (q.columns (s.map kT) env).1)
 (hc:∀own,nn own->∀e∈p.conds,mG s (own::env) e) (hx:∀own,nn own->∀e∈p.exprs,mG s (own::env) e):AR s env p:=by
 unfold AR
 suffices h:∃a:Fl,call T Fz [jO s,p.enc,.sl false (env.map kX)]=some (.bU [.sl a.b ((p.columns (s.map kT) env).1.map u8),i6 (p.columns (s.map kT) env).2])by obtain⟨a,ha⟩:=h;exact⟨a.b,ha⟩
 refine DZ (nt:=86) (res:=[.tmp 6,.tmp 7]) (body:=aaD) (x:=fun(fl:Fl)=>.bU [.sl fl.b ((p.columns (s.map kT) env).1.map u8),i6 (p.columns (s.map kT) env).2]) (by kernel_rfl) (by simp) ?_;have hst':∀t∈s,aS t.ah:=fun t ht=>by have:=hst t ht;show t.ah.length<=1099511627776;omega
 have he:=p.aB;have hpo:=vI (kg hf).1;have hse:=IL (kg hf).1;have hk2:p.kids.length<=2:=by rw[hpo.kids];exact wH p.op
 have hC:=Pn.nG (s.map kT) env p;have hbad:∀i (h:i<p.kids.length),(∀j (hj:j<i),(Pn.columns (s.map kT) env p.kids[j]).2=0)->¬(Pn.columns (s.map kT) env p.kids[i]).2=0->p.columns (s.map kT) env=([],(Pn.columns (s.map kT) env p.kids[i]).2):=fun i h h1 h2=>by have hkc:p.jq (s.map kT) env=([],(Pn.columns (s.map kT) env p.kids[i]).2):=fD h h1 h2;rw[hC,hkc];exact if_neg h2
 have hcn:∀r∈p.kids.map (fun k=>(Pn.columns (s.map kT) env k).1),nn r:=fun r hr=>by obtain⟨q,hq,rfl⟩:=List.mem_map.1 hr;exact hnn q hq
 generalize hcs:(p.kids.map fun k=>(Pn.columns (s.map kT) env k).1)=cs at hcn;have hgood:(∀j (hj:j<p.kids.length),(Pn.columns (s.map kT) env p.kids[j]).2=0)->p.columns (s.map kT) env =
  if p.op=1/\s.length<=p.table then([],81)else
   if bC p.ah p.ax p.keys (bH p.op cs)=0 then
    (if(iO (s.map kT) (bH p.op cs::env) p).2=0 then
     fF (aM (s.map kT) p.op p.table p.kinds p.ah p.ax cs (bH p.op cs) (iO (s.map kT) (bH p.op cs::env) p).1)
     else([],(iO (s.map kT) (bH p.op cs::env) p).2))
   else([],bC p.ah p.ax p.keys (bH p.op cs)):=fun h=>by
  have hkc:p.jq (s.map kT) env=(cs,0):=by rw[<-hcs];exact fC h
  have hown:p.own (s.map kT) env=bH p.op cs:=by unfold Pn.own;rw[hkc]
  rw[hC,hown,hkc];simp only[if_true,List.length_map];unfold iO;generalize (aF (fun e=>bN (Ex.kind (s.map kT) (bH p.op cs::env) e)) p.conds).2=b;by_cases hb:b=0
  ·rw[if_pos hb,if_pos hb]
  ·rw[if_neg hb,if_neg hb];simp only[if_neg hb]
 have hcl:cs.length=p.kids.length:=by rw[<-hcs];simp
 have hci:∀i (h:i<p.kids.length) (h':i<cs.length),cs[i]=(Pn.columns (s.map kT) env p.kids[i]).1:=by intro i h h';subst hcs;simp
 have hc64:(∀j (hj:j<p.kids.length),(Pn.columns (s.map kT) env p.kids[j]).2=0)->∀k∈cs,k.length<=64:=fun h k hk=>by obtain⟨j,hj,rfl⟩:=List.getElem_of_mem hk;rw[hci j (by omega) hj];exact(vY (s.map kT) env p.kids[j]).elim id (fun q=>absurd (h j (by omega)) q)
 clear hcs hC hnn;generalize p.columns (s.map kT) env=C at hbad hgood ⊢;rw[he];simp;refine av (σ:=Nat) (fun i en st=>en 0=jO s/\en 2=.sl false (env.map kX)/\en 4=.ptr 4 1 0/\en 9=i6 i/\(∃es,RowG st 40 (en 8) es/\fu es=(cs.take i).map kX/\aP es=true/\es.length=i)/\
  (∃q,st 4=⟨1,true,some (.box p.enc),q⟩)/\i<=p.kids.length/\Hd (∀j (hj:j<i) (h:j<p.kids.length),(Pn.columns (s.map kT) env p.kids[j]).2=0)) (fun i=>p.kids.length-i) ?_ 0 _ _
  ⟨by simp,by simp,by simp,by simp,⟨[],.inl ⟨rfl,by simp⟩,by simp,by simp,by simp⟩,⟨1,by simp[he]⟩,by omega,⟨fun _ h=>by omega⟩⟩
 rintro i en st ⟨e0,e2,e4,e9,⟨es,hrow,hsh,hdp,hel⟩,⟨q4,s4⟩,hi,hA⟩ ih;have s4':=s4;rw[he]at s4'
 replace hk2:=Hd.mk hk2;replace hcl:=Hd.mk hcl;simp[e0,e2,e4,e9,s4'];refine aj (fun h=>?_) (fun h=>?_)<;>(have h':=h;try simp at h')<;>(try simp[*])
 ·have hl':p.kids.length<=9223372036854775807:=by have:=hk2.out;omega
  obtain⟨fl,hcall⟩:=hk p.kids[i] (List.getElem_mem h');have hb:=hbad i h' (fun j hj=>hA.out j hj (by omega));have hic:i<cs.length:=by have:=hcl.out;omega
  have hkie:=hci i h' hic;have hke:=p.kids[i].aB;have hA':(Pn.columns (s.map kT) env p.kids[i]).2=0->∀j (hj:j<i+1) (h:j<p.kids.length),(Pn.columns (s.map kT) env p.kids[j]).2=0:=fun g j hj h=>by
   rcases Nat.lt_or_eq_of_le (Nat.le_of_lt_succ hj)with h2|h2
   ·exact hA.out j h2 h
   ·subst h2;exact g
  have htk:=cZ hic;rw[hkie]at htk
  replace hA':=Hd.mk hA';clear hkie;generalize Pn.columns (s.map kT) env p.kids[i]=kr at hcall hb htk hA';obtain⟨k1,k2⟩:=kr;simp only at hcall hb htk hA';rw[hke]at hcall
  simp only[hke];by_cases k0:k2=0
  ·subst k0;have hlen:es.length<=5864062014804:=by have:=hk2.out;omega
   rcases hrow with⟨r1,r2⟩|⟨r1,g,c,r2,r3⟩
   ·simp[hcall,e0,e2,e4,e9,s4',h',hke,r2];refine ih.out (i+1) _ _ ?_ (by omega);refine⟨by simp[e0],by simp[e2],by simp[e4],by simp[ai h' hl'],⟨es++[.sl fl (k1.map u8)],?_,?_,?_,?_⟩,⟨q4,by simp[s4',s4,he]⟩,h',⟨hA'.out rfl⟩⟩
    ·rw[r1];exact .inr ⟨by simp,(st 40).g+1,_,by simp,by simp;rfl⟩
    ·have hsh0:(cs.take i).map kX=[]:=by rw[<-hsh,r1];rfl
     rw[r1,htk,List.map_append,hsh0];simp
    ·rw[r1];simp
    ·simp[hel]
   ·simp[hcall,e0,e2,e4,e9,s4',h',hke,r2,r3,hlen];refine ih.out (i+1) _ _ ?_ (by omega);refine⟨by simp[e0],by simp[e2],by simp[e4],by simp[ai h' hl'],⟨es++[.sl fl (k1.map u8)],?_,?_,?_,?_⟩,⟨q4,by simp[s4',s4,he]⟩,h',⟨hA'.out rfl⟩⟩
    ·exact .inr ⟨by simp,g+1,_,by simp,by simp[r3];rfl⟩
    ·rw[htk,List.map_append,<-hsh,gX,gX];simp
    ·rw[aX]at hdp ⊢
     intro x hx;rcases List.mem_append.1 hx with hx|hx
     ·exact hdp x hx
     ·simp at hx;subst hx;simp
    ·simp[hel]
  ·have hE:=hb k0;subst hE;simp[hcall,e0,e2,e4,e9,s4',h',hke,k0]
 ·have hE:=hgood (fun j hj=>hA.out j (by omega) hj);have h64:=hc64 (fun j hj=>hA.out j (by omega) hj);have hc2:cs.length<=2:=by rw[hcl.out];exact hk2.out
  have hfull:cs.take i=cs:=List.take_of_length_le (by rw[hcl.out];omega);rw[hfull]at hsh
  clear hbad hgood ih hA hci hc64 hfull hk;by_cases h1:p.op=1
  ·obtain⟨k0,q2,q3,q4',q5,q6⟩:=hse h1;have hsc:=qI s hst' p.table hpo.table;have hcs0:cs=[]:=Pe (by rw[hcl.out,k0];rfl);subst hcs0;have hX:iO (s.map kT) (bH p.op []::env) p=([],0):=by unfold iO;rw[q2,q3];rfl
   have hN:bC p.ah p.ax p.keys (bH p.op [])=0:=by rw[q4',q5,q6];rfl
   rw[hX,hN]at hE
   by_cases hn:(s.length:Int)<=p.table
   ·rw[if_pos ⟨h1,hn⟩]at hE
    rw[if_pos hn,if_pos hn]at hsc
    subst hE;simp[e0,e4,s4',h1,hsc]
   ·rw[if_neg (fun q=>hn q.2),if_pos rfl,if_pos rfl]at hE
    have hR:aM (s.map kT) p.op p.table p.kinds p.ah p.ax [] (bH p.op []) []=((s.map kT).getD p.table.toNat [],0):=by unfold aM;rw[if_neg (by omega),if_pos h1]
    rw[hR]at hE
    have hlt:((s.map kT).getD p.table.toNat []).length<=64:=by
     have h0:=hpo.table;have hj:p.table.toNat<s.length:=by omega
     have hg:(s.map kT).getD p.table.toNat []=kT s[p.table.toNat]:=by simp[hj]
     rw[hg];simp[kT];exact hst _ (List.getElem_mem hj)
    have hW:fF ((s.map kT).getD p.table.toNat [],0)=((s.map kT).getD p.table.toNat [],0):=if_neg (fun q=>by have:=q.2;simp only at this;omega);rw[hW]at hE
    rw[if_neg hn,if_neg hn]at hsc
    subst hE;simp[e0,e4,s4',h1,hsc]
  ·rw[if_neg (fun q=>h1 q.1)]at hE
   obtain⟨fr,hrw⟩:=Ap p cs hc2 h64;have hown:=K6 p.op hcn;have hnum:=xk p hs hpo.ax (bH p.op cs);have hon:=Am (bH p.op cs) env henv;have hxo:=xg s (bH p.op cs::env) p hs (hc _ hown) (hx _ hown);have hrok:∀exprs:List Int,bC p.ah p.ax p.keys (bH p.op cs)=0->exprs.length=p.exprs.length->Jm s p cs (bH p.op cs) exprs:=fun exprs h2 h3=>by
    have hall:(p.ah.all (fun n=>decide (n<(bH p.op cs).length))&&(p.ax.all (fun a=>decide (a.fn=0)||decide (a.col<(bH p.op cs).length))&&p.keys.all (fun k=>decide (k.col<(bH p.op cs).length))))=true:=by
     unfold bC at h2;split at h2
     ·assumption
     ·simp at h2
    simp only[bE,nk,decide_eq_true_eq,Bool.or_eq_true]at hall;refine⟨hs.op.1,hpo.op,by rw[hcl.out];exact hpo.kids,fun q=>absurd q h1,hst',fun _ n hn=>⟨hpo.ah n hn,hall.1 n hn⟩,fun _ a ha q=>⟨hpo.ax a ha,?_⟩,fun q=>by rw[h3,hpo.exprs q];omega,h64⟩;rcases hall.2.1 a ha with r|r
    ·omega
    ·exact r
   have hxl:(iO (s.map kT) (bH p.op cs::env) p).2=0->(iO (s.map kT) (bH p.op cs::env) p).1.length=p.exprs.length:=fun h=>by
    unfold iO at h ⊢;split
    ·rename_i h2;rw[if_pos h2]at h
     have hz:∀(f:Ex->Int×Int) (l:List Ex),(aF f l).2=0->(aF f l).1.length=l.length:=by
      intro f l;induction l with
      | nil=>intro _;rfl
      | cons a l ih=>
       intro h;unfold aF at h ⊢;split
       ·rename_i g;rw[if_pos g]at h
        split
        ·rename_i g2;simp[ih g2]
        ·rename_i g2;rw[if_neg g2]at h;exact absurd h g2
       ·rename_i g;rw[if_neg g]at h;exact absurd h g
     exact hz _ _ h
    ·rename_i h2;rw[if_neg h2]at h;exact absurd h h2
   have hres:bC p.ah p.ax p.keys (bH p.op cs)=0->(iO (s.map kT) (bH p.op cs::env) p).2=0->_:=fun h2 h3=>DX s p hs cs (bH p.op cs) _ (hrok _ h2 (hxl h3)) h1 hcn;rw[he]at hrw hnum hxo
   rw[he]at hres
   clear hrok hxl hc hx hse;generalize iO (s.map kT) (bH p.op cs::env) p=X at hE hxo hres;obtain⟨xs,xe⟩:=X;simp only at hE hxo hres;generalize bH p.op cs=own at hE hrw hnum hon hxo hres hown;generalize bC p.ah p.ax p.keys own=N at hE hnum hres
   try simp only[List.map_cons]at hxo
   replace hE:=Hd.mk hE;by_cases hn:N=0
   ·subst hn;replace hE:=hE.out;rw[if_pos rfl]at hE
    by_cases hxe:xe=0
    ·subst hxe;rw[if_pos rfl]at hE
     obtain⟨fo,hres⟩:=hres rfl rfl;have hre:=FN (s.map kT) p.op p.table p.kinds p.ah p.ax cs own xs;generalize aM (s.map kT) p.op p.table p.kinds p.ah p.ax cs own xs=R at hres hE hre;obtain⟨rc,rerr⟩:=R;simp only at hres hre;by_cases rz:rerr=0
     ·subst rz;by_cases r64:64<rc.length
      ·have hw:fF (rc,0)=([],2):=if_pos ⟨rfl,r64⟩;rw[hw]at hE
       subst hE;have r64':(64:Int)<rc.length:=by omega
       rcases hrow with⟨r1,r2⟩|⟨r1,g,c,r2,r3⟩
       ·have hsh0:(cs.map kX)=[]:=by rw[<-hsh,r1];rfl
        rw[hsh0]at hres hrw
        simp[hrw,hnum,hon,hxo,hres,e0,e2,e4,s4',h1,r2,r64,r64']
       ·simp[hrw,hnum,hon,hxo,hres,e0,e2,e4,s4',h1,r2,r3,hdp,hsh,r64,r64']
      ·have hw:fF (rc,0)=(rc,0):=if_neg (fun q=>r64 q.2);rw[hw]at hE
       subst hE;have r64':¬(64:Int)<rc.length:=by omega
       rcases hrow with⟨r1,r2⟩|⟨r1,g,c,r2,r3⟩
       ·have hsh0:(cs.map kX)=[]:=by rw[<-hsh,r1];rfl
        rw[hsh0]at hres hrw
        simp[hrw,hnum,hon,hxo,hres,e0,e2,e4,s4',h1,r2,r64,r64']
       ·simp[hrw,hnum,hon,hxo,hres,e0,e2,e4,s4',h1,r2,r3,hdp,hsh,r64,r64']
     ·have hw:fF (rc,rerr)=(rc,rerr):=if_neg (fun q=>rz q.1);have hrc:=hre rz;subst hrc;rw[hw]at hE
      subst hE;rcases hrow with⟨r1,r2⟩|⟨r1,g,c,r2,r3⟩
      ·have hsh0:(cs.map kX)=[]:=by rw[<-hsh,r1];rfl
       rw[hsh0]at hres hrw
       simp[hrw,hnum,hon,hxo,hres,e0,e2,e4,s4',h1,r2,rz]
      ·simp[hrw,hnum,hon,hxo,hres,e0,e2,e4,s4',h1,r2,r3,hdp,hsh,rz]
    ·rw[if_neg hxe]at hE
     subst hE;rcases hrow with⟨r1,r2⟩|⟨r1,g,c,r2,r3⟩
     ·have hsh0:(cs.map kX)=[]:=by rw[<-hsh,r1];rfl
      rw[hsh0]at hrw
      simp[hrw,hnum,hon,hxo,e0,e2,e4,s4',h1,r2,hxe]
     ·simp[hrw,hnum,hon,hxo,e0,e2,e4,s4',h1,r2,r3,hdp,hsh,hxe]
   ·replace hE:=hE.out;rw[if_neg hn]at hE
    subst hE;rcases hrow with⟨r1,r2⟩|⟨r1,g,c,r2,r3⟩
    ·have hsh0:(cs.map kX)=[]:=by rw[<-hsh,r1];rfl
     rw[hsh0]at hrw
     simp[hrw,hnum,hon,hxo,e0,e2,e4,s4',h1,r2,hn]
    ·simp[hrw,hnum,hon,hxo,e0,e2,e4,s4',h1,r2,r3,hdp,hsh,hn]
theorem jh(a b:Nat)(ha:a<=401)(hb:b<=401):∃m:Nat,call T wL [i6 a,i6 b]=some (i6 m)/\m=min (a+b) 401:=by
 refine⟨_,?_,rfl⟩;refine q142g (by simp) ?_;generalize hm:min (a+b) 401=m;have hw:IntKind.i64.wrap ((a:Int)+(b:Int))=((a+b:Nat):Int):=by rw[iM (by omega) (by omega)];omega
 replace hm:=Hd.mk hm;simp[hw];refine aj (fun h=>?_) (fun h=>?_)<;>(have h':=h;try simp at h')<;>(try simp[*])
 ·have:=hm.out;omega
 ·have:=hm.out;omega
def SzE(f:Nat)(x:X)(n:Nat):Prop:=∃m:Nat,call T f [x]=some (i6 m)/\m=min n 401
theorem Zr:(∀e:Ex,e.small->SzE zw e.enc e.size)/\(∀p:Pn,p.small->SzE Fy p.enc p.size):=by
 refine dL (fun x h1 h2 hs=>?_) (fun x h1 h2 h3 hs=>?_)
 ·have hs':=Ex.cK hs;have hkkids:=fun k hk=>h1 k hk (hs'.kid k hk);have hksub:=fun k hk=>h2 k hk (hs'.subs k hk);have hlkids:x.kids.length<=9223372036854775807:=gJ hs'.kids (by decide);have hlsub:x.sub.length<=9223372036854775807:=gJ hs'.sub (by decide);have he:=x.aB;have hsz:=Ex.size_eq x;refine⟨_,?_,rfl⟩;generalize hM:min x.size 401=M;refine q133g (by simp) ?_;have loop2:∀(en:Env) (s:ay) (q n:Nat),en 1=.ptr 1 1 0->en 5=i6 (0:Nat)->en 3=i6 n->n=min (1+aU Pn.size x.sub) 401->s 1=⟨1,true,some (.box x.enc),q⟩->
   wp T [It.lp HV,It.bl 2,It.code ((IC.ops C9).seq IC.ret)] en s (fun e' s'=>aC e' s' [fI.tmp 2]=some (i6 M)):=by
   intro en s q n e1 e4 e3 hn s1;refine av (σ:=Nat) (fun i en s=>en 1=.ptr 1 1 0/\en 5=i6 i/\(∃n:Nat,en 3=i6 n/\n=min (1+aU Pn.size x.sub+aU Ex.size (x.kids.take i)) 401)/\(∃q,s 1=⟨1,true,some (.box x.enc),q⟩)/\i<=x.kids.length) (fun i=>x.kids.length-i) ?_ 0 _ _
    ⟨e1,e4,⟨n,e3,by simp[aU,hn]⟩,⟨q,s1⟩,by omega⟩
   rintro i en s ⟨e1,e4,⟨n,e3,hn⟩,⟨q,s1⟩,hi⟩ ih;have hle:=n_ (f:=Ex.size) (l:=x.kids) (i:=i);have s1':=s1;rw[he]at s1
   replace hn:=Hd.mk hn;simp[e1,e4,e3,s1];refine aY (fun h=>?_) (fun h=>?_)<;>(have h':=h;try simp at h')<;>(try simp[*])
   ·refine aj (fun h2=>?_) (fun h2=>?_)<;>(have h2':=h2;try simp at h2')<;>(try simp[*])
    ·obtain⟨m,hc,hm⟩:=hkkids x.kids[i] (List.getElem_mem h');obtain⟨m',hc',hm'⟩:=jh n m (by omega) (by omega);have hst:=jS (f:=Ex.size) h';have hke:=x.kids[i].aB;rw[hke]at hc
     simp only[hke];simp[hc,hc',e1,e4,e3,s1];refine ih.out (i+1) _ _ ?_ (by omega);exact⟨by simp[e1],by simp[ai h' hlkids],⟨m',by simp,by rw[hm',hm,hst];have:=hn.out;omega⟩,⟨q,by simp[s1',s1,he]⟩,h'⟩
    ·have hn':n=min (1+aU Pn.size x.sub+aU Ex.size x.kids) 401:=by have:=hn.out;omega
     (try simp[e3]);rw[<-hM,hn',hsz];omega
   ·have hn':n=min (1+aU Pn.size x.sub+aU Ex.size x.kids) 401:=by
     have:=hn.out;rw[jR (by omega)]at this
     exact this
    (try simp[e3]);rw[<-hM,hn',hsz];omega
  have loop1:∀(en:Env) (s:ay) (q n:Nat),en 1=.ptr 1 1 0->en 4=i6 (0:Nat)->en 3=i6 n->n=min (1) 401->s 1=⟨1,true,some (.box x.enc),q⟩->
   wp T [It.lp PX,It.bl 0,It.code (((IC.ops PY).seq (IC.block 2 (IC.loop HV))).seq ((IC.ops C9).seq IC.ret))] en s (fun e' s'=>aC e' s' [fI.tmp 2]=some (i6 M)):=by
   intro en s q n e1 e4 e3 hn s1;refine av (σ:=Nat) (fun i en s=>en 1=.ptr 1 1 0/\en 4=i6 i/\(∃n:Nat,en 3=i6 n/\n=min (1+aU Pn.size (x.sub.take i)) 401)/\(∃q,s 1=⟨1,true,some (.box x.enc),q⟩)/\i<=x.sub.length) (fun i=>x.sub.length-i) ?_ 0 _ _
    ⟨e1,e4,⟨n,e3,by simp[aU,hn]⟩,⟨q,s1⟩,by omega⟩
   rintro i en s ⟨e1,e4,⟨n,e3,hn⟩,⟨q,s1⟩,hi⟩ ih;have hle:=n_ (f:=Pn.size) (l:=x.sub) (i:=i);have s1':=s1;rw[he]at s1
   replace hn:=Hd.mk hn;simp[e1,e4,e3,s1];refine aY (fun h=>?_) (fun h=>?_)<;>(have h':=h;try simp at h')<;>(try simp[*])
   ·refine aj (fun h2=>?_) (fun h2=>?_)<;>(have h2':=h2;try simp at h2')<;>(try simp[*])
    ·obtain⟨m,hc,hm⟩:=hksub x.sub[i] (List.getElem_mem h');obtain⟨m',hc',hm'⟩:=jh n m (by omega) (by omega);have hst:=jS (f:=Pn.size) h';have hke:=x.sub[i].aB;rw[hke]at hc
     simp only[hke];simp[hc,hc',e1,e4,e3,s1];refine ih.out (i+1) _ _ ?_ (by omega);exact⟨by simp[e1],by simp[ai h' hlsub],⟨m',by simp,by rw[hm',hm,hst];have:=hn.out;omega⟩,⟨q,by simp[s1',s1,he]⟩,h'⟩
    ·have hn':n=min (1+aU Pn.size x.sub) 401:=by have:=hn.out;omega
     exact loop2 _ _ q n (by simp[e1]) (by simp) (by simp[e3]) hn' (by simp[s1',s1,he])
   ·have hn':n=min (1+aU Pn.size x.sub) 401:=by
     have:=hn.out;rw[jR (by omega)]at this
     exact this
    exact loop2 _ _ q n (by simp[e1]) (by simp) (by simp[e3]) hn' (by simp[s1',s1,he])
  rw[he];simp;exact loop1 _ _ 1 1 (by simp) (by simp) (by simp) (by omega) (by simp[he])
 ·have hs':=Pn.cK hs;have hkkids:=fun k hk=>h1 k hk (hs'.kid k hk);have hkconds:=fun k hk=>h2 k hk (hs'.cond k hk);have hkexprs:=fun k hk=>h3 k hk (hs'.expr k hk);have hlkids:x.kids.length<=9223372036854775807:=gJ hs'.kids (by decide);have hlconds:x.conds.length<=9223372036854775807:=gJ hs'.conds (by decide);have hlexprs:x.exprs.length<=9223372036854775807:=gJ hs'.exprs (by decide);have he:=x.aB;have hsz:=Pn.size_eq x;refine⟨_,?_,rfl⟩;generalize hM:min x.size 401=M;refine q132g (by simp) ?_;have loop3:∀(en:Env) (s:ay) (q n:Nat),en 1=.ptr 1 1 0->en 6=i6 (0:Nat)->en 3=i6 n->n=min (1+aU Pn.size x.kids+aU Ex.size x.conds) 401->s 1=⟨1,true,some (.box x.enc),q⟩->
   wp T [It.lp CZ,It.bl 4,It.code ((IC.ops xU).seq IC.ret)] en s (fun e' s'=>aC e' s' [fI.tmp 2]=some (i6 M)):=by
   intro en s q n e1 e4 e3 hn s1;refine av (σ:=Nat) (fun i en s=>en 1=.ptr 1 1 0/\en 6=i6 i/\(∃n:Nat,en 3=i6 n/\n=min (1+aU Pn.size x.kids+aU Ex.size x.conds+aU Ex.size (x.exprs.take i)) 401)/\(∃q,s 1=⟨1,true,some (.box x.enc),q⟩)/\i<=x.exprs.length) (fun i=>x.exprs.length-i) ?_ 0 _ _
    ⟨e1,e4,⟨n,e3,by simp[aU,hn]⟩,⟨q,s1⟩,by omega⟩
   rintro i en s ⟨e1,e4,⟨n,e3,hn⟩,⟨q,s1⟩,hi⟩ ih;have hle:=n_ (f:=Ex.size) (l:=x.exprs) (i:=i);have s1':=s1;rw[he]at s1
   replace hn:=Hd.mk hn;simp[e1,e4,e3,s1];refine aY (fun h=>?_) (fun h=>?_)<;>(have h':=h;try simp at h')<;>(try simp[*])
   ·refine aj (fun h2=>?_) (fun h2=>?_)<;>(have h2':=h2;try simp at h2')<;>(try simp[*])
    ·obtain⟨m,hc,hm⟩:=hkexprs x.exprs[i] (List.getElem_mem h');obtain⟨m',hc',hm'⟩:=jh n m (by omega) (by omega);have hst:=jS (f:=Ex.size) h';have hke:=x.exprs[i].aB;rw[hke]at hc
     simp only[hke];simp[hc,hc',e1,e4,e3,s1];refine ih.out (i+1) _ _ ?_ (by omega);exact⟨by simp[e1],by simp[ai h' hlexprs],⟨m',by simp,by rw[hm',hm,hst];have:=hn.out;omega⟩,⟨q,by simp[s1',s1,he]⟩,h'⟩
    ·have hn':n=min (1+aU Pn.size x.kids+aU Ex.size x.conds+aU Ex.size x.exprs) 401:=by have:=hn.out;omega
     (try simp[e3]);rw[<-hM,hn',hsz]
   ·have hn':n=min (1+aU Pn.size x.kids+aU Ex.size x.conds+aU Ex.size x.exprs) 401:=by
     have:=hn.out;rw[jR (by omega)]at this
     exact this
    (try simp[e3]);rw[<-hM,hn',hsz]
  have loop2:∀(en:Env) (s:ay) (q n:Nat),en 1=.ptr 1 1 0->en 5=i6 (0:Nat)->en 3=i6 n->n=min (1+aU Pn.size x.kids) 401->s 1=⟨1,true,some (.box x.enc),q⟩->
   wp T [It.lp Hz,It.bl 2,It.code (((IC.ops C8).seq (IC.block 4 (IC.loop CZ))).seq ((IC.ops xU).seq IC.ret))] en s (fun e' s'=>aC e' s' [fI.tmp 2]=some (i6 M)):=by
   intro en s q n e1 e4 e3 hn s1;refine av (σ:=Nat) (fun i en s=>en 1=.ptr 1 1 0/\en 5=i6 i/\(∃n:Nat,en 3=i6 n/\n=min (1+aU Pn.size x.kids+aU Ex.size (x.conds.take i)) 401)/\(∃q,s 1=⟨1,true,some (.box x.enc),q⟩)/\i<=x.conds.length) (fun i=>x.conds.length-i) ?_ 0 _ _
    ⟨e1,e4,⟨n,e3,by simp[aU,hn]⟩,⟨q,s1⟩,by omega⟩
   rintro i en s ⟨e1,e4,⟨n,e3,hn⟩,⟨q,s1⟩,hi⟩ ih;have hle:=n_ (f:=Ex.size) (l:=x.conds) (i:=i);have s1':=s1;rw[he]at s1
   replace hn:=Hd.mk hn;simp[e1,e4,e3,s1];refine aY (fun h=>?_) (fun h=>?_)<;>(have h':=h;try simp at h')<;>(try simp[*])
   ·refine aj (fun h2=>?_) (fun h2=>?_)<;>(have h2':=h2;try simp at h2')<;>(try simp[*])
    ·obtain⟨m,hc,hm⟩:=hkconds x.conds[i] (List.getElem_mem h');obtain⟨m',hc',hm'⟩:=jh n m (by omega) (by omega);have hst:=jS (f:=Ex.size) h';have hke:=x.conds[i].aB;rw[hke]at hc
     simp only[hke];simp[hc,hc',e1,e4,e3,s1];refine ih.out (i+1) _ _ ?_ (by omega);exact⟨by simp[e1],by simp[ai h' hlconds],⟨m',by simp,by rw[hm',hm,hst];have:=hn.out;omega⟩,⟨q,by simp[s1',s1,he]⟩,h'⟩
    ·have hn':n=min (1+aU Pn.size x.kids+aU Ex.size x.conds) 401:=by have:=hn.out;omega
     exact loop3 _ _ q n (by simp[e1]) (by simp) (by simp[e3]) hn' (by simp[s1',s1,he])
   ·have hn':n=min (1+aU Pn.size x.kids+aU Ex.size x.conds) 401:=by
     have:=hn.out;rw[jR (by omega)]at this
     exact this
    exact loop3 _ _ q n (by simp[e1]) (by simp) (by simp[e3]) hn' (by simp[s1',s1,he])
  have loop1:∀(en:Env) (s:ay) (q n:Nat),en 1=.ptr 1 1 0->en 4=i6 (0:Nat)->en 3=i6 n->n=min (1) 401->s 1=⟨1,true,some (.box x.enc),q⟩->
   wp T [It.lp PV,It.bl 0,It.code (((IC.ops PW).seq (IC.block 2 (IC.loop Hz))).seq (((IC.ops C8).seq (IC.block 4 (IC.loop CZ))).seq ((IC.ops xU).seq IC.ret)))] en s (fun e' s'=>aC e' s' [fI.tmp 2]=some (i6 M)):=by
   intro en s q n e1 e4 e3 hn s1;refine av (σ:=Nat) (fun i en s=>en 1=.ptr 1 1 0/\en 4=i6 i/\(∃n:Nat,en 3=i6 n/\n=min (1+aU Pn.size (x.kids.take i)) 401)/\(∃q,s 1=⟨1,true,some (.box x.enc),q⟩)/\i<=x.kids.length) (fun i=>x.kids.length-i) ?_ 0 _ _
    ⟨e1,e4,⟨n,e3,by simp[aU,hn]⟩,⟨q,s1⟩,by omega⟩
   rintro i en s ⟨e1,e4,⟨n,e3,hn⟩,⟨q,s1⟩,hi⟩ ih;have hle:=n_ (f:=Pn.size) (l:=x.kids) (i:=i);have s1':=s1;rw[he]at s1
   replace hn:=Hd.mk hn;simp[e1,e4,e3,s1];refine aY (fun h=>?_) (fun h=>?_)<;>(have h':=h;try simp at h')<;>(try simp[*])
   ·refine aj (fun h2=>?_) (fun h2=>?_)<;>(have h2':=h2;try simp at h2')<;>(try simp[*])
    ·obtain⟨m,hc,hm⟩:=hkkids x.kids[i] (List.getElem_mem h');obtain⟨m',hc',hm'⟩:=jh n m (by omega) (by omega);have hst:=jS (f:=Pn.size) h';have hke:=x.kids[i].aB;rw[hke]at hc
     simp only[hke];simp[hc,hc',e1,e4,e3,s1];refine ih.out (i+1) _ _ ?_ (by omega);exact⟨by simp[e1],by simp[ai h' hlkids],⟨m',by simp,by rw[hm',hm,hst];have:=hn.out;omega⟩,⟨q,by simp[s1',s1,he]⟩,h'⟩
    ·have hn':n=min (1+aU Pn.size x.kids) 401:=by have:=hn.out;omega
     exact loop2 _ _ q n (by simp[e1]) (by simp) (by simp[e3]) hn' (by simp[s1',s1,he])
   ·have hn':n=min (1+aU Pn.size x.kids) 401:=by
     have:=hn.out;rw[jR (by omega)]at this
     exact this
    exact loop2 _ _ q n (by simp[e1]) (by simp) (by simp[e3]) hn' (by simp[s1',s1,he])
  rw[he];simp;exact loop1 _ _ 1 1 (by simp) (by simp) (by simp) (by omega) (by simp[he])
theorem IG(s:List eT)(hst:∀t∈s,t.ah.length<=64)(hsn:∀r∈s.map kT,nn r) :
 (∀e:Ex,e.small->e.formed=true->∀env:List (List Int),(∀r∈env,nn r)->env.length+e.depth<=5864062014804->mG s env e)/\
 (∀p:Pn,p.small->p.formed=true->∀env:List (List Int),(∀r∈env,nn r)->env.length+p.depth<=5864062014804->AR s env p):=by
 have hnb:=Ty hsn;refine dL (fun e h1 h2 hs hf env hv hd=>?_) (fun x h1 h2 h3 hs hf env hv hd=>?_)
 ·have hs':=Ex.cK hs;have hf':=iZ hf;exact IB s env e hs' hf (fun k hk=>h1 k hk (hs'.kid k hk) (hf'.2.1 k hk) env hv (by have:=JB hk;omega)) (fun k hk=>hnb.1 k (hs'.kid k hk) env hv) (fun k hk=>h2 k hk (hs'.subs k hk) (hf'.2.2 k hk) env hv (by have:=JC hk;omega))
 ·have hs':=Pn.cK hs;have hf':=kg hf;have hv':∀own,nn own->∀r∈own::env,nn r:=fun own ho r hr=>by
   rcases List.mem_cons.1 hr with rfl|hr
   ·exact ho
   ·exact hv r hr
  exact Iw s hst env (by omega) x hs' hf (fun k hk=>h1 k hk (hs'.kid k hk) (hf'.2.1 k hk) env hv (by have:=Em hk;omega)) (fun k hk=>hnb.2 k (hs'.kid k hk) env hv)
   (fun own ho k hk=>h2 k hk (hs'.cond k hk) (hf'.2.2.1 k hk) (own::env) (hv' own ho) (by have:=Ej hk;simp;omega))
   (fun own ho k hk=>h3 k hk (hs'.expr k hk) (hf'.2.2.2 k hk) (own::env) (hv' own ho) (by have:=El hk;simp;omega))
set_option maxHeartbeats 1000000 in
theorem rC(env:List (List Int))(he:tF env):call T Kq [.sl false (env.map kX)]=some (.v (.bool (env.all aT))):=by
 refine q144g (by simp) ?_;have hl:env.length<=1099511627776:=he.1;have hl':env.length<=9223372036854775807:=by omega
 have hbad:∀i (h:i<env.length),aT env[i]=false->env.all aT=false:=fun i h g=>bT h g;have hgood:(∀i (h:i<env.length),aT env[i]=true)->env.all aT=true:=bg;generalize env.all aT=R at hbad hgood ⊢;simp;refine av (σ:=Nat) (fun i e s=>e 0=.sl false (env.map kX)/\e 3=i6 i/\i<=env.length/\Hd (∀j (hj:j<i) (h:j<env.length),aT env[j]=true)) (fun i=>env.length-i) ?_ 0 _ _ ⟨by simp,by simp,by omega,⟨fun _ h=>by omega⟩⟩;rintro i e s ⟨e0,e3,hi,hA⟩ ih;simp[e0,e3];refine aj (fun h=>?_) (fun h=>?_)<;>(have h':=h;try simp at h')<;>(try simp[*])
 ·have hb:=hbad i h';have hll:env[i].length<=1099511627776:=he.2 _ (List.getElem_mem h');have hll':env[i].length<=9223372036854775807:=by omega
  have hg:Hd (aT env[i]=true->∀j (hj:j<i+1) (h:j<env.length),aT env[j]=true):=⟨fun g j hj h=>by
   rcases Nat.lt_or_eq_of_le (Nat.le_of_lt_succ hj)with h2|h2
   ·exact hA.out j h2 h
   ·subst h2;exact g⟩
  have hb2:Hd (∀j (hj:j<env[i].length),¬env[i][j]<=3->R=false):=⟨fun j hj g=>hb (bT (p:=fun k=>decide (k<=3)) hj (by simpa using g))⟩
  replace ih:=Hd.mk ih;refine av (σ:=Nat) (fun j e s=>e 0=.sl false (env.map kX)/\e 3=i6 i/\e 4=i6 j/\j<=env[i].length/\Hd (∀q (hq:q<j) (h:q<env[i].length),decide (env[i][q]<=3)=true)) (fun j=>env[i].length-j) ?_ 0 _ _ ⟨by simp[e0],by simp[e3],by simp,by omega,⟨fun _ h=>by omega⟩⟩;rintro j e s ⟨e0,e3,e4,hj,hB⟩ ih2;simp[e0,e3,e4,h'];refine aj (fun g=>?_) (fun g=>?_)<;>(have g':=g;try simp at g')<;>(try simp[*])
  ·by_cases k:env[i][j]<=3
   ·have k':¬3<env[i][j]:=by omega
    have hB':∀q (hq:q<j+1) (h:q<env[i].length),decide (env[i][q]<=3)=true:=fun q hq h=>by
     rcases Nat.lt_or_eq_of_le (Nat.le_of_lt_succ hq)with h2|h2
     ·exact hB.out q h2 h
     ·subst h2;simpa using k
    simp[e0,e3,e4,h',g',k'];refine ih2.out (j+1) _ _ ?_ (by omega);exact⟨by simp[e0],by simp[e3],by simp[ai g' hll'],g',⟨hB'⟩⟩
   ·have k':3<env[i][j]:=by omega
    have hR:=hb2.out j g' k;subst hR;simp[e0,e3,e4,h',g',k']
  ·have hkb:aT env[i]=true:=bg (p:=fun k=>decide (k<=3)) (fun q hq=>hB.out q (by omega) hq)
   try simp[e0,e3,e4]
   refine ih.out.out (i+1) _ _ ?_ (by omega);exact⟨by simp[e0],by simp[ai h' hl'],h',⟨hg.out hkb⟩⟩
 ·have hR:=hgood (fun j hj=>hA.out j (by omega) hj);subst hR;simp
theorem Cj(s:List eT)(hval:call T zq [jO s]=some (.v (.bool (bP (eP s)))))(hst:eP s->∀t∈s,t.ah.length<=64)(hsn:∀r∈s.map kT,nn r)(env:List (List Int))(hv:tF env)(hvn:∀r∈env,nn r)(e:Ex)(he:e.small):call T Fw [jO s,e.enc,.sl false (env.map kX)]=some (.bU [u8 (eY s env e).1,i6 (eY s env e).2]):=by
 refine q130g (by simp) ?_;obtain⟨m,hsz,hm⟩:=Zr.1 e he;have hfo:=zM.1 e he;have hke:=rC env hv;have hk:eP s->¬400<m->¬400<env.length->e.formed=true->mG s env e:=fun h h4 h5 hf=>by have:=En.1 e;exact(IG s (hst h) hsn).1 e he hf env hvn (by omega)
 unfold mG at hk;unfold eY wI;have hee:=e.aB;rw[<-hm];generalize e.formed=F at hfo hk ⊢;generalize e.kind (s.map kT) env=E at hk ⊢;obtain⟨E1,E2⟩:=E;simp only at hk;rw[hee]at hsz hfo hk ⊢
 by_cases hS:eP s
 ·have hbp:bP (eP s)=true:=Ca.2 hS;rw[hbp]at hval ⊢
  generalize env.all aT=B at hke ⊢;cases B
  ·simp[hval,hke]
  ·replace hk:=hk hS;by_cases h4:400<m
   ·have h4':(400:Int)<m:=by omega
    simp[hval,hke,hsz,h4,h4']
   ·have h4':¬(400:Int)<m:=by omega
    by_cases h5:400<env.length
    ·have h5':(400:Int)<env.length:=by omega
     simp[hval,hke,hsz,h4,h4',h5,h5']
    ·have h5':¬(400:Int)<env.length:=by omega
     replace hk:=hk h4 h5;cases F
     ·simp[hval,hke,hsz,hfo,h4,h4',h5,h5']
     ·have hk:=hk rfl;simp[hval,hke,hsz,hfo,hk,h4,h4',h5,h5']
 ·have hbp:bP (eP s)=false:=by
   cases hb:bP (eP s)
   ·rfl
   ·exact absurd (Ca.1 hb) hS
  rw[hbp]at hval ⊢
  simp[hval]
end Go.Proofs.YtbmkfjmlepjpfaaGreatDoor
