/- A part of the proof. -/
import Derived.Test.YtbmkfjmlepjpfaaGreatDoorKe
import Derived.Test.YtbmkfjmlepjpfaaGreatDoorFp
import Derived.Test.YtbmkfjmlepjpfaaGreatDoorVv
import Derived.Test.YtbmkfjmlepjpfaaGreatDoorEa
set_option linter.all false
set_option maxRecDepth 100000
namespace Go.Proofs.YtbmkfjmlepjpfaaGreatDoor
open Go.RowKit
abbrev kX(k:List Int):X:=.sl false (k.map u8)
@[simp] theorem deepL_kX(l:List (List Int)):aT (l.map kX)=true:=dh (by simp) l
@[simp] theorem shrL_kX(l:List (List Int)):gB (l.map kX)=l.map kX:=fO (by simp) l
def kT(t:fZ):List Int:=t.ah.map (·.kind)
theorem Nc{α:Type}{l:List α}(h:l.length<=2):l=[]\/(∃a,l=[a])\/∃a b,l=[a,b]:=by
 rcases l with _|⟨a,_|⟨b,_|⟨c,l⟩⟩⟩
 ·exact .inl rfl
 ·exact .inr (.inl ⟨a,rfl⟩)
 ·exact .inr (.inr ⟨a,b,rfl⟩)
 ·simp at h
theorem EB(row:List Int)(env:List (List Int))(h1:env.length<=5864062014804):call T Ye [kX row,.sl false (env.map kX)]=some (.sl true (kX row::env.map kX)):=by refine q27g (by simp) ?_;have htk:(env.map kX).take env.length=env.map kX:=wU (by simp);simp[h1,Nat.add_comm 1 env.length,htk]
theorem GX(own:List Int)(n:Int):call T UB [i6 n,.ip (.sl false (own.map u8)) 0]=some (.v (.bool (decide (n<own.length)))):=by refine q24g (by simp) ?_;simp
theorem GY(own:List Int)(a:Ag):call T UC [a.enc,.ip (.sl false (own.map u8)) 0]=some (.v (.bool (decide (a.fn=0)||decide (a.col<own.length)))):=by
 refine q25g (by simp) ?_;by_cases h:a.fn=0
 ·simp[h]
 ·simp[h]
theorem GZ(own:List Int)(k:Ky):call T UD [k.enc,.ip (.sl false (own.map u8)) 0]=some (.v (.bool (decide (k.col<own.length)))):=by refine q26g (by simp) ?_;simp
def iL(own:List Int)(a:Ag):Bool:=(!decide (a.fn=2)&&!decide (a.fn=5))||aL (own.getD a.col.toNat 0) 1
def zu(own:List Int)(a:Ag):Bool:=decide (a.fn=0)||decide (a.col<own.length)
set_option maxHeartbeats 1000000 in
theorem vw(p:Pn)(hs:p.jO)(hf:∀a∈p.aA,0<=a.col)(own:List Int):call T Yd [p.enc,kX own]=some (i6 (bQ p.ah p.aA p.keys own)):=by
 refine q23g (by simp) ?_;have he:=p.ay;have hl:p.aA.length<=9223372036854775807:=iq hs.aA (by decide);have a1:=Ph own p.ah hs.ah UB (fun n=>decide (n<own.length)) (fun k _=>GX own k);have a2:=J_ own p.aA hs.aA UC (zu own) (fun k _=>GY own k);have a3:=Ka own p.keys hs.keys UD (fun k=>decide (k.col<own.length)) (fun k _=>GZ own k);have hN:bQ p.ah p.aA p.keys own=if(p.ah.all (fun n=>decide (n<own.length))&&(p.aA.all (zu own)&&p.keys.all (fun k=>decide (k.col<own.length))))=true then(if p.aA.all (iL own)=true then 0 else 50)else 81:=rfl
 have hin:p.aA.all (zu own)=true->∀(i:Nat) (h:i<p.aA.length),zu own p.aA[i]=true:=fun h i hi=>List.all_eq_true.1 h _ (gG hi);rw[hN];clear hN;generalize p.ah.all (fun n=>decide (n<own.length))=B1 at a1 ⊢;generalize p.aA.all (zu own)=B2 at a2 hin ⊢;generalize p.keys.all (fun k=>decide (k.col<own.length))=B3 at a3 ⊢;rw[he];cases B1
 ·simp[a1]
 cases B2
 ·simp[a1,a2]
 cases B3
 ·simp[a1,a2,a3]
 have hbad:∀i (h:i<p.aA.length),iL own p.aA[i]=false->p.aA.all (iL own)=false:=fun i h g=>dz h g;have hgood:(∀i (h:i<p.aA.length),iL own p.aA[i]=true)->p.aA.all (iL own)=true:=bH;replace hin:=hin rfl;generalize p.aA.all (iL own)=R at hbad hgood ⊢;simp[a1,a2,a3];refine av (σ:=Nat) (fun i e s=>e 3=.ptr 3 1 0/\e 29=.sl false (p.aA.map Ag.enc)/\e 30=i6 p.aA.length/\e 31=i6 i/\(∃q,s 3=⟨1,true,some (.box (kX own)),q⟩)/\i<=p.aA.length/\Hd (∀j (hj:j<i) (h:j<p.aA.length),iL own p.aA[j]=true)) (fun i=>p.aA.length-i) ?_ 0 _ _
  ⟨by simp,by simp,by simp,by simp,⟨_,by simp;rfl⟩,by omega,⟨fun _ h=>by omega⟩⟩
 rintro i e s ⟨h3,h29,h30,h31,⟨q,s3⟩,hi,hA⟩ ih;simp[h3,h29,h30,h31];refine aj (fun h=>?_) (fun h=>?_)<;>(have h':=h;try simp at h')<;>(try simp[*])
 ·have hb:=hbad i h';have hg:Hd (iL own p.aA[i]=true->∀j (hj:j<i+1) (h:j<p.aA.length),iL own p.aA[j]=true):=⟨fun g j hj h=>by
   rcases qP (qQ hj)with h2|h2
   ·exact hA.out j h2 h
   ·subst h2;exact g⟩
  have hv:iL own p.aA[i]=((!decide (p.aA[i].fn=2)&&!decide (p.aA[i].fn=5))||aL (own.getD p.aA[i].col.toNat 0) 1):=rfl;have hii:zu own p.aA[i]=(decide (p.aA[i].fn=0)||decide (p.aA[i].col<own.length)):=rfl;have hin':=hin i h';rw[hii]at hin'
  have hc0:=hf p.aA[i] (gG h');generalize iL own p.aA[i]=v at hb hg hv;have next:∀e' s' q',v=true->e' 3=.ptr 3 1 0->e' 29=.sl false (p.aA.map Ag.enc)->e' 30=i6 p.aA.length->e' 31=i6 ((i+1:Nat):Int)->s' 3=⟨1,true,some (.box (kX own)),q'⟩->wp T [It.lp abS,It.bl 0,It.code ((IC.ops UA).seq IC.ret)] e' s' (fun e s=>aC e s [gQ.tmp 4]=some (i6 (if(true&&(true&&true))=true then if R=true then 0 else 50 else 81))):=
   fun e' s' q' g a b c d f=>ih.out (i+1) e' s' ⟨a,b,c,d,⟨q',f⟩,h',⟨hg.out g⟩⟩ (by omega)
  replace next:=Hd.mk next
  clear ih hg hii;generalize p.aA[i]=a at hv hin' hc0 ⊢;obtain⟨fn,col,ZG⟩:=a;simp only at hv hin' hc0;by_cases f2:fn=2\/fn=5
  ·have f0:¬fn=0:=by omega
   have hcl:col<own.length:=by simpa[f0]using hin'
   obtain⟨j,rfl⟩:∃j:Nat,col=j:=⟨col.toNat,by omega⟩
   have hj:j<own.length:=by omega
   have hag:=iD own[j] 1;have hv':v=aL own[j] 1:=by rw[hv];rcases f2 with rfl|rfl<;>simp[hj]
   rw[<-hv']at hag
   cases v
   ·have hb':=hb rfl;subst hb';rcases f2 with rfl|rfl
    ·simp[hag,hj,h3,h29,h30,h31,s3]
    ·simp[hag,hj,h3,h29,h30,h31,s3]
   ·rcases f2 with rfl|rfl
    ·simp[hag,hj,h3,h29,h30,h31,s3];exact next.out _ _ q rfl (by simp[h3]) (by simp[h29]) (by simp[h30]) (by simp[ai h' hl]) (by simp[s3])
    ·simp[hag,hj,h3,h29,h30,h31,s3];exact next.out _ _ q rfl (by simp[h3]) (by simp[h29]) (by simp[h30]) (by simp[ai h' hl]) (by simp[s3])
  ·have f2':¬fn=2:=fun h=>f2 (.inl h);have f5':¬fn=5:=fun h=>f2 (.inr h);have hv':v=true:=by rw[hv];simp[f2',f5']
   simp[f2',f5',h3,h29,h30,h31,s3];exact next.out _ _ q hv' (by simp[h3]) (by simp[h29]) (by simp[h30]) (by simp[ai h' hl]) (by simp[s3])
 ·have hR:=hgood (fun j hj=>hA.out j (by omega) hj);subst hR;simp
theorem CS(op:Int)(kids:List (List Int))(h:kids.length<=2)(hl:∀k∈kids,k.length<=64):call T Yf [u8 op,.sl false (kids.map kX)]=some (.sl true ((bT op kids).map u8)):=by
 refine q30g (by simp) ?_;have w1:IntKind.i64.wrap 1=1:=by decide
 have w2:IntKind.i64.wrap 2=2:=by decide
 rcases Nc h with rfl|⟨a,rfl⟩|⟨a,b,rfl⟩
 ·simp[bT];rw[gD];simp
 ·have ha:a.length<=140737488355328:=iq (hl a (by simp)) (by decide);by_cases h9:op=9
  ·by_cases a0:a=[]
   ·subst a0;simp[bT,h9];rw[gD];simp[w1,w2,h9];rw[gD];simp[w1,w2,h9]
   ·simp[bT,h9,a0,ha];rw[gD];simp[w1,w2,h9,a0,ha];rw[gD];simp[w1,w2,h9,a0,ha]
  ·by_cases a0:a=[]
   ·subst a0;simp[bT,h9];rw[gD];simp[w1,w2,h9];rw[gD];simp[w1,w2,h9]
   ·simp[bT,h9,a0,ha];rw[gD];simp[w1,w2,h9,a0,ha];rw[gD];simp[w1,w2,h9,a0,ha]
 ·have ha:a.length<=140737488355328:=iq (hl a (by simp)) (by decide);have hb:b.length<=140737488355328:=iq (hl b (by simp)) (by decide);have ha':=hl a (by simp);have hb':=hl b (by simp);have hab:a.length+b.length<=140737488355328:=by omega
  by_cases h9:op=9
  ·by_cases a0:a=[]
   ·subst a0;simp[bT,h9];rw[gD];simp[w1,w2,h9];rw[gD];simp[w1,w2,h9];rw[gD];simp[w1,w2,h9]
   ·simp[bT,h9,a0,ha];rw[gD];simp[w1,w2,h9,a0,ha];rw[gD];simp[w1,w2,h9,a0,ha];rw[gD];simp[w1,w2,h9,a0,ha]
  ·by_cases a0:a=[]
   ·subst a0;by_cases b0:b=[]
    ·subst b0;simp[bT,h9];rw[gD];simp[w1,w2,h9];rw[gD];simp[w1,w2,h9];rw[gD];simp[w1,w2,h9]
    ·simp[bT,h9,b0,hb];rw[gD];simp[w1,w2,h9,b0,hb];rw[gD];simp[w1,w2,h9,b0,hb];rw[gD];simp[w1,w2,h9,b0,hb]
   ·by_cases b0:b=[]
    ·subst b0;simp[bT,h9,a0,ha];rw[gD];simp[w1,w2,h9,a0,ha];rw[gD];simp[w1,w2,h9,a0,ha];rw[gD];simp[w1,w2,h9,a0,ha]
    ·simp[bT,h9,a0,b0,ha,hb,hab];rw[gD];simp[w1,w2,h9,a0,b0,ha,hb,hab];rw[gD];simp[w1,w2,h9,a0,b0,ha,hb,hab];rw[gD];simp[w1,w2,h9,a0,b0,ha,hb,hab];exact⟨by rw[<-List.map_append];exact Hz _,wU (by simp)⟩
theorem dJ{α:Type}{l:List α}{i:Nat}(h:i<l.length):l.take (i+1)=l.take i++[l[i]]:=by rw[List.take_succ];simp[h]
def oV(s:ax)(o1 o2:Nat)(x:X)(es:List Int):Prop:=(es=[]/\x=.nil)\/(¬es=[]/\∃o g n,(o=o1\/o=o2)/\x=.ref o g 1 0 es.length/\s o=⟨g,true,some (.row 1 (es.map u8)),n⟩)
structure MH (s:List fZ) (p:Pn) (kids:List (List Int)) (own exprs:List Int):Prop where
 op0:0<=p.op
 op16:p.op<=16
 ZQ:kids.length=aR p.op
 table:p.op=1->0<=p.table/\p.table<s.length
 tabs:∀t∈s,aV t.ah
 RP:p.op=10->∀n∈p.ah,0<=n/\n<own.length
 Rs:p.op=10->∀a∈p.aA,a.fn=3\/a.fn=4->0<=a.col/\a.col<own.length
 R7:p.op=9->1<=exprs.length
 small:∀k∈kids,k.length<=64
def dK(own:List Int)(a:Ag):Int:=if a.fn=3\/a.fn=4 then own.getD a.col.toNat 0 else 1
def fw(x:Int×Int):Int×Int:=if aL x.1 x.2=true then(max x.1 x.2,0)else(0,50)
set_option maxHeartbeats 4000000 in
theorem xu(s:List fZ)(p:Pn)(hs:p.jO)(kids:List (List Int))(own exprs:List Int)(ho:MH s p kids own exprs) :
 ∃fl,call T XO [.agg [.sl false (s.map fZ.enc)],p.enc,.sl false (kids.map kX),kX own,kX exprs]=some (.cZ [.sl fl ((aQ (s.map kT) p.op p.table p.kinds p.ah p.aA kids own exprs).1.map u8),i6 (aQ (s.map kT) p.op p.table p.kinds p.ah p.aA kids own exprs).2]):=by
 have he:=p.ay;by_cases h0:p.op=0
 ·refine⟨true,?_⟩;refine BU (by simp) ?_;have hR:aQ (s.map kT) p.op p.table p.kinds p.ah p.aA kids own exprs=(p.kinds,0):=if_pos h0;rw[hR];rw[h0]at he
  have hkl:p.kinds.length<=1099511627776:=hs.kinds;by_cases k0:p.kinds=[]
  ·simp[he,k0]
  ·simp[he,k0,show p.kinds.length<=140737488355328 by omega]
 by_cases h1:p.op=1
 ·refine⟨true,?_⟩;refine BU (by simp) ?_;obtain⟨ht0,ht1⟩:=ho.table h1;obtain⟨j,hj⟩:∃j:Nat,p.table=j:=⟨p.table.toNat,by omega⟩
  have hjs:j<s.length:=by omega
  have hR:aQ (s.map kT) p.op p.table p.kinds p.ah p.aA kids own exprs=(kT s[j],0):=by unfold aQ;rw[if_neg h0,if_pos h1,hj];simp[hjs]
  rw[hR];have htl:s[j].ah.length<=1099511627776:=ho.tabs s[j] (gG hjs);have hl':s[j].ah.length<=9223372036854775807:=by omega
  rw[h1,hj]at he
  generalize hT:s[j]=t at htl hl' ⊢;simp[he,hjs,hT];refine av (σ:=Nat) (fun i e s=>e 51=.sl false (t.ah.map sM.enc)/\e 52=i6 t.ah.length/\e 53=i6 i/\jF s 61 (e 12) ((kT t).take i)/\i<=t.ah.length) (fun i=>t.ah.length-i) ?_ 0 _ _
   ⟨by simp,by simp,by simp,.inl ⟨by simp,by simp⟩,by omega⟩
  rintro i e s ⟨e51,e52,e53,hrow,hi⟩ ih;simp[e51,e52,e53];refine aj (fun h=>?_) (fun h=>?_)<;>(have h':=h;try simp at h')<;>(try simp[*])
  ·have hkl:i<(kT t).length:=by simp[kT];exact h'
   have hst:=dJ hkl;have hel:(kT t)[i]=t.ah[i].kind:=by simp[kT]
   rw[hel]at hst
   have hln:((kT t).take i).length<=140737488355327:=by simp[kT];omega
   rcases hrow with⟨r1,r2⟩|⟨r1,g,c,r2,r3⟩
   ·simp[e51,e52,e53,r2];refine ih.out (i+1) _ _ ?_ (by omega);refine⟨by simp[e51],by simp[e52],by simp[ai h' hl'],?_,h'⟩;rw[hst,r1];exact .inr ⟨by simp,(s 61).g+1,_,by simp,by simp;rfl⟩
   ·generalize (kT t).take i=es at hst hln r1 r2 r3;simp[e51,e52,e53,r2,r3,hln];refine ih.out (i+1) _ _ ?_ (by omega);refine⟨by simp[e51],by simp[e52],by simp[ai h' hl'],?_,h'⟩;rw[hst];exact .inr ⟨by simp,g+1,_,by simp,by simp[r3];rfl⟩
  ·have hfull:(kT t).take i=kT t:=wU (by simp[kT];omega);rw[hfull]at hrow
   rcases hrow with⟨r1,r2⟩|⟨r1,g,c,r2,r3⟩
   ·simp[r2,r1]
   ·simp[r2,r3]
 by_cases h3:p.op=3
 ·refine⟨false,?_⟩;refine BU (by simp) ?_;have hR:aQ (s.map kT) p.op p.table p.kinds p.ah p.aA kids own exprs=(exprs,0):=by unfold aQ;rw[if_neg h0,if_neg h1,if_pos h3]
  rw[hR];rw[h3]at he
  simp[he]
 by_cases h10:p.op=10
 ·refine⟨true,?_⟩;refine BU (by simp) ?_;have hR:aQ (s.map kT) p.op p.table p.kinds p.ah p.aA kids own exprs=(p.ah.map (fun n=>own.getD n.toNat 0)++p.aA.map (dK own),0):=by unfold aQ;rw[if_neg h0,if_neg h1,if_neg h3,if_pos h10];rfl
  rw[hR];have hcols:=Hd.mk (ho.RP h10);have haggs:=ho.Rs h10;have hcl:p.ah.length<=1099511627776:=hs.ah;have hal:p.aA.length<=1099511627776:=hs.aA;have hcl':p.ah.length<=9223372036854775807:=by omega
  have hal':p.aA.length<=9223372036854775807:=by omega
  rw[h10]at he
  generalize hF:p.ah.map (fun n=>own.getD n.toNat 0)++p.aA.map (dK own)=F;dsimp only;generalize hC:p.ah.map (fun n=>own.getD n.toNat 0)=C at hF;replace hF:=Hd.mk hF;have hCl:C.length=p.ah.length:=by rw[<-hC];simp
  have hCi:∀i (h:i<p.ah.length) (h':i<C.length),C[i]=own.getD p.ah[i].toNat 0:=by intro i h h';subst hC;simp
  have loop3:∀(K:List It) (en:Env) (st:ax) (q:Nat),en 3=kX own->en 81=.sl false (p.aA.map Ag.enc)->en 82=i6 p.aA.length->en 83=i6 (0:Nat)->oV st 78 103 (en 12) C->wp T (It.lp Ue::It.bl 12::It.code ((IC.ops Ls).seq IC.ret)::K) en st (fun e s=>aC e s [gQ.tmp 10,gQ.tmp 11]=some (.cZ [.sl true (F.map u8),i6 0])):=by
   intro K en st q e3 e81 e82 e83 hrow;refine av (σ:=Nat) (fun i e s=>e 3=kX own/\e 81=.sl false (p.aA.map Ag.enc)/\e 82=i6 p.aA.length/\e 83=i6 i/\oV s 78 103 (e 12) (C++(p.aA.map (dK own)).take i)/\i<=p.aA.length) (fun i=>p.aA.length-i) ?_ 0 _ _
    ⟨e3,e81,e82,e83,by rw[List.take_zero,List.append_nil];exact hrow,by omega⟩
   rintro i e s ⟨e3,e81,e82,e83,hrow,hi⟩ ih;simp[e3,e81,e82,e83];refine aj (fun h=>?_) (fun h=>?_)<;>(have h':=h;try simp at h')<;>(try simp[*])
   ·have hkl:i<(p.aA.map (dK own)).length:=by simpa using h'
    have hst:=dJ hkl;have hel:(p.aA.map (dK own))[i]=dK own p.aA[i]:=by simp
    rw[hel]at hst
    have hln:(C++(p.aA.map (dK own)).take i).length<=140737488355327:=by simp;omega
    have hao:dK own p.aA[i]=if p.aA[i].fn=3\/p.aA[i].fn=4 then own.getD p.aA[i].col.toNat 0 else 1:=rfl
    have hin:=haggs p.aA[i] (gG h');have next:∀e' s',e' 3=kX own->e' 81=.sl false (p.aA.map Ag.enc)->e' 82=i6 p.aA.length->e' 83=i6 ((i+1:Nat):Int)->oV s' 78 103 (e' 12) (C++(p.aA.map (dK own)).take i++[dK own p.aA[i]])->wp T (It.lp Ue::It.bl 12::It.code ((IC.ops Ls).seq IC.ret)::K) e' s' (fun e s=>aC e s [gQ.tmp 10,gQ.tmp 11]=some (.cZ [.sl true (F.map u8),i6 0])):=
     fun e' s' a b c d f=>ih.out (i+1) e' s' ⟨a,b,c,d,by rw[hst,<-List.append_assoc];exact f,h'⟩ (by omega)
    replace next:=Hd.mk next
    clear ih hst hkl hel;generalize C++(p.aA.map (dK own)).take i=es at hrow hln next
    generalize dK own p.aA[i]=v at hao next
    generalize p.aA[i]=a at hao hin ⊢;obtain⟨fn,col,ZG⟩:=a;simp only at hao hin;by_cases hfn:fn=3\/fn=4
    ·obtain⟨c0,c1⟩:=hin hfn;obtain⟨j,rfl⟩:∃j:Nat,col=j:=⟨col.toNat,by omega⟩
     have hj:j<own.length:=by omega
     have hv:v=own[j]:=by rw[hao,if_pos hfn];simp[hj]
     rw[hv]at next
     clear hao hin;rcases hfn with rfl|rfl
     ·rcases hrow with⟨r1,r2⟩|⟨r1,o,g,c,ro,r2,r3⟩
      ·simp[hj,e3,e81,e82,e83,r2];refine next.out _ _ (by simp[e3]) (by simp[e81]) (by simp[e82]) (by simp[ai h' hal']) ?_
       rw[r1];exact .inr ⟨by simp,103,(s 103).g+1,_,.inr rfl,by simp,by simp;rfl⟩
      ·rcases ro with rfl|rfl
       ·simp[hj,e3,e81,e82,e83,r2,r3,hln];refine next.out _ _ (by simp[e3]) (by simp[e81]) (by simp[e82]) (by simp[ai h' hal']) ?_
        exact .inr ⟨by simp,78,g+1,_,.inl rfl,by simp,by simp[r3];rfl⟩
       ·simp[hj,e3,e81,e82,e83,r2,r3,hln];refine next.out _ _ (by simp[e3]) (by simp[e81]) (by simp[e82]) (by simp[ai h' hal']) ?_
        exact .inr ⟨by simp,103,g+1,_,.inr rfl,by simp,by simp[r3];rfl⟩
     ·rcases hrow with⟨r1,r2⟩|⟨r1,o,g,c,ro,r2,r3⟩
      ·simp[hj,e3,e81,e82,e83,r2];refine next.out _ _ (by simp[e3]) (by simp[e81]) (by simp[e82]) (by simp[ai h' hal']) ?_
       rw[r1];exact .inr ⟨by simp,103,(s 103).g+1,_,.inr rfl,by simp,by simp;rfl⟩
      ·rcases ro with rfl|rfl
       ·simp[hj,e3,e81,e82,e83,r2,r3,hln];refine next.out _ _ (by simp[e3]) (by simp[e81]) (by simp[e82]) (by simp[ai h' hal']) ?_
        exact .inr ⟨by simp,78,g+1,_,.inl rfl,by simp,by simp[r3];rfl⟩
       ·simp[hj,e3,e81,e82,e83,r2,r3,hln];refine next.out _ _ (by simp[e3]) (by simp[e81]) (by simp[e82]) (by simp[ai h' hal']) ?_
        exact .inr ⟨by simp,103,g+1,_,.inr rfl,by simp,by simp[r3];rfl⟩
    ·have f3:¬fn=3:=fun h=>hfn (.inl h);have f4:¬fn=4:=fun h=>hfn (.inr h);have hv:v=1:=by rw[hao,if_neg hfn]
     rw[hv]at next
     rcases hrow with⟨r1,r2⟩|⟨r1,o,g,c,ro,r2,r3⟩
     ·simp[f3,f4,e3,e81,e82,e83,r2];refine next.out _ _ (by simp[e3]) (by simp[e81]) (by simp[e82]) (by simp[ai h' hal']) ?_
      rw[r1];exact .inr ⟨by simp,103,(s 103).g+1,_,.inr rfl,by simp,by simp;rfl⟩
     ·rcases ro with rfl|rfl
      ·simp[f3,f4,e3,e81,e82,e83,r2,r3,hln];refine next.out _ _ (by simp[e3]) (by simp[e81]) (by simp[e82]) (by simp[ai h' hal']) ?_
       exact .inr ⟨by simp,78,g+1,_,.inl rfl,by simp,by simp[r3];rfl⟩
      ·simp[f3,f4,e3,e81,e82,e83,r2,r3,hln];refine next.out _ _ (by simp[e3]) (by simp[e81]) (by simp[e82]) (by simp[ai h' hal']) ?_
       exact .inr ⟨by simp,103,g+1,_,.inr rfl,by simp,by simp[r3];rfl⟩
   ·have hfull:(p.aA.map (dK own)).take i=p.aA.map (dK own):=wU (by simp;omega);rw[hfull]at hrow
    rw[hF.out]at hrow
    rcases hrow with⟨r1,r2⟩|⟨r1,o,g,c,ro,r2,r3⟩
    ·simp[r2,r1]
    ·rcases ro with rfl|rfl
     ·simp[r2,r3]
     ·simp[r2,r3]
  simp[he];refine av (σ:=Nat) (fun i e s=>e 3=kX own/\(∃q,s 6=⟨1,true,some (.box p.enc),q⟩)/\e 6=.ptr 6 1 0/\e 66=.sl false (p.ah.map i6)/\e 67=i6 p.ah.length/\e 68=i6 i/\oV s 78 103 (e 12) (C.take i)/\i<=p.ah.length) (fun i=>p.ah.length-i) ?_ 0 _ _
   ⟨by simp,⟨1,by simp[he]⟩,by simp,by simp,by simp,by simp,.inl ⟨by simp,by simp⟩,by omega⟩
  rintro i e s ⟨e3,⟨q,s6⟩,e6,e66,e67,e68,hrow,hi⟩ ih;have s6':=s6;rw[he]at s6'
  simp[e3,e6,e66,e67,e68];refine aj (fun h=>?_) (fun h=>?_)<;>(have h':=h;try simp at h')<;>(try simp[*])
  ·have hkl:i<C.length:=by omega
   have hst:=dJ hkl;have hln:(C.take i).length<=140737488355327:=by simp;omega
   obtain⟨c0,c1⟩:=hcols.out p.ah[i] (gG h');have hel:=hCi i h' hkl;rw[hel]at hst
   generalize p.ah[i]=n at c0 c1 hst ⊢;obtain⟨j,rfl⟩:∃j:Nat,n=j:=⟨n.toNat,by omega⟩
   have hj:j<own.length:=by omega
   have hg:own.getD ((j:Int)).toNat 0=own[j]:=by simp[hj]
   rw[hg]at hst
   generalize hes:C.take i=es at hrow hln hst;rcases hrow with⟨r1,r2⟩|⟨r1,o,g,c,ro,r2,r3⟩
   ·simp[hj,e3,e6,e66,e67,e68,s6',r2];refine ih.out (i+1) _ _ ⟨by simp[e3],⟨q,by simp[s6,he]⟩,by simp[e6],by simp[e66],by simp[e67],by simp[ai h' hcl'],?_,h'⟩ (by omega);rw[hst];rw[r1];exact .inr ⟨by simp,78,(s 78).g+1,_,.inl rfl,by simp,by simp;rfl⟩
   ·rcases ro with rfl|rfl
    ·simp[hj,e3,e6,e66,e67,e68,s6',r2,r3,hln];refine ih.out (i+1) _ _ ⟨by simp[e3],⟨q,by simp[s6,he]⟩,by simp[e6],by simp[e66],by simp[e67],by simp[ai h' hcl'],?_,h'⟩ (by omega);rw[hst];exact .inr ⟨by simp,78,g+1,_,.inl rfl,by simp,by simp[r3];rfl⟩
    ·simp[hj,e3,e6,e66,e67,e68,s6',r2,r3,hln];refine ih.out (i+1) _ _ ⟨by simp[e3],⟨q,by simp[s6,he]⟩,by simp[e6],by simp[e66],by simp[e67],by simp[ai h' hcl'],?_,h'⟩ (by omega);rw[hst];exact .inr ⟨by simp,103,g+1,_,.inr rfl,by simp,by simp[r3];rfl⟩
  ·have hfull:C.take i=C:=wU (by omega);rw[hfull]at hrow
   try simp[e3,e6,s6']
   refine loop3 _ _ _ 0 (by simp[e3]) (by simp) (by simp) (by simp) ?_;simpa[oV]using hrow
 have hk:=ho.ZQ;by_cases h9:p.op=9
 ·have hk2:kids.length=2:=by rw[hk,h9];rfl
  obtain⟨a,b,rfl⟩:∃a b,kids=[a,b]:=by rcases kids with _|⟨a,_|⟨b,_|⟨c,l⟩⟩⟩<;>simp at hk2 ⊢
  have he1:=ho.R7 h9;clear ho hk hk2;have hR:aQ (s.map kT) p.op p.table p.kinds p.ah p.aA [a,b] own exprs=(match b with
   | [k]=>if aL (exprs.headD 0) k=true then(a,0)else([],50)
   | _=>([],81)):=by
   unfold aQ;rw[if_neg h0,if_neg h1,if_neg h3,if_neg h10,if_neg (by omega),if_pos h9];rfl
  rw[hR];rw[h9]at he
  rcases hb:b with _|⟨k,_|⟨k',l⟩⟩
  ·refine⟨true,?_⟩;refine BU (by simp) ?_;simp[he]
  ·have hag:=iD (exprs.headD 0) k;rcases hx:exprs with _|⟨x,xs⟩
   ·rw[hx]at he1;simp at he1
   rw[hx]at hag
   by_cases hg:aL ((x::xs).headD 0) k=true
   ·dsimp only;rw[if_pos hg];simp only[List.headD_cons]at hag hg;rw[hg]at hag
    refine⟨false,?_⟩;refine BU (by simp) ?_;simp[he,hag]
   ·dsimp only;rw[if_neg hg];simp only[List.headD_cons,Bool.not_eq_true]at hag hg;rw[hg]at hag
    refine⟨true,?_⟩;refine BU (by simp) ?_;simp[he,hag]
  ·refine⟨true,?_⟩;refine BU (by simp) ?_;have hne:¬((l.length:Int)+1+1=1):=by omega
   simp[he,hne]
 by_cases h78:p.op=7\/p.op=8
 ·refine⟨false,?_⟩;refine BU (by simp) ?_;have hk2:kids.length=2:=by rw[hk];rcases h78 with h|h<;>rw[h]<;>rfl
  obtain⟨a,b,rfl⟩:∃a b,kids=[a,b]:=by rcases kids with _|⟨a,_|⟨b,_|⟨c,l⟩⟩⟩<;>simp at hk2 ⊢
  have hR:aQ (s.map kT) p.op p.table p.kinds p.ah p.aA [a,b] own exprs=(a,0):=by unfold aQ;rw[if_neg h0,if_neg h1,if_neg h3,if_neg h10,if_pos h78];rfl
  rw[hR];rcases h78 with h|h
  ·rw[h]at he
   simp[he]
  ·rw[h]at he
   simp[he]
 by_cases h14:14<=p.op
 ·have hk2:kids.length=2:=by rw[hk];unfold aR;rw[if_neg (by omega),if_neg (by omega)]
  obtain⟨a,b,rfl⟩:∃a b,kids=[a,b]:=by rcases kids with _|⟨a,_|⟨b,_|⟨c,l⟩⟩⟩<;>simp at hk2 ⊢
  have hR:aQ (s.map kT) p.op p.table p.kinds p.ah p.aA [a,b] own exprs=oh a b:=by unfold aQ;rw[if_neg h0,if_neg h1,if_neg h3,if_neg h10,if_neg h78,if_neg h9,if_pos h14];rfl
  rw[hR];refine⟨true,?_⟩;refine BU (by simp) ?_;have ha64:=ho.small a (by simp);have hb64:=ho.small b (by simp);have hal':a.length<=9223372036854775807:=by omega
  have h16:=ho.op16;clear hk hk2 ho;by_cases hab:a.length=b.length
  case neg=>
   have hab':¬(a.length:Int)=b.length:=by omega
   have hS:oh a b=([],81):=if_neg hab;rw[hS];rcases(show p.op=14\/p.op=15\/p.op=16 by omega)with h|h|h
   all_goals
    rw[h]at he
    simp[he,hab,hab']
  have hS:oh a b=aF fw (a.zip b):=if_pos hab;have hz:(a.zip b).length=a.length:=by simp[hab]
  have hzi:∀i (h:i<a.length) (h2:i<b.length) (h3:i<(a.zip b).length),(a.zip b)[i]=(a[i],b[i]):=by intro i h h2 h3;simp
  have hyes:(∀j (hj:j<(a.zip b).length),(fw (a.zip b)[j]).2=0)->oh a b=((a.zip b).map (fun x=>max x.1 x.2),0):=fun h=>by
   rw[hS,gI h];congr 1;refine List.map_congr_left fun x hx=>?_;obtain⟨j,hj,rfl⟩:=List.getElem_of_mem hx;have:=h j hj;unfold fw at this ⊢;split
   ·rfl
   ·rename_i hh;rw[if_neg hh]at this;simp at this
  have hno:∀i (h:i<(a.zip b).length),(∀j (hj:j<i),(fw (a.zip b)[j]).2=0)->¬(fw (a.zip b)[i]).2=0->oh a b=([],(fw (a.zip b)[i]).2):=fun i h h1 h2=>by rw[hS,gJ h h1 h2]
  have hOl:((a.zip b).map (fun x=>max x.1 x.2)).length=a.length:=by simp[hab]
  have hOi:∀i (h:i<a.length) (h2:i<b.length) (h3:i<((a.zip b).map (fun x=>max x.1 x.2)).length),((a.zip b).map (fun x=>max x.1 x.2))[i]=max a[i] b[i]:=by intro i h h2 h3;simp
  generalize oh a b=S at hyes hno ⊢;generalize (a.zip b).map (fun x=>max x.1 x.2)=O at hyes hOl hOi;replace hyes:=Hd.mk hyes;replace hno:=Hd.mk hno;replace hab:=Hd.mk hab;clear hS;have main:∀(K:List It) (en:Env) (st:ax),en 2=.sl false [kX a,kX b]->en 135=kX a->en 136=i6 a.length->en 137=i6 (0:Nat)->en 12=.nil->wp T (It.lp aaS::It.bl 14::It.code ((IC.ops Uf).seq IC.ret)::K) en st (fun e s=>aC e s [gQ.tmp 10,gQ.tmp 11]=some (.cZ [.sl true (S.1.map u8),i6 S.2])):=by
   intro K en st e2 e135 e136 e137 e12;refine av (σ:=Nat) (fun i e s=>e 2=.sl false [kX a,kX b]/\e 135=kX a/\e 136=i6 a.length/\e 137=i6 i/\jF s 161 (e 12) (O.take i)/\i<=a.length/\Hd (∀j (hj:j<i) (h:j<(a.zip b).length),(fw (a.zip b)[j]).2=0)) (fun i=>a.length-i) ?_ 0 _ _
    ⟨e2,e135,e136,e137,.inl ⟨by simp,e12⟩,by omega,⟨fun _ h=>by omega⟩⟩
   rintro i e s ⟨e2,e135,e136,e137,hrow,hi,hA⟩ ih;simp[e2,e135,e136,e137];refine aj (fun h=>?_) (fun h=>?_)<;>(have h':=h;try simp at h')<;>(try simp[*])
   ·have hib:i<b.length:=by have:=hab.out;omega
    have hiz:i<(a.zip b).length:=by omega
    have hag:=iD a[i] b[i];have hel:=hzi i h' hib hiz;have hst:=dJ (l:=O) (i:=i) (by omega);rw[hOi i h' hib (by omega)]at hst
    by_cases hg:aL a[i] b[i]=true
    ·rw[hg]at hag
     have hone:(fw (a.zip b)[i]).2=0:=by rw[hel];simp[fw,hg]
     have hA':∀j (hj:j<i+1) (h:j<(a.zip b).length),(fw (a.zip b)[j]).2=0:=fun j hj h=>by
      rcases qP (qQ hj)with h2|h2
      ·exact hA.out j h2 h
      ·subst h2;exact hone
     have hln:(O.take i).length<=140737488355327:=by simp;omega
     clear hel hone;generalize hes:O.take i=es at hrow hln hst;rcases hrow with⟨r1,r2⟩|⟨r1,g,c,r2,r3⟩
     ·simp[hag,h',hib,e2,e135,e136,e137,r2];refine ih.out (i+1) _ _ ⟨by simp[e2],by simp[e135],by simp[e136],by simp[ai h' hal'],?_,h',⟨hA'⟩⟩ (by omega);rw[hst,r1];exact .inr ⟨by simp,(s 161).g+1,_,by simp,by simp;rfl⟩
     ·simp[hag,h',hib,e2,e135,e136,e137,r2,r3,hln];refine ih.out (i+1) _ _ ⟨by simp[e2],by simp[e135],by simp[e136],by simp[ai h' hal'],?_,h',⟨hA'⟩⟩ (by omega);rw[hst];exact .inr ⟨by simp,g+1,_,by simp,by simp[r3];rfl⟩
    ·simp only[Bool.not_eq_true]at hg;rw[hg]at hag
     have hone:(fw (a.zip b)[i]).2=50:=by rw[hel];simp[fw,hg]
     have hSS:=hno.out i hiz (fun j hj=>hA.out j hj (by omega)) (by rw[hone];decide);rw[hone]at hSS
     subst hSS;simp[hag,h',hib,e2,e135,e136,e137]
   ·have hSS:=hyes.out (fun j hj=>hA.out j (by omega) hj);have hfull:O.take i=O:=wU (by omega);rw[hfull]at hrow
    subst hSS;rcases hrow with⟨r1,r2⟩|⟨r1,g,c,r2,r3⟩
    ·simp[r2,r1]
    ·simp[r2,r3]
  rcases(show p.op=14\/p.op=15\/p.op=16 by omega)with h|h|h
  all_goals
   rw[h]at he
   simp[he,hab.out];exact main _ _ _ (by simp) (by simp) (by simp[hab.out]) (by simp) (by simp)
 ·refine⟨false,?_⟩;refine BU (by simp) ?_;have hR:aQ (s.map kT) p.op p.table p.kinds p.ah p.aA kids own exprs=(own,0):=by unfold aQ;rw[if_neg h0,if_neg h1,if_neg h3,if_neg h10,if_neg h78,if_neg h9,if_neg h14]
  rw[hR];have n7:¬p.op=7:=fun h=>h78 (.inl h);have n8:¬p.op=8:=fun h=>h78 (.inr h);have n14:¬p.op=14:=by omega
  have n15:¬p.op=15:=by omega
  have n16:¬p.op=16:=by omega
  simp[he,h0,h1,h3,h10,h9,n7,n8,n14,n15,n16]
abbrev kN(s:List fZ):X:=.sl false (s.map fZ.enc)
def iR(s:List fZ)(env:List (List Int))(e:Ex):Prop:=call T Lr [.agg [kN s],e.enc,.sl false (env.map kX)]=some (.cZ [u8 (e.kind (s.map kT) env).1,i6 (e.kind (s.map kT) env).2])
def qp(s:List fZ)(env:List (List Int))(p:Pn):Prop:=∃fl,call T Qw [.agg [kN s],p.enc,.sl false (env.map kX)]=some (.cZ [.sl fl ((p.columns (s.map kT) env).1.map u8),i6 (p.columns (s.map kT) env).2])
theorem YI{A:List Int}{n i:Nat}{z x:Int}(hA:A.length=i)(h:i<n):(A++List.replicate (n-i) z).set i x=A++[x]++List.replicate (n-(i+1)) z:=by
 obtain⟨m,hm⟩:∃m,n-i=m+1:=⟨n-i-1,by omega⟩
 have hm':n-(i+1)=m:=by omega
 rw[hm,hm'];simp[List.set_append,hA,List.replicate_succ]
def Bl(ks:List Int)(i:Nat):List Int:=ks.take i++List.replicate (ks.length-i) 0
theorem Sz{ks:List Int}{i:Nat}(h:i<ks.length):(Bl ks i).set i ks[i]=Bl ks (i+1):=by unfold Bl;rw[YI (by simp;omega) h,<-dJ h]
theorem Sy(ks:List Int)(i:Nat)(h:i<=ks.length):(Bl ks i).length=ks.length:=by unfold Bl;simp;omega
theorem PW(ks:List Int):Bl ks 0=List.replicate ks.length 0:=by simp[Bl]
theorem PV(ks:List Int):Bl ks ks.length=ks:=by simp[Bl]
theorem jI{e:Ex}(h:e.formed=true):fU e.op e.v e.up e.n e.kids.length e.sub.length=true/\(∀k∈e.kids,k.formed=true)/\(∀k∈e.sub,k.formed=true):=by
 rw[Ex.kI]at h
 simp only[bN,oH]at h;exact⟨h.1,h.2.1,h.2.2⟩
theorem BD{e:Ex}(h:e.formed=true)(h2:e.op=2):0<=e.up/\0<=e.n:=by
 have:=(jI h).1;simp[fU,h2,bD]at this
 omega
theorem I7{e:Ex}(h:e.formed=true)(h2:fD e.op=true):∃q,e.sub=[q]:=by
 have:=(jI h).1;simp[fU,h2]at this
 have hl:e.sub.length=1:=this.2.2.2.1;rcases hs:e.sub with _|⟨q,_|⟨r,l⟩⟩
 ·rw[hs]at hl;simp at hl
 ·exact⟨q,rfl⟩
 ·rw[hs]at hl;simp at hl
theorem Ni{e:Ex}(h:e.formed=true)(h2:e.op=28):∃k,e.kids=[k]:=by
 have:=(jI h).1;simp[fU,h2,fD]at this
 have hl:e.kids.length=1:=this.2.2.2;rcases hs:e.kids with _|⟨q,_|⟨r,l⟩⟩
 ·rw[hs]at hl;simp at hl
 ·exact⟨q,rfl⟩
 ·rw[hs]at hl;simp at hl
set_option maxHeartbeats 4000000 in
theorem PX(s:List fZ)(env:List (List Int))(e:Ex)(hs:e.wX)(hf:e.formed=true)(hk:∀k∈e.kids,iR s env k)(hp:∀q∈e.sub,qp s env q):iR s env e:=by
 unfold iR;refine q14g (by simp) ?_;have he:=e.ay;have hlk:e.kids.length<=1099511627776:=hs.kids;have hl':e.kids.length<=9223372036854775807:=by omega
 have hE:=Ex.zL (s.map kT) env e;have hbad:∀i (h:i<e.kids.length),(∀j (hj:j<i),(Ex.kind (s.map kT) env e.kids[j]).2=0)->¬(Ex.kind (s.map kT) env e.kids[i]).2=0->e.kind (s.map kT) env=(0,(Ex.kind (s.map kT) env e.kids[i]).2):=fun i h h1 h2=>by rw[hE,gJ h h1 h2];exact if_neg h2
 have hgood:(∀j (hj:j<e.kids.length),(Ex.kind (s.map kT) env e.kids[j]).2=0)->e.kind (s.map kT) env=(if e.op=0 then(e.vk,0)else if e.op=2 then EK env e.up e.n else if fD e.op=true then qm e.op (e.kids.map fun k=>(Ex.kind (s.map kT) env k).1) (aF (Pn.columns (s.map kT) env) e.sub)else ET (je e.op (e.kids.map fun k=>(Ex.kind (s.map kT) env k).1))):=fun h=>by rw[hE,gI h];exact if_pos rfl
 clear hE;generalize e.kind (s.map kT) env=E at hbad hgood ⊢;generalize hks:(e.kids.map fun k=>(Ex.kind (s.map kT) env k).1)=ks at hgood;have hkl:ks.length=e.kids.length:=by rw[<-hks];simp
 have hki:∀i (h:i<e.kids.length) (h':i<ks.length),ks[i]=(Ex.kind (s.map kT) env e.kids[i]).1:=by intro i h h';subst hks;simp
 clear hks;have hrep:List.replicate e.kids.length (X.v (.int .u8 0))=(Bl ks 0).map u8:=by rw[PW,hkl];simp
 rw[he];simp[show(e.kids.length:Int)<=140737488355328 by omega];refine av (σ:=Nat) (fun i en st=>en 2=.sl false (env.map kX)/\en 3=.ptr 3 1 0/\en 4=.ptr 4 1 0/\(∃g,en 8=.ref 20 g 1 0 ks.length/\∃c,st 20=⟨g,true,some (.row 1 ((Bl ks i).map u8)),c⟩)/\en 22=.sl false (e.kids.map Ex.enc)/\en 23=i6 e.kids.length/\en 24=i6 i/\
  (∃q,st 3=⟨1,true,some (.box (.agg [kN s])),q⟩)/\(∃q,st 4=⟨1,true,some (.box e.enc),q⟩)/\i<=e.kids.length/\Hd (∀j (hj:j<i) (h:j<e.kids.length),(Ex.kind (s.map kT) env e.kids[j]).2=0)) (fun i=>e.kids.length-i) ?_ 0 _ _
  ⟨by simp,by simp,by simp,⟨1,by simp[hkl],1,by simp[hrep]⟩,by simp,by simp,by simp,⟨1,by simp⟩,⟨1,by simp[he]⟩,by omega,⟨fun _ h=>by omega⟩⟩
 rintro i en st ⟨e2,e3,e4,⟨g,e8,c,s20⟩,e22,e23,e24,⟨q3,s3⟩,⟨q4,s4⟩,hi,hA⟩ ih;have s4':=s4;rw[he]at s4'
 simp[e2,e3,e4,e8,e22,e23,e24];refine aj (fun h=>?_) (fun h=>?_)<;>(have h':=h;try simp at h')<;>(try simp[*])
 ·have hc:=hk e.kids[i] (gG h');unfold iR at hc;have hb:=hbad i h' (fun j hj=>hA.out j hj (by omega));have hkie:=hki i h' (by omega);have hke:=e.kids[i].ay;have hA':(Ex.kind (s.map kT) env e.kids[i]).2=0->∀j (hj:j<i+1) (h:j<e.kids.length),(Ex.kind (s.map kT) env e.kids[j]).2=0:=fun g j hj h=>by
   rcases qP (qQ hj)with h2|h2
   ·exact hA.out j h2 h
   ·subst h2;exact g
  have hset:=Sz (ks:=ks) (i:=i) (by omega);rw[hkie]at hset
  have hpl:=Sy ks i (by omega);replace hA':=Hd.mk hA';clear hkie;generalize Ex.kind (s.map kT) env e.kids[i]=kr at hc hb hset hA';obtain⟨k1,k2⟩:=kr;simp only at hc hb hset hA';rw[hke]at hc
  simp only[hke];by_cases k0:k2=0
  ·subst k0;simp[hc,e2,e3,e4,e8,e22,e23,e24,s3,s4',s20,hpl,hkl,h'];refine ih.out (i+1) _ _ ?_ (by omega);exact⟨by simp[e2],by simp[e3],by simp[e4],⟨g,by simp[e8],_,by simp[s20];rw[<-hset];simp;rfl⟩,by simp[e22],by simp[e23],by simp[ai h' hl'],⟨q3,by simp[s3]⟩,⟨q4,by simp[s4',s4,he]⟩,h',⟨hA'.out rfl⟩⟩
  ·have hE:=hb k0;subst hE;simp[hc,e2,e3,e4,e8,e22,e23,e24,s3,s4',s20,k0]
 ·have hin:i=ks.length:=by omega
  have hE:=hgood (fun j hj=>hA.out j (by omega) hj);rw[hin,PV]at s20
  clear hbad hgood ih hA hki hrep;by_cases h0:e.op=0
  ·rw[if_pos h0]at hE
   subst hE;simp[e4,s4',h0]
  rw[if_neg h0]at hE
  by_cases h2:e.op=2
  ·rw[if_pos h2]at hE
   obtain⟨u0,n0⟩:=BD hf h2;obtain⟨u,hu⟩:∃j:Nat,e.up=j:=⟨e.up.toNat,by omega⟩
   obtain⟨m,hm⟩:∃j:Nat,e.n=j:=⟨e.n.toNat,by omega⟩
   rw[hu,hm]at s4'
   rw[hu,hm]at hE
   unfold EK at hE;by_cases hue:u<env.length
   ·have hg:env.getD ((u:Int)).toNat []=env[u]:=by simp[hue]
    rw[hg]at hE
    by_cases hme:m<env[u].length
    ·have hg2:env[u].getD ((m:Int)).toNat 0=env[u][m]:=by simp[hme]
     rw[hg2,if_pos ⟨by omega,by omega⟩]at hE
     subst hE;have hue':¬(env.length:Int)<=u:=by omega
     have hme':¬(env[u].length:Int)<=m:=by omega
     simp[e2,e4,s4',h2,hue,hme,hue',hme']
    ·rw[if_neg (by omega)]at hE
     subst hE;have hue':¬(env.length:Int)<=u:=by omega
     have hme':(env[u].length:Int)<=m:=by omega
     simp[e2,e4,s4',h2,hue,hue',hme']
   ·rw[if_neg (by omega)]at hE
    subst hE;have hue':(env.length:Int)<=u:=by omega
    simp[e2,e4,s4',h2,hue,hue']
  rw[if_neg h2]at hE
  by_cases hso:fD e.op=true
  ·rw[if_pos hso]at hE
   obtain⟨q,hq⟩:=I7 hf hso;obtain⟨fl,hcol⟩:=hp q (by simp[hq]);rw[hq]at hE s4'
   have hfl:aF (Pn.columns (s.map kT) env) [q]=if(q.columns (s.map kT) env).2=0 then([(q.columns (s.map kT) env).1],0)else([],(q.columns (s.map kT) env).2):=by simp[aF]
   rw[hfl]at hE
   clear hfl;have hqe:=q.ay;rw[hqe]at hcol
   simp only[ku,List.map_nil,hqe]at s4';generalize q.columns (s.map kT) env=C at hcol hE;obtain⟨ah,err⟩:=C;simp only at hcol hE;have hop3:e.op=27\/e.op=28\/e.op=29:=by simp[fD]at hso;omega
   by_cases er:err=0
   case neg=>
    rw[if_neg er]at hE
    simp only[qm,if_neg er]at hE;subst hE;rcases hop3 with hx|hx|hx
    all_goals simp[hcol,e2,e3,e4,s3,s4',er,hx]
   subst er;simp only[qm,if_true]at hE;by_cases h27:e.op=27
   ·rw[if_pos h27]at hE
    subst hE;simp[hcol,e2,e3,e4,s3,s4',h27]
   rw[if_neg h27]at hE
   have hop2:e.op=28\/e.op=29:=by omega
   rcases hcc:ah with _|⟨k,_|⟨k',l⟩⟩
   ·rw[hcc]at hcol hE
    simp only at hE;subst hE;rcases hop2 with hx|hx
    all_goals simp[hcol,e2,e3,e4,s3,s4',hx]
   ·rw[hcc]at hcol hE
    simp only at hE;by_cases h29:e.op=29
    ·rw[if_pos h29]at hE
     subst hE;simp[hcol,e2,e3,e4,s3,s4',h29]
    ·rw[if_neg h29]at hE
     have h28:e.op=28:=by omega
     obtain⟨k0,hk0⟩:=Ni hf h28;have hksl:ks.length=1:=by rw[hkl,hk0];rfl
     obtain⟨x,hx⟩:=E5 hksl;rw[hx]at hE e8 s20
     replace hE:E=(if aL x k=true then(3,0)else(0,50)):=hE;have hag:=iD x k;by_cases hg:aL x k=true
     ·rw[if_pos hg]at hE
      rw[hg]at hag
      subst hE;simp[hcol,hag,e2,e3,e4,e8,s3,s4',s20,h28]
     ·rw[if_neg hg]at hE
      simp only[Bool.not_eq_true]at hg;rw[hg]at hag
      subst hE;simp[hcol,hag,e2,e3,e4,e8,s3,s4',s20,h28]
   ·rw[hcc]at hcol hE
    simp only at hE;subst hE;have hne:¬((l.length:Int)+1+1=1):=by omega
    rcases hop2 with hx|hx
    all_goals simp[hcol,e2,e3,e4,s3,s4',hne,hx]
  ·rw[if_neg hso]at hE
   have n27:¬e.op=27:=by intro h;apply hso;rw[h];rfl
   have n28:¬e.op=28:=by intro h;apply hso;rw[h];rfl
   have n29:¬e.op=29:=by intro h;apply hso;rw[h];rfl
   have hcK:=GV e.op ks (by rw[aV,hkl];exact hlk);generalize je e.op ks=C at hcK hE;obtain⟨k,err⟩:=C;simp only[ET]at hcK hE;by_cases er:err=0
   ·rw[if_pos er]at hE
    subst hE;subst er;simp[hcK,e4,e8,s4',s20,h0,h2,n27,n28,n29]
   ·rw[if_neg er]at hE
    by_cases er1:err=1
    ·rw[if_pos er1]at hE
     subst hE;subst er1;simp[hcK,e4,e8,s4',s20,h0,h2,n27,n28,n29]
    ·rw[if_neg er1]at hE
     subst hE;simp[hcK,e4,e8,s4',s20,h0,h2,n27,n28,n29,er,er1]
structure Fl where
 b:Bool
@[simp] theorem Fl.ex(b:Bool):(∃a:Fl,b=a.b)=True:=by simp only[eq_iff_iff,iff_true];exact⟨⟨b⟩,rfl⟩
@[simp] theorem Fl.ex'(b:Bool):(∃a:Fl,a.b=b)=True:=by simp only[eq_iff_iff,iff_true];exact⟨⟨b⟩,rfl⟩
theorem G8{α:Type}{f nt:Nat}{res:List gQ}{body:IC}{xs:List X}{x:α->X}(hT:T f=some (.code nt res body))(hn:xs.length<=nt)
 (h:wp T [.code body] (bG xs) s0 (fun e s=>∃a,aC e s res=some (x a))):∃a,call T f xs=some (x a):=by
 obtain⟨e',s',hr,a,hx⟩:=h;exact⟨a,DC hT hn hr hx⟩
def RowG(s:ax)(o:Nat)(x:X)(es:List X):Prop:=(es=[]/\x=.nil)\/(¬es=[]/\∃g n,x=.ref o g 1 0 es.length/\s o=⟨g,true,some (.row 1 es),n⟩)
def GL(s:ax)(o:Nat)(x:X)(es:List X):Prop:=(es=[]/\x=.nil)\/(¬es=[]/\∃g wr n,x=.ref o g 1 0 es.length/\s o=⟨g,wr,some (.row 1 es),n⟩)
theorem lG{p:Pn}(h:p.formed=true):nZ p=true/\(∀k∈p.kids,k.formed=true)/\(∀k∈p.conds,k.formed=true)/\(∀k∈p.exprs,k.formed=true):=by
 rw[Pn.kI]at h
 simp only[bN,oH]at h;exact⟨h.1,h.2.1,h.2.2.1,h.2.2.2⟩
structure PlanOk (p:Pn):Prop where
 op:p.op<=16
 kids:p.kids.length=aR p.op
 table:0<=p.table
 ah:∀n∈p.ah,0<=n
 aA:∀a∈p.aA,0<=a.col
 exprs:p.op=9->p.exprs.length=1
theorem xU{p:Pn}(h:nZ p=true):PlanOk p:=by simp only[nZ,kL,bN,Bool.or_eq_true,decide_eq_true_eq,oH,Bool.not_eq_true',decide_eq_false_iff_not,bD,j5]at h;obtain⟨h1,h2,h3,⟨⟨h4,h5⟩,h6,h7,h8⟩,h9,h10⟩:=h;exact⟨h1,h2,h4.1,fun n hn=>(h6 n hn).1,fun a ha=>(h7 a ha).2.1.1,fun h=>h10.elim (fun q=>absurd h q) id⟩
theorem yN(op:Int):aR op<=2:=by unfold aR;split;omega;split<;>omega
theorem Mv(r:List Int×Int)(h:(gM r).2=0):(gM r).1.length<=64:=by
 unfold gM at h ⊢;split
 ·simp
 ·rename_i hh;rw[if_neg hh]at h
  have:¬64<r.1.length:=fun q=>hh ⟨h,q⟩;omega
theorem yA(sc env:List (List Int))(p:Pn):(p.columns sc env).1.length<=64\/¬(p.columns sc env).2=0:=by
 rw[Pn.pu];split
 ·split
  ·simp
  ·split
   ·split
    ·split
     ·generalize aQ sc p.op p.table p.kinds p.ah p.aA (p.jU sc env).1 (p.own sc env) (aF (Ex.kind sc (p.own sc env::env)) p.exprs).1=r;by_cases h:(gM r).2=0
      ·exact .inl (Mv r h)
      ·exact .inr h
     ·simp
    ·simp
   ·simp
 ·simp
set_option maxHeartbeats 8000000 in
theorem Ps(s:List fZ)(hst:∀t∈s,aV t.ah)(env:List (List Int))(henv:env.length<=5864062014804)(p:Pn)(hs:p.jO)(hf:p.formed=true)(hk:∀q∈p.kids,qp s env q)
 (hc:∀own,∀e∈p.conds,iR s (own::env) e) (hx:∀own,∀e∈p.exprs,iR s (own::env) e):qp s env p:=by
 unfold qp
 suffices h:∃a:Fl,call T Qw [.agg [kN s],p.enc,.sl false (env.map kX)]=some (.cZ [.sl a.b ((p.columns (s.map kT) env).1.map u8),i6 (p.columns (s.map kT) env).2])by obtain⟨a,ha⟩:=h;exact⟨a.b,ha⟩
 refine G8 (nt:=134) (res:=[.tmp 6,.tmp 7]) (body:=q13B) (x:=fun(fl:Fl)=>.cZ [.sl fl.b ((p.columns (s.map kT) env).1.map u8),i6 (p.columns (s.map kT) env).2]) (by kernel_rfl) (by simp) ?_;have he:=p.ay;have hpo:=xU (lG hf).1;have hk2:p.kids.length<=2:=by rw[hpo.kids];exact yN p.op
 have hC:=Pn.pu (s.map kT) env p;have hbad:∀i (h:i<p.kids.length),(∀j (hj:j<i),(Pn.columns (s.map kT) env p.kids[j]).2=0)->¬(Pn.columns (s.map kT) env p.kids[i]).2=0->p.columns (s.map kT) env=([],(Pn.columns (s.map kT) env p.kids[i]).2):=fun i h h1 h2=>by have hkc:p.jU (s.map kT) env=([],(Pn.columns (s.map kT) env p.kids[i]).2):=gJ h h1 h2;rw[hC,hkc];exact if_neg h2
 generalize hcs:(p.kids.map fun k=>(Pn.columns (s.map kT) env k).1)=cs;have hgood:(∀j (hj:j<p.kids.length),(Pn.columns (s.map kT) env p.kids[j]).2=0)->p.columns (s.map kT) env =
  if p.op=1/\s.length<=p.table then([],81)else
   if bQ p.ah p.aA p.keys (bT p.op cs)=0 then
    (if(aF (fun e=>dm (Ex.kind (s.map kT) (bT p.op cs::env) e)) p.conds).2=0 then
     (if(aF (Ex.kind (s.map kT) (bT p.op cs::env)) p.exprs).2=0 then
      gM (aQ (s.map kT) p.op p.table p.kinds p.ah p.aA cs (bT p.op cs) (aF (Ex.kind (s.map kT) (bT p.op cs::env)) p.exprs).1)
     else([],(aF (Ex.kind (s.map kT) (bT p.op cs::env)) p.exprs).2))
    else([],(aF (fun e=>dm (Ex.kind (s.map kT) (bT p.op cs::env) e)) p.conds).2))
   else([],bQ p.ah p.aA p.keys (bT p.op cs)):=fun h=>by
  have hkc:p.jU (s.map kT) env=(cs,0):=by rw[<-hcs];exact gI h
  have hown:p.own (s.map kT) env=bT p.op cs:=by unfold Pn.own;rw[hkc]
  rw[hC,hown,hkc];simp only[if_true,List.length_map]
 have hcl:cs.length=p.kids.length:=by rw[<-hcs];simp
 have hci:∀i (h:i<p.kids.length) (h':i<cs.length),cs[i]=(Pn.columns (s.map kT) env p.kids[i]).1:=by intro i h h';subst hcs;simp
 have hc64:(∀j (hj:j<p.kids.length),(Pn.columns (s.map kT) env p.kids[j]).2=0)->∀k∈cs,k.length<=64:=fun h k hk=>by obtain⟨j,hj,rfl⟩:=List.getElem_of_mem hk;rw[hci j (by omega) hj];exact(yA (s.map kT) env p.kids[j]).elim id (fun q=>absurd (h j (by omega)) q)
 clear hcs hC;generalize p.columns (s.map kT) env=C at hbad hgood ⊢;rw[he];simp;refine av (σ:=Nat) (fun i en st=>en 2=.sl false (env.map kX)/\en 3=.ptr 3 1 0/\en 4=.ptr 4 1 0/\en 28=.sl false (p.kids.map Pn.enc)/\en 29=i6 p.kids.length/\en 30=i6 i/\(∃es,RowG st 47 (en 8) es/\gB es=(cs.take i).map kX/\aT es=true/\es.length=i)/\
  (∃q,st 3=⟨1,true,some (.box (.agg [kN s])),q⟩)/\(∃q,st 4=⟨1,true,some (.box p.enc),q⟩)/\i<=p.kids.length/\Hd (∀j (hj:j<i) (h:j<p.kids.length),(Pn.columns (s.map kT) env p.kids[j]).2=0)) (fun i=>p.kids.length-i) ?_ 0 _ _
  ⟨by simp,by simp,by simp,by simp,by simp,by simp,⟨[],.inl ⟨rfl,by simp⟩,by simp,by simp,by simp⟩,⟨1,by simp⟩,⟨1,by simp[he]⟩,by omega,⟨fun _ h=>by omega⟩⟩
 rintro i en st ⟨e2,e3,e4,e28,e29,e30,⟨es,hrow,hsh,hdp,hel⟩,⟨q3,s3⟩,⟨q4,s4⟩,hi,hA⟩ ih;have s4':=s4;rw[he]at s4'
 replace hk2:=Hd.mk hk2;replace hcl:=Hd.mk hcl;simp[e2,e3,e4,e28,e29,e30];refine aj (fun h=>?_) (fun h=>?_)<;>(have h':=h;try simp at h')<;>(try simp[*])
 ·have hl':p.kids.length<=9223372036854775807:=by have:=hk2.out;omega
  obtain⟨fl,hcall⟩:=hk p.kids[i] (gG h');have hb:=hbad i h' (fun j hj=>hA.out j hj (by omega));have hic:i<cs.length:=by have:=hcl.out;omega
  have hkie:=hci i h' hic;have hke:=p.kids[i].ay;have hA':(Pn.columns (s.map kT) env p.kids[i]).2=0->∀j (hj:j<i+1) (h:j<p.kids.length),(Pn.columns (s.map kT) env p.kids[j]).2=0:=fun g j hj h=>by
   rcases qP (qQ hj)with h2|h2
   ·exact hA.out j h2 h
   ·subst h2;exact g
  have htk:=dJ hic;rw[hkie]at htk
  replace hA':=Hd.mk hA';clear hkie;generalize Pn.columns (s.map kT) env p.kids[i]=kr at hcall hb htk hA';obtain⟨k1,k2⟩:=kr;simp only at hcall hb htk hA';rw[hke]at hcall
  simp only[hke];by_cases k0:k2=0
  ·subst k0;have hlen:es.length<=5864062014804:=by have:=hk2.out;omega
   rcases hrow with⟨r1,r2⟩|⟨r1,g,c,r2,r3⟩
   ·simp[hcall,e2,e3,e4,e28,e29,e30,s3,s4',r2];refine ih.out (i+1) _ _ ?_ (by omega);refine⟨by simp[e2],by simp[e3],by simp[e4],by simp[e28],by simp[e29],by simp[ai h' hl'],⟨es++[.sl fl (k1.map u8)],?_,?_,?_,?_⟩,⟨q3,by simp[s3]⟩,⟨q4,by simp[s4',s4,he]⟩,h',⟨hA'.out rfl⟩⟩
    ·rw[r1];exact .inr ⟨by simp,(st 47).g+1,_,by simp,by simp;rfl⟩
    ·have hsh0:(cs.take i).map kX=[]:=by rw[<-hsh,r1];rfl
     rw[r1,htk,List.map_append,hsh0];simp
    ·rw[r1];simp
    ·simp[hel]
   ·simp[hcall,e2,e3,e4,e28,e29,e30,s3,s4',r2,r3,hlen];refine ih.out (i+1) _ _ ?_ (by omega);refine⟨by simp[e2],by simp[e3],by simp[e4],by simp[e28],by simp[e29],by simp[ai h' hl'],⟨es++[.sl fl (k1.map u8)],?_,?_,?_,?_⟩,⟨q3,by simp[s3]⟩,⟨q4,by simp[s4',s4,he]⟩,h',⟨hA'.out rfl⟩⟩
    ·exact .inr ⟨by simp,g+1,_,by simp,by simp[r3];rfl⟩
    ·rw[htk,List.map_append,<-hsh,iQ,iQ];simp
    ·rw[bf]at hdp ⊢
     intro x hx;rcases List.mem_append.1 hx with hx|hx
     ·exact hdp x hx
     ·simp at hx;subst hx;simp
    ·simp[hel]
  ·have hE:=hb k0;subst hE;simp[hcall,e2,e3,e4,e28,e29,e30,s3,s4',k0]
 ·have hin:i=p.kids.length:=by omega
  have hE:=hgood (fun j hj=>hA.out j (by omega) hj);have h64:=hc64 (fun j hj=>hA.out j (by omega) hj);have hc2:cs.length<=2:=by rw[hcl.out];exact hk2.out
  have hfull:cs.take i=cs:=wU (by rw[hcl.out];omega);rw[hfull]at hsh
  clear hbad hgood ih hA hci hc64 hfull hk;have hrw:=CS p.op cs hc2 h64;have hnum:=vw p hs hpo.aA (bT p.op cs);have hon:=EB (bT p.op cs) env henv;rw[he]at hnum
  have hc':=hc (bT p.op cs);have hx':=hx (bT p.op cs);have hrok:∀exprs:List Int,¬(p.op=1/\(s.length:Int)<=p.table)->bQ p.ah p.aA p.keys (bT p.op cs)=0->exprs.length=p.exprs.length->MH s p cs (bT p.op cs) exprs:=fun exprs h1 h2 h3=>by
   have hall:(p.ah.all (fun n=>decide (n<(bT p.op cs).length))&&(p.aA.all (fun a=>decide (a.fn=0)||decide (a.col<(bT p.op cs).length))&&p.keys.all (fun k=>decide (k.col<(bT p.op cs).length))))=true:=by
    unfold bQ at h2;split at h2
    ·assumption
    ·simp at h2
   simp only[bN,oH,decide_eq_true_eq,Bool.or_eq_true]at hall;refine⟨hs.op.1,hpo.op,by rw[hcl.out];exact hpo.kids,fun q=>⟨hpo.table,by omega⟩,hst,fun _ n hn=>⟨hpo.ah n hn,hall.1 n hn⟩,fun _ a ha q=>⟨hpo.aA a ha,?_⟩,fun q=>by rw[h3,hpo.exprs q];omega,h64⟩;rcases hall.2.1 a ha with r|r
   ·omega
   ·exact r
  clear hc hx;replace hE:=Hd.mk hE;generalize bT p.op cs=own at hE hrw hnum hon hc' hx' hrok;have loop3:¬(p.op=1/\(s.length:Int)<=p.table)->bQ p.ah p.aA p.keys own=0->
   (C=if(aF (Ex.kind (s.map kT) (own::env)) p.exprs).2=0 then gM (aQ (s.map kT) p.op p.table p.kinds p.ah p.aA cs own (aF (Ex.kind (s.map kT) (own::env)) p.exprs).1)else([],(aF (Ex.kind (s.map kT) (own::env)) p.exprs).2))->
   ∀(en:Env) (st:ax),en 3=.ptr 3 1 0/\en 4=.ptr 4 1 0/\GL st 47 (en 8) es/\en 13=.sl true (own.map u8)/\en 15=.sl true (kX own::env.map kX)/\(∃q,st 3=⟨1,true,some (.box (.agg [kN s])),q⟩)/\(∃q,st 4=⟨1,true,some (.box p.enc),q⟩)->en 95=.sl false (p.exprs.map Ex.enc)->en 96=i6 p.exprs.length->en 97=i6 (0:Nat)->en 20=.nil->wp T [It.lp T9,It.bl 4,It.code ((IC.ops Lc).seq (((IC.ops Lf).seq (IC.cond (Ar.t 131) ((IC.ops Lg).seq IC.ret) IC.skip)).seq ((IC.ops Lh).seq IC.ret)))] en st (fun e s=>∃a:Fl,aC e s [gQ.tmp 6,gQ.tmp 7]=some (.cZ [.sl a.b (C.1.map u8),i6 C.2])):=by
   intro n1 n2 hC en st hbase e95 e96 e97 e20;have hbad:∀i (h:i<p.exprs.length),(∀j (hj:j<i),(Ex.kind (s.map kT) (own::env) p.exprs[j]).2=0)->¬(Ex.kind (s.map kT) (own::env) p.exprs[i]).2=0->C=([],(Ex.kind (s.map kT) (own::env) p.exprs[i]).2):=fun i h a b=>by rw[hC,gJ h a b];exact if_neg b
   generalize hxs:(p.exprs.map fun k=>(Ex.kind (s.map kT) (own::env) k).1)=xs;have hgood:(∀j (hj:j<p.exprs.length),(Ex.kind (s.map kT) (own::env) p.exprs[j]).2=0)->C=gM (aQ (s.map kT) p.op p.table p.kinds p.ah p.aA cs own xs):=fun h=>by rw[hC,gI h,hxs];exact if_pos rfl
   have hxl:xs.length=p.exprs.length:=by rw[<-hxs];simp
   have hxi:∀i (h:i<p.exprs.length) (h':i<xs.length),xs[i]=(Ex.kind (s.map kT) (own::env) p.exprs[i]).1:=by intro i h h';subst hxs;simp
   have hres:=xu s p hs cs own xs (hrok xs n1 n2 hxl);have hel0:p.exprs.length<=1099511627776:=hs.exprs;clear hC hxs;replace hxl:=Hd.mk hxl;refine av (σ:=Nat) (fun i en st=>(en 3=.ptr 3 1 0/\en 4=.ptr 4 1 0/\GL st 47 (en 8) es/\en 13=.sl true (own.map u8)/\en 15=.sl true (kX own::env.map kX)/\(∃q,st 3=⟨1,true,some (.box (.agg [kN s])),q⟩)/\(∃q,st 4=⟨1,true,some (.box p.enc),q⟩))/\en 95=.sl false (p.exprs.map Ex.enc)/\en 96=i6 p.exprs.length/\en 97=i6 i/\jF st 114 (en 20) (xs.take i)/\i<=p.exprs.length/\Hd (∀j (hj:j<i) (h:j<p.exprs.length),(Ex.kind (s.map kT) (own::env) p.exprs[j]).2=0)) (fun i=>p.exprs.length-i) ?_ 0 _ _
    ⟨hbase,e95,e96,e97,.inl ⟨by simp,e20⟩,by omega,⟨fun _ h=>by omega⟩⟩
   rintro i en st ⟨⟨e3,e4,hrow,e13,e15,⟨q3,s3⟩,⟨q4,s4⟩⟩,e95,e96,e97,hxr,hi,hA⟩ ih;have s4':=s4;rw[he]at s4'
   simp[e95,e96,e97];refine aj (fun h=>?_) (fun h=>?_)<;>(have h':=h;try simp at h')<;>(try simp[*])
   ·have hl':p.exprs.length<=9223372036854775807:=by omega
    have hcall:=hx' p.exprs[i] (gG h');unfold iR at hcall;have hb:=hbad i h' (fun j hj=>hA.out j hj (by omega));have hix:i<xs.length:=by have:=hxl.out;omega
    have hxie:=hxi i h' hix;have hke:=p.exprs[i].ay;have hA':(Ex.kind (s.map kT) (own::env) p.exprs[i]).2=0->∀j (hj:j<i+1) (h:j<p.exprs.length),(Ex.kind (s.map kT) (own::env) p.exprs[j]).2=0:=fun g j hj h=>by
     rcases qP (qQ hj)with h2|h2
     ·exact hA.out j h2 h
     ·subst h2;exact g
    have htk:=dJ hix;rw[hxie]at htk
    have hln:(xs.take i).length<=140737488355327:=by simp;omega
    replace hA':=Hd.mk hA';clear hxie;generalize Ex.kind (s.map kT) (own::env) p.exprs[i]=kr at hcall hb htk hA';obtain⟨k1,k2⟩:=kr;simp only at hcall hb htk hA';simp only[ku]at hcall;rw[hke]at hcall
    simp only[hke];by_cases k0:k2=0
    ·subst k0;generalize xs.take i=ys at hxr htk hln;rcases hxr with⟨r1,r2⟩|⟨r1,g,c,r2,r3⟩
     ·simp[hcall,e3,e4,e15,e95,e96,e97,s3,s4',r2];refine ih.out (i+1) _ _ ?_ (by omega);refine⟨⟨by simp[e3],by simp[e4],by simpa[GL]using hrow,by simp[e13],by simp[e15],⟨q3,by simp[s3]⟩,⟨q4,by simp[s4',s4,he]⟩⟩,by simp[e95],by simp[e96],by simp[ai h' hl'],?_,h',⟨hA'.out rfl⟩⟩;rw[htk,r1];exact .inr ⟨by simp,(st 114).g+1,_,by simp,by simp;rfl⟩
     ·simp[hcall,e3,e4,e15,e95,e96,e97,s3,s4',r2,r3,hln];refine ih.out (i+1) _ _ ?_ (by omega);refine⟨⟨by simp[e3],by simp[e4],by simpa[GL]using hrow,by simp[e13],by simp[e15],⟨q3,by simp[s3]⟩,⟨q4,by simp[s4',s4,he]⟩⟩,by simp[e95],by simp[e96],by simp[ai h' hl'],?_,h',⟨hA'.out rfl⟩⟩;rw[htk];exact .inr ⟨by simp,g+1,_,by simp,by simp[r3];rfl⟩
    ·have hE:=hb k0;subst hE;simp[hcall,e3,e4,e15,e95,e96,e97,s3,s4',k0]
   ·have hCE:=hgood (fun j hj=>hA.out j (by omega) hj);have hfull:xs.take i=xs:=wU (by have:=hxl.out;omega);rw[hfull]at hxr
    obtain⟨fl,hres⟩:=hres;rw[he]at hres
    clear hbad hgood ih hA hxi;generalize aQ (s.map kT) p.op p.table p.kinds p.ah p.aA cs own xs=R at hres hCE;obtain⟨rc,rerr⟩:=R;simp only at hres;by_cases rz:rerr=0
    ·subst rz;by_cases r64:64<rc.length
     ·have hw:gM (rc,0)=([],2):=if_pos ⟨rfl,r64⟩;rw[hw]at hCE
      subst hCE;have r64':(64:Int)<rc.length:=by omega
      rcases hrow with⟨r1,r2⟩|⟨r1,g,wr,c,r2,r3⟩
      ·have hsh0:(cs.map kX)=[]:=by rw[<-hsh,r1];rfl
       rw[hsh0]at hres
       rcases hxr with⟨q1,q2⟩|⟨q1,g',c',q2,q3⟩
       ·have hx0:kX xs=.sl false []:=by rw[q1];rfl
        rw[hx0]at hres
        simp[hres,e3,e4,e13,s3,s4',r2,q2,r64,r64']
       ·simp[hres,e3,e4,e13,s3,s4',r2,q2,q3,r64,r64']
      ·rcases hxr with⟨q1,q2⟩|⟨q1,g',c',q2,q3⟩
       ·have hx0:kX xs=.sl false []:=by rw[q1];rfl
        rw[hx0]at hres
        simp[hres,e3,e4,e13,s3,s4',r2,r3,hdp,hsh,q2,r64,r64']
       ·simp[hres,e3,e4,e13,s3,s4',r2,r3,hdp,hsh,q2,q3,r64,r64']
     ·have hw:gM (rc,0)=(rc,0):=if_neg (fun q=>r64 q.2);rw[hw]at hCE
      subst hCE;have r64':¬(64:Int)<rc.length:=by omega
      rcases hrow with⟨r1,r2⟩|⟨r1,g,wr,c,r2,r3⟩
      ·have hsh0:(cs.map kX)=[]:=by rw[<-hsh,r1];rfl
       rw[hsh0]at hres
       rcases hxr with⟨q1,q2⟩|⟨q1,g',c',q2,q3⟩
       ·have hx0:kX xs=.sl false []:=by rw[q1];rfl
        rw[hx0]at hres
        simp[hres,e3,e4,e13,s3,s4',r2,q2,r64,r64']
       ·simp[hres,e3,e4,e13,s3,s4',r2,q2,q3,r64,r64']
      ·rcases hxr with⟨q1,q2⟩|⟨q1,g',c',q2,q3⟩
       ·have hx0:kX xs=.sl false []:=by rw[q1];rfl
        rw[hx0]at hres
        simp[hres,e3,e4,e13,s3,s4',r2,r3,hdp,hsh,q2,r64,r64']
       ·simp[hres,e3,e4,e13,s3,s4',r2,r3,hdp,hsh,q2,q3,r64,r64']
    ·have hw:gM (rc,rerr)=(rc,rerr):=if_neg (fun q=>rz q.1);rw[hw]at hCE
     subst hCE;rcases hrow with⟨r1,r2⟩|⟨r1,g,wr,c,r2,r3⟩
     ·have hsh0:(cs.map kX)=[]:=by rw[<-hsh,r1];rfl
      rw[hsh0]at hres
      rcases hxr with⟨q1,q2⟩|⟨q1,g',c',q2,q3⟩
      ·have hx0:kX xs=.sl false []:=by rw[q1];rfl
       rw[hx0]at hres
       simp[hres,e3,e4,e13,s3,s4',r2,q2,rz]
      ·simp[hres,e3,e4,e13,s3,s4',r2,q2,q3,rz]
     ·rcases hxr with⟨q1,q2⟩|⟨q1,g',c',q2,q3⟩
      ·have hx0:kX xs=.sl false []:=by rw[q1];rfl
       rw[hx0]at hres
       simp[hres,e3,e4,e13,s3,s4',r2,r3,hdp,hsh,q2,rz]
      ·simp[hres,e3,e4,e13,s3,s4',r2,r3,hdp,hsh,q2,q3,rz]
  have loop2:¬(p.op=1/\(s.length:Int)<=p.table)->bQ p.ah p.aA p.keys own=0->
   (C=if(aF (fun e=>dm (Ex.kind (s.map kT) (own::env) e)) p.conds).2=0 then(if(aF (Ex.kind (s.map kT) (own::env)) p.exprs).2=0 then gM (aQ (s.map kT) p.op p.table p.kinds p.ah p.aA cs own (aF (Ex.kind (s.map kT) (own::env)) p.exprs).1)else([],(aF (Ex.kind (s.map kT) (own::env)) p.exprs).2))else([],(aF (fun e=>dm (Ex.kind (s.map kT) (own::env) e)) p.conds).2))->
   ∀(en:Env) (st:ax),en 3=.ptr 3 1 0/\en 4=.ptr 4 1 0/\GL st 47 (en 8) es/\en 13=.sl true (own.map u8)/\en 15=.sl true (kX own::env.map kX)/\(∃q,st 3=⟨1,true,some (.box (.agg [kN s])),q⟩)/\(∃q,st 4=⟨1,true,some (.box p.enc),q⟩)->en 74=.sl false (p.conds.map Ex.enc)->en 75=i6 p.conds.length->en 76=i6 (0:Nat)->wp T [It.lp aax,It.bl 2,It.code ((IC.ops T_).seq (((IC.ops Ua).seq (IC.block 4 (IC.loop T9))).seq ((IC.ops Lc).seq (((IC.ops Lf).seq (IC.cond (Ar.t 131) ((IC.ops Lg).seq IC.ret) IC.skip)).seq ((IC.ops Lh).seq IC.ret)))))] en st (fun e s=>∃a:Fl,aC e s [gQ.tmp 6,gQ.tmp 7]=some (.cZ [.sl a.b (C.1.map u8),i6 C.2])):=by
   intro n1 n2 hC en st hbase e74 e75 e76;have hbad:∀i (h:i<p.conds.length),(∀j (hj:j<i),(dm (Ex.kind (s.map kT) (own::env) p.conds[j])).2=0)->¬(dm (Ex.kind (s.map kT) (own::env) p.conds[i])).2=0->C=([],(dm (Ex.kind (s.map kT) (own::env) p.conds[i])).2):=fun i h a b=>by rw[hC,gJ (f:=fun e=>dm (Ex.kind (s.map kT) (own::env) e)) h a b];exact if_neg b
   have hgood:(∀j (hj:j<p.conds.length),(dm (Ex.kind (s.map kT) (own::env) p.conds[j])).2=0)->C=(if(aF (Ex.kind (s.map kT) (own::env)) p.exprs).2=0 then gM (aQ (s.map kT) p.op p.table p.kinds p.ah p.aA cs own (aF (Ex.kind (s.map kT) (own::env)) p.exprs).1)else([],(aF (Ex.kind (s.map kT) (own::env)) p.exprs).2)):=fun h=>by rw[hC,gI (f:=fun e=>dm (Ex.kind (s.map kT) (own::env) e)) h];exact if_pos rfl
   have hcl0:p.conds.length<=1099511627776:=hs.conds;clear hC;replace loop3:=Hd.mk (loop3 n1 n2);refine av (σ:=Nat) (fun i en st=>(en 3=.ptr 3 1 0/\en 4=.ptr 4 1 0/\GL st 47 (en 8) es/\en 13=.sl true (own.map u8)/\en 15=.sl true (kX own::env.map kX)/\(∃q,st 3=⟨1,true,some (.box (.agg [kN s])),q⟩)/\(∃q,st 4=⟨1,true,some (.box p.enc),q⟩))/\en 74=.sl false (p.conds.map Ex.enc)/\en 75=i6 p.conds.length/\en 76=i6 i/\i<=p.conds.length/\Hd (∀j (hj:j<i) (h:j<p.conds.length),(dm (Ex.kind (s.map kT) (own::env) p.conds[j])).2=0)) (fun i=>p.conds.length-i) ?_ 0 _ _
    ⟨hbase,e74,e75,e76,by omega,⟨fun _ h=>by omega⟩⟩
   rintro i en st ⟨⟨e3,e4,hrow,e13,e15,⟨q3,s3⟩,⟨q4,s4⟩⟩,e74,e75,e76,hi,hA⟩ ih;have s4':=s4;rw[he]at s4'
   simp[e74,e75,e76];refine aj (fun h=>?_) (fun h=>?_)<;>(have h':=h;try simp at h')<;>(try simp[*])
   ·have hl':p.conds.length<=9223372036854775807:=by omega
    have hcall:=hc' p.conds[i] (gG h');unfold iR at hcall;have hb:=hbad i h' (fun j hj=>hA.out j hj (by omega));have hke:=p.conds[i].ay;have hA':(dm (Ex.kind (s.map kT) (own::env) p.conds[i])).2=0->∀j (hj:j<i+1) (h:j<p.conds.length),(dm (Ex.kind (s.map kT) (own::env) p.conds[j])).2=0:=fun g j hj h=>by
     rcases qP (qQ hj)with h2|h2
     ·exact hA.out j h2 h
     ·subst h2;exact g
    replace hA':=Hd.mk hA';generalize Ex.kind (s.map kT) (own::env) p.conds[i]=kr at hcall hb hA';obtain⟨k1,k2⟩:=kr;simp only[ku]at hcall;rw[hke]at hcall
    simp only[hke];have hag:=iD k1 3;by_cases k0:k2=0
    ·subst k0;by_cases hg:aL k1 3=true
     ·have hck:dm (k1,0)=(k1,0):=by simp[dm,hg]
      rw[hck]at hA'
      rw[hg]at hag
      simp[hcall,hag,e3,e4,e15,e74,e75,e76,s3,s4'];refine ih.out (i+1) _ _ ?_ (by omega);exact⟨⟨by simp[e3],by simp[e4],by simpa[GL]using hrow,by simp[e13],by simp[e15],⟨q3,by simp[s3]⟩,⟨q4,by simp[s4',s4,he]⟩⟩,by simp[e74],by simp[e75],by simp[ai h' hl'],h',⟨hA'.out rfl⟩⟩
     ·simp only[Bool.not_eq_true]at hg;have hck:dm (k1,0)=(0,50):=by simp[dm,hg]
      rw[hck]at hb
      have hE:=hb (by decide);rw[hg]at hag
      subst hE;simp[hcall,hag,e3,e4,e15,e74,e75,e76,s3,s4']
    ·have hck:dm (k1,k2)=(k1,k2):=by simp[dm,k0]
     rw[hck]at hb
     have hE:=hb k0;subst hE;simp[hcall,e3,e4,e15,e74,e75,e76,s3,s4',k0]
   ·have hCE:=hgood (fun j hj=>hA.out j (by omega) hj)
    try simp[e3,e4,s4']
    exact loop3.out hCE _ _ ⟨by simp[e3],by simp[e4],by simpa[GL]using hrow,by simp[e13],by simp[e15],⟨q3,by simp[s3]⟩,⟨q4,by simp[s4',s4,he]⟩⟩ (by simp) (by simp) (by simp) (by simp)
  have hE':=hE.out;by_cases h1:p.op=1/\(s.length:Int)<=p.table
  ·rw[if_pos h1]at hE'
   subst hE';simp[e3,e4,s3,s4',h1.1,h1.2]
  rw[if_neg h1]at hE'
  replace loop2:=fun n=>loop2 h1 n;clear loop3;have hrow':=hrow;by_cases hn:bQ p.ah p.aA p.keys own=0
  ·rw[if_pos hn]at hE'
   rw[hn]at hnum
   replace loop2:=Hd.mk (loop2 hn hE');rcases hrow with⟨r1,r2⟩|⟨r1,g,c,r2,r3⟩
   ·have hsh0:(cs.map kX)=[]:=by rw[<-hsh,r1];rfl
    rw[hsh0]at hrw
    by_cases h01:p.op=1
    ·have hnt:¬(s.length:Int)<=p.table:=fun q=>h1 ⟨h01,q⟩;rw[h01]at hrw hnum s4'
     simp[hrw,hnum,hon,e2,e3,e4,s3,s4',r2,h01,hnt];exact loop2.out _ _ ⟨by simp[e3],by simp[e4],.inl ⟨r1,by simp[r2]⟩,by simp,by simp,⟨q3,by simp[s3]⟩,⟨q4,by simp[s4',s4,he,h01]⟩⟩ (by simp) (by simp) (by simp)
    ·simp[hrw,hnum,hon,e2,e3,e4,s3,s4',r2,h01];exact loop2.out _ _ ⟨by simp[e3],by simp[e4],.inl ⟨r1,by simp[r2]⟩,by simp,by simp,⟨q3,by simp[s3]⟩,⟨q4,by simp[s4',s4,he]⟩⟩ (by simp) (by simp) (by simp)
   ·by_cases h01:p.op=1
    ·have hnt:¬(s.length:Int)<=p.table:=fun q=>h1 ⟨h01,q⟩;rw[h01]at hrw hnum s4'
     simp[hrw,hnum,hon,e2,e3,e4,s3,s4',r2,r3,hdp,hsh,h01,hnt];exact loop2.out _ _ ⟨by simp[e3],by simp[e4],.inr ⟨r1,g,false,_,by simp[r2],by simp[r3];rfl⟩,by simp,by simp,⟨q3,by simp[s3]⟩,⟨q4,by simp[s4',s4,he,h01]⟩⟩ (by simp) (by simp) (by simp)
    ·simp[hrw,hnum,hon,e2,e3,e4,s3,s4',r2,r3,hdp,hsh,h01];exact loop2.out _ _ ⟨by simp[e3],by simp[e4],.inr ⟨r1,g,false,_,by simp[r2],by simp[r3];rfl⟩,by simp,by simp,⟨q3,by simp[s3]⟩,⟨q4,by simp[s4',s4,he]⟩⟩ (by simp) (by simp) (by simp)
  ·rw[if_neg hn]at hE'
   generalize bQ p.ah p.aA p.keys own=N at hn hnum hE';subst hE';rcases hrow with⟨r1,r2⟩|⟨r1,g,c,r2,r3⟩
   ·have hsh0:(cs.map kX)=[]:=by rw[<-hsh,r1];rfl
    rw[hsh0]at hrw
    by_cases h01:p.op=1
    ·have hnt:¬(s.length:Int)<=p.table:=fun q=>h1 ⟨h01,q⟩;rw[h01]at hrw hnum s4'
     simp[hrw,hnum,hon,e2,e3,e4,s3,s4',r2,hn,h01,hnt]
    ·simp[hrw,hnum,hon,e2,e3,e4,s3,s4',r2,hn,h01]
   ·by_cases h01:p.op=1
    ·have hnt:¬(s.length:Int)<=p.table:=fun q=>h1 ⟨h01,q⟩;rw[h01]at hrw hnum s4'
     simp[hrw,hnum,hon,e2,e3,e4,s3,s4',r2,r3,hdp,hsh,hn,h01,hnt]
    ·simp[hrw,hnum,hon,e2,e3,e4,s3,s4',r2,r3,hdp,hsh,hn,h01]
def Tal(f:Nat)(xs:X->List X)(n:Nat):Prop:=∀(q g t k:Nat) (s:ax),q<1000->s q=⟨g,true,some (.box (i6 t)),k⟩->t<=400->
 ∃(s':ax) (k':Nat),bZ (run T) T f (xs (.ptr q g 0)) s=some (.v (.bool (decide (t+n<=400))),s')/\s' q=⟨g,true,some (.box (i6 (min (t+n) 401:Nat))),k'⟩
theorem yH:Tal UG (fun p=>[p]) 1:=by
 intro q g t k s hq hs ht;obtain⟨r,hr,h1,h2⟩:=fF (T:=T) (f:=UG) (nt:=16) (res:=[.tmp 2]) (body:=q32B) (xs:=[.ptr q g 0]) (s:=s) (P:=fun r=>r.1=.v (.bool (decide (t+1<=400)))/\∃k',r.2 q=⟨g,true,some (.box (i6 (min (t+1) 401:Nat))),k'⟩) (by kernel_rfl) (by simp) (by
  have h0:¬(400:Int)<(t:Int):=by omega
  have hw:IntKind.i64.wrap ((t:Int)+1)=((t+1:Nat):Int):=ai (n:=9223372036854775807) (by omega) (by omega);have hm:min (t+1) 401=t+1:=by omega
  have hle:(((t+1:Nat):Int)<=400)=(t+1<=400):=by apply propext;omega
  rw[hm];simp[hs,h0,hw,hle,dX,bV,dZ];omega)
 exact⟨r.2,h2.choose,by rw[hr,<-h1],h2.choose_spec⟩
theorem kZ{q g:Nat}{b:Bool}{n:Int}{o:Option (X×ax)}{d:Option Nat}{l:List fE}{k:List It}{e:Env}{Q:Env->ax->Prop}
 (h:∃(s':ax) (k':Nat),o=some (.v (.bool b),s')/\s' q=⟨g,true,some (.box (i6 n)),k'⟩)
 (hk:∀(s':ax) (k':Nat),s' q=⟨g,true,some (.box (i6 n)),k'⟩->VJ T (some (.v (.bool b),s')) d l k e Q):VJ T o d l k e Q:=by
 obtain⟨s',k',rfl,h⟩:=h;exact hk s' k' h
theorem uL(l:List Ex)(hl:aV l)(f:Nat)(hk:∀k∈l,Tal f (fun p=>[p,k.enc]) k.size):Tal UU (fun p=>[.sl false (l.map Ex.enc),.fm f [p]]) (aS Ex.size l):=by
 intro q g t k s hq hs ht;have hl':l.length<=9223372036854775807:=iq hl (by decide);obtain⟨r,hr,h1,h2⟩:=fF (T:=T) (f:=UU) (nt:=18) (res:=[.tmp 4]) (body:=q7B) (xs:=[.sl false (l.map Ex.enc),.fm f [.ptr q g 0]]) (s:=s) (P:=fun r=>r.1=.v (.bool (decide (t+aS Ex.size l<=400)))/\∃k',r.2 q=⟨g,true,some (.box (i6 (min (t+aS Ex.size l) 401:Nat))),k'⟩) (by kernel_rfl) (by simp) (by
  simp;refine av (σ:=Nat) (fun i en s=>en 1=.fm f [.ptr q g 0]/\en 7=.sl false (l.map Ex.enc)/\en 8=i6 l.length/\en 9=i6 i/\(∃k,s q=⟨g,true,some (.box (i6 (t+aS Ex.size (l.take i):Nat))),k⟩)/\t+aS Ex.size (l.take i)<=400/\i<=l.length) (fun i=>l.length-i) ?_ 0 _ _
   ⟨by simp,by simp,by simp,by simp,⟨k,by simp[aS,hs]⟩,by simp[aS];omega,by omega⟩
  rintro i en s ⟨h1,h7,h8,h9,⟨k,hs⟩,hle,hi⟩ ih;simp[h1,h7,h8,h9];refine aj (fun h=>?_) (fun h=>?_)<;>(have h':=h;try simp at h')<;>(try simp[*])
  ·have hke:=l[i].ay;have ht:=hk l[i] (gG h');have hst:=jc (f:=Ex.size) h';rw[hke]at ht
   simp only[hke];simp[h1,h7,h8,h9];refine kZ (ht q g _ k _ hq (by simp[hs,show ¬q=14006 by omega]) hle) ?_;intro s' k' hs';rw[Nat.add_assoc,<-hst]at hs' ⊢
   by_cases hb:t+aS Ex.size (l.take (i+1))<=400
   ·simp[hb,h1,h7,h8,h9];refine ih.out (i+1) _ _ ?_ (by omega);exact⟨by simp[h1],by simp[h7],by simp[h8],by simp[ai h' hl'],⟨k',by rw[hs'];rw[show min (t+aS Ex.size (l.take (i+1))) 401=t+aS Ex.size (l.take (i+1))by omega]⟩,hb,h'⟩
   ·simp[hb,dX,bV,dZ];have:=kY (f:=Ex.size) (l:=l) (i:=i+1);refine⟨by omega,k',?_⟩;rw[hs',show min (t+aS Ex.size (l.take (i+1))) 401=401 by omega,show min (t+aS Ex.size l) 401=401 by omega]
  ·have hfull:=kR (f:=Ex.size) (l:=l) (i:=i) (by omega);rw[hfull]at hs hle
   try rw[hfull]
   simp[dX,bV,dZ,hs];refine⟨hle,?_⟩;omega)
 exact⟨r.2,h2.choose,by rw[hr,<-h1],h2.choose_spec⟩
theorem Bg(l:List Pn)(hl:aV l)(f:Nat)(hk:∀k∈l,Tal f (fun p=>[p,k.enc]) k.size):Tal Fs (fun p=>[.sl false (l.map Pn.enc),.fm f [p]]) (aS Pn.size l):=by
 intro q g t k s hq hs ht;have hl':l.length<=9223372036854775807:=iq hl (by decide);obtain⟨r,hr,h1,h2⟩:=fF (T:=T) (f:=Fs) (nt:=18) (res:=[.tmp 4]) (body:=q10B) (xs:=[.sl false (l.map Pn.enc),.fm f [.ptr q g 0]]) (s:=s) (P:=fun r=>r.1=.v (.bool (decide (t+aS Pn.size l<=400)))/\∃k',r.2 q=⟨g,true,some (.box (i6 (min (t+aS Pn.size l) 401:Nat))),k'⟩) (by kernel_rfl) (by simp) (by
  simp;refine av (σ:=Nat) (fun i en s=>en 1=.fm f [.ptr q g 0]/\en 7=.sl false (l.map Pn.enc)/\en 8=i6 l.length/\en 9=i6 i/\(∃k,s q=⟨g,true,some (.box (i6 (t+aS Pn.size (l.take i):Nat))),k⟩)/\t+aS Pn.size (l.take i)<=400/\i<=l.length) (fun i=>l.length-i) ?_ 0 _ _
   ⟨by simp,by simp,by simp,by simp,⟨k,by simp[aS,hs]⟩,by simp[aS];omega,by omega⟩
  rintro i en s ⟨h1,h7,h8,h9,⟨k,hs⟩,hle,hi⟩ ih;simp[h1,h7,h8,h9];refine aj (fun h=>?_) (fun h=>?_)<;>(have h':=h;try simp at h')<;>(try simp[*])
  ·have hke:=l[i].ay;have ht:=hk l[i] (gG h');have hst:=jc (f:=Pn.size) h';rw[hke]at ht
   simp only[hke];simp[h1,h7,h8,h9];refine kZ (ht q g _ k _ hq (by simp[hs,show ¬q=15006 by omega]) hle) ?_;intro s' k' hs';rw[Nat.add_assoc,<-hst]at hs' ⊢
   by_cases hb:t+aS Pn.size (l.take (i+1))<=400
   ·simp[hb,h1,h7,h8,h9];refine ih.out (i+1) _ _ ?_ (by omega);exact⟨by simp[h1],by simp[h7],by simp[h8],by simp[ai h' hl'],⟨k',by rw[hs'];rw[show min (t+aS Pn.size (l.take (i+1))) 401=t+aS Pn.size (l.take (i+1))by omega]⟩,hb,h'⟩
   ·simp[hb,dX,bV,dZ];have:=kY (f:=Pn.size) (l:=l) (i:=i+1);refine⟨by omega,k',?_⟩;rw[hs',show min (t+aS Pn.size (l.take (i+1))) 401=401 by omega,show min (t+aS Pn.size l) 401=401 by omega]
  ·have hfull:=kR (f:=Pn.size) (l:=l) (i:=i) (by omega);rw[hfull]at hs hle
   try rw[hfull]
   simp[dX,bV,dZ,hs];refine⟨hle,?_⟩;omega)
 exact⟨r.2,h2.choose,by rw[hr,<-h1],h2.choose_spec⟩
theorem Vz:(∀e:Ex,e.small->Tal Dk (fun p=>[p,e.enc]) e.size)/\(∀p:Pn,p.small->Tal Jz (fun q=>[q,p.enc]) p.size):=by
 refine d9 (fun e h1 h2 hs=>?_) (fun x h1 h2 h3 hs=>?_)
 ·have hs':=Ex.dH hs;have a1:=uL e.kids hs'.kids Dk (fun k hk=>h1 k hk (hs'.kid k hk));have a2:=Bg e.sub hs'.sub Jz (fun k hk=>h2 k hk (hs'.subs k hk));have he:=e.ay;intro q g t k s hq hst ht;have hsz:=Ex.size_eq e;obtain⟨r,hr,g1,g2⟩:=fF (T:=T) (f:=Dk) (nt:=21) (res:=[.tmp 4]) (body:=q33B) (xs:=[.ptr q g 0,e.enc]) (s:=s) (P:=fun r=>r.1=.v (.bool (decide (t+e.size<=400)))/\∃k',r.2 q=⟨g,true,some (.box (i6 (min (t+e.size) 401:Nat))),k'⟩) (by kernel_rfl) (by simp) (by
   rw[he];simp;refine kZ (yH q g t k _ hq (by simp[hst]) ht) ?_;intro s1 k1 hs1;by_cases b1:t+1<=400
   ·rw[show min (t+1) 401=t+1 by omega]at hs1
    simp[b1];refine kZ (a1 q g (t+1) k1 _ hq hs1 b1) ?_;intro s2 k2 hs2;by_cases b2:t+1+aS Ex.size e.kids<=400
    ·rw[show min (t+1+aS Ex.size e.kids) 401=t+1+aS Ex.size e.kids by omega]at hs2
     simp[b2];refine kZ (a2 q g _ k2 _ hq hs2 b2) ?_;intro s3 k3 hs3;have hh:t+1+aS Ex.size e.kids+aS Pn.size e.sub=t+e.size:=by omega
     rw[hh]at hs3 ⊢
     simp[dX,bV,dZ,hs3]
    ·simp[b2,dX,bV,dZ,hs2];refine⟨by omega,by omega⟩
   ·simp[b1,dX,bV,dZ,hs1];refine⟨by omega,by omega⟩)
  exact⟨r.2,g2.choose,by rw[hr,<-g1],g2.choose_spec⟩
 ·have hs':=Pn.dH hs;have a1:=Bg x.kids hs'.kids Jz (fun k hk=>h1 k hk (hs'.kid k hk));have a2:=uL x.conds hs'.conds Dk (fun k hk=>h2 k hk (hs'.cond k hk));have a3:=uL x.exprs hs'.exprs Dk (fun k hk=>h3 k hk (hs'.expr k hk));have he:=x.ay;intro q g t k s hq hst ht;have hsz:=Pn.size_eq x;obtain⟨r,hr,g1,g2⟩:=fF (T:=T) (f:=Jz) (nt:=28) (res:=[.tmp 4]) (body:=q34B) (xs:=[.ptr q g 0,x.enc]) (s:=s) (P:=fun r=>r.1=.v (.bool (decide (t+x.size<=400)))/\∃k',r.2 q=⟨g,true,some (.box (i6 (min (t+x.size) 401:Nat))),k'⟩) (by kernel_rfl) (by simp) (by
   rw[he];simp;refine kZ (yH q g t k _ hq (by simp[hst]) ht) ?_;intro s1 k1 hs1;by_cases b1:t+1<=400
   ·rw[show min (t+1) 401=t+1 by omega]at hs1
    simp[b1];refine kZ (a1 q g (t+1) k1 _ hq hs1 b1) ?_;intro s2 k2 hs2;by_cases b2:t+1+aS Pn.size x.kids<=400
    ·rw[show min (t+1+aS Pn.size x.kids) 401=t+1+aS Pn.size x.kids by omega]at hs2
     simp[b2];refine kZ (a2 q g _ k2 _ hq hs2 b2) ?_;intro s3 k3 hs3;by_cases b3:t+1+aS Pn.size x.kids+aS Ex.size x.conds<=400
     ·rw[show min (t+1+aS Pn.size x.kids+aS Ex.size x.conds) 401=t+1+aS Pn.size x.kids+aS Ex.size x.conds by omega]at hs3
      simp[b3];refine kZ (a3 q g _ k3 _ hq hs3 b3) ?_;intro s4 k4 hs4;have hh:t+1+aS Pn.size x.kids+aS Ex.size x.conds+aS Ex.size x.exprs=t+x.size:=by omega
      rw[hh]at hs4 ⊢
      simp[dX,bV,dZ,hs4]
     ·simp[b3,dX,bV,dZ,hs3];refine⟨by omega,by omega⟩
    ·simp[b2,dX,bV,dZ,hs2];refine⟨by omega,by omega⟩
   ·simp[b1,dX,bV,dZ,hs1];refine⟨by omega,by omega⟩)
  exact⟨r.2,g2.choose,by rw[hr,<-g1],g2.choose_spec⟩
theorem uf(e:Ex)(h:e.small):call T q4n [e.enc]=some (i6 (min e.size 401:Nat)):=by
 refine q4g (by simp) ?_;have he:=e.ay;have ht:=Vz.1 e h;rw[he]at ht ⊢
 simp;refine kZ (ht 3 1 0 1 _ (by decide) (by simp) (by omega)) ?_;intro s' k' hs';rw[Nat.zero_add]at hs'
 simp[hs']
theorem MW{e k:Ex}(h:k∈e.kids):k.depth+1<=e.depth:=by cases e;rename_i l m;have:=Ex.fG (l:=l) h;simp only[Ex.depth];omega
theorem MX{e:Ex}{k:Pn}(h:k∈e.sub):k.depth+1<=e.depth:=by cases e;rename_i l m;have:=Pn.fG (l:=m) h;simp only[Ex.depth];omega
theorem H6{p k:Pn}(h:k∈p.kids):k.depth+1<=p.depth:=by cases p;rename_i c d _ _ _ _ _ l;have:=Pn.fG (l:=l) h;simp only[Pn.depth];omega
theorem HY{p:Pn}{k:Ex}(h:k∈p.conds):k.depth+1<=p.depth:=by cases p;rename_i c d _ _ _ _ _ l;have:=Ex.fG (l:=c) h;simp only[Pn.depth];omega
theorem HZ{p:Pn}{k:Ex}(h:k∈p.exprs):k.depth+1<=p.depth:=by cases p;rename_i c d _ _ _ _ _ l;have:=Ex.fG (l:=d) h;simp only[Pn.depth];omega
theorem EL{l:List Ex}(h:∀k∈l,k.depth<=k.size):Ex.iI l<=aS Ex.size l:=by
 induction l with
 | nil=>simp[Ex.iI]
 | cons a l ih=>
  have h1:=h a (by simp);have h2:=ih fun k hk=>h k (by simp[hk]);simp only[Ex.iI,aS];omega
theorem HV{l:List Pn}(h:∀k∈l,k.depth<=k.size):Pn.iI l<=aS Pn.size l:=by
 induction l with
 | nil=>simp[Pn.iI]
 | cons a l ih=>
  have h1:=h a (by simp);have h2:=ih fun k hk=>h k (by simp[hk]);simp only[Pn.iI,aS];omega
theorem H7:(∀e:Ex,e.depth<=e.size)/\(∀p:Pn,p.depth<=p.size):=by
 refine d9 (fun e h1 h2=>?_) (fun x h1 h2 h3=>?_)
 ·have a:=EL h1;have b:=HV h2;rw[Ex.size_eq];cases e;simp only[Ex.depth,Ex.kids,Ex.sub]at *
  omega
 ·have a:=HV h1;have b:=EL h2;have c:=EL h3;rw[Pn.size_eq];cases x;simp only[Pn.depth,Pn.kids,Pn.conds,Pn.exprs]at *
  omega
theorem QT(s:List fZ)(hst:∀t∈s,aV t.ah) :
 (∀e:Ex,e.small->e.formed=true->∀env:List (List Int),env.length+e.depth<=5864062014804->iR s env e)/\
 (∀p:Pn,p.small->p.formed=true->∀env:List (List Int),env.length+p.depth<=5864062014804->qp s env p):=by
 refine d9 (fun e h1 h2 hs hf env hd=>?_) (fun x h1 h2 h3 hs hf env hd=>?_)
 ·have hs':=Ex.dH hs;have hf':=jI hf;exact PX s env e hs' hf (fun k hk=>h1 k hk (hs'.kid k hk) (hf'.2.1 k hk) env (by have:=MW hk;omega)) (fun k hk=>h2 k hk (hs'.subs k hk) (hf'.2.2 k hk) env (by have:=MX hk;omega))
 ·have hs':=Pn.dH hs;have hf':=lG hf;exact Ps s hst env (by omega) x hs' hf (fun k hk=>h1 k hk (hs'.kid k hk) (hf'.2.1 k hk) env (by have:=H6 hk;omega))
   (fun own k hk=>h2 k hk (hs'.cond k hk) (hf'.2.2.1 k hk) (own::env) (by have:=HY hk;simp;omega))
   (fun own k hk=>h3 k hk (hs'.expr k hk) (hf'.2.2.2 k hk) (own::env) (by have:=HZ hk;simp;omega))
noncomputable def tV(s:List fZ)(env:List (List Int))(n:Int):Int:=
 if bP (fV s)=true/\env.all aX=true then(if 400<n\/400<env.length then 2 else 0)else 1
def vS(env:List (List Int)):Prop:=aV env/\∀r∈env,aV r
theorem vz(s:List fZ)(hv:call T Ce [kN s]=some (.v (.bool (bP (fV s)))))(env:List (List Int))(he:vS env)(n:Int):call T UE [kN s,.sl false (env.map kX),i6 n]=some (i6 (tV s env n)):=by
 refine q28g (by simp) ?_;have hl:env.length<=1099511627776:=he.1;have hl':env.length<=9223372036854775807:=by omega
 unfold tV;generalize bP (fV s)=b at hv ⊢;cases b
 ·simp[hv]
 have hbad:∀i (h:i<env.length),aX env[i]=false->env.all aX=false:=fun i h g=>dz h g;have hgood:(∀i (h:i<env.length),aX env[i]=true)->env.all aX=true:=bH;generalize env.all aX=R at hbad hgood ⊢;simp[hv];refine av (σ:=Nat) (fun i e s=>e 1=.sl false (env.map kX)/\e 2=i6 n/\e 12=.sl false (env.map kX)/\e 13=i6 env.length/\e 14=i6 i/\i<=env.length/\Hd (∀j (hj:j<i) (h:j<env.length),aX env[j]=true)) (fun i=>env.length-i) ?_ 0 _ _ ⟨by simp,by simp,by simp,by simp,by simp,by omega,⟨fun _ h=>by omega⟩⟩;rintro i e s ⟨h1,h2,h12,h13,h14,hi,hA⟩ ih;simp[h1,h2,h12,h13,h14];refine aj (fun h=>?_) (fun h=>?_)<;>(have h':=h;try simp at h')<;>(try simp[*])
 ·have hc:=Ao env[i] (he.2 _ (gG h')) UF (fun k=>decide (k<=3)) (fun k _=>G5 k);have hkb:(env[i].all fun k=>decide (k<=3))=aX env[i]:=rfl;rw[hkb]at hc
  have hb:=hbad i h';have hg:Hd (aX env[i]=true->∀j (hj:j<i+1) (h:j<env.length),aX env[j]=true):=⟨fun g j hj h=>by
   rcases qP (qQ hj)with h2|h2
   ·exact hA.out j h2 h
   ·subst h2;exact g⟩
  clear hkb;generalize aX env[i]=b at hc hb hg;simp[hc,h1,h2,h12,h13,h14];cases b
  ·have hR:=hb rfl;subst hR;simp
  ·simp[h1,h2,h12,h13,h14];refine ih.out (i+1) _ _ ?_ (by omega);exact⟨by simp[h1],by simp[h2],by simp[h12],by simp[h13],by simp[ai h' hl'],h',⟨hg.out rfl⟩⟩
 ·have hR:=hgood (fun j hj=>hA.out j (by omega) hj);subst hR;by_cases c1:400<n
  ·simp[h1,h2,c1]
  ·by_cases c2:400<env.length
   ·have c2':(400:Int)<env.length:=by omega
    simp[h1,h2,c1,c2,c2']
   ·have c2':¬(400:Int)<env.length:=by omega
    simp[h1,h2,c1,c2,c2']
noncomputable def fT(s:List fZ)(env:List (List Int))(e:Ex):Int×Int:=
 if tV s env (min e.size 401:Nat)=0 then(if e.formed=true then e.kind (s.map kT) env else(0,80))else(0,tV s env (min e.size 401:Nat))
theorem Al(s:List fZ)(hsv:call T Ce [kN s]=some (.v (.bool (bP (fV s)))))(hst:∀t∈s,aV t.ah)(env:List (List Int))(hv:vS env)(e:Ex)(he:e.small):call T q2n [kN s,e.enc,.sl false (env.map kX)]=some (.cZ [u8 (fT s env e).1,i6 (fT s env e).2]):=by
 refine q2g (by simp) ?_;have hsz:=uf e he;have hpr:=vz s hsv env hv (min e.size 401:Nat);have hfo:=IE.1 e he;have hk:tV s env (min e.size 401:Nat)=0->e.formed=true->iR s env e:=fun h hf=>by
  have h400:¬(400<((min e.size 401:Nat):Int)\/400<env.length):=by
   intro q;unfold tV at h;by_cases hc:bP (fV s)=true/\env.all aX=true
   ·rw[if_pos hc,if_pos q]at h;simp at h
   ·rw[if_neg hc]at h;simp at h
  have:=H7.1 e;exact(QT s hst).1 e he hf env (by omega)
 unfold iR at hk;unfold fT;have hee:=e.ay;generalize (min e.size 401:Nat)=m at hsz hpr hk ⊢;generalize tV s env m=P at hpr hk ⊢;generalize e.formed=F at hfo hk ⊢;rw[hee]at hsz hfo hk ⊢
 by_cases p0:P=0
 ·subst p0;cases F
  ·simp[hsz,hpr,hfo]
  ·have hkk:=hk rfl rfl;simp[hsz,hpr,hfo,hkk]
 ·simp[hsz,hpr,p0]
end Go.Proofs.YtbmkfjmlepjpfaaGreatDoor
