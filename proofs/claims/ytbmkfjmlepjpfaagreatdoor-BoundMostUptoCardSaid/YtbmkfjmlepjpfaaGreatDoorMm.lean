/- A part of the proof. -/
import Derived.Test.YtbmkfjmlepjpfaaGreatDoorKe
import Derived.Test.YtbmkfjmlepjpfaaGreatDoorFp
import Derived.Test.YtbmkfjmlepjpfaaGreatDoorVv
import Derived.Test.YtbmkfjmlepjpfaaGreatDoorEa
set_option linter.all false
set_option maxRecDepth 100000
namespace Go.Proofs.YtbmkfjmlepjpfaaGreatDoor
open Go.RowKit
abbrev kX(k:List Int):X:=.sl false (k.map u8)
@[simp] theorem deepL_kX(l:List (List Int)):aP (l.map kX)=true:=dJ (by simp) l
@[simp] theorem shrL_kX(l:List (List Int)):fu (l.map kX)=l.map kX:=eH (by simp) l
def kT(t:eT):List Int:=t.ah.map (·.kind)
theorem JO{α:Type}{l:List α}(h:l.length<=2):l=[]\/(∃a,l=[a])\/∃a b,l=[a,b]:=by
 rcases l with _|⟨a,_|⟨b,_|⟨c,l⟩⟩⟩
 ·exact .inl rfl
 ·exact .inr (.inl ⟨a,rfl⟩)
 ·exact .inr (.inr ⟨a,b,rfl⟩)
 ·simp at h
theorem Cc(row:List Int)(env:List (List Int))(h1:env.length<=5864062014804):call T Yp [kX row,.sl false (env.map kX)]=some (.sl true (kX row::env.map kX)):=by refine q27g (by simp) ?_;have htk:(env.map kX).take env.length=env.map kX:=List.take_of_length_le (by simp);simp[h1,Nat.add_comm 1 env.length,htk]
theorem DT(own:List Int)(n:Int):call T QN [i6 n,.ip (.sl false (own.map u8)) 0]=some (.v (.bool (decide (n<own.length)))):=by refine q24g (by simp) ?_;simp
theorem DU(own:List Int)(a:Ag):call T QO [a.enc,.ip (.sl false (own.map u8)) 0]=some (.v (.bool (decide (a.fn=0)||decide (a.col<own.length)))):=by
 refine q25g (by simp) ?_;by_cases h:a.fn=0
 ·simp[h]
 ·simp[h]
theorem DV(own:List Int)(k:Ky):call T QR [k.enc,.ip (.sl false (own.map u8)) 0]=some (.v (.bool (decide (k.col<own.length)))):=by refine q26g (by simp) ?_;simp
def gN(own:List Int)(a:Ag):Bool:=(!decide (a.fn=2)&&!decide (a.fn=5))||aG (own.getD a.col.toNat 0) 1
def xB(own:List Int)(a:Ag):Bool:=decide (a.fn=0)||decide (a.col<own.length)
set_option maxHeartbeats 1000000 in
theorem sI(p:Pn)(hs:p.je)(hf:∀a∈p.ax,0<=a.col)(own:List Int):call T Yo [p.enc,kX own]=some (i6 (bC p.ah p.ax p.keys own)):=by
 refine q23g (by simp) ?_;have he:=p.aB;have hl:p.ax.length<=9223372036854775807:=gJ hs.ax (by decide);have a1:=LP own p.ah hs.ah QN (fun n=>decide (n<own.length)) (fun k _=>DT own k);have a2:=Gj own p.ax hs.ax QO (xB own) (fun k _=>DU own k);have a3:=Gm own p.keys hs.keys QR (fun k=>decide (k.col<own.length)) (fun k _=>DV own k);have hN:bC p.ah p.ax p.keys own=if(p.ah.all (fun n=>decide (n<own.length))&&(p.ax.all (xB own)&&p.keys.all (fun k=>decide (k.col<own.length))))=true then(if p.ax.all (gN own)=true then 0 else 50)else 81:=rfl
 have hin:p.ax.all (xB own)=true->∀(i:Nat) (h:i<p.ax.length),xB own p.ax[i]=true:=fun h i hi=>List.all_eq_true.1 h _ (List.getElem_mem hi);rw[hN];clear hN;generalize p.ah.all (fun n=>decide (n<own.length))=B1 at a1 ⊢;generalize p.ax.all (xB own)=B2 at a2 hin ⊢;generalize p.keys.all (fun k=>decide (k.col<own.length))=B3 at a3 ⊢;rw[he];cases B1
 ·simp[a1]
 cases B2
 ·simp[a1,a2]
 cases B3
 ·simp[a1,a2,a3]
 have hbad:∀i (h:i<p.ax.length),gN own p.ax[i]=false->p.ax.all (gN own)=false:=fun i h g=>bT h g;have hgood:(∀i (h:i<p.ax.length),gN own p.ax[i]=true)->p.ax.all (gN own)=true:=bg;replace hin:=hin rfl;generalize p.ax.all (gN own)=R at hbad hgood ⊢;simp[a1,a2,a3];refine av (σ:=Nat) (fun i e s=>e 3=.ptr 3 1 0/\e 29=.sl false (p.ax.map Ag.enc)/\e 30=i6 p.ax.length/\e 31=i6 i/\(∃q,s 3=⟨1,true,some (.box (kX own)),q⟩)/\i<=p.ax.length/\Hd (∀j (hj:j<i) (h:j<p.ax.length),gN own p.ax[j]=true)) (fun i=>p.ax.length-i) ?_ 0 _ _
  ⟨by simp,by simp,by simp,by simp,⟨_,by simp;rfl⟩,by omega,⟨fun _ h=>by omega⟩⟩
 rintro i e s ⟨h3,h29,h30,h31,⟨q,s3⟩,hi,hA⟩ ih;simp[h3,h29,h30,h31];refine aj (fun h=>?_) (fun h=>?_)<;>(have h':=h;try simp at h')<;>(try simp[*])
 ·have hb:=hbad i h';have hg:Hd (gN own p.ax[i]=true->∀j (hj:j<i+1) (h:j<p.ax.length),gN own p.ax[j]=true):=⟨fun g j hj h=>by
   rcases Nat.lt_or_eq_of_le (Nat.le_of_lt_succ hj)with h2|h2
   ·exact hA.out j h2 h
   ·subst h2;exact g⟩
  have hv:gN own p.ax[i]=((!decide (p.ax[i].fn=2)&&!decide (p.ax[i].fn=5))||aG (own.getD p.ax[i].col.toNat 0) 1):=rfl;have hii:xB own p.ax[i]=(decide (p.ax[i].fn=0)||decide (p.ax[i].col<own.length)):=rfl;have hin':=hin i h';rw[hii]at hin'
  have hc0:=hf p.ax[i] (List.getElem_mem h');generalize gN own p.ax[i]=v at hb hg hv;have next:∀e' s' q',v=true->e' 3=.ptr 3 1 0->e' 29=.sl false (p.ax.map Ag.enc)->e' 30=i6 p.ax.length->e' 31=i6 ((i+1:Nat):Int)->s' 3=⟨1,true,some (.box (kX own)),q'⟩->wp T [It.lp ab1,It.bl 0,It.code ((IC.ops QM).seq IC.ret)] e' s' (fun e s=>aC e s [fI.tmp 4]=some (i6 (if(true&&(true&&true))=true then if R=true then 0 else 50 else 81))):=
   fun e' s' q' g a b c d f=>ih.out (i+1) e' s' ⟨a,b,c,d,⟨q',f⟩,h',⟨hg.out g⟩⟩ (by omega)
  replace next:=Hd.mk next
  clear ih hg hii;generalize p.ax[i]=a at hv hin' hc0 ⊢;obtain⟨fn,col,ZU⟩:=a;simp only at hv hin' hc0;by_cases f2:fn=2\/fn=5
  ·have f0:¬fn=0:=by omega
   have hcl:col<own.length:=by simpa[f0]using hin'
   obtain⟨j,rfl⟩:∃j:Nat,col=j:=⟨col.toNat,by omega⟩
   have hj:j<own.length:=by omega
   have hag:=gG own[j] 1;have hv':v=aG own[j] 1:=by rw[hv];rcases f2 with rfl|rfl<;>simp[hj]
   rw[<-hv']at hag
   cases v
   ·have hb':=hb rfl;subst hb';rcases f2 with rfl|rfl
    ·simp[hag,hj,h3,h29,h30,h31,s3]
    ·simp[hag,hj,h3,h29,h30,h31,s3]
   ·rcases f2 with rfl|rfl
    ·simp[hag,hj,h3,h29,h30,h31,s3];exact next.out _ _ q rfl (by simp[h3]) (by simp[h29]) (by simp[h30]) (by simp[ai h' hl]) (by simp[s3])
    ·simp[hag,hj,h3,h29,h30,h31,s3];exact next.out _ _ q rfl (by simp[h3]) (by simp[h29]) (by simp[h30]) (by simp[ai h' hl]) (by simp[s3])
  ·have f2':¬fn=2:=fun h=>f2 (.inl h);have f5':¬fn=5:=fun h=>f2 (.inr h);have hv':v=true:=by rw[hv];simp[f2',f5']
   simp[f2',f5',h3,h29,h30,h31,s3];exact next.out _ _ q hv' (by simp[h3]) (by simp[h29]) (by simp[h30]) (by simp[ai h' hl]) (by simp[s3])
 ·have hR:=hgood (fun j hj=>hA.out j (by omega) hj);subst hR;simp
theorem Ai(op:Int)(kids:List (List Int))(h:kids.length<=2)(hl:∀k∈kids,k.length<=64):call T Yq [u8 op,.sl false (kids.map kX)]=some (.sl true ((bH op kids).map u8)):=by
 refine q30g (by simp) ?_;have w1:IntKind.i64.wrap 1=1:=by decide
 have w2:IntKind.i64.wrap 2=2:=by decide
 rcases JO h with rfl|⟨a,rfl⟩|⟨a,b,rfl⟩
 ·simp[bH];rw[fw];simp
 ·have ha:a.length<=140737488355328:=gJ (hl a (by simp)) (by decide);by_cases h9:op=9
  ·by_cases a0:a=[]
   ·subst a0;simp[bH,h9];rw[fw];simp[w1,w2,h9];rw[fw];simp[w1,w2,h9]
   ·simp[bH,h9,a0,ha];rw[fw];simp[w1,w2,h9,a0,ha];rw[fw];simp[w1,w2,h9,a0,ha]
  ·by_cases a0:a=[]
   ·subst a0;simp[bH,h9];rw[fw];simp[w1,w2,h9];rw[fw];simp[w1,w2,h9]
   ·simp[bH,h9,a0,ha];rw[fw];simp[w1,w2,h9,a0,ha];rw[fw];simp[w1,w2,h9,a0,ha]
 ·have ha:a.length<=140737488355328:=gJ (hl a (by simp)) (by decide);have hb:b.length<=140737488355328:=gJ (hl b (by simp)) (by decide);have ha':=hl a (by simp);have hb':=hl b (by simp);have hab:a.length+b.length<=140737488355328:=by omega
  by_cases h9:op=9
  ·by_cases a0:a=[]
   ·subst a0;simp[bH,h9];rw[fw];simp[w1,w2,h9];rw[fw];simp[w1,w2,h9];rw[fw];simp[w1,w2,h9]
   ·simp[bH,h9,a0,ha];rw[fw];simp[w1,w2,h9,a0,ha];rw[fw];simp[w1,w2,h9,a0,ha];rw[fw];simp[w1,w2,h9,a0,ha]
  ·by_cases a0:a=[]
   ·subst a0;by_cases b0:b=[]
    ·subst b0;simp[bH,h9];rw[fw];simp[w1,w2,h9];rw[fw];simp[w1,w2,h9];rw[fw];simp[w1,w2,h9]
    ·simp[bH,h9,b0,hb];rw[fw];simp[w1,w2,h9,b0,hb];rw[fw];simp[w1,w2,h9,b0,hb];rw[fw];simp[w1,w2,h9,b0,hb]
   ·by_cases b0:b=[]
    ·subst b0;simp[bH,h9,a0,ha];rw[fw];simp[w1,w2,h9,a0,ha];rw[fw];simp[w1,w2,h9,a0,ha];rw[fw];simp[w1,w2,h9,a0,ha]
    ·simp[bH,h9,a0,b0,ha,hb,hab];rw[fw];simp[w1,w2,h9,a0,b0,ha,hb,hab];rw[fw];simp[w1,w2,h9,a0,b0,ha,hb,hab];rw[fw];simp[w1,w2,h9,a0,b0,ha,hb,hab];exact⟨by rw[<-List.map_append];exact Eh _,List.take_of_length_le (by simp)⟩
theorem cZ{α:Type}{l:List α}{i:Nat}(h:i<l.length):l.take (i+1)=l.take i++[l[i]]:=by rw[List.take_succ];simp[h]
def ny(s:ay)(o1 o2:Nat)(x:X)(es:List Int):Prop:=(es=[]/\x=.nil)\/(¬es=[]/\∃o g n,(o=o1\/o=o2)/\x=.ref o g 1 0 es.length/\s o=⟨g,true,some (.row 1 (es.map u8)),n⟩)
structure Jm (s:List eT) (p:Pn) (kids:List (List Int)) (own exprs:List Int):Prop where
 op0:0<=p.op
 op16:p.op<=16
 Z7:kids.length=aN p.op
 table:p.op=1->0<=p.table/\p.table<s.length
 tabs:∀t∈s,aS t.ah
 Om:p.op=10->∀n∈p.ah,0<=n/\n<own.length
 NT:p.op=10->∀a∈p.ax,a.fn=3\/a.fn=4->0<=a.col/\a.col<own.length
 OD:p.op=9->1<=exprs.length
 small:∀k∈kids,k.length<=64
def di(own:List Int)(a:Ag):Int:=if a.fn=3\/a.fn=4 then own.getD a.col.toNat 0 else 1
def dY(x:Int×Int):Int×Int:=if aG x.1 x.2=true then(max x.1 x.2,0)else(0,50)
set_option maxHeartbeats 4000000 in
theorem uY(s:List eT)(p:Pn)(hs:p.je)(kids:List (List Int))(own exprs:List Int)(ho:Jm s p kids own exprs) :
 ∃fl,call T WZ [.agg [.sl false (s.map eT.enc)],p.enc,.sl false (kids.map kX),kX own,kX exprs]=some (.bU [.sl fl ((aM (s.map kT) p.op p.table p.kinds p.ah p.ax kids own exprs).1.map u8),i6 (aM (s.map kT) p.op p.table p.kinds p.ah p.ax kids own exprs).2]):=by
 have he:=p.aB;by_cases h0:p.op=0
 ·refine⟨true,?_⟩;refine zB (by simp) ?_;have hR:aM (s.map kT) p.op p.table p.kinds p.ah p.ax kids own exprs=(p.kinds,0):=if_pos h0;rw[hR];rw[h0]at he
  have hkl:p.kinds.length<=1099511627776:=hs.kinds;by_cases k0:p.kinds=[]
  ·simp[he,k0]
  ·simp[he,k0,show p.kinds.length<=140737488355328 by omega]
 by_cases h1:p.op=1
 ·refine⟨true,?_⟩;refine zB (by simp) ?_;obtain⟨ht0,ht1⟩:=ho.table h1;obtain⟨j,hj⟩:∃j:Nat,p.table=j:=⟨p.table.toNat,by omega⟩
  have hjs:j<s.length:=by omega
  have hR:aM (s.map kT) p.op p.table p.kinds p.ah p.ax kids own exprs=(kT s[j],0):=by unfold aM;rw[if_neg h0,if_pos h1,hj];simp[hjs]
  rw[hR];have htl:s[j].ah.length<=1099511627776:=ho.tabs s[j] (List.getElem_mem hjs);have hl':s[j].ah.length<=9223372036854775807:=by omega
  rw[h1,hj]at he
  generalize hT:s[j]=t at htl hl' ⊢;simp[he,hjs,hT];refine av (σ:=Nat) (fun i e s=>e 51=.sl false (t.ah.map qz.enc)/\e 52=i6 t.ah.length/\e 53=i6 i/\iU s 61 (e 12) ((kT t).take i)/\i<=t.ah.length) (fun i=>t.ah.length-i) ?_ 0 _ _
   ⟨by simp,by simp,by simp,.inl ⟨by simp,by simp⟩,by omega⟩
  rintro i e s ⟨e51,e52,e53,hrow,hi⟩ ih;simp[e51,e52,e53];refine aj (fun h=>?_) (fun h=>?_)<;>(have h':=h;try simp at h')<;>(try simp[*])
  ·have hkl:i<(kT t).length:=by simp[kT];exact h'
   have hst:=cZ hkl;have hel:(kT t)[i]=t.ah[i].kind:=by simp[kT]
   rw[hel]at hst
   have hln:((kT t).take i).length<=140737488355327:=by simp[kT];omega
   rcases hrow with⟨r1,r2⟩|⟨r1,g,c,r2,r3⟩
   ·simp[e51,e52,e53,r2];refine ih.out (i+1) _ _ ?_ (by omega);refine⟨by simp[e51],by simp[e52],by simp[ai h' hl'],?_,h'⟩;rw[hst,r1];exact .inr ⟨by simp,(s 61).g+1,_,by simp,by simp;rfl⟩
   ·generalize (kT t).take i=es at hst hln r1 r2 r3;simp[e51,e52,e53,r2,r3,hln];refine ih.out (i+1) _ _ ?_ (by omega);refine⟨by simp[e51],by simp[e52],by simp[ai h' hl'],?_,h'⟩;rw[hst];exact .inr ⟨by simp,g+1,_,by simp,by simp[r3];rfl⟩
  ·have hfull:(kT t).take i=kT t:=List.take_of_length_le (by simp[kT];omega);rw[hfull]at hrow
   rcases hrow with⟨r1,r2⟩|⟨r1,g,c,r2,r3⟩
   ·simp[r2,r1]
   ·simp[r2,r3]
 by_cases h3:p.op=3
 ·refine⟨false,?_⟩;refine zB (by simp) ?_;have hR:aM (s.map kT) p.op p.table p.kinds p.ah p.ax kids own exprs=(exprs,0):=by unfold aM;rw[if_neg h0,if_neg h1,if_pos h3]
  rw[hR];rw[h3]at he
  simp[he]
 by_cases h10:p.op=10
 ·refine⟨true,?_⟩;refine zB (by simp) ?_;have hR:aM (s.map kT) p.op p.table p.kinds p.ah p.ax kids own exprs=(p.ah.map (fun n=>own.getD n.toNat 0)++p.ax.map (di own),0):=by unfold aM;rw[if_neg h0,if_neg h1,if_neg h3,if_pos h10];rfl
  rw[hR];have hcols:=Hd.mk (ho.Om h10);have haggs:=ho.NT h10;have hcl:p.ah.length<=1099511627776:=hs.ah;have hal:p.ax.length<=1099511627776:=hs.ax;have hcl':p.ah.length<=9223372036854775807:=by omega
  have hal':p.ax.length<=9223372036854775807:=by omega
  rw[h10]at he
  generalize hF:p.ah.map (fun n=>own.getD n.toNat 0)++p.ax.map (di own)=F;dsimp only;generalize hC:p.ah.map (fun n=>own.getD n.toNat 0)=C at hF;replace hF:=Hd.mk hF;have hCl:C.length=p.ah.length:=by rw[<-hC];simp
  have hCi:∀i (h:i<p.ah.length) (h':i<C.length),C[i]=own.getD p.ah[i].toNat 0:=by intro i h h';subst hC;simp
  have loop3:∀(K:List It) (en:Env) (st:ay) (q:Nat),en 3=kX own->en 81=.sl false (p.ax.map Ag.enc)->en 82=i6 p.ax.length->en 83=i6 (0:Nat)->ny st 78 103 (en 12) C->wp T (It.lp Qp::It.bl 12::It.code ((IC.ops Il).seq IC.ret)::K) en st (fun e s=>aC e s [fI.tmp 10,fI.tmp 11]=some (.bU [.sl true (F.map u8),i6 0])):=by
   intro K en st q e3 e81 e82 e83 hrow;refine av (σ:=Nat) (fun i e s=>e 3=kX own/\e 81=.sl false (p.ax.map Ag.enc)/\e 82=i6 p.ax.length/\e 83=i6 i/\ny s 78 103 (e 12) (C++(p.ax.map (di own)).take i)/\i<=p.ax.length) (fun i=>p.ax.length-i) ?_ 0 _ _
    ⟨e3,e81,e82,e83,by rw[List.take_zero,List.append_nil];exact hrow,by omega⟩
   rintro i e s ⟨e3,e81,e82,e83,hrow,hi⟩ ih;simp[e3,e81,e82,e83];refine aj (fun h=>?_) (fun h=>?_)<;>(have h':=h;try simp at h')<;>(try simp[*])
   ·have hkl:i<(p.ax.map (di own)).length:=by simpa using h'
    have hst:=cZ hkl;have hel:(p.ax.map (di own))[i]=di own p.ax[i]:=by simp
    rw[hel]at hst
    have hln:(C++(p.ax.map (di own)).take i).length<=140737488355327:=by simp;omega
    have hao:di own p.ax[i]=if p.ax[i].fn=3\/p.ax[i].fn=4 then own.getD p.ax[i].col.toNat 0 else 1:=rfl
    have hin:=haggs p.ax[i] (List.getElem_mem h');have next:∀e' s',e' 3=kX own->e' 81=.sl false (p.ax.map Ag.enc)->e' 82=i6 p.ax.length->e' 83=i6 ((i+1:Nat):Int)->ny s' 78 103 (e' 12) (C++(p.ax.map (di own)).take i++[di own p.ax[i]])->wp T (It.lp Qp::It.bl 12::It.code ((IC.ops Il).seq IC.ret)::K) e' s' (fun e s=>aC e s [fI.tmp 10,fI.tmp 11]=some (.bU [.sl true (F.map u8),i6 0])):=
     fun e' s' a b c d f=>ih.out (i+1) e' s' ⟨a,b,c,d,by rw[hst,<-List.append_assoc];exact f,h'⟩ (by omega)
    replace next:=Hd.mk next
    clear ih hst hkl hel;generalize C++(p.ax.map (di own)).take i=es at hrow hln next
    generalize di own p.ax[i]=v at hao next
    generalize p.ax[i]=a at hao hin ⊢;obtain⟨fn,col,ZU⟩:=a;simp only at hao hin;by_cases hfn:fn=3\/fn=4
    ·obtain⟨c0,c1⟩:=hin hfn;obtain⟨j,rfl⟩:∃j:Nat,col=j:=⟨col.toNat,by omega⟩
     have hj:j<own.length:=by omega
     have hv:v=own[j]:=by rw[hao,if_pos hfn];simp[hj]
     rw[hv]at next
     clear hao hin;rcases hfn with rfl|rfl
     ·rcases hrow with⟨r1,r2⟩|⟨r1,o,g,c,ro,r2,r3⟩
      ·simp[hj,e3,e81,e82,e83,r2];refine next.out _ _ (by simp[e3]) (by simp[e81]) (by simp[e82]) (by simp[ai h' hal']) ?_
       rw[r1];exact .inr ⟨by simp,103,(s 103).g+1,_,.inr rfl,by simp,by simp;rfl⟩
      ·rcases ro with rfl|rfl
       ·simp[hj,e3,e81,e82,e83,r2,r3,hln];refine next.out _ _ (by simp[e3]) (by simp[e81]) (by simp[e82]) (by simp[ai h' hal']) ?_
        exact .inr ⟨by simp,78,g+1,_,.inl rfl,by simp,by simp[r3];rfl⟩
       ·simp[hj,e3,e81,e82,e83,r2,r3,hln];refine next.out _ _ (by simp[e3]) (by simp[e81]) (by simp[e82]) (by simp[ai h' hal']) ?_
        exact .inr ⟨by simp,103,g+1,_,.inr rfl,by simp,by simp[r3];rfl⟩
     ·rcases hrow with⟨r1,r2⟩|⟨r1,o,g,c,ro,r2,r3⟩
      ·simp[hj,e3,e81,e82,e83,r2];refine next.out _ _ (by simp[e3]) (by simp[e81]) (by simp[e82]) (by simp[ai h' hal']) ?_
       rw[r1];exact .inr ⟨by simp,103,(s 103).g+1,_,.inr rfl,by simp,by simp;rfl⟩
      ·rcases ro with rfl|rfl
       ·simp[hj,e3,e81,e82,e83,r2,r3,hln];refine next.out _ _ (by simp[e3]) (by simp[e81]) (by simp[e82]) (by simp[ai h' hal']) ?_
        exact .inr ⟨by simp,78,g+1,_,.inl rfl,by simp,by simp[r3];rfl⟩
       ·simp[hj,e3,e81,e82,e83,r2,r3,hln];refine next.out _ _ (by simp[e3]) (by simp[e81]) (by simp[e82]) (by simp[ai h' hal']) ?_
        exact .inr ⟨by simp,103,g+1,_,.inr rfl,by simp,by simp[r3];rfl⟩
    ·have f3:¬fn=3:=fun h=>hfn (.inl h);have f4:¬fn=4:=fun h=>hfn (.inr h);have hv:v=1:=by rw[hao,if_neg hfn]
     rw[hv]at next
     rcases hrow with⟨r1,r2⟩|⟨r1,o,g,c,ro,r2,r3⟩
     ·simp[f3,f4,e3,e81,e82,e83,r2];refine next.out _ _ (by simp[e3]) (by simp[e81]) (by simp[e82]) (by simp[ai h' hal']) ?_
      rw[r1];exact .inr ⟨by simp,103,(s 103).g+1,_,.inr rfl,by simp,by simp;rfl⟩
     ·rcases ro with rfl|rfl
      ·simp[f3,f4,e3,e81,e82,e83,r2,r3,hln];refine next.out _ _ (by simp[e3]) (by simp[e81]) (by simp[e82]) (by simp[ai h' hal']) ?_
       exact .inr ⟨by simp,78,g+1,_,.inl rfl,by simp,by simp[r3];rfl⟩
      ·simp[f3,f4,e3,e81,e82,e83,r2,r3,hln];refine next.out _ _ (by simp[e3]) (by simp[e81]) (by simp[e82]) (by simp[ai h' hal']) ?_
       exact .inr ⟨by simp,103,g+1,_,.inr rfl,by simp,by simp[r3];rfl⟩
   ·have hfull:(p.ax.map (di own)).take i=p.ax.map (di own):=List.take_of_length_le (by simp;omega);rw[hfull]at hrow
    rw[hF.out]at hrow
    rcases hrow with⟨r1,r2⟩|⟨r1,o,g,c,ro,r2,r3⟩
    ·simp[r2,r1]
    ·rcases ro with rfl|rfl
     ·simp[r2,r3]
     ·simp[r2,r3]
  simp[he];refine av (σ:=Nat) (fun i e s=>e 3=kX own/\(∃q,s 6=⟨1,true,some (.box p.enc),q⟩)/\e 6=.ptr 6 1 0/\e 66=.sl false (p.ah.map i6)/\e 67=i6 p.ah.length/\e 68=i6 i/\ny s 78 103 (e 12) (C.take i)/\i<=p.ah.length) (fun i=>p.ah.length-i) ?_ 0 _ _
   ⟨by simp,⟨1,by simp[he]⟩,by simp,by simp,by simp,by simp,.inl ⟨by simp,by simp⟩,by omega⟩
  rintro i e s ⟨e3,⟨q,s6⟩,e6,e66,e67,e68,hrow,hi⟩ ih;have s6':=s6;rw[he]at s6'
  simp[e3,e6,e66,e67,e68];refine aj (fun h=>?_) (fun h=>?_)<;>(have h':=h;try simp at h')<;>(try simp[*])
  ·have hkl:i<C.length:=by omega
   have hst:=cZ hkl;have hln:(C.take i).length<=140737488355327:=by simp;omega
   obtain⟨c0,c1⟩:=hcols.out p.ah[i] (List.getElem_mem h');have hel:=hCi i h' hkl;rw[hel]at hst
   generalize p.ah[i]=n at c0 c1 hst ⊢;obtain⟨j,rfl⟩:∃j:Nat,n=j:=⟨n.toNat,by omega⟩
   have hj:j<own.length:=by omega
   have hg:own.getD ((j:Int)).toNat 0=own[j]:=by simp[hj]
   rw[hg]at hst
   generalize hes:C.take i=es at hrow hln hst;rcases hrow with⟨r1,r2⟩|⟨r1,o,g,c,ro,r2,r3⟩
   ·simp[hj,e3,e6,e66,e67,e68,s6',r2];refine ih.out (i+1) _ _ ⟨by simp[e3],⟨q,by simp[s6,he]⟩,by simp[e6],by simp[e66],by simp[e67],by simp[ai h' hcl'],?_,h'⟩ (by omega);rw[hst];rw[r1];exact .inr ⟨by simp,78,(s 78).g+1,_,.inl rfl,by simp,by simp;rfl⟩
   ·rcases ro with rfl|rfl
    ·simp[hj,e3,e6,e66,e67,e68,s6',r2,r3,hln];refine ih.out (i+1) _ _ ⟨by simp[e3],⟨q,by simp[s6,he]⟩,by simp[e6],by simp[e66],by simp[e67],by simp[ai h' hcl'],?_,h'⟩ (by omega);rw[hst];exact .inr ⟨by simp,78,g+1,_,.inl rfl,by simp,by simp[r3];rfl⟩
    ·simp[hj,e3,e6,e66,e67,e68,s6',r2,r3,hln];refine ih.out (i+1) _ _ ⟨by simp[e3],⟨q,by simp[s6,he]⟩,by simp[e6],by simp[e66],by simp[e67],by simp[ai h' hcl'],?_,h'⟩ (by omega);rw[hst];exact .inr ⟨by simp,103,g+1,_,.inr rfl,by simp,by simp[r3];rfl⟩
  ·have hfull:C.take i=C:=List.take_of_length_le (by omega);rw[hfull]at hrow
   try simp[e3,e6,s6']
   refine loop3 _ _ _ 0 (by simp[e3]) (by simp) (by simp) (by simp) ?_;simpa[ny]using hrow
 have hk:=ho.Z7;by_cases h9:p.op=9
 ·have hk2:kids.length=2:=by rw[hk,h9];rfl
  obtain⟨a,b,rfl⟩:∃a b,kids=[a,b]:=by rcases kids with _|⟨a,_|⟨b,_|⟨c,l⟩⟩⟩<;>simp at hk2 ⊢
  have he1:=ho.OD h9;clear ho hk hk2;have hR:aM (s.map kT) p.op p.table p.kinds p.ah p.ax [a,b] own exprs=(match b with
   | [k]=>if aG (exprs.headD 0) k=true then(a,0)else([],50)
   | _=>([],81)):=by
   unfold aM;rw[if_neg h0,if_neg h1,if_neg h3,if_neg h10,if_neg (by omega),if_pos h9];rfl
  rw[hR];rw[h9]at he
  rcases hb:b with _|⟨k,_|⟨k',l⟩⟩
  ·refine⟨true,?_⟩;refine zB (by simp) ?_;simp[he]
  ·have hag:=gG (exprs.headD 0) k;rcases hx:exprs with _|⟨x,xs⟩
   ·rw[hx]at he1;simp at he1
   rw[hx]at hag
   by_cases hg:aG ((x::xs).headD 0) k=true
   ·dsimp only;rw[if_pos hg];simp only[List.headD_cons]at hag hg;rw[hg]at hag
    refine⟨false,?_⟩;refine zB (by simp) ?_;simp[he,hag]
   ·dsimp only;rw[if_neg hg];simp only[List.headD_cons,Bool.not_eq_true]at hag hg;rw[hg]at hag
    refine⟨true,?_⟩;refine zB (by simp) ?_;simp[he,hag]
  ·refine⟨true,?_⟩;refine zB (by simp) ?_;have hne:¬((l.length:Int)+1+1=1):=by omega
   simp[he,hne]
 by_cases h78:p.op=7\/p.op=8
 ·refine⟨false,?_⟩;refine zB (by simp) ?_;have hk2:kids.length=2:=by rw[hk];rcases h78 with h|h<;>rw[h]<;>rfl
  obtain⟨a,b,rfl⟩:∃a b,kids=[a,b]:=by rcases kids with _|⟨a,_|⟨b,_|⟨c,l⟩⟩⟩<;>simp at hk2 ⊢
  have hR:aM (s.map kT) p.op p.table p.kinds p.ah p.ax [a,b] own exprs=(a,0):=by unfold aM;rw[if_neg h0,if_neg h1,if_neg h3,if_neg h10,if_pos h78];rfl
  rw[hR];rcases h78 with h|h
  ·rw[h]at he
   simp[he]
  ·rw[h]at he
   simp[he]
 by_cases h14:14<=p.op
 ·have hk2:kids.length=2:=by rw[hk];unfold aN;rw[if_neg (by omega),if_neg (by omega)]
  obtain⟨a,b,rfl⟩:∃a b,kids=[a,b]:=by rcases kids with _|⟨a,_|⟨b,_|⟨c,l⟩⟩⟩<;>simp at hk2 ⊢
  have hR:aM (s.map kT) p.op p.table p.kinds p.ah p.ax [a,b] own exprs=mD a b:=by unfold aM;rw[if_neg h0,if_neg h1,if_neg h3,if_neg h10,if_neg h78,if_neg h9,if_pos h14];rfl
  rw[hR];refine⟨true,?_⟩;refine zB (by simp) ?_;have ha64:=ho.small a (by simp);have hb64:=ho.small b (by simp);have hal':a.length<=9223372036854775807:=by omega
  have h16:=ho.op16;clear hk hk2 ho;by_cases hab:a.length=b.length
  case neg=>
   have hab':¬(a.length:Int)=b.length:=by omega
   have hS:mD a b=([],81):=if_neg hab;rw[hS];rcases(show p.op=14\/p.op=15\/p.op=16 by omega)with h|h|h
   all_goals
    rw[h]at he
    simp[he,hab,hab']
  have hS:mD a b=aF dY (a.zip b):=if_pos hab;have hz:(a.zip b).length=a.length:=by simp[hab]
  have hzi:∀i (h:i<a.length) (h2:i<b.length) (h3:i<(a.zip b).length),(a.zip b)[i]=(a[i],b[i]):=by intro i h h2 h3;simp
  have hyes:(∀j (hj:j<(a.zip b).length),(dY (a.zip b)[j]).2=0)->mD a b=((a.zip b).map (fun x=>max x.1 x.2),0):=fun h=>by
   rw[hS,fC h];congr 1;refine List.map_congr_left fun x hx=>?_;obtain⟨j,hj,rfl⟩:=List.getElem_of_mem hx;have:=h j hj;unfold dY at this ⊢;split
   ·rfl
   ·rename_i hh;rw[if_neg hh]at this;simp at this
  have hno:∀i (h:i<(a.zip b).length),(∀j (hj:j<i),(dY (a.zip b)[j]).2=0)->¬(dY (a.zip b)[i]).2=0->mD a b=([],(dY (a.zip b)[i]).2):=fun i h h1 h2=>by rw[hS,fD h h1 h2]
  have hOl:((a.zip b).map (fun x=>max x.1 x.2)).length=a.length:=by simp[hab]
  have hOi:∀i (h:i<a.length) (h2:i<b.length) (h3:i<((a.zip b).map (fun x=>max x.1 x.2)).length),((a.zip b).map (fun x=>max x.1 x.2))[i]=max a[i] b[i]:=by intro i h h2 h3;simp
  generalize mD a b=S at hyes hno ⊢;generalize (a.zip b).map (fun x=>max x.1 x.2)=O at hyes hOl hOi;replace hyes:=Hd.mk hyes;replace hno:=Hd.mk hno;replace hab:=Hd.mk hab;clear hS;have main:∀(K:List It) (en:Env) (st:ay),en 2=.sl false [kX a,kX b]->en 135=kX a->en 136=i6 a.length->en 137=i6 (0:Nat)->en 12=.nil->wp T (It.lp aa4::It.bl 14::It.code ((IC.ops Qq).seq IC.ret)::K) en st (fun e s=>aC e s [fI.tmp 10,fI.tmp 11]=some (.bU [.sl true (S.1.map u8),i6 S.2])):=by
   intro K en st e2 e135 e136 e137 e12;refine av (σ:=Nat) (fun i e s=>e 2=.sl false [kX a,kX b]/\e 135=kX a/\e 136=i6 a.length/\e 137=i6 i/\iU s 161 (e 12) (O.take i)/\i<=a.length/\Hd (∀j (hj:j<i) (h:j<(a.zip b).length),(dY (a.zip b)[j]).2=0)) (fun i=>a.length-i) ?_ 0 _ _
    ⟨e2,e135,e136,e137,.inl ⟨by simp,e12⟩,by omega,⟨fun _ h=>by omega⟩⟩
   rintro i e s ⟨e2,e135,e136,e137,hrow,hi,hA⟩ ih;simp[e2,e135,e136,e137];refine aj (fun h=>?_) (fun h=>?_)<;>(have h':=h;try simp at h')<;>(try simp[*])
   ·have hib:i<b.length:=by have:=hab.out;omega
    have hiz:i<(a.zip b).length:=by omega
    have hag:=gG a[i] b[i];have hel:=hzi i h' hib hiz;have hst:=cZ (l:=O) (i:=i) (by omega);rw[hOi i h' hib (by omega)]at hst
    by_cases hg:aG a[i] b[i]=true
    ·rw[hg]at hag
     have hone:(dY (a.zip b)[i]).2=0:=by rw[hel];simp[dY,hg]
     have hA':∀j (hj:j<i+1) (h:j<(a.zip b).length),(dY (a.zip b)[j]).2=0:=fun j hj h=>by
      rcases Nat.lt_or_eq_of_le (Nat.le_of_lt_succ hj)with h2|h2
      ·exact hA.out j h2 h
      ·subst h2;exact hone
     have hln:(O.take i).length<=140737488355327:=by simp;omega
     clear hel hone;generalize hes:O.take i=es at hrow hln hst;rcases hrow with⟨r1,r2⟩|⟨r1,g,c,r2,r3⟩
     ·simp[hag,h',hib,e2,e135,e136,e137,r2];refine ih.out (i+1) _ _ ⟨by simp[e2],by simp[e135],by simp[e136],by simp[ai h' hal'],?_,h',⟨hA'⟩⟩ (by omega);rw[hst,r1];exact .inr ⟨by simp,(s 161).g+1,_,by simp,by simp;rfl⟩
     ·simp[hag,h',hib,e2,e135,e136,e137,r2,r3,hln];refine ih.out (i+1) _ _ ⟨by simp[e2],by simp[e135],by simp[e136],by simp[ai h' hal'],?_,h',⟨hA'⟩⟩ (by omega);rw[hst];exact .inr ⟨by simp,g+1,_,by simp,by simp[r3];rfl⟩
    ·simp only[Bool.not_eq_true]at hg;rw[hg]at hag
     have hone:(dY (a.zip b)[i]).2=50:=by rw[hel];simp[dY,hg]
     have hSS:=hno.out i hiz (fun j hj=>hA.out j hj (by omega)) (by rw[hone];decide);rw[hone]at hSS
     subst hSS;simp[hag,h',hib,e2,e135,e136,e137]
   ·have hSS:=hyes.out (fun j hj=>hA.out j (by omega) hj);have hfull:O.take i=O:=List.take_of_length_le (by omega);rw[hfull]at hrow
    subst hSS;rcases hrow with⟨r1,r2⟩|⟨r1,g,c,r2,r3⟩
    ·simp[r2,r1]
    ·simp[r2,r3]
  rcases(show p.op=14\/p.op=15\/p.op=16 by omega)with h|h|h
  all_goals
   rw[h]at he
   simp[he,hab.out];exact main _ _ _ (by simp) (by simp) (by simp[hab.out]) (by simp) (by simp)
 ·refine⟨false,?_⟩;refine zB (by simp) ?_;have hR:aM (s.map kT) p.op p.table p.kinds p.ah p.ax kids own exprs=(own,0):=by unfold aM;rw[if_neg h0,if_neg h1,if_neg h3,if_neg h10,if_neg h78,if_neg h9,if_neg h14]
  rw[hR];have n7:¬p.op=7:=fun h=>h78 (.inl h);have n8:¬p.op=8:=fun h=>h78 (.inr h);have n14:¬p.op=14:=by omega
  have n15:¬p.op=15:=by omega
  have n16:¬p.op=16:=by omega
  simp[he,h0,h1,h3,h10,h9,n7,n8,n14,n15,n16]
abbrev jO(s:List eT):X:=.sl false (s.map eT.enc)
def gY(s:List eT)(env:List (List Int))(e:Ex):Prop:=call T Ik [.agg [jO s],e.enc,.sl false (env.map kX)]=some (.bU [u8 (e.kind (s.map kT) env).1,i6 (e.kind (s.map kT) env).2])
def oL(s:List eT)(env:List (List Int))(p:Pn):Prop:=∃fl,call T M0 [.agg [jO s],p.enc,.sl false (env.map kX)]=some (.bU [.sl fl ((p.columns (s.map kT) env).1.map u8),i6 (p.columns (s.map kT) env).2])
theorem YW{A:List Int}{n i:Nat}{z x:Int}(hA:A.length=i)(h:i<n):(A++List.replicate (n-i) z).set i x=A++[x]++List.replicate (n-(i+1)) z:=by
 obtain⟨m,hm⟩:∃m,n-i=m+1:=⟨n-i-1,by omega⟩
 have hm':n-(i+1)=m:=by omega
 rw[hm,hm'];simp[List.set_append,hA,List.replicate_succ]
def yZ(ks:List Int)(i:Nat):List Int:=ks.take i++List.replicate (ks.length-i) 0
theorem OZ{ks:List Int}{i:Nat}(h:i<ks.length):(yZ ks i).set i ks[i]=yZ ks (i+1):=by unfold yZ;rw[YW (by simp;omega) h,<-cZ h]
theorem OY(ks:List Int)(i:Nat)(h:i<=ks.length):(yZ ks i).length=ks.length:=by unfold yZ;simp;omega
theorem Mq(ks:List Int):yZ ks 0=List.replicate ks.length 0:=by simp[yZ]
theorem Ml(ks:List Int):yZ ks ks.length=ks:=by simp[yZ]
theorem iZ{e:Ex}(h:e.formed=true):eO e.op e.v e.up e.n e.kids.length e.sub.length=true/\(∀k∈e.kids,k.formed=true)/\(∀k∈e.sub,k.formed=true):=by
 rw[Ex.jJ]at h
 simp only[bE,nk]at h;exact⟨h.1,h.2.1,h.2.2⟩
theorem zi{e:Ex}(h:e.formed=true)(h2:e.op=2):0<=e.up/\0<=e.n:=by
 have:=(iZ h).1;simp[eO,h2,aZ]at this
 omega
theorem EZ{e:Ex}(h:e.formed=true)(h2:dZ e.op=true):∃q,e.sub=[q]:=by
 have:=(iZ h).1;simp[eO,h2]at this
 have hl:e.sub.length=1:=this.2.2.2.1;rcases hs:e.sub with _|⟨q,_|⟨r,l⟩⟩
 ·rw[hs]at hl;simp at hl
 ·exact⟨q,rfl⟩
 ·rw[hs]at hl;simp at hl
theorem JU{e:Ex}(h:e.formed=true)(h2:e.op=28):∃k,e.kids=[k]:=by
 have:=(iZ h).1;simp[eO,h2,dZ]at this
 have hl:e.kids.length=1:=this.2.2.2;rcases hs:e.kids with _|⟨q,_|⟨r,l⟩⟩
 ·rw[hs]at hl;simp at hl
 ·exact⟨q,rfl⟩
 ·rw[hs]at hl;simp at hl
set_option maxHeartbeats 4000000 in
theorem Mr(s:List eT)(env:List (List Int))(e:Ex)(hs:e.uO)(hf:e.formed=true)(hk:∀k∈e.kids,gY s env k)(hp:∀q∈e.sub,oL s env q):gY s env e:=by
 unfold gY;refine q14g (by simp) ?_;have he:=e.aB;have hlk:e.kids.length<=1099511627776:=hs.kids;have hl':e.kids.length<=9223372036854775807:=by omega
 have hE:=Ex.xN (s.map kT) env e;have hbad:∀i (h:i<e.kids.length),(∀j (hj:j<i),(Ex.kind (s.map kT) env e.kids[j]).2=0)->¬(Ex.kind (s.map kT) env e.kids[i]).2=0->e.kind (s.map kT) env=(0,(Ex.kind (s.map kT) env e.kids[i]).2):=fun i h h1 h2=>by rw[hE,fD h h1 h2];exact if_neg h2
 have hgood:(∀j (hj:j<e.kids.length),(Ex.kind (s.map kT) env e.kids[j]).2=0)->e.kind (s.map kT) env=(if e.op=0 then(e.vk,0)else if e.op=2 then Cs env e.up e.n else if dZ e.op=true then oK e.op (e.kids.map fun k=>(Ex.kind (s.map kT) env k).1) (aF (Pn.columns (s.map kT) env) e.sub)else CF (iD e.op (e.kids.map fun k=>(Ex.kind (s.map kT) env k).1))):=fun h=>by rw[hE,fC h];exact if_pos rfl
 clear hE;generalize e.kind (s.map kT) env=E at hbad hgood ⊢;generalize hks:(e.kids.map fun k=>(Ex.kind (s.map kT) env k).1)=ks at hgood;have hkl:ks.length=e.kids.length:=by rw[<-hks];simp
 have hki:∀i (h:i<e.kids.length) (h':i<ks.length),ks[i]=(Ex.kind (s.map kT) env e.kids[i]).1:=by intro i h h';subst hks;simp
 clear hks;have hrep:List.replicate e.kids.length (X.v (.int .u8 0))=(yZ ks 0).map u8:=by rw[Mq,hkl];simp
 rw[he];simp[show(e.kids.length:Int)<=140737488355328 by omega];refine av (σ:=Nat) (fun i en st=>en 2=.sl false (env.map kX)/\en 3=.ptr 3 1 0/\en 4=.ptr 4 1 0/\(∃g,en 8=.ref 20 g 1 0 ks.length/\∃c,st 20=⟨g,true,some (.row 1 ((yZ ks i).map u8)),c⟩)/\en 22=.sl false (e.kids.map Ex.enc)/\en 23=i6 e.kids.length/\en 24=i6 i/\
  (∃q,st 3=⟨1,true,some (.box (.agg [jO s])),q⟩)/\(∃q,st 4=⟨1,true,some (.box e.enc),q⟩)/\i<=e.kids.length/\Hd (∀j (hj:j<i) (h:j<e.kids.length),(Ex.kind (s.map kT) env e.kids[j]).2=0)) (fun i=>e.kids.length-i) ?_ 0 _ _
  ⟨by simp,by simp,by simp,⟨1,by simp[hkl],1,by simp[hrep]⟩,by simp,by simp,by simp,⟨1,by simp⟩,⟨1,by simp[he]⟩,by omega,⟨fun _ h=>by omega⟩⟩
 rintro i en st ⟨e2,e3,e4,⟨g,e8,c,s20⟩,e22,e23,e24,⟨q3,s3⟩,⟨q4,s4⟩,hi,hA⟩ ih;have s4':=s4;rw[he]at s4'
 simp[e2,e3,e4,e8,e22,e23,e24];refine aj (fun h=>?_) (fun h=>?_)<;>(have h':=h;try simp at h')<;>(try simp[*])
 ·have hc:=hk e.kids[i] (List.getElem_mem h');unfold gY at hc;have hb:=hbad i h' (fun j hj=>hA.out j hj (by omega));have hkie:=hki i h' (by omega);have hke:=e.kids[i].aB;have hA':(Ex.kind (s.map kT) env e.kids[i]).2=0->∀j (hj:j<i+1) (h:j<e.kids.length),(Ex.kind (s.map kT) env e.kids[j]).2=0:=fun g j hj h=>by
   rcases Nat.lt_or_eq_of_le (Nat.le_of_lt_succ hj)with h2|h2
   ·exact hA.out j h2 h
   ·subst h2;exact g
  have hset:=OZ (ks:=ks) (i:=i) (by omega);rw[hkie]at hset
  have hpl:=OY ks i (by omega);replace hA':=Hd.mk hA';clear hkie;generalize Ex.kind (s.map kT) env e.kids[i]=kr at hc hb hset hA';obtain⟨k1,k2⟩:=kr;simp only at hc hb hset hA';rw[hke]at hc
  simp only[hke];by_cases k0:k2=0
  ·subst k0;simp[hc,e2,e3,e4,e8,e22,e23,e24,s3,s4',s20,hpl,hkl,h'];refine ih.out (i+1) _ _ ?_ (by omega);exact⟨by simp[e2],by simp[e3],by simp[e4],⟨g,by simp[e8],_,by simp[s20];rw[<-hset];simp;rfl⟩,by simp[e22],by simp[e23],by simp[ai h' hl'],⟨q3,by simp[s3]⟩,⟨q4,by simp[s4',s4,he]⟩,h',⟨hA'.out rfl⟩⟩
  ·have hE:=hb k0;subst hE;simp[hc,e2,e3,e4,e8,e22,e23,e24,s3,s4',s20,k0]
 ·have hin:i=ks.length:=by omega
  have hE:=hgood (fun j hj=>hA.out j (by omega) hj);rw[hin,Ml]at s20
  clear hbad hgood ih hA hki hrep;by_cases h0:e.op=0
  ·rw[if_pos h0]at hE
   subst hE;simp[e4,s4',h0]
  rw[if_neg h0]at hE
  by_cases h2:e.op=2
  ·rw[if_pos h2]at hE
   obtain⟨u0,n0⟩:=zi hf h2;obtain⟨u,hu⟩:∃j:Nat,e.up=j:=⟨e.up.toNat,by omega⟩
   obtain⟨m,hm⟩:∃j:Nat,e.n=j:=⟨e.n.toNat,by omega⟩
   rw[hu,hm]at s4'
   rw[hu,hm]at hE
   unfold Cs at hE;by_cases hue:u<env.length
   ·have hg:env.getD ((u:Int)).toNat []=env[u]:=by simp[hue]
    rw[hg]at hE
    by_cases hme:m<env[u].length
    ·have hg2:env[u].getD ((m:Int)).toNat 0=env[u][m]:=by simp[hme]
     rw[hg2,if_pos ⟨by omega,by omega⟩]at hE
     subst hE;have hue':¬(env.length:Int)<=u:=by omega
     have hme':¬(env[u].length:Int)<=m:=by omega
     simp[e2,e4,s4',h2,hue,hme,hue',hme']
    ·rw[if_neg (by omega)]at hE
     subst hE;have hue':¬(env.length:Int)<=u:=by omega
     have hme':(env[u].length:Int)<=m:=by omega
     simp[e2,e4,s4',h2,hue,hue',hme']
   ·rw[if_neg (by omega)]at hE
    subst hE;have hue':(env.length:Int)<=u:=by omega
    simp[e2,e4,s4',h2,hue,hue']
  rw[if_neg h2]at hE
  by_cases hso:dZ e.op=true
  ·rw[if_pos hso]at hE
   obtain⟨q,hq⟩:=EZ hf hso;obtain⟨fl,hcol⟩:=hp q (by simp[hq]);rw[hq]at hE s4'
   have hfl:aF (Pn.columns (s.map kT) env) [q]=if(q.columns (s.map kT) env).2=0 then([(q.columns (s.map kT) env).1],0)else([],(q.columns (s.map kT) env).2):=by simp[aF]
   rw[hfl]at hE
   clear hfl;have hqe:=q.aB;rw[hqe]at hcol
   simp only[List.map_cons,List.map_nil,hqe]at s4';generalize q.columns (s.map kT) env=C at hcol hE;obtain⟨ah,err⟩:=C;simp only at hcol hE;have hop3:e.op=27\/e.op=28\/e.op=29:=by simp[dZ]at hso;omega
   by_cases er:err=0
   case neg=>
    rw[if_neg er]at hE
    simp only[oK,if_neg er]at hE;subst hE;rcases hop3 with hx|hx|hx
    all_goals simp[hcol,e2,e3,e4,s3,s4',er,hx]
   subst er;simp only[oK,if_true]at hE;by_cases h27:e.op=27
   ·rw[if_pos h27]at hE
    subst hE;simp[hcol,e2,e3,e4,s3,s4',h27]
   rw[if_neg h27]at hE
   have hop2:e.op=28\/e.op=29:=by omega
   rcases hcc:ah with _|⟨k,_|⟨k',l⟩⟩
   ·rw[hcc]at hcol hE
    simp only at hE;subst hE;rcases hop2 with hx|hx
    all_goals simp[hcol,e2,e3,e4,s3,s4',hx]
   ·rw[hcc]at hcol hE
    simp only at hE;by_cases h29:e.op=29
    ·rw[if_pos h29]at hE
     subst hE;simp[hcol,e2,e3,e4,s3,s4',h29]
    ·rw[if_neg h29]at hE
     have h28:e.op=28:=by omega
     obtain⟨k0,hk0⟩:=JU hf h28;have hksl:ks.length=1:=by rw[hkl,hk0];rfl
     obtain⟨x,hx⟩:=CP hksl;rw[hx]at hE e8 s20
     replace hE:E=(if aG x k=true then(3,0)else(0,50)):=hE;have hag:=gG x k;by_cases hg:aG x k=true
     ·rw[if_pos hg]at hE
      rw[hg]at hag
      subst hE;simp[hcol,hag,e2,e3,e4,e8,s3,s4',s20,h28]
     ·rw[if_neg hg]at hE
      simp only[Bool.not_eq_true]at hg;rw[hg]at hag
      subst hE;simp[hcol,hag,e2,e3,e4,e8,s3,s4',s20,h28]
   ·rw[hcc]at hcol hE
    simp only at hE;subst hE;have hne:¬((l.length:Int)+1+1=1):=by omega
    rcases hop2 with hx|hx
    all_goals simp[hcol,e2,e3,e4,s3,s4',hne,hx]
  ·rw[if_neg hso]at hE
   have n27:¬e.op=27:=by intro h;apply hso;rw[h];rfl
   have n28:¬e.op=28:=by intro h;apply hso;rw[h];rfl
   have n29:¬e.op=29:=by intro h;apply hso;rw[h];rfl
   have hcK:=DR e.op ks (by rw[aS,hkl];exact hlk);generalize iD e.op ks=C at hcK hE;obtain⟨k,err⟩:=C;simp only[CF]at hcK hE;by_cases er:err=0
   ·rw[if_pos er]at hE
    subst hE;subst er;simp[hcK,e4,e8,s4',s20,h0,h2,n27,n28,n29]
   ·rw[if_neg er]at hE
    by_cases er1:err=1
    ·rw[if_pos er1]at hE
     subst hE;subst er1;simp[hcK,e4,e8,s4',s20,h0,h2,n27,n28,n29]
    ·rw[if_neg er1]at hE
     subst hE;simp[hcK,e4,e8,s4',s20,h0,h2,n27,n28,n29,er,er1]
structure Fl where
 b:Bool
@[simp] theorem Fl.ex(b:Bool):(∃a:Fl,b=a.b)=True:=by simp only[eq_iff_iff,iff_true];exact⟨⟨b⟩,rfl⟩
@[simp] theorem Fl.ex'(b:Bool):(∃a:Fl,a.b=b)=True:=by simp only[eq_iff_iff,iff_true];exact⟨⟨b⟩,rfl⟩
theorem DZ{α:Type}{f nt:Nat}{res:List fI}{body:IC}{xs:List X}{x:α->X}(hT:T f=some (.code nt res body))(hn:xs.length<=nt)
 (h:wp T [.code body] (bn xs) s0 (fun e s=>∃a,aC e s res=some (x a))):∃a,call T f xs=some (x a):=by
 obtain⟨e',s',hr,a,hx⟩:=h;exact⟨a,A9 hT hn hr hx⟩
def RowG(s:ay)(o:Nat)(x:X)(es:List X):Prop:=(es=[]/\x=.nil)\/(¬es=[]/\∃g n,x=.ref o g 1 0 es.length/\s o=⟨g,true,some (.row 1 es),n⟩)
def DF(s:ay)(o:Nat)(x:X)(es:List X):Prop:=(es=[]/\x=.nil)\/(¬es=[]/\∃g wr n,x=.ref o g 1 0 es.length/\s o=⟨g,wr,some (.row 1 es),n⟩)
theorem kg{p:Pn}(h:p.formed=true):mq p=true/\(∀k∈p.kids,k.formed=true)/\(∀k∈p.conds,k.formed=true)/\(∀k∈p.exprs,k.formed=true):=by
 rw[Pn.jJ]at h
 simp only[bE,nk]at h;exact⟨h.1,h.2.1,h.2.2.1,h.2.2.2⟩
structure PlanOk (p:Pn):Prop where
 op:p.op<=16
 kids:p.kids.length=aN p.op
 table:0<=p.table
 ah:∀n∈p.ah,0<=n
 ax:∀a∈p.ax,0<=a.col
 exprs:p.op=9->p.exprs.length=1
theorem vI{p:Pn}(h:mq p=true):PlanOk p:=by simp only[mq,jN,bE,Bool.or_eq_true,decide_eq_true_eq,nk,Bool.not_eq_true',decide_eq_false_iff_not,aZ,jB]at h;obtain⟨h1,h2,h3,⟨⟨h4,h5⟩,h6,h7,h8⟩,h9,h10⟩:=h;exact⟨h1,h2,h4.1,fun n hn=>(h6 n hn).1,fun a ha=>(h7 a ha).2.1.1,fun h=>h10.elim (fun q=>absurd h q) id⟩
theorem wH(op:Int):aN op<=2:=by unfold aN;split;omega;split<;>omega
theorem Jf(r:List Int×Int)(h:(fF r).2=0):(fF r).1.length<=64:=by
 unfold fF at h ⊢;split
 ·simp
 ·rename_i hh;rw[if_neg hh]at h
  have:¬64<r.1.length:=fun q=>hh ⟨h,q⟩;omega
theorem vY(sc env:List (List Int))(p:Pn):(p.columns sc env).1.length<=64\/¬(p.columns sc env).2=0:=by
 rw[Pn.nG];split
 ·split
  ·simp
  ·split
   ·split
    ·split
     ·generalize aM sc p.op p.table p.kinds p.ah p.ax (p.jq sc env).1 (p.own sc env) (aF (Ex.kind sc (p.own sc env::env)) p.exprs).1=r;by_cases h:(fF r).2=0
      ·exact .inl (Jf r h)
      ·exact .inr h
     ·simp
    ·simp
   ·simp
 ·simp
set_option maxHeartbeats 8000000 in
theorem LZ(s:List eT)(hst:∀t∈s,aS t.ah)(env:List (List Int))(henv:env.length<=5864062014804)(p:Pn)(hs:p.je)(hf:p.formed=true)(hk:∀q∈p.kids,oL s env q)
 (hc:∀own,∀e∈p.conds,gY s (own::env) e) (hx:∀own,∀e∈p.exprs,gY s (own::env) e):oL s env p:=by
 unfold oL
 suffices h:∃a:Fl,call T M0 [.agg [jO s],p.enc,.sl false (env.map kX)]=some (.bU [.sl a.b ((p.columns (s.map kT) env).1.map u8),i6 (p.columns (s.map kT) env).2])by obtain⟨a,ha⟩:=h;exact⟨a.b,ha⟩
 refine DZ (nt:=134) (res:=[.tmp 6,.tmp 7]) (body:=q13B) (x:=fun(fl:Fl)=>.bU [.sl fl.b ((p.columns (s.map kT) env).1.map u8),i6 (p.columns (s.map kT) env).2]) (by kernel_rfl) (by simp) ?_;have he:=p.aB;have hpo:=vI (kg hf).1;have hk2:p.kids.length<=2:=by rw[hpo.kids];exact wH p.op
 have hC:=Pn.nG (s.map kT) env p;have hbad:∀i (h:i<p.kids.length),(∀j (hj:j<i),(Pn.columns (s.map kT) env p.kids[j]).2=0)->¬(Pn.columns (s.map kT) env p.kids[i]).2=0->p.columns (s.map kT) env=([],(Pn.columns (s.map kT) env p.kids[i]).2):=fun i h h1 h2=>by have hkc:p.jq (s.map kT) env=([],(Pn.columns (s.map kT) env p.kids[i]).2):=fD h h1 h2;rw[hC,hkc];exact if_neg h2
 generalize hcs:(p.kids.map fun k=>(Pn.columns (s.map kT) env k).1)=cs;have hgood:(∀j (hj:j<p.kids.length),(Pn.columns (s.map kT) env p.kids[j]).2=0)->p.columns (s.map kT) env =
  if p.op=1/\s.length<=p.table then([],81)else
   if bC p.ah p.ax p.keys (bH p.op cs)=0 then
    (if(aF (fun e=>bN (Ex.kind (s.map kT) (bH p.op cs::env) e)) p.conds).2=0 then
     (if(aF (Ex.kind (s.map kT) (bH p.op cs::env)) p.exprs).2=0 then
      fF (aM (s.map kT) p.op p.table p.kinds p.ah p.ax cs (bH p.op cs) (aF (Ex.kind (s.map kT) (bH p.op cs::env)) p.exprs).1)
     else([],(aF (Ex.kind (s.map kT) (bH p.op cs::env)) p.exprs).2))
    else([],(aF (fun e=>bN (Ex.kind (s.map kT) (bH p.op cs::env) e)) p.conds).2))
   else([],bC p.ah p.ax p.keys (bH p.op cs)):=fun h=>by
  have hkc:p.jq (s.map kT) env=(cs,0):=by rw[<-hcs];exact fC h
  have hown:p.own (s.map kT) env=bH p.op cs:=by unfold Pn.own;rw[hkc]
  rw[hC,hown,hkc];simp only[if_true,List.length_map]
 have hcl:cs.length=p.kids.length:=by rw[<-hcs];simp
 have hci:∀i (h:i<p.kids.length) (h':i<cs.length),cs[i]=(Pn.columns (s.map kT) env p.kids[i]).1:=by intro i h h';subst hcs;simp
 have hc64:(∀j (hj:j<p.kids.length),(Pn.columns (s.map kT) env p.kids[j]).2=0)->∀k∈cs,k.length<=64:=fun h k hk=>by obtain⟨j,hj,rfl⟩:=List.getElem_of_mem hk;rw[hci j (by omega) hj];exact(vY (s.map kT) env p.kids[j]).elim id (fun q=>absurd (h j (by omega)) q)
 clear hcs hC;generalize p.columns (s.map kT) env=C at hbad hgood ⊢;rw[he];simp;refine av (σ:=Nat) (fun i en st=>en 2=.sl false (env.map kX)/\en 3=.ptr 3 1 0/\en 4=.ptr 4 1 0/\en 28=.sl false (p.kids.map Pn.enc)/\en 29=i6 p.kids.length/\en 30=i6 i/\(∃es,RowG st 47 (en 8) es/\fu es=(cs.take i).map kX/\aP es=true/\es.length=i)/\
  (∃q,st 3=⟨1,true,some (.box (.agg [jO s])),q⟩)/\(∃q,st 4=⟨1,true,some (.box p.enc),q⟩)/\i<=p.kids.length/\Hd (∀j (hj:j<i) (h:j<p.kids.length),(Pn.columns (s.map kT) env p.kids[j]).2=0)) (fun i=>p.kids.length-i) ?_ 0 _ _
  ⟨by simp,by simp,by simp,by simp,by simp,by simp,⟨[],.inl ⟨rfl,by simp⟩,by simp,by simp,by simp⟩,⟨1,by simp⟩,⟨1,by simp[he]⟩,by omega,⟨fun _ h=>by omega⟩⟩
 rintro i en st ⟨e2,e3,e4,e28,e29,e30,⟨es,hrow,hsh,hdp,hel⟩,⟨q3,s3⟩,⟨q4,s4⟩,hi,hA⟩ ih;have s4':=s4;rw[he]at s4'
 replace hk2:=Hd.mk hk2;replace hcl:=Hd.mk hcl;simp[e2,e3,e4,e28,e29,e30];refine aj (fun h=>?_) (fun h=>?_)<;>(have h':=h;try simp at h')<;>(try simp[*])
 ·have hl':p.kids.length<=9223372036854775807:=by have:=hk2.out;omega
  obtain⟨fl,hcall⟩:=hk p.kids[i] (List.getElem_mem h');have hb:=hbad i h' (fun j hj=>hA.out j hj (by omega));have hic:i<cs.length:=by have:=hcl.out;omega
  have hkie:=hci i h' hic;have hke:=p.kids[i].aB;have hA':(Pn.columns (s.map kT) env p.kids[i]).2=0->∀j (hj:j<i+1) (h:j<p.kids.length),(Pn.columns (s.map kT) env p.kids[j]).2=0:=fun g j hj h=>by
   rcases Nat.lt_or_eq_of_le (Nat.le_of_lt_succ hj)with h2|h2
   ·exact hA.out j h2 h
   ·subst h2;exact g
  have htk:=cZ hic;rw[hkie]at htk
  replace hA':=Hd.mk hA';clear hkie;generalize Pn.columns (s.map kT) env p.kids[i]=kr at hcall hb htk hA';obtain⟨k1,k2⟩:=kr;simp only at hcall hb htk hA';rw[hke]at hcall
  simp only[hke];by_cases k0:k2=0
  ·subst k0;have hlen:es.length<=5864062014804:=by have:=hk2.out;omega
   rcases hrow with⟨r1,r2⟩|⟨r1,g,c,r2,r3⟩
   ·simp[hcall,e2,e3,e4,e28,e29,e30,s3,s4',r2];refine ih.out (i+1) _ _ ?_ (by omega);refine⟨by simp[e2],by simp[e3],by simp[e4],by simp[e28],by simp[e29],by simp[ai h' hl'],⟨es++[.sl fl (k1.map u8)],?_,?_,?_,?_⟩,⟨q3,by simp[s3]⟩,⟨q4,by simp[s4',s4,he]⟩,h',⟨hA'.out rfl⟩⟩
    ·rw[r1];exact .inr ⟨by simp,(st 47).g+1,_,by simp,by simp;rfl⟩
    ·have hsh0:(cs.take i).map kX=[]:=by rw[<-hsh,r1];rfl
     rw[r1,htk,List.map_append,hsh0];simp
    ·rw[r1];simp
    ·simp[hel]
   ·simp[hcall,e2,e3,e4,e28,e29,e30,s3,s4',r2,r3,hlen];refine ih.out (i+1) _ _ ?_ (by omega);refine⟨by simp[e2],by simp[e3],by simp[e4],by simp[e28],by simp[e29],by simp[ai h' hl'],⟨es++[.sl fl (k1.map u8)],?_,?_,?_,?_⟩,⟨q3,by simp[s3]⟩,⟨q4,by simp[s4',s4,he]⟩,h',⟨hA'.out rfl⟩⟩
    ·exact .inr ⟨by simp,g+1,_,by simp,by simp[r3];rfl⟩
    ·rw[htk,List.map_append,<-hsh,gX,gX];simp
    ·rw[aX]at hdp ⊢
     intro x hx;rcases List.mem_append.1 hx with hx|hx
     ·exact hdp x hx
     ·simp at hx;subst hx;simp
    ·simp[hel]
  ·have hE:=hb k0;subst hE;simp[hcall,e2,e3,e4,e28,e29,e30,s3,s4',k0]
 ·have hin:i=p.kids.length:=by omega
  have hE:=hgood (fun j hj=>hA.out j (by omega) hj);have h64:=hc64 (fun j hj=>hA.out j (by omega) hj);have hc2:cs.length<=2:=by rw[hcl.out];exact hk2.out
  have hfull:cs.take i=cs:=List.take_of_length_le (by rw[hcl.out];omega);rw[hfull]at hsh
  clear hbad hgood ih hA hci hc64 hfull hk;have hrw:=Ai p.op cs hc2 h64;have hnum:=sI p hs hpo.ax (bH p.op cs);have hon:=Cc (bH p.op cs) env henv;rw[he]at hnum
  have hc':=hc (bH p.op cs);have hx':=hx (bH p.op cs);have hrok:∀exprs:List Int,¬(p.op=1/\(s.length:Int)<=p.table)->bC p.ah p.ax p.keys (bH p.op cs)=0->exprs.length=p.exprs.length->Jm s p cs (bH p.op cs) exprs:=fun exprs h1 h2 h3=>by
   have hall:(p.ah.all (fun n=>decide (n<(bH p.op cs).length))&&(p.ax.all (fun a=>decide (a.fn=0)||decide (a.col<(bH p.op cs).length))&&p.keys.all (fun k=>decide (k.col<(bH p.op cs).length))))=true:=by
    unfold bC at h2;split at h2
    ·assumption
    ·simp at h2
   simp only[bE,nk,decide_eq_true_eq,Bool.or_eq_true]at hall;refine⟨hs.op.1,hpo.op,by rw[hcl.out];exact hpo.kids,fun q=>⟨hpo.table,by omega⟩,hst,fun _ n hn=>⟨hpo.ah n hn,hall.1 n hn⟩,fun _ a ha q=>⟨hpo.ax a ha,?_⟩,fun q=>by rw[h3,hpo.exprs q];omega,h64⟩;rcases hall.2.1 a ha with r|r
   ·omega
   ·exact r
  clear hc hx;replace hE:=Hd.mk hE;generalize bH p.op cs=own at hE hrw hnum hon hc' hx' hrok;have loop3:¬(p.op=1/\(s.length:Int)<=p.table)->bC p.ah p.ax p.keys own=0->
   (C=if(aF (Ex.kind (s.map kT) (own::env)) p.exprs).2=0 then fF (aM (s.map kT) p.op p.table p.kinds p.ah p.ax cs own (aF (Ex.kind (s.map kT) (own::env)) p.exprs).1)else([],(aF (Ex.kind (s.map kT) (own::env)) p.exprs).2))->
   ∀(en:Env) (st:ay),en 3=.ptr 3 1 0/\en 4=.ptr 4 1 0/\DF st 47 (en 8) es/\en 13=.sl true (own.map u8)/\en 15=.sl true (kX own::env.map kX)/\(∃q,st 3=⟨1,true,some (.box (.agg [jO s])),q⟩)/\(∃q,st 4=⟨1,true,some (.box p.enc),q⟩)->en 95=.sl false (p.exprs.map Ex.enc)->en 96=i6 p.exprs.length->en 97=i6 (0:Nat)->en 20=.nil->wp T [It.lp Qe,It.bl 4,It.code ((IC.ops H7).seq (((IC.ops H8).seq (IC.cond (Ar.t 131) ((IC.ops H9).seq IC.ret) IC.skip)).seq ((IC.ops H_).seq IC.ret)))] en st (fun e s=>∃a:Fl,aC e s [fI.tmp 6,fI.tmp 7]=some (.bU [.sl a.b (C.1.map u8),i6 C.2])):=by
   intro n1 n2 hC en st hbase e95 e96 e97 e20;have hbad:∀i (h:i<p.exprs.length),(∀j (hj:j<i),(Ex.kind (s.map kT) (own::env) p.exprs[j]).2=0)->¬(Ex.kind (s.map kT) (own::env) p.exprs[i]).2=0->C=([],(Ex.kind (s.map kT) (own::env) p.exprs[i]).2):=fun i h a b=>by rw[hC,fD h a b];exact if_neg b
   generalize hxs:(p.exprs.map fun k=>(Ex.kind (s.map kT) (own::env) k).1)=xs;have hgood:(∀j (hj:j<p.exprs.length),(Ex.kind (s.map kT) (own::env) p.exprs[j]).2=0)->C=fF (aM (s.map kT) p.op p.table p.kinds p.ah p.ax cs own xs):=fun h=>by rw[hC,fC h,hxs];exact if_pos rfl
   have hxl:xs.length=p.exprs.length:=by rw[<-hxs];simp
   have hxi:∀i (h:i<p.exprs.length) (h':i<xs.length),xs[i]=(Ex.kind (s.map kT) (own::env) p.exprs[i]).1:=by intro i h h';subst hxs;simp
   have hres:=uY s p hs cs own xs (hrok xs n1 n2 hxl);have hel0:p.exprs.length<=1099511627776:=hs.exprs;clear hC hxs;replace hxl:=Hd.mk hxl;refine av (σ:=Nat) (fun i en st=>(en 3=.ptr 3 1 0/\en 4=.ptr 4 1 0/\DF st 47 (en 8) es/\en 13=.sl true (own.map u8)/\en 15=.sl true (kX own::env.map kX)/\(∃q,st 3=⟨1,true,some (.box (.agg [jO s])),q⟩)/\(∃q,st 4=⟨1,true,some (.box p.enc),q⟩))/\en 95=.sl false (p.exprs.map Ex.enc)/\en 96=i6 p.exprs.length/\en 97=i6 i/\iU st 114 (en 20) (xs.take i)/\i<=p.exprs.length/\Hd (∀j (hj:j<i) (h:j<p.exprs.length),(Ex.kind (s.map kT) (own::env) p.exprs[j]).2=0)) (fun i=>p.exprs.length-i) ?_ 0 _ _
    ⟨hbase,e95,e96,e97,.inl ⟨by simp,e20⟩,by omega,⟨fun _ h=>by omega⟩⟩
   rintro i en st ⟨⟨e3,e4,hrow,e13,e15,⟨q3,s3⟩,⟨q4,s4⟩⟩,e95,e96,e97,hxr,hi,hA⟩ ih;have s4':=s4;rw[he]at s4'
   simp[e95,e96,e97];refine aj (fun h=>?_) (fun h=>?_)<;>(have h':=h;try simp at h')<;>(try simp[*])
   ·have hl':p.exprs.length<=9223372036854775807:=by omega
    have hcall:=hx' p.exprs[i] (List.getElem_mem h');unfold gY at hcall;have hb:=hbad i h' (fun j hj=>hA.out j hj (by omega));have hix:i<xs.length:=by have:=hxl.out;omega
    have hxie:=hxi i h' hix;have hke:=p.exprs[i].aB;have hA':(Ex.kind (s.map kT) (own::env) p.exprs[i]).2=0->∀j (hj:j<i+1) (h:j<p.exprs.length),(Ex.kind (s.map kT) (own::env) p.exprs[j]).2=0:=fun g j hj h=>by
     rcases Nat.lt_or_eq_of_le (Nat.le_of_lt_succ hj)with h2|h2
     ·exact hA.out j h2 h
     ·subst h2;exact g
    have htk:=cZ hix;rw[hxie]at htk
    have hln:(xs.take i).length<=140737488355327:=by simp;omega
    replace hA':=Hd.mk hA';clear hxie;generalize Ex.kind (s.map kT) (own::env) p.exprs[i]=kr at hcall hb htk hA';obtain⟨k1,k2⟩:=kr;simp only at hcall hb htk hA';simp only[List.map_cons]at hcall;rw[hke]at hcall
    simp only[hke];by_cases k0:k2=0
    ·subst k0;generalize xs.take i=ys at hxr htk hln;rcases hxr with⟨r1,r2⟩|⟨r1,g,c,r2,r3⟩
     ·simp[hcall,e3,e4,e15,e95,e96,e97,s3,s4',r2];refine ih.out (i+1) _ _ ?_ (by omega);refine⟨⟨by simp[e3],by simp[e4],by simpa[DF]using hrow,by simp[e13],by simp[e15],⟨q3,by simp[s3]⟩,⟨q4,by simp[s4',s4,he]⟩⟩,by simp[e95],by simp[e96],by simp[ai h' hl'],?_,h',⟨hA'.out rfl⟩⟩;rw[htk,r1];exact .inr ⟨by simp,(st 114).g+1,_,by simp,by simp;rfl⟩
     ·simp[hcall,e3,e4,e15,e95,e96,e97,s3,s4',r2,r3,hln];refine ih.out (i+1) _ _ ?_ (by omega);refine⟨⟨by simp[e3],by simp[e4],by simpa[DF]using hrow,by simp[e13],by simp[e15],⟨q3,by simp[s3]⟩,⟨q4,by simp[s4',s4,he]⟩⟩,by simp[e95],by simp[e96],by simp[ai h' hl'],?_,h',⟨hA'.out rfl⟩⟩;rw[htk];exact .inr ⟨by simp,g+1,_,by simp,by simp[r3];rfl⟩
    ·have hE:=hb k0;subst hE;simp[hcall,e3,e4,e15,e95,e96,e97,s3,s4',k0]
   ·have hCE:=hgood (fun j hj=>hA.out j (by omega) hj);have hfull:xs.take i=xs:=List.take_of_length_le (by have:=hxl.out;omega);rw[hfull]at hxr
    obtain⟨fl,hres⟩:=hres;rw[he]at hres
    clear hbad hgood ih hA hxi;generalize aM (s.map kT) p.op p.table p.kinds p.ah p.ax cs own xs=R at hres hCE;obtain⟨rc,rerr⟩:=R;simp only at hres;by_cases rz:rerr=0
    ·subst rz;by_cases r64:64<rc.length
     ·have hw:fF (rc,0)=([],2):=if_pos ⟨rfl,r64⟩;rw[hw]at hCE
      subst hCE;have r64':(64:Int)<rc.length:=by omega
      rcases hrow with⟨r1,r2⟩|⟨r1,g,wr,c,r2,r3⟩
      ·have hsh0:(cs.map kX)=[]:=by rw[<-hsh,r1];rfl
       rw[hsh0]at hres
       rcases hxr with⟨q1,q2⟩|⟨q1,g',c',q2,q3⟩
       ·have hx0:kX xs=.sl false []:=by rw[q1];rfl
        rw[hx0]at hres
        simp[hres,e3,e4,e13,s3,s4',r2,q2,r64,r64']
       ·simp[hres,e3,e4,e13,s3,s4',r2,q2,q3,r64,r64']
      ·rcases hxr with⟨q1,q2⟩|⟨q1,g',c',q2,q3⟩
       ·have hx0:kX xs=.sl false []:=by rw[q1];rfl
        rw[hx0]at hres
        simp[hres,e3,e4,e13,s3,s4',r2,r3,hdp,hsh,q2,r64,r64']
       ·simp[hres,e3,e4,e13,s3,s4',r2,r3,hdp,hsh,q2,q3,r64,r64']
     ·have hw:fF (rc,0)=(rc,0):=if_neg (fun q=>r64 q.2);rw[hw]at hCE
      subst hCE;have r64':¬(64:Int)<rc.length:=by omega
      rcases hrow with⟨r1,r2⟩|⟨r1,g,wr,c,r2,r3⟩
      ·have hsh0:(cs.map kX)=[]:=by rw[<-hsh,r1];rfl
       rw[hsh0]at hres
       rcases hxr with⟨q1,q2⟩|⟨q1,g',c',q2,q3⟩
       ·have hx0:kX xs=.sl false []:=by rw[q1];rfl
        rw[hx0]at hres
        simp[hres,e3,e4,e13,s3,s4',r2,q2,r64,r64']
       ·simp[hres,e3,e4,e13,s3,s4',r2,q2,q3,r64,r64']
      ·rcases hxr with⟨q1,q2⟩|⟨q1,g',c',q2,q3⟩
       ·have hx0:kX xs=.sl false []:=by rw[q1];rfl
        rw[hx0]at hres
        simp[hres,e3,e4,e13,s3,s4',r2,r3,hdp,hsh,q2,r64,r64']
       ·simp[hres,e3,e4,e13,s3,s4',r2,r3,hdp,hsh,q2,q3,r64,r64']
    ·have hw:fF (rc,rerr)=(rc,rerr):=if_neg (fun q=>rz q.1);rw[hw]at hCE
     subst hCE;rcases hrow with⟨r1,r2⟩|⟨r1,g,wr,c,r2,r3⟩
     ·have hsh0:(cs.map kX)=[]:=by rw[<-hsh,r1];rfl
      rw[hsh0]at hres
      rcases hxr with⟨q1,q2⟩|⟨q1,g',c',q2,q3⟩
      ·have hx0:kX xs=.sl false []:=by rw[q1];rfl
       rw[hx0]at hres
       simp[hres,e3,e4,e13,s3,s4',r2,q2,rz]
      ·simp[hres,e3,e4,e13,s3,s4',r2,q2,q3,rz]
     ·rcases hxr with⟨q1,q2⟩|⟨q1,g',c',q2,q3⟩
      ·have hx0:kX xs=.sl false []:=by rw[q1];rfl
       rw[hx0]at hres
       simp[hres,e3,e4,e13,s3,s4',r2,r3,hdp,hsh,q2,rz]
      ·simp[hres,e3,e4,e13,s3,s4',r2,r3,hdp,hsh,q2,q3,rz]
  have loop2:¬(p.op=1/\(s.length:Int)<=p.table)->bC p.ah p.ax p.keys own=0->
   (C=if(aF (fun e=>bN (Ex.kind (s.map kT) (own::env) e)) p.conds).2=0 then(if(aF (Ex.kind (s.map kT) (own::env)) p.exprs).2=0 then fF (aM (s.map kT) p.op p.table p.kinds p.ah p.ax cs own (aF (Ex.kind (s.map kT) (own::env)) p.exprs).1)else([],(aF (Ex.kind (s.map kT) (own::env)) p.exprs).2))else([],(aF (fun e=>bN (Ex.kind (s.map kT) (own::env) e)) p.conds).2))->
   ∀(en:Env) (st:ay),en 3=.ptr 3 1 0/\en 4=.ptr 4 1 0/\DF st 47 (en 8) es/\en 13=.sl true (own.map u8)/\en 15=.sl true (kX own::env.map kX)/\(∃q,st 3=⟨1,true,some (.box (.agg [jO s])),q⟩)/\(∃q,st 4=⟨1,true,some (.box p.enc),q⟩)->en 74=.sl false (p.conds.map Ex.enc)->en 75=i6 p.conds.length->en 76=i6 (0:Nat)->wp T [It.lp aaJ,It.bl 2,It.code ((IC.ops Qf).seq (((IC.ops Qg).seq (IC.block 4 (IC.loop Qe))).seq ((IC.ops H7).seq (((IC.ops H8).seq (IC.cond (Ar.t 131) ((IC.ops H9).seq IC.ret) IC.skip)).seq ((IC.ops H_).seq IC.ret)))))] en st (fun e s=>∃a:Fl,aC e s [fI.tmp 6,fI.tmp 7]=some (.bU [.sl a.b (C.1.map u8),i6 C.2])):=by
   intro n1 n2 hC en st hbase e74 e75 e76;have hbad:∀i (h:i<p.conds.length),(∀j (hj:j<i),(bN (Ex.kind (s.map kT) (own::env) p.conds[j])).2=0)->¬(bN (Ex.kind (s.map kT) (own::env) p.conds[i])).2=0->C=([],(bN (Ex.kind (s.map kT) (own::env) p.conds[i])).2):=fun i h a b=>by rw[hC,fD (f:=fun e=>bN (Ex.kind (s.map kT) (own::env) e)) h a b];exact if_neg b
   have hgood:(∀j (hj:j<p.conds.length),(bN (Ex.kind (s.map kT) (own::env) p.conds[j])).2=0)->C=(if(aF (Ex.kind (s.map kT) (own::env)) p.exprs).2=0 then fF (aM (s.map kT) p.op p.table p.kinds p.ah p.ax cs own (aF (Ex.kind (s.map kT) (own::env)) p.exprs).1)else([],(aF (Ex.kind (s.map kT) (own::env)) p.exprs).2)):=fun h=>by rw[hC,fC (f:=fun e=>bN (Ex.kind (s.map kT) (own::env) e)) h];exact if_pos rfl
   have hcl0:p.conds.length<=1099511627776:=hs.conds;clear hC;replace loop3:=Hd.mk (loop3 n1 n2);refine av (σ:=Nat) (fun i en st=>(en 3=.ptr 3 1 0/\en 4=.ptr 4 1 0/\DF st 47 (en 8) es/\en 13=.sl true (own.map u8)/\en 15=.sl true (kX own::env.map kX)/\(∃q,st 3=⟨1,true,some (.box (.agg [jO s])),q⟩)/\(∃q,st 4=⟨1,true,some (.box p.enc),q⟩))/\en 74=.sl false (p.conds.map Ex.enc)/\en 75=i6 p.conds.length/\en 76=i6 i/\i<=p.conds.length/\Hd (∀j (hj:j<i) (h:j<p.conds.length),(bN (Ex.kind (s.map kT) (own::env) p.conds[j])).2=0)) (fun i=>p.conds.length-i) ?_ 0 _ _
    ⟨hbase,e74,e75,e76,by omega,⟨fun _ h=>by omega⟩⟩
   rintro i en st ⟨⟨e3,e4,hrow,e13,e15,⟨q3,s3⟩,⟨q4,s4⟩⟩,e74,e75,e76,hi,hA⟩ ih;have s4':=s4;rw[he]at s4'
   simp[e74,e75,e76];refine aj (fun h=>?_) (fun h=>?_)<;>(have h':=h;try simp at h')<;>(try simp[*])
   ·have hl':p.conds.length<=9223372036854775807:=by omega
    have hcall:=hc' p.conds[i] (List.getElem_mem h');unfold gY at hcall;have hb:=hbad i h' (fun j hj=>hA.out j hj (by omega));have hke:=p.conds[i].aB;have hA':(bN (Ex.kind (s.map kT) (own::env) p.conds[i])).2=0->∀j (hj:j<i+1) (h:j<p.conds.length),(bN (Ex.kind (s.map kT) (own::env) p.conds[j])).2=0:=fun g j hj h=>by
     rcases Nat.lt_or_eq_of_le (Nat.le_of_lt_succ hj)with h2|h2
     ·exact hA.out j h2 h
     ·subst h2;exact g
    replace hA':=Hd.mk hA';generalize Ex.kind (s.map kT) (own::env) p.conds[i]=kr at hcall hb hA';obtain⟨k1,k2⟩:=kr;simp only[List.map_cons]at hcall;rw[hke]at hcall
    simp only[hke];have hag:=gG k1 3;by_cases k0:k2=0
    ·subst k0;by_cases hg:aG k1 3=true
     ·have hck:bN (k1,0)=(k1,0):=by simp[bN,hg]
      rw[hck]at hA'
      rw[hg]at hag
      simp[hcall,hag,e3,e4,e15,e74,e75,e76,s3,s4'];refine ih.out (i+1) _ _ ?_ (by omega);exact⟨⟨by simp[e3],by simp[e4],by simpa[DF]using hrow,by simp[e13],by simp[e15],⟨q3,by simp[s3]⟩,⟨q4,by simp[s4',s4,he]⟩⟩,by simp[e74],by simp[e75],by simp[ai h' hl'],h',⟨hA'.out rfl⟩⟩
     ·simp only[Bool.not_eq_true]at hg;have hck:bN (k1,0)=(0,50):=by simp[bN,hg]
      rw[hck]at hb
      have hE:=hb (by decide);rw[hg]at hag
      subst hE;simp[hcall,hag,e3,e4,e15,e74,e75,e76,s3,s4']
    ·have hck:bN (k1,k2)=(k1,k2):=by simp[bN,k0]
     rw[hck]at hb
     have hE:=hb k0;subst hE;simp[hcall,e3,e4,e15,e74,e75,e76,s3,s4',k0]
   ·have hCE:=hgood (fun j hj=>hA.out j (by omega) hj)
    try simp[e3,e4,s4']
    exact loop3.out hCE _ _ ⟨by simp[e3],by simp[e4],by simpa[DF]using hrow,by simp[e13],by simp[e15],⟨q3,by simp[s3]⟩,⟨q4,by simp[s4',s4,he]⟩⟩ (by simp) (by simp) (by simp) (by simp)
  have hE':=hE.out;by_cases h1:p.op=1/\(s.length:Int)<=p.table
  ·rw[if_pos h1]at hE'
   subst hE';simp[e3,e4,s3,s4',h1.1,h1.2]
  rw[if_neg h1]at hE'
  replace loop2:=fun n=>loop2 h1 n;clear loop3;have hrow':=hrow;by_cases hn:bC p.ah p.ax p.keys own=0
  ·rw[if_pos hn]at hE'
   rw[hn]at hnum
   replace loop2:=Hd.mk (loop2 hn hE');rcases hrow with⟨r1,r2⟩|⟨r1,g,c,r2,r3⟩
   ·have hsh0:(cs.map kX)=[]:=by rw[<-hsh,r1];rfl
    rw[hsh0]at hrw
    by_cases h01:p.op=1
    ·have hnt:¬(s.length:Int)<=p.table:=fun q=>h1 ⟨h01,q⟩;rw[h01]at hrw hnum s4'
     simp[hrw,hnum,hon,e2,e3,e4,s3,s4',r2,h01,hnt];exact loop2.out _ _ ⟨by simp[e3],by simp[e4],.inl ⟨r1,by simp[r2]⟩,by simp,by simp,⟨q3,by simp[s3]⟩,⟨q4,by simp[s4',s4,he,h01]⟩⟩ (by simp) (by simp) (by simp)
    ·simp[hrw,hnum,hon,e2,e3,e4,s3,s4',r2,h01];exact loop2.out _ _ ⟨by simp[e3],by simp[e4],.inl ⟨r1,by simp[r2]⟩,by simp,by simp,⟨q3,by simp[s3]⟩,⟨q4,by simp[s4',s4,he]⟩⟩ (by simp) (by simp) (by simp)
   ·by_cases h01:p.op=1
    ·have hnt:¬(s.length:Int)<=p.table:=fun q=>h1 ⟨h01,q⟩;rw[h01]at hrw hnum s4'
     simp[hrw,hnum,hon,e2,e3,e4,s3,s4',r2,r3,hdp,hsh,h01,hnt];exact loop2.out _ _ ⟨by simp[e3],by simp[e4],.inr ⟨r1,g,false,_,by simp[r2],by simp[r3];rfl⟩,by simp,by simp,⟨q3,by simp[s3]⟩,⟨q4,by simp[s4',s4,he,h01]⟩⟩ (by simp) (by simp) (by simp)
    ·simp[hrw,hnum,hon,e2,e3,e4,s3,s4',r2,r3,hdp,hsh,h01];exact loop2.out _ _ ⟨by simp[e3],by simp[e4],.inr ⟨r1,g,false,_,by simp[r2],by simp[r3];rfl⟩,by simp,by simp,⟨q3,by simp[s3]⟩,⟨q4,by simp[s4',s4,he]⟩⟩ (by simp) (by simp) (by simp)
  ·rw[if_neg hn]at hE'
   generalize bC p.ah p.ax p.keys own=N at hn hnum hE';subst hE';rcases hrow with⟨r1,r2⟩|⟨r1,g,c,r2,r3⟩
   ·have hsh0:(cs.map kX)=[]:=by rw[<-hsh,r1];rfl
    rw[hsh0]at hrw
    by_cases h01:p.op=1
    ·have hnt:¬(s.length:Int)<=p.table:=fun q=>h1 ⟨h01,q⟩;rw[h01]at hrw hnum s4'
     simp[hrw,hnum,hon,e2,e3,e4,s3,s4',r2,hn,h01,hnt]
    ·simp[hrw,hnum,hon,e2,e3,e4,s3,s4',r2,hn,h01]
   ·by_cases h01:p.op=1
    ·have hnt:¬(s.length:Int)<=p.table:=fun q=>h1 ⟨h01,q⟩;rw[h01]at hrw hnum s4'
     simp[hrw,hnum,hon,e2,e3,e4,s3,s4',r2,r3,hdp,hsh,hn,h01,hnt]
    ·simp[hrw,hnum,hon,e2,e3,e4,s3,s4',r2,r3,hdp,hsh,hn,h01]
def Tal(f:Nat)(xs:X->List X)(n:Nat):Prop:=∀(q g t k:Nat) (s:ay),q<1000->s q=⟨g,true,some (.box (i6 t)),k⟩->t<=400->
 ∃(s':ay) (k':Nat),dD (run T) T f (xs (.ptr q g 0)) s=some (.v (.bool (decide (t+n<=400))),s')/\s' q=⟨g,true,some (.box (i6 (min (t+n) 401:Nat))),k'⟩
theorem wu:Tal QU (fun p=>[p]) 1:=by
 intro q g t k s hq hs ht;obtain⟨r,hr,h1,h2⟩:=j5 (T:=T) (f:=QU) (nt:=16) (res:=[.tmp 2]) (body:=q32B) (xs:=[.ptr q g 0]) (s:=s) (P:=fun r=>r.1=.v (.bool (decide (t+1<=400)))/\∃k',r.2 q=⟨g,true,some (.box (i6 (min (t+1) 401:Nat))),k'⟩) (by kernel_rfl) (by simp) (by
  have h0:¬(400:Int)<(t:Int):=by omega
  have hw:IntKind.i64.wrap ((t:Int)+1)=((t+1:Nat):Int):=ai (n:=9223372036854775807) (by omega) (by omega);have hm:min (t+1) 401=t+1:=by omega
  have hle:(((t+1:Nat):Int)<=400)=(t+1<=400):=by apply propext;omega
  rw[hm];simp[hs,h0,hw,hle,iJ,fq,f_];omega)
 exact⟨r.2,h2.choose,by rw[hr,<-h1],h2.choose_spec⟩
theorem jX{q g:Nat}{b:Bool}{n:Int}{o:Option (X×ay)}{d:Option Nat}{l:List d9}{k:List It}{e:Env}{Q:Env->ay->Prop}
 (h:∃(s':ay) (k':Nat),o=some (.v (.bool b),s')/\s' q=⟨g,true,some (.box (i6 n)),k'⟩)
 (hk:∀(s':ay) (k':Nat),s' q=⟨g,true,some (.box (i6 n)),k'⟩->R3 T (some (.v (.bool b),s')) d l k e Q):R3 T o d l k e Q:=by
 obtain⟨s',k',rfl,h⟩:=h;exact hk s' k' h
theorem rR(l:List Ex)(hl:aS l)(f:Nat)(hk:∀k∈l,Tal f (fun p=>[p,k.enc]) k.size):Tal Q5 (fun p=>[.sl false (l.map Ex.enc),.fm f [p]]) (aU Ex.size l):=by
 intro q g t k s hq hs ht;have hl':l.length<=9223372036854775807:=gJ hl (by decide);obtain⟨r,hr,h1,h2⟩:=j5 (T:=T) (f:=Q5) (nt:=18) (res:=[.tmp 4]) (body:=q7B) (xs:=[.sl false (l.map Ex.enc),.fm f [.ptr q g 0]]) (s:=s) (P:=fun r=>r.1=.v (.bool (decide (t+aU Ex.size l<=400)))/\∃k',r.2 q=⟨g,true,some (.box (i6 (min (t+aU Ex.size l) 401:Nat))),k'⟩) (by kernel_rfl) (by simp) (by
  simp;refine av (σ:=Nat) (fun i en s=>en 1=.fm f [.ptr q g 0]/\en 7=.sl false (l.map Ex.enc)/\en 8=i6 l.length/\en 9=i6 i/\(∃k,s q=⟨g,true,some (.box (i6 (t+aU Ex.size (l.take i):Nat))),k⟩)/\t+aU Ex.size (l.take i)<=400/\i<=l.length) (fun i=>l.length-i) ?_ 0 _ _
   ⟨by simp,by simp,by simp,by simp,⟨k,by simp[aU,hs]⟩,by simp[aU];omega,by omega⟩
  rintro i en s ⟨h1,h7,h8,h9,⟨k,hs⟩,hle,hi⟩ ih;simp[h1,h7,h8,h9];refine aj (fun h=>?_) (fun h=>?_)<;>(have h':=h;try simp at h')<;>(try simp[*])
  ·have hke:=l[i].aB;have ht:=hk l[i] (List.getElem_mem h');have hst:=jS (f:=Ex.size) h';rw[hke]at ht
   simp only[hke];simp[h1,h7,h8,h9];refine jX (ht q g _ k _ hq (by simp[hs,show ¬q=14006 by omega]) hle) ?_;intro s' k' hs';rw[Nat.add_assoc,<-hst]at hs' ⊢
   by_cases hb:t+aU Ex.size (l.take (i+1))<=400
   ·simp[hb,h1,h7,h8,h9];refine ih.out (i+1) _ _ ?_ (by omega);exact⟨by simp[h1],by simp[h7],by simp[h8],by simp[ai h' hl'],⟨k',by rw[hs'];rw[show min (t+aU Ex.size (l.take (i+1))) 401=t+aU Ex.size (l.take (i+1))by omega]⟩,hb,h'⟩
   ·simp[hb,iJ,fq,f_];have:=n_ (f:=Ex.size) (l:=l) (i:=i+1);refine⟨by omega,k',?_⟩;rw[hs',show min (t+aU Ex.size (l.take (i+1))) 401=401 by omega,show min (t+aU Ex.size l) 401=401 by omega]
  ·have hfull:=jR (f:=Ex.size) (l:=l) (i:=i) (by omega);rw[hfull]at hs hle
   try rw[hfull]
   simp[iJ,fq,f_,hs];refine⟨hle,?_⟩;omega)
 exact⟨r.2,h2.choose,by rw[hr,<-h1],h2.choose_spec⟩
theorem yV(l:List Pn)(hl:aS l)(f:Nat)(hk:∀k∈l,Tal f (fun p=>[p,k.enc]) k.size):Tal CX (fun p=>[.sl false (l.map Pn.enc),.fm f [p]]) (aU Pn.size l):=by
 intro q g t k s hq hs ht;have hl':l.length<=9223372036854775807:=gJ hl (by decide);obtain⟨r,hr,h1,h2⟩:=j5 (T:=T) (f:=CX) (nt:=18) (res:=[.tmp 4]) (body:=q10B) (xs:=[.sl false (l.map Pn.enc),.fm f [.ptr q g 0]]) (s:=s) (P:=fun r=>r.1=.v (.bool (decide (t+aU Pn.size l<=400)))/\∃k',r.2 q=⟨g,true,some (.box (i6 (min (t+aU Pn.size l) 401:Nat))),k'⟩) (by kernel_rfl) (by simp) (by
  simp;refine av (σ:=Nat) (fun i en s=>en 1=.fm f [.ptr q g 0]/\en 7=.sl false (l.map Pn.enc)/\en 8=i6 l.length/\en 9=i6 i/\(∃k,s q=⟨g,true,some (.box (i6 (t+aU Pn.size (l.take i):Nat))),k⟩)/\t+aU Pn.size (l.take i)<=400/\i<=l.length) (fun i=>l.length-i) ?_ 0 _ _
   ⟨by simp,by simp,by simp,by simp,⟨k,by simp[aU,hs]⟩,by simp[aU];omega,by omega⟩
  rintro i en s ⟨h1,h7,h8,h9,⟨k,hs⟩,hle,hi⟩ ih;simp[h1,h7,h8,h9];refine aj (fun h=>?_) (fun h=>?_)<;>(have h':=h;try simp at h')<;>(try simp[*])
  ·have hke:=l[i].aB;have ht:=hk l[i] (List.getElem_mem h');have hst:=jS (f:=Pn.size) h';rw[hke]at ht
   simp only[hke];simp[h1,h7,h8,h9];refine jX (ht q g _ k _ hq (by simp[hs,show ¬q=15006 by omega]) hle) ?_;intro s' k' hs';rw[Nat.add_assoc,<-hst]at hs' ⊢
   by_cases hb:t+aU Pn.size (l.take (i+1))<=400
   ·simp[hb,h1,h7,h8,h9];refine ih.out (i+1) _ _ ?_ (by omega);exact⟨by simp[h1],by simp[h7],by simp[h8],by simp[ai h' hl'],⟨k',by rw[hs'];rw[show min (t+aU Pn.size (l.take (i+1))) 401=t+aU Pn.size (l.take (i+1))by omega]⟩,hb,h'⟩
   ·simp[hb,iJ,fq,f_];have:=n_ (f:=Pn.size) (l:=l) (i:=i+1);refine⟨by omega,k',?_⟩;rw[hs',show min (t+aU Pn.size (l.take (i+1))) 401=401 by omega,show min (t+aU Pn.size l) 401=401 by omega]
  ·have hfull:=jR (f:=Pn.size) (l:=l) (i:=i) (by omega);rw[hfull]at hs hle
   try rw[hfull]
   simp[iJ,fq,f_,hs];refine⟨hle,?_⟩;omega)
 exact⟨r.2,h2.choose,by rw[hr,<-h1],h2.choose_spec⟩
theorem RO:(∀e:Ex,e.small->Tal AJ (fun p=>[p,e.enc]) e.size)/\(∀p:Pn,p.small->Tal FK (fun q=>[q,p.enc]) p.size):=by
 refine dL (fun e h1 h2 hs=>?_) (fun x h1 h2 h3 hs=>?_)
 ·have hs':=Ex.cK hs;have a1:=rR e.kids hs'.kids AJ (fun k hk=>h1 k hk (hs'.kid k hk));have a2:=yV e.sub hs'.sub FK (fun k hk=>h2 k hk (hs'.subs k hk));have he:=e.aB;intro q g t k s hq hst ht;have hsz:=Ex.size_eq e;obtain⟨r,hr,g1,g2⟩:=j5 (T:=T) (f:=AJ) (nt:=21) (res:=[.tmp 4]) (body:=q33B) (xs:=[.ptr q g 0,e.enc]) (s:=s) (P:=fun r=>r.1=.v (.bool (decide (t+e.size<=400)))/\∃k',r.2 q=⟨g,true,some (.box (i6 (min (t+e.size) 401:Nat))),k'⟩) (by kernel_rfl) (by simp) (by
   rw[he];simp;refine jX (wu q g t k _ hq (by simp[hst]) ht) ?_;intro s1 k1 hs1;by_cases b1:t+1<=400
   ·rw[show min (t+1) 401=t+1 by omega]at hs1
    simp[b1];refine jX (a1 q g (t+1) k1 _ hq hs1 b1) ?_;intro s2 k2 hs2;by_cases b2:t+1+aU Ex.size e.kids<=400
    ·rw[show min (t+1+aU Ex.size e.kids) 401=t+1+aU Ex.size e.kids by omega]at hs2
     simp[b2];refine jX (a2 q g _ k2 _ hq hs2 b2) ?_;intro s3 k3 hs3;have hh:t+1+aU Ex.size e.kids+aU Pn.size e.sub=t+e.size:=by omega
     rw[hh]at hs3 ⊢
     simp[iJ,fq,f_,hs3]
    ·simp[b2,iJ,fq,f_,hs2];refine⟨by omega,by omega⟩
   ·simp[b1,iJ,fq,f_,hs1];refine⟨by omega,by omega⟩)
  exact⟨r.2,g2.choose,by rw[hr,<-g1],g2.choose_spec⟩
 ·have hs':=Pn.cK hs;have a1:=yV x.kids hs'.kids FK (fun k hk=>h1 k hk (hs'.kid k hk));have a2:=rR x.conds hs'.conds AJ (fun k hk=>h2 k hk (hs'.cond k hk));have a3:=rR x.exprs hs'.exprs AJ (fun k hk=>h3 k hk (hs'.expr k hk));have he:=x.aB;intro q g t k s hq hst ht;have hsz:=Pn.size_eq x;obtain⟨r,hr,g1,g2⟩:=j5 (T:=T) (f:=FK) (nt:=28) (res:=[.tmp 4]) (body:=q34B) (xs:=[.ptr q g 0,x.enc]) (s:=s) (P:=fun r=>r.1=.v (.bool (decide (t+x.size<=400)))/\∃k',r.2 q=⟨g,true,some (.box (i6 (min (t+x.size) 401:Nat))),k'⟩) (by kernel_rfl) (by simp) (by
   rw[he];simp;refine jX (wu q g t k _ hq (by simp[hst]) ht) ?_;intro s1 k1 hs1;by_cases b1:t+1<=400
   ·rw[show min (t+1) 401=t+1 by omega]at hs1
    simp[b1];refine jX (a1 q g (t+1) k1 _ hq hs1 b1) ?_;intro s2 k2 hs2;by_cases b2:t+1+aU Pn.size x.kids<=400
    ·rw[show min (t+1+aU Pn.size x.kids) 401=t+1+aU Pn.size x.kids by omega]at hs2
     simp[b2];refine jX (a2 q g _ k2 _ hq hs2 b2) ?_;intro s3 k3 hs3;by_cases b3:t+1+aU Pn.size x.kids+aU Ex.size x.conds<=400
     ·rw[show min (t+1+aU Pn.size x.kids+aU Ex.size x.conds) 401=t+1+aU Pn.size x.kids+aU Ex.size x.conds by omega]at hs3
      simp[b3];refine jX (a3 q g _ k3 _ hq hs3 b3) ?_;intro s4 k4 hs4;have hh:t+1+aU Pn.size x.kids+aU Ex.size x.conds+aU Ex.size x.exprs=t+x.size:=by omega
      rw[hh]at hs4 ⊢
      simp[iJ,fq,f_,hs4]
     ·simp[b3,iJ,fq,f_,hs3];refine⟨by omega,by omega⟩
    ·simp[b2,iJ,fq,f_,hs2];refine⟨by omega,by omega⟩
   ·simp[b1,iJ,fq,f_,hs1];refine⟨by omega,by omega⟩)
  exact⟨r.2,g2.choose,by rw[hr,<-g1],g2.choose_spec⟩
theorem qZ(e:Ex)(h:e.small):call T q4n [e.enc]=some (i6 (min e.size 401:Nat)):=by
 refine q4g (by simp) ?_;have he:=e.aB;have ht:=RO.1 e h;rw[he]at ht ⊢
 simp;refine jX (ht 3 1 0 1 _ (by decide) (by simp) (by omega)) ?_;intro s' k' hs';rw[Nat.zero_add]at hs'
 simp[hs']
theorem JB{e k:Ex}(h:k∈e.kids):k.depth+1<=e.depth:=by cases e;rename_i l m;have:=Ex.eu (l:=l) h;simp only[Ex.depth];omega
theorem JC{e:Ex}{k:Pn}(h:k∈e.sub):k.depth+1<=e.depth:=by cases e;rename_i l m;have:=Pn.eu (l:=m) h;simp only[Ex.depth];omega
theorem Em{p k:Pn}(h:k∈p.kids):k.depth+1<=p.depth:=by cases p;rename_i c d _ _ _ _ _ l;have:=Pn.eu (l:=l) h;simp only[Pn.depth];omega
theorem Ej{p:Pn}{k:Ex}(h:k∈p.conds):k.depth+1<=p.depth:=by cases p;rename_i c d _ _ _ _ _ l;have:=Ex.eu (l:=c) h;simp only[Pn.depth];omega
theorem El{p:Pn}{k:Ex}(h:k∈p.exprs):k.depth+1<=p.depth:=by cases p;rename_i c d _ _ _ _ _ l;have:=Ex.eu (l:=d) h;simp only[Pn.depth];omega
theorem Ct{l:List Ex}(h:∀k∈l,k.depth<=k.size):Ex.gK l<=aU Ex.size l:=by
 induction l with
 | nil=>simp[Ex.gK]
 | cons a l ih=>
  have h1:=h a (by simp);have h2:=ih fun k hk=>h k (by simp[hk]);simp only[Ex.gK,aU];omega
theorem Ei{l:List Pn}(h:∀k∈l,k.depth<=k.size):Pn.gK l<=aU Pn.size l:=by
 induction l with
 | nil=>simp[Pn.gK]
 | cons a l ih=>
  have h1:=h a (by simp);have h2:=ih fun k hk=>h k (by simp[hk]);simp only[Pn.gK,aU];omega
theorem En:(∀e:Ex,e.depth<=e.size)/\(∀p:Pn,p.depth<=p.size):=by
 refine dL (fun e h1 h2=>?_) (fun x h1 h2 h3=>?_)
 ·have a:=Ct h1;have b:=Ei h2;rw[Ex.size_eq];cases e;simp only[Ex.depth,Ex.kids,Ex.sub]at *
  omega
 ·have a:=Ei h1;have b:=Ct h2;have c:=Ct h3;rw[Pn.size_eq];cases x;simp only[Pn.depth,Pn.kids,Pn.conds,Pn.exprs]at *
  omega
theorem Nr(s:List eT)(hst:∀t∈s,aS t.ah) :
 (∀e:Ex,e.small->e.formed=true->∀env:List (List Int),env.length+e.depth<=5864062014804->gY s env e)/\
 (∀p:Pn,p.small->p.formed=true->∀env:List (List Int),env.length+p.depth<=5864062014804->oL s env p):=by
 refine dL (fun e h1 h2 hs hf env hd=>?_) (fun x h1 h2 h3 hs hf env hd=>?_)
 ·have hs':=Ex.cK hs;have hf':=iZ hf;exact Mr s env e hs' hf (fun k hk=>h1 k hk (hs'.kid k hk) (hf'.2.1 k hk) env (by have:=JB hk;omega)) (fun k hk=>h2 k hk (hs'.subs k hk) (hf'.2.2 k hk) env (by have:=JC hk;omega))
 ·have hs':=Pn.cK hs;have hf':=kg hf;exact LZ s hst env (by omega) x hs' hf (fun k hk=>h1 k hk (hs'.kid k hk) (hf'.2.1 k hk) env (by have:=Em hk;omega))
   (fun own k hk=>h2 k hk (hs'.cond k hk) (hf'.2.2.1 k hk) (own::env) (by have:=Ej hk;simp;omega))
   (fun own k hk=>h3 k hk (hs'.expr k hk) (hf'.2.2.2 k hk) (own::env) (by have:=El hk;simp;omega))
noncomputable def wI(s:List eT)(env:List (List Int))(n:Int):Int:=
 if bP (eP s)=true/\env.all aT=true then(if 400<n\/400<env.length then 2 else 0)else 1
def tF(env:List (List Int)):Prop:=aS env/\∀r∈env,aS r
theorem sJ(s:List eT)(hv:call T zF [jO s]=some (.v (.bool (bP (eP s)))))(env:List (List Int))(he:tF env)(n:Int):call T QS [jO s,.sl false (env.map kX),i6 n]=some (i6 (wI s env n)):=by
 refine q28g (by simp) ?_;have hl:env.length<=1099511627776:=he.1;have hl':env.length<=9223372036854775807:=by omega
 unfold wI;generalize bP (eP s)=b at hv ⊢;cases b
 ·simp[hv]
 have hbad:∀i (h:i<env.length),aT env[i]=false->env.all aT=false:=fun i h g=>bT h g;have hgood:(∀i (h:i<env.length),aT env[i]=true)->env.all aT=true:=bg;generalize env.all aT=R at hbad hgood ⊢;simp[hv];refine av (σ:=Nat) (fun i e s=>e 1=.sl false (env.map kX)/\e 2=i6 n/\e 12=.sl false (env.map kX)/\e 13=i6 env.length/\e 14=i6 i/\i<=env.length/\Hd (∀j (hj:j<i) (h:j<env.length),aT env[j]=true)) (fun i=>env.length-i) ?_ 0 _ _ ⟨by simp,by simp,by simp,by simp,by simp,by omega,⟨fun _ h=>by omega⟩⟩;rintro i e s ⟨h1,h2,h12,h13,h14,hi,hA⟩ ih;simp[h1,h2,h12,h13,h14];refine aj (fun h=>?_) (fun h=>?_)<;>(have h':=h;try simp at h')<;>(try simp[*])
 ·have hc:=yg env[i] (he.2 _ (List.getElem_mem h')) QT (fun k=>decide (k<=3)) (fun k _=>DW k);have hkb:(env[i].all fun k=>decide (k<=3))=aT env[i]:=rfl;rw[hkb]at hc
  have hb:=hbad i h';have hg:Hd (aT env[i]=true->∀j (hj:j<i+1) (h:j<env.length),aT env[j]=true):=⟨fun g j hj h=>by
   rcases Nat.lt_or_eq_of_le (Nat.le_of_lt_succ hj)with h2|h2
   ·exact hA.out j h2 h
   ·subst h2;exact g⟩
  clear hkb;generalize aT env[i]=b at hc hb hg;simp[hc,h1,h2,h12,h13,h14];cases b
  ·have hR:=hb rfl;subst hR;simp
  ·simp[h1,h2,h12,h13,h14];refine ih.out (i+1) _ _ ?_ (by omega);exact⟨by simp[h1],by simp[h2],by simp[h12],by simp[h13],by simp[ai h' hl'],h',⟨hg.out rfl⟩⟩
 ·have hR:=hgood (fun j hj=>hA.out j (by omega) hj);subst hR;by_cases c1:400<n
  ·simp[h1,h2,c1]
  ·by_cases c2:400<env.length
   ·have c2':(400:Int)<env.length:=by omega
    simp[h1,h2,c1,c2,c2']
   ·have c2':¬(400:Int)<env.length:=by omega
    simp[h1,h2,c1,c2,c2']
noncomputable def eY(s:List eT)(env:List (List Int))(e:Ex):Int×Int:=
 if wI s env (min e.size 401:Nat)=0 then(if e.formed=true then e.kind (s.map kT) env else(0,80))else(0,wI s env (min e.size 401:Nat))
theorem x_(s:List eT)(hsv:call T zF [jO s]=some (.v (.bool (bP (eP s)))))(hst:∀t∈s,aS t.ah)(env:List (List Int))(hv:tF env)(e:Ex)(he:e.small):call T q2n [jO s,e.enc,.sl false (env.map kX)]=some (.bU [u8 (eY s env e).1,i6 (eY s env e).2]):=by
 refine q2g (by simp) ?_;have hsz:=qZ e he;have hpr:=sJ s hsv env hv (min e.size 401:Nat);have hfo:=EL.1 e he;have hk:wI s env (min e.size 401:Nat)=0->e.formed=true->gY s env e:=fun h hf=>by
  have h400:¬(400<((min e.size 401:Nat):Int)\/400<env.length):=by
   intro q;unfold wI at h;by_cases hc:bP (eP s)=true/\env.all aT=true
   ·rw[if_pos hc,if_pos q]at h;simp at h
   ·rw[if_neg hc]at h;simp at h
  have:=En.1 e;exact(Nr s hst).1 e he hf env (by omega)
 unfold gY at hk;unfold eY;have hee:=e.aB;generalize (min e.size 401:Nat)=m at hsz hpr hk ⊢;generalize wI s env m=P at hpr hk ⊢;generalize e.formed=F at hfo hk ⊢;rw[hee]at hsz hfo hk ⊢
 by_cases p0:P=0
 ·subst p0;cases F
  ·simp[hsz,hpr,hfo]
  ·have hkk:=hk rfl rfl;simp[hsz,hpr,hfo,hkk]
 ·simp[hsz,hpr,p0]
end Go.Proofs.YtbmkfjmlepjpfaaGreatDoor
