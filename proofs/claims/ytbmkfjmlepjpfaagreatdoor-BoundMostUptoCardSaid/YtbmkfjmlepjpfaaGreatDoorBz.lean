/- A part of the proof. -/
import Derived.Test.YtbmkfjmlepjpfaaGreatDoorRq
import Derived.Test.YtbmkfjmlepjpfaaGreatDoorAa
import Derived.Test.YtbmkfjmlepjpfaaGreatDoorNn
import Derived.Test.YtbmkfjmlepjpfaaGreatDoorCq
import Derived.Test.YtbmkfjmlepjpfaaGreatDoorAw
set_option linter.all false
set_option maxRecDepth 100000
namespace Go.Proofs.YtbmkfjmlepjpfaaGreatDoor
open Go.RowKit
noncomputable def d_(ks:List Int)(e:Ex):Bool:=decide ((eY [] [ks] e).2=0)&&((decide ((eY [] [ks] e).1=3)||decide ((eY [] [ks] e).1=0))&&!e.dX)
theorem Ef(ks:List Int)(e:Ex){k err:Int}(h:eY [] [ks] e=(k,err)):d_ ks e=(decide (err=0)&&((decide (k=3)||decide (k=0))&&!e.dX)):=by unfold d_;rw[h]
theorem rG:call T zF [.sl false []]=some (.v (.bool true)):=
 mM.2 ⟨_,(show iW (runN T 100) T zF [.sl false []]=some (.v (.bool true))by kernel_rfl)⟩
theorem IQ:bP (eP [])=true:=Ca.2 ⟨by simp,by simp,fun n h=>by simp at h⟩
theorem Gn(ks:List Int)(hk:aS ks)(e:Ex)(he:e.small):call T q2n [.sl false [],e.enc,.sl false [kX ks]]=some (.bU [u8 (eY [] [ks] e).1,i6 (eY [] [ks] e).2]):=
 x_ [] (by rw[IQ];exact rG) (fun t h=>by cases h) [ks] ⟨by show 1<=1099511627776;omega,fun r hr=>by simp at hr;subst hr;exact hk⟩ e he
theorem LQ(hval:call T zq [.sl false []]=some (.v (.bool true)))(ks:List Int)(hk:aS ks)(hn:nn ks)(e:Ex)(he:e.small):call T Fw [.sl false [],e.enc,.sl false [kX ks]]=some (.bU [u8 (eY [] [ks] e).1,i6 (eY [] [ks] e).2]):=
 Cj [] (by have h:bP (eP [])=true:=Ca.2 ⟨by simp,by simp,fun n h=>by simp at h⟩;rw[h];exact hval) (fun _ t h=>by cases h) (fun r h=>by cases h) [ks] ⟨by show 1<=1099511627776;omega,fun r hr=>by simp at hr;subst hr;exact hk⟩ (fun r hr=>by simp at hr;subst hr;exact hn) e he
theorem uX(k:Int):call T M9 [u8 k]=some (.v (.bool (decide (3<k)))):=by refine q57g (by simp) ?_;simp
theorem sH(l:List Int)(hl:l.length<=9223372036854775807)(f:Nat)(p:Int->Bool)(hp:∀k∈l,call T f [u8 k]=some (.v (.bool (p k)))) :
 call T BI [.sl false (l.map u8),.fn f []]=some (i6 (vD p l)):=by
 refine QD (by simp) ?_;simp;refine av (σ:=Nat) (fun i e s=>e 0=.sl false (l.map u8)/\e 1=.fn f []/\e 7=i6 l.length/\e 8=i6 i/\i<=l.length/\Hd (∀j (hj:j<i) (h:j<l.length),p l[j]=false)) (fun i=>l.length-i) ?_ 0 _ _ ⟨rfl,rfl,rfl,rfl,by omega,⟨fun _ h=>by omega⟩⟩;rintro i e s ⟨h0,h1,h7,h8,hi,hA⟩ ih;simp[h0,h1,h7,h8];refine aj (fun h=>?_) (fun h=>?_)<;>(have h':=h;try simp at h')<;>(try simp[*])
 ·have hc:=hp l[i] (List.getElem_mem h');have hf:Hd (p l[i]=true->vD p l=i):=⟨fun g=>nJ h' (fun j hj=>hA.out j hj (by omega)) g⟩
  have hg:Hd (p l[i]=false->∀j (hj:j<i+1) (h:j<l.length),p l[j]=false):=⟨fun g j hj h=>by
   rcases Nat.lt_or_eq_of_le (Nat.le_of_lt_succ hj)with h2|h2
   ·exact hA.out j h2 h
   ·subst h2;exact g⟩
  generalize p l[i]=b at hc hf hg
  try simp[hc,h0,h1,h7,h8]
  cases b
  ·simp[h0,h1,h7,h8];refine ih.out (i+1) _ _ ?_ (by omega);exact⟨by simp[h0],by simp[h1],by simp[h7],by simp[ai h' hl],h',⟨hg.out rfl⟩⟩
  ·simp[hf.out rfl]
 ·exact(qj (fun j hj=>hA.out j (by omega) hj)).symm
theorem yu(ks:List Int)(hk:aS ks):call T M8 [kX ks]=some (.v (.bool (aT ks))):=by
 refine q56g (by simp) ?_;have hl:ks.length<=9223372036854775807:=gJ hk (by decide);have hc:call T qX [.sl false (ks.map u8),.fn M9 []]=some (.v (.bool (ks.any fun k=>decide (3<k)))):=by refine QC (by simp) ?_;simp[sH ks hl M9 _ (fun k _=>uX k),tQ]
 have hb:(!(ks.any fun k=>decide (3<k)))=aT ks:=by unfold aT;rw[Bool.eq_iff_iff];simp[List.any_eq_false,nk]
 rw[<-hb];simp[hc]
set_option maxHeartbeats 1000000 in
theorem q9(ks:List Int)(hk:aS ks)(l:List Ex)(hl:aS l)(hs:∀e∈l,e.small):call T QX [kX ks,.sl false (l.map Ex.enc)]=some (.v (.bool (l.all (d_ ks)))):=by
 refine q45g (by simp) ?_;have hl':l.length<=9223372036854775807:=gJ hl (by decide);have hbad:∀i (h:i<l.length),d_ ks l[i]=false->l.all (d_ ks)=false:=fun i h g=>bT h g;have hgood:(∀i (h:i<l.length),d_ ks l[i]=true)->l.all (d_ ks)=true:=bg;generalize l.all (d_ ks)=R at hbad hgood ⊢;simp;refine av (σ:=Nat) (fun i e s=>e 0=kX ks/\e 9=.sl false (l.map Ex.enc)/\e 10=i6 l.length/\e 11=i6 i/\i<=l.length/\Hd (∀j (hj:j<i) (h:j<l.length),d_ ks l[j]=true)) (fun i=>l.length-i) ?_ 0 _ _ ⟨by simp,by simp,by simp,by simp,by omega,⟨fun _ h=>by omega⟩⟩;rintro i e s ⟨e0,e9,e10,e11,hi,hA⟩ ih;simp[e0,e9,e10,e11];refine aj (fun h=>?_) (fun h=>?_)<;>(have h':=h;try simp at h')<;>(try simp[*])
 ·have hc:=Gn ks hk l[i] (hs _ (List.getElem_mem h'));have hsb:=wZ l[i] (hs _ (List.getElem_mem h'));have hb:=hbad i h';have hg:Hd (d_ ks l[i]=true->∀j (hj:j<i+1) (h:j<l.length),d_ ks l[j]=true):=⟨fun g j hj h=>by
   rcases Nat.lt_or_eq_of_le (Nat.le_of_lt_succ hj)with h2|h2
   ·exact hA.out j h2 h
   ·subst h2;exact g⟩
  have hcb:=fun k err=>@Ef ks l[i] k err;have hke:=l[i].aB;generalize d_ ks l[i]=b at hb hg hcb;generalize eY [] [ks] l[i]=K at hc hcb;obtain⟨k,err⟩:=K;replace hcb:=hcb k err rfl;generalize l[i].dX=sb at hsb hcb;simp only at hc;rw[hke]at hc hsb
  simp only[hke];by_cases er:err=0
  ·subst er;by_cases k3:k=3\/k=0
   ·cases sb
    ·have hbt:b=true:=by rw[hcb];rcases k3 with rfl|rfl<;>rfl
     replace hg:=Hd.mk (hg.out hbt);rcases k3 with rfl|rfl
     ·simp[hc,hsb,e0,e9,e10,e11];refine ih.out (i+1) _ _ ?_ (by omega);exact⟨by simp[e0],by simp[e9],by simp[e10],by simp[ai h' hl'],h',⟨hg.out⟩⟩
     ·simp[hc,hsb,e0,e9,e10,e11];refine ih.out (i+1) _ _ ?_ (by omega);exact⟨by simp[e0],by simp[e9],by simp[e10],by simp[ai h' hl'],h',⟨hg.out⟩⟩
    ·have hbt:b=false:=by rw[hcb];simp
     have hR:=hb hbt;subst hR;rcases k3 with rfl|rfl
     ·simp[hc,hsb,e0,e9,e10,e11]
     ·simp[hc,hsb,e0,e9,e10,e11]
   ·have hbt:b=false:=by rw[hcb];simp;omega
    have hR:=hb hbt;subst hR;have k3':¬k=3:=fun h=>k3 (.inl h);have k0':¬k=0:=fun h=>k3 (.inr h);simp[hc,hsb,e0,e9,e10,e11,k3',k0']
  ·have hbt:b=false:=by rw[hcb];simp[er]
   have hR:=hb hbt;subst hR;simp[hc,hsb,e0,e9,e10,e11,er]
 ·have hR:=hgood (fun j hj=>hA.out j (by omega) hj);subst hR;simp
set_option maxHeartbeats 1000000 in
theorem rE(hval:call T zq [.sl false []]=some (.v (.bool true)))(ks:List Int)(hk:aS ks)(hn:nn ks)(l:List Ex)(hl:aS l)(hs:∀e∈l,e.small):call T KI [kX ks,.sl false (l.map Ex.enc)]=some (.v (.bool (l.all (d_ ks)))):=by
 refine q165g (by simp) ?_;have hl':l.length<=9223372036854775807:=gJ hl (by decide);have hbad:∀i (h:i<l.length),d_ ks l[i]=false->l.all (d_ ks)=false:=fun i h g=>bT h g;have hgood:(∀i (h:i<l.length),d_ ks l[i]=true)->l.all (d_ ks)=true:=bg;generalize l.all (d_ ks)=R at hbad hgood ⊢;simp;refine av (σ:=Nat) (fun i e s=>e 0=kX ks/\e 1=.sl false (l.map Ex.enc)/\e 5=i6 i/\i<=l.length/\Hd (∀j (hj:j<i) (h:j<l.length),d_ ks l[j]=true)) (fun i=>l.length-i) ?_ 0 _ _ ⟨by simp,by simp,by simp,by omega,⟨fun _ h=>by omega⟩⟩;rintro i e s ⟨e0,e1,e5,hi,hA⟩ ih;simp[e0,e1,e5];refine aj (fun h=>?_) (fun h=>?_)<;>(have h':=h;try simp at h')<;>(try simp[*])
 ·have hc:=LQ hval ks hk hn l[i] (hs _ (List.getElem_mem h'));have hsb:=oC l[i] (hs _ (List.getElem_mem h'));have hb:=hbad i h';have hg:Hd (d_ ks l[i]=true->∀j (hj:j<i+1) (h:j<l.length),d_ ks l[j]=true):=⟨fun g j hj h=>by
   rcases Nat.lt_or_eq_of_le (Nat.le_of_lt_succ hj)with h2|h2
   ·exact hA.out j h2 h
   ·subst h2;exact g⟩
  have hcb:=fun k err=>@Ef ks l[i] k err;have hke:=l[i].aB;generalize d_ ks l[i]=b at hb hg hcb;generalize eY [] [ks] l[i]=K at hc hcb;obtain⟨k,err⟩:=K;replace hcb:=hcb k err rfl;generalize l[i].dX=sb at hsb hcb;simp only at hc;rw[hke]at hc hsb
  simp only[hke];by_cases er:err=0
  ·subst er;by_cases k3:k=3\/k=0
   ·cases sb
    ·have hbt:b=true:=by rw[hcb];rcases k3 with rfl|rfl<;>rfl
     replace hg:=Hd.mk (hg.out hbt);rcases k3 with rfl|rfl
     ·simp[hc,hsb,e0,e1,e5,h',hke];refine ih.out (i+1) _ _ ?_ (by omega);exact⟨by simp[e0],by simp[e1],by simp[ai h' hl'],h',⟨hg.out⟩⟩
     ·simp[hc,hsb,e0,e1,e5,h',hke];refine ih.out (i+1) _ _ ?_ (by omega);exact⟨by simp[e0],by simp[e1],by simp[ai h' hl'],h',⟨hg.out⟩⟩
    ·have hbt:b=false:=by rw[hcb];simp
     have hR:=hb hbt;subst hR;rcases k3 with rfl|rfl
     ·simp[hc,hsb,e0,e1,e5,h',hke]
     ·simp[hc,hsb,e0,e1,e5,h',hke]
   ·have hbt:b=false:=by rw[hcb];simp;omega
    have hR:=hb hbt;subst hR;have k3':¬k=3:=fun h=>k3 (.inl h);have k0':¬k=0:=fun h=>k3 (.inr h);simp[hc,hsb,e0,e1,e5,h',hke,k3',k0']
  ·have hbt:b=false:=by rw[hcb];simp[er]
   have hR:=hb hbt;subst hR;simp[hc,hsb,e0,e1,e5,h',hke,er]
 ·have hR:=hgood (fun j hj=>hA.out j (by omega) hj);subst hR;simp
theorem LA{op:Int}{n:Nat}(h:19<=op/\op<=22)(ha:bI op n=true):1<=n:=by
 by_cases h19:op=19
 ·subst h19;simp[bI]at ha;omega
 ·unfold bI at ha;rw[if_pos (by omega)]at ha
  simp at ha;omega
theorem Lx{n:Nat}(ha:bI 21 n=true):n=1:=by simpa[bI]using ha
theorem LC{op:Int}{n:Nat}(h:12<=op/\op<=17)(ha:bI op n=true):n=2:=by
 unfold bI at ha;rw[if_neg (by omega),if_pos (by omega)]at ha
 simpa using ha
theorem SQ(ks:List Int)(e:Ex)(hs:e.small)(hf:e.formed=true)(hk:(e.kind [] [ks]).2=0)(hb:e.dX=false):e.good ks.length:=by
 revert hs hf hk hb;refine Ex.induct (p:=fun e=>e.small->e.formed=true->(e.kind [] [ks]).2=0->e.dX=false->e.good ks.length) (fun e ih hs hf hk hb=>?_) e;have hs':=Ex.cK hs;have hf':=iZ hf;rw[Ex.vC]at hb
 simp only[Bool.or_eq_false_iff,List.any_eq_false]at hb;rw[Ex.xN]at hk
 have hkid:∀k∈e.kids,(k.kind [] [ks]).2=0:=by
  split at hk
  ·rename_i h;have hz:∀(l:List Ex),(aF (Ex.kind [] [ks]) l).2=0->∀k∈l,(k.kind [] [ks]).2=0:=by
    intro l;induction l with
    | nil=>intro _ k hk;cases hk
    | cons a l ih=>
     intro h k hk;unfold aF at h;split at h
     ·rename_i g;split at h
      ·rename_i g2;rcases List.mem_cons.1 hk with rfl|hk
       ·exact g
       ·exact ih g2 k hk
      ·rename_i g2;exact absurd h g2
     ·rename_i g;exact absurd h g
   exact hz _ h
  ·rename_i h;exact absurd hk h
 have hall:(aF (Ex.kind [] [ks]) e.kids)=(e.kids.map fun k=>(Ex.kind [] [ks] k).1,0):=Bl hkid;rw[hall,if_pos rfl]at hk
 rw[Ex.jl];have har:¬e.op=0->¬e.op=2->¬dZ e.op=true->bI e.op e.kids.length=true:=fun h0 h2 h3=>by
  rw[if_neg h0,if_neg h2,if_neg h3]at hk
  unfold iD at hk;split at hk
  ·rename_i h;simpa using h.1
  ·simp[CF]at hk
 refine⟨fun h2=>?_,fun h=>?_,fun h=>?_,fun h=>LC h (har (by omega) (by omega) (by intro q;simp[dZ]at q;omega)),hs'.vi,hs'.kids,fun k hkm=>ih k hkm (hs'.kid k hkm) (hf'.2.1 k hkm) (hkid k hkm) (by simpa using hb.2 k hkm)⟩
 ·have hc:=zi hf h2;rw[if_neg (by omega),if_pos h2]at hk
  unfold Cs at hk;split at hk
  ·rename_i h;have hu:e.up=0:=by have:=h.1;simp at this;omega
   refine⟨hu,hc.2,?_⟩;have:=h.2;rw[hu]at this
   simpa using this
  ·simp at hk
 ·exact LA h (har (by omega) (by omega) (by intro q;simp[dZ]at q;omega))
 ·have:=har (by omega) (by omega) (by intro q;simp[dZ]at q;omega);rw[h]at this
  exact Lx this
theorem yM{ks:List Int}{e:Ex}(hs:e.small)(h:d_ ks e=true):e.good ks.length:=by
 simp only[d_,bE,decide_eq_true_eq,Bool.not_eq_true']at h;obtain⟨h1,_,h3⟩:=h;unfold eY at h1;split at h1
 ·split at h1
  ·rename_i hf;exact SQ ks e hs hf h1 h3
  ·simp at h1
 ·rename_i hp;exact absurd h1 hp
theorem sQ:call T zq [.sl false []]=some (.v (.bool true)):=by refine q115g (by simp) ?_;simp;rw[fw];simp
noncomputable def nN(ks:List Int)(t:TS)(e:Ex):Int×Int:=if aT ks=true/\d_ ks e=true then(if fV ks t=true then(e.most ks (fZ ks t),0)else(0,190))else(0,1)
theorem NR{ks:List Int}{t:TS}(h:wF ks t):TOk ks (fZ ks t):=by have g:=(Ph h).ok;refine⟨g.len.symm,fun j hj=>?_,g.rows⟩;have:=g.ah _ (List.getElem_mem hj);exact this.2.2.2
theorem Cg(ks:List Int)(hk:aS ks)(t:TS)(hl:t.ah.length<=3518437208883)(hi:∀c∈t.ah,qK c)(l:List Ex)(hll:aS l)(hs:∀e∈l,e.small) :
 call T QY [kX ks,t.enc false,.sl false (l.map Ex.enc)]=some (if aT ks=true/\l.all (d_ ks)=true then .bU [.agg [kX ks,i6 (ug ks t).low,i6 (ug ks t).rows,.sl true ((ug ks t).ah.map dh.enc)],i6 (fM ks [t])]else .bU [.agg [.sl true [],i6 0,i6 0,.sl true []],i6 1]):=by
 refine q61g (by simp) ?_;have h1:=yu ks hk;have h2:=q9 ks hk l hll hs;have h3:=yE ks t hl (gJ hk (by decide)) hi;generalize aT ks=b1 at h1 ⊢;generalize l.all (d_ ks)=b2 at h2 ⊢;generalize ug ks t=N at h3 ⊢;generalize fM ks [t]=E at h3 ⊢;cases b1
 ·simp[h1]
 ·cases b2
  ·simp[h1,h2]
  ·simp[h1,h2,h3]
set_option maxHeartbeats 1000000 in
theorem Ce(ks:List Int)(hk:aS ks)(t:TS)(hl:t.ah.length<=3518437208883)(hi:∀c∈t.ah,qK c)(e:Ex)(he:e.small) :
 call T M5 [kX ks,t.enc false,e.enc]=some (.bU [i6 (nN ks t e).1,i6 (nN ks t e).2]):=by
 refine q39g (by simp) ?_;have hee:=e.aB;have hr:=Cg ks hk t hl hi [e] (by show 1<=1099511627776;omega) (fun x hx=>by simp at hx;subst hx;exact he);simp only[List.map_cons,List.map_nil,List.all_cons,List.all_nil,Bool.and_true]at hr;unfold nN;by_cases hc:aT ks=true/\d_ ks e=true
 ·rw[if_pos hc]at hr ⊢
  by_cases hf:fV ks t=true
  ·rw[if_pos hf];have hok:=Hl hf hi;have hE:fM ks [t]=0:=by simp[fM,hc.1,hf]
   have hN:ug ks t=fZ ks t:=by unfold ug;rw[if_pos hE]
   rw[hE,hN]at hr
   have hto:=NR hok;have hm:=Cf ks (fZ ks t) hto e (by rw[hto.len];exact yM he hc.2);generalize fZ ks t=N at hr hm ⊢;generalize Ex.most ks N e=M at hm ⊢;unfold aH at hm;rw[hee]at hr hm ⊢
   simp[hr,hm]
  ·rw[if_neg hf];have hE:fM ks [t]=190:=by simp[fM,hc.1,hf]
   rw[hE]at hr
   generalize ug ks t=N at hr;rw[hee]at hr ⊢
   simp[hr]
 ·rw[if_neg hc]at hr ⊢
  rw[hee]at hr ⊢
  simp[hr]
set_option maxHeartbeats 1000000 in
theorem Aq(ks:List Int)(hk:aS ks)(hn:nn ks)(t:TS)(l:List Ex)(hll:aS l)(hs:∀e∈l,e.small) :
 call T KJ [kX ks,t.enc false,.sl false (l.map Ex.enc)]=some (i6 (if aT ks=true/\l.all (d_ ks)=true then(if fV ks t=true then 0 else 190)else 1)):=by
 refine q166g (by simp) ?_;have hkl:ks.length<=9223372036854775807:=gJ hk (by decide);have h1:=jZ ks hkl;have h2:=rE sQ ks hk hn l hll hs;have h3:=qF ks t hkl;generalize aT ks=b1 at h1 ⊢;generalize l.all (d_ ks)=b2 at h2 ⊢;generalize fV ks t=b3 at h3 ⊢;cases b1
 ·simp[h1]
 ·cases b2
  ·simp[h1,h2]
  ·cases b3
   ·simp[h1,h2,h3]
   ·simp[h1,h2,h3]
set_option maxHeartbeats 1000000 in
theorem Cm(ks:List Int)(hk:aS ks)(hn:nn ks)(t:TS)(hl:t.ah.length<=3518437208883)(hi:∀c∈t.ah,qK c)(e:Ex)(he:e.small) :
 call T KG [kX ks,t.enc false,e.enc]=some (.bU [i6 (nN ks t e).1,i6 (nN ks t e).2]):=by
 refine q161g (by simp) ?_;have hee:=e.aB;have hr:=Aq ks hk hn t [e] (by show 1<=1099511627776;omega) (fun x hx=>by simp at hx;subst hx;exact he);simp only[List.map_cons,List.map_nil,List.all_cons,List.all_nil,Bool.and_true]at hr;unfold nN;by_cases hc:aT ks=true/\d_ ks e=true
 ·rw[if_pos hc]at hr ⊢
  by_cases hf:fV ks t=true
  ·rw[if_pos hf]at hr ⊢
   have hok:=Hl hf hi;have hnm:=lK ks t hl hok;have hto:=NR hok;have hm:=qH ks (fZ ks t) hto e (by rw[hto.len];exact yM he hc.2);generalize fZ ks t=N at hnm hm ⊢;generalize Ex.most ks N e=M at hm ⊢;rw[hee]at hr hm ⊢
   simp[hr,hnm,hm]
  ·rw[if_neg hf]at hr ⊢
   rw[hee]at hr ⊢
   simp[hr]
 ·rw[if_neg hc]at hr ⊢
  rw[hee]at hr ⊢
  simp[hr]
set_option maxHeartbeats 1000000 in
theorem DN(ks:List Int)(hk:aS ks)(hn:nn ks)(t:TS)(hl:t.ah.length<=3518437208883)(hi:∀c∈t.ah,qK c)(e:Ex)(he:e.small) :
 call T YL [kX ks,t.enc false,e.enc]=some (.v (.bool true)):=by
 refine q92g (by simp) ?_;have hee:=e.aB;have h1:=ow t hl;have h2:=Cm ks hk hn t hl hi e he;have h3:=Ce ks hk t hl hi e he;have h6:=qD t t (by omega);have h7:=Sn;rw[TS.vO]at h6
 generalize nN ks t e=M at h2 h3;rw[hee]at h2 h3 ⊢
 simp[h1,h2,h3,h6,h7]
end Go.Proofs.YtbmkfjmlepjpfaaGreatDoor
