/- A part of the proof. -/
import Derived.Test.YtbmkfjmlepjpfaaGreatDoorRq
import Derived.Test.YtbmkfjmlepjpfaaGreatDoorAa
import Derived.Test.YtbmkfjmlepjpfaaGreatDoorNn
import Derived.Test.YtbmkfjmlepjpfaaGreatDoorCq
import Derived.Test.YtbmkfjmlepjpfaaGreatDoorAw
set_option linter.all false
set_option maxRecDepth 100000
namespace Go.Proofs.YtbmkfjmlepjpfaaGreatDoor
open Go.RowKit
noncomputable def eG(ks:List Int)(e:Ex):Bool:=decide ((fT [] [ks] e).2=0)&&((decide ((fT [] [ks] e).1=3)||decide ((fT [] [ks] e).1=0))&&!e.fu)
theorem Hw(ks:List Int)(e:Ex){k err:Int}(h:fT [] [ks] e=(k,err)):eG ks e=(decide (err=0)&&((decide (k=3)||decide (k=0))&&!e.fu)):=by unfold eG;rw[h]
theorem uz:call T Ce [.sl false []]=some (.v (.bool true)):=
 oC.2 ⟨_,(show jG (runN T 100) T Ce [.sl false []]=some (.v (.bool true))by kernel_rfl)⟩
theorem LY:bP (fV [])=true:=Ez.2 ⟨by simp,by simp,fun n h=>by simp at h⟩
theorem Kb(ks:List Int)(hk:aV ks)(e:Ex)(he:e.small):call T q2n [.sl false [],e.enc,.sl false [kX ks]]=some (.cZ [u8 (fT [] [ks] e).1,i6 (fT [] [ks] e).2]):=
 Al [] (by rw[LY];exact uz) (fun t h=>by cases h) [ks] ⟨by show 1<=1099511627776;omega,fun r hr=>by simp at hr;subst hr;exact hk⟩ e he
theorem Pj(hval:call T BN [.sl false []]=some (.v (.bool true)))(ks:List Int)(hk:aV ks)(hn:nn ks)(e:Ex)(he:e.small):call T Jj [.sl false [],e.enc,.sl false [kX ks]]=some (.cZ [u8 (fT [] [ks] e).1,i6 (fT [] [ks] e).2]):=
 EG [] (by have h:bP (fV [])=true:=Ez.2 ⟨by simp,by simp,fun n h=>by simp at h⟩;rw[h];exact hval) (fun _ t h=>by cases h) (fun r h=>by cases h) [ks] ⟨by show 1<=1099511627776;omega,fun r hr=>by simp at hr;subst hr;exact hk⟩ (fun r hr=>by simp at hr;subst hr;exact hn) e he
theorem xq(k:Int):call T QB [u8 k]=some (.v (.bool (decide (3<k)))):=by refine q57g (by simp) ?_;simp
theorem vv(l:List Int)(hl:l.length<=9223372036854775807)(f:Nat)(p:Int->Bool)(hp:∀k∈l,call T f [u8 k]=some (.v (.bool (p k)))) :
 call T Eg [.sl false (l.map u8),.fn f []]=some (i6 (xL p l)):=by
 refine Ut (by simp) ?_;simp;refine av (σ:=Nat) (fun i e s=>e 0=.sl false (l.map u8)/\e 1=.fn f []/\e 7=i6 l.length/\e 8=i6 i/\i<=l.length/\Hd (∀j (hj:j<i) (h:j<l.length),p l[j]=false)) (fun i=>l.length-i) ?_ 0 _ _ ⟨rfl,rfl,rfl,rfl,by omega,⟨fun _ h=>by omega⟩⟩;rintro i e s ⟨h0,h1,h7,h8,hi,hA⟩ ih;simp[h0,h1,h7,h8];refine aj (fun h=>?_) (fun h=>?_)<;>(have h':=h;try simp at h')<;>(try simp[*])
 ·have hc:=hp l[i] (gG h');have hf:Hd (p l[i]=true->xL p l=i):=⟨fun g=>pI h' (fun j hj=>hA.out j hj (by omega)) g⟩
  have hg:Hd (p l[i]=false->∀j (hj:j<i+1) (h:j<l.length),p l[j]=false):=⟨fun g j hj h=>by
   rcases qP (qQ hj)with h2|h2
   ·exact hA.out j h2 h
   ·subst h2;exact g⟩
  generalize p l[i]=b at hc hf hg
  try simp[hc,h0,h1,h7,h8]
  cases b
  ·simp[h0,h1,h7,h8];refine ih.out (i+1) _ _ ?_ (by omega);exact⟨by simp[h0],by simp[h1],by simp[h7],by simp[ai h' hl],h',⟨hg.out rfl⟩⟩
  ·simp[hf.out rfl]
 ·exact(rZ (fun j hj=>hA.out j (by omega) hj)).symm
theorem Au(ks:List Int)(hk:aV ks):call T QA [kX ks]=some (.v (.bool (aX ks))):=by
 refine q56g (by simp) ?_;have hl:ks.length<=9223372036854775807:=iq hk (by decide);have hc:call T tY [.sl false (ks.map u8),.fn QB []]=some (.v (.bool (ks.any fun k=>decide (3<k)))):=by refine Us (by simp) ?_;simp[vv ks hl QB _ (fun k _=>xq k),v_]
 have hb:(!(ks.any fun k=>decide (3<k)))=aX ks:=by unfold aX;rw[Bool.eq_iff_iff];simp[List.any_eq_false,oH]
 rw[<-hb];simp[hc]
set_option maxHeartbeats 1000000 in
theorem uh(ks:List Int)(hk:aV ks)(l:List Ex)(hl:aV l)(hs:∀e∈l,e.small):call T UJ [kX ks,.sl false (l.map Ex.enc)]=some (.v (.bool (l.all (eG ks)))):=by
 refine q45g (by simp) ?_;have hl':l.length<=9223372036854775807:=iq hl (by decide);have hbad:∀i (h:i<l.length),eG ks l[i]=false->l.all (eG ks)=false:=fun i h g=>dz h g;have hgood:(∀i (h:i<l.length),eG ks l[i]=true)->l.all (eG ks)=true:=bH;generalize l.all (eG ks)=R at hbad hgood ⊢;simp;refine av (σ:=Nat) (fun i e s=>e 0=kX ks/\e 9=.sl false (l.map Ex.enc)/\e 10=i6 l.length/\e 11=i6 i/\i<=l.length/\Hd (∀j (hj:j<i) (h:j<l.length),eG ks l[j]=true)) (fun i=>l.length-i) ?_ 0 _ _ ⟨by simp,by simp,by simp,by simp,by omega,⟨fun _ h=>by omega⟩⟩;rintro i e s ⟨e0,e9,e10,e11,hi,hA⟩ ih;simp[e0,e9,e10,e11];refine aj (fun h=>?_) (fun h=>?_)<;>(have h':=h;try simp at h')<;>(try simp[*])
 ·have hc:=Kb ks hk l[i] (hs _ (gG h'));have hsb:=zb l[i] (hs _ (gG h'));have hb:=hbad i h';have hg:Hd (eG ks l[i]=true->∀j (hj:j<i+1) (h:j<l.length),eG ks l[j]=true):=⟨fun g j hj h=>by
   rcases qP (qQ hj)with h2|h2
   ·exact hA.out j h2 h
   ·subst h2;exact g⟩
  have hcb:=fun k err=>@Hw ks l[i] k err;have hke:=l[i].ay;generalize eG ks l[i]=b at hb hg hcb;generalize fT [] [ks] l[i]=K at hc hcb;obtain⟨k,err⟩:=K;replace hcb:=hcb k err rfl;generalize l[i].fu=sb at hsb hcb;simp only at hc;rw[hke]at hc hsb
  simp only[hke];by_cases er:err=0
  ·subst er;by_cases k3:k=3\/k=0
   ·cases sb
    ·have hbt:b=true:=by rw[hcb];rcases k3 with rfl|rfl<;>rfl
     replace hg:=Hd.mk (hg.out hbt);rcases k3 with rfl|rfl
     ·simp[hc,hsb,e0,e9,e10,e11];refine ih.out (i+1) _ _ ?_ (by omega);exact⟨by simp[e0],by simp[e9],by simp[e10],by simp[ai h' hl'],h',⟨hg.out⟩⟩
     ·simp[hc,hsb,e0,e9,e10,e11];refine ih.out (i+1) _ _ ?_ (by omega);exact⟨by simp[e0],by simp[e9],by simp[e10],by simp[ai h' hl'],h',⟨hg.out⟩⟩
    ·have hbt:b=false:=by rw[hcb];simp
     have hR:=hb hbt;subst hR;rcases k3 with rfl|rfl
     ·simp[hc,hsb,e0,e9,e10,e11]
     ·simp[hc,hsb,e0,e9,e10,e11]
   ·have hbt:b=false:=by rw[hcb];simp;omega
    have hR:=hb hbt;subst hR;have k3':¬k=3:=fun h=>k3 (.inl h);have k0':¬k=0:=fun h=>k3 (.inr h);simp[hc,hsb,e0,e9,e10,e11,k3',k0']
  ·have hbt:b=false:=by rw[hcb];simp[er]
   have hR:=hb hbt;subst hR;simp[hc,hsb,e0,e9,e10,e11,er]
 ·have hR:=hgood (fun j hj=>hA.out j (by omega) hj);subst hR;simp
set_option maxHeartbeats 1000000 in
theorem uw(hval:call T BN [.sl false []]=some (.v (.bool true)))(ks:List Int)(hk:aV ks)(hn:nn ks)(l:List Ex)(hl:aV l)(hs:∀e∈l,e.small):call T Oa [kX ks,.sl false (l.map Ex.enc)]=some (.v (.bool (l.all (eG ks)))):=by
 refine q167g (by simp) ?_;have hl':l.length<=9223372036854775807:=iq hl (by decide);have hbad:∀i (h:i<l.length),eG ks l[i]=false->l.all (eG ks)=false:=fun i h g=>dz h g;have hgood:(∀i (h:i<l.length),eG ks l[i]=true)->l.all (eG ks)=true:=bH;generalize l.all (eG ks)=R at hbad hgood ⊢;simp;refine av (σ:=Nat) (fun i e s=>e 0=kX ks/\e 1=.sl false (l.map Ex.enc)/\e 5=i6 i/\i<=l.length/\Hd (∀j (hj:j<i) (h:j<l.length),eG ks l[j]=true)) (fun i=>l.length-i) ?_ 0 _ _ ⟨by simp,by simp,by simp,by omega,⟨fun _ h=>by omega⟩⟩;rintro i e s ⟨e0,e1,e5,hi,hA⟩ ih;simp[e0,e1,e5];refine aj (fun h=>?_) (fun h=>?_)<;>(have h':=h;try simp at h')<;>(try simp[*])
 ·have hc:=Pj hval ks hk hn l[i] (hs _ (gG h'));have hsb:=qf l[i] (hs _ (gG h'));have hb:=hbad i h';have hg:Hd (eG ks l[i]=true->∀j (hj:j<i+1) (h:j<l.length),eG ks l[j]=true):=⟨fun g j hj h=>by
   rcases qP (qQ hj)with h2|h2
   ·exact hA.out j h2 h
   ·subst h2;exact g⟩
  have hcb:=fun k err=>@Hw ks l[i] k err;have hke:=l[i].ay;generalize eG ks l[i]=b at hb hg hcb;generalize fT [] [ks] l[i]=K at hc hcb;obtain⟨k,err⟩:=K;replace hcb:=hcb k err rfl;generalize l[i].fu=sb at hsb hcb;simp only at hc;rw[hke]at hc hsb
  simp only[hke];by_cases er:err=0
  ·subst er;by_cases k3:k=3\/k=0
   ·cases sb
    ·have hbt:b=true:=by rw[hcb];rcases k3 with rfl|rfl<;>rfl
     replace hg:=Hd.mk (hg.out hbt);rcases k3 with rfl|rfl
     ·simp[hc,hsb,e0,e1,e5,h',hke];refine ih.out (i+1) _ _ ?_ (by omega);exact⟨by simp[e0],by simp[e1],by simp[ai h' hl'],h',⟨hg.out⟩⟩
     ·simp[hc,hsb,e0,e1,e5,h',hke];refine ih.out (i+1) _ _ ?_ (by omega);exact⟨by simp[e0],by simp[e1],by simp[ai h' hl'],h',⟨hg.out⟩⟩
    ·have hbt:b=false:=by rw[hcb];simp
     have hR:=hb hbt;subst hR;rcases k3 with rfl|rfl
     ·simp[hc,hsb,e0,e1,e5,h',hke]
     ·simp[hc,hsb,e0,e1,e5,h',hke]
   ·have hbt:b=false:=by rw[hcb];simp;omega
    have hR:=hb hbt;subst hR;have k3':¬k=3:=fun h=>k3 (.inl h);have k0':¬k=0:=fun h=>k3 (.inr h);simp[hc,hsb,e0,e1,e5,h',hke,k3',k0']
  ·have hbt:b=false:=by rw[hcb];simp[er]
   have hR:=hb hbt;subst hR;simp[hc,hsb,e0,e1,e5,h',hke,er]
 ·have hR:=hgood (fun j hj=>hA.out j (by omega) hj);subst hR;simp
theorem O9{op:Int}{n:Nat}(h:19<=op/\op<=22)(ha:bY op n=true):1<=n:=by
 by_cases h19:op=19
 ·subst h19;simp[bY]at ha;omega
 ·unfold bY at ha;rw[if_pos (by omega)]at ha
  simp at ha;omega
theorem O8{n:Nat}(ha:bY 21 n=true):n=1:=by simpa[bY]using ha
theorem Pb{op:Int}{n:Nat}(h:12<=op/\op<=17)(ha:bY op n=true):n=2:=by
 unfold bY at ha;rw[if_neg (by omega),if_pos (by omega)]at ha
 simpa using ha
theorem Wv(ks:List Int)(e:Ex)(hs:e.small)(hf:e.formed=true)(hk:(e.kind [] [ks]).2=0)(hb:e.fu=false):e.good ks.length:=by
 revert hs hf hk hb;refine Ex.induct (p:=fun e=>e.small->e.formed=true->(e.kind [] [ks]).2=0->e.fu=false->e.good ks.length) (fun e ih hs hf hk hb=>?_) e;have hs':=Ex.dH hs;have hf':=jI hf;rw[Ex.xK]at hb
 simp only[Bool.or_eq_false_iff,List.any_eq_false]at hb;rw[Ex.zL]at hk
 have hkid:∀k∈e.kids,(k.kind [] [ks]).2=0:=by
  split at hk
  ·rename_i h;have hz:∀(l:List Ex),(aF (Ex.kind [] [ks]) l).2=0->∀k∈l,(k.kind [] [ks]).2=0:=by
    intro l;induction l with
    | nil=>intro _ k hk;cases hk
    | cons a l ih=>
     intro h k hk;unfold aF at h;split at h
     ·rename_i g;split at h
      ·rename_i g2;rcases List.mem_cons.1 hk with rfl|hk
       ·exact g
       ·exact ih g2 k hk
      ·rename_i g2;exact absurd h g2
     ·rename_i g;exact absurd h g
   exact hz _ h
  ·rename_i h;exact absurd hk h
 have hall:(aF (Ex.kind [] [ks]) e.kids)=(e.kids.map fun k=>(Ex.kind [] [ks] k).1,0):=DW hkid;rw[hall,if_pos rfl]at hk
 rw[Ex.fJ];have har:¬e.op=0->¬e.op=2->¬fD e.op=true->bY e.op e.kids.length=true:=fun h0 h2 h3=>by
  rw[if_neg h0,if_neg h2,if_neg h3]at hk
  unfold je at hk;split at hk
  ·rename_i h;simpa using h.1
  ·simp[ET]at hk
 refine⟨fun h2=>?_,fun h=>?_,fun h=>?_,fun h=>Pb h (har (by omega) (by omega) (by intro q;simp[fD]at q;omega)),hs'.vi,hs'.kids,fun k hkm=>ih k hkm (hs'.kid k hkm) (hf'.2.1 k hkm) (hkid k hkm) (by simpa using hb.2 k hkm)⟩
 ·have hc:=BD hf h2;rw[if_neg (by omega),if_pos h2]at hk
  unfold EK at hk;split at hk
  ·rename_i h;have hu:e.up=0:=by have:=h.1;simp at this;omega
   refine⟨hu,hc.2,?_⟩;have:=h.2;rw[hu]at this
   simpa using this
  ·simp at hk
 ·exact O9 h (har (by omega) (by omega) (by intro q;simp[fD]at q;omega))
 ·have:=har (by omega) (by omega) (by intro q;simp[fD]at q;omega);rw[h]at this
  exact O8 this
theorem Kr{ks:List Int}{e:Ex}(hs:e.small)(h:eG ks e=true):e.good ks.length:=by
 simp only[eG,bN,decide_eq_true_eq,Bool.not_eq_true']at h;obtain⟨h1,_,h3⟩:=h;unfold fT at h1;split at h1
 ·split at h1
  ·rename_i hf;exact Wv ks e hs hf h1 h3
  ·simp at h1
 ·rename_i hp;exact absurd h1 hp
theorem vH:call T BN [.sl false []]=some (.v (.bool true)):=by refine q115g (by simp) ?_;simp;rw[gD];simp
theorem ED(ks:List Int)(hk:aV ks)(t:TS)(hl:t.ah.length<=3518437208883)(hi:∀c∈t.ah,mE c)(l:List Ex)(hll:aV l)(hs:∀e∈l,e.small) :
 call T UL [kX ks,t.enc false,.sl false (l.map Ex.enc)]=some (if aX ks=true/\l.all (eG ks)=true then .cZ [.agg [kX ks,i6 (nY ks t).low,i6 (nY ks t).rows,.sl true ((nY ks t).ah.map aK.enc)],i6 (fq ks [t])]else .cZ [.agg [.sl true [],i6 0,i6 0,.sl true []],i6 1]):=by
 refine q61g (by simp) ?_;have h1:=Au ks hk;have h2:=uh ks hk l hll hs;have h3:=AP ks t hl (iq hk (by decide)) hi;generalize aX ks=b1 at h1 ⊢;generalize l.all (eG ks)=b2 at h2 ⊢;generalize nY ks t=N at h3 ⊢;generalize fq ks [t]=E at h3 ⊢;cases b1
 ·simp[h1]
 ·cases b2
  ·simp[h1,h2]
  ·simp[h1,h2,h3]
set_option maxHeartbeats 1000000 in
theorem C8(ks:List Int)(hk:aV ks)(hn:nn ks)(t:TS)(l:List Ex)(hll:aV l)(hs:∀e∈l,e.small) :
 call T Od [kX ks,t.enc false,.sl false (l.map Ex.enc)]=some (i6 (if aX ks=true/\l.all (eG ks)=true then(if fC ks t=true then 0 else 190)else 1)):=by
 refine q169g (by simp) ?_;have hkl:ks.length<=9223372036854775807:=iq hk (by decide);have h1:=lq ks hkl;have h2:=uw vH ks hk hn l hll hs;have h3:=sS ks t hkl;generalize aX ks=b1 at h1 ⊢;generalize l.all (eG ks)=b2 at h2 ⊢;generalize fC ks t=b3 at h3 ⊢;cases b1
 ·simp[h1]
 ·cases b2
  ·simp[h1,h2]
  ·cases b3
   ·simp[h1,h2,h3]
   ·simp[h1,h2,h3]
end Go.Proofs.YtbmkfjmlepjpfaaGreatDoor
