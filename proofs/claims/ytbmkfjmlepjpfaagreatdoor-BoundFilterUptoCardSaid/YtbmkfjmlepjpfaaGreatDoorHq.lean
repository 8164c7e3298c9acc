/- A part of the proof. -/
import Derived.Test.YtbmkfjmlepjpfaaGreatDoorCq
import Derived.Test.YtbmkfjmlepjpfaaGreatDoorNn
set_option linter.all false
set_option maxRecDepth 100000
namespace Go.Proofs.YtbmkfjmlepjpfaaGreatDoor
open Go.RowKit
theorem DK:∀ {ks:List Int} {cs:List aK},lC ks cs=true↔∀(i:Nat) (h:i<ks.length) (h':i<cs.length),nU ks[i] cs[i]=true
 | [],cs=>by simp[lC]
 | k::ks,[]=>by simp[lC]
 | k::ks,c::cs=>by
  rw[lC,bN,DK];constructor
  ·rintro⟨h0,hr⟩ i h h';cases i with
   | zero=>simpa using h0
   | succ i=>simpa using hr i (by simpa using h) (by simpa using h')
  ·intro hall;exact⟨hall 0 (by simp) (by simp),fun i h h'=>hall (i+1) (by simpa using h) (by simpa using h')⟩
theorem rY{ks:List Int}{t:TS}:fC ks t=true↔aX ks=true/\t.ah.length=ks.length/\jZ t.low=true/\jZ t.rows=true/\∀(i:Nat) (h:i<ks.length) (h':i<t.ah.length),nU ks[i] t.ah[i]=true:=by simp only[fC,bN,decide_eq_true_eq,DK]
theorem qX{n:Int}:jZ n=true↔0<=n/\n<=4611686018427387904:=by simp[jZ]
theorem vK{k:Int}{c:aK}:nU k c=true↔(0<=c.bC/\c.bC<=4611686018427387904)/\(0<=c.distinct/\c.distinct<=4611686018427387904)/\(0<=c.degree/\c.degree<=4611686018427387904)/\(k=1\/(c.lo=0/\c.hi=0)):=by simp only[nU,bN,Bool.or_eq_true,decide_eq_true_eq,qX]
def Di(ks:List Int)(t:TS):TS:=⟨t.low,0,List.zipWith (fun k c=>⟨0,0,0,if k=1 then 1 else c.lo,if k=1 then 0 else c.hi⟩) ks t.ah⟩
theorem wC{ks:List Int}{t:TS}{i:Nat}(h:i<(Di ks t).ah.length)(h1:i<ks.length)(h2:i<t.ah.length):(Di ks t).ah[i]=⟨0,0,0,if ks[i]=1 then 1 else t.ah[i].lo,if ks[i]=1 then 0 else t.ah[i].hi⟩:=by simp[Di]
theorem wD{ks:List Int}{t:TS}(h:ks.length=t.ah.length):(Di ks t).ah.length=ks.length:=by simp[Di,h]
theorem WS{ks:List Int}{t:TS}(hok:wI ks t):wI ks (Di ks t):=by
 have hl:=hok.len;have hn:=wD hl;refine⟨hn.symm,Int.le_refl _,fun c hc=>?_⟩;obtain⟨i,h,rfl⟩:=List.getElem_of_mem hc;have h2:i<t.ah.length:=by omega
 rw[wC h (by omega) h2];obtain⟨_,_,_,⟨l1,l2⟩,l3,l4⟩:=hok.ah _ (gG h2);refine⟨Int.le_refl _,Int.le_refl _,Int.le_refl _,⟨?_,?_⟩,?_,?_⟩<;>simp only<;>split<;>omega
theorem WQ{ks:List Int}{t:TS}(hl:ks.length=t.ah.length):Fx ks (Di ks t):=by have hn:=wD hl;intro i h1 h2;rw[wC h2 h1 (by omega)];refine⟨?_,rP _⟩;rw[nW (.inr (by simp[Di]))];simp only[aK.mk.injEq,and_true];refine⟨by simp[Di],?_,?_⟩<;>(by_cases hk:ks[i]=1<;>simp[hk])
theorem WR{ks:List Int}{t:TS}(hok:wI ks t):zM (Di ks t) t:=by
 have hl:=hok.len;have hn:=wD hl;refine⟨rfl,hok.rows,EZ (by omega) (fun i h1 h2=>?_)⟩;rw[wC h1 (by omega) h2];obtain⟨c1,c2,c3,_⟩:=hok.ah _ (gG h2);refine⟨c1,c2,c3,?_⟩;by_cases hk:ks[i]'(by omega)=1
 ·simp[hk]
 ·simp[hk]
theorem Qa{ks:List Int}{t:TS}(h:fC ks t=true)(hi:∀c∈t.ah,mE c):fC ks (dw ks t)=true:=by
 have hok:=qZ h hi;have hg:=BF hok;have hb:=hg.top _ (WS hok) (WQ hok.len) (WR hok);generalize dw ks t=n at *
 obtain⟨hk,hl,hlow,hrow,hcol⟩:=rY.1 h;have hle:=hg.le;have hnl:=hg.ok.len;have hnn:=wD hok.len;rw[rY];refine⟨hk,hnl.symm,by rw[hle.low];exact hlow,?_,fun i h1 h2=>?_⟩
 ·rw[qX]at hrow ⊢
  exact⟨hg.ok.rows,by have:=hle.rows;omega⟩
 ·have h3:i<t.ah.length:=by omega
  have hc:=hcol i h1 h3;rw[vK]at hc ⊢
  obtain⟨n1,n2,n3,_⟩:=hg.ok.ah _ (gG h2);obtain⟨l1,l2,l3,l4⟩:=hle.ah.get i h2 h3;refine⟨⟨n1,by omega⟩,⟨n2,by omega⟩,⟨n3,by omega⟩,?_⟩;by_cases hk1:ks[i]=1
  ·exact .inl hk1
  ·refine .inr ?_;have h0:=hc.2.2.2.resolve_left hk1;obtain⟨_,_,_,z4⟩:=hb.ah.get i (by omega) h2;rw[wC (by omega) h1 h3]at z4
   simp only[if_neg hk1]at z4;omega
end Go.Proofs.YtbmkfjmlepjpfaaGreatDoor
