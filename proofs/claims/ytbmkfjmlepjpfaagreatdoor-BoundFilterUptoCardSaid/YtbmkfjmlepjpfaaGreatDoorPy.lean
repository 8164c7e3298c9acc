/- A part of the proof. -/
import Derived.Test.YtbmkfjmlepjpfaaGreatDoorPz
set_option linter.all false
set_option maxRecDepth 100000
namespace Go.Proofs.YtbmkfjmlepjpfaaGreatDoor
open Go.RowKit
set_option maxHeartbeats 2000000 in
theorem wV(t:TS)(hl:t.ah.length<=3518437208883):wp T [.code Oc] (bG [t.enc false]) s0 (fun e s=>∃x,dX e s [.cell 2 3 true]=some (.agg [i6 t.low,i6 t.rows,x])/\bW s 25 26 5 x (t.ah.map aK.enc)):=by
 have hl':t.ah.length<=9223372036854775807:=by omega
 simp;refine av (σ:=Nat) (fun i e s=>e 1=.ptr 1 1 0/\e 2=.ptr 2 1 0/\e 3=.ptr 3 1 0/\(∃n,s 1=⟨1,true,some (.box (t.enc false)),n⟩)/\(∃n,s 2=⟨1,true,some (.box (.agg [i6 0,i6 0,.nil])),n⟩)/\
  (∃x n,s 3=⟨1,true,some (.box (.agg [i6 t.low,i6 t.rows,x])),n⟩/\bW s 25 26 5 x ((t.ah.take i).map aK.enc))/\e 4=i6 i/\i<=t.ah.length) (fun i=>t.ah.length-i) ?_ 0 _ _
  ⟨by simp,by simp,by simp,⟨_,by simp;rfl⟩,⟨_,by simp;rfl⟩,⟨.nil,_,by simp;rfl,.inl ⟨by simp,rfl⟩⟩,by simp,by omega⟩
 rintro i e s ⟨e1,e2,e3,⟨n1,s1⟩,⟨n2,s2⟩,⟨x,n3,s3,hx⟩,e4,hi⟩ ih;have hto:t.ah.take (i+1)=t.ah.take i++(if h:i<t.ah.length then [t.ah[i]]else []):=by
  by_cases h:i<t.ah.length
  ·rw[List.take_succ_eq_append_getElem h,dif_pos h]
  ·rw[dif_neg h,List.append_nil,wU (by omega),wU (by omega)]
 simp[e1,e3,e4,s1];refine aj (fun h=>?_) (fun h=>?_)<;>(have h':=h;try simp at h')<;>(try simp[*])
 ·rw[dif_pos h']at hto
  have hlen:(t.ah.take i).length=i:=by rw[List.length_take];omega
  rcases hx with⟨h0,rfl⟩|⟨h0,o,g,n,rfl,hs,h1,h2⟩
  ·have h0:t.ah.take i=[]:=by simpa using h0
   rw[h0,List.nil_append]at hto
   simp[e1,e2,e3,e4,s1,s2,s3];refine ih.out (i+1) _ _ ⟨by simp[e1],by simp[e2],by simp[e3],⟨_,by simp[s1];rfl⟩,⟨_,by simp[s2];rfl⟩,⟨.ref 25 ((s 25).g+1) 5 0 1,_,by simp[s3];rfl,?_⟩,by simp[ai h' hl'],h'⟩ (by omega);rw[hto];exact .inr ⟨by simp,25,(s 25).g+1,_,by simp,by simp;rfl,by omega,by omega⟩
  ·obtain rfl:o=25:=by omega
   generalize t.ah.take i=Q at *
   have hq:Q.length<=3518437208882:=by omega
   have hq':i<=3518437208882:=by omega
   simp[e1,e2,e3,e4,s1,s2,s3,hs,hq',hlen];refine ih.out (i+1) _ _ ⟨by simp[e1],by simp[e2],by simp[e3],⟨_,by simp[s1];rfl⟩,⟨_,by simp[s2];rfl⟩,⟨.ref 25 (g+1) 5 0 (i+1),_,by simp[s3];rfl,?_⟩,by simp[ai h' hl'],h'⟩ (by omega);rw[hto,List.map_append];exact .inr ⟨by simp,25,g+1,_,by simp[hlen],by simp[hs];rfl,by omega,by omega⟩
 ·have hfull:t.ah.take i=t.ah:=wU (by omega);rw[hfull]at hx
  have hxo:=hx.one;simp[e2,e3,s2,s3,hxo.1,hxo.2,dX,bV,dZ];exact hx.fr ((Fr.refl 2 3 s).bF _ (by omega)) (by omega)
theorem own2{s:ax}{lo hi:Nat}{x:X}{u:TS}(hx:bW s lo hi 5 x (u.ah.map aK.enc)) :
 uP s (oM [2] (.agg [i6 u.low,i6 u.rows,x])) (nk s [2] (.agg [i6 u.low,i6 u.rows,x]))=some (.agg [i6 u.low,i6 u.rows,.nil],if u.ah=[]then none else some (5,u.ah.map aK.enc)):=by
 have d1:∀n,mK s (i6 n)=some (i6 n):=fun _=>rfl;have e1:nk s [2] (.agg [i6 u.low,i6 u.rows,x])=some (.agg [i6 u.low,i6 u.rows,.nil],x):=by simp[nk,nI,tq,d1,mK]
 have e2:oM [2] (.agg [i6 u.low,i6 u.rows,x])=[]:=by simp[oM,nX,p_]
 rw[e1,e2];rcases hx with⟨h0,rfl⟩|⟨h0,o,g,n,rfl,h,h1,h2⟩
 ·have h0:u.ah=[]:=by simpa using h0
  simp[uP,h0]
 ·have h0:¬u.ah=[]:=by simpa using h0
  simp[uP,h,h0,dh]
theorem BK(t:TS)(hl:t.ah.length<=3518437208883) :
 BJ T [2] Ef [t.enc false]=some (.agg [i6 t.low,i6 t.rows,.nil],if t.ah=[]then none else some (5,t.ah.map aK.enc)):=by
 refine BL (nt:=28) (res:=[.cell 2 3 true]) (body:=Oc) (by kernel_rfl) (by simp) (wp_mono (wV t hl) ?_);rintro e s ⟨x,hr,hx⟩;exact⟨_,hr,own2 hx⟩
theorem pure2{e:Env}{s:ax}{p lo hi:Nat}{a b:Int}{x:X}{es:List X}(h:dX e s [.cell p 3 true]=some (.agg [i6 a,i6 b,x]))(hx:bW s lo hi 5 x es)(hd:aT es=true) :
 aC e s [.cell p 3 true]=some (.agg [i6 a,i6 b,.sl true es]):=by
 have h1:EX s (e p) 3 true=some (.agg [i6 a,i6 b,x]):=by
  simp only[dX,bV,dZ]at h;cases hl:EX s (e p) 3 true with
  | none=>simp[hl]at h
  | some y=>simp[hl]at h;rw[h]
 have d1:∀n,mK s (i6 n)=some (i6 n):=fun _=>rfl;have d2:∀n,nI s (i6 n)=some (i6 n):=fun _=>rfl;simp only[aC,uU,zx,h1,nI,tq,hx.mK hd,d1,d2]
theorem AO(t:TS)(hl:t.ah.length<=3518437208883):call T Ef [t.enc false]=some (t.enc true):=
 q168g (by simp) (wp_mono (wV t hl) (by rintro e s ⟨x,hr,hx⟩;exact pure2 hr hx (by simp)))
theorem E_(l:List Ex):Dj 8 (l.map Ex.enc)=true:=by
 unfold Dj;rw[oH];intro x hx;obtain⟨e,_,rfl⟩:=List.mem_map.1 hx;have h:=e.vR;rw[e.ay]at h ⊢
 simp[h]
def O4(s:ax)(x:X)(Q:List Ex):Prop:=(Q=[]/\x=.nil)\/(Q≠[]/\∃o g n,(o=26\/o=33)/\x=.ref o g 8 0 Q.length/\s o=⟨g,true,some (.row 8 (Q.map Ex.enc)),n⟩)
theorem O4.mk'{s:ax}{x:X}{Q:List Ex}{o g:Nat}(h0:Q≠[])(ho:o=26\/o=33)(hx:x=.ref o g 8 0 Q.length)(h:∃n,s o=⟨g,true,some (.row 8 (Q.map Ex.enc)),n⟩):O4 s x Q:=by obtain⟨n,h⟩:=h;exact .inr ⟨h0,o,g,n,ho,hx,h⟩
set_option maxHeartbeats 2000000 in
theorem CZ:∀n,∀conds:List Ex,aS Ex.size conds<n->n<=1353245080339->call T Js [.sl false (conds.map Ex.enc)]=some (.sl true ((Ex.bR conds).map Ex.enc)):=by
 intro n;induction n with
 | zero=>intro conds h;omega
 | succ n ih=>
  intro conds hn hb;refine q163g (by simp) ?_;have hlen:∀l:List Ex,l.length<=aS Ex.size l:=by
   intro l;induction l with
   | nil=>simp[aS]
   | cons e l ihl=>
    have:=Ex.size_eq e;simp only[List.length_cons,aS];omega
  have hl:=hlen conds;have hll:conds.length<=9223372036854775807:=by omega
  have hpl:∀i,(Ex.bR (conds.take i)).length<=aS Ex.size conds:=fun i=>iq (Ex.pR (fun e _=>e.D_)) kY;replace hlen:=Hd.mk hlen;replace ih:=Hd.mk ih;replace hpl:=Hd.mk hpl;generalize hF:Ex.bR conds=F;replace hF:=Hd.mk hF;simp;refine av (σ:=Nat) (fun i e s=>e 0=.sl false (conds.map Ex.enc)/\e 4=i6 i/\O4 s (e 3) (Ex.bR (conds.take i))/\i<=conds.length) (fun i=>conds.length-i) ?_ 0 _ _
   ⟨by simp,by simp,.inl ⟨by simp[Ex.kM],by simp⟩,by omega⟩
  rintro i e s ⟨e0,e4,hx,hi⟩ ih2;simp[e0,e4];refine aj (fun h=>?_) (fun h=>?_)<;>(have h':=h;try simp at h')<;>(try simp[*])
  ·have hee:=conds[i].ay;have hto:Ex.bR (conds.take (i+1))=Ex.bR (conds.take i)++conds[i].parts:=by rw[List.take_succ_eq_append_getElem h',Ex.KY,Ex.jL,Ex.kM,List.append_nil]
   have hsz:aS Ex.size conds[i].kids<n:=by have h1:=jc (f:=Ex.size) h';have h2:=kY (f:=Ex.size) (l:=conds) (i:=i+1);have h3:=Ex.size_eq conds[i];omega
   have hpn:=hpl.out (i+1);by_cases hop:conds[i].op=23
   ·have hc:=ih.out conds[i].kids hsz (by omega);rw[Ex.parts_eq,if_pos hop]at hto
    rw[hop]at hee
    generalize Ex.bR conds[i].kids=K at hc hto;generalize Ex.bR (conds.take i)=Q at hx hto;rw[hto,List.length_append]at hpn
    rcases hx with⟨h0,h3⟩|⟨h0,o,g,m,ho,h3,hs⟩
    ·subst h0;rw[List.nil_append]at hto
     by_cases hK:K=[]
     ·subst hK;simp[hee,e0,e4,h3,hc,h',-Dj,E_,show Dj 8 []=true from rfl];refine ih2.out (i+1) _ _ ⟨by simp[e0],by simp[ai h' hll],?_,h'⟩ (by omega);rw[hto];exact .inl ⟨rfl,by simp⟩
     ·have hkl:K.length<=1353245080339:=by simp at hpn;omega
      simp[hee,e0,e4,h3,hc,h',-Dj,E_,hK,hkl];refine ih2.out (i+1) _ _ ⟨by simp[e0],by simp[ai h' hll],?_,h'⟩ (by omega);rw[hto];exact .inr ⟨hK,26,(s 26).g+1,_,.inl rfl,by simp,by simp;rfl⟩
    ·have hql:Q.length+K.length<=1353245080339:=by omega
     have hol:(Q.map Ex.enc).length=Q.length:=by simp
     simp[hee,e0,e4,h3,hc,hs,h',-Dj,E_,hql];refine ih2.out (i+1) _ _ ⟨by simp[e0],by simp[ai h' hll],?_,h'⟩ (by omega);rw[hto];refine O4.mk' (g:=g+1) (by intro h;exact h0 (List.append_eq_nil_iff.1 h).1) ho (by simp) (aP (by simp[hs]) (by simp[hs]) (by simp))
   ·rw[Ex.parts_eq,if_neg hop]at hto
    have hok:Dj 8 [conds[i].enc]=true:=E_ [conds[i]];rw[hee]at hok
    generalize Ex.bR (conds.take i)=Q at hx hto;rw[hto,List.length_append]at hpn
    simp at hpn;rcases hx with⟨h0,h3⟩|⟨h0,o,g,m,ho,h3,hs⟩
    ·subst h0;rw[List.nil_append]at hto
     simp[hee,e0,e4,h3,h',hop,-Dj,hok];refine ih2.out (i+1) _ _ ⟨by simp[e0],by simp[ai h' hll],?_,h'⟩ (by omega);rw[hto];exact O4.mk' (g:=(s 33).g+1) (by simp) (.inr rfl) (by simp) (aP (by simp) (by simp) (by simp[hee]))
    ·have hql:Q.length+1<=1353245080339:=by omega
     have ho32:¬o=32:=by omega
     have ho32':¬32=o:=by omega
     simp[hee,e0,e4,h3,hs,h',hop,-Dj,hok,hql,ho32,ho32'];refine ih2.out (i+1) _ _ ⟨by simp[e0],by simp[ai h' hll],?_,h'⟩ (by omega);rw[hto];exact O4.mk' (g:=g+1) (by simp) ho (by simp) (aP (by simp[hs,ho32,ho32']) (by simp[hs,ho32,ho32']) (by simp[hee,ho32,ho32']))
  ·have hfull:conds.take i=conds:=wU (by omega);rw[hfull,hF.out]at hx
   rcases hx with⟨h0,h3⟩|⟨h0,o,g,m,ho,h3,hs⟩
   ·rw[h3,h0];rfl
   ·rw[h3];simp[hs]
theorem colNoY{e:Ex}(h:e.bq=true):e.cO=e.n:=by unfold Ex.cO;rw[if_pos (jJ.1 h)]
theorem RO{e:Ex}(h:e.bq=false):e.cO=-1:=by unfold Ex.cO;rw[if_neg (fun q=>by rw[jJ.2 q]at h;exact absurd h (by simp))]
theorem iy{w:Nat}{e:Ex}(h:e.good w):(∃j:Nat,e.bq=true/\e.n=j/\j<w/\e.cO=j/\jb e=[(j:Int)])\/(e.bq=false/\e.cO=-1/\jb e=[]):=by
 by_cases hc:e.bq=true
 ·obtain⟨j,hj,hw⟩:=Ex.eT h hc;exact .inl ⟨j,hc,hj,hw,by rw[colNoY hc,hj],by rw[jb,if_pos hc,hj]⟩
 ·simp only[Bool.not_eq_true]at hc;exact .inr ⟨hc,RO hc,by simp[jb,hc]⟩
set_option maxHeartbeats 2000000 in
theorem zl(w:Nat)(e:Ex)(h:e.good w):call T Om [e.enc]=some (.sl true ((bB e).map i6)):=by
 refine q177g (by simp) ?_;have hee:=e.ay;have cmp:=gV e.op;have ce:=aG e;by_cases o2:e.op=2
 ·have hR:bB e=jb e:=by simp[bB,o2]
  have hup:e.bq=true:=jJ.2 ⟨o2,((Ex.fJ.1 h).col o2).1⟩;rcases iy h with⟨j,_,hj,_,hc,hl⟩|⟨hc,_,_⟩
  ·rw[hR,hl];rw[hc]at ce
   rw[hee,o2]at *
   simp[ce]
  ·rw[hup]at hc;simp at hc
 have hnc:e.cO=-1:=RO (by simp[Ex.bq,o2]);rw[hnc]at ce
 by_cases o22:e.op=22
 ·obtain⟨k,l',hk,hgk⟩:=Ex.dG h (by omega);have hke:=k.ay;have ck:=aG k;have hh:bn e.kids=k:=by rw[hk];rfl
  have hcm:bI e.op=false:=by simp[bI,o22]
  rw[hcm]at cmp
  by_cases k20:k.op=20
  ·obtain⟨k2,l2,hk2,hgk2⟩:=Ex.dG hgk (by omega);have hh2:bn k.kids=k2:=by rw[hk2];rfl
   have hR:bB e=jb k2:=by simp[bB,o22,hh,k20,hh2]
   have ck2:=aG k2;rw[hR];rw[o22]at cmp
   rw[hee,o22,hk,ku,hke,k20,hk2,ku,k2.ay];rcases iy hgk2 with⟨j,_,hj,_,hc,hl⟩|⟨_,hc,hl⟩
   ·rw[hl];rw[hc]at ck2
    simp[ck2]
   ·rw[hl];rw[hc]at ck2
    simp[ck2,cmp]
  ·have hR:bB e=jb k:=by simp[bB,o22,hh,k20]
   rw[hR];rw[o22]at cmp
   rw[hee,o22,hk,ku,hke];rcases iy hgk with⟨j,_,hj,_,hc,hl⟩|⟨_,hc,hl⟩
   ·rw[hl];rw[hc]at ck
    simp[ck,k20]
   ·rw[hl];rw[hc]at ck
    simp[ck,cmp,k20]
 by_cases o19:e.op=19
 ·obtain⟨k,l',hk,hgk⟩:=Ex.dG h (by omega);have hke:=k.ay;have ck:=aG k;have hh:bn e.kids=k:=by rw[hk];rfl
  have hcm:bI e.op=false:=by simp[bI,o19]
  have hR:bB e=jb k:=by simp[bB,o19,hh]
  rw[hcm,o19]at cmp
  rw[hR];rw[o19,hk,ku,hke]at ce
  rw[hee,o19,hk,ku,hke];rcases iy hgk with⟨j,_,hj,_,hc,hl⟩|⟨_,hc,hl⟩
  ·rw[hl];rw[hc]at ck
   simp[ce,ck,cmp]
  ·rw[hl];rw[hc]at ck
   simp[ce,ck,cmp]
 by_cases oc:bI e.op=true
 ·obtain⟨a,b,hk,hga,hgb⟩:=Be h oc;have ha:=a.ay;have hb:=b.ay;have ca:=aG a;have cb:=aG b;have hR:bB e=jb a++jb b:=by simp[bB,o2,o22,o19,oc,hk,bn,YG]
  rw[hR];rw[oc]at cmp
  rw[hk,ku,ku,List.map_nil,ha,hb]at ce
  rw[hee,hk,ku,ku,List.map_nil,ha,hb];rcases iy hga with⟨j,_,hj,_,hc,hl⟩|⟨_,hc,hl⟩
  ·rw[hl];rw[hc]at ca
   rcases iy hgb with⟨j2,_,hj2,_,hc2,hl2⟩|⟨_,hc2,hl2⟩
   ·rw[hl2];rw[hc2]at cb
    simp[ce,ca,cb,cmp,o22]
   ·rw[hl2];rw[hc2]at cb
    simp[ce,ca,cb,cmp,o22]
  ·rw[hl];rw[hc]at ca
   rcases iy hgb with⟨j2,_,hj2,_,hc2,hl2⟩|⟨_,hc2,hl2⟩
   ·rw[hl2];rw[hc2]at cb
    simp[ce,ca,cb,cmp,o22]
   ·rw[hl2];rw[hc2]at cb
    simp[ce,ca,cb,cmp,o22]
 ·simp only[Bool.not_eq_true]at oc;have hR:bB e=[]:=by simp[bB,o2,o22,o19,oc]
  rw[oc]at cmp
  rw[hR];rw[hee];simp[ce,cmp,o22,o19]
theorem bW.of0{s:ax}{o g k m:Nat}{es:List X}(hm:m=es.length)(h0:0<m)(h:∃n,s o=⟨g,true,some (.row k es),n⟩):bW s o (o+1) k (.ref o g k 0 m) es:=by obtain⟨n,h⟩:=h;subst hm;exact .inr ⟨by intro q;rw[q]at h0;simp at h0,o,g,n,rfl,h,by omega,by omega⟩
structure vg (ks:List Int) (e:Ex) (M:Int) (l:List aK) (en:Env) (s:ax):Prop where
 e0:en 0=.sl false (ks.map u8)
 e5:en 5=.ptr 5 1 0
 e6:en 6=.ptr 6 1 0
 e7:en 7=.ptr 7 1 0
 s5:∃m,s 5=⟨1,true,some (.box e.enc),m⟩
 s6:∃m,s 6=⟨1,true,some (.box (.agg [i6 0,i6 0,.nil])),m⟩
 s7:∃x m,s 7=⟨1,true,some (.box (.agg [i6 0,i6 M,x])),m⟩/\bW s 800040 800041 5 x (l.map aK.enc)
theorem vg.bM{ks:List Int}{e:Ex}{M:Int}{l:List aK}{en en':Env}{s s':ax}(h:vg ks e M l en s)(he:en' 0=en 0/\en' 5=en 5/\en' 6=en 6/\en' 7=en 7)(h5:s' 5=s 5)(h6:s' 6=s 6)(h7:s' 7=s 7)(hr:s' 800040=s 800040):vg ks e M l en' s':=by
 obtain⟨a0,a5,a6,a7,b5,b6,⟨x,m,b7,hx⟩⟩:=h;refine⟨by rw[he.1];exact a0,by rw[he.2.1];exact a5,by rw[he.2.2.1];exact a6,by rw[he.2.2.2];exact a7,by rw[h5];exact b5,by rw[h6];exact b6,⟨x,m,by rw[h7];exact b7,?_⟩⟩;rcases hx with h|⟨h0,o,g,n,rfl,hs,h1,h2⟩
 ·exact .inl h
 ·obtain rfl:o=800040:=by omega
  exact .inr ⟨h0,_,g,n,rfl,by rw[hr];exact hs,h1,h2⟩
set_option maxHeartbeats 4000000 in
theorem pt2(ks:List Int)(e:Ex)(M:Int)(l:List aK)(hkl:l.length=ks.length)(hg:∀k∈e.kids,k.good l.length)(en:Env)(s:ax)(h:vg ks e M l en s)(C:IC)(k:List It)(Q:Env->ax->Prop)
 (hk:∀en' st,vg ks e M (bL ks l (a_ e.op e.kids)) en' st->wp T (.code C::k) en' st Q) :
 wp T (.code (.seq (.ops FH) (.seq (.seq (.ops FI) (.cond (.t 82) (.seq (.seq (.ops FJ) (.cond (.t 88) (.seq (.aH [] [] FK BZ) (.ops FL)) .skip)) (.seq (.ops FM) (.cond (.t 115) (.aH [] [] FN B_) .skip))) .skip)) C))::k) en s Q:=by
 have hP:=h;obtain⟨e0,e5,e6,e7,⟨m5,s5⟩,⟨m6,s6⟩,⟨x,m7,s7,hsl⟩⟩:=h;have hee:=e.ay;have ct:=f_ e;have hin:=ou (op:=e.op) hg;have hbo:=Af (op:=e.op) (zJ hg);generalize a_ e.op e.kids=t at hin hbo hk;generalize jw e.op e.kids=tr at ct hbo;obtain⟨⟨op,cn,⟨vk,vi,vs⟩⟩,is⟩:=t;obtain⟨rop,rcn,⟨rk,ri,rs⟩⟩:=tr;rw[hee]at ct s5
 replace hk:=Hd.mk hk;replace hP:=Hd.mk hP;have mv:Hd (∀en' st,en' 0=en 0/\en' 5=en 5/\en' 6=en 6/\en' 7=en 7->(∀o,¬o=13->st o=s o)->vg ks e M l en' st):=⟨fun en' st a b=>hP.out.bM a (b _ (by omega)) (b _ (by omega)) (b _ (by omega)) (b _ (by omega))⟩
 rcases hbo with⟨h1,h2,h3⟩|⟨h1,h2⟩
 ·simp only at h1 h2 h3;subst h1;replace h2:=h2.symm;simp only[VY.mk.injEq,Val.mk.injEq]at h2;obtain⟨rfl,rfl,rfl,rfl,rfl⟩:=h2;by_cases hv0:vk=0
  ·have hR:bL ks l (⟨op,cn,⟨vk,vi,vs⟩⟩,true)=l:=by unfold bL;rw[if_neg (fun h=>h.2 hv0)]
   rw[hR]at hk
   simp[e5,s5,ct,h3,hv0];exact hk.out _ _ (mv.out _ _ (by simp) (fun o a1=>by simp[a1]))
  obtain⟨⟨j,hj,hjl⟩,hvr⟩:=hin rfl;simp only at hj hvr;subst hj;rcases hsl with⟨h0,_⟩|⟨h0,o,g5,n5,rfl,hs5,q1,q2⟩
  ·exfalso;simp at h0;subst h0;simp at hjl
  obtain rfl:o=800040:=by omega
  have hjk:j<ks.length:=by omega
  have kn:=dP hjk;have hql:j<(l.map aK.enc).length:=by simpa using hjl
  have hz:(l.map aK.enc)[j]=l[j].enc:=by simp
  have hR:bL ks l (⟨op,j,⟨vk,vi,vs⟩⟩,true)=l.set j (Bv ks[j] op vk vi l[j]):=by unfold bL;rw[if_pos ⟨rfl,hv0⟩];simp only[kn];rw[lU hjl]
  rw[hR]at hk
  have fin:Hd (∀en' st,en' 0=en 0/\en' 5=en 5/\en' 6=en 6/\en' 7=en 7->(∀o,¬o=13->¬o=800040->st o=s o)->(∃n,st 800040=⟨g5,true,some (.row 5 ((l.map aK.enc).set j (Bv ks[j] op vk vi l[j]).enc)),n⟩)->wp T (.code C::k) en' st Q):=⟨fun en' st ⟨a0,a5,a6,a7⟩ ha hst=>
   hk.out en' st ⟨by rw[a0];exact e0,by rw[a5];exact e5,by rw[a6];exact e6,by rw[a7];exact e7,⟨m5,by rw[ha _ (by omega) (by omega),hee];exact s5⟩,⟨m6,by rw[ha _ (by omega) (by omega)];exact s6⟩,
    ⟨_,m7,by rw[ha _ (by omega) (by omega)];exact s7,by rw[List.map_set];exact bW.of0 (by simp) (by rw[List.length_map];omega) hst⟩⟩⟩
  have hwi:Bv ks[j] op vk vi l[j]=if ks[j]=1/\vk=1 then fB (lJ op l[j]) op vi else lJ op l[j]:=rfl
  have hwc:=kg (lJ op l[j]) op vi hvr;generalize fB (lJ op l[j]) op vi=W at hwi hwc;clear hk hR kn mv hP;generalize Bv ks[j] op vk vi l[j]=N at fin hwi;generalize l[j]=c at *
  generalize l.map aK.enc=R at *
  obtain⟨W1,W2,W3,W4,W5⟩:=W;by_cases o1:op=12\/op=18
  ·have hne:lJ op c=⟨0,min c.distinct 1,c.degree,c.lo,c.hi⟩:=if_pos o1;rw[hne]at hwi hwc
   rcases o1 with rfl|rfl
   ·by_cases k1:ks[j]=1
    ·by_cases v1:vk=1
     ·subst v1;rw[if_pos ⟨k1,rfl⟩]at hwi
      simp[e0,e5,e7,s5,s7,ct,hs5,hql,hz,hjk,hv0,k1,hwc];exact fin.out _ _ (by simp) (fun o a1 a2=>by simp[a1,a2]) (aP (by simp[hs5]) (by simp[hs5]) (by simp[hs5,hz,hql,hwi]))
     ·rw[if_neg (fun h=>v1 h.2)]at hwi
      simp[e0,e5,e7,s5,s7,ct,hs5,hql,hz,hjk,hv0,k1,v1];exact fin.out _ _ (by simp) (fun o a1 a2=>by simp[a1,a2]) (aP (by simp[hs5]) (by simp[hs5]) (by simp[hs5,hz,hql,hwi]))
    ·rw[if_neg (fun h=>k1 h.1)]at hwi
     simp[e0,e5,e7,s5,s7,ct,hs5,hql,hz,hjk,hv0,k1];exact fin.out _ _ (by simp) (fun o a1 a2=>by simp[a1,a2]) (aP (by simp[hs5]) (by simp[hs5]) (by simp[hs5,hz,hql,hwi]))
   ·by_cases k1:ks[j]=1
    ·by_cases v1:vk=1
     ·subst v1;rw[if_pos ⟨k1,rfl⟩]at hwi
      simp[e0,e5,e7,s5,s7,ct,hs5,hql,hz,hjk,hv0,k1,hwc];exact fin.out _ _ (by simp) (fun o a1 a2=>by simp[a1,a2]) (aP (by simp[hs5]) (by simp[hs5]) (by simp[hs5,hz,hql,hwi]))
     ·rw[if_neg (fun h=>v1 h.2)]at hwi
      simp[e0,e5,e7,s5,s7,ct,hs5,hql,hz,hjk,hv0,k1,v1];exact fin.out _ _ (by simp) (fun o a1 a2=>by simp[a1,a2]) (aP (by simp[hs5]) (by simp[hs5]) (by simp[hs5,hz,hql,hwi]))
    ·rw[if_neg (fun h=>k1 h.1)]at hwi
     simp[e0,e5,e7,s5,s7,ct,hs5,hql,hz,hjk,hv0,k1];exact fin.out _ _ (by simp) (fun o a1 a2=>by simp[a1,a2]) (aP (by simp[hs5]) (by simp[hs5]) (by simp[hs5,hz,hql,hwi]))
  ·have hne:lJ op c=c:=if_neg o1;rw[hne]at hwi hwc
   have o12:¬op=12:=fun h=>o1 (.inl h);have o18:¬op=18:=fun h=>o1 (.inr h);have hzz:=List.set_getElem_self hql;rw[hz]at hzz
   replace hzz:=Hd.mk hzz.symm;by_cases k1:ks[j]=1
   ·by_cases v1:vk=1
    ·subst v1;rw[if_pos ⟨k1,rfl⟩]at hwi
     simp[e0,e5,e7,s5,s7,ct,hs5,hql,hz,hjk,hv0,o12,o18,k1,hwc];exact fin.out _ _ (by simp) (fun o a1 a2=>by simp[a1,a2]) (aP (by simp[hs5]) (by simp[hs5]) (by simp[hs5,hz,hql,hwi]))
    ·rw[if_neg (fun h=>v1 h.2)]at hwi
     simp[e0,e5,e7,s5,s7,ct,hs5,hql,hz,hjk,hv0,o12,o18,k1,v1];exact fin.out _ _ (by simp) (fun o a1 a2=>by simp[a1,a2]) (aP (by simp[hs5]) (by simp[hs5]) (by simp[hs5,hz,hql,hwi];exact hzz.out))
   ·rw[if_neg (fun h=>k1 h.1)]at hwi
    simp[e0,e5,e7,s5,s7,ct,hs5,hql,hz,hjk,hv0,o12,o18,k1];exact fin.out _ _ (by simp) (fun o a1 a2=>by simp[a1,a2]) (aP (by simp[hs5]) (by simp[hs5]) (by simp[hs5,hz,hql,hwi];exact hzz.out))
 ·simp only at h1 h2;have h2':¬0<=rcn:=by omega
  have hR:bL ks l (⟨op,cn,⟨vk,vi,vs⟩⟩,is)=l:=by unfold bL;rw[if_neg (fun h=>by rw[h1]at h;simp at h)]
  rw[hR]at hk
  simp[e5,s5,ct,h2'];exact hk.out _ _ (mv.out _ _ (by simp) (fun o a1=>by simp[a1]))
set_option maxHeartbeats 4000000 in
theorem pt3(ks:List Int)(e:Ex)(M:Int)(l:List aK)(hkl:l.length=ks.length)(hg:∀k∈e.kids,k.good l.length)(en:Env)(s:ax)(h:vg ks e M l en s)(C:IC)(k:List It)(Q:Env->ax->Prop)
 (hk:∀en' st,vg ks e M (gK ks l e.op (jh e.op e.kids)) en' st->wp T (.code C::k) en' st Q) :
 wp T (.code (.seq (.ops FO) (.seq (.seq (.ops FP) (.cond (.t 140) (.seq (.aH [7,141,142,143,144,146,147,148,149] [] FQ Ca) (.seq (.ops FR) (.seq (.ops FT) (.seq (.ops FU) (.cond (.t 182) (.seq (.aH [] [] FV Cb) (.seq (.ops FW) (.seq (.ops FX) (.seq (.ops FY) (.ops FZ))))) .skip))))) .skip)) C))::k) en s Q:=by
 have hP:=h;obtain⟨e0,e5,e6,e7,⟨m5,s5⟩,⟨m6,s6⟩,⟨x,m7,s7,hsl⟩⟩:=h;have hee:=e.ay;have ct:=gm e;have hin:=Ad (op:=e.op) hg;have hbo:=JU (op:=e.op) (zJ hg);generalize jh e.op e.kids=t at hin hbo hk;generalize qo e.op e.kids=tr at ct hbo;obtain⟨a,b,is⟩:=t;obtain⟨ra,rb⟩:=tr;rw[hee]at ct s5
 replace hk:=Hd.mk hk;replace hP:=Hd.mk hP;by_cases hc:is=true/\e.op=12
 ·obtain⟨rfl,ho⟩:=hc;obtain⟨⟨i,hi,hil⟩,⟨j,hj,hjl⟩⟩:=hin rfl;simp only at hi hj;subst hi;subst hj;rcases hbo with⟨_,hbo,_⟩|⟨hbo,_⟩
  case inr=>simp at hbo
  simp only[bK]at hbo;obtain⟨rfl,rfl⟩:=hbo;rw[ho]at ct s5
  rcases hsl with⟨h0,_⟩|⟨h0,o,g5,n5,rfl,hs5,q1,q2⟩
  ·exfalso;simp at h0;subst h0;simp at hil
  obtain rfl:o=800040:=by omega
  have hik:i<ks.length:=by omega
  have hjk:j<ks.length:=by omega
  have kn1:=dP hik;have kn2:=dP hjk;have g1:l.getD i ⟨0,0,0,0,0⟩=l[i]:=by simp[hil]
  have g2:l.getD j ⟨0,0,0,0,0⟩=l[j]:=by simp[hjl]
  have hql:i<(l.map aK.enc).length:=by simpa using hil
  have hqj:j<(l.map aK.enc).length:=by simpa using hjl
  have hz1:(l.map aK.enc)[i]=l[i].enc:=by simp
  have hz2:(l.map aK.enc)[j]=l[j].enc:=by simp
  have hR:=Bw ks l i j hil hjl hik hjk;have hNl:(gK ks l e.op (i,j,true)).length=l.length:=pM _ _ _ _;rw[ho]at hNl
  rw[ho]at hk
  have hout:∀en' st,(∃n,st 800040=⟨g5,true,some (.row 5 ((gK ks l 12 (i,j,true)).map aK.enc)),n⟩)->en' 0=.sl false (ks.map u8)->en' 5=.ptr 5 1 0->en' 6=.ptr 6 1 0->en' 7=.ptr 7 1 0->st 5=s 5->st 6=s 6->st 7=s 7->wp T (.code C::k) en' st Q:=fun en' st hst a0 a5 a6 a7 b5 b6 b7=>by refine hk.out en' st ⟨a0,a5,a6,a7,⟨m5,by rw[b5,hee,ho];exact s5⟩,⟨m6,by rw[b6];exact s6⟩,⟨_,m7,by rw[b7];exact s7,?_⟩⟩;exact bW.of0 (by simp[hNl]) (by rw[List.length_map];omega) hst
  rw[hR]at hout
  generalize gK ks l 12 (i,j,true)=N at *
  replace hout:=Hd.mk hout;clear hR kn1 kn2 g1 g2 hin hkl hg hk hP;by_cases hij:i=j
  ·subst hij;generalize l[i]=ci at *
   generalize l.map aK.enc=R at *
   by_cases k1:ks[i]=1
   ·simp[e0,e5,e7,s5,s7,ct,hs5,hql,hz1,hik,k1];exact hout.out _ _ (aP (by simp[hs5]) (by simp[hs5]) (by simp[hs5,hz1,hql,k1])) (by simp[e0]) (by simp[e5]) (by simp[e6]) (by simp[e7]) (by simp) (by simp) (by simp)
   ·simp[e0,e5,e7,s5,s7,ct,hs5,hql,hz1,hik,k1];exact hout.out _ _ (aP (by simp[hs5]) (by simp[hs5]) (by simp[hs5,hz1,hql,k1])) (by simp[e0]) (by simp[e5]) (by simp[e6]) (by simp[e7]) (by simp) (by simp) (by simp)
  ·generalize l[i]=ci at *
   generalize l[j]=cj at *
   generalize l.map aK.enc=R at *
   have hji:=Ne.symm hij;by_cases k1:ks[i]=1
   ·by_cases k2:ks[j]=1
    ·simp[e0,e5,e7,s5,s7,ct,hs5,hql,hz1,hik,hz2,hqj,hjk,hij,hji,k1,k2];exact hout.out _ _ (aP (by simp[hs5]) (by simp[hs5]) (by simp[hs5,hz1,hql,k1,k2,hz2,hqj,hjk,hij,hji,Gn hij])) (by simp[e0]) (by simp[e5]) (by simp[e6]) (by simp[e7]) (by simp) (by simp) (by simp)
    ·simp[e0,e5,e7,s5,s7,ct,hs5,hql,hz1,hik,hz2,hqj,hjk,hij,hji,k1,k2];exact hout.out _ _ (aP (by simp[hs5]) (by simp[hs5]) (by simp[hs5,hz1,hql,k1,k2,hz2,hqj,hjk,hij,hji])) (by simp[e0]) (by simp[e5]) (by simp[e6]) (by simp[e7]) (by simp) (by simp) (by simp)
   ·simp[e0,e5,e7,s5,s7,ct,hs5,hql,hz1,hik,hz2,hqj,hjk,hij,hji,k1];exact hout.out _ _ (aP (by simp[hs5]) (by simp[hs5]) (by simp[hs5,hz1,hql,k1,hz2,hqj,hjk,hij,hji])) (by simp[e0]) (by simp[e5]) (by simp[e6]) (by simp[e7]) (by simp) (by simp) (by simp)
 ·have hR:gK ks l e.op (a,b,is)=l:=by unfold gK;rw[if_neg hc]
  rw[hR]at hk
  rcases hbo with⟨h1,h2,h3⟩|⟨h1,h2⟩
  ·simp only at h1 h2 h3;subst h1;simp only[bK]at h2;obtain⟨rfl,rfl⟩:=h2;have ho:¬e.op=12:=fun h=>hc ⟨rfl,h⟩;simp[e5,s5,ct,ho,h3];exact hk.out _ _ (hP.out.bM (by simp) rfl rfl rfl rfl)
  ·simp only at h1 h2;have h2':¬0<=ra:=by omega
   simp[e5,s5,ct,h2'];exact hk.out _ _ (hP.out.bM (by simp) rfl rfl rfl rfl)
set_option maxHeartbeats 4000000 in
theorem pt1(ks:List Int)(e:Ex)(M:Int)(l:List aK)(hg:e.good l.length)(en:Env)(s:ax)(h:vg ks e M l en s)(C:IC)(k:List It)(Q:Env->ax->Prop)
 (hk:∀en' st,vg ks e M (bJ l e) en' st->wp T (.code C::k) en' st Q) :
 wp T (.code (.seq (.seq (.ops Lv) (.cond (.t 54) (.seq (.ops FC) (.seq (.ops FD) (.ops FE))) .skip)) C)::k) en s Q:=by
 have hP:=h;obtain⟨e0,e5,e6,e7,⟨m5,s5⟩,⟨m6,s6⟩,⟨x,m7,s7,hsl⟩⟩:=h;have hee:=e.ay;replace hk:=Hd.mk hk;replace hP:=Hd.mk hP;by_cases o20:e.op=20
 ·obtain⟨kd,l',hkk,hgk⟩:=Ex.dG hg (by omega);have hke:=kd.ay;have ck:=aG kd;have hh:bn e.kids=kd:=by rw[hkk];rfl
  have hR:bJ l e=if kd.bq=true then nE l kd.n pz else l:=by unfold bJ;rw[hh];simp[o20]
  rw[hR]at hk
  have hee':Hd (e.enc=X.agg [X.v (.int .u8 20),X.v (.int .u8 e.vk),i6 e.vi,X.v (.string e.vs),i6 e.up,i6 e.n,X.sl false (X.agg [X.v (.int .u8 kd.op),X.v (.int .u8 kd.vk),i6 kd.vi,X.v (.string kd.vs),i6 kd.up,i6 kd.n,.sl false (kd.kids.map Ex.enc),.sl false (kd.sub.map Pn.enc)]::l'.map Ex.enc),X.sl false (e.sub.map Pn.enc)]):=⟨by rw[hee,o20,hkk,ku,hke]⟩
  rw[hee'.out]at s5
  rcases iy hgk with⟨j,hc,hj,hw,hcn,_⟩|⟨hc,hcn,_⟩
  ·rw[if_pos hc,hj,lU hw]at hk
   rw[hcn]at ck
   rcases hsl with⟨h0,_⟩|⟨h0,o,g5,n5,rfl,hs5,q1,q2⟩
   ·exfalso;simp at h0;subst h0;simp at hw
   obtain rfl:o=800040:=by omega
   have hql:j<(l.map aK.enc).length:=by simpa using hw
   have hz:(l.map aK.enc)[j]=l[j].enc:=by simp
   have fin:Hd (∀en' st,en' 0=en 0/\en' 5=en 5/\en' 6=en 6/\en' 7=en 7->(∀o,¬o=800040->st o=s o)->(∃n,st 800040=⟨g5,true,some (.row 5 ((l.map aK.enc).set j (pz l[j]).enc)),n⟩)->wp T (.code C::k) en' st Q):=⟨fun en' st ⟨a0,a5,a6,a7⟩ ha hst=>
    hk.out en' st ⟨by rw[a0];exact e0,by rw[a5];exact e5,by rw[a6];exact e6,by rw[a7];exact e7,⟨m5,by rw[ha _ (by omega),hee'.out];exact s5⟩,⟨m6,by rw[ha _ (by omega)];exact s6⟩,
     ⟨_,m7,by rw[ha _ (by omega)];exact s7,by rw[List.map_set];exact bW.of0 (by simp) (by rw[List.length_map];omega) hst⟩⟩⟩
   clear hk hP;generalize l[j]=c at *
   generalize l.map aK.enc=R at *
   simp[e5,e7,s5,s7,ck,hs5,hql,hz];exact fin.out _ _ (by simp) (fun o a1=>by simp[a1]) (aP (by simp[hs5]) (by simp[hs5]) (by simp[hs5,hz,hql,pz]))
  ·rw[if_neg (by rw[hc];simp)]at hk
   rw[hcn]at ck
   simp[e5,s5,ck];exact hk.out _ _ (hP.out.bM (by simp) rfl rfl rfl rfl)
 ·have hR:bJ l e=l:=by unfold bJ;rw[if_neg (fun h=>o20 h.1)]
  rw[hR]at hk
  rw[hee]at s5
  simp[e5,s5,o20];exact hk.out _ _ (hP.out.bM (by simp) rfl rfl rfl rfl)
set_option maxHeartbeats 4000000 in
theorem pt0(ks:List Int)(e:Ex)(M:Int)(l:List aK)(ns:List Int)(hn:∀n∈ns,∃j:Nat,n=j/\j<l.length)(hnl:ns.length<=9223372036854775807)(en:Env)(s:ax)(h:vg ks e M l en s)(h8:en 8=.sl true (ns.map i6))(C:IC)(k:List It)(Q:Env->ax->Prop)
 (hk:∀en' st,vg ks e M (iB l ns) en' st->wp T (.code C::k) en' st Q) :
 wp T (.code (.seq (.seq (.ops Lu) (.block 0 (.loop FB))) C)::k) en s Q:=by
 replace hk:=Hd.mk hk;have h0:=h;obtain⟨e0,e5,e6,e7,⟨m5,s5⟩,⟨m6,s6⟩,⟨x,m7,s7,hsl⟩⟩:=h;simp;refine av (σ:=Nat) (fun i e' s'=>vg ks e M (iB l (ns.take i)) e' s'/\e' 8=.sl true (ns.map i6)/\e' 9=i6 i/\i<=ns.length) (fun i=>ns.length-i) ?_ 0 _ _
  ⟨by rw[List.take_zero];exact h0.bM (by simp) rfl rfl rfl rfl,by simp[h8],by simp,by omega⟩
 clear h8 e0 e5 e6 e7 s5 s6 s7 hsl h0 m5 m6 m7 x;rintro i e' s' ⟨hP,e8,e9,hi⟩ ih;simp[e8,e9];refine aj (fun q=>?_) (fun q=>?_)<;>(have q':=q;try simp at q')<;>(try simp[*])
 ·obtain⟨j,hj,hw⟩:=hn _ (gG q');have hto:iB l (ns.take (i+1))=nE (iB l (ns.take i)) (j:Int) fun c=>⟨0,c.distinct,c.degree,c.lo,c.hi⟩:=by rw[List.take_succ_eq_append_getElem q',JC,hj];rfl
  have hRl:(iB l (ns.take i)).length=l.length:=oO _ _;generalize iB l (ns.take i)=R0 at *
  have hw':j<R0.length:=by omega
  rw[lU hw']at hto
  obtain⟨e0,e5,e6,e7,⟨m5,s5⟩,⟨m6,s6⟩,⟨x,m7,s7,hsl⟩⟩:=hP;rcases hsl with⟨h0,_⟩|⟨h0,o,g5,n5,rfl,hs5,q1,q2⟩
  ·exfalso;simp at h0;subst h0;simp at hw'
  obtain rfl:o=800040:=by omega
  have hql:j<(R0.map aK.enc).length:=by simpa using hw'
  have hz:(R0.map aK.enc)[j]=R0[j].enc:=by simp
  have fin:Hd (∀en' st,en' 0=e' 0/\en' 5=e' 5/\en' 6=e' 6/\en' 7=e' 7->en' 8=e' 8->en' 9=i6 ((i+1:Nat):Int)->(∀o,¬o=800040->st o=s' o)->(∃n,st 800040=⟨g5,true,some (.row 5 ((R0.map aK.enc).set j (aK.enc ⟨0,R0[j].distinct,R0[j].degree,R0[j].lo,R0[j].hi⟩))),n⟩)->wp T (It.lp FB::It.bl 0::It.code C::k) en' st Q):=⟨fun en' st ⟨a0,a5,a6,a7⟩ a8 a9 ha hst=>by
   refine ih.out (i+1) en' st ⟨?_,by rw[a8];exact e8,a9,q'⟩ (by omega);rw[hto];exact⟨by rw[a0];exact e0,by rw[a5];exact e5,by rw[a6];exact e6,by rw[a7];exact e7,⟨m5,by rw[ha _ (by omega)];exact s5⟩,⟨m6,by rw[ha _ (by omega)];exact s6⟩,
    ⟨_,m7,by rw[ha _ (by omega)];exact s7,by rw[List.map_set];exact bW.of0 (by simp) (by rw[List.length_map];omega) hst⟩⟩⟩
  clear ih hto hRl;generalize R0[j]=c at *
  generalize R0.map aK.enc=R at *
  simp[e7,e8,e9,s7,hj,hs5,hql,hz,q'];exact fin.out _ _ (by simp) (by simp) (by simp[ai q' hnl]) (fun o a1=>by simp[a1]) (aP (by simp[hs5]) (by simp[hs5]) (by simp[hs5,hz,hql]))
 ·have hfull:ns.take i=ns:=wU (by omega);rw[hfull]at hP
  exact hk.out _ _ (hP.bM (by simp) rfl rfl rfl rfl)
theorem P9{w:Nat}{e:Ex}(h:e.good w):(∀n∈bB e,∃j:Nat,n=j/\j<w)/\(bB e).length<=2:=by
 have hc:∀k:Ex,k.good w->(∀n∈jb k,∃j:Nat,n=j/\j<w)/\(jb k).length<=1:=fun k hk=>by
  rcases iy hk with⟨j,_,_,hw,_,hl⟩|⟨_,_,hl⟩
  ·rw[hl];exact⟨fun n hn=>by simp at hn;exact⟨j,hn,hw⟩,by simp⟩
  ·rw[hl];exact⟨fun n hn=>by simp at hn,by simp⟩
 have h1:∀k:Ex,k.good w->(∀n∈jb k,∃j:Nat,n=j/\j<w)/\(jb k).length<=2:=fun k hk=>⟨(hc k hk).1,by have:=(hc k hk).2;omega⟩
 unfold bB;split
 ·exact h1 e h
 split
 ·obtain⟨k,l,hk,hgk⟩:=Ex.dG h (by omega);have hh:bn e.kids=k:=by rw[hk];rfl
  rw[hh];split
  ·obtain⟨k2,l2,hk2,hgk2⟩:=Ex.dG hgk (by omega);have hh2:bn k.kids=k2:=by rw[hk2];rfl
   rw[hh2];exact h1 k2 hgk2
  ·exact h1 k hgk
 split
 ·obtain⟨k,l,hk,hgk⟩:=Ex.dG h (by omega);have hh:bn e.kids=k:=by rw[hk];rfl
  rw[hh];exact h1 k hgk
 split
 ·rename_i hcm;obtain⟨a,b,hk,hga,hgb⟩:=Be h hcm;have e1:bn e.kids=a:=by rw[hk];rfl
  have e2:YG e.kids=b:=by rw[hk];rfl
  rw[e1,e2];have p1:=hc a hga;have p2:=hc b hgb;refine⟨fun n hn=>?_,by rw[List.length_append];omega⟩;rcases List.mem_append.1 hn with hn|hn
  ·exact p1.1 n hn
  ·exact p2.1 n hn
 ·exact⟨fun n hn=>by simp at hn,by simp⟩
theorem IZ(l:List aK)(e:Ex):(bJ l e).length=l.length:=by unfold bJ;split<;>simp[fP]
theorem E8(ks:List Int)(l:List aK)(a:VY×Bool):(bL ks l a).length=l.length:=by unfold bL;split<;>simp[fP]
set_option maxHeartbeats 4000000 in
theorem uy(ks:List Int)(t:TS)(ht:lX ks t)(hl:t.ah.length<=3518437208883)(e:Ex)(he:e.good ks.length) :
 call T Oe [.sl false (ks.map u8),t.enc false,e.enc]=some ((rO ks t e).enc true):=by
 refine q170g (by simp) ?_;have hcl:=ht.ah.len;have hgt:e.good t.ah.length:=by rw[hcl];exact he
 have hkid:=(Ex.fJ.1 hgt).kid;have hst:rO ks t e=⟨0,e.most ks t,gK ks (bL ks (bJ (iB t.ah (bB e)) e) (a_ e.op e.kids)) e.op (jh e.op e.kids)⟩:=rfl;have hcp:=BK t hl;have hrow:=sV ks t ht.ok e hgt;have hnn:=zl _ e hgt;have hni:=P9 hgt;rw[hst];generalize hM:e.most ks t=M at *
 have l0:(iB t.ah (bB e)).length=t.ah.length:=oO _ _;have l1:(bJ (iB t.ah (bB e)) e).length=t.ah.length:=by rw[IZ,l0]
 have l2:(bL ks (bJ (iB t.ah (bB e)) e) (a_ e.op e.kids)).length=t.ah.length:=by rw[E8,l1]
 have p0:=pt0 ks e M t.ah (bB e) hni.1 (by omega);have p1:=pt1 ks e M (iB t.ah (bB e)) (by rw[l0];exact hgt);have p2:=pt2 ks e M (bJ (iB t.ah (bB e)) e) (by rw[l1];exact hcl) (by rw[l1];exact hkid);have p3:=pt3 ks e M (bL ks (bJ (iB t.ah (bB e)) e) (a_ e.op e.kids)) (by rw[l2];exact hcl) (by rw[l2];exact hkid);generalize gK ks (bL ks (bJ (iB t.ah (bB e)) e) (a_ e.op e.kids)) e.op (jh e.op e.kids)=L3 at *
 generalize bL ks (bJ (iB t.ah (bB e)) e) (a_ e.op e.kids)=L2 at *
 generalize bJ (iB t.ah (bB e)) e=L1 at *
 generalize iB t.ah (bB e)=L0 at *
 have f3:∀en st,vg ks e M L3 en st->wp T [.code (.seq (.ops zW) .ret)] en st (fun e s=>aC e s [.cell 6 3 true]=some (.agg [i6 0,i6 M,.sl true (L3.map aK.enc)])):=by
  rintro en st ⟨_,_,e6,e7,_,⟨m6,s6⟩,⟨x,m7,s7,hx⟩⟩;have hxo:=hx.one;have hd:∀b,mK (bF st 6 b) x=some (.sl true (L3.map aK.enc)):=fun b=>(hx.fr ((Fr.refl 6 7 st).bF b (by omega)) (by omega)).mK (by simp)
  simp[e6,e7,s6,s7,hxo.1,hxo.2,hd]
 have f2:=fun en st h=>p3 en st h (.seq (.ops zW) .ret) [] _ f3;have f1:=fun en st h=>p2 en st h _ [] _ f2;have f0:=fun en st h=>p1 en st h _ [] _ f1;have fin:=fun en st h h8=>p0 en st h h8 _ [] _ f0;clear p0 p1 p2 p3 f0 f1 f2 f3 l0 l1 l2;obtain⟨D,hD⟩:∃D:IC,D=(.seq (.seq (.ops Lu) (.block 0 (.loop FB))) (.seq (.seq (.ops Lv) (.cond (.t 54) (.seq (.ops FC) (.seq (.ops FD) (.ops FE))) .skip)) (.seq (.ops FH) (.seq (.seq (.ops FI) (.cond (.t 82) (.seq (.seq (.ops FJ) (.cond (.t 88) (.seq (.aH [] [] FK BZ) (.ops FL)) .skip)) (.seq (.ops FM) (.cond (.t 115) (.aH [] [] FN B_) .skip))) .skip)) (.seq (.ops FO) (.seq (.seq (.ops FP) (.cond (.t 140) (.seq (.aH [7,141,142,143,144,146,147,148,149] [] FQ Ca) (.seq (.ops FR) (.seq (.ops FT) (.seq (.ops FU) (.cond (.t 182) (.seq (.aH [] [] FV Cb) (.seq (.ops FW) (.seq (.ops FX) (.seq (.ops FY) (.ops FZ))))) .skip))))) .skip)) (.seq (.ops zW) .ret))))))):=⟨_,rfl⟩
 rw[<-hD]at fin
 have hB:Ug=.seq (.ops Uh) (.seq (.ops Ui) (.seq (.ops Uj) (.seq (.ops Uk) (.seq (.ops Ul) D)))):=by rw[hD]
 rw[hB];clear hB hD;replace fin:=Hd.mk fin;have hee:=e.ay;rw[hee]at hrow hnn ⊢
 simp;refine eO (oF hcp (by simp) (by simp) _) ?_;rintro⟨r,s2⟩ ⟨⟨x,hr,hx⟩,hF⟩;simp[plug]at hr
 subst hr;have k4:=hF 4 (by omega);have k5:=hF 5 (by omega);have k6:=hF 6 (by omega);simp at k4 k5 k6;have hxo:=hx.one;have k7:=hF 7 (by omega);simp at k7;simp[k4,k5,k7,hxo.1,hxo.2,hrow,hnn];refine fin.out _ _ ⟨by simp,by simp,by simp,by simp[k7],aP (by simp[k5]) (by simp[k5]) (by simp[k5,hee]),aP (by simp[k6]) (by simp[k6]) (by simp[k6]),⟨x,_,by simp[k7];rfl,hx.fr (lo':=7) (hi':=8) ⟨fun o ho=>?_⟩ (by omega)⟩⟩ (by simp);have:¬o=7:=by omega
 simp[this]
theorem xJ{ks:List Int}:∀ {l:List Ex} {t:TS},(fH ks t l).ah.length=t.ah.length
 | [],t=>rfl
 | e::l,t=>by show(fH ks (rO ks t e) l).ah.length=_;rw[xJ];show(jq ks (iB t.ah (bB e)) e).length=_;rw[I5,oO]
theorem PI{ks:List Int}{t:TS}{l m:List Ex}:fH ks t (l++m)=fH ks (fH ks t l) m:=by unfold fH;rw[List.foldl_append]
set_option maxHeartbeats 4000000 in
theorem xB(ks:List Int)(t:TS)(ht:lX ks t)(hl:t.ah.length<=3518437208883)(conds:List Ex)(hc:ME ks.length conds)(hsz:aS Ex.size conds<1353245080338) :
 call T N_ [.sl false (ks.map u8),t.enc false,.sl false (conds.map Ex.enc)]=some ((dw ks (fH ks t (Ex.bR conds))).enc true):=by
 refine q162g (by simp) ?_;have hp:=CZ _ conds hsz (by omega);have hcp:=AO t hl;have hgood:=Ex.q8 hc.good;have hpl:(Ex.bR conds).length<=9223372036854775807:=by have:=Ex.pR (l:=conds) (fun e _=>e.D_);omega
 generalize Ex.bR conds=P at *
 have hfit:∀i,lX ks (fH ks t (P.take i)):=fun i=>ht.PG (fun e he=>hgood e (List.mem_of_mem_take he));have hlen:∀i,(fH ks t (P.take i)).ah.length<=3518437208883:=fun i=>by rw[xJ];exact hl
 have hpart:=fun i (h:i<P.length)=>uy ks (fH ks t (P.take i)) (hfit i) (hlen i) P[i] (hgood _ (gG h));have hstep:∀i (h:i<P.length),rO ks (fH ks t (P.take i)) P[i]=fH ks t (P.take (i+1)):=fun i h=>by rw[List.take_succ_eq_append_getElem h,PI];rfl
 have hfull:fH ks t (P.take P.length)=fH ks t P:=by rw[wU (Nat.le_refl _)]
 have hfin:=jd ks (fH ks t P) (by rw[<-hfull];exact hlen _) (qZ (ht.PG hgood).fits (ht.PG hgood).lo);generalize dw ks (fH ks t P)=R at *
 replace hpart:=Hd.mk hpart;replace hstep:=Hd.mk hstep;replace hfull:=Hd.mk hfull;clear hfit hlen hgood hc;simp[hp,hcp];refine av (σ:=Nat) (fun i e s=>e 0=.sl false (ks.map u8)/\e 6=.ptr 6 1 0/\e 7=.sl true (P.map Ex.enc)/\e 8=.ptr 8 1 0/\e 9=i6 i/\(∃n,s 6=⟨1,true,some (.box (.agg [i6 0,i6 0,.nil])),n⟩)/\(∃n,s 8=⟨1,true,some (.box ((fH ks t (P.take i)).enc true)),n⟩)/\i<=P.length) (fun i=>P.length-i) ?_ 0 _ _
  ⟨by simp,by simp,by simp,by simp,by simp,⟨_,by simp;rfl⟩,⟨_,by simp[show fH ks t []=t from rfl];rfl⟩,by omega⟩
 rintro i e s ⟨e0,e6,e7,e8,e9,⟨n6,s6⟩,⟨n8,s8⟩,hi⟩ ih;simp[e0,e7,e8,e9,s8];refine aj (fun h=>?_) (fun h=>?_)<;>(have h':=h;try simp at h')<;>(try simp[*])
 ·have h1:=hpart.out i h';have h2:=hstep.out i h';have hee:=P[i].ay;generalize fH ks t (P.take i)=u at *
  rw[h2]at h1
  generalize hv:fH ks t (P.take (i+1))=v at *
  rw[hee]at h1
  simp[hee,h',e0,e7,e8,e9,s8,h1];refine ih.out (i+1) _ _ ⟨by simp[e0],by simp[e6],by simp[e7],by simp[e8],by simp[ai h' hpl],⟨_,by simp[s6];rfl⟩,⟨_,by simp[s8,hv];rfl⟩,h'⟩ (by omega)
 ·have hie:i=P.length:=by omega
  subst hie;rw[hfull.out]at s8
  simp[e0,e6,e8,s6,s8,hfin]
noncomputable def jo(ks:List Int)(t:TS)(l:List Ex):TS×Int:=if aX ks=true/\l.all (eG ks)=true then(if fC ks t=true then(dw ks (fH ks (dw ks t) (Ex.bR l)),0)else(⟨0,0,[]⟩,190))else(⟨0,0,[]⟩,1)
theorem si{ks:List Int}{t:TS}(h:wI ks t):(dw ks t).ah.length=t.ah.length:=by have:=(BF h).ok.len;have:=h.len;omega
theorem A7{ks:List Int}{l:List Ex}(hs:∀e∈l,e.small)(hl:l.length<=3000000000)(h:l.all (eG ks)=true):ME ks.length l/\aS Ex.size l<1353245080338:=by have ha:=List.all_eq_true.1 h;have hb:=Ml (f:=Ex.size) (m:=400) (l:=l) (fun e he=>Kt (ha e he));exact⟨⟨fun e he=>Kr (hs e he) (ha e he),by omega⟩,by omega⟩
set_option maxHeartbeats 1000000 in
theorem AL(ks:List Int)(hk:aV ks)(hn:nn ks)(t:TS)(hl:t.ah.length<=3518437208883)(hi:∀c∈t.ah,mE c)(l:List Ex)(hll:l.length<=3000000000)(hs:∀e∈l,e.small) :
 call T N9 [kX ks,t.enc false,.sl false (l.map Ex.enc)]=some (.cZ [(jo ks t l).1.enc true,i6 (jo ks t l).2]):=by
 refine q161g (by simp) ?_;have hr:=C8 ks hk hn t l (iq hll (by decide)) hs;unfold jo;by_cases hc:aX ks=true/\l.all (eG ks)=true
 ·rw[if_pos hc]at hr ⊢
  by_cases hf:fC ks t=true
  ·rw[if_pos hf]at hr ⊢
   have hft:=zB hf hi;have hok:=qZ hf hi;have hnm:=jd ks t hl hok;obtain⟨c1,c2⟩:=A7 hs hll hc.2;have hfl:=xB ks (dw ks t) hft.norm (by rw[si hok];exact hl) l c1 c2;generalize dw ks (fH ks (dw ks t) (Ex.bR l))=R at *
   generalize dw ks t=N at *
   simp[hr,hnm,hfl]
  ·rw[if_neg hf]at hr ⊢
   simp[hr]
 ·rw[if_neg hc]at hr ⊢
  simp[hr]
theorem Te{s:ax}{lo hi:Nat}{x:X}{u:TS}{err:Int}(hx:bW s lo hi 5 x (u.ah.map aK.enc)) :
 uP s (oM [0,2] (.cZ [.agg [i6 u.low,i6 u.rows,x],i6 err])) (nk s [0,2] (.cZ [.agg [i6 u.low,i6 u.rows,x],i6 err]))=some (.cZ [.agg [i6 u.low,i6 u.rows,.nil],i6 err],if u.ah=[]then none else some (5,u.ah.map aK.enc)):=by
 have d1:∀n,mK s (i6 n)=some (i6 n):=fun _=>rfl;have e1:nk s [0,2] (.cZ [.agg [i6 u.low,i6 u.rows,x],i6 err])=some (.cZ [.agg [i6 u.low,i6 u.rows,.nil],i6 err],x):=by simp[nk,Wl,nI,tq,d1,mK]
 have e2:oM [0,2] (.cZ [.agg [i6 u.low,i6 u.rows,x],i6 err])=[]:=by simp[oM,nX,p_]
 rw[e1,e2];rcases hx with⟨h0,rfl⟩|⟨h0,o,g,n,rfl,h,h1,h2⟩
 ·have h0:u.ah=[]:=by simpa using h0
  simp[uP,h0]
 ·have h0:¬u.ah=[]:=by simpa using h0
  simp[uP,h,h0,dh]
set_option maxHeartbeats 1000000 in
theorem xQ(ks:List Int)(hk:aV ks)(t:TS)(hl:t.ah.length<=3518437208883)(hi:∀c∈t.ah,mE c)(l:List Ex)(hll:l.length<=3000000000)(hs:∀e∈l,e.small) :
 BJ T [0,2] Yh [kX ks,t.enc false,.sl false (l.map Ex.enc)]=some (.cZ [.agg [i6 (jo ks t l).1.low,i6 (jo ks t l).1.rows,.nil],i6 (jo ks t l).2],if(jo ks t l).1.ah=[]then none else some (5,(jo ks t l).1.ah.map aK.enc)):=by
 refine BL (nt:=25) (res:=[.cell 6 3 true,.tmp 7]) (body:=q37B) (by kernel_rfl) (by simp) ?_;have hr:=ED ks hk t hl hi l (iq hll (by decide)) hs;unfold jo;by_cases hc:aX ks=true/\l.all (eG ks)=true
 ·rw[if_pos hc]at hr ⊢
  by_cases hf:fC ks t=true
  ·rw[if_pos hf];have hft:=zB hf hi;have hok:=qZ hf hi;have hE:fq ks [t]=0:=by simp[fq,hc.1,hf]
   have hN:nY ks t=dw ks t:=by unfold nY;rw[if_pos hE]
   rw[hE,hN]at hr
   obtain⟨c1,c2⟩:=A7 hs hll hc.2;have hfl:=KX ks hk (dw ks t) hft.norm (by rw[si hok];exact hl) l c1;unfold O3 aJ at hfl;generalize dw ks (fH ks (dw ks t) (Ex.bR l))=R at *
   generalize dw ks t=N at *
   simp[hr];refine eO (oF hfl (by simp) (by simp) _) ?_;rintro⟨r,s2⟩ ⟨⟨x,hr2,hx⟩,hF⟩;simp[plug]at hr2
   subst hr2;have k6:=hF 6 (by omega);simp at k6;have hxo:=hx.one;simp[k6,hxo.1,hxo.2];refine⟨_,by simp[dX,bV,dZ,k6],Te (hx.fr ((Fr.refl 6 7 s2).bF _ (by omega)) (by omega))⟩
  ·rw[if_neg hf];have hE:fq ks [t]=190:=by simp[fq,hc.1,hf]
   rw[hE]at hr
   generalize nY ks t=N at hr;simp[hr];exact⟨_,by simp[dX,bV,dZ],Te (u:=⟨0,0,[]⟩) (lo:=0) (hi:=0) (.inl ⟨rfl,rfl⟩)⟩
 ·rw[if_neg hc]at hr ⊢
  simp[hr];exact⟨_,by simp[dX,bV,dZ],Te (u:=⟨0,0,[]⟩) (lo:=0) (hi:=0) (.inl ⟨rfl,rfl⟩)⟩
set_option maxHeartbeats 4000000 in
theorem CR(ks:List Int)(hk:aV ks)(hn:nn ks)(t:TS)(hl:t.ah.length<=3518437208882)(hi:∀c∈t.ah,mE c)(l:List Ex)(hll:l.length<=3000000000)(hs:∀e∈l,e.small) :
 call T Yw [kX ks,t.enc false,.sl false (l.map Ex.enc)]=some (.v (.bool true)):=by
 refine q92g (by simp) ?_;have h1:=qc t (by omega);have h2:=AL ks hk hn t (by omega) hi l hll hs;have h3:=xQ ks hk t (by omega) hi l hll hs;have h6:=lZ t t (by omega);have h7:=V7;rw[TS.sI]at h6
 have hml:(jo ks t l).1.ah.length<=3518437208882:=by
  unfold jo;split
  ·split
   ·rename_i h3 h4;have hft:=zB h4 hi;obtain⟨c1,c2⟩:=A7 hs hll h3.2;have hg:=hft.norm.PG (Ex.q8 c1.good);rw[si (qZ hg.fits hg.lo),xJ,si (qZ h4 hi)];exact hl
   ·simp
  ·simp
 generalize jo ks t l=M at *
 obtain⟨u,err⟩:=M;simp only at h2 h3 hml;have h8:=lZ u u (by omega);rw[TS.sI]at h8
 simp[h1,h2];refine eO (oF h3 (by simp) (by simp) _) ?_;rintro⟨r,s2⟩ ⟨⟨x,hr2,hx⟩,hF⟩;simp[plug]at hr2
 subst hr2;have k4:=hF 4 (by omega);have k7:=hF 7 (by omega);have k8:=hF 8 (by omega);have k10:=hF 10 (by omega);simp at k4 k7 k8 k10;have hxo:=hx.one;have hdp:∀b c,mK (bF (aN s2 10 b) 10 c) x=some (.sl true (u.ah.map aK.enc)):=fun b c=>(hx.fr (((Fr.refl 10 11 s2).aN b (by omega)).bF c (by omega)) (by omega)).mK (by simp)
 simp[k4,k7,k8,k10,hxo.1,hxo.2,hdp,h8];refine av (σ:=Nat) (fun i e s=>e 4=.ptr 4 1 0/\e 7=.ptr 7 1 0/\e 10=.ptr 10 1 0/\e 12=i6 i/\i<=u.ah.length/\(∃n,s 4=⟨1,true,some (.box (t.enc false)),n⟩)/\(∃n,s 7=⟨1,true,some (.box (t.enc true)),n⟩)/\(∃n,s 10=⟨1,true,some (.box (.agg [i6 u.low,i6 u.rows,x])),n⟩)/\
  Hd (∃L:List aK,L.length=u.ah.length/\bW s 800030 800031 5 x (L.map aK.enc))) (fun i=>u.ah.length-i) ?_ 0 _ _
  ⟨by simp,by simp,by simp[k10],by simp,by omega,⟨_,by simp[k4];rfl⟩,⟨_,by simp[k7];rfl⟩,⟨_,by simp[k10];rfl⟩,⟨u.ah,rfl,hx.fr (((Fr.refl 10 11 s2).aN _ (by omega)).bF _ (by omega)) (by omega)⟩⟩
 clear hdp hxo k4 k7 k8 k10 hF hx h2 h3;rintro i e s ⟨e4,e7,e10,e12,hi',⟨n4,s4⟩,⟨n7,s7⟩,⟨n10,s10⟩,⟨L,hLl,hL⟩⟩ ih;rcases hL with⟨h0,rfl⟩|⟨h0,o,g5,n5,rfl,hs5,q1,q2⟩
 ·have hi0:L.length=0:=by simp at h0;simp[h0]
  have hi1:i=0:=by omega
  subst hi1;simp[e4,e7,e10,e12,s4,s7,s10,h6,h7]
 ·obtain rfl:o=800030:=by omega
  have hln:(L.map aK.enc).length=u.ah.length:=by rw[List.length_map];exact hLl
  rw[hln]at s10
  simp[e10,e12,s10,hs5];refine aj (fun q=>?_) (fun q=>?_)<;>(have q':=q;try simp at q')<;>(try simp[*])
  ·have hql:i<(L.map aK.enc).length:=by rw[hln];exact q'
   have hiL:i<L.length:=by omega
   have hz:(L.map aK.enc)[i]=L[i].enc:=by simp
   have fin:∀en' st,en' 4=e 4->en' 7=e 7->en' 10=e 10->en' 12=i6 ((i+1:Nat):Int)->(∀o,¬o=800030->st o=s o)->(∃n,st 800030=⟨g5,true,some (.row 5 ((L.map aK.enc).set i (aK.enc ⟨IntKind.i64.wrap (L[i].bC+5),L[i].distinct,L[i].degree,L[i].lo,L[i].hi⟩))),n⟩)->
    wp T [It.lp q92l1,It.bl 0,It.code ((IC.ops U4).seq IC.ret)] en' st (fun e s=>aC e s [.tmp 6]=some (.v (.bool true))):=fun en' st a4 a7 a10 a12 ha hst=>by
    refine ih.out (i+1) en' st ⟨by rw[a4];exact e4,by rw[a7];exact e7,by rw[a10];exact e10,a12,q',⟨n4,by rw[ha _ (by omega)];exact s4⟩,⟨n7,by rw[ha _ (by omega)];exact s7⟩,⟨n10,by rw[ha _ (by omega),hln];exact s10⟩,⟨L.set i ⟨IntKind.i64.wrap (L[i].bC+5),L[i].distinct,L[i].degree,L[i].lo,L[i].hi⟩,by rw[List.length_set];exact hLl,?_⟩⟩ (by omega);rw[List.map_set];exact bW.of0 (by simp) (by omega) hst
   replace fin:=Hd.mk fin;clear ih;generalize L[i]=c at *
   generalize L.map aK.enc=R at *
   exact fin.out _ _ (by simp) (by simp) (by simp) (by simp[ai q' (by omega:u.ah.length<=9223372036854775807)]) (fun o a=>by simp[a]) (aP (by simp[hs5]) (by simp[hs5]) (by simp[hs5,hz,hql]))
end Go.Proofs.YtbmkfjmlepjpfaaGreatDoor
