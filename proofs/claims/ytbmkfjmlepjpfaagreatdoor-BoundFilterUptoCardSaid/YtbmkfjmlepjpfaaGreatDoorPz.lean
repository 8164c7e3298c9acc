/- A part of the proof. -/
import Derived.Test.YtbmkfjmlepjpfaaGreatDoorBz
import Derived.Test.YtbmkfjmlepjpfaaGreatDoorHq
import Derived.Test.YtbmkfjmlepjpfaaGreatDoorCq
import Derived.Test.YtbmkfjmlepjpfaaGreatDoorNn
set_option linter.all false
set_option maxRecDepth 100000
namespace Go.Proofs.YtbmkfjmlepjpfaaGreatDoor
open Go.RowKit
mutual
def Ex.parts:Ex->List Ex
 | .mk op vk vi vs up n kids sub=>if op=23 then Ex.bR kids else [.mk op vk vi vs up n kids sub]
def Ex.bR:List Ex->List Ex
 | []=>[]
 | e::l=>e.parts++Ex.bR l
end
theorem Ex.jL(e:Ex)(l:List Ex):bR (e::l)=e.parts++bR l:=by simp only[Ex.bR]
theorem Ex.kM:bR []=[]:=by simp only[Ex.bR]
theorem Ex.parts_eq(e:Ex):e.parts=if e.op=23 then bR e.kids else [e]:=by cases e;simp only[Ex.parts,op,kids];rfl
theorem Ex.KY(l m:List Ex):bR (l++m)=bR l++bR m:=by
 induction l with
 | nil=>simp[Ex.kM]
 | cons e l ih=>rw[List.cons_append,Ex.jL,Ex.jL,ih,List.append_assoc]
theorem Ex.BM{x:Ex}{l:List Ex}(h:x∈bR l):∃e∈l,x∈e.parts:=by
 induction l with
 | nil=>rw[Ex.kM]at h;cases h
 | cons a l ih=>
  rw[Ex.jL]at h
  rcases List.mem_append.1 h with h|h
  ·exact⟨a,by simp,h⟩
  ·obtain⟨e,he,hx⟩:=ih h;exact⟨e,by simp[he],hx⟩
theorem Ex.KZ{w:Nat}(e:Ex)(h:e.good w):∀x∈e.parts,x.good w:=by
 revert h;refine Ex.induct (p:=fun e=>e.good w->∀x∈e.parts,x.good w) (fun e ih h x hx=>?_) e;rw[Ex.parts_eq]at hx
 split at hx
 ·obtain⟨k,hk,hx⟩:=Ex.BM hx;exact ih k hk ((Ex.fJ.1 h).kid k hk) x hx
 ·simp at hx;subst hx;exact h
theorem Ex.q8{w:Nat}{l:List Ex}(h:∀e∈l,e.good w):∀x∈bR l,x.good w:=fun x hx=>by obtain⟨e,he,hx⟩:=Ex.BM hx;exact e.KZ (h e he) x hx
theorem Ex.pR{l:List Ex}(h:∀e∈l,e.parts.length<=e.size):(bR l).length<=aS Ex.size l:=by
 induction l with
 | nil=>simp[Ex.kM,aS]
 | cons e l ih=>
  have h1:=h e (by simp);have h2:=ih (fun x hx=>h x (by simp[hx]));rw[Ex.jL,List.length_append];simp only[aS];omega
theorem Ex.D_(e:Ex):e.parts.length<=e.size:=by
 refine Ex.induct (p:=fun e=>e.parts.length<=e.size) (fun e ih=>?_) e;rw[Ex.parts_eq,Ex.size_eq];split
 ·have:=Ex.pR ih;omega
 ·simp;omega
theorem Ml{α:Type}{f:α->Nat}{m:Nat}{l:List α}(h:∀e∈l,f e<=m):aS f l<=m*l.length:=by
 induction l with
 | nil=>simp[aS]
 | cons e l ih=>
  have h1:=h e (by simp);have h2:=ih (fun x hx=>h x (by simp[hx]));simp only[aS,List.length_cons,Nat.mul_add];omega
theorem Kt{ks:List Int}{e:Ex}(h:eG ks e=true):e.size<=400:=by
 simp only[eG,bN,decide_eq_true_eq]at h;have h1:=h.1;unfold fT at h1;by_cases hc:e.size<=400
 ·exact hc
 ·exfalso;have hm:min e.size 401=401:=by omega
  have hp:¬tV [] [ks] (min e.size 401:Nat)=0:=by
   rw[hm];unfold tV;split
   ·simp
   ·simp
  rw[if_neg hp]at h1
  exact hp h1
def nE(l:List aK)(n:Int)(f:aK->aK):List aK:=l.set n.toNat (f (l.getD n.toNat ⟨0,0,0,0,0⟩))
theorem fP(l:List aK)(n:Int)(f:aK->aK):(nE l n f).length=l.length:=by simp[nE]
theorem lU{l:List aK}{j:Nat}(h:j<l.length)(f:aK->aK):nE l (j:Int) f=l.set j (f l[j]):=by simp[nE,h]
def jb(e:Ex):List Int:=if e.bq=true then [e.n]else []
def YG(l:List Ex):Ex:=bn l.tail
def bB(e:Ex):List Int:=
 if e.op=2 then jb e else if e.op=22 then(if(bn e.kids).op=20 then jb (bn (bn e.kids).kids)else jb (bn e.kids))
 else if e.op=19 then jb (bn e.kids)else if bI e.op=true then jb (bn e.kids)++jb (YG e.kids)else []
def iB(l:List aK)(ns:List Int):List aK:=ns.foldl (fun l n=>nE l n fun c=>⟨0,c.distinct,c.degree,c.lo,c.hi⟩) l
def pz(c:aK):aK:=⟨c.bC,0,0,c.lo,c.hi⟩
def bJ(l:List aK)(e:Ex):List aK:=if e.op=20/\(bn e.kids).bq=true then nE l (bn e.kids).n pz else l
def lJ(op:Int)(c:aK):aK:=if op=12\/op=18 then⟨0,min c.distinct 1,c.degree,c.lo,c.hi⟩else c
def Bv(k op vk vi:Int)(c:aK):aK:=if k=1/\vk=1 then fB (lJ op c) op vi else lJ op c
def bL(ks:List Int)(l:List aK)(a:VY×Bool):List aK:=if a.2=true/\¬a.1.v.kind=0 then nE l a.1.col (Bv (jg ks a.1.col) a.1.op a.1.v.kind a.1.v.int)else l
def gK(ks:List Int)(l:List aK)(op:Int)(t:Int×Int×Bool):List aK:=
 if t.2.2=true/\op=12 then
  (
   let x:=l.getD t.1.toNat ⟨0,0,0,0,0⟩;let y:=l.getD t.2.1.toNat ⟨0,0,0,0,0⟩
   let d:=min x.distinct y.distinct
   if jg ks t.1=1/\jg ks t.2.1=1 then
    nE (nE l t.1 fun c=>⟨c.bC,d,c.degree,max x.lo y.lo,min x.hi y.hi⟩) t.2.1 fun c=>⟨c.bC,d,c.degree,max x.lo y.lo,min x.hi y.hi⟩
   else nE (nE l t.1 fun c=>⟨c.bC,d,c.degree,c.lo,c.hi⟩) t.2.1 fun c=>⟨c.bC,d,c.degree,c.lo,c.hi⟩)
 else l
def jq(ks:List Int)(l:List aK)(e:Ex):List aK:=gK ks (bL ks (bJ l e) (a_ e.op e.kids)) e.op (jh e.op e.kids)
def rO(ks:List Int)(t:TS)(e:Ex):TS:=⟨0,e.most ks t,jq ks (iB t.ah (bB e)) e⟩
def fH(ks:List Int)(t:TS)(l:List Ex):TS:=l.foldl (rO ks) t
theorem Fq(a b:Int):0<=nu a b:=by have h1:=bE a;have h2:=bE b;unfold nu;omega
theorem II{P:aK->Prop}{l:List aK}(h0:P ⟨0,0,0,0,0⟩)(h:∀c∈l,P c)(n:Nat):P (l.getD n ⟨0,0,0,0,0⟩):=by
 by_cases hn:n<l.length
 ·rw[List.getD_eq_getElem?_getD,List.getElem?_eq_getElem hn];exact h _ (gG hn)
 ·rw[List.getD_eq_getElem?_getD,List.getElem?_eq_none (by omega)];exact h0
theorem qM{f:Ex->Int}:∀ {l:List Ex} {a:Int},0<=a->(∀k∈l,0<=f k)->0<=fQ f a l
 | [],a,h,_=>h
 | k::l,a,h,hk=>by have:=hk k (by simp);exact qM (l:=l) (a:=min a (f k)) (by omega) (fun x hx=>hk x (by simp[hx]))
theorem qN{f:Ex->Int}:∀ {l:List Ex} {a:Int},0<=a->0<=gu f a l
 | [],a,h=>h
 | k::l,a,h=>qN (l:=l) (a:=nu a (f k)) (Fq _ _)
theorem IY{ks:List Int}{t:TS}(hr:0<=t.rows)(hc:∀c∈t.ah,0<=c.bC/\0<=c.degree)(e:Ex):0<=e.most ks t:=by
 have hd:∀n,0<=(di t n).bC/\0<=(di t n).degree:=fun n=>II (P:=fun c=>0<=c.bC/\0<=c.degree) (by simp) hc n.toNat;have hv:∀c,0<=iH t c:=fun c=>by have:=ol c.distinct c.degree;unfold iH;omega
 refine Ex.induct (p:=fun e=>0<=e.most ks t) (fun e ih=>?_) e;rw[Ex.zP];have hn:0<=eZ t (bn e.kids):=by
  unfold eZ;split
  ·exact(hd _).2
  ·split
   ·exact hv _
   ·exact hr
 have hcp:0<=ni ks t e.op e.kids:=by
  unfold ni;split
  ·unfold r_;split
   ·split
    ·exact(hd _).1
    ·omega
   ·split
    ·split
     ·omega
     ·exact(hd _).2
    ·split
     ·have h1:=hv (di t (a_ e.op e.kids).1.col);have h2:=ol (iG (di t (a_ e.op e.kids).1.col) (a_ e.op e.kids).1.op (a_ e.op e.kids).1.v.int) (di t (a_ e.op e.kids).1.col).degree;omega
     ·exact hv _
  ·split
   ·unfold qV;split
    ·omega
    ·have h1:=hv (di t (jh e.op e.kids).1);have h2:=hv (di t (jh e.op e.kids).2.1);omega
   ·exact hr
 have hmin:=qM (f:=Ex.most ks t) (l:=e.kids) hr ih;have hpls:=qN (f:=Ex.most ks t) (l:=e.kids) (Int.le_refl 0);have h1:=(hd e.n).2;have h2:=(hd (bn e.kids).n).1;have h3:=hv (di t (bn e.kids).n);generalize eZ t (bn e.kids)=m1 at *
 generalize ni ks t e.op e.kids=m2 at *
 generalize fQ (Ex.most ks t) t.rows e.kids=m3 at *
 generalize gu (Ex.most ks t) 0 e.kids=m4 at *
 generalize (di t e.n).degree=m5 at *
 generalize (di t (bn e.kids).n).bC=m6 at *
 generalize iH t (di t (bn e.kids).n)=m7 at *
 refine Int.le_min.2 ⟨?_,hr⟩
 repeat' split
 all_goals omega
def uG(k:Int)(c:aK):Prop:=nU k c=true/\mE c
structure sK (ks:List Int) (l:List aK):Prop where
 len:l.length=ks.length
 get:∀(i:Nat) (h:i<ks.length) (h':i<l.length),uG ks[i] l[i]
theorem sK.upd{ks:List Int}{l:List aK}(h:sK ks l){n:Int}{f:aK->aK}(hf:∀c,uG (jg ks n) c->uG (jg ks n) (f c)):sK ks (nE l n f):=by
 refine⟨by rw[fP];exact h.len,fun i h1 h2=>?_⟩;rw[fP]at h2
 have hi:=h.get i h1 h2;by_cases he:n.toNat=i
 ·have hk:jg ks n=ks[i]:=by unfold jg;rw[he];simp[h1]
  rw[hk]at hf
  have:=hf _ hi;subst he;simp only[nE,List.getElem_set_self];rw[List.getD_eq_getElem?_getD,List.getElem?_eq_getElem h2];exact this
 ·simp only[nE];rw[List.getElem_set_ne he];exact hi
theorem sK.getD{ks:List Int}{l:List aK}(h:sK ks l)(n:Nat):uG 1 (l.getD n ⟨0,0,0,0,0⟩):=by
 refine II (P:=uG 1) ⟨by simp[nU,jZ],by simp[mE,ig]⟩ (fun c hc=>?_) n;obtain⟨i,hi,rfl⟩:=List.getElem_of_mem hc;obtain⟨h1,h2⟩:=h.get i (by rw[<-h.len];exact hi) hi;rw[vK]at h1
 exact⟨vK.2 ⟨h1.1,h1.2.1,h1.2.2.1,.inl rfl⟩,h2⟩
theorem iE{k:Int}{c:aK}:uG k c↔((0<=c.bC/\c.bC<=4611686018427387904)/\(0<=c.distinct/\c.distinct<=4611686018427387904)/\(0<=c.degree/\c.degree<=4611686018427387904)/\(k=1\/(c.lo=0/\c.hi=0)))/\mE c:=by unfold uG;rw[vK]
theorem oO(l:List aK)(ns:List Int):(iB l ns).length=l.length:=by
 induction ns generalizing l with
 | nil=>rfl
 | cons n ns ih=>show(iB (nE l n _) ns).length=_;rw[ih,fP]
theorem U8{ks:List Int}{l:List aK}(h:sK ks l)(ns:List Int):sK ks (iB l ns):=by
 induction ns generalizing l with
 | nil=>exact h
 | cons n ns ih=>
  refine ih (h.upd fun c hc=>?_);rw[iE]at hc ⊢
  exact⟨⟨by simp,hc.1.2.1,hc.1.2.2.1,hc.1.2.2.2⟩,hc.2⟩
theorem P8{k op:Int}{c:aK}(h:uG k c):uG k (lJ op c):=by
 unfold lJ;split
 ·rw[iE]at h ⊢
  refine⟨⟨by simp,⟨?_,?_⟩,h.1.2.2.1,h.1.2.2.2⟩,h.2⟩<;>(have:=h.1.2.1;simp only;omega)
 ·exact h
theorem SS{k op vk vi:Int}{c:aK}(h:uG k c)(hv:ig vi):uG k (Bv k op vk vi c):=by
 have he:=P8 (op:=op) h;unfold Bv;split
 ·rename_i hk;have hs:=uW (op:=op) he.2 hv;rw[iE]at he
  unfold fB;split
  ·rw[iE];exact⟨⟨he.1.1,he.1.2.1,he.1.2.2.1,.inl hk.1⟩,hs⟩
  ·rw[iE];exact⟨⟨he.1.1,by simp,by simp,.inl hk.1⟩,he.2⟩
 ·exact he
theorem tZ{ks:List Int}{l:List aK}(h:sK ks l){a b:Int}{f g:aK->aK}(hf:∀c,uG (jg ks a) c->uG (jg ks a) (f c))(hg:∀c,uG (jg ks b) c->uG (jg ks b) (g c)):sK ks (nE (nE l a f) b g):=(h.upd hf).upd hg
theorem KP{ks:List Int}{l:List aK}(h:sK ks l)(op:Int)(t:Int×Int×Bool):sK ks (gK ks l op t):=by
 unfold gK;split
 ·have hx:=h.getD t.1.toNat;have hy:=h.getD t.2.1.toNat;generalize l.getD t.1.toNat ⟨0,0,0,0,0⟩=x at *
  generalize l.getD t.2.1.toNat ⟨0,0,0,0,0⟩=y at *
  rw[iE]at hx hy
  obtain⟨⟨_,hx2,_,_⟩,⟨hx5,hx6⟩,hx7,hx8⟩:=hx;obtain⟨⟨_,hy2,_,_⟩,⟨hy5,hy6⟩,hy7,hy8⟩:=hy;have hlo:mE ⟨0,0,0,max x.lo y.lo,min x.hi y.hi⟩:=⟨⟨by show _<=max _ _;omega,by show max _ _<=_;omega⟩,by show _<=min _ _;omega,by show min _ _<=_;omega⟩
  simp only;split
  ·rename_i hk;refine tZ h (fun c hc=>?_) (fun c hc=>?_)
   ·rw[iE]at hc ⊢
    exact⟨⟨hc.1.1,⟨by show 0<=min _ _;omega,by show min _ _<=_;omega⟩,hc.1.2.2.1,.inl hk.1⟩,hlo⟩
   ·rw[iE]at hc ⊢
    exact⟨⟨hc.1.1,⟨by show 0<=min _ _;omega,by show min _ _<=_;omega⟩,hc.1.2.2.1,.inl hk.2⟩,hlo⟩
  ·refine tZ h (fun c hc=>?_) (fun c hc=>?_)
   ·rw[iE]at hc ⊢
    exact⟨⟨hc.1.1,⟨by show 0<=min _ _;omega,by show min _ _<=_;omega⟩,hc.1.2.2.1,hc.1.2.2.2⟩,hc.2⟩
   ·rw[iE]at hc ⊢
    exact⟨⟨hc.1.1,⟨by show 0<=min _ _;omega,by show min _ _<=_;omega⟩,hc.1.2.2.1,hc.1.2.2.2⟩,hc.2⟩
 ·exact h
theorem yL{ks:List Int}{l:List aK}(h:sK ks l)(e:Ex):sK ks (bJ l e):=by
 unfold bJ;split
 ·refine h.upd fun c hc=>?_;rw[iE]at hc ⊢
  exact⟨⟨hc.1.1,by simp[pz],by simp[pz],hc.1.2.2.2⟩,hc.2⟩
 ·exact h
theorem I4{ks:List Int}{l:List aK}(h:sK ks l){w:Nat}{e:Ex}(he:∀k∈e.kids,k.good w):sK ks (jq ks l e):=by
 refine KP ?_ _ _;unfold bL;split
 ·rename_i hb;exact(yL h e).upd fun c hc=>SS hc (ou he hb.1).2
 ·exact yL h e
theorem pM(ks:List Int)(l:List aK)(op:Int)(t:Int×Int×Bool):(gK ks l op t).length=l.length:=by
 unfold gK;simp only;split
 ·split<;>simp[fP]
 ·rfl
theorem I5(ks:List Int)(l:List aK)(e:Ex):(jq ks l e).length=l.length:=by
 unfold jq bL bJ;rw[pM];split
 ·rw[fP];split<;>simp[fP]
 ·split<;>simp[fP]
structure lX (ks:List Int) (t:TS):Prop where
 kinds:aX ks=true
 low:jZ t.low=true
 rows:jZ t.rows=true
 ah:sK ks t.ah
theorem zB{ks:List Int}{t:TS}(h:fC ks t=true)(hi:∀c∈t.ah,mE c):lX ks t:=by obtain⟨hk,hl,hlow,hrow,hcol⟩:=rY.1 h;exact⟨hk,hlow,hrow,hl,fun i h1 h2=>⟨hcol i h1 h2,hi _ (gG h2)⟩⟩
theorem lX.fits{ks:List Int}{t:TS}(h:lX ks t):fC ks t=true:=rY.2 ⟨h.kinds,h.ah.len,h.low,h.rows,fun i h1 h2=>(h.ah.get i h1 h2).1⟩
theorem lX.lo{ks:List Int}{t:TS}(h:lX ks t):∀c∈t.ah,mE c:=fun c hc=>by obtain⟨i,hi,rfl⟩:=List.getElem_of_mem hc;exact(h.ah.get i (by rw[<-h.ah.len];exact hi) hi).2
theorem lX.ok{ks:List Int}{t:TS}(h:lX ks t):TOk ks t:=⟨h.ah.len,fun j hj=>h.lo _ (gG hj),(qX.1 h.rows).1⟩
theorem lX.norm{ks:List Int}{t:TS}(h:lX ks t):lX ks (dw ks t):=zB (Qa h.fits h.lo) (fun c hc=>((BF (qZ h.fits h.lo)).ok.ah c hc).2.2.2)
theorem lX.step{ks:List Int}{t:TS}(h:lX ks t){w:Nat}{e:Ex}(he:e.good w):lX ks (rO ks t e):=by
 have hr:=qX.1 h.rows;refine⟨h.kinds,by simp[rO,jZ],?_,I4 (U8 h.ah _) (Ex.fJ.1 he).kid⟩;have h1:=IY (ks:=ks) hr.1 (fun c hc=>?_) e
 ·have h2:=WN (ks:=ks) (t:=t) e;exact qX.2 ⟨h1,by show Ex.most ks t e<=_;omega⟩
 ·obtain⟨i,hi,rfl⟩:=List.getElem_of_mem hc;have:=(iE.1 (h.ah.get i (by rw[<-h.ah.len];exact hi) hi)).1;exact⟨this.1.1,this.2.2.1.1⟩
theorem lX.PG{ks:List Int}{w:Nat}:∀ {l:List Ex} {t:TS},lX ks t->(∀e∈l,e.good w)->lX ks (fH ks t l)
 | [],t,h,_=>h
 | e::l,t,h,hg=>lX.PG (l:=l) (t:=rO ks t e) (h.step (hg e (by simp))) (fun x hx=>hg x (by simp[hx]))
theorem VR{q g p:Nat}{e:Env}{a b:IC}{m:Nat}{x:X}{s:ax}{P:ax->Prop}(h:s q=⟨g,true,some (.lp e [p] a b .ready),m⟩)
 (hw:wp T [.code a,.Ri q g,.code b,.Rj q g] (upd e p x) s (fun _ s'=>(∃m,s' q=⟨g,true,some (.lp e [p] a b .ready),m⟩)/\P s')) :
 ∃r,gZ (run T) q g [x] s=some r/\r.1=.v (.bool true)/\P r.2:=by
 obtain⟨e',s',hr,⟨m',hq⟩,hp⟩:=hw;exact⟨(.v (.bool true),s'),by simp[gZ,h,puts,hr,Dm,hq],rfl,hp⟩
abbrev But(o:Nat)(s s':ax):Prop:=∀q,¬q=o->s' q=s q
theorem i_walk{q g:Nat}(I:List Ex->ax->Prop)(hI:∀l s s',I l s->But 33006 s s'->I l s')
 (hst:∀x l s,I (x::l) s->∃r,gZ (run T) q g [x.enc] s=some r/\r.1=.v (.bool true)/\I l r.2) :
 ∀n,∀conds:List Ex,aS Ex.size conds<n->n<=9223372036854775807->∀rest s,I (Ex.bR conds++rest) s->
  ∃r,bZ (run T) T Yr [.sl false (conds.map Ex.enc),.Dq q g] s=some r/\(r.1=.v (.bool true)/\I rest r.2):=by
 intro n;induction n with
 | zero=>intro conds h;omega
 | succ n ih=>
  intro conds hn hb rest s hs;have hlen:∀l:List Ex,l.length<=aS Ex.size l:=by
   intro l;induction l with
   | nil=>simp[aS]
   | cons e l ihl=>
    have:=Ex.size_eq e;simp only[List.length_cons,aS];omega
  have hl:=hlen conds;have hll:conds.length<=9223372036854775807:=by omega
  replace hlen:=Hd.mk hlen;replace ih:=Hd.mk ih;replace hI:=Hd.mk hI;replace hst:=Hd.mk hst;refine fF (nt:=26) (res:=[.tmp 4]) (body:=q83B) (P:=fun r=>r.1=.v (.bool true)/\I rest r.2) (by kernel_rfl) (by simp) ?_;simp;refine av (σ:=Nat) (fun i e s=>e 1=.Dq q g/\e 7=.sl false (conds.map Ex.enc)/\e 8=i6 conds.length/\e 9=i6 i/\i<=conds.length/\Hd (I (Ex.bR (conds.drop i)++rest) s)) (fun i=>conds.length-i) ?_ 0 _ _ ⟨by simp,by simp,by simp,by simp,by omega,⟨by simpa using hs⟩⟩;rintro i e s ⟨e1,e7,e8,e9,hi,hA⟩ ih2;simp[e1,e7,e8,e9];refine aj (fun h=>?_) (fun h=>?_)<;>(have h':=h;try simp at h')<;>(try simp[*])
  ·have hee:=conds[i].ay;have hsz:aS Ex.size conds[i].kids<n:=by have h1:=jc (f:=Ex.size) h';have h2:=kY (f:=Ex.size) (l:=conds) (i:=i+1);have h3:=Ex.size_eq conds[i];omega
   have hA:=hA.out;rw[List.drop_eq_getElem_cons h',Ex.jL,List.append_assoc,Ex.parts_eq]at hA
   by_cases hop:conds[i].op=23
   ·rw[if_pos hop]at hA
    replace hA:=Hd.mk hA;rw[hop]at hee
    simp[hee,e1,e7,e8,e9];refine eO (ih.out _ hsz (by omega) _ _ (hI.out _ _ _ hA.out ?_)) ?_
    ·intro o ho;simp[ho]
    rintro⟨r,s2⟩ ⟨hr,hA2⟩;simp only at hr;subst hr;replace hA2:=Hd.mk hA2;simp[e1,e7,e8,e9];refine ih2.out (i+1) _ _ ?_ (by omega);exact⟨by simp[e1],by simp[e7],by simp[e8],by simp[ai h' hll],h',hA2⟩
   ·rw[if_neg hop,List.singleton_append]at hA
    have h1:=fun s' hs'=>hst.out _ _ _ (hI.out _ _ s' hA hs');rw[hee]at h1
    replace h1:=Hd.mk h1;simp[hee,hop,e1,e7,e8,e9];refine eO (h1.out _ ?_) ?_
    ·intro o ho;simp[ho]
    rintro⟨r,s2⟩ ⟨hr,hA2⟩;simp only at hr;subst hr;replace hA2:=Hd.mk hA2;simp[e1,e7,e8,e9];refine ih2.out (i+1) _ _ ?_ (by omega);exact⟨by simp[e1],by simp[e7],by simp[e8],by simp[ai h' hll],h',hA2⟩
  ·have hA:=hA.out;rw[List.drop_eq_nil_of_le (by omega),Ex.kM,List.nil_append]at hA
   simpa[dX,bV,dZ]using hA
theorem Ra{q p gp np:Nat}{conds:List Ex}{e:Env}{a b:IC}{s:ax}{k:List It}{Q:Env->ax->Prop}(hn:aS Ex.size conds<9223372036854775807)
 (hp:s 19001=⟨gp,true,some (.box (.sl false (conds.map Ex.enc))),np⟩) (hq:¬q=19001) (I:List Ex->ax->Prop) (hI:∀l s s',I l s->But 33006 s s'->I l s')
 (h0:I (Ex.bR conds) (aN s q (.lp e [p] a b .ready)))
 (hst:∀x l s',I (x::l) s'->∃r,gZ (run T) q ((s q).g+1) [x.enc] s'=some r/\r.1=.v (.bool true)/\I l r.2)
 (hend:∀s',I [] s'->(∃m,s' q=⟨(s q).g+1,true,some (.lp e [p] a b .ready),m⟩)/\wp T k e (nD s' q) Q) :
 wpL T (n_ (run T) T q (.fn QC [.ptr 19001 gp 0]) [p] a b e s) k e Q:=by
 have hq':¬19001=q:=fun h=>hq h.symm;have hw:=i_walk I hI hst _ conds (Nat.lt_succ_self _) (by omega) [] _ (by rw[List.append_nil];exact h0);obtain⟨⟨r,s'⟩,hr,hr1,hr2⟩:=hw;simp only at hr1 hr2;subst hr1;have hc:∃r,bZ (run T) T QC [.Dq q ((s q).g+1),.ptr 19001 gp 0] (aN s q (.lp e [p] a b .ready))=some r/\r.2=s':=by refine fF (nt:=6) (res:=[]) (body:=q60B) (P:=fun r=>r.2=s') (by kernel_rfl) (by simp) ?_;simp[hp,hq,hq',hr,dX,bV]
 obtain⟨⟨r,s2⟩,hc,rfl⟩:=hc;obtain⟨⟨m,hm⟩,hwp⟩:=hend _ hr2;simp only at hm hwp;simp only[n_,hc,ZM,hm];simpa[wpL]using hwp
theorem bW.put{s:ax}{k g n j:Nat}{Q:List X}{y:X}(hs:s 4005=⟨g,true,some (.row k (Q.set j y)),n⟩)(hq:j<Q.length):bW s 4005 4006 k (.ref 4005 g k 0 Q.length) (Q.set j y):=
 .inr ⟨by intro h;have:=congrArg List.length h;simp at this;subst this;simp at hq,4005,g,n,by rw[List.length_set],hs,by omega,by omega⟩
theorem JC(l:List aK)(a b:List Int):iB l (a++b)=iB (iB l a) b:=by unfold iB;rw[List.foldl_append]
theorem i_put(ks:List Int)(low rows:Int)(x:X)(l:List aK)(e:Ex)(g m:Nat)(s:ax)(hb:s 17002=⟨g,true,some (.box (.agg [.sl false (ks.map u8),i6 low,i6 rows,x])),m⟩)
 (hx:bW s 4005 4006 5 x (l.map aK.enc)) (hj:e.bq=true->∃j:Nat,e.n=j/\j<l.length) :
 ∃r,bZ (run T) T Yp [e.enc,.ptr 17002 g 0] s=some r/\((∀o,¬o=4005->¬o=21002->r.2 o=s o)/\bW r.2 4005 4006 5 x ((iB l (jb e)).map aK.enc)):=by
 refine fF (nt:=17) (res:=[]) (body:=q78B) (P:=fun r=>(∀o,¬o=4005->¬o=21002->r.2 o=s o)/\bW r.2 4005 4006 5 x ((iB l (jb e)).map aK.enc)) (by kernel_rfl) (by simp) ?_;have hee:=e.ay;have ce:=cK e;rw[hee];by_cases hc:e.bq=true
 ·obtain⟨j,hn,hw⟩:=hj hc;have hR:iB l (jb e)=l.set j ⟨0,l[j].distinct,l[j].degree,l[j].lo,l[j].hi⟩:=by simp only[iB,jb,if_pos hc,hn,List.foldl_cons,List.foldl_nil,lU hw]
  rcases hx with⟨h0,_⟩|⟨h0,o,g5,n5,rfl,hs5,h1,h2⟩
  ·exfalso;simp at h0;subst h0;simp at hw
  ·obtain rfl:o=4005:=by omega
   rw[hR,List.map_set];rw[hc,hn]at ce
   rw[hn];have hql:j<(l.map aK.enc).length:=by simpa using hw
   have hz:(l.map aK.enc)[j]=l[j].enc:=by simp
   generalize l[j]=c at *
   generalize l.map aK.enc=Q at *
   simp[ce,hb,hs5,hql,hz,dX,bV];refine⟨fun o a1 a2=>by simp[a1,a2],bW.put (n:=n5+1) ?_ hql⟩;simp[hs5]
 ·simp only[Bool.not_eq_true]at hc;have hR:iB l (jb e)=l:=by simp[iB,jb,hc]
  rw[hR];rw[hc]at ce
  have hx':∀b c,bW (bF (aN s 21002 b) 21002 c) 4005 4006 5 x (l.map aK.enc):=fun b c=>hx.fr (((Fr.refl 21002 21003 s).aN b (by omega)).bF c (by omega)) (by omega);have hx1:∀b,bW (aN s 21002 b) 4005 4006 5 x (l.map aK.enc):=fun b=>hx.fr ((Fr.refl 21002 21003 s).aN b (by omega)) (by omega);simp[ce,dX,bV,hx',hx1];intro o a1 a2;simp[a2]
def FrR(s s':ax):Prop:=∀o,¬o=4005->¬o=17002->¬o=17003->¬o=21002->s' o=s o
theorem Be{w:Nat}{e:Ex}(h:e.good w)(hc:bI e.op=true):∃a b,e.kids=[a,b]/\a.good w/\b.good w:=by have hg:=Ex.fJ.1 h;have h2:=hg.two (by simpa[bI]using hc);obtain⟨a,b,hk⟩:=wo h2;exact⟨a,b,hk,hg.kid a (by simp[hk]),hg.kid b (by simp[hk])⟩
set_option maxHeartbeats 2000000 in
theorem Sq(ks:List Int)(low rows:Int)(x:X)(l:List aK)(e:Ex)(hg:e.good l.length)(s:ax)(hx:bW s 4005 4006 5 x (l.map aK.enc)) :
 ∃r,bZ (run T) T q77n [.agg [.sl false (ks.map u8),i6 low,i6 rows,x],e.enc] s=some r/\(FrR s r.2/\bW r.2 4005 4006 5 x ((iB l (bB e)).map aK.enc)):=by
 refine fF (nt:=63) (res:=[]) (body:=q77B) (P:=fun r=>FrR s r.2/\bW r.2 4005 4006 5 x ((iB l (bB e)).map aK.enc)) (by kernel_rfl) (by simp) ?_;have hee:=e.ay;have h1:=hx.one.1;have h2:=hx.one.2;have put:=fun(k:Ex) (hk:k.good l.length) (l':List aK) (hl:l'.length=l.length) (s':ax) (m:Nat) (hb:s' 17002=⟨(s 17002).g+1,true,some (.box (.agg [.sl false (ks.map u8),i6 low,i6 rows,x])),m⟩) (hx':bW s' 4005 4006 5 x (l'.map aK.enc))=>
  i_put ks low rows x l' k _ m s' hb hx' (fun hc=>by rw[hl];exact Ex.eT hk hc)
 replace put:=Hd.mk put;have frx:∀s',(∀o,¬o=17002->¬o=17003->s' o=s o)->bW s' 4005 4006 5 x (l.map aK.enc):=fun s' h=>hx.fr (lo':=17002) (hi':=17004) ⟨fun o ho=>h o (by omega) (by omega)⟩ (by omega);replace frx:=Hd.mk frx;replace hx:=Hd.mk hx;have op8:∀k:Ex,k.good l.length->∀s' m,s' 17002=⟨(s 17002).g+1,true,some (.box (.agg [.sl false (ks.map u8),i6 low,i6 rows,x])),m⟩->(∀o,¬o=17002->¬o=17003->s' o=s o)->∃r,bZ (run T) T Yp [k.enc,.ptr 17002 ((s 17002).g+1) 0] s'=some r/\(FrR s r.2/\bW r.2 4005 4006 5 x ((iB l (jb k)).map aK.enc)/\r.2 17002=s' 17002/\r.2 17003=s' 17003):=fun k hk s' m hb hf=>by obtain⟨r,hr,hfr,hsl⟩:=put.out k hk l rfl s' m hb (frx.out s' hf);exact⟨r,hr,fun o a1 a2 a3 a4=>by rw[hfr o a1 a4,hf o a2 a3],hsl,hfr _ (by omega) (by omega),hfr _ (by omega) (by omega)⟩
 replace op8:=Hd.mk op8;rw[hee];by_cases o2:e.op=2
 ·have hR:bB e=jb e:=by simp[bB,o2]
  rw[hR];have hp:=op8.out e hg;rw[hee,o2]at hp
  rw[o2];replace hp:=Hd.mk hp;simp[h1,h2];refine eO (hp.out _ _ (by simp;rfl) ?_) ?_
  ·intro o a1 a2;simp[a1,a2]
  rintro⟨r,s2⟩ ⟨hF,hS,_⟩;simp[dX,bV];exact⟨hF,hS⟩
 by_cases o22:e.op=22
 ·obtain⟨k,l',hk,hgk⟩:=Ex.dG hg (by omega);have hke:=k.ay;have hh:bn e.kids=k:=by rw[hk];rfl
  by_cases k20:k.op=20
  ·obtain⟨k2,l2,hk2,hgk2⟩:=Ex.dG hgk (by omega);have hh2:bn k.kids=k2:=by rw[hk2];rfl
   have hR:bB e=jb k2:=by simp[bB,o22,hh,k20,hh2]
   rw[hR];have hp:=op8.out k2 hgk2;rw[k2.ay]at hp
   rw[o22,hk,ku,hke,k20,hk2,ku,k2.ay];replace hp:=Hd.mk hp;simp[h1,h2];refine eO (hp.out _ _ (by simp;rfl) ?_) ?_
   ·intro o a1 a2;simp[a1,a2]
   rintro⟨r,s2⟩ ⟨hF,hS,_⟩;simp[dX,bV];exact⟨hF,hS⟩
  ·have hR:bB e=jb k:=by simp[bB,o22,hh,k20]
   rw[hR];have hp:=op8.out k hgk;rw[hke]at hp
   rw[o22,hk,ku,hke];replace hp:=Hd.mk hp;simp[h1,h2,k20];refine eO (hp.out _ _ (by simp;rfl) ?_) ?_
   ·intro o a1 a2;simp[a1,a2]
   rintro⟨r,s2⟩ ⟨hF,hS,_⟩;simp[dX,bV];exact⟨hF,hS⟩
 by_cases o19:e.op=19
 ·obtain⟨k,l',hk,hgk⟩:=Ex.dG hg (by omega);have hke:=k.ay;have hh:bn e.kids=k:=by rw[hk];rfl
  have hR:bB e=jb k:=by simp[bB,o19,hh]
  rw[hR];have hp:=op8.out k hgk;rw[hke]at hp
  rw[o19,hk,ku,hke];replace hp:=Hd.mk hp;simp[h1,h2];refine eO (hp.out _ _ (by simp;rfl) ?_) ?_
  ·intro o a1 a2;simp[a1,a2]
  rintro⟨r,s2⟩ ⟨hF,hS,_⟩;simp[dX,bV];exact⟨hF,hS⟩
 have hcm:=kH e.op;by_cases oc:bI e.op=true
 ·obtain⟨a,b,hk,hga,hgb⟩:=Be hg oc;have ha:=a.ay;have hb:=b.ay;have hR:bB e=jb a++jb b:=by simp[bB,o2,o22,o19,oc,hk,bn,YG]
  rw[hR,JC];have hp:=op8.out a hga;rw[ha]at hp
  have hp2:=put.out b hgb (iB l (jb a)) (oO _ _);rw[hb]at hp2
  rw[hk,ku,ku,List.map_nil,ha,hb];rw[oc]at hcm
  replace hp:=Hd.mk hp;replace hp2:=Hd.mk hp2;simp[h1,h2,o2,o22,o19,hcm];refine eO (hp.out _ _ (by simp;rfl) ?_) ?_
  ·intro o a1 a2;simp[a1,a2]
  rintro⟨r,s2⟩ ⟨hF,hS,hb2,hb3⟩;simp at hb2 hb3;replace hS:=Hd.mk hS;simp[hb2,hb3];refine eO (hp2.out _ _ (by simp[hb2];rfl) hS.out) ?_;rintro⟨r,s3⟩ ⟨hF3,hS3⟩;simp[dX,bV];exact⟨fun o a1 a2 a3 a4=>(hF3 o a1 a4).trans (hF o a1 a2 a3 a4),hS3⟩
 ·simp only[Bool.not_eq_true]at oc;have hR:bB e=[]:=by simp[bB,o2,o22,o19,oc]
  rw[oc]at hcm
  rw[hR];simp[h1,h2,o2,o22,o19,hcm,dX,bV];exact⟨fun o a1 a2 a3 a4=>by simp[a2,a3],frx.out _ (fun o a1 a2=>by simp[a1,a2])⟩
def FrN(s s':ax):Prop:=∀o,¬o=4005->¬o=18002->¬o=18003->¬o=18006->s' o=s o
def Ae(s:ax)(x:X)(l:List aK)(e:Env)(s':ax):Prop:=∃r,dX e s' []=some r/\(FrN s s'/\bW s' 4005 4006 5 x (l.map aK.enc))
structure Dr (ks:List Int) (low rows:Int) (x:X) (e:Ex) (s:ax) (l:List aK) (en:Env) (s':ax):Prop where
 e2:en 2=.ptr 18002 ((s 18002).g+1) 0
 e3:en 3=.ptr 18003 ((s 18003).g+1) 0
 s2:∃m,s' 18002=⟨(s 18002).g+1,true,some (.box (.agg [.sl false (ks.map u8),i6 low,i6 rows,x])),m⟩
 s3:∃m,s' 18003=⟨(s 18003).g+1,true,some (.box e.enc),m⟩
 fr:FrN s s'
 sl:bW s' 4005 4006 5 x (l.map aK.enc)
theorem Gn{α:Type}{a b:Nat}(h:¬a=b)(l:List α)(x y z:α):((l.set a x).set b y).set a z=(l.set a z).set b y:=by rw[List.set_comm _ _ (Ne.symm h:b≠a),List.set_set]
theorem Bw(ks:List Int)(l:List aK)(i j:Nat)(hil:i<l.length)(hjl:j<l.length)(hik:i<ks.length)(hjk:j<ks.length):(gK ks l 12 (i,j,true)).map aK.enc=(if ks[i]=1/\ks[j]=1 then
 ((l.map aK.enc).set i (aK.enc ⟨l[i].bC,min l[i].distinct l[j].distinct,l[i].degree,max l[i].lo l[j].lo,min l[i].hi l[j].hi⟩)).set j (aK.enc ⟨l[j].bC,min l[i].distinct l[j].distinct,l[j].degree,max l[i].lo l[j].lo,min l[i].hi l[j].hi⟩)
 else((l.map aK.enc).set i (aK.enc ⟨l[i].bC,min l[i].distinct l[j].distinct,l[i].degree,l[i].lo,l[i].hi⟩)).set j (aK.enc ⟨l[j].bC,min l[i].distinct l[j].distinct,l[j].degree,l[j].lo,l[j].hi⟩)):=by
 have kn1:=dP hik;have kn2:=dP hjk;have g1:l.getD i ⟨0,0,0,0,0⟩=l[i]:=by simp[hil]
 have g2:l.getD j ⟨0,0,0,0,0⟩=l[j]:=by simp[hjl]
 unfold gK;simp only[and_self,if_true,kn1,kn2,Int.toNat_natCast,g1,g2];have hu:∀f g:aK->aK,nE (nE l (i:Int) f) (j:Int) g=(l.set i (f l[i])).set j (g (if i=j then f l[i]else l[j])):=fun f g=>by
  rw[lU hil,lU (by simpa using hjl)];by_cases hij:i=j
  ·subst hij;simp
  ·rw[if_neg hij,List.getElem_set_ne hij]
 split
 ·rw[hu _ _,List.map_set,List.map_set];by_cases hij:i=j
  ·subst hij;simp
  ·simp[hij]
 ·rw[hu _ _,List.map_set,List.map_set];by_cases hij:i=j
  ·subst hij;simp
  ·simp[hij]
set_option maxHeartbeats 4000000 in
theorem nar3(ks:List Int)(low rows:Int)(x:X)(e:Ex)(l:List aK)(hkl:l.length=ks.length)(hg:∀k∈e.kids,k.good l.length)(s:ax)(en:Env)(s':ax)(h:Dr ks low rows x e s l en s') :
 wp T [.code (.seq (.ops Gb) (.seq (.ops Gc) (.cond (.t 131) (.seq (.aH [] [] Gd zY) (.seq (.aH [] [] Gf zZ) (.seq (.ops Gg) (.seq (.ops Gh) (.cond (.t 174) (.seq (.aH [] [] Gi z8) (.aH [] [] Gj z_)) .skip))))) .skip)))] en s'
  (Ae s x (gK ks l e.op (jh e.op e.kids))):=by
 obtain⟨e2,e3,⟨m2,s2⟩,⟨m3,s3⟩,hfr,hsl⟩:=h;have hee:=e.ay;have ct:=p9 e;have hin:=Ad (op:=e.op) hg;generalize jh e.op e.kids=t at ct hin ⊢;obtain⟨a,b,is⟩:=t;rw[hee]at ct s3
 replace hfr:=Hd.mk hfr;by_cases hc:is=true/\e.op=12
 ·obtain⟨rfl,ho⟩:=hc;obtain⟨⟨i,hi,hil⟩,⟨j,hj,hjl⟩⟩:=hin rfl;simp only at hi hj;subst hi;subst hj;rw[ho]at ct s3
  rcases hsl with⟨h0,_⟩|⟨h0,o,g5,n5,rfl,hs5,q1,q2⟩
  ·exfalso;simp at h0;subst h0;simp at hil
  obtain rfl:o=4005:=by omega
  have hik:i<ks.length:=by omega
  have hjk:j<ks.length:=by omega
  have kn1:=dP hik;have kn2:=dP hjk;have g1:l.getD i ⟨0,0,0,0,0⟩=l[i]:=by simp[hil]
  have g2:l.getD j ⟨0,0,0,0,0⟩=l[j]:=by simp[hjl]
  have hql:i<(l.map aK.enc).length:=by simpa using hil
  have hqj:j<(l.map aK.enc).length:=by simpa using hjl
  have hz1:(l.map aK.enc)[i]=l[i].enc:=by simp
  have hz2:(l.map aK.enc)[j]=l[j].enc:=by simp
  have hR:=Bw ks l i j hil hjl hik hjk;rw[<-ho]at hR
  have hout:∀en' st,(∃n,st 4005=⟨g5,true,some (.row 5 ((gK ks l e.op (i,j,true)).map aK.enc)),n⟩)->FrN s st->Ae s (.ref 4005 g5 5 0 (l.map aK.enc).length) (gK ks l e.op (i,j,true)) en' st:=fun en' st ⟨n,hst⟩ hf=>by
   refine⟨_,rfl,hf,.inr ⟨?_,4005,g5,n,?_,hst,by omega,by omega⟩⟩
   ·intro h;have:=congrArg List.length h;simp[pM]at this;subst this;simp at hil
   ·simp[pM]
  rw[hR]at hout
  generalize gK ks l e.op (i,j,true)=N at *
  replace hout:=Hd.mk hout;clear hR kn1 kn2 g1 g2 hin hkl hg;by_cases hij:i=j
  ·subst hij;generalize l[i]=ci at *
   generalize l.map aK.enc=Q at *
   by_cases k1:ks[i]=1
   ·simp[e2,e3,s2,s3,ct,hs5,hql,hz1,hik,k1];exact hout.out _ _ (aP (by simp[hs5]) (by simp[hs5]) (by simp[hs5,hz1,hql,k1])) (fun o a1 a2 a3 a4=>by simp[a1];exact hfr.out o a1 a2 a3 a4)
   ·simp[e2,e3,s2,s3,ct,hs5,hql,hz1,hik,k1];exact hout.out _ _ (aP (by simp[hs5]) (by simp[hs5]) (by simp[hs5,hz1,hql,k1])) (fun o a1 a2 a3 a4=>by simp[a1];exact hfr.out o a1 a2 a3 a4)
  ·generalize l[i]=ci at *
   generalize l[j]=cj at *
   generalize l.map aK.enc=Q at *
   have hji:=Ne.symm hij;by_cases k1:ks[i]=1
   ·by_cases k2:ks[j]=1
    ·simp[e2,e3,s2,s3,ct,hs5,hql,hz1,hz2,hqj,hjk,hij,hji,hik,k1,k2];exact hout.out _ _ (aP (by simp[hs5]) (by simp[hs5]) (by simp[hs5,hz1,hz2,hqj,hjk,hij,hji,hql,k1,k2,Gn hij])) (fun o a1 a2 a3 a4=>by simp[a1];exact hfr.out o a1 a2 a3 a4)
    ·simp[e2,e3,s2,s3,ct,hs5,hql,hz1,hz2,hqj,hjk,hij,hji,hik,k1,k2];exact hout.out _ _ (aP (by simp[hs5]) (by simp[hs5]) (by simp[hs5,hz1,hz2,hqj,hjk,hij,hji,hql,k1,k2,Gn hij])) (fun o a1 a2 a3 a4=>by simp[a1];exact hfr.out o a1 a2 a3 a4)
   ·simp[e2,e3,s2,s3,ct,hs5,hql,hz1,hz2,hqj,hjk,hij,hji,hik,k1];exact hout.out _ _ (aP (by simp[hs5]) (by simp[hs5]) (by simp[hs5,hz1,hz2,hqj,hjk,hij,hji,hql,k1])) (fun o a1 a2 a3 a4=>by simp[a1];exact hfr.out o a1 a2 a3 a4)
 ·have hR:gK ks l e.op (a,b,is)=l:=by unfold gK;rw[if_neg hc]
  rw[hR];replace hsl:=Hd.mk hsl;cases is with
  | false=>
   simp[e2,e3,s2,s3,ct];exact⟨_,rfl,hfr.out,hsl.out⟩
  | true=>
   have ho:¬e.op=12:=fun h=>hc ⟨rfl,h⟩;simp[e2,e3,s2,s3,ct,ho];exact⟨_,rfl,hfr.out,hsl.out⟩
theorem Y_{c:aK}{op k:Int}(h:(aY c op k).2.2=false):(aY c op k).1=c.lo/\(aY c op k).2.1=c.hi:=by
 unfold aY at h ⊢
 repeat' split at h
 all_goals (first|(simp at h;done)|simp_all)
set_option maxHeartbeats 4000000 in
theorem nar2(ks:List Int)(low rows:Int)(x:X)(e:Ex)(l:List aK)(hkl:l.length=ks.length)(hg:∀k∈e.kids,k.good l.length)(s:ax)(en:Env)(s':ax)(h:Dr ks low rows x e s l en s')(k:List It)(Q:Env->ax->Prop)
 (hk:∀en' st,Dr ks low rows x e s (bL ks l (a_ e.op e.kids)) en' st->wp T k en' st Q) :
 wp T (.code (.seq (.ops OC) (.seq (.ops OD) (.cond (.t 52) (.seq (.ops OE) (.seq (.seq (.ops OG) (.cond (.t 66) (.ops OH) .skip)) (.seq (.ops F7) (.cond (.t 90) (.seq (.aH [] [] F8 zX) (.seq (.ops F9) (.seq (.ops F_) (.cond (.t 113) (.ops Ga) .skip)))) .skip)))) .skip)))::k) en s' Q:=by
 obtain⟨e2,e3,⟨m2,s2⟩,⟨m3,s3⟩,hfr,hsl⟩:=h;have hee:=e.ay;have ct:=tJ e;have hin:=ou (op:=e.op) hg;generalize a_ e.op e.kids=t at ct hin hk;obtain⟨⟨op,cn,⟨vk,vi,vs⟩⟩,is⟩:=t;rw[hee]at ct s3
 replace hk:=Hd.mk hk;have hfr6:Hd (∀st,(∀o,¬o=18006->¬o=4005->st o=s' o)->FrN s st):=⟨fun st h o a1 a2 a3 a4=>(h o a4 a1).trans (hfr o a1 a2 a3 a4)⟩
 have hsl6:Hd (∀st,(∀o,¬o=18006->st o=s' o)->bW st 4005 4006 5 x (l.map aK.enc)):=⟨fun st h=>hsl.fr (lo':=18006) (hi':=18007) ⟨fun o ho=>h o (by omega)⟩ (by omega)⟩
 by_cases hc:is=true/\¬vk=0
 ·obtain⟨rfl,hv0⟩:=hc;obtain⟨⟨j,hj,hjl⟩,hvr⟩:=hin rfl;simp only at hj hvr;subst hj;rcases hsl with⟨h0,_⟩|⟨h0,o,g5,n5,rfl,hs5,q1,q2⟩
  ·exfalso;simp at h0;subst h0;simp at hjl
  obtain rfl:o=4005:=by omega
  have hjk:j<ks.length:=by omega
  have kn:=dP hjk;have hql:j<(l.map aK.enc).length:=by simpa using hjl
  have hz:(l.map aK.enc)[j]=l[j].enc:=by simp
  have hR:bL ks l (⟨op,j,⟨vk,vi,vs⟩⟩,true)=l.set j (Bv ks[j] op vk vi l[j]):=by unfold bL;rw[if_pos ⟨rfl,hv0⟩];simp only[kn];rw[lU hjl]
  rw[hR]at hk
  have fin:Hd (∀en' st,en' 2=.ptr 18002 ((s 18002).g+1) 0->en' 3=.ptr 18003 ((s 18003).g+1) 0->(∀o,¬o=18006->¬o=4005->st o=s' o)->(∃n,st 4005=⟨g5,true,some (.row 5 ((l.map aK.enc).set j (Bv ks[j] op vk vi l[j]).enc)),n⟩)->wp T k en' st Q):=⟨fun en' st a2 a3 ha ⟨n,h5⟩=>
   hk.out en' st ⟨a2,a3,⟨m2,by rw[ha _ (by omega) (by omega)];exact s2⟩,⟨m3,by rw[ha _ (by omega) (by omega),hee];exact s3⟩,hfr6.out st ha,by rw[List.map_set];exact bW.put h5 hql⟩⟩
  have hsp:=vC (lJ op l[j]) op vi hvr;have hno:=Y_ (c:=lJ op l[j]) (op:=op) (k:=vi);have hwi:Bv ks[j] op vk vi l[j]=if ks[j]=1/\vk=1 then fB (lJ op l[j]) op vi else lJ op l[j]:=rfl
  unfold fB at hwi;generalize aY (lJ op l[j]) op vi=sp at hsp hno hwi;obtain⟨lo,hi,sm⟩:=sp;simp only at hsp hno hwi;clear hk hR kn hfr6 hsl6;generalize Bv ks[j] op vk vi l[j]=N at fin hwi;generalize l[j]=c at *
  generalize l.map aK.enc=R at *
  have hkj:(ks.map u8)[j]'(by simpa using hjk)=u8 ks[j]:=by simp
  by_cases o1:op=12\/op=18
  ·have hne:lJ op c=⟨0,min c.distinct 1,c.degree,c.lo,c.hi⟩:=if_pos o1;rw[hne]at hsp hno hwi
   rcases o1 with rfl|rfl
   ·by_cases k1:ks[j]=1
    ·by_cases v1:vk=1
     ·subst v1;rw[if_pos ⟨k1,rfl⟩]at hwi
      cases sm
      ·obtain⟨rfl,rfl⟩:=hno rfl;simp[e2,e3,s2,s3,ct,hs5,hql,hz,hjk,hv0,k1,hsp];exact fin.out _ _ (by simp[e2]) (by simp[e3]) (fun o a1 a2=>by simp[a1,a2]) (aP (by simp[hs5]) (by simp[hs5]) (by simp[hs5,hz,hql,hwi]))
      ·simp[e2,e3,s2,s3,ct,hs5,hql,hz,hjk,hv0,k1,hsp];exact fin.out _ _ (by simp[e2]) (by simp[e3]) (fun o a1 a2=>by simp[a1,a2]) (aP (by simp[hs5]) (by simp[hs5]) (by simp[hs5,hz,hql,hwi]))
     ·rw[if_neg (fun h=>v1 h.2)]at hwi
      simp[e2,e3,s2,s3,ct,hs5,hql,hz,hjk,hv0,k1,v1];exact fin.out _ _ (by simp[e2]) (by simp[e3]) (fun o a1 a2=>by simp[a1,a2]) (aP (by simp[hs5]) (by simp[hs5]) (by simp[hs5,hz,hql,hwi]))
    ·rw[if_neg (fun h=>k1 h.1)]at hwi
     simp[e2,e3,s2,s3,ct,hs5,hql,hz,hjk,hv0,k1];exact fin.out _ _ (by simp[e2]) (by simp[e3]) (fun o a1 a2=>by simp[a1,a2]) (aP (by simp[hs5]) (by simp[hs5]) (by simp[hs5,hz,hql,hwi]))
   ·by_cases k1:ks[j]=1
    ·by_cases v1:vk=1
     ·subst v1;rw[if_pos ⟨k1,rfl⟩]at hwi
      cases sm
      ·obtain⟨rfl,rfl⟩:=hno rfl;simp[e2,e3,s2,s3,ct,hs5,hql,hz,hjk,hv0,k1,hsp];exact fin.out _ _ (by simp[e2]) (by simp[e3]) (fun o a1 a2=>by simp[a1,a2]) (aP (by simp[hs5]) (by simp[hs5]) (by simp[hs5,hz,hql,hwi]))
      ·simp[e2,e3,s2,s3,ct,hs5,hql,hz,hjk,hv0,k1,hsp];exact fin.out _ _ (by simp[e2]) (by simp[e3]) (fun o a1 a2=>by simp[a1,a2]) (aP (by simp[hs5]) (by simp[hs5]) (by simp[hs5,hz,hql,hwi]))
     ·rw[if_neg (fun h=>v1 h.2)]at hwi
      simp[e2,e3,s2,s3,ct,hs5,hql,hz,hjk,hv0,k1,v1];exact fin.out _ _ (by simp[e2]) (by simp[e3]) (fun o a1 a2=>by simp[a1,a2]) (aP (by simp[hs5]) (by simp[hs5]) (by simp[hs5,hz,hql,hwi]))
    ·rw[if_neg (fun h=>k1 h.1)]at hwi
     simp[e2,e3,s2,s3,ct,hs5,hql,hz,hjk,hv0,k1];exact fin.out _ _ (by simp[e2]) (by simp[e3]) (fun o a1 a2=>by simp[a1,a2]) (aP (by simp[hs5]) (by simp[hs5]) (by simp[hs5,hz,hql,hwi]))
  ·have hne:lJ op c=c:=if_neg o1;rw[hne]at hsp hno hwi
   have o12:¬op=12:=fun h=>o1 (.inl h);have o18:¬op=18:=fun h=>o1 (.inr h);have hzz:=List.set_getElem_self hql;rw[hz]at hzz
   replace hzz:=Hd.mk hzz.symm;by_cases k1:ks[j]=1
   ·by_cases v1:vk=1
    ·subst v1;rw[if_pos ⟨k1,rfl⟩]at hwi
     cases sm
     ·obtain⟨rfl,rfl⟩:=hno rfl;simp[e2,e3,s2,s3,ct,hs5,hql,hz,hjk,hv0,o12,o18,k1,hsp];exact fin.out _ _ (by simp[e2]) (by simp[e3]) (fun o a1 a2=>by simp[a1,a2]) (aP (by simp[hs5]) (by simp[hs5]) (by simp[hs5,hz,hql,hwi]))
     ·simp[e2,e3,s2,s3,ct,hs5,hql,hz,hjk,hv0,o12,o18,k1,hsp];exact fin.out _ _ (by simp[e2]) (by simp[e3]) (fun o a1 a2=>by simp[a1,a2]) (aP (by simp[hs5]) (by simp[hs5]) (by simp[hs5,hz,hql,hwi]))
    ·rw[if_neg (fun h=>v1 h.2)]at hwi
     simp[e2,e3,s2,s3,ct,hs5,hql,hz,hjk,hv0,o12,o18,k1,v1];exact fin.out _ _ (by simp[e2]) (by simp[e3]) (fun o a1 a2=>by simp[a1,a2]) (aP (by simp[hs5]) (by simp[hs5]) (by simp[hs5,hz,hql,hwi];exact hzz.out))
   ·rw[if_neg (fun h=>k1 h.1)]at hwi
    simp[e2,e3,s2,s3,ct,hs5,hql,hz,hjk,hv0,o12,o18,k1];exact fin.out _ _ (by simp[e2]) (by simp[e3]) (fun o a1 a2=>by simp[a1,a2]) (aP (by simp[hs5]) (by simp[hs5]) (by simp[hs5,hz,hql,hwi];exact hzz.out))
 ·have hR:bL ks l (⟨op,cn,⟨vk,vi,vs⟩⟩,is)=l:=by unfold bL;rw[if_neg hc]
  rw[hR]at hk
  have fin:Hd (∀en' st,en' 2=.ptr 18002 ((s 18002).g+1) 0->en' 3=.ptr 18003 ((s 18003).g+1) 0->(∀o,¬o=18006->st o=s' o)->wp T k en' st Q):=⟨fun en' st a2 a3 ha=>
   hk.out en' st ⟨a2,a3,⟨m2,by rw[ha _ (by omega)];exact s2⟩,⟨m3,by rw[ha _ (by omega),hee];exact s3⟩,hfr6.out st (fun o p1 _=>ha o p1),hsl6.out st ha⟩⟩
  cases is with
  | false=>
   simp[e2,e3,s2,s3,ct];refine fin.out _ _ (by simp[e2]) (by simp[e3]) (fun o a1=>by simp[a1])
  | true=>
   have ho:vk=0:=Classical.byContradiction fun h=>hc ⟨rfl,h⟩;subst ho;simp[e2,e3,s2,s3,ct];refine fin.out _ _ (by simp[e2]) (by simp[e3]) (fun o a1=>by simp[a1])
set_option maxHeartbeats 4000000 in
theorem Sn(ks:List Int)(low rows:Int)(x:X)(l:List aK)(e:Ex)(hkl:l.length=ks.length)(hg:e.good l.length)(s:ax)(hx:bW s 4005 4006 5 x (l.map aK.enc)) :
 ∃r,bZ (run T) T q74n [.agg [.sl false (ks.map u8),i6 low,i6 rows,x],e.enc] s=some r/\(FrN s r.2/\bW r.2 4005 4006 5 x ((jq ks l e).map aK.enc)):=by
 refine fF (nt:=213) (res:=[]) (body:=Yo) (P:=fun r=>FrN s r.2/\bW r.2 4005 4006 5 x ((jq ks l e).map aK.enc)) (by kernel_rfl) (by simp) ?_;change wp T [.code Yo] _ s (Ae s x (jq ks l e));have hee:=e.ay;have h1:=hx.one.1;have h2:=hx.one.2;have hkid:=(Ex.fJ.1 hg).kid;have n3:=fun en s' (h:Dr ks low rows x e s (bL ks (bJ l e) (a_ e.op e.kids)) en s')=>nar3 ks low rows x e _ (by unfold bL bJ;split<;>(try rw[fP])<;>(split<;>simp[fP,hkl])) (fun k hk=>by
  have:=hkid k hk;have hl:(bL ks (bJ l e) (a_ e.op e.kids)).length=l.length:=by unfold bL bJ;split<;>(try rw[fP])<;>(split<;>simp[fP])
  rw[hl];exact this) s en s' h
 have n2:=fun en s' (h:Dr ks low rows x e s (bJ l e) en s') k Q hk=>nar2 ks low rows x e _ (by unfold bJ;split<;>simp[fP,hkl]) (fun k hk=>by
  have:=hkid k hk;have hl:(bJ l e).length=l.length:=by unfold bJ;split<;>simp[fP]
  rw[hl];exact this) s en s' h k Q hk
 have fin:Hd (∀en s',Dr ks low rows x e s (bJ l e) en s'->wp T [.code (.seq (.seq (.ops OC) (.seq (.ops OD) (.cond (.t 52) (.seq (.ops OE) (.seq (.seq (.ops OG) (.cond (.t 66) (.ops OH) .skip)) (.seq (.ops F7) (.cond (.t 90) (.seq (.aH [] [] F8 zX) (.seq (.ops F9) (.seq (.ops F_) (.cond (.t 113) (.ops Ga) .skip)))) .skip)))) .skip)))
  (.seq (.ops Gb) (.seq (.ops Gc) (.cond (.t 131) (.seq (.aH [] [] Gd zY) (.seq (.aH [] [] Gf zZ) (.seq (.ops Gg) (.seq (.ops Gh) (.cond (.t 174) (.seq (.aH [] [] Gi z8) (.aH [] [] Gj z_)) .skip))))) .skip))))] en s' (Ae s x (jq ks l e))):=⟨fun en s' h=>by rw[wp_seq];exact n2 en s' h _ _ (fun en' st h'=>n3 en' st h')⟩
 clear n2 n3;obtain⟨C,hC⟩:∃C:IC,C=(.seq (.seq (.ops OC) (.seq (.ops OD) (.cond (.t 52) (.seq (.ops OE) (.seq (.seq (.ops OG) (.cond (.t 66) (.ops OH) .skip)) (.seq (.ops F7) (.cond (.t 90) (.seq (.aH [] [] F8 zX) (.seq (.ops F9) (.seq (.ops F_) (.cond (.t 113) (.ops Ga) .skip)))) .skip)))) .skip)))
  (.seq (.ops Gb) (.seq (.ops Gc) (.cond (.t 131) (.seq (.aH [] [] Gd zY) (.seq (.aH [] [] Gf zZ) (.seq (.ops Gg) (.seq (.ops Gh) (.cond (.t 174) (.seq (.aH [] [] Gi z8) (.aH [] [] Gj z_)) .skip))))) .skip)))):=⟨_,rfl⟩
 rw[<-hC]at fin
 have hB:Yo=.seq (.ops q74r0) (.seq (.seq (.ops q74r1) (.cond (.t 19) (.seq (.ops q74r2) (.seq (.ops q74r3) (.cond (.t 28) (.aH [2,33,34] [] q74r4 UR) .skip))) .skip)) C):=by rw[hC]
 rw[hB];clear hB hC;have frn:Hd (∀st,(∀o,¬o=18002->¬o=18003->¬o=4005->st o=s o)->FrN s st):=⟨fun st h o a1 a2 a3 a4=>h o a2 a3 a1⟩
 have frx:Hd (∀st,(∀o,¬o=18002->¬o=18003->st o=s o)->bW st 4005 4006 5 x (l.map aK.enc)):=⟨fun st h=>hx.fr (lo':=18002) (hi':=18004) ⟨fun o ho=>h o (by omega) (by omega)⟩ (by omega)⟩
 by_cases o20:e.op=20
 ·obtain⟨k,l',hk,hgk⟩:=Ex.dG hg (by omega);have hke:=k.ay;have ck:=cK k;have hh:bn e.kids=k:=by rw[hk];rfl
  have hR:bJ l e=if k.bq=true then nE l k.n pz else l:=by unfold bJ;rw[hh];simp[o20]
  rw[hR]at fin
  generalize jq ks l e=N at *
  have hee':Hd (e.enc=X.agg [X.v (.int .u8 20),X.v (.int .u8 e.vk),i6 e.vi,X.v (.string e.vs),i6 e.up,i6 e.n,X.sl false (X.agg [X.v (.int .u8 k.op),X.v (.int .u8 k.vk),i6 k.vi,X.v (.string k.vs),i6 k.up,i6 k.n,.sl false (k.kids.map Ex.enc),.sl false (k.sub.map Pn.enc)]::l'.map Ex.enc),X.sl false (e.sub.map Pn.enc)]):=⟨by rw[hee,o20,hk,ku,hke]⟩
  rw[hee'.out];by_cases hc:k.bq=true
  ·obtain⟨j,hj,hw⟩:=Ex.eT hgk hc;rw[if_pos hc,hj,lU hw]at fin
   rw[hc,hj]at ck
   rw[hj]at hee' ⊢
   rcases hx with⟨h0,_⟩|⟨h0,o,g5,n5,rfl,hs5,q1,q2⟩
   ·exfalso;simp at h0;subst h0;simp at hw
   obtain rfl:o=4005:=by omega
   have hql:j<(l.map aK.enc).length:=by simpa using hw
   have hz:(l.map aK.enc)[j]=l[j].enc:=by simp
   have fin2:Hd (∀en' st,en' 2=.ptr 18002 ((s 18002).g+1) 0->en' 3=.ptr 18003 ((s 18003).g+1) 0->(∃m,st 18002=⟨(s 18002).g+1,true,some (.box (.agg [.sl false (ks.map u8),i6 low,i6 rows,.ref 4005 g5 5 0 (l.map aK.enc).length])),m⟩)->(∃m,st 18003=⟨(s 18003).g+1,true,some (.box e.enc),m⟩)->(∀o,¬o=18002->¬o=18003->¬o=4005->st o=s o)->(∃n,st 4005=⟨g5,true,some (.row 5 ((l.map aK.enc).set j (pz l[j]).enc)),n⟩)->wp T [.code C] en' st (Ae s (.ref 4005 g5 5 0 (l.map aK.enc).length) N)):=⟨fun en' st a2 a3 b2 b3 ha ⟨n,h5⟩=>
    fin.out en' st ⟨a2,a3,b2,b3,frn.out st ha,by rw[List.map_set];exact bW.put h5 hql⟩⟩
   rw[hee'.out]at fin2
   clear fin frx;generalize l[j]=c at *
   generalize l.map aK.enc=R at *
   simp[ck,hs5,hql,hz];refine fin2.out _ _ (by simp) (by simp) (aP (by simp) (by simp) (by simp)) (aP (by simp) (by simp) (by simp)) (fun o a1 a2 a3=>by simp[a1,a2,a3]) (aP (by simp[hs5]) (by simp[hs5]) (by simp[hs5,hz,hql,pz]))
  ·rw[if_neg hc]at fin
   simp only[Bool.not_eq_true]at hc;rw[hc]at ck
   simp[ck,h1,h2];refine fin.out _ _ ⟨by simp,by simp,aP (by simp) (by simp) (by simp),aP (by simp) (by simp) (by simp[hee'.out]),frn.out _ (fun o a1 a2 a3=>by simp[a1,a2]),frx.out _ (fun o a1 a2=>by simp[a1,a2])⟩
 ·have hR:bJ l e=l:=by unfold bJ;rw[if_neg (fun h=>o20 h.1)]
  rw[hR]at fin
  generalize jq ks l e=N at *
  rw[hee];simp[o20,h1,h2];refine fin.out _ _ ⟨by simp,by simp,aP (by simp) (by simp) (by simp),aP (by simp) (by simp) (by simp[hee]),frn.out _ (fun o a1 a2 a3=>by simp[a1,a2]),frx.out _ (fun o a1 a2=>by simp[a1,a2])⟩
def O3(ks:List Int)(t:TS)(p:List Nat)(f:Nat)(xs:List X):Prop:=BJ T p f xs=some (.agg [.sl false (ks.map u8),i6 t.low,i6 t.rows,.nil],if t.ah=[]then none else some (5,t.ah.map aK.enc))
theorem xS(ks:List Int)(t:TS)(hl:t.ah.length<=3518437208883)(hkl:ks.length<=9223372036854775807)(hi:∀c∈t.ah,mE c) :
 BJ T [0,2] yT [.sl false (ks.map u8),t.enc false]=some (.cZ [.agg [i6 (nY ks t).low,i6 (nY ks t).rows,.nil],i6 (fq ks [t])],if(nY ks t).ah=[]then none else some (5,(nY ks t).ah.map aK.enc)):=by
 refine BL (nt:=19) (res:=[.cell 4 3 true,.tmp 5]) (body:=Ov) (by kernel_rfl) (by simp) (wp_mono (rQ ks t hl hkl hi s0) ?_);rintro e s ⟨r,hr,_,x,rfl,hx⟩;refine⟨_,hr,?_⟩;generalize nY ks t=u at *
 generalize fq ks [t]=err at *
 have d1:∀n,mK s (i6 n)=some (i6 n):=fun _=>rfl;have e1:nk s [0,2] (.cZ [.agg [i6 u.low,i6 u.rows,x],i6 err])=some (.cZ [.agg [i6 u.low,i6 u.rows,.nil],i6 err],x):=by simp[nk,Wl,nI,tq,d1,mK]
 have e2:oM [0,2] (.cZ [.agg [i6 u.low,i6 u.rows,x],i6 err])=[]:=by simp[oM,nX,p_]
 rw[e1,e2];rcases hx with⟨h0,rfl⟩|⟨h0,o,g,n,rfl,h,h1,h2⟩
 ·have h0:u.ah=[]:=by simpa using h0
  simp[uP,h0]
 ·have h0:¬u.ah=[]:=by simpa using h0
  simp[uP,h,h0,dh]
theorem own3{s:ax}{lo hi:Nat}{x:X}{ks:List Int}{u:TS}(hx:bW s lo hi 5 x (u.ah.map aK.enc)) :
 uP s (oM [3] (.agg [.sl false (ks.map u8),i6 u.low,i6 u.rows,x])) (nk s [3] (.agg [.sl false (ks.map u8),i6 u.low,i6 u.rows,x]))=some (.agg [.sl false (ks.map u8),i6 u.low,i6 u.rows,.nil],if u.ah=[]then none else some (5,u.ah.map aK.enc)):=by
 have d1:∀n,mK s (i6 n)=some (i6 n):=fun _=>rfl;have e1:nk s [3] (.agg [.sl false (ks.map u8),i6 u.low,i6 u.rows,x])=some (.agg [.sl false (ks.map u8),i6 u.low,i6 u.rows,.nil],x):=by simp[nk,nI,tq,d1,mK]
 have e2:oM [3] (.agg [.sl false (ks.map u8),i6 u.low,i6 u.rows,x])=[]:=by simp[oM,nX,p_]
 rw[e1,e2];rcases hx with⟨h0,rfl⟩|⟨h0,o,g,n,rfl,h,h1,h2⟩
 ·have h0:u.ah=[]:=by simpa using h0
  simp[uP,h0]
 ·have h0:¬u.ah=[]:=by simpa using h0
  simp[uP,h,h0,dh]
theorem oF{p:List Nat}{q f:Nat}{xs:List X}{r0:X}{ah:List aK}{st:Bool}{nm:List Nat}(h:BJ T p f xs=some (r0,if ah=[]then none else some (5,ah.map aK.enc)))(h1:st=true->nm=[])(h2:¬q∈nm)(w:ax) :
 ∃r,jy st p q nm w (BJ T p f xs)=some r/\((∃x,r.1=plug p r0 x/\bW r.2 q (q+1) 5 x (ah.map aK.enc))/\∀o,¬o=q->r.2 o=gX w nm o):=by
 rw[h];have g1:¬(st=true/\¬nm=[]):=fun h=>h.2 (h1 h.1);by_cases h0:ah=[]
 ·rw[if_pos h0];exact⟨(plug p r0 .nil,gX w nm),by simp[g1],⟨.nil,rfl,.inl ⟨by simp[h0],rfl⟩⟩,fun _ _=>rfl⟩
 ·rw[if_neg h0];refine⟨(plug p r0 (.ref q ((w q).g+1) 5 0 ah.length),aN (gX w nm) q (.row 5 (ah.map aK.enc))),by simp[g1,h2],⟨_,rfl,.inr ⟨by simpa using h0,q,(w q).g+1,((gX w nm) q).n+1,by simp,?_,by omega,by omega⟩⟩,fun o ho=>by simp[ho]⟩;simp[h2]
theorem xR(ks:List Int)(hk:aV ks)(t:TS)(hl:t.ah.length<=3518437208883)(h:lX ks t) :
 O3 ks (dw ks t) [3] JB [aJ ks t]:=by
 have hE:fq ks [t]=0:=by simp[fq,h.kinds,h.fits]
 have hN:nY ks t=dw ks t:=by unfold nY;rw[if_pos hE]
 have ho:=xS ks t hl (iq hk (by decide)) h.lo;rw[hN,hE]at ho
 unfold O3;generalize dw ks t=u at *
 refine BL (nt:=13) (res:=[.cell 2 4 true]) (body:=q75B) (by kernel_rfl) (by simp) ?_;simp[aJ];refine eO (oF ho (by simp) (by simp) _) ?_;rintro⟨r,s2⟩ ⟨⟨x,hr,hx⟩,hF⟩;simp[plug]at hr
 subst hr;have k1:=hF 1 (by omega);have k2:=hF 2 (by omega);simp at k1 k2;have ho:=hx.one;simp[k1,k2,ho.1,ho.2,dX,bV,dZ];exact own3 (hx.fr (((Fr.refl 1 3 s2).bF _ (by omega)).bF _ (by omega)) (by omega))
theorem Ww(f:Bool)(ah:List aK)(hl:ah.length<=3518437208883)(s:ax):∃r,bZ (run T) T mg [.sl f (ah.map aK.enc)] s=some r/\(bW r.2 4005 4006 5 r.1 (ah.map aK.enc)/\∀o,¬o=4005->r.2 o=s o):=by
 cases ah with
 | nil=>exact⟨_,yG f s,.inl ⟨rfl,rfl⟩,fun _ _=>rfl⟩
 | cons c cs=>exact⟨_,vZ f c cs s hl,.inr ⟨by simp,4005,(s 4005).g+2,_,by simp,by simp;rfl,by omega,by omega⟩,fun o ho=>by simp[ho]⟩
theorem Dc(f:Bool)(ks:List Int)(t:TS)(hl:t.ah.length<=3518437208883)(s:ax):∃r,bZ (run T) T UN [.agg [.sl false (ks.map u8),i6 t.low,i6 t.rows,.sl f (t.ah.map aK.enc)]] s=some r/\
 ((∃x,r.1=.agg [.sl false (ks.map u8),i6 t.low,i6 t.rows,x]/\bW r.2 4005 4006 5 x (t.ah.map aK.enc))/\∀o,¬o=4005->¬o=16001->¬o=16002->r.2 o=s o):=by
 refine fF (nt:=10) (res:=[.cell 2 4 true]) (body:=q65B) (P:=fun r=>(∃x,r.1=.agg [.sl false (ks.map u8),i6 t.low,i6 t.rows,x]/\bW r.2 4005 4006 5 x (t.ah.map aK.enc))/\∀o,¬o=4005->¬o=16001->¬o=16002->r.2 o=s o) (by kernel_rfl) (by simp) ?_;simp;refine eO (Ww f t.ah hl _) ?_;rintro⟨x,s2⟩ ⟨hx,hF⟩;simp only at hx hF;have k1:=hF 16001 (by omega);have k2:=hF 16002 (by omega);simp at k1 k2;have ho:=hx.one;simp[k1,k2,ho.1,ho.2];refine⟨_,by simp[dX,bV,dZ,k1,k2],⟨x,rfl,hx.fr (((Fr.refl 16001 16003 s2).bF _ (by omega)).bF _ (by omega)) (by omega)⟩,fun o a1 a2 a3=>?_⟩;simp[a2,a3];rw[hF o a1];simp[a2,a3]
structure ME (w:Nat) (l:List Ex):Prop where
 good:∀e∈l,e.good w
 size:aS Ex.size l<9223372036854775807
theorem Wx(conds:List Ex)(s:ax):∃r,bZ (run T) T UK [.sl false (conds.map Ex.enc)] s=some r/\
 (r.1=.fn QC [.ptr 19001 ((s 19001).g+1) 0]/\(∃m,r.2 19001=⟨(s 19001).g+1,true,some (.box (.sl false (conds.map Ex.enc))),m⟩)/\∀o,¬o=19001->r.2 o=s o):=by
 refine fF (nt:=4) (res:=[.tmp 2]) (body:=q59B) (P:=fun r=>r.1=.fn QC [.ptr 19001 ((s 19001).g+1) 0]/\(∃m,r.2 19001=⟨(s 19001).g+1,true,some (.box (.sl false (conds.map Ex.enc))),m⟩)/\∀o,¬o=19001->r.2 o=s o) (by kernel_rfl) (by simp) ?_;simp;exact⟨_,by simp[dX,bV,dZ],rfl,fun o h1 h2=>absurd h2 h1⟩
structure Rm (ks:List Int) (g:Nat) (en:Env) (u:TS) (s:ax):Prop where
 tab:∃x m,s 2=⟨1,true,some (.box (.agg [.sl false (ks.map u8),i6 u.low,i6 u.rows,x])),m⟩/\bW s 4005 4006 5 x (u.ah.map aK.enc)
 res:∃m,s 4=⟨1,true,some (.box (.agg [.nil,i6 0,i6 0,.nil])),m⟩
 lp:∃m,s 901=⟨g,true,some (.lp en [10] (.ops q67r3) j6 .ready),m⟩
set_option maxHeartbeats 4000000 in
theorem ES(ks:List Int)(u:TS)(hu:lX ks u)(e:Ex)(he:e.good ks.length)(en:Env)(h2:en 2=.ptr 2 1 0)(g:Nat)(s:ax)(h:Rm ks g en u s) :
 ∃r,gZ (run T) 901 g [e.enc] s=some r/\r.1=.v (.bool true)/\Rm ks g en (rO ks u e) r.2:=by
 obtain⟨⟨x,m2,s2,hx⟩,⟨m4,s4⟩,⟨m9,s9⟩⟩:=h;refine VR s9 ?_;have hee:=e.ay;have hcl:=hu.ah.len;have hgu:e.good u.ah.length:=by rw[hcl];exact he
 have hm:=EC ks u hu.ok e hgu;unfold aJ at hm;have i1:=fun s' (hx':bW s' 4005 4006 5 x (u.ah.map aK.enc))=>Sq ks 0 (e.most ks u) x u.ah e hgu s' hx';have i2:=fun s' (hx':bW s' 4005 4006 5 x ((iB u.ah (bB e)).map aK.enc))=>Sn ks 0 (e.most ks u) x (iB u.ah (bB e)) e (by rw[oO];exact hcl) (by rw[oO];exact hgu) s' hx';have ho:=hx.one;have hsl:∀s',(∀o,¬o=2->¬o=5->¬o=901->s' o=s o)->bW s' 4005 4006 5 x (u.ah.map aK.enc):=fun s' hs'=>hx.fr (lo':=2) (hi':=902) ⟨fun o ho=>hs' o (by omega) (by omega) (by omega)⟩ (by omega);have hdp:∀b c d,mK (bF (bF (aN s 5 b) 5 c) 901 d) x=some (.sl true (u.ah.map aK.enc)):=fun b c d=>(hsl _ (fun o a1 a2 a3=>by simp[a2,a3])).mK (by simp);have hst:rO ks u e=⟨0,e.most ks u,jq ks (iB u.ah (bB e)) e⟩:=rfl;rw[hst];generalize e.most ks u=M at *
 rw[hee]at hm i1 i2 ⊢
 replace i1:=Hd.mk i1;replace i2:=Hd.mk i2;replace hsl:=Hd.mk hsl;simp[h2,s2,s4,s9,J6,ho.1,ho.2,hdp,hm];refine eO (i1.out _ (hsl.out _ (fun o a1 a2 a3=>by simp[a1,a2,a3]))) ?_;rintro⟨r,s3⟩ ⟨hF3,hS3⟩;simp only at hF3 hS3;have k2:=hF3 2 (by omega) (by omega) (by omega) (by omega);have k5:=hF3 5 (by omega) (by omega) (by omega) (by omega);have k4:=hF3 4 (by omega) (by omega) (by omega) (by omega);have k9:=hF3 901 (by omega) (by omega) (by omega) (by omega);simp[s2,s4,s9]at k2 k5 k4 k9
 simp[h2,k2,k5];refine eO (i2.out _ hS3) ?_;rintro⟨r,s5⟩ ⟨hF5,hS5⟩;simp only at hF5 hS5;have j2:=hF5 2 (by omega) (by omega) (by omega) (by omega);have j4:=hF5 4 (by omega) (by omega) (by omega) (by omega);have j9:=hF5 901 (by omega) (by omega) (by omega) (by omega);rw[k2]at j2
 rw[k4]at j4
 rw[k9]at j9
 simp[Kz,j9];exact⟨⟨x,_,by simp[j2];rfl,hS5.fr ((Fr.refl 901 902 s5).bF _ (by omega)) (by omega)⟩,⟨_,by simp[j4];rfl⟩,⟨_,by simp[j9];rfl⟩⟩
set_option maxHeartbeats 4000000 in
theorem VE(ks:List Int)(hk:aV ks)(t:TS)(ht:lX ks t)(hl:t.ah.length<=3518437208883)(conds:List Ex)(hc:ME ks.length conds) :
 wp T [.code q67B] (bG [aJ ks t,.sl false (conds.map Ex.enc)]) s0 (fun e s=>∃x,dX e s [.cell 4 4 true]=some (.agg [.sl false (ks.map u8),i6 (dw ks (fH ks t (Ex.bR conds))).low,i6 (dw ks (fH ks t (Ex.bR conds))).rows,x])/\bW s 800002 800003 5 x ((dw ks (fH ks t (Ex.bR conds))).ah.map aK.enc)):=by
 have hparts:=Ex.q8 hc.good;have hfin:=ht.PG hparts;simp[aJ];refine eO (Dc false ks t hl _) ?_;rintro⟨r,s2⟩ ⟨⟨x,hr,hx⟩,hF⟩;simp only at hr hx hF;subst hr;have k2:=hF 2 (by omega) (by omega) (by omega);have k4:=hF 4 (by omega) (by omega) (by omega);simp at k2 k4;have ho:=hx.one;simp[k2,ho.1,ho.2];refine eO (Wx conds _) ?_;rintro⟨r,s3⟩ ⟨hr,⟨m,hb⟩,hF3⟩;simp only at hr hb hF3;subst hr;have j2:=hF3 2 (by omega);have j4:=hF3 4 (by omega);simp[k2,k4]at j2 j4
 have hx3:bW s3 4005 4006 5 x (t.ah.map aK.enc):=(hx.fr ((Fr.refl 2 3 s2).bF _ (by omega)) (by omega)).fr (lo':=19001) (hi':=19002) ⟨fun o ho=>hF3 o (by omega)⟩ (by omega);simp;generalize hen:upd (upd (upd (upd (upd (upd (bG _) _ _) _ _) _ _) _ _) _ _) _ _=en;have e2:en 2=.ptr 2 1 0:=by rw[<-hen];simp
 have e4:en 4=.ptr 4 1 0:=by rw[<-hen];simp
 clear hen;refine Ra (conds:=conds) hc.size hb (by omega) (fun l s'=>∃u,fH ks u l=fH ks t (Ex.bR conds)/\lX ks u/\(∀e∈l,e.good ks.length)/\Rm ks ((s3 901).g+1) en u s') ?_ ?_ ?_ ?_
 ·rintro l s s' ⟨u,h1,h2,h3,⟨⟨y,n2,a2,hy⟩,⟨n4,a4⟩,⟨n9,a9⟩⟩⟩ hB;exact⟨u,h1,h2,h3,⟨y,n2,by rw[hB 2 (by omega)];exact a2,hy.fr (lo':=33006) (hi':=33007) ⟨fun o ho=>hB o (by omega)⟩ (by omega)⟩,⟨n4,by rw[hB 4 (by omega)];exact a4⟩,⟨n9,by rw[hB 901 (by omega)];exact a9⟩⟩
 ·exact⟨t,rfl,ht,hparts,⟨x,_,by simp[j2];rfl,hx3.fr ((Fr.refl 901 902 s3).aN _ (by omega)) (by omega)⟩,⟨_,by simp[j4];rfl⟩,⟨_,by simp;rfl⟩⟩
 ·rintro e l s' ⟨u,h1,h2,h3,h4⟩;obtain⟨r,hr,hr1,hr2⟩:=ES ks u h2 e (h3 e (by simp)) en e2 _ s' h4;exact⟨r,hr,hr1,rO ks u e,h1,h2.step (h3 e (by simp)),fun z hz=>h3 z (by simp[hz]),hr2⟩
 ·rintro s' ⟨u,h1,h2,_,⟨⟨y,n2,a2,hy⟩,⟨n4,a4⟩,⟨n9,a9⟩⟩⟩;refine⟨⟨n9,a9⟩,?_⟩;have h1':fH ks t (Ex.bR conds)=u:=h1.symm;rw[h1'];have hul:u.ah.length<=3518437208883:=by have:=h2.ah.len;have:=ht.ah.len;omega
  have hon:=xR ks hk u hul h2;unfold O3 aJ at hon;generalize dw ks u=R at *
  have hd0:mK (nD s' 901) y=some (.sl true (u.ah.map aK.enc)):=(hy.fr (lo':=901) (hi':=902) (s':=nD s' 901) ⟨fun o ho=>by simp[nD];omega⟩ (by omega)).mK (by simp);have d2:nD s' 901 2=s' 2:=by simp[nD]
  have d4:nD s' 901 4=s' 4:=by simp[nD]
  rw[a2]at d2
  rw[a4]at d4
  generalize nD s' 901=w at *
  have hyo:=hy.one;have hnm:p_ y=[]\/p_ y=[4005]:=by
   rcases hy with⟨_,rfl⟩|⟨_,o,g,n,rfl,_,_,_⟩
   ·exact .inl rfl
   ·refine .inr ?_;obtain rfl:o=4005:=by omega
    rfl
  simp[e2,e4,d2,d4,hd0,hyo.1,hyo.2];have hq:¬800002∈p_ y:=by rcases hnm with h|h<;>rw[h]<;>simp
  have h4:¬4∈p_ y:=by rcases hnm with h|h<;>rw[h]<;>simp
  refine eO (oF hon (by simp) hq _) ?_;rintro⟨r,s5⟩ ⟨⟨z,hr,hz⟩,hF5⟩;simp[plug]at hr
  subst hr;have g4:=hF5 4 (by omega);simp[M5,h4,d4]at g4
  have hzo:=hz.one;simp[e4,g4,hzo.1,hzo.2,dX,bV,dZ];exact hz.fr ((Fr.refl 4 5 s5).bF _ (by omega)) (by omega)
theorem KX(ks:List Int)(hk:aV ks)(t:TS)(ht:lX ks t)(hl:t.ah.length<=3518437208883)(conds:List Ex)(hc:ME ks.length conds) :
 O3 ks (dw ks (fH ks t (Ex.bR conds))) [3] UO [aJ ks t,.sl false (conds.map Ex.enc)]:=by
 unfold O3;refine BL (nt:=26) (res:=[.cell 4 4 true]) (body:=q67B) (by kernel_rfl) (by simp) (wp_mono (VE ks hk t ht hl conds hc) ?_);rintro e s ⟨x,hr,hx⟩;exact⟨_,hr,own3 hx⟩
end Go.Proofs.YtbmkfjmlepjpfaaGreatDoor
