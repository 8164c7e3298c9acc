/- A part of the proof. -/
import Derived.Test.YtbmkfjmlepjpfaaGreatDoorNn
set_option linter.all false
set_option maxRecDepth 100000
namespace Go.Proofs.YtbmkfjmlepjpfaaGreatDoor
open Go.RowKit
structure Ag where
 fn:Int
 col:Int
 ZU:Bool
abbrev Ag.enc(a:Ag):X:=.agg [u8 a.fn,i6 a.col,.v (.bool a.ZU)]
structure Ky where
 col:Int
 desc:Bool
abbrev Ky.enc(a:Ky):X:=.agg [i6 a.col,.v (.bool a.desc)]
@[simp] theorem deepL_ag(l:List Ag):aP (l.map Ag.enc)=true:=dJ (by simp) l
@[simp] theorem shrL_ag(l:List Ag):fu (l.map Ag.enc)=l.map Ag.enc:=eH (by simp) l
@[simp] theorem deepL_ky(l:List Ky):aP (l.map Ky.enc)=true:=dJ (by simp) l
@[simp] theorem shrL_ky(l:List Ky):fu (l.map Ky.enc)=l.map Ky.enc:=eH (by simp) l
mutual
inductive Ex where
 | mk (op vk vi:Int) (vs:ByteArray) (up n:Int) (kids:List Ex) (sub:List Pn)
inductive Pn where
 | mk (op table:Int) (kinds:List Int) (rows:List (List Val)) (conds exprs:List Ex) (ah:List Int) (ax:List Ag) (keys:List Ky) (fr ct:Int) (kids:List Pn)
end
namespace Pn
def op:Pn->Int|mk o ..=>o
def table:Pn->Int|mk _ o ..=>o
def kinds:Pn->List Int|mk _ _ o ..=>o
def rows:Pn->List (List Val)|mk _ _ _ o ..=>o
def conds:Pn->List Ex|mk _ _ _ _ o ..=>o
def exprs:Pn->List Ex|mk _ _ _ _ _ o ..=>o
def ah:Pn->List Int|mk _ _ _ _ _ _ o ..=>o
def ax:Pn->List Ag|mk _ _ _ _ _ _ _ o ..=>o
def keys:Pn->List Ky|mk _ _ _ _ _ _ _ _ o ..=>o
def fr:Pn->Int|mk _ _ _ _ _ _ _ _ _ o ..=>o
def ct:Pn->Int|mk _ _ _ _ _ _ _ _ _ _ o _=>o
def kids:Pn->List Pn|mk _ _ _ _ _ _ _ _ _ _ _ o=>o
end Pn
namespace Ex
def op:Ex->Int|mk o ..=>o
def vk:Ex->Int|mk _ o ..=>o
def vi:Ex->Int|mk _ _ o ..=>o
def vs:Ex->ByteArray|mk _ _ _ o ..=>o
def up:Ex->Int|mk _ _ _ _ o ..=>o
def n:Ex->Int|mk _ _ _ _ _ o ..=>o
def kids:Ex->List Ex|mk _ _ _ _ _ _ o _=>o
def sub:Ex->List Pn|mk _ _ _ _ _ _ _ o=>o
def v(e:Ex):Val:=⟨e.vk,e.vi,e.vs⟩
end Ex
def Fh(op table:Int)(kinds rows conds exprs ah ax keys:X)(fr ct:Int)(kids:X):X:=.agg [u8 op,i6 table,kinds,rows,conds,exprs,ah,ax,keys,i6 fr,i6 ct,kids]
mutual
def Ex.enc:Ex->X
 | .mk op vk vi vs up n kids sub=>lV op vk vi vs up n (.sl false (Ex.tu kids)) (.sl false (Pn.tu sub))
def Ex.tu:List Ex->List X
 | []=>[]
 | e::l=>e.enc::Ex.tu l
def Pn.enc:Pn->X
 | .mk op table kinds rows conds exprs ah ax keys fr ct kids=>Fh op table (.sl false (kinds.map u8)) (.sl false (rows.map oJ)) (.sl false (Ex.tu conds)) (.sl false (Ex.tu exprs)) (.sl false (ah.map i6)) (.sl false (ax.map Ag.enc)) (.sl false (keys.map Ky.enc)) fr ct (.sl false (Pn.tu kids))
def Pn.tu:List Pn->List X
 | []=>[]
 | e::l=>e.enc::Pn.tu l
end
theorem Ex.tC(l:List Ex):tu l=l.map enc:=by
 induction l with
 | nil=>simp only[Ex.tu,List.map_nil]
 | cons e l ih=>simp only[Ex.tu,List.map_cons,ih]
theorem Pn.tC(l:List Pn):tu l=l.map enc:=by
 induction l with
 | nil=>simp only[Pn.tu,List.map_nil]
 | cons e l ih=>simp only[Pn.tu,List.map_cons,ih]
theorem Ex.rO(e:Ex):e.enc=lV e.op e.vk e.vi e.vs e.up e.n (.sl false (e.kids.map enc)) (.sl false (e.sub.map Pn.enc)):=by cases e;simp only[enc,tC,Pn.tC,op,vk,vi,vs,up,n,kids,sub]
theorem Pn.rO(p:Pn):p.enc=Fh p.op p.table (.sl false (p.kinds.map u8)) (.sl false (p.rows.map oJ)) (.sl false (p.conds.map Ex.enc)) (.sl false (p.exprs.map Ex.enc)) (.sl false (p.ah.map i6)) (.sl false (p.ax.map Ag.enc)) (.sl false (p.keys.map Ky.enc)) p.fr p.ct (.sl false (p.kids.map enc)):=by cases p;simp only[enc,tC,Ex.tC,op,table,kinds,rows,conds,exprs,ah,ax,keys,fr,ct,kids]
theorem Ex.aB(e:Ex):e.enc=.agg [.v (.int .u8 e.op),.v (.int .u8 e.vk),i6 e.vi,.v (.string e.vs),i6 e.up,i6 e.n,.sl false (e.kids.map Ex.enc),.sl false (e.sub.map Pn.enc)]:=by rw[Ex.rO,lV]
theorem Pn.aB(p:Pn):p.enc=.agg [.v (.int .u8 p.op),i6 p.table,.sl false (p.kinds.map u8),.sl false (p.rows.map oJ),.sl false (p.conds.map Ex.enc),.sl false (p.exprs.map Ex.enc),.sl false (p.ah.map i6),.sl false (p.ax.map Ag.enc),.sl false (p.keys.map Ky.enc),i6 p.fr,i6 p.ct,.sl false (p.kids.map Pn.enc)]:=by rw[Pn.rO,Fh]
mutual
def Ex.dX:Ex->Bool
 | .mk _ _ _ _ _ _ kids sub=>!sub.isEmpty||Ex.BZ kids
def Ex.BZ:List Ex->Bool
 | []=>false
 | e::l=>e.dX||Ex.BZ l
end
mutual
def Ex.depth:Ex->Nat
 | .mk _ _ _ _ _ _ kids sub=>max (Ex.gK kids) (Pn.gK sub)+1
def Ex.gK:List Ex->Nat
 | []=>0
 | e::l=>max e.depth (Ex.gK l)
def Pn.depth:Pn->Nat
 | .mk _ _ _ _ conds exprs _ _ _ _ _ kids=>max (max (Ex.gK conds) (Ex.gK exprs)) (Pn.gK kids)+1
def Pn.gK:List Pn->Nat
 | []=>0
 | e::l=>max e.depth (Pn.gK l)
end
theorem Ex.eu{k:Ex}{l:List Ex}(h:k∈l):k.depth<=gK l:=by
 induction l with
 | nil=>cases h
 | cons x l ih=>
  simp only[gK];rcases List.mem_cons.1 h with rfl|h
  ·omega
  ·have:=ih h;omega
theorem Pn.eu{k:Pn}{l:List Pn}(h:k∈l):k.depth<=gK l:=by
 induction l with
 | nil=>cases h
 | cons x l ih=>
  simp only[gK];rcases List.mem_cons.1 h with rfl|h
  ·omega
  ·have:=ih h;omega
theorem dL{p:Ex->Prop}{q:Pn->Prop}(hp:∀e,(∀k∈e.kids,p k)->(∀k∈e.sub,q k)->p e)
 (hq:∀x,(∀k∈x.kids,q k)->(∀k∈x.conds,p k)->(∀k∈x.exprs,p k)->q x):(∀e,p e)/\(∀x,q x):=by
 have:∀n,(∀e:Ex,e.depth<n->p e)/\(∀x:Pn,x.depth<n->q x):=by
  intro n;induction n with
  | zero=>exact⟨fun e he=>by omega,fun e he=>by omega⟩
  | succ n ih=>
   refine⟨fun e he=>?_,fun x hx=>?_⟩
   ·cases e;rename_i l m;simp only[Ex.depth]at he;exact hp _ (fun k hk=>ih.1 k (by have:=Ex.eu (l:=l) hk;omega)) (fun k hk=>ih.2 k (by have:=Pn.eu (l:=m) hk;omega))
   ·cases x;rename_i c d _ _ _ _ _ l;simp only[Pn.depth]at hx;exact hq _ (fun k hk=>ih.2 k (by have:=Pn.eu (l:=l) hk;omega)) (fun k hk=>ih.1 k (by have:=Ex.eu (l:=c) hk;omega)) (fun k hk=>ih.1 k (by have:=Ex.eu (l:=d) hk;omega))
 exact⟨fun e=>(this _).1 e (Nat.lt_succ_self _),fun x=>(this _).2 x (Nat.lt_succ_self _)⟩
theorem Ex.induct{p:Ex->Prop}(h:∀e,(∀k∈e.kids,p k)->p e)(e:Ex):p e:=
 (dL (p:=p) (q:=fun _=>True) (fun e hk _=>h e hk) (fun _ _ _ _=>trivial)).1 e
theorem Oq{l:List X}(h:∀x∈l,x.deep=true):aP l=true:=aX.2 h
theorem YX{l:List X}(h:∀x∈l,x.shr=x):fu l=l:=by rw[gX];exact(List.map_congr_left h).trans (List.map_id _)
theorem iq{α:Type}{f:α->X}{l:List α}(h:∀k∈l,(f k).deep=true):aP (l.map f)=true:=Oq fun x hx=>by obtain⟨k,hk,rfl⟩:=List.mem_map.1 hx;exact h k hk
theorem iP{α:Type}{f:α->X}{l:List α}(h:∀k∈l,(f k).shr=f k):fu (l.map f)=l.map f:=YX fun x hx=>by obtain⟨k,hk,rfl⟩:=List.mem_map.1 hx;exact h k hk
theorem Bg:(∀e:Ex,e.enc.deep=true)/\(∀p:Pn,p.enc.deep=true):=by
 refine dL (fun e h1 h2=>?_) (fun x h1 h2 h3=>?_)
 ·have g1:=iq h1;have g2:=iq h2;rw[Ex.rO];simp[lV,X.deep,aP,g1,g2]
 ·have g1:=iq h1;have g2:=iq h2;have g3:=iq h3;rw[Pn.rO];simp[Fh,X.deep,aP,g1,g2,g3]
theorem Ey:(∀e:Ex,e.enc.shr=e.enc)/\(∀p:Pn,p.enc.shr=p.enc):=by
 refine dL (fun e h1 h2=>?_) (fun x h1 h2 h3=>?_)
 ·have g1:=iP h1;have g2:=iP h2;rw[Ex.rO];simp[lV,X.shr,fu,g1,g2]
 ·have g1:=iP h1;have g2:=iP h2;have g3:=iP h3;rw[Pn.rO];simp[Fh,X.shr,fu,g1,g2,g3]
theorem Ex.yO(e:Ex):e.enc.deep=true:=Bg.1 e
theorem Ex.Cv(e:Ex):e.enc.shr=e.enc:=Ey.1 e
theorem Pn.yO(e:Pn):e.enc.deep=true:=Bg.2 e
theorem Pn.Cv(e:Pn):e.enc.shr=e.enc:=Ey.2 e
@[simp] theorem deepL_enc(l:List Ex):aP (l.map Ex.enc)=true:=iq fun k _=>k.yO
@[simp] theorem shrL_enc(l:List Ex):fu (l.map Ex.enc)=l.map Ex.enc:=iP fun k _=>k.Cv
@[simp] theorem deepL_sub(l:List Pn):aP (l.map Pn.enc)=true:=iq fun k _=>k.yO
@[simp] theorem shrL_sub(l:List Pn):fu (l.map Pn.enc)=l.map Pn.enc:=iP fun k _=>k.Cv
abbrev aS{α:Type}(l:List α):Prop:=l.length<=1099511627776
abbrev F6(n:Int):Prop:=0<=n/\n<=255
mutual
def Ex.small:Ex->Prop
 | .mk op vk vi _ up n kids sub=>(F6 op/\F6 vk)/\gI vi/\gI up/\gI n/\aS kids/\aS sub/\Ex.gM kids/\Pn.gM sub
def Ex.gM:List Ex->Prop
 | []=>True
 | e::l=>e.small/\Ex.gM l
def Pn.small:Pn->Prop
 | .mk op table kinds rows conds exprs ah ax keys fr ct kids=>((F6 op/\(∀k∈kinds,F6 k)/\(∀r∈rows,∀v∈r,F6 v.kind)/\(∀a∈ax,F6 a.fn))/\gI table/\gI fr/\gI ct/\aS kinds/\aS rows/\(∀r∈rows,aS r/\∀v∈r,v.ok)/\aS conds/\aS exprs/\aS ah/\(∀n∈ah,gI n)/\
  aS ax/\(∀a∈ax,gI a.col)/\aS keys/\(∀a∈keys,gI a.col)/\aS kids)/\Ex.gM conds/\Ex.gM exprs/\Pn.gM kids
def Pn.gM:List Pn->Prop
 | []=>True
 | e::l=>e.small/\Pn.gM l
end
theorem Ex.jQ{l:List Ex}(h:gM l):∀k∈l,k.small:=by
 induction l with
 | nil=>intro k hk;cases hk
 | cons x l ih=>
  simp only[gM]at h;intro k hk;rcases List.mem_cons.1 hk with rfl|hk
  ·exact h.1
  ·exact ih h.2 k hk
theorem Pn.jQ{l:List Pn}(h:gM l):∀k∈l,k.small:=by
 induction l with
 | nil=>intro k hk;cases hk
 | cons x l ih=>
  simp only[gM]at h;intro k hk;rcases List.mem_cons.1 hk with rfl|hk
  ·exact h.1
  ·exact ih h.2 k hk
structure Ex.uO (e:Ex):Prop where
 op:F6 e.op
 vk:F6 e.vk
 vi:gI e.vi
 up:gI e.up
 n:gI e.n
 kids:aS e.kids
 sub:aS e.sub
 kid:∀k∈e.kids,k.small
 subs:∀k∈e.sub,k.small
theorem Ex.cK{e:Ex}(h:e.small):e.uO:=by cases e;simp only[Ex.small]at h;obtain⟨⟨a1,a2⟩,h1,h2,h3,h4,h5,h6,h7⟩:=h;exact⟨a1,a2,h1,h2,h3,h4,h5,Ex.jQ h6,Pn.jQ h7⟩
structure Pn.je (p:Pn):Prop where
 op:F6 p.op
 kind:∀k∈p.kinds,F6 k
 cell:∀r∈p.rows,∀v∈r,F6 v.kind
 fn:∀a∈p.ax,F6 a.fn
 table:gI p.table
 fr:gI p.fr
 ct:gI p.ct
 kinds:aS p.kinds
 rows:aS p.rows
 row:∀r∈p.rows,aS r/\∀v∈r,v.ok
 conds:aS p.conds
 exprs:aS p.exprs
 ah:aS p.ah
 col:∀n∈p.ah,gI n
 ax:aS p.ax
 agg:∀a∈p.ax,gI a.col
 keys:aS p.keys
 key:∀a∈p.keys,gI a.col
 kids:aS p.kids
 cond:∀k∈p.conds,k.small
 expr:∀k∈p.exprs,k.small
 kid:∀k∈p.kids,k.small
theorem Pn.cK{p:Pn}(h:p.small):p.je:=by cases p;simp only[Pn.small]at h;obtain⟨⟨⟨a1,a2,a3,a4⟩,h1,h2,h3,h4,h5,h6,h7,h8,h9,h10,h11,h12,h13,h14,h15⟩,g1,g2,g3⟩:=h;exact⟨a1,a2,a3,a4,h1,h2,h3,h4,h5,h6,h7,h8,h9,h10,h11,h12,h13,h14,h15,Ex.jQ g1,Ex.jQ g2,Pn.jQ g3⟩
end Go.Proofs.YtbmkfjmlepjpfaaGreatDoor
