/- A part of the proof. -/
import Derived.Test.YtbmkfjmlepjpfaaGreatDoorNn
set_option linter.all false
set_option maxRecDepth 100000
namespace Go.Proofs.YtbmkfjmlepjpfaaGreatDoor
open Go.RowKit
structure Ag where
 fn:Int
 col:Int
 ZG:Bool
abbrev Ag.enc(a:Ag):X:=.agg [u8 a.fn,i6 a.col,.v (.bool a.ZG)]
structure Ky where
 col:Int
 desc:Bool
abbrev Ky.enc(a:Ky):X:=.agg [i6 a.col,.v (.bool a.desc)]
@[simp] theorem deepL_ag(l:List Ag):aT (l.map Ag.enc)=true:=dh (by simp) l
@[simp] theorem shrL_ag(l:List Ag):gB (l.map Ag.enc)=l.map Ag.enc:=fO (by simp) l
@[simp] theorem deepL_ky(l:List Ky):aT (l.map Ky.enc)=true:=dh (by simp) l
@[simp] theorem shrL_ky(l:List Ky):gB (l.map Ky.enc)=l.map Ky.enc:=fO (by simp) l
mutual
inductive Ex where
 | mk (op vk vi:Int) (vs:ByteArray) (up n:Int) (kids:List Ex) (sub:List Pn)
inductive Pn where
 | mk (op table:Int) (kinds:List Int) (rows:List (List Val)) (conds exprs:List Ex) (ah:List Int) (aA:List Ag) (keys:List Ky) (fr ct:Int) (kids:List Pn)
end
namespace Pn
def op:Pn->Int|mk o ..=>o
def table:Pn->Int|mk _ o ..=>o
def kinds:Pn->List Int|mk _ _ o ..=>o
def rows:Pn->List (List Val)|mk _ _ _ o ..=>o
def conds:Pn->List Ex|mk _ _ _ _ o ..=>o
def exprs:Pn->List Ex|mk _ _ _ _ _ o ..=>o
def ah:Pn->List Int|mk _ _ _ _ _ _ o ..=>o
def aA:Pn->List Ag|mk _ _ _ _ _ _ _ o ..=>o
def keys:Pn->List Ky|mk _ _ _ _ _ _ _ _ o ..=>o
def fr:Pn->Int|mk _ _ _ _ _ _ _ _ _ o ..=>o
def ct:Pn->Int|mk _ _ _ _ _ _ _ _ _ _ o _=>o
def kids:Pn->List Pn|mk _ _ _ _ _ _ _ _ _ _ _ o=>o
end Pn
namespace Ex
def op:Ex->Int|mk o ..=>o
def vk:Ex->Int|mk _ o ..=>o
def vi:Ex->Int|mk _ _ o ..=>o
def vs:Ex->ByteArray|mk _ _ _ o ..=>o
def up:Ex->Int|mk _ _ _ _ o ..=>o
def n:Ex->Int|mk _ _ _ _ _ o ..=>o
def kids:Ex->List Ex|mk _ _ _ _ _ _ o _=>o
def sub:Ex->List Pn|mk _ _ _ _ _ _ _ o=>o
def v(e:Ex):Val:=⟨e.vk,e.vi,e.vs⟩
end Ex
def Jd(op table:Int)(kinds rows conds exprs ah aA keys:X)(fr ct:Int)(kids:X):X:=.agg [u8 op,i6 table,kinds,rows,conds,exprs,ah,aA,keys,i6 fr,i6 ct,kids]
mutual
def Ex.enc:Ex->X
 | .mk op vk vi vs up n kids sub=>nL op vk vi vs up n (.sl false (Ex.vP kids)) (.sl false (Pn.vP sub))
def Ex.vP:List Ex->List X
 | []=>[]
 | e::l=>e.enc::Ex.vP l
def Pn.enc:Pn->X
 | .mk op table kinds rows conds exprs ah aA keys fr ct kids=>Jd op table (.sl false (kinds.map u8)) (.sl false (rows.map ql)) (.sl false (Ex.vP conds)) (.sl false (Ex.vP exprs)) (.sl false (ah.map i6)) (.sl false (aA.map Ag.enc)) (.sl false (keys.map Ky.enc)) fr ct (.sl false (Pn.vP kids))
def Pn.vP:List Pn->List X
 | []=>[]
 | e::l=>e.enc::Pn.vP l
end
theorem Ex.vQ(l:List Ex):vP l=l.map enc:=by
 induction l with
 | nil=>simp only[Ex.vP,List.map_nil]
 | cons e l ih=>simp only[Ex.vP,ku,ih]
theorem Pn.vQ(l:List Pn):vP l=l.map enc:=by
 induction l with
 | nil=>simp only[Pn.vP,List.map_nil]
 | cons e l ih=>simp only[Pn.vP,ku,ih]
theorem Ex.uI(e:Ex):e.enc=nL e.op e.vk e.vi e.vs e.up e.n (.sl false (e.kids.map enc)) (.sl false (e.sub.map Pn.enc)):=by cases e;simp only[enc,vQ,Pn.vQ,op,vk,vi,vs,up,n,kids,sub]
theorem Pn.uI(p:Pn):p.enc=Jd p.op p.table (.sl false (p.kinds.map u8)) (.sl false (p.rows.map ql)) (.sl false (p.conds.map Ex.enc)) (.sl false (p.exprs.map Ex.enc)) (.sl false (p.ah.map i6)) (.sl false (p.aA.map Ag.enc)) (.sl false (p.keys.map Ky.enc)) p.fr p.ct (.sl false (p.kids.map enc)):=by cases p;simp only[enc,vQ,Ex.vQ,op,table,kinds,rows,conds,exprs,ah,aA,keys,fr,ct,kids]
theorem Ex.ay(e:Ex):e.enc=.agg [.v (.int .u8 e.op),.v (.int .u8 e.vk),i6 e.vi,.v (.string e.vs),i6 e.up,i6 e.n,.sl false (e.kids.map Ex.enc),.sl false (e.sub.map Pn.enc)]:=by rw[Ex.uI,nL]
theorem Pn.ay(p:Pn):p.enc=.agg [.v (.int .u8 p.op),i6 p.table,.sl false (p.kinds.map u8),.sl false (p.rows.map ql),.sl false (p.conds.map Ex.enc),.sl false (p.exprs.map Ex.enc),.sl false (p.ah.map i6),.sl false (p.aA.map Ag.enc),.sl false (p.keys.map Ky.enc),i6 p.fr,i6 p.ct,.sl false (p.kids.map Pn.enc)]:=by rw[Pn.uI,Jd]
mutual
def Ex.fu:Ex->Bool
 | .mk _ _ _ _ _ _ kids sub=>!sub.isEmpty||Ex.Ew kids
def Ex.Ew:List Ex->Bool
 | []=>false
 | e::l=>e.fu||Ex.Ew l
end
mutual
def Ex.depth:Ex->Nat
 | .mk _ _ _ _ _ _ kids sub=>max (Ex.iI kids) (Pn.iI sub)+1
def Ex.iI:List Ex->Nat
 | []=>0
 | e::l=>max e.depth (Ex.iI l)
def Pn.depth:Pn->Nat
 | .mk _ _ _ _ conds exprs _ _ _ _ _ kids=>max (max (Ex.iI conds) (Ex.iI exprs)) (Pn.iI kids)+1
def Pn.iI:List Pn->Nat
 | []=>0
 | e::l=>max e.depth (Pn.iI l)
end
theorem Ex.fG{k:Ex}{l:List Ex}(h:k∈l):k.depth<=iI l:=by
 induction l with
 | nil=>cases h
 | cons x l ih=>
  simp only[iI];rcases List.mem_cons.1 h with rfl|h
  ·omega
  ·have:=ih h;omega
theorem Pn.fG{k:Pn}{l:List Pn}(h:k∈l):k.depth<=iI l:=by
 induction l with
 | nil=>cases h
 | cons x l ih=>
  simp only[iI];rcases List.mem_cons.1 h with rfl|h
  ·omega
  ·have:=ih h;omega
theorem d9{p:Ex->Prop}{q:Pn->Prop}(hp:∀e,(∀k∈e.kids,p k)->(∀k∈e.sub,q k)->p e)
 (hq:∀x,(∀k∈x.kids,q k)->(∀k∈x.conds,p k)->(∀k∈x.exprs,p k)->q x):(∀e,p e)/\(∀x,q x):=by
 have:∀n,(∀e:Ex,e.depth<n->p e)/\(∀x:Pn,x.depth<n->q x):=by
  intro n;induction n with
  | zero=>exact⟨fun e he=>by omega,fun e he=>by omega⟩
  | succ n ih=>
   refine⟨fun e he=>?_,fun x hx=>?_⟩
   ·cases e;rename_i l m;simp only[Ex.depth]at he;exact hp _ (fun k hk=>ih.1 k (by have:=Ex.fG (l:=l) hk;omega)) (fun k hk=>ih.2 k (by have:=Pn.fG (l:=m) hk;omega))
   ·cases x;rename_i c d _ _ _ _ _ l;simp only[Pn.depth]at hx;exact hq _ (fun k hk=>ih.2 k (by have:=Pn.fG (l:=l) hk;omega)) (fun k hk=>ih.1 k (by have:=Ex.fG (l:=c) hk;omega)) (fun k hk=>ih.1 k (by have:=Ex.fG (l:=d) hk;omega))
 exact⟨fun e=>(this _).1 e (Nat.lt_succ_self _),fun x=>(this _).2 x (Nat.lt_succ_self _)⟩
theorem Ex.induct{p:Ex->Prop}(h:∀e,(∀k∈e.kids,p k)->p e)(e:Ex):p e:=
 (d9 (p:=p) (q:=fun _=>True) (fun e hk _=>h e hk) (fun _ _ _ _=>trivial)).1 e
theorem RS{l:List X}(h:∀x∈l,x.deep=true):aT l=true:=bf.2 h
theorem YJ{l:List X}(h:∀x∈l,x.shr=x):gB l=l:=by rw[iQ];exact(List.map_congr_left h).trans (List.map_id _)
theorem iV{α:Type}{f:α->X}{l:List α}(h:∀k∈l,(f k).deep=true):aT (l.map f)=true:=RS fun x hx=>by obtain⟨k,hk,rfl⟩:=List.mem_map.1 hx;exact h k hk
theorem jC{α:Type}{f:α->X}{l:List α}(h:∀k∈l,(f k).shr=f k):gB (l.map f)=l.map f:=YJ fun x hx=>by obtain⟨k,hk,rfl⟩:=List.mem_map.1 hx;exact h k hk
theorem DT:(∀e:Ex,e.enc.deep=true)/\(∀p:Pn,p.enc.deep=true):=by
 refine d9 (fun e h1 h2=>?_) (fun x h1 h2 h3=>?_)
 ·have g1:=iV h1;have g2:=iV h2;rw[Ex.uI];simp[nL,X.deep,aT,g1,g2]
 ·have g1:=iV h1;have g2:=iV h2;have g3:=iV h3;rw[Pn.uI];simp[Jd,X.deep,aT,g1,g2,g3]
theorem Ik:(∀e:Ex,e.enc.shr=e.enc)/\(∀p:Pn,p.enc.shr=p.enc):=by
 refine d9 (fun e h1 h2=>?_) (fun x h1 h2 h3=>?_)
 ·have g1:=jC h1;have g2:=jC h2;rw[Ex.uI];simp[nL,X.shr,gB,g1,g2]
 ·have g1:=jC h1;have g2:=jC h2;have g3:=jC h3;rw[Pn.uI];simp[Jd,X.shr,gB,g1,g2,g3]
theorem Ex.vR(e:Ex):e.enc.deep=true:=DT.1 e
theorem Ex.EN(e:Ex):e.enc.shr=e.enc:=Ik.1 e
theorem Pn.vR(e:Pn):e.enc.deep=true:=DT.2 e
theorem Pn.EN(e:Pn):e.enc.shr=e.enc:=Ik.2 e
@[simp] theorem deepL_enc(l:List Ex):aT (l.map Ex.enc)=true:=iV fun k _=>k.vR
@[simp] theorem shrL_enc(l:List Ex):gB (l.map Ex.enc)=l.map Ex.enc:=jC fun k _=>k.EN
@[simp] theorem deepL_sub(l:List Pn):aT (l.map Pn.enc)=true:=iV fun k _=>k.vR
@[simp] theorem shrL_sub(l:List Pn):gB (l.map Pn.enc)=l.map Pn.enc:=jC fun k _=>k.EN
abbrev aV{α:Type}(l:List α):Prop:=l.length<=1099511627776
abbrev JV(n:Int):Prop:=0<=n/\n<=255
mutual
def Ex.small:Ex->Prop
 | .mk op vk vi _ up n kids sub=>(JV op/\JV vk)/\ig vi/\ig up/\ig n/\aV kids/\aV sub/\Ex.iK kids/\Pn.iK sub
def Ex.iK:List Ex->Prop
 | []=>True
 | e::l=>e.small/\Ex.iK l
def Pn.small:Pn->Prop
 | .mk op table kinds rows conds exprs ah aA keys fr ct kids=>((JV op/\(∀k∈kinds,JV k)/\(∀r∈rows,∀v∈r,JV v.kind)/\(∀a∈aA,JV a.fn))/\ig table/\ig fr/\ig ct/\aV kinds/\aV rows/\(∀r∈rows,aV r/\∀v∈r,v.ok)/\aV conds/\aV exprs/\aV ah/\(∀n∈ah,ig n)/\
  aV aA/\(∀a∈aA,ig a.col)/\aV keys/\(∀a∈keys,ig a.col)/\aV kids)/\Ex.iK conds/\Ex.iK exprs/\Pn.iK kids
def Pn.iK:List Pn->Prop
 | []=>True
 | e::l=>e.small/\Pn.iK l
end
theorem Ex.kQ{l:List Ex}(h:iK l):∀k∈l,k.small:=by
 induction l with
 | nil=>intro k hk;cases hk
 | cons x l ih=>
  simp only[iK]at h;intro k hk;rcases List.mem_cons.1 hk with rfl|hk
  ·exact h.1
  ·exact ih h.2 k hk
theorem Pn.kQ{l:List Pn}(h:iK l):∀k∈l,k.small:=by
 induction l with
 | nil=>intro k hk;cases hk
 | cons x l ih=>
  simp only[iK]at h;intro k hk;rcases List.mem_cons.1 hk with rfl|hk
  ·exact h.1
  ·exact ih h.2 k hk
structure Ex.wX (e:Ex):Prop where
 op:JV e.op
 vk:JV e.vk
 vi:ig e.vi
 up:ig e.up
 n:ig e.n
 kids:aV e.kids
 sub:aV e.sub
 kid:∀k∈e.kids,k.small
 subs:∀k∈e.sub,k.small
theorem Ex.dH{e:Ex}(h:e.small):e.wX:=by cases e;simp only[Ex.small]at h;obtain⟨⟨a1,a2⟩,h1,h2,h3,h4,h5,h6,h7⟩:=h;exact⟨a1,a2,h1,h2,h3,h4,h5,Ex.kQ h6,Pn.kQ h7⟩
structure Pn.jO (p:Pn):Prop where
 op:JV p.op
 kind:∀k∈p.kinds,JV k
 cell:∀r∈p.rows,∀v∈r,JV v.kind
 fn:∀a∈p.aA,JV a.fn
 table:ig p.table
 fr:ig p.fr
 ct:ig p.ct
 kinds:aV p.kinds
 rows:aV p.rows
 row:∀r∈p.rows,aV r/\∀v∈r,v.ok
 conds:aV p.conds
 exprs:aV p.exprs
 ah:aV p.ah
 col:∀n∈p.ah,ig n
 aA:aV p.aA
 agg:∀a∈p.aA,ig a.col
 keys:aV p.keys
 key:∀a∈p.keys,ig a.col
 kids:aV p.kids
 cond:∀k∈p.conds,k.small
 expr:∀k∈p.exprs,k.small
 kid:∀k∈p.kids,k.small
theorem Pn.dH{p:Pn}(h:p.small):p.jO:=by cases p;simp only[Pn.small]at h;obtain⟨⟨⟨a1,a2,a3,a4⟩,h1,h2,h3,h4,h5,h6,h7,h8,h9,h10,h11,h12,h13,h14,h15⟩,g1,g2,g3⟩:=h;exact⟨a1,a2,a3,a4,h1,h2,h3,h4,h5,h6,h7,h8,h9,h10,h11,h12,h13,h14,h15,Ex.kQ g1,Ex.kQ g2,Pn.kQ g3⟩
end Go.Proofs.YtbmkfjmlepjpfaaGreatDoor
