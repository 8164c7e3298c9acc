/- A part of the proof. -/
import Derived.Test.YtbmkfjmlepjpfaaGreatDoorR
import Derived.Deep.Slices
import GoSem.ClaimJoined
import Derived.Carry
import Derived.RowKit
import Derived.ChangeSame
import Derived.ChangeVars
set_option linter.all false
set_option maxRecDepth 100000
namespace Go.Proofs.YtbmkfjmlepjpfaaGreatDoor
open Go.RowKit
inductive TD where
 | int (k:IntKind)
 | bool
 | str
 | sl (b:Nat) (e:TD)
 | st (fs:List TD)
  | ob (t:TypeId) (Q:X->Prop)
def TD.isOb:TD->Bool
 | .ob _ _=>true
 | _=>false
mutual
def TD.n:TD->Nat
 | .st fs=>TD.ns fs
 | _=>1
def TD.ns:List TD->Nat
 | []=>0
 | t::l=>t.n+TD.ns l
end
def TD.Bj:TD->Bool
 | .st _=>true
 | _=>false
mutual
def qY(P:Program):TD->TypeId->Bool
 | .int k,t=>match P.underlying t with
  | some (.int k')=>decide (k'=k)
  | _=>false
 | .bool,t=>match P.underlying t with
  | some .bool=>true
  | _=>false
 | .str,t=>match P.underlying t with
  | some .string=>true
  | _=>false
 | .sl b e,t=>match P.underlying t with
  | some (.slice u)=>qY P e u&&decide (P.bytesOf u=b)&&decide (P.cellsOf u=e.n)&&decide (1<=e.n)
  | _=>false
 | .st fs,t=>match P.underlying t with
  | some (.struct fl)=>Ja P fs fl.toList 0&&decide (P.cellsOf t=TD.ns fs)
  | _=>false
 | .ob t0 _,t=>decide (t=t0)
def Ja(P:Program):List TD->List Field->Nat->Bool
 | [],[],_=>true
 | td::r,f::fl,off=>qY P td f.type&&decide (f.offset=off)&&decide (P.cellsOf f.type=td.n)&&Ja P r fl (off+td.n)
 | _,_,_=>false
end
def pk:Bool->List X->X
 | true,xs=>.agg xs
 | false,xs=>xs.headD .junk
mutual
def jE(U:Nat):TD->List X->Prop
 | .int k,xs=>∃n,xs=[.v (.int k n)]/\k.min<=n/\n<=k.max
 | .bool,xs=>∃b,xs=[.v (.bool b)]
 | .str,xs=>∃s:ByteArray,xs=[.v (.string s)]/\s.size<=U/\s.size<=140737488351232
 | .sl b e,xs=>∃es:List X,xs=[.sl false es]/\es.length<=U/\es.length*b<=140737488351232/\es.length<=9223372036854775807/\∀x∈es,jE U e x.cells/\x=pk e.Bj x.cells
 | .st fs,xs=>dD U fs xs
 | .ob _ Q,xs=>∃c,xs=[c]/\Q c
def dD(U:Nat):List TD->List X->Prop
 | [],xs=>xs=[]
 | td::r,xs=>∃a b,xs=a++b/\jE U td a/\dD U r b
end
theorem Tj(e:Bool){xs:List X}(h:e=false->∃c,xs=[c]/\c.one=true):(pk e xs).cells=xs:=by
 cases e with
 | true=>rfl
 | false=>
  obtain⟨c,rfl,hc⟩:=h rfl;show c.cells=[c]
  cases c<;>first|rfl|(simp[X.one]at hc)
structure Bd {H:Type} (B:DataW H->Prop) (U:Nat):Prop where
 str:∀l,B (.lit (.string l))->l.length<=9223372036854775807->l.length<=U
 sl:∀es sp,B (.slice es sp)->es.length<=9223372036854775807->es.length<=U/\∀d∈es,B d
 agg:∀ps,B (.agg ps)->∀d∈ps,B d
structure Good (P:Program) (w:World) (sh:Nat->Prop) (U:Nat) (td:TD) (cs:List Value) (xs:List X):Prop where
 len:xs.length=cs.length
 n:cs.length=td.n
 YA:∀(j:Nat) c v,xs[j]?=some c->cs[j]?=some v->aZ (MR w sh fun _=>False) c v
 one:∀c∈xs,c.one=true
 has:jE U td xs
 deep:aT xs=true
structure Goods (P:Program) (w:World) (sh:Nat->Prop) (U:Nat) (td:List TD) (cs:List Value) (xs:List X):Prop where
 len:xs.length=cs.length
 n:cs.length=TD.ns td
 YA:∀(j:Nat) c v,xs[j]?=some c->cs[j]?=some v->aZ (MR w sh fun _=>False) c v
 one:∀c∈xs,c.one=true
 has:dD U td xs
 deep:aT xs=true
def Zp{H:Type}(P:Program)(t:TypeId)(d:DataW H):Prop:=(DataW.weights P t d).all (·<=140737488351232)=true
theorem VQ{H:Type}{P:Program}{t e:TypeId}{es sp:List (DataW H)}(ht:P.underlying t=some (.slice e))(h:Zp P t (.slice es sp)):es.length*P.bytesOf e<=140737488351232/\∀d∈es,Zp P e d:=by
 unfold Zp at h ⊢;rw[DataW.weights,ht]at h
 simp only[List.all_cons,List.all_append,bN,decide_eq_true_eq]at h;refine⟨iq (Nat.mul_le_mul_right _ (Nat.le_add_right _ _)) h.1,?_⟩;have h2:=h.2.1;clear h;induction es with
 | nil=>intro d hd;cases hd
 | cons x es ih=>
  rw[DataW.weightsAll,List.all_append,bN]at h2
  intro d hd;rcases List.mem_cons.1 hd with rfl|hd
  ·exact h2.1
  ·exact ih h2.2 d hd
theorem Rf{H:Type}{P:Program}{t:TypeId}{fs:Array Field}{ps:List (DataW H)}(ht:P.underlying t=some (.struct fs))(h:Zp P t (.agg ps)):(DataW.weightsEach P (fs.toList.map (·.type)) ps).all (·<=140737488351232)=true:=by
 unfold Zp at h;rw[DataW.weights,ht]at h
 exact h
theorem QW{w:World}{a:Addr}{v:Value}(h:w.cell? a=some v):a.spot=none:=by
 unfold World.cell? at h;split at h
 ·split at h
  ·simp at h
  ·rename_i hs;simpa using hs
 ·simp at h
theorem addr_eq{a:Addr}(h:a.spot=none)(i:Nat):a.add i=⟨a.block,a.off+i,none⟩:=by
 cases a with
 | mk b o s=>
  simp only at h;subst h;unfold Addr.add;split
  ·rename_i h;subst h;rfl
  ·rfl
section
variable {H:Type} (enc:TypeId×Value->H) (P:Program) (w:World) (sh:Nat->Prop) (U:Nat) (B:DataW H->Prop)
def J3(t:TypeId)(Q:X->Prop)(N:Nat):Prop:=∀(fuel:Nat) (cs:List Value) (d:DataW H) (ps:List MemPlace),SizeOf.sizeOf d<=N->
 DataW.trod enc P w 0 (fun _=>true) true fuel t cs=some (d,ps)->Zp P t d->B d->∃xs,Good P w sh U (.ob t Q) cs xs
mutual
def qw:TD->Nat->Prop
 | .sl _ e,N=>∀M,M<N->qw e M
 | .st fs,N=>∀M,M<N->qx fs M
 | .ob t Q,N=>J3 enc P w sh U B t Q N
 | .int _,_=>True
 | .bool,_=>True
 | .str,_=>True
def qx:List TD->Nat->Prop
 | [],_=>True
 | td::r,N=>qw td N/\qx r N
end
mutual
theorem Iz:(td:TD)->∀ {N M:Nat},M<=N->qw enc P w sh U B td N->qw enc P w sh U B td M
 | .sl _ e,N,M,h,f=>fun K hK=>f K (by omega)
 | .st fs,N,M,h,f=>fun K hK=>f K (by omega)
 | .ob t Q,N,M,h,f=>fun fuel cs d ps hd=>f fuel cs d ps (by omega)
 | .int _,_,_,_,_=>trivial
 | .bool,_,_,_,_=>trivial
 | .str,_,_,_,_=>trivial
theorem PK:(l:List TD)->∀ {N M:Nat},M<=N->qx enc P w sh U B l N->qx enc P w sh U B l M
 | [],_,_,_,_=>trivial
 | td::r,_,_,h,f=>⟨Iz td h f.1,PK r h f.2⟩
end
end
section
variable {H:Type} {enc:TypeId×Value->H} {P:Program} {w:World} {sh:Nat->Prop} {U:Nat} {B:DataW H->Prop}
mutual
theorem jT(hsh:∀b,b<w.heap.size->sh b)(hB:Bd B U):(td:TD)->∀(fuel:Nat) (t:TypeId) (cs:List Value) (d:DataW H) (ps:List MemPlace),qw enc P w sh U B td (SizeOf.sizeOf d)->qY P td t=true->
 DataW.trod enc P w 0 (fun _=>true) true fuel t cs=some (d,ps)->Zp P t d->B d->∃xs,Good P w sh U td cs xs
 | .int k=>by
  intro fuel t cs d ps hfit hok h hw hb;simp only[qY]at hok;split at hok
  case h_2=>simp at hok
  rename_i k' hu;have hk:k'=k:=of_decide_eq_true hok;subst hk;obtain⟨n,rfl,he,hwf⟩:=DataW.trod_int hu h;simp only[Lit.wf,bN,decide_eq_true_eq]at hwf;refine⟨[.v (.int k' n)],rfl,rfl,?_,by simp[X.one],⟨n,rfl,hwf⟩,rfl⟩;intro j c v hj hv;cases j with
  | zero=>simp at hj hv;subst hj;subst hv;exact .v rfl
  | succ j=>simp at hj
 | .bool=>by
  intro fuel t cs d ps hfit hok h hw hb;simp only[qY]at hok;split at hok
  case h_2=>simp at hok
  rename_i hu;obtain⟨b,rfl,he⟩:=DataW.trod_bool hu h;refine⟨[.v (.bool b)],rfl,rfl,?_,by simp[X.one],⟨b,rfl⟩,rfl⟩;intro j c v hj hv;cases j with
  | zero=>simp at hj hv;subst hj;subst hv;exact .v rfl
  | succ j=>simp at hj
 | .str=>by
  intro fuel t cs d ps hfit hok h hw hb;simp only[qY]at hok;split at hok
  case h_2=>simp at hok
  rename_i hu;obtain⟨s,rfl,he,hml⟩:=DataW.trod_string hu h;simp only[bK]at he;obtain⟨rfl,_⟩:=he;have hl:s.size=s.data.toList.length:=rfl;have h1:s.size<=U:=by rw[hl];exact hB.str _ hb (by unfold maxLen at hml;rw[<-hl];simp at hml;omega)
  have h2:s.size<=140737488351232:=by
   unfold Zp at hw;rw[DataW.weights]at hw
   simp only[List.all_cons,List.all_nil,Bool.and_true,decide_eq_true_eq]at hw;rw[hl];exact hw
  refine⟨[.v (.string s)],rfl,rfl,?_,by simp[X.one],⟨s,rfl,h1,h2⟩,rfl⟩;intro j c v hj hv;cases j with
  | zero=>simp at hj hv;subst hj;subst hv;exact .v rfl
  | succ j=>simp at hj
 | .sl b e=>by
  intro fuel t cs d ps hfit hok h hw hb;simp only[qY]at hok;split at hok
  case h_2=>simp at hok
  rename_i u hu;simp only[bN,decide_eq_true_eq]at hok;obtain⟨⟨⟨hoe,hbe⟩,hce⟩,hne⟩:=hok;rcases Go.Deep.open_slice hu h with⟨rfl,_⟩|⟨a,len,cap,m,n,D,Pl,rfl,hba,hlc,hcm,hm,hd,hx⟩
  ·refine⟨[.sl false []],rfl,rfl,?_,by simp[X.one],⟨[],rfl,by simp,by simp,by simp,by simp⟩,rfl⟩;intro j c v hj hv;cases j with
   | zero=>simp at hj hv;subst hj;subst hv;exact .sl0
   | succ j=>simp at hj
  ·simp only[if_true]at hm;subst hm;simp only[bK]at hd;obtain⟨rfl,_⟩:=hd;obtain⟨hw1,hw2⟩:=VQ hu hw;obtain⟨hb1,hb2⟩:=hB.sl _ _ hb (by have:=hcm;unfold maxLen at this;simp at this ⊢;omega);simp only[List.length_map,List.length_range]at hw1 hb1;have each:∀i,i<len->∃p:List Value×List X,w.cells? 0 (a.add (i*e.n)) e.n=some p.1/\Good P w sh U e p.1 p.2:=by
    intro i hi;obtain⟨cs',h1,h2⟩:=hx i (Nat.lt_of_lt_of_le hi hlc);rw[hce]at h1
    have hm:D i∈(List.range len).map D:=List.mem_map.2 ⟨i,List.mem_range.2 hi,rfl⟩;obtain⟨xs,hg⟩:=jT hsh hB e _ _ _ _ _ (hfit _ (by have:=List.sizeOf_lt_of_mem hm;simp only[DataW.slice.sizeOf_spec];omega)) hoe h2 (hw2 _ hm) (hb2 _ hm);exact⟨(cs',xs),h1,hg⟩
   obtain⟨F,hF⟩:=Go.Deep.choose_lt each;have cell:∀i,i<len->∀j,j<e.n->∃v,(F i).1[j]?=some v/\w.cell? ((a.add (i*e.n)).add j)=some v:=by intro i hi j hj;obtain⟨h1,h2⟩:=hF i hi;obtain⟨_,h3,h4⟩:=World.cells?_some h1;refine⟨(F i).1[j]'(by omega),by simp,?_⟩;rw[h4 j hj];simp
   have hone:∀i,i<len->e.Bj=false->∃c,(F i).2=[c]/\c.one=true:=by
    intro i hi he;obtain⟨h1,h2⟩:=hF i hi;have hn1:e.n=1:=by cases e<;>first|rfl|simp[TD.Bj]at he
    have hl:(F i).2.length=1:=by rw[h2.len,h2.n,hn1]
    obtain⟨c,hc⟩:=List.length_eq_one_iff.1 hl;exact⟨c,hc,h2.one c (by rw[hc];simp)⟩
   have hcells:∀i,i<len->(pk e.Bj (F i).2).cells=(F i).2:=fun i hi=>Tj _ (hone i hi);refine⟨[.sl false ((List.range len).map fun i=>pk e.Bj (F i).2)],rfl,rfl,?_,by simp[X.one],?_,?_⟩
   ·intro j c v hj hv;cases j with
    | succ j=>simp at hj
    | zero=>
     simp at hj hv;subst hj;subst hv;by_cases h0:len=0
     ·subst h0;exact .sl0
     ·have hsp:a.spot=none:=by obtain⟨v,_,hv⟩:=cell 0 (by omega) 0 (by omega);have:=QW hv;simpa[Addr.add]using this
      have hbl:a.block<w.heap.size:=by
       obtain⟨v,_,hv⟩:=cell 0 (by omega) 0 (by omega);simp only[Nat.zero_mul,Addr.add,if_true]at hv;unfold World.cell? at hv;split at hv
       ·rename_i hh;exact dA hh
       ·simp at hv
      have ea:(some a:Option Addr)=some ⟨a.block,a.off,none⟩:=by cases a;simp only at hsp;subst hsp;rfl
      rw[ea];refine .sl (k:=e.n) (fun i j=>(F i).1.getD j undef) (by simp) hlc (by have:=hcm;unfold maxLen at this;simp;omega) (.inr ⟨rfl,hsh _ hbl⟩) ?_ ?_ (by simp) ?_
      ·intro x hx;obtain⟨i,hi,rfl⟩:=List.mem_map.1 hx;have hi:=List.mem_range.1 hi;rw[hcells i hi,(hF i hi).2.len,(hF i hi).2.n]
      ·intro i x j c hi hj;have hil:i<len:=by have:=(List.getElem?_eq_some_iff.1 hi).1;simpa using this
       simp[hil]at hi
       subst hi;rw[hcells i hil]at hj
       have hjn:j<e.n:=by have:=(List.getElem?_eq_some_iff.1 hj).1;rw[(hF i hil).2.len,(hF i hil).2.n]at this;exact this
       obtain⟨v,hv1,hv2⟩:=cell i hil j hjn;rw[Go.Deep.add_add,addr_eq hsp,<-Nat.add_assoc]at hv2
       refine⟨by rw[List.getD_eq_getElem?_getD,hv1];exact hv2,(hF i hil).2.one c (kK hj)⟩
      ·intro i x j c hi hj;have hil:i<len:=by have:=(List.getElem?_eq_some_iff.1 hi).1;simpa using this
       simp[hil]at hi
       subst hi;rw[hcells i hil]at hj
       have hjn:j<e.n:=by have:=(List.getElem?_eq_some_iff.1 hj).1;rw[(hF i hil).2.len,(hF i hil).2.n]at this;exact this
       obtain⟨v,hv1,hv2⟩:=cell i hil j hjn;rw[List.getD_eq_getElem?_getD,hv1];exact(hF i hil).2.YA j c v hj hv1
   ·refine⟨_,rfl,by simpa using hb1,by rw[hbe]at hw1;simpa using hw1,by have:=hcm;unfold maxLen at this;simp;omega,?_⟩;intro x hx;obtain⟨i,hi,rfl⟩:=List.mem_map.1 hx;have hi:=List.mem_range.1 hi;rw[hcells i hi];exact⟨(hF i hi).2.has,rfl⟩
   ·show(aT ((List.range len).map fun i=>pk e.Bj (F i).2)&&true)=true;rw[Bool.and_true];refine bf.2 ?_;intro x hx;obtain⟨i,hi,rfl⟩:=List.mem_map.1 hx
    have hi:=List.mem_range.1 hi;cases he:e.Bj with
    | true=>exact(hF i hi).2.deep
    | false=>
     obtain⟨c,hc,_⟩:=hone i hi he;have:=(hF i hi).2.deep;rw[hc]at this ⊢
     exact bf.1 this c (by simp)
 | .st fs=>by
  intro fuel t cs d ps hfit hok h hw hb;simp only[qY]at hok;split at hok
  case h_2=>simp at hok
  rename_i fl hu;simp only[bN,decide_eq_true_eq]at hok;obtain⟨hoe,hce⟩:=hok;obtain⟨ys,n,rfl,hd,hl,hyl,hf⟩:=DataW.trod_struct hu h;simp only[bK]at hd;obtain⟨rfl,_⟩:=hd;obtain⟨xs,hg⟩:=tT hsh hB fs fl.toList 0 cs (ys.map (·.1)) (SizeOf.sizeOf (ys.map (·.1))) (hfit _ (by simp only[DataW.agg.sizeOf_spec];omega)) (fun d hd=>Nat.le_of_lt (List.sizeOf_lt_of_mem hd)) hoe
   (fun i f hi=>by
    have h1:=hf i f (by simpa using hi);have hil:i<ys.length:=by rw[hyl];simpa using (List.getElem?_eq_some_iff.1 hi).1
    refine⟨n,ys[i].1,ys[i].2,by simp[hil],?_⟩;rw[h1];simp[hil]) (by rw[hl,hce];omega) (Rf hu hw) (fun d hd=>hB.agg _ hb d hd)
  rw[List.drop_zero]at hg
  exact⟨xs,hg.len,hg.n,hg.YA,hg.one,hg.has,hg.deep⟩
 | .ob t0 Q=>by intro fuel t cs d ps hfit hok h hw hb;have:t=t0:=of_decide_eq_true hok;subst this;exact hfit fuel cs d ps (Nat.le_refl _) h hw hb
theorem tT(hsh:∀b,b<w.heap.size->sh b)(hB:Bd B U):(td:List TD)->∀(fl:List Field) (off:Nat) (cs:List Value) (ds:List (DataW H)) (N:Nat),qx enc P w sh U B td N->(∀d∈ds,SizeOf.sizeOf d<=N)->Ja P td fl off=true->
 (∀(i:Nat) (f:Field),fl[i]?=some f->∃n d p,ds[i]?=some d/\DataW.trod enc P w 0 (fun _=>true) true n f.type ((cs.drop f.offset).take (P.cellsOf f.type))=some (d,p))->
 cs.length=off+TD.ns td->(DataW.weightsEach P (fl.map (·.type)) ds).all (·<=140737488351232)=true->(∀d∈ds,B d)->∃xs,Goods P w sh U td (cs.drop off) xs
 | []=>by intro fl off cs ds N hfit hN hok hf hl hw hb;have:cs.drop off=[]:=List.drop_eq_nil_of_le (by simp only[TD.ns]at hl;omega);exact⟨[],by simp[this],by simp[this,TD.ns],by simp,by simp,rfl,rfl⟩
 | td::r=>by
  intro fl off cs ds N hfit hN hok hf hl hw hb;cases fl with
  | nil=>simp[Ja]at hok
  | cons f fl=>
   simp only[Ja,bN,decide_eq_true_eq]at hok;obtain⟨⟨⟨h1,h2⟩,h3⟩,h4⟩:=hok;obtain⟨n,d,p,hd,ht⟩:=hf 0 f rfl;cases ds with
   | nil=>simp at hd
   | cons d' ds=>
    simp only[List.getElem?_cons_zero,aW]at hd;subst hd;simp only[ku,DataW.weightsEach,List.all_append,bN]at hw;obtain⟨xs,hx⟩:=jT hsh hB td _ _ _ _ _ (Iz enc P w sh U B td (hN _ (by simp)) hfit.1) h1 ht hw.1 (hb _ (by simp));simp only[TD.ns]at hl;obtain⟨ys,hy⟩:=tT hsh hB r fl (off+td.n) cs ds N hfit.2 (fun d hd=>hN d (by simp[hd])) h4 (fun i f' hi=>hf (i+1) f' (by simpa using hi)) (by omega) hw.2 (fun d hd=>hb d (by simp[hd]));have e:cs.drop off=(cs.drop f.offset).take (P.cellsOf f.type)++cs.drop (off+td.n):=by rw[h2,h3,<-List.drop_drop,List.take_append_drop]
    have hxl:xs.length=td.n:=by rw[hx.len,hx.n]
    refine⟨xs++ys,?_,?_,?_,?_,⟨xs,ys,rfl,hx.has,hy.has⟩,?_⟩
    ·rw[e,List.length_append,List.length_append,hx.len,hy.len]
    ·rw[e,List.length_append,hx.n,hy.n,TD.ns]
    ·intro j c v hj hv;rw[e]at hv
     by_cases hjl:j<xs.length
     ·rw[List.getElem?_append_left hjl]at hj
      rw[List.getElem?_append_left (by rw[<-hx.len];exact hjl)]at hv
      exact hx.YA j c v hj hv
     ·rw[List.getElem?_append_right (by omega)]at hj
      rw[List.getElem?_append_right (by rw[<-hx.len];omega),<-hx.len]at hv
      exact hy.YA _ c v hj hv
    ·intro c hc;rcases List.mem_append.1 hc with hc|hc
     ·exact hx.one c hc
     ·exact hy.one c hc
    ·refine bf.2 fun c hc=>?_;rcases List.mem_append.1 hc with hc|hc
     ·exact bf.1 hx.deep c hc
     ·exact bf.1 hy.deep c hc
end
end
open Go.ChangeShapes Go.WideShapes Go.RowKit
section
variable {H:Type} {enc:TypeId×Value->H} {P:Program}
theorem Dv(hl:laidOutB P=true){W W':World}{sp:Nat->Bool}(hb:Below W.heap.size W W'):∀ {ts:List TypeId} {vs:List Value} {ds:List (DataW H)} {ps:List MemPlace},ts.all (fun t=>P.readableRec t&&decide (t<P.types.size))=true->
 DataW.TrodAll enc P W 0 (fun _=>true) true ts vs ds ps->(∀x∈ps,x.block<W.heap.size)->(∀x∈ps,sp x.block=true)->DataW.TrodAll enc P W' 0 sp true ts vs ds ps
 | [],_,_,_,_,h,_,_=>by obtain⟨rfl,rfl,rfl⟩:=trodAll_nil h;rfl
 | t::ts,_,_,_,hr,h,hlt,hs=>by obtain⟨v,vs1,d,ds1,a,b,rfl,rfl,rfl,h1,h2⟩:=trodAll_cons h;simp only[List.all_cons,bN,decide_eq_true_eq]at hr;exact⟨a,b,WideElems.Trod_stays hl hr.1.1 hr.1.2 h1 (fun x hx=>hb.same (hlt x (by simp[hx]))) (fun x hx=>hs x (by simp[hx])),Dv hl hb hr.2 h2 (fun x hx=>hlt x (by simp[hx])) (fun x hx=>hs x (by simp[hx])),rfl⟩
theorem SG{f:Func}{s:ChangeSpec}{apart fresh handsOn again:Bool}{W W':World}{args:Array Value}{ds gs:List (DataW H)}{before:List MemPlace}{rt:TypeId}
 (hl:laidOutB P=true) (hr:f.params.toList.all (fun t=>P.readableRec t&&decide (t<P.types.size))=true) (hrt:f.resultTypes=#[rt]) (hbt:P.underlying rt=some .bool)
 (hvars:s.vars=[]) (hfn:s.fn H ds={results:=[.lit (.bool true)],args:=ds})
 (hW:DataW.Whole enc P f.params.toList s.vars apart W args.toList ds gs before) (hb:Below W.heap.size W W') :
 s.post enc P f apart fresh handsOn again W args (.bool true) W':=by
 have hlt:=hW.lt;have hW':=hW;obtain⟨p,q,hA,hV,hps,hfz,hnd⟩:=hW;rw[hvars]at hV
 obtain⟨rfl,rfl⟩:=trodVars_none hV;rw[List.append_nil]at hps
 subst hps;have e1:s.fn H (ds++[])={results:=[.lit (.bool true)],args:=ds}:=by rw[List.append_nil];exact hfn
 have hres:∀(b:Nat) (sp:Nat->Bool) (hd:Bool),DataW.TrodAll enc P W' b sp hd f.resultTypes.toList ((Value.bool true).resultList f.resultTypes.size) (s.fn H (ds++[])).results []:=by intro b sp hd;rw[hrt,e1];exact trodAll_mk1 (shut_bool hbt true)
 have hargs:∀sp:Nat->Bool,(∀x∈before,sp x.block=true)->DataW.TrodAll enc P W' 0 sp true f.params.toList args.toList (s.fn H (ds++[])).args before:=by intro sp hs;rw[e1];exact Dv hl hb hr hA hlt hs
 have hvs:∀sp:Nat->Bool,DataW.TrodVars enc P W' sp s.vars (s.fn H (ds++[])).vars []:=by intro sp;rw[hvars,e1];rfl
 refine⟨ds,[],before,[],before,[],hW',hres _ _ _,hargs _ (fun x hx=>decide_eq_true (hlt x hx)),hvs _,hb.frame _ |> World.keptBut_mono (fun x hx=>⟨hx,.inr (.inl hx)⟩),fun _=>⟨?_,?_⟩⟩
 ·exact ok_one hrt rfl (okWide_bool_mk hbt _)
 ·refine⟨_,_,([]++before)++[],⟨[]++before,[],trodAll_append (hargs _ (fun _ _=>rfl)) (hres _ _ _),hvs _,rfl,?_,?_⟩,?_⟩
  ·intro b off hp;have hp':MemPlace.cell b off∈before:=by simpa using hp
   rw[hb.frozen (p:=⟨b,off,none⟩) (hlt _ hp')];exact hfz b off hp'
  ·intro ha;simpa using hnd ha
  ·intro x hx _;simpa using hx
end
open Go.ChangeShapes Go.WideShapes Go.RowKit
def oU(U:Nat)(td:TD)(x:X):Prop:=jE U td x.cells/\x=pk td.Bj x.cells
def GI(U:Nat):List TD->List X->Prop
 | [],[]=>True
 | td::l,x::xs=>oU U td x/\GI U l xs
 | _,_=>False
def Nl(P:Program):List TD->List TypeId->Bool
 | [],[]=>true
 | td::l,t::ts=>qY P td t&&!td.isOb&&Nl P l ts
 | _,_=>false
section
variable {H:Type} {enc:TypeId×Value->H} {P:Program} {W:World} {U:Nat} {B:DataW H->Prop}
theorem Rv(hB:Bd B U){td:TD}{t:TypeId}{v:Value}{d:DataW H}{ps:List MemPlace}{base:Nat}(hfit:qw enc P W (fun b=>b<W.heap.size) U B td (SizeOf.sizeOf d))(hno:td.isOb=false)(hok:qY P td t=true)(hval:Value.okWide P W .any base t v)
 (h:DataW.Trod enc P W 0 (fun _=>true) true t v d ps) (hw:Zp P t d) (hb:B d):∃x,aZ (MR W (fun b=>b<W.heap.size) fun _=>False) x v/\x.deep=true/\oU U td x:=by
 obtain⟨fuel,hf⟩:=h;obtain⟨xs,hg⟩:=jT (sh:=fun b=>b<W.heap.size) (fun b hb=>hb) hB td _ _ _ _ _ hfit hok hf hw hb;cases hst:td.Bj with
 | true=>
  obtain⟨cs,rfl⟩:∃cs,v=.agg cs:=by
   cases td<;>simp[TD.Bj]at hst;simp only[qY]at hok;split at hok
   case h_2=>simp at hok
   rename_i fl hu;obtain⟨cs,rfl,_⟩:=okWide_struct hu hval;exact⟨cs,rfl⟩
  have e:(Value.agg cs).cells=cs:=rfl;refine⟨.agg xs,.agg (by rw[hg.len];rfl) hg.one (fun j c v hj hv=>hg.YA j c v hj (by rw[e];simpa using hv)),hg.deep,hg.has,?_⟩;rw[hst];rfl
 | false=>
  have hone:v.cells=#[v]:=by
   cases td with
   | int k=>
    simp only[qY]at hok;split at hok
    case h_2=>simp at hok
    rename_i hu;obtain⟨n,rfl⟩:=okWide_int hu hval;rfl
   | bool=>
    simp only[qY]at hok;split at hok
    case h_2=>simp at hok
    rename_i hu;obtain⟨b,rfl,_⟩:=open_bool hu hval ⟨fuel,hf⟩;rfl
   | str=>
    simp only[qY]at hok;split at hok
    case h_2=>simp at hok
    rename_i hu;obtain⟨s,rfl⟩:=okWide_string hu hval;rfl
   | sl b e=>
    simp only[qY]at hok;split at hok
    case h_2=>simp at hok
    rename_i hu;obtain⟨a,n,c,rfl⟩:=okWide_slice hu hval;rfl
   | st=>simp[TD.Bj]at hst
   | ob=>simp[TD.isOb]at hno
  have hl:xs.length=1:=by rw[hg.len,hone];rfl
  obtain⟨x,rfl⟩:=List.length_eq_one_iff.1 hl;have ho:=hg.one x (by simp);have hx:x.cells=[x]:=by cases x<;>first|rfl|(simp[X.one]at ho)
  refine⟨x,hg.YA 0 x v rfl (by rw[hone];rfl),?_,?_,?_⟩
  ·exact bf.1 hg.deep x (by simp)
  ·rw[hx];exact hg.has
  ·rw[hst,hx];rfl
theorem Dx(hB:Bd B U){base:Nat}:∀ {QZ:List TD} {ts:List TypeId} {vs:List Value} {ds:List (DataW H)} {ps:List MemPlace},(∀N,qx enc P W (fun b=>b<W.heap.size) U B QZ N)->Nl P QZ ts=true->
 (∀(j:Nat) t v,ts[j]?=some t->vs[j]?=some v->Value.okWide P W .any base t v)->DataW.TrodAll enc P W 0 (fun _=>true) true ts vs ds ps->
 (DataW.weightsEach P ts ds).all (·<=140737488351232)=true->(∀d∈ds,B d)->
 ∃xs,xs.length=vs.length/\(∀(j:Nat) x v,xs[j]?=some x->vs[j]?=some v->aZ (MR W (fun b=>b<W.heap.size) fun _=>False) x v)/\GI U QZ xs
 | [],[],_,_,_,_,_,_,h,_,_=>by obtain⟨rfl,rfl,rfl⟩:=trodAll_nil h;exact⟨[],rfl,by simp,trivial⟩
 | td::QZ,t::ts,_,_,_,hfit,hok,hval,h,hw,hb=>by
  obtain⟨v,vs1,d,ds1,a,b,rfl,rfl,rfl,h1,h2⟩:=trodAll_cons h;simp only[Nl,bN,Bool.not_eq_true']at hok;simp only[DataW.weightsEach,List.all_append,bN]at hw;obtain⟨x,hx1,hx2,hx3⟩:=Rv hB (hfit _).1 hok.1.2 hok.1.1 (hval 0 t v rfl rfl) h1 hw.1 (hb d (by simp));obtain⟨xs,h3,h4,h5⟩:=Dx hB (fun N=>(hfit N).2) hok.2 (fun j t v hj hv=>hval (j+1) t v (by simpa using hj) (by simpa using hv)) h2 hw.2 (fun d hd=>hb d (by simp[hd]));refine⟨x::xs,by simp[h3],?_,hx3,h5⟩;intro j x' v' hj hv;cases j with
  | zero=>simp at hj hv;subst hj;subst hv;exact hx1
  | succ j=>exact h4 j x' v' (by simpa using hj) (by simpa using hv)
theorem PY(hB:Bd B U){f:Nat}{fn:Func}{s:ChangeSpec}{apart fresh handsOn again:Bool}{QZ:List TD}{rt:TypeId}{base:Nat}{args:Array Value}{ds gs:List (DataW H)}{before:List MemPlace}
 (hl:laidOutB P=true) (hr:fn.params.toList.all (fun t=>P.readableRec t&&decide (t<P.types.size))=true) (hrt:fn.resultTypes=#[rt]) (hbt:P.underlying rt=some .bool)
 (hvars:s.vars=[]) (hfn:s.fn H ds={results:=[.lit (.bool true)],args:=ds})
 (hfit:∀N,qx enc P W (fun b=>b<W.heap.size) U B QZ N) (hok:Nl P QZ fn.params.toList=true)
 (hval:∀(j:Nat) t v,fn.params[j]?=some t->args[j]?=some v->Value.okWide P W .any base t v)
 (hW:DataW.Whole enc P fn.params.toList s.vars apart W args.toList ds gs before)
 (hw:(DataW.weightsEach P fn.params.toList ds).all (·<=140737488351232)=true) (hb:∀d∈ds,B d) (hG:MF W)
 (hP:∀xs,GI U QZ xs->lW P f xs (.v (.bool true))) :
 Calls P f args W fun e W'=>∃v,e=.returned v/\s.post enc P fn apart fresh handsOn again W args v W':=by
 have hA:DataW.TrodAll enc P W 0 (fun _=>true) true fn.params.toList args.toList ds (by exact(Classical.choose hW)):=(Classical.choose_spec (Classical.choose_spec hW)).1
 obtain⟨xs,h1,h2,h3⟩:=Dx hB hfit hok (fun j t v hj hv=>hval j t v (by simpa using hj) (by simpa using hv)) hA hw hb;refine(hP xs h3 W (fun b=>b<W.heap.size) args hG (fun b hb=>hb) (by rw[h1];simp) (fun j x v hj hv=>h2 j x v hj (by simpa using hv))).mono ?_;rintro e W' ⟨v,fr',rfl,hbl,_,hrep,_⟩;cases hrep with
 | v _=>exact⟨_,rfl,SG hl hr hrt hbt hvars hfn hW hbl⟩
end
end Go.Proofs.YtbmkfjmlepjpfaaGreatDoor
