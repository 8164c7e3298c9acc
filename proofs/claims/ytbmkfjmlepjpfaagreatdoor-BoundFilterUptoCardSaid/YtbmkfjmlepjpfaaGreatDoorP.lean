/- A part of the proof. -/
import Derived.Test.YtbmkfjmlepjpfaaGreatDoorE
import Derived.Laws.StructEq
import Derived.ChangeKeysEq
import Derived.MapKept
import Derived.WideKeyRuns
set_option linter.all false
set_option maxRecDepth 100000
namespace Go.Proofs.YtbmkfjmlepjpfaaGreatDoor
open Go.RowKit
variable {P:Program}
def KA(P:Program)(g:TypeId->Option (List LK)):List Field->Nat->Option (List LK)
 | [],_=>some []
 | f::fs,off=>
  if f.name="_" then none else if f.offset=off then
   match g f.type with
   | some k=>if nC P f.type k.length=true then
    match KA P g fs (off+k.length)with
    | some l=>some (k++l)
    | none=>none
    else none
   | none=>none
  else none
def GA(P:Program):Nat->TypeId->Option (List LK)
 | 0,_=>none
 | d+1,t=>
  match P.underlying t with
  | some (.int _)=>some [.i]
  | some .string=>some [.s]
  | some .bool=>some [.b]
  | some (.struct fs)=>if P.stoodInHeld t=false then KA P (GA P d) fs.toList 0 else none
  | some (.array n e)=>match GA P d e with
   | some k=>if nC P e k.length=true then some (List.replicate n k).flatten else none
   | none=>none
  | _=>none
def uJ:List LK->List Value->List Value->Option Bool
 | [],[],[]=>some true
 | k::ks,a::l,b::m=>match Gz k a b,uJ ks l m with
  | some p,some q=>some (p&&q)
  | _,_=>none
 | _,_,_=>none
theorem pE:∀ {ks:List LK} {l m:List Value} {b:Bool},uJ ks l m=some b->l.length=ks.length/\m.length=ks.length:=by
 intro ks;induction ks with
 | nil=>intro l m b h;cases l<;>cases m<;>simp[uJ]at h ⊢
 | cons k ks ih=>
  intro l m b h;cases l<;>cases m<;>simp[uJ]at h ⊢;split at h
  ·rename_i h2;exact ih h2
  ·simp at h
theorem DV:∀ {ks ks':List LK} {l m:List Value} {b:Bool},uJ (ks++ks') l m=some b->∃p q,uJ ks (l.take ks.length) (m.take ks.length)=some p/\uJ ks' (l.drop ks.length) (m.drop ks.length)=some q/\b=(p&&q):=by
 intro ks;induction ks with
 | nil=>intro ks' l m b h;exact⟨true,b,by simp[uJ],by simpa using h,by simp⟩
 | cons k ks ih=>
  intro ks' l m b h;cases l with
  | nil=>simp[uJ]at h
  | cons x l=>cases m with
   | nil=>simp[uJ]at h
   | cons y m=>
    simp only[List.cons_append,uJ]at h;split at h
    case h_2=>simp at h
    rename_i p q hp hq;injection h with h;obtain⟨p',q',h1,h2,h3⟩:=ih hq;exact⟨p&&p',q',by simp[uJ,hp,h1],by simpa using h2,by rw[<-h,h3,Bool.and_assoc]⟩
def Seg(xs:Array Value)(off:Nat)(l:List Value):Prop:=off+l.length<=xs.size/\∀j u,l[j]?=some u->xs[off+j]?=some u
theorem Seg.extract{xs:Array Value}{off:Nat}{l:List Value}(h:Seg xs off l):Seg (xs.extract off (off+l.length)) 0 l:=by refine⟨by simp;have:=h.1;omega,fun j u hu=>?_⟩;have hj:=(List.getElem?_eq_some_iff.1 hu).1;rw[Array.getElem?_extract,if_pos (by have:=h.1;omega),Nat.zero_add];exact h.2 j u hu
theorem Seg.take{xs:Array Value}{off k:Nat}{l:List Value}(h:Seg xs off l)(hk:k<=l.length):Seg xs off (l.take k):=
 ⟨by have:=h.1;simp;omega,fun j u hu=>h.2 j u (by rw[List.getElem?_take]at hu;split at hu<;>simp_all)⟩
theorem Seg.drop{xs:Array Value}{off k:Nat}{l:List Value}(h:Seg xs off l)(hk:k<=l.length):Seg xs (off+k) (l.drop k):=
 ⟨by have:=h.1;simp;omega,fun j u hu=>by rw[List.getElem?_drop]at hu;rw[Nat.add_assoc];exact h.2 _ u hu⟩
theorem aggF{t:TypeId}{d:TypeDesc}(hu:P.underlying t=some d)(hd:(∀fs,d≠.struct fs)/\∀n e,d≠.array n e)(w:World):(isAgg t).run P w=.ok false w:=by refine eP (b:=false) ?_ w;unfold jX;rw[hu];cases d<;>first|rfl|(exact absurd rfl (hd.1 _))|(exact absurd rfl (hd.2 _ _))
theorem ER(w:World):∀(d:Nat) (t:TypeId) (ks:List LK),GA P d t=some ks->∀ {xs ys:Array Value} {off:Nat} {l m:List Value} {b:Bool},Seg xs off l->Seg ys off m->nC P t ks.length=true->uJ ks l m=some b->
 ∃x y,(part t xs off).run P w=.ok x w/\(part t ys off).run P w=.ok y w/\∀d',d<=d'->(Op.equalIn d' t x y).run P w=.ok b w:=by
 intro d;induction d with
 | zero=>intro t k h;simp[GA]at h
 | succ d ih=>
  intro t ks h xs ys off l m b hx hy hs he;obtain⟨hl,hm⟩:=pE he;have one:∀(de:TypeDesc) (lk:LK),P.underlying t=some de->(∀fs,de≠.struct fs)/\(∀n e,de≠.array n e)->ks=[lk]->
   (∀u v d',Gz lk u v=some b->(Op.equalIn (d'+1) t u v).run P w=.ok b w)->
   ∃x y,(part t xs off).run P w=.ok x w/\(part t ys off).run P w=.ok y w/\∀d',d+1<=d'->(Op.equalIn d' t x y).run P w=.ok b w:=by
   intro de lk hu hd hk heq;subst hk
   match l,m,hl,hm with
   | [u],[v],_,_=>
    have h1:=hx.2 0 u rfl;have h2:=hy.2 0 v rfl;rw[Nat.add_zero]at h1 h2
    refine⟨u,v,by simp[part,aggF hu hd,h1],by simp[part,aggF hu hd,h2],fun d' hd'=>?_⟩;obtain⟨d'',rfl⟩:∃n,d'=n+1:=⟨d'-1,by omega⟩
    refine heq u v d'' ?_;simp only[uJ]at he;split at he
    ·rename_i p q hp hq;simp only[aW]at hq he;subst hq;rw[hp];simpa using he
    ·simp at he
  simp only[GA]at h;split at h
  ·rename_i kd hu;simp only[aW]at h;refine one _ _ hu ⟨by simp,by simp⟩ h.symm fun u v d' huv=>?_
   cases u<;>cases v<;>simp[Gz]at huv;obtain⟨rfl,rfl⟩:=huv;simp[Op.equalIn,run_underlying hu]
  ·rename_i hu;simp only[aW]at h;refine one _ _ hu ⟨by simp,by simp⟩ h.symm fun u v d' huv=>?_
   cases u<;>cases v<;>simp only[Gz,reduceCtorEq,aW]at huv;subst huv;exact run_equalIn_string w d' t _ _ hu
  ·rename_i hu;simp only[aW]at h;refine one _ _ hu ⟨by simp,by simp⟩ h.symm fun u v d' huv=>?_
   cases u<;>cases v<;>simp only[Gz,reduceCtorEq,aW]at huv;subst huv;exact run_equalIn_bool w d' t _ _ hu
  ·rename_i fs hu;split at h
   case isFalse=>simp at h
   rename_i hst;have hag:(isAgg t).run P w=.ok true w:=eP (by unfold jX;rw[hu]) w;refine⟨.agg (xs.extract off (off+ks.length)),.agg (ys.extract off (off+ks.length)),by simp[part,hag,dx hs],by simp[part,hag,dx hs],fun d' hd'=>?_⟩;obtain⟨d'',rfl⟩:∃n,d'=n+1:=⟨d'-1,by omega⟩
   have hfo:P.fieldsOf t=fs:=by unfold Program.fieldsOf;rw[hu]
   rw[run_equalIn_struct w d'' t _ _ (by rw[hfo];exact hu) hst,hfo];have hx':=hx.extract;have hy':=hy.extract;rw[hl]at hx'
   rw[hm]at hy'
   have key:∀(fl:List Field) (o:Nat) (ks':List LK) (l m:List Value) (b:Bool),KA P (GA P d) fl o=some ks'->Seg (xs.extract off (off+ks.length)) o l->Seg (ys.extract off (off+ks.length)) o m->uJ ks' l m=some b->
    (Op.eqFields d'' (xs.extract off (off+ks.length)) (ys.extract off (off+ks.length)) fl).run P w=.ok b w:=by
    intro fl;induction fl with
    | nil=>
     intro o ks' l m b hf hx hy he;simp only[KA,aW]at hf;subst hf;obtain⟨h1,h2⟩:=pE he;have h1:l=[]:=List.eq_nil_of_length_eq_zero (by simpa using h1);have h2:m=[]:=List.eq_nil_of_length_eq_zero (by simpa using h2);subst h1;subst h2;simp[uJ]at he
     subst he;simp[Op.eqFields]
    | cons f fl ihf=>
     intro o ks' l m b hf hx hy he;simp only[KA]at hf;split at hf
     case isTrue=>simp at hf
     rename_i hname;split at hf
     case isFalse=>simp at hf
     rename_i hoff;split at hf
     case h_2=>simp at hf
     rename_i kf hkf;split at hf
     case isFalse=>simp at hf
     rename_i hsf;split at hf
     case h_2=>simp at hf
     rename_i kr hkr;simp only[aW]at hf;subst hf;obtain⟨hl,hm⟩:=pE he;simp only[List.length_append]at hl hm;obtain⟨p,q,hp,hq,rfl⟩:=DV he;obtain⟨x,y,h1,h2,h3⟩:=ih f.type kf hkf (l:=l.take kf.length) (m:=m.take kf.length) (hx.take (by omega)) (hy.take (by omega)) hsf hp;have h4:=ihf (o+kf.length) kr (l.drop kf.length) (m.drop kf.length) q hkr (hx.drop (by omega)) (hy.drop (by omega)) hq;simp only[Op.eqFields,ne_eq,hname,not_false_eq_true,if_true,hoff,Sem.run_bind,h1,h2,Result.andThen_ok,h3 d'' (by omega)];cases p
     ·simp
     ·simp[h4]
   exact key fs.toList 0 ks l m b h hx' hy' he
  ·rename_i n te hu;split at h
   case h_2=>simp at h
   rename_i k hk;split at h
   case isFalse=>simp at h
   rename_i hse;injection h with h;subst h;have hag:(isAgg t).run P w=.ok true w:=eP (by unfold jX;rw[hu]) w;refine⟨.agg (xs.extract off (off+(List.replicate n k).flatten.length)),.agg (ys.extract off (off+(List.replicate n k).flatten.length)),by simp only[part,Sem.run_bind,hag,dx hs,Result.andThen_ok,if_true];rfl,by simp only[part,Sem.run_bind,hag,dx hs,Result.andThen_ok,if_true];rfl,fun d' hd'=>?_⟩;obtain⟨d'',rfl⟩:∃n,d'=n+1:=⟨d'-1,by omega⟩
   have hinf:∃i,P.info? te=some i/\i.size=k.length:=by
    unfold nC at hse;split at hse
    ·rename_i i hi;exact⟨i,hi,by simpa using hse⟩
    ·simp at hse
   obtain⟨i,hi,hisz⟩:=hinf;rw[run_equalIn_array w d'' _ _ hu hi,show P.cellsOf te=k.length by simp[Program.cellsOf,hi,hisz]];have hx':=hx.extract;have hy':=hy.extract;rw[hl]at hx'
   rw[hm]at hy'
   have key:∀(c o:Nat) (l m:List Value) (b:Bool),Seg (xs.extract off (off+(List.replicate n k).flatten.length)) (o*k.length) l->Seg (ys.extract off (off+(List.replicate n k).flatten.length)) (o*k.length) m->uJ (List.replicate c k).flatten l m=some b->
    (Op.eqItems d'' te k.length (xs.extract off (off+(List.replicate n k).flatten.length)) (ys.extract off (off+(List.replicate n k).flatten.length)) (List.range' o c)).run P w=.ok b w:=by
    intro c;induction c with
    | zero=>
     intro o l m b hx hy he;obtain⟨h1,h2⟩:=pE he;have h1:l=[]:=List.eq_nil_of_length_eq_zero (by simpa using h1);have h2:m=[]:=List.eq_nil_of_length_eq_zero (by simpa using h2);subst h1;subst h2;simp[uJ]at he
     subst he;simp[Op.eqItems]
    | succ c ihn=>
     intro o l m b hx hy he;rw[List.replicate_succ,List.flatten_cons]at he
     obtain⟨hl,hm⟩:=pE he;simp only[List.length_append]at hl hm;obtain⟨p,q,hp,hq,rfl⟩:=DV he;obtain⟨x,y,h1,h2,h3⟩:=ih te k hk (l:=l.take k.length) (m:=m.take k.length) (hx.take (by omega)) (hy.take (by omega)) hse hp;have hq':(o+1)*k.length=o*k.length+k.length:=by rw[Nat.add_mul,Nat.one_mul]
     have h4:=ihn (o+1) (l.drop k.length) (m.drop k.length) q (hq'▸hx.drop (by omega)) (hq'▸hy.drop (by omega)) hq;rw[List.range'_succ];simp only[Op.eqItems,Sem.run_bind,h1,h2,Result.andThen_ok,h3 d'' (by omega)];cases p
     ·simp
     ·simp only[Bool.not_true,kG,if_false,Bool.true_and];exact h4
   rw[List.range_eq_range'];exact key n 0 l m b (by simpa using hx') (by simpa using hy') he
  ·simp at h
theorem zH(w:World)(em:Bool):∀(d:Nat) (t:TypeId) (ks:List LK),GA P d t=some ks->∀ {xs:Array Value} {off:Nat} {l:List Value},Seg xs off l->l.length=ks.length->nC P t ks.length=true->
 ∃x,(part t xs off).run P w=.ok x w/\∀d',d<=d'->(Instr.checkKey em d' t x).run P w=.ok () w:=by
 intro d;induction d with
 | zero=>intro t k h;simp[GA]at h
 | succ d ih=>
  intro t ks h xs off l hx hl hs;have one:∀(de:TypeDesc) (lk:LK),P.underlying t=some de->(∀fs,de≠.struct fs)/\(∀n e,de≠.array n e)->ks=[lk]->(∀u n,(Instr.checkKey em (n+1) t u).run P w=.ok () w)->
   ∃x,(part t xs off).run P w=.ok x w/\∀d',d+1<=d'->(Instr.checkKey em d' t x).run P w=.ok () w:=by
   intro de lk hu hd hk heq;subst hk
   match l,hl with
   | [u],_=>
    have h1:=hx.2 0 u rfl;rw[Nat.add_zero]at h1
    refine⟨u,by simp[part,aggF hu hd,h1],fun d' hd'=>?_⟩;obtain⟨d'',rfl⟩:∃n,d'=n+1:=⟨d'-1,by omega⟩
    exact heq u d''
  simp only[GA]at h;split at h
  ·rename_i kd hu;simp only[aW]at h;exact one _ _ hu ⟨by simp,by simp⟩ h.symm fun u n=>by simp[Instr.checkKey,run_underlying hu]
  ·rename_i hu;simp only[aW]at h;exact one _ _ hu ⟨by simp,by simp⟩ h.symm fun u n=>by simp[Instr.checkKey,run_underlying hu]
  ·rename_i hu;simp only[aW]at h;exact one _ _ hu ⟨by simp,by simp⟩ h.symm fun u n=>by simp[Instr.checkKey,run_underlying hu]
  ·rename_i fs hu;split at h
   case isFalse=>simp at h
   rename_i hst;have hag:(isAgg t).run P w=.ok true w:=eP (by unfold jX;rw[hu]) w;refine⟨.agg (xs.extract off (off+ks.length)),by simp[part,hag,dx hs],fun d' hd'=>?_⟩;obtain⟨d'',rfl⟩:∃n,d'=n+1:=⟨d'-1,by omega⟩
   have hx':=hx.extract;rw[hl]at hx'
   simp only[Instr.checkKey,Sem.run_bind,run_underlying hu,Result.andThen_ok];rw[<-Array.forIn_toList];have key:∀(fl:List Field) (o:Nat) (ks':List LK) (l:List Value),KA P (GA P d) fl o=some ks'->Seg (xs.extract off (off+ks.length)) o l->l.length=ks'.length->
    (forIn fl PUnit.unit fun f _=>(if f.name≠"_" then do
     let y <-part f.type (xs.extract off (off+ks.length)) f.offset
     Instr.checkKey em d'' f.type y
     pure (ForInStep.yield PUnit.unit)else pure (ForInStep.yield PUnit.unit):Sem (ForInStep PUnit))).run P w=.ok PUnit.unit w:=by
    intro fl;induction fl with
    | nil=>intro o ks' l hf hx hl;simp
    | cons f fl ihf=>
     intro o ks' l hf hx hl;simp only[KA]at hf;split at hf
     case isTrue=>simp at hf
     rename_i hname;split at hf
     case isFalse=>simp at hf
     rename_i hoff;split at hf
     case h_2=>simp at hf
     rename_i kf hkf;split at hf
     case isFalse=>simp at hf
     rename_i hsf;split at hf
     case h_2=>simp at hf
     rename_i kr hkr;simp only[aW]at hf;subst hf;simp only[List.length_append]at hl;obtain⟨x,h1,h3⟩:=ih f.type kf hkf (l:=l.take kf.length) (hx.take (by omega)) (by simp;omega) hsf;have h4:=ihf (o+kf.length) kr (l.drop kf.length) hkr (hx.drop (by omega)) (by simp;omega);simp only[List.forIn_cons,Sem.run_bind,ne_eq,hname,not_false_eq_true,if_true,hoff,h1,Result.andThen_ok,h3 d'' (by omega),Sem.run_pure];exact h4
   have:=key fs.toList 0 ks l h hx' hl;simp only[ne_eq,bind_pure_comp]at this ⊢;rw[this];rfl
  ·rename_i n te hu;split at h
   case h_2=>simp at h
   rename_i k hk;split at h
   case isFalse=>simp at h
   rename_i hse;injection h with h;subst h;have hag:(isAgg t).run P w=.ok true w:=eP (by unfold jX;rw[hu]) w;refine⟨.agg (xs.extract off (off+(List.replicate n k).flatten.length)),by simp only[part,Sem.run_bind,hag,dx hs,Result.andThen_ok,if_true];rfl,fun d' hd'=>?_⟩;obtain⟨d'',rfl⟩:∃n,d'=n+1:=⟨d'-1,by omega⟩
   have hx':=hx.extract;rw[hl]at hx'
   simp only[Instr.checkKey,Sem.run_bind,run_underlying hu,Result.andThen_ok];simp only[Std.Legacy.Range.forIn_eq_forIn_range',Std.Legacy.Range.size,Nat.sub_zero,Nat.add_one_sub_one,Nat.div_one];have key:∀(c o:Nat) (l:List Value),Seg (xs.extract off (off+(List.replicate n k).flatten.length)) (o*k.length) l->l.length=(List.replicate c k).flatten.length->
    (forIn (List.range' o c) PUnit.unit fun i _=>(do
     let z <-sizeOf te
     let y <-part te (xs.extract off (off+(List.replicate n k).flatten.length)) (i*z)
     Instr.checkKey em d'' te y
     pure (ForInStep.yield PUnit.unit):Sem (ForInStep PUnit))).run P w=.ok PUnit.unit w:=by
    intro c;induction c with
    | zero=>intro o l hx hl;simp
    | succ c ihn=>
     intro o l hx hl;rw[List.replicate_succ,List.flatten_cons,List.length_append]at hl
     obtain⟨x,h1,h3⟩:=ih te k hk (l:=l.take k.length) (hx.take (by omega)) (by simp;omega) hse;have hq':(o+1)*k.length=o*k.length+k.length:=by rw[Nat.add_mul,Nat.one_mul]
     have h4:=ihn (o+1) (l.drop k.length) (hq'▸hx.drop (by omega)) (by simp only[List.length_drop];omega);rw[List.range'_succ];simp only[List.forIn_cons,Sem.run_bind,dx hse,h1,Result.andThen_ok,h3 d'' (by omega),Sem.run_pure];exact h4
   have:=key n 0 l (by simpa using hx') hl;simp only[bind_pure_comp]at this ⊢;rw[this];rfl
  ·simp at h
def eqT(P:Program)(t:TypeId)(ks:List LK):Bool:=
 nC P t ks.length&&jX P t true&&decide (GA P 9 t=some ks)&&!(P.eqGuardType P.depth t)
theorem ZI{C:Cx}:∀ {ks:List LK} {l m:List X} {us vs:List Value} {b:Bool},EP ks l m=some b->l.length=us.length->m.length=vs.length->(∀(j:Nat) c u,l[j]?=some c->us[j]?=some u->aZ C c u)->(∀(j:Nat) c u,m[j]?=some c->vs[j]?=some u->aZ C c u)->uJ ks us vs=some b:=by
 intro ks;induction ks with
 | nil=>
  intro l m us vs b h h1 h2 _ _;cases l<;>cases m<;>simp[EP]at h;subst h;have:us=[]:=List.eq_nil_of_length_eq_zero (by simpa using h1.symm);have:vs=[]:=List.eq_nil_of_length_eq_zero (by simpa using h2.symm);subst us;subst vs;rfl
 | cons k ks ih=>
  intro l m us vs b h h1 h2 h3 h4;cases l with
  | nil=>simp[EP]at h
  | cons x l=>cases m with
   | nil=>cases x<;>simp[EP]at h
   | cons y m=>
    cases us with
    | nil=>simp at h1
    | cons u us=>cases vs with
     | nil=>simp at h2
     | cons v vs=>
      cases x<;>cases y<;>simp only[EP,reduceCtorEq]at h;rename_i x y;split at h
      case h_2=>simp at h
      rename_i p q hp hq;have e1:=(iP (h3 0 _ u rfl rfl)).1;have e2:=(iP (h4 0 _ v rfl rfl)).1;subst e1;subst e2;have:=ih hq (by simpa using h1) (by simpa using h2) (fun j c u hj hu=>h3 (j+1) c u (by simpa using hj) (by simpa using hu)) (fun j c u hj hu=>h4 (j+1) c u (by simpa using hj) (by simpa using hu));simp[uJ,hp,this,h]
section
variable {w0:Bs} {sh:Nat->Prop} {nt:Nat} {μ:Nat->Nat} {fr:Nat->Prop} {e:Env} {s:ax} {a:Act} {w:World}
theorem YQ(h:Inv w0 sh nt μ fr e s a w){o:Oper}{neg:Bool}{ks:List LK}{t yt:TypeId}{x y:Operand}{r1 r2:Ar}(ho:o.op=.binOp (if neg then .neq else .eql) t x y yt)(hx:dU x r1=true)(hy:dU y r2=true)(ht:eqT P t ks=true)
 {l m:List X} {b:Bool} (hl:r1.ev e=.agg l) (hm:r2.ev e=.agg m) (hb:EP ks l m=some b):g_ P w0 sh nt μ fr e s a w o (.v (.bool (if neg then !b else b))):=by
 have h1:=aD h.env hx;have h2:=aD h.env hy;rw[hl]at h1
 rw[hm]at h2
 simp only[eqT,bN,decide_eq_true_eq,Bool.not_eq_true']at ht;obtain⟨⟨⟨hs,hag⟩,hf⟩,hgd⟩:=ht;generalize hv1:a.eval x=v1 at h1;generalize hv2:a.eval y=v2 at h2;cases h1 with
 | @agg _ us hl1 _ hr1=>
  cases h2 with
  | @agg _ vs hl2 _ hr2=>
   have hw:=ZI hb (us:=us.toList) (vs:=vs.toList) (by simpa using hl1) (by simpa using hl2) (by simpa using hr1) (by simpa using hr2);obtain⟨n1,n2⟩:=pE hw;have sg:∀(z:Array Value),Seg z 0 z.toList:=fun z=>⟨by simp,fun j u hu=>by simpa using hu⟩
   obtain⟨p,q,hp,hq,heq⟩:=ER (P:=P) w 9 t ks hf (sg us) (sg vs) hs hw;have ep:(part t us 0).run P w=.ok (.agg us) w:=by simp only[Array.length_toList]at n1;simp[part,eP hag,dx hs,<-n1]
   have eq':(part t vs 0).run P w=.ok (.agg vs) w:=by simp only[Array.length_toList]at n2;simp[part,eP hag,dx hs,<-n2]
   rw[ep]at hp
   rw[eq']at hq
   injection hp with hp _;injection hq with hq _;subst hp;subst hq;have he:=heq 10000 (by omega);have hg:=fun op=>run_eqGuard_agg (P:=P) w op t x y us vs hgd
   cases neg
   ·have:=run_eql_struct (P:=P) w t us vs;rw[he]at this
    exact aO h (v:=.bool b) (by simp[execOp,ho,hv1,hv2,hg,this]) (.v rfl)
   ·have:=run_neq_struct (P:=P) w t us vs;rw[he]at this
    exact aO h (v:=.bool (!b)) (by simp[execOp,ho,hv1,hv2,hg,this]) (.v rfl)
end
variable {P:Program}
def IV(P:Program)(t:TypeId)(ks:List LK)(ag:Bool):Bool:=match P.underlying t with
 | some (.map kt _)=>nC P kt ks.length&&jX P kt ag&&decide (GA P 9 kt=some ks)
 | _=>false
def P5(P:Program)(t:TypeId)(z:X):Bool:=match P.underlying t with
 | some (.map _ et)=>oQ P et z
 | _=>false
def oK(P:Program):Op->iw->Bool
 | .makeMap _ none,.KJ _ none=>true
 | .makeMap t (some h),.KJ _ (some a)=>dU h a&&(match P.underlying t with
  | some (.map _ _)=>true
  | _=>false)
 | .lookup t m k ok,.KL ks ag m' k' z ok'=>IV P t ks ag&&P5 P t z&&dU m m'&&dU k k'&&ok==ok'
 | .mapEntry t m k,.SK ks ag m' k' z=>IV P t ks ag&&P5 P t z&&dU m m'&&dU k k'
 | .entryStore _ m st v,.SQ m' st' v'=>dU m m'&&dU st st'&&dU v v'
 | .mapUpdate t m k v,.Rl ks ag m' k' v'=>IV P t ks ag&&dU m m'&&dU k k'&&dU v v'
 | .call c,.P7 a=>(match c.callee with
  | .builtin .len=>true
  | _=>false)&&(match c.argTypes[0]? with
  | some t=>match P.underlying t with
   | some (.map _ _)=>true
   | _=>false
  | none=>false)&&iY c.args.toList [a]
 | _,_=>false
theorem En:∀ {l:List X},rH l=true↔∀c∈l,c.fM=true:=by
 intro l;induction l with
 | nil=>simp[rH]
 | cons a l ih=>simp[rH,ih]
theorem aZ.fM{C D:Cx}{x:X}{v:Value}(hx:aZ C x v)(hd:x.fM=true):aZ D x v:=by
 induction hx with
 | v hp=>exact .v hp
 | agg hl ho hr ih=>exact .agg hl ho fun j c v hj hv=>ih j c v hj hv (En.1 (by simpa[X.fM]using hd) c (kK hj))
 | cZ hl hr ih=>exact .cZ hl fun j c v hj hv=>ih j c v hj hv (En.1 (by simpa[X.fM]using hd) c (kK hj))
 | _=>simp[X.fM]at hd
theorem Iq{k:LK}{a b:Value}(h:Gz k a b=some true):a=b:=by
 cases k<;>cases a<;>cases b<;>simp only[Gz,reduceCtorEq,aW]at h
 ·split at h
  ·rename_i hk;subst hk;simp only[aW,beq_iff_eq]at h;rw[h]
  ·simp at h
 ·have:∀x y:ByteArray,x.toList=y.toList->x=y:=by
   intro x y hxy;rw[ByteArray.toList_eq,ByteArray.toList_eq]at hxy
   obtain⟨⟨x⟩⟩:=x;obtain⟨⟨y⟩⟩:=y;simp only at hxy;rw[hxy]
  rename_i a b;rw[this a b (by simpa using h)]
 ·rw[beq_iff_eq.1 h]
theorem R5:∀ {ks:List LK} {l m:List Value},uJ ks l m=some true->l=m:=by
 intro ks;induction ks with
 | nil=>intro l m h;cases l<;>cases m<;>simp[uJ]at h ⊢
 | cons k ks ih=>
  intro l m h;cases l with
  | nil=>simp[uJ]at h
  | cons a l=>cases m with
   | nil=>simp[uJ]at h
   | cons b m=>
    simp only[uJ]at h;split at h
    case h_2=>simp at h
    rename_i p q hp hq;simp only[aW,bN]at h;obtain⟨rfl,rfl⟩:=h;rw[Iq hp,ih hq]
theorem Iu:∀ {ks:List LK} {l m:List Value} {b:Bool},uJ ks l m=some b->∀n,(l.zip l).all (fun p=>Instr.sameBits n p.1 p.2)=true:=by
 intro ks;induction ks with
 | nil=>intro l m b h n;cases l<;>cases m<;>simp[uJ]at h ⊢
 | cons k ks ih=>
  intro l m b h n;cases l with
  | nil=>simp
  | cons a l=>cases m with
   | nil=>simp[uJ]at h
   | cons c m=>
    simp only[uJ]at h;split at h
    case h_2=>simp at h
    rename_i p q hp hq;simp only[List.zip_cons_cons,List.all_cons,bN];refine⟨?_,ih hq n⟩;cases k<;>cases a<;>cases c<;>simp[Gz]at hp<;>cases n<;>simp[Instr.sameBits,beq_toListBytes]
theorem zG(w:World){C:Cx}{kt:TypeId}{ks:List LK}{ag:Bool}(hs:nC P kt ks.length=true)(ha:jX P kt ag=true)(hf:GA P 9 kt=some ks){p q:X}{u v:Value}{b:Bool}(he:eqX ks ag p q=some b)(hp:aZ C p u)(hq:aZ C q v) :
 (Op.equal kt u v).run P w=.ok b w/\(b=true->u=v)/\(∀em,(Instr.checkKey em 10000 kt u).run P w=.ok () w)/\Instr.sameBits 10000 u u=true/\
 (ag=false->∃d,P.underlying kt=some d/\Instr.sameNow d u v=some b):=by
 have sg:∀(z:Array Value),Seg z 0 z.toList:=fun z=>⟨by simp,fun j u hu=>by simpa using hu⟩
 unfold eqX at he;split at he
 ·rename_i l m;generalize hu:u=u' at hp;generalize hv:v=v' at hq;cases hp with
  | @agg _ us hl1 _ hr1=>
   cases hq with
   | @agg _ vs hl2 _ hr2=>
    have hw:=ZI he (us:=us.toList) (vs:=vs.toList) (by simpa using hl1) (by simpa using hl2) (by simpa using hr1) (by simpa using hr2);obtain⟨n1,n2⟩:=pE hw;obtain⟨x,y,hx,hy,heq⟩:=ER (P:=P) w 9 kt ks hf (sg us) (sg vs) hs hw;have ep:(part kt us 0).run P w=.ok (.agg us) w:=by simp only[Array.length_toList]at n1;simp[part,eP ha,dx hs,<-n1]
    have eq':(part kt vs 0).run P w=.ok (.agg vs) w:=by simp only[Array.length_toList]at n2;simp[part,eP ha,dx hs,<-n2]
    rw[ep]at hx
    rw[eq']at hy
    injection hx with hx _;injection hy with hy _;subst hx;subst hy;subst hu;subst hv;refine⟨heq 10000 (by omega),fun hb=>?_,fun em=>?_,?_,by simp⟩
    ·subst hb;have:=R5 hw;rw[Array.ext' this]
    ·obtain⟨x,hx,hk⟩:=zH (P:=P) w em 9 kt ks hf (sg us) n1 hs;rw[ep]at hx
     injection hx with hx _;subst hx;exact hk 10000 (by omega)
    ·have:=Iu hw 9999;simp only[Instr.sameBits,beq_self_eq_true,Bool.true_and];exact this
 ·rename_i x y;split at he
  case h_2=>simp at he
  rename_i k;obtain⟨rfl,_⟩:=iP hp;obtain⟨rfl,_⟩:=iP hq;have hw:uJ [k] [u] [v]=some b:=by simp[uJ,he]
  have ep:∀z,(part kt #[z] 0).run P w=.ok z w:=by intro z;simp[part,eP ha]
  obtain⟨x,y,hx,hy,heq⟩:=ER (P:=P) w 9 kt [k] hf (sg #[u]) (sg #[v]) hs hw;rw[ep]at hx
  rw[ep]at hy
  injection hx with hx _;injection hy with hy _;subst hx;subst hy;refine⟨heq 10000 (by omega),fun hb=>?_,fun em=>?_,?_,fun _=>?_⟩
  ·subst hb;exact Iq he
  ·obtain⟨x,hx,hk⟩:=zH (P:=P) w em 9 kt [k] hf (sg #[u]) rfl hs;rw[ep]at hx
   injection hx with hx _;subst hx;exact hk 10000 (by omega)
  ·have:=Iu hw 10000;simpa using this
  ·simp only[GA]at hf;split at hf
   ·rename_i kd hu;simp only[aW,List.cons.injEq,and_true]at hf;subst hf;cases u<;>cases v<;>simp only[Gz,reduceCtorEq]at he;exact⟨_,hu,by simpa[Instr.sameNow]using he⟩
   ·rename_i hu;simp only[aW,List.cons.injEq,and_true]at hf;subst hf;cases u<;>cases v<;>simp only[Gz,reduceCtorEq]at he;exact⟨_,hu,by simpa[Instr.sameNow,beq_toListBytes]using he⟩
   ·rename_i hu;simp only[aW,List.cons.injEq,and_true]at hf;subst hf;cases u<;>cases v<;>simp only[Gz,reduceCtorEq]at he;exact⟨_,hu,by simpa[Instr.sameNow]using he⟩
   ·rename_i hu;unfold jX at ha;rw[hu]at ha;simp at ha
   ·rename_i hu;unfold jX at ha;rw[hu]at ha;simp at ha
   ·simp at hf
 ·simp at he
theorem oJ(w:World){C:Cx}{kt:TypeId}{ks:List LK}{ag:Bool}(hs:nC P kt ks.length=true)(ha:jX P kt ag=true)(hf:GA P 9 kt=some ks){p:X}{u:Value}(he:BG ks ag p=true)(hp:aZ C p u)(em:Bool) :
 (Instr.checkKey em 10000 kt u).run P w=.ok () w:=by
 have sg:∀(z:Array Value),Seg z 0 z.toList:=fun z=>⟨by simp,fun j u hu=>by simpa using hu⟩
 unfold BG at he;split at he
 ·simp only[beq_iff_eq]at he;generalize hu:u=u' at hp;cases hp with
  | @agg _ us hl1 _ hr1=>
   have n1:us.toList.length=ks.length:=by simp;omega
   obtain⟨x,hx,hk⟩:=zH (P:=P) w em 9 kt ks hf (sg us) n1 hs;have ep:(part kt us 0).run P w=.ok (.agg us) w:=by simp only[Array.length_toList]at n1;simp[part,eP ha,dx hs,<-n1]
   rw[ep]at hx
   injection hx with hx _;subst hx;subst hu;exact hk 10000 (by omega)
 ·simp only[beq_iff_eq]at he;obtain⟨rfl,_⟩:=iP hp;obtain⟨x,hx,hk⟩:=zH (P:=P) w em 9 kt ks hf (sg #[u]) (by simp[he]) hs;have ep:(part kt #[u] 0).run P w=.ok u w:=by simp[part,eP ha]
  rw[ep]at hx
  injection hx with hx _;subst hx;exact hk 10000 (by omega)
 ·simp at he
theorem oI{ks:List LK}{ag:Bool}{key:X}:∀ {es:List (X×X)} {r:Option Nat},kz ks ag key es=some r->BG ks ag key=true:=by
 intro es;induction es with
 | nil=>intro r h;simp only[kz]at h;split at h<;>simp_all
 | cons p es ih=>
  intro r h;simp only[kz]at h;have len:∀ {ks:List LK} {l m:List X} {b:Bool},EP ks l m=some b->l.length=ks.length:=by
   intro ks;induction ks with
   | nil=>intro l m b h;cases l<;>cases m<;>simp[EP]at h ⊢
   | cons k ks ih=>
    intro l m b h;cases l with
    | nil=>simp[EP]at h
    | cons x l=>cases m with
     | nil=>cases x<;>simp[EP]at h
     | cons y m=>
      cases x<;>cases y<;>simp only[EP,reduceCtorEq]at h;split at h
      case h_2=>simp at h
      rename_i hq;simp[ih hq]
  have ok:∀ {b:Bool},eqX ks ag key p.1=some b->BG ks ag key=true:=by
   intro b hb;unfold eqX at hb;split at hb
   ·simp[BG,len hb]
   ·split at hb
    ·simp[BG]
    ·simp at hb
   ·simp at hb
  split at h
  ·exact ok (by assumption)
  ·exact ok (by assumption)
  ·simp at h
theorem IW{ks:List LK}{ag:Bool}{key:X}:∀ {es:List (X×X)} {i:Nat},kz ks ag key es=some (some i)->∃p,es[i]?=some p/\eqX ks ag key p.1=some true:=by
 intro es;induction es with
 | nil=>intro r h;simp only[kz]at h;split at h<;>simp at h
 | cons p es ih=>
  intro i h;simp only[kz]at h;split at h
  ·simp only[aW]at h;subst h;exact⟨p,rfl,by assumption⟩
  ·split at h
   ·rename_i r hr;simp only[aW]at h;cases r with
    | none=>simp at h
    | some j=>simp at h;subst h;simpa using ih hr
   ·simp at h
  ·simp at h
theorem A_(w:World){C:Cx}{kt:TypeId}{ks:List LK}{ag:Bool}(hs:nC P kt ks.length=true)(ha:jX P kt ag=true)(hf:GA P 9 kt=some ks){key:X}{u:Value}(hp:aZ C key u) :
 ∀ {es:List (X×X)} {en:List MapEntry} {i:Nat} {r:Option Nat},es.length=en.length->(∀(j:Nat) p m,es[j]?=some p->en[j]?=some m->aZ C p.1 m.key)->kz ks ag key es=some r->
 (Instr.findAsking kt u en i).run P w=.ok (r.map fun j=>(i+j,((en[j]?).map (·.val)).getD undef)) w/\
 (ag=false->∀d,P.underlying kt=some d->Instr.findNow d u en i=some (r.map fun j=>(i+j,((en[j]?).map (·.val)).getD undef))):=by
 intro es;induction es with
 | nil=>
  intro en i r hl _ h;have:en=[]:=List.eq_nil_of_length_eq_zero (by simpa using hl.symm);subst this;simp only[kz]at h;split at h
  ·simp only[aW]at h;subst h;exact⟨by simp[Instr.findAsking],fun _ d _=>by simp[Instr.findNow]⟩
  ·simp at h
 | cons p es ih=>
  intro en i r hl hr h;cases en with
  | nil=>simp at hl
  | cons m en=>
   simp only[kz]at h;have hpm:=hr 0 p m rfl rfl;split at h
   ·rename_i he;obtain⟨h1,_,_,_,h5⟩:=zG w hs ha hf he hp hpm;simp only[aW]at h;subst h;refine⟨by simp[Instr.findAsking,h1],fun hag d hd=>?_⟩;obtain⟨d',hd',hn⟩:=h5 hag;rw[hd]at hd'
    injection hd' with hd';subst hd';simp[Instr.findNow,hn]
   ·rename_i he;obtain⟨h1,_,_,_,h5⟩:=zG w hs ha hf he hp hpm;split at h
    case h_2=>simp at h
    rename_i r' hr';simp only[aW]at h;subst h;obtain⟨i1,i2⟩:=ih (en:=en) (i:=i+1) (by simpa using hl) (fun j p m hj hm=>hr (j+1) p m (by simpa using hj) (by simpa using hm)) hr';refine⟨?_,fun hag d hd=>?_⟩
    ·simp only[Instr.findAsking,Sem.run_bind,h1,Result.andThen_ok,kG,if_false,i1,Option.map_map];congr 2;funext j;simp[Nat.add_assoc,Nat.add_comm 1 j]
    ·obtain⟨d',hd',hn⟩:=h5 hag;have hd2:=hd;rw[hd]at hd'
     injection hd' with hd';subst hd';simp only[Instr.findNow,hn,i2 hag d hd2,Option.map_map];congr 2;funext j;simp[Nat.add_assoc,Nat.add_comm 1 j]
   ·simp at h
theorem lF(w:World){C:Cx}{kt:TypeId}{ks:List LK}{ag:Bool}(hs:nC P kt ks.length=true)(ha:jX P kt ag=true)(hf:GA P 9 kt=some ks){key:X}{u:Value}(hp:aZ C key u)
 {es:List (X×X)} {en:Array MapEntry} {r:Option Nat} (hl:es.length=en.size) (hr:∀(j:Nat) p m,es[j]?=some p->en[j]?=some m->aZ C p.1 m.key) (h:kz ks ag key es=some r) :
 (Instr.findKey kt u en.toList).run P w=.ok (r.map fun j=>(j,((en[j]?).map (·.val)).getD undef)) w:=by
 obtain⟨h1,h2⟩:=A_ (P:=P) w hs ha hf hp (en:=en.toList) (i:=0) (by simpa using hl) (by simpa using hr) h;simp only[Nat.zero_add,Array.getElem?_toList]at h1 h2;cases ag with
 | true=>
  rw[run_findKey_eq]
  ·exact h1
  ·unfold jX at ha;split at ha
   ·rename_i hu;rw[hu]
   ·rename_i hu;rw[hu]
   ·simp at ha
   ·simp at ha
 | false=>
  have hu:∃d,P.underlying kt=some d:=by
   unfold jX at ha;split at ha
   ·rename_i hu;exact⟨_,hu⟩
   ·rename_i hu;exact⟨_,hu⟩
   ·rename_i hu;exact⟨_,hu⟩
   ·simp at ha
  obtain⟨d,hu⟩:=hu;simp[Instr.findKey,run_underlying hu,h2 rfl d hu]
section
variable {w0:Bs} {sh:Nat->Prop} {nt:Nat} {μ:Nat->Nat} {fr:Nat->Prop} {e:Env} {s:ax} {a:Act} {w:World}
theorem qW(h:Inv w0 sh nt μ fr e s a w){x:X}{o:Nat}{es:List (X×X)}(hm:GD s x=some (o,es)){v:Value}(hx:aZ (aU μ s w sh fr) x v) :
 v=.map (some (μ o))/\(s o).o=some (.map es)/\(s o).wr=true/\∃en,w.heap[μ o]?=some (.map en es.length)/\en.size=es.length/\
  ∀(i:Nat) p m,es[i]?=some p->en[i]?=some m->p.1.fM=true/\p.2.fM=true/\aZ (aU μ s w sh fr) p.1 m.key/\aZ (aU μ s w sh fr) p.2 m.val/\m.born=i:=by
 unfold GD at hm;split at hm
 case h_2=>simp at hm
 rename_i o' g;split at hm
 case h_2=>simp at hm
 rename_i es' ho;split at hm
 case isFalse=>simp at hm
 rename_i hg;simp only[aW,bK]at hm;obtain⟨rfl,rfl⟩:=hm;cases hx with
 | mp h1 h2 h3 h4=>
  obtain⟨hob,_⟩:=h.obj _ _ ho;exact⟨h3 hg.1.symm,ho,hg.2,hob⟩
theorem Inv.Cv(h:Inv w0 sh nt μ fr e s a w){o:Nat}{es es':List (X×X)}(ho:(s o).o=some (.map es))(hwr:(s o).wr=true){en:Array MapEntry}{c:Nat}(hh:w.heap[μ o]?=some (.map en c))(ob:Obj)
 (hob:∀C',(aU μ s w sh fr).Le C'->C'.w={w with heap:=w.heap.setIfInBounds (μ o) ob}->Gy C' (.map es') (μ o)) :
 Inv w0 sh nt μ fr e (bF s o (.map es')) a {w with heap:=w.heap.setIfInBounds (μ o) ob}:=by
 have hge:=(h.obj o _ ho).2.1;have hlt:=dA hh;have hold:∀k,k≠μ o->(w.heap.setIfInBounds (μ o) ob)[k]?=w.heap[k]?:=fun k hk=>Array.getElem?_setIfInBounds_ne (Ne.symm hk);have:=(h.change o (μ o) (s o).g ((s o).n+1) (.map es') {w with heap:=w.heap.setIfInBounds (μ o) ob} (Nat.le_refl _) (fun _=>rfl) ⟨rfl,rfl,rfl,by simp,fun k hk=>hold k (by omega)⟩ (fun k _ hk=>hold k hk)
  (.inr ⟨rfl,by simp[ho],hwr,fun cs t fz hcs=>by rw[hh]at hcs;simp at hcs⟩) (fun hle=>hob _ hle rfl)).1
 have hu:upd μ o (μ o)=μ:=by funext n;unfold upd;split<;>simp_all
 rw[hu]at this
 exact this
theorem xO{t:TypeId}{ks:List LK}{ag:Bool}(h:IV P t ks ag=true):∃kt et,P.underlying t=some (.map kt et)/\nC P kt ks.length=true/\jX P kt ag=true/\GA P 9 kt=some ks:=by
 unfold IV at h;split at h
 ·rename_i kt et hu;simp only[bN,decide_eq_true_eq]at h;exact⟨kt,et,hu,h.1.1,h.1.2,h.2⟩
 ·simp at h
theorem Y3(h:Inv w0 sh nt μ fr e s a w){o:Oper}{t:TypeId}{m k:Operand}{ok ag:Bool}{ks:List LK}{rm rk:Ar}{z:X}(hop:o.op=.lookup t m k ok)(hB:IV P t ks ag=true)(hZ:P5 P t z=true)(hm:dU m rm=true)(hk:dU k rk=true)
 {x:X} {s':ax} (hs:aB (.KL ks ag rm rk z ok) e s=some (x,s')):s'=s/\g_ P w0 sh nt μ fr e s a w o x:=by
 obtain⟨kt,et,hu,h1,h2,h3⟩:=xO hB;simp only[P5,hu]at hZ;simp only[aB]at hs;split at hs
 case h_2=>simp at hs
 rename_i q es hmp;split at hs
 case h_2=>simp at hs
 rename_i r hr;split at hs
 case h_2=>simp at hs
 rename_i v hv;simp only[aW,bK]at hs;obtain⟨rfl,rfl⟩:=hs;obtain⟨e1,e2,e3,en,e4,e5,e6⟩:=qW h hmp (aD h.env hm);have hkr:=aD h.env hk;have hfk:=lF (P:=P) w h1 h2 h3 hkr (en:=en) e5.symm (fun j p m hj hm=>(e6 j p m hj hm).2.2.1) hr;have hck:=oJ (P:=P) w h1 h2 h3 (oI hr) hkr;obtain⟨zv,hz1,hz2⟩:=mP hZ w;have hval:∃u,aZ (aU μ s w sh fr) v u/\(r=none->u=zv)/\∀i,r=some i->((en[i]?).map fun m:MapEntry=>m.val).getD undef=u:=by
  cases r with
  | none=>
   simp only[aW]at hv;subst hv;exact⟨zv,pQ hz2 _,fun _=>rfl,by simp⟩
  | some i=>
   simp only[tu]at hv;obtain⟨p,hp,rfl⟩:=hv;have hi:i<en.size:=by have:=(List.getElem?_eq_some_iff.1 hp).1;omega
   have hm:=kF hi;exact⟨en[i].val,(e6 i p _ hp hm).2.2.2.1,by simp,fun j hj=>by injection hj with hj;subst hj;simp[hm]⟩
 obtain⟨u,hu1,hu2,hu3⟩:=hval;refine⟨rfl,aO h (v:=if ok then .tuple #[u,.bool r.isSome]else u) ?_ ?_⟩
 ·have hgo:(getObj (μ q)).run P w=.ok (.map en es.length) w:=by simp[getObj,Sem.run,e4]
  simp only[execOp,hop,e1,Sem.run_bind,Instr.lookup,run_underlying hu,Result.andThen_ok,hgo,Sem.run_pure,hck,hfk];cases r with
  | none=>rw[hu2 rfl];simp[hz1]
  | some i=>rw[<-hu3 i rfl];simp
 ·cases ok
  ·exact hu1
  ·refine .cZ rfl ?_;intro j c v' hj hv'
   match j with
   | 0=>simp at hj hv';subst hj;subst hv';exact hu1
   | 1=>simp at hj hv';subst hj;subst hv';exact .v rfl
   | j+2=>simp at hj
theorem Y0(h:Inv w0 sh nt μ fr e s a w){o:Oper}{t:TypeId}{hi:Option Operand}{n:Nat}{ha:Option Ar}(hop:o.op=.makeMap t hi)(hok:oK P (.makeMap t hi) (.KJ n ha)=true)
 {x:X} {s':ax} (hs:aB (.KJ n ha) e s=some (x,s')):Out P w0 sh nt e a w o x s':=by
 simp only[aB]at hs;split at hs
 case isFalse=>simp at hs
 rename_i hcond;simp only[aW,bK]at hs;obtain⟨rfl,rfl⟩:=hs;have hI:Inv w0 sh nt (upd μ n w.heap.size) fr e (aN s n (.map [])) a (w.alloc (.map #[] 0)):=by
  refine(h.change n w.heap.size ((s n).g+1) ((s n).n+1) (.map []) (w.alloc (.map #[] 0)) (by omega) (by omega) ?_ ?_ (.inl (Nat.le_refl _)) (fun hle=>?_)).1
  ·exact(Below.refl _ _).alloc h.below.size _
  ·intro k hk _;exact heap_alloc_old w _ k hk
  ·exact⟨#[],heap_alloc_new w _,rfl,by simp⟩
 have hrun:(execOp a.eval o).run P w=.ok (.value (.map (some w.heap.size))) (w.alloc (.map #[] 0)):=by
  cases hi with
  | none=>simp[execOp,hop,Instr.makeMap]
  | some y=>
   cases ha with
   | none=>simp[oK]at hok
   | some r=>
    simp only[oK,bN]at hok;have hu:∃k e,P.underlying t=some (.map k e):=by
     have:=hok.2;split at this
     ·rename_i k e hu;exact⟨k,e,hu⟩
     ·simp at this
    obtain⟨k,e',hu⟩:=hu;obtain⟨i,hi⟩:=Option.isSome_iff_exists.1 (show(w9 (r.ev e)).isSome=true from hcond);obtain⟨q,hq⟩:=kV (aD h.env hok.1) hi;simp[execOp,hop,Instr.makeMap,run_underlying hu,hq,asInt,asIntOf]
 refine⟨_,_,_,_,_,hrun,.inl rfl,hI,?_⟩;exact .mp (by omega) (by simp[aU,aN,upd_same]) (fun _=>by simp[aU,upd_same]) rfl
theorem map_push{C:Cx}{es:List (X×X)}{en:Array MapEntry}(e5:en.size=es.length)(e6:∀(i:Nat) p m,es[i]?=some p->en[i]?=some m->p.1.fM=true/\p.2.fM=true/\aZ C p.1 m.key/\aZ C p.2 m.val/\m.born=i)
 {k v:X} {u z:Value} (hk:k.fM=true) (hv:v.fM=true) (hku:aZ C k u) (hvz:aZ C v z) :
 ∀(i:Nat) p m,(es++[(k,v)])[i]?=some p->(en.push ⟨u,z,es.length⟩)[i]?=some m->p.1.fM=true/\p.2.fM=true/\aZ C p.1 m.key/\aZ C p.2 m.val/\m.born=i:=by
 intro i p m hp hm;by_cases hi:i<es.length
 ·rw[List.getElem?_append_left hi]at hp
  rw[Array.getElem?_push,if_neg (by omega)]at hm
  exact e6 i p m hp hm
 ·by_cases he:i=es.length
  ·subst he;rw[Array.getElem?_push,if_pos e5.symm]at hm
   simp at hp hm;subst hp;subst hm;exact⟨hk,hv,hku,hvz,rfl⟩
  ·rw[List.getElem?_append_right (by omega)]at hp
   have:i-es.length=(i-es.length-1)+1:=by omega
   rw[this]at hp
   simp at hp
theorem map_set{C:Cx}{es:List (X×X)}{en:Array MapEntry}(e6:∀(i:Nat) p m,es[i]?=some p->en[i]?=some m->p.1.fM=true/\p.2.fM=true/\aZ C p.1 m.key/\aZ C p.2 m.val/\m.born=i)
 {j:Nat} {v:X} {u z:Value} (hv:v.fM=true) (hvz:aZ C v z) (f:MapEntry->MapEntry) (hf:∀m,en[j]?=some m->(f m).key=m.key/\(f m).val=z/\(f m).born=m.born) :
 ∀(i:Nat) p m,(x9 es j v)[i]?=some p->(en.modify j f)[i]?=some m->p.1.fM=true/\p.2.fM=true/\aZ C p.1 m.key/\aZ C p.2 m.val/\m.born=i:=by
 intro i p m hp hm;unfold x9 at hp;rw[List.getElem?_modify]at hp
 rw[Array.getElem?_modify]at hm
 by_cases hj:j=i
 ·subst hj;simp only[if_true]at hp hm;cases hes:es[j]? with
  | none=>simp[hes]at hp
  | some p0=>cases hen:en[j]? with
   | none=>simp[hen]at hm
   | some m0=>
    simp only[hes,hen,Option.map_some,Option.map_eq_map,aW]at hp hm;subst hp;subst hm;obtain⟨a1,a2,a3,a4,a5⟩:=e6 j p0 m0 hes hen;obtain⟨b1,b2,b3⟩:=hf m0 hen;exact⟨a1,hv,b1▸a3,b2▸hvz,b3.trans a5⟩
 ·simp only[hj,if_false]at hp hm;cases hes:es[i]? with
  | none=>simp[hes]at hp
  | some p0=>cases hen:en[i]? with
   | none=>simp[hen]at hm
   | some m0=>
    simp[hes,hen]at hp hm
    subst hp;subst hm;exact e6 i p0 m0 hes hen
theorem find_born{es:List (X×X)}{en:Array MapEntry}(e5:en.size=es.length)(hb:∀(i:Nat) m,en[i]?=some m->m.born=i){i:Nat}(hi:i<en.size)(z:Int)(hz:z=i):en.findIdx? (fun e=>(e.born:Int)==z)=some i:=by
 subst hz;rw[Array.findIdx?_eq_some_iff_getElem];refine⟨hi,?_,fun j hj=>?_⟩
 ·have:=hb i _ (kF hi);simp[this]
 ·have:=hb j _ (kF (show j<en.size by omega));simp[this];omega
theorem Cy(w:World){b:Nat}{en:Array MapEntry}{c:Nat}(hb:w.heap[b]?=some (.map en c))(o:Obj):(setObj b o).run P w=.ok () {w with heap:=w.heap.setIfInBounds b o}:=by simp[setObj,Sem.run,hb]
theorem Cw(w:World){b:Nat}{o:Obj}{ob:Obj}(hb:w.heap[b]?=some o):({w with heap:=w.heap.setIfInBounds b ob}:World).heap[b]?=some ob:=by have:=dA hb;simp[this]
theorem Y5(h:Inv w0 sh nt μ fr e s a w){o:Oper}{t:TypeId}{m st v:Operand}{rm rs rv:Ar}(hop:o.op=.entryStore t m st v)(hm:dU m rm=true)(hst:dU st rs=true)(hv:dU v rv=true)
 {x:X} {s':ax} (hs:aB (.SQ rm rs rv) e s=some (x,s')):Out P w0 sh nt e a w o x s':=by
 simp only[aB]at hs;split at hs
 case h_2=>simp at hs
 rename_i q es i hmp hi;split at hs
 case isFalse=>simp at hs
 rename_i hcond;obtain⟨hi0,hi1,hsc⟩:=hcond;simp only[aW,bK]at hs;obtain⟨rfl,rfl⟩:=hs;obtain⟨e1,e2,e3,en,e4,e5,e6⟩:=qW h hmp (aD h.env hm);obtain⟨ki,hsi⟩:=kV (aD h.env hst) hi;have hvr:=aD h.env hv;have hgo:(getObj (μ q)).run P w=.ok (.map en es.length) w:=by simp[getObj,Sem.run,e4]
 have hfi:=find_born e5 (fun i m hm=>by
  have hlt:i<es.length:=by have:=(Array.getElem?_eq_some_iff.1 hm).1;omega
  exact(e6 i _ m (List.getElem?_eq_getElem hlt) hm).2.2.2.2) (i:=i.toNat) (by omega) i (by omega)
 have hI:=h.Cv e2 e3 e4 (es':=x9 es i.toNat (rv.ev e)) (.map (en.modify i.toNat fun m=>{m with val:=a.eval v}) es.length) (by
  intro C' hle hw;refine⟨en.modify i.toNat fun m=>{m with val:=a.eval v},?_,?_,?_⟩
  ·rw[hw,Cw w e4];simp[x9]
  ·simp[x9,e5]
  ·exact map_set (fun i p m hp hm=>by obtain⟨a1,a2,a3,a4,a5⟩:=e6 i p m hp hm;exact⟨a1,a2,a3.mono hle,a4.mono hle,a5⟩) hsc (hvr.mono hle) (u:=undef) _ (fun m _=>⟨rfl,rfl,rfl⟩))
 refine⟨.skip,undef,_,_,_,?_,.inr ⟨rfl,rfl⟩,hI,.junk⟩;simp[execOp,hop,e1,hsi,Instr.entryStore,hgo,asInt,asIntOf,hfi,Cy w e4]
theorem YX(h:Inv w0 sh nt μ fr e s a w){o:Oper}{t:TypeId}{m k:Operand}{ag:Bool}{ks:List LK}{rm rk:Ar}{z:X}(hop:o.op=.mapEntry t m k)(hB:IV P t ks ag=true)(hZ:P5 P t z=true)(hm:dU m rm=true)(hk:dU k rk=true)
 {x:X} {s':ax} (hs:aB (.SK ks ag rm rk z) e s=some (x,s')):Out P w0 sh nt e a w o x s':=by
 obtain⟨kt,et,hu,h1,h2,h3⟩:=xO hB;simp only[P5,hu]at hZ;simp only[aB]at hs;split at hs
 case h_2=>simp at hs
 rename_i q es hmp;obtain⟨e1,e2,e3,en,e4,e5,e6⟩:=qW h hmp (aD h.env hm);have hkr:=aD h.env hk;have hgo:(getObj (μ q)).run P w=.ok (.map en es.length) w:=by simp[getObj,Sem.run,e4]
 obtain⟨zv,hz1,hz2⟩:=mP hZ w;split at hs
 ·rename_i i hr;split at hs
  case h_2=>simp at hs
  rename_i p hp;simp only[aW,bK]at hs;obtain⟨rfl,rfl⟩:=hs;have hfk:=lF (P:=P) w h1 h2 h3 hkr (en:=en) e5.symm (fun j p m hj hm=>(e6 j p m hj hm).2.2.1) hr;have hck:=oJ (P:=P) w h1 h2 h3 (oI hr) hkr;have hi:i<en.size:=by have:=(List.getElem?_eq_some_iff.1 hp).1;omega
  have hme:=kF hi;obtain⟨a1,a2,a3,a4,a5⟩:=e6 i p _ hp hme;obtain⟨p',hp',heq⟩:=IW hr;rw[hp]at hp'
  injection hp' with hp';subst hp';obtain⟨_,hsame,_,hbits,_⟩:=zG (P:=P) w h1 h2 h3 heq hkr a3;have hsame:=hsame rfl;have hI:=h.Cv e2 e3 e4 (es':=es) (.map (en.modify i fun m=>{m with key:=a.eval k}) es.length) (by
   intro C' hle hw;refine⟨en.modify i fun m=>{m with key:=a.eval k},?_,by simp[e5],?_⟩
   ·rw[hw,Cw w e4]
   ·intro j p m hj hm;rw[Array.getElem?_modify]at hm
    split at hm
    ·rename_i hij;subst hij;rw[hme]at hm
     simp only[Option.map_some,aW]at hm;subst hm;obtain⟨b1,b2,b3,b4,b5⟩:=e6 i p _ hj hme;exact⟨b1,b2,by simpa[hsame]using b3.mono hle,b4.mono hle,b5⟩
    ·obtain⟨b1,b2,b3,b4,b5⟩:=e6 j p m hj hm;exact⟨b1,b2,b3.mono hle,b4.mono hle,b5⟩)
  refine⟨_,.tuple #[en[i].val,.int .i64 i],_,_,_,?_,.inl rfl,hI,.cZ rfl ?_⟩
  ·simp[execOp,hop,e1,Instr.mapEntry,run_underlying hu,hgo,hck,hfk,Instr.keyThatStays,hme,<-hsame,hbits,Cy w e4,a5,goInt]
  ·intro j c v' hj hv'
   match j with
   | 0=>simp at hj hv';subst hj;subst hv';exact a4.fM a2
   | 1=>simp at hj hv';subst hj;subst hv';exact .v rfl
   | j+2=>simp at hj
 ·rename_i hr;split at hs
  case isFalse=>simp at hs
  rename_i hcond;simp only[aW,bK]at hs;obtain⟨rfl,rfl⟩:=hs;have hfk:=lF (P:=P) w h1 h2 h3 hkr (en:=en) e5.symm (fun j p m hj hm=>(e6 j p m hj hm).2.2.1) hr;have hck:=oJ (P:=P) w h1 h2 h3 (oI hr) hkr;have hI:=h.Cv e2 e3 e4 (es':=es++[(rk.ev e,z)]) (.map (en.push ⟨a.eval k,zv,es.length⟩) (es.length+1)) (by
   intro C' hle hw;refine⟨en.push ⟨a.eval k,zv,es.length⟩,?_,by simp[e5],?_⟩
   ·rw[hw,Cw w e4];simp
   ·exact map_push e5 (fun i p m hp hm=>by obtain⟨a1,a2,a3,a4,a5⟩:=e6 i p m hp hm;exact⟨a1,a2,a3.mono hle,a4.mono hle,a5⟩) hcond.1 hcond.2 (hkr.mono hle) (pQ hz2 _))
  refine⟨_,.tuple #[zv,.int .i64 es.length],_,_,_,?_,.inl rfl,hI,.cZ rfl ?_⟩
  ·simp[execOp,hop,e1,Instr.mapEntry,run_underlying hu,hgo,hck,hfk,hz1,Cy w e4,goInt]
  ·intro j c v' hj hv'
   match j with
   | 0=>simp at hj hv';subst hj;subst hv';exact pQ hz2 _
   | 1=>simp at hj hv';subst hj;subst hv';exact .v rfl
   | j+2=>simp at hj
 ·simp at hs
theorem Y6(h:Inv w0 sh nt μ fr e s a w){o:Oper}{t:TypeId}{m k v:Operand}{ag:Bool}{ks:List LK}{rm rk rv:Ar}(hop:o.op=.mapUpdate t m k v)(hB:IV P t ks ag=true)(hm:dU m rm=true)(hk:dU k rk=true)(hv:dU v rv=true)
 {x:X} {s':ax} (hs:aB (.Rl ks ag rm rk rv) e s=some (x,s')):Out P w0 sh nt e a w o x s':=by
 obtain⟨kt,et,hu,h1,h2,h3⟩:=xO hB;simp only[aB]at hs;split at hs
 case h_2=>simp at hs
 rename_i q es hmp;split at hs
 case isFalse=>simp at hs
 rename_i hcond;obtain⟨e1,e2,e3,en,e4,e5,e6⟩:=qW h hmp (aD h.env hm);have hkr:=aD h.env hk;have hvr:=aD h.env hv;have hgo:(getObj (μ q)).run P w=.ok (.map en es.length) w:=by simp[getObj,Sem.run,e4]
 split at hs
 ·rename_i i hr;simp only[aW,bK]at hs;obtain⟨rfl,rfl⟩:=hs;have hfk:=lF (P:=P) w h1 h2 h3 hkr (en:=en) e5.symm (fun j p m hj hm=>(e6 j p m hj hm).2.2.1) hr;have hck:=oJ (P:=P) w h1 h2 h3 (oI hr) hkr;obtain⟨p,hp,heq⟩:=IW hr;have hi:i<en.size:=by have:=(List.getElem?_eq_some_iff.1 hp).1;omega
  have hme:=kF hi;obtain⟨a1,a2,a3,a4,a5⟩:=e6 i p _ hp hme;obtain⟨_,hsame,_,hbits,_⟩:=zG (P:=P) w h1 h2 h3 heq hkr a3;have hsame:=hsame rfl;have hI:=h.Cv e2 e3 e4 (es':=x9 es i (rv.ev e)) (.map (en.modify i fun m=>{m with key:=a.eval k,val:=a.eval v}) es.length) (by
   intro C' hle hw;refine⟨en.modify i fun m=>{m with key:=a.eval k,val:=a.eval v},?_,by simp[x9,e5],?_⟩
   ·rw[hw,Cw w e4];simp[x9]
   ·exact map_set (fun i p m hp hm=>by obtain⟨a1,a2,a3,a4,a5⟩:=e6 i p m hp hm;exact⟨a1,a2,a3.mono hle,a4.mono hle,a5⟩) hcond.2 (hvr.mono hle) (u:=undef) _ (fun m hm=>by rw[hme]at hm;injection hm with hm;subst hm;exact⟨hsame,rfl,rfl⟩))
  refine⟨.skip,undef,_,_,_,?_,.inr ⟨rfl,rfl⟩,hI,.junk⟩;simp[execOp,hop,e1,Instr.mapUpdate,run_underlying hu,hgo,hck,hfk,Instr.keyThatStays,hme,<-hsame,hbits,Cy w e4]
 ·rename_i hr;simp only[aW,bK]at hs;obtain⟨rfl,rfl⟩:=hs;have hfk:=lF (P:=P) w h1 h2 h3 hkr (en:=en) e5.symm (fun j p m hj hm=>(e6 j p m hj hm).2.2.1) hr;have hck:=oJ (P:=P) w h1 h2 h3 (oI hr) hkr;have hI:=h.Cv e2 e3 e4 (es':=es++[(rk.ev e,rv.ev e)]) (.map (en.push ⟨a.eval k,a.eval v,es.length⟩) (es.length+1)) (by
   intro C' hle hw;refine⟨en.push ⟨a.eval k,a.eval v,es.length⟩,?_,by simp[e5],?_⟩
   ·rw[hw,Cw w e4];simp
   ·exact map_push e5 (fun i p m hp hm=>by obtain⟨a1,a2,a3,a4,a5⟩:=e6 i p m hp hm;exact⟨a1,a2,a3.mono hle,a4.mono hle,a5⟩) hcond.1 hcond.2 (hkr.mono hle) (hvr.mono hle))
  refine⟨.skip,undef,_,_,_,?_,.inr ⟨rfl,rfl⟩,hI,.junk⟩;simp[execOp,hop,e1,Instr.mapUpdate,run_underlying hu,hgo,hck,hfk,Cy w e4]
 ·simp at hs
theorem Y4(h:Inv w0 sh nt μ fr e s a w){o:Oper}{c:Call}{rm:Ar}(hop:o.op=.call c)(hok:oK P (.call c) (.P7 rm)=true)
 {x:X} {s':ax} (hs:aB (.P7 rm) e s=some (x,s')):s'=s/\g_ P w0 sh nt μ fr e s a w o x:=by
 simp only[aB]at hs;split at hs
 case h_2=>simp at hs
 rename_i q es hmp;simp only[aW,bK]at hs;obtain⟨rfl,rfl⟩:=hs;simp only[oK,bN]at hok;obtain⟨⟨hb,ht⟩,hl⟩:=hok;have hc:c.callee=.builtin .len:=by revert hb;cases c.callee<;>simp;rename_i b;cases b<;>simp
 split at ht
 case h_2=>simp at ht
 rename_i t htt;have hu:∃k e,P.underlying t=some (.map k e):=by
  split at ht
  ·rename_i k e hu;exact⟨k,e,hu⟩
  ·simp at ht
 obtain⟨k,e',hu⟩:=hu;obtain⟨h1,h2⟩:=gY h.env hl;obtain⟨y,hy⟩:=Fh h1;obtain⟨e1,e2,e3,en,e4,e5,e6⟩:=qW h hmp (h2 0 rm y rfl (by simp[hy]));have hgo:(getObj (μ q)).run P w=.ok (.map en es.length) w:=by simp[getObj,Sem.run,e4]
 exact⟨rfl,aO h (v:=.int .i64 es.length) (by simp[execOp,hop,resolve,hc,hy,invoke,builtin,e1,Builtin.len_,htt,run_underlying hu,hgo,goInt,e5]) (.v rfl)⟩
theorem YO(h:Inv w0 sh nt μ fr e s a w){o:Oper}{t yt:TypeId}{ps rs:Array TypeId}{va:Bool}{x y:Operand}{r:Ar}{neg:Bool}(hop:o.op=.binOp (if neg then .neq else .eql) t x y yt)(hy:a.eval y=.nilFunc)(hx:dU x r=true)(ht:P.underlying t=some (.func ps rs va))
 {z:X} {s':ax} (hs:aB (.VT neg r) e s=some (z,s')):s'=s/\g_ P w0 sh nt μ fr e s a w o z:=by
 have hr:=aD h.env hx;have fin:∀(v:Value) (b:Bool),a.eval x=v->(∀d,(Op.equalIn (d+1) t v .nilFunc).run P w=.ok b w)->(∀op,(eqGuard op t x y v .nilFunc).run P w=.ok () w)->(∀op,op=.eql\/op=.neq->(binOp op t v .nilFunc).run P w=(do
  let r <-Op.equal t v .nilFunc
  pure (.bool (if op=.neq then !r else r)):Sem Value).run P w)->g_ P w0 sh nt μ fr e s a w o (.v (.bool (if neg then !b else b))):=by
  intro v b hv heq hg hb;have heq:=heq 9999;have e1:(binOp .eql t v .nilFunc).run P w=.ok (.bool b) w:=by rw[hb _ (.inl rfl)];simp only[Op.equal,Op.maxDepth,Sem.run_bind,heq,Result.andThen_ok,Sem.run_pure];rfl
  have e2:(binOp .neq t v .nilFunc).run P w=.ok (.bool !b) w:=by rw[hb _ (.inr rfl)];simp only[Op.equal,Op.maxDepth,Sem.run_bind,heq,Result.andThen_ok,Sem.run_pure];rfl
  cases neg
  ·refine aO h (v:=.bool b) ?_ (.v rfl);simp[execOp,hop,hv,hy,hg,e1]
  ·refine aO h (v:=.bool !b) ?_ (.v rfl);simp[execOp,hop,hv,hy,hg,e2]
 simp only[aB]at hs;split at hs
 ·rename_i f q hx';simp only[aW,bK]at hs;obtain⟨rfl,rfl⟩:=hs;rw[hx']at hr
  generalize hv:a.eval x=v at hr;cases hr with
  | fn=>
   refine⟨rfl,?_⟩;have:=fin _ false hv (fun d=>by simp[Op.equalIn,run_underlying ht]) (fun op=>by cases op<;>simp[eqGuard,run_program]) (fun op ho=>by rcases ho with rfl|rfl<;>simp[binOp])
   cases neg<;>simpa using this
 ·rename_i f q hx';simp only[aW,bK]at hs;obtain⟨rfl,rfl⟩:=hs;rw[hx']at hr
  generalize hv:a.eval x=v at hr;cases hr with
  | fm=>
   refine⟨rfl,?_⟩;have:=fin _ false hv (fun d=>by simp[Op.equalIn,run_underlying ht]) (fun op=>by cases op<;>simp[eqGuard,run_program]) (fun op ho=>by rcases ho with rfl|rfl<;>simp[binOp])
   cases neg<;>simpa using this
 ·rename_i hx';simp only[aW,bK]at hs;obtain⟨rfl,rfl⟩:=hs;rw[hx']at hr
  have hv:=(iP hr).1;refine⟨rfl,?_⟩;have:=fin _ true hv (fun d=>by simp[Op.equalIn,run_underlying ht]) (fun op=>by cases op<;>simp[eqGuard,run_program]) (fun op ho=>by rcases ho with rfl|rfl<;>simp[binOp])
  cases neg<;>simpa using this
 ·simp at hs
theorem YP(h:Inv w0 sh nt μ fr e s a w){o:Oper}{t el yt:TypeId}{x y:Operand}{r:Ar}{neg:Bool}(hop:o.op=.binOp (if neg then .neq else .eql) t x y yt)(hy:a.eval y=.slice none 0 0)(hx:dU x r=true)(ht:P.underlying t=some (.slice el))
 {z:X} {s':ax} (hs:aB (.VU neg r) e s=some (z,s')):s'=s/\g_ P w0 sh nt μ fr e s a w o z:=by
 have hr:=aD h.env hx;have fin:∀(ad:Option Addr) n c,a.eval x=.slice ad n c->g_ P w0 sh nt μ fr e s a w o (.v (.bool (if neg then !ad.isNone else ad.isNone))):=by
  intro ad n c hv;have heq':∀d,(Op.equalIn (d+1) t (.slice ad n c) (.slice none 0 0)).run P w=.ok ad.isNone w:=by intro d;cases ad<;>simp[Op.equalIn,run_underlying ht]
  have heq:=heq' 9999;have hg:∀op,(eqGuard op t x y (.slice ad n c) (.slice none 0 0)).run P w=.ok () w:=by intro op;cases op<;>simp[eqGuard,run_program]
  have e1:(binOp .eql t (.slice ad n c) (.slice none 0 0)).run P w=.ok (.bool ad.isNone) w:=by simp only[binOp];simp only[Op.equal,Op.maxDepth,Sem.run_bind,heq,Result.andThen_ok,Sem.run_pure]
  have e2:(binOp .neq t (.slice ad n c) (.slice none 0 0)).run P w=.ok (.bool !ad.isNone) w:=by simp only[binOp];simp only[Op.equal,Op.maxDepth,Sem.run_bind,heq,Result.andThen_ok,Sem.run_pure]
  cases neg
  ·refine aO h (v:=.bool ad.isNone) ?_ (.v rfl);simp[execOp,hop,hv,hy,hg,e1]
  ·refine aO h (v:=.bool !ad.isNone) ?_ (.v rfl);simp[execOp,hop,hv,hy,hg,e2]
 simp only[aB]at hs;split at hs
 ·rename_i f q es hx';simp only[aW,bK]at hs;obtain⟨rfl,rfl⟩:=hs;rw[hx']at hr
  generalize hv:a.eval x=v at hr;cases hr with
  | sl=>refine⟨rfl,?_⟩;have:=fin _ _ _ hv;cases neg<;>simpa using this
 ·rename_i q g k i n hx';split at hs
  case isFalse=>simp at hs
  rename_i hg;simp only[aW,bK]at hs;obtain⟨rfl,rfl⟩:=hs;rw[hx']at hr
  generalize hv:a.eval x=v at hr;cases hr with
  | ref _ _ hv' _=>
   obtain⟨cap,rfl,_⟩:=hv' hg.symm;refine⟨rfl,?_⟩;have:=fin _ _ _ hv;cases neg<;>simpa using this
 ·simp at hs
end
variable {P:Program}
def iJ(P:Program)(op:Op)(io:iw):Bool:=
 match io with
 | .eqs neg ks a b=>match op with
  | .binOp o t x y _=>(o==if neg then .neq else .eql)&&dU x a&&dU y b&&eqT P t ks
  | _=>false
 | .VU neg a=>match op with
  | .binOp o t x (.const (.slice none 0 0)) _=>(o==if neg then .neq else .eql)&&dU x a&&(match P.underlying t with
   | some (.slice _)=>true
   | _=>false)
  | _=>false
 | .KJ ..|.KL ..|.SK ..|.SQ ..|.Rl ..|.P7 ..=>oK P op io
 | .VT neg a=>match op with
  | .binOp o t x (.const .nilFunc) _=>(o==if neg then .neq else .eql)&&dU x a&&(match P.underlying t with
   | some (.func _ _ _)=>true
   | _=>false)
  | _=>false
 | .no=>match op with
  | .defer _=>false
  | _=>true
 | _=>dn P op io
@[simp] def plainI:iw->Bool
 | .eqs ..|.VU ..|.VT ..|.no|.KJ ..|.KL ..|.SK ..|.SQ ..|.Rl ..|.P7 ..=>false
 | _=>true
def dM:iw->Bool
 | .box ..|.lg ..|.Zt ..|.st ..|.P6 ..|.app ..|.Rh ..|.call ..|.gN ..|.bO ..|.lu ..|.bU ..|.gW ..|.KJ ..|.SK ..|.SQ ..|.Rl ..=>false
 | _=>true
section
variable {w0:Bs} {sh:Nat->Prop} {nt:Nat} {μ:Nat->Nat} {fr:Nat->Prop} {e:Env} {s:ax} {a:Act} {w:World}
theorem aM{op:Op}{io:iw}(h:iJ P op io=true)(hn:plainI io=true):dn P op io=true:=by cases io<;>first|exact h|(simp at hn;done)
theorem oP{x:Option X}{y:X}{s s':ax}(h:tC x s=some (y,s')):x=some y/\s'=s:=by
 unfold tC at h;split at h
 ·simp only[aW,bK]at h;obtain⟨rfl,rfl⟩:=h;exact⟨rfl,rfl⟩
 ·simp at h
set_option maxHeartbeats 1000000 in
theorem yX(h:Inv w0 sh nt μ fr e s a w){o:Oper}{io:iw}(hok:iJ P o.op io=true)(hst:dM io=true){x:X}{s':ax}(hs:aB io e s=some (x,s')) :
 s'=s/\g_ P w0 sh nt μ fr e s a w o x:=by
 cases io
 case bM r=>
  have hok:=aM hok (by simp);simp only[aB,aW,bK]at hs;obtain⟨rfl,rfl⟩:=hs;refine⟨rfl,?_⟩;cases hop:o.op<;>simp only[hop,dn,kG]at hok
  ·exact OU h (.inl hop) hok
  ·exact OU h (.inr hop) hok
 case pick c r1 r2=>
  have hok:=aM hok (by simp);simp only[aB]at hs;split at hs
  case h_2=>simp at hs
  rename_i t ht;simp only[aW,bK]at hs;obtain⟨rfl,rfl⟩:=hs;refine⟨rfl,?_⟩;cases hop:o.op<;>simp only[hop,dn,kG,bN]at hok;exact Vu h hop hok.1.1 hok.1.2 hok.2 ht
 case Aj r=>
  have hok:=aM hok (by simp);simp only[aB]at hs;split at hs
  case isFalse=>simp at hs
  rename_i hd;simp only[aW,bK]at hs;obtain⟨rfl,rfl⟩:=hs;refine⟨rfl,?_⟩;cases hop:o.op<;>simp only[hop,dn,kG]at hok
  case alloc t=>
   cases r<;>simp only[kG]at hok;rename_i z;obtain⟨v,hv,hr⟩:=Dw (w:=w) hok;exact JM h (t:=t) ⟨v,pQ hv _,by simp[execOp,hop,hr]⟩ hd.2
  case box t y=>
   have:dU y r=true:=by cases r<;>exact hok
   exact JM h (t:=t) ⟨a.eval y,aD h.env this,by simp[execOp,hop,MN]⟩ hd.2
 case build z ps=>
  have hok:=aM hok (by simp);simp only[aB]at hs;split at hs
  case h_2=>simp at hs
  rename_i cs hc;simp only[aW,bK]at hs;obtain⟨rfl,rfl⟩:=hs;refine⟨rfl,?_⟩;cases hop:o.op
  case build t qs=>rw[hop]at hok;exact QV h hop hok hc
  all_goals (rw[hop]at hok;simp[dn]at hok)
 case jP k n z ps=>
  have hok:=aM hok (by simp);simp only[aB]at hs;split at hs
  case h_2=>simp at hs
  rename_i es hc;simp only[aW,bK]at hs;obtain⟨rfl,rfl⟩:=hs;refine⟨rfl,?_⟩;cases hop:o.op
  case buildSlice t m qs=>
   rw[hop]at hok
   have hnm:m=n:=by simp only[dn,bN,beq_iff_eq]at hok;exact hok.1.1.1.1.2
   subst hnm;exact Vq h hop hok hc
  all_goals (rw[hop]at hok;simp[dn]at hok)
 case ld r k ag=>
  have hok:=aM hok (by simp);simp only[aB]at hs;obtain⟨hs2,rfl⟩:=oP hs;refine⟨rfl,?_⟩;cases hop:o.op<;>simp only[hop,dn,kG,bN]at hok;exact snd_ld h hop hok.1.1 hok.1.2 hok.2 hs2
 case VX r=>
  have hok:=aM hok (by simp);cases hop:o.op<;>simp only[hop,dn,kG]at hok;simp only[aB]at hs;split at hs
  ·rename_i q g j hr;split at hs
   case isFalse=>simp at hs
   rename_i hg;simp only[aW,bK]at hs;obtain⟨rfl,rfl⟩:=hs;exact⟨rfl,Gq h hop hok hr (.inl ⟨_,_,_,rfl,hg.symm⟩)⟩
  ·rename_i q g k i j hr;split at hs
   case isFalse=>simp at hs
   rename_i hg;simp only[aW,bK]at hs;obtain⟨rfl,rfl⟩:=hs;exact⟨rfl,Gq h hop hok hr (.inr (.inl ⟨_,_,_,_,_,rfl,hg.symm⟩))⟩
  ·rename_i z j hr;simp only[aW,bK]at hs;obtain⟨rfl,rfl⟩:=hs;exact⟨rfl,Gq h hop hok hr (.inr (.inr ⟨_,_,rfl⟩))⟩
  ·simp at hs
 case bin op r1 r2=>
  have hok:=aM hok (by simp);simp only[aB]at hs;split at hs
  case h_2=>simp at hs
  rename_i u v hu hv;split at hs
  case h_2=>simp at hs
  rename_i z hz;simp only[aW,bK]at hs;obtain⟨rfl,rfl⟩:=hs;refine⟨rfl,?_⟩;cases hop:o.op
  case binOp op' t y1 y2 yt=>
   rw[hop]at hok
   have hok':((op'==op&&dU y1 r1)&&dU y2 r2)&&OL P t=true:=by cases op'<;>simpa[dn]using hok
   simp only[bN,beq_iff_eq]at hok';obtain⟨⟨⟨rfl,h1⟩,h2⟩,h3⟩:=hok';exact YK h hop h1 h2 (by simpa using h3) hu hv hz
  all_goals (rw[hop]at hok;simp[dn]at hok)
 case eqs neg ks r1 r2=>
  simp only[aB]at hs;split at hs
  case h_2=>simp at hs
  rename_i l m hl hm;split at hs
  case h_2=>simp at hs
  rename_i b hb;simp only[aW,bK]at hs;obtain⟨rfl,rfl⟩:=hs;refine⟨rfl,?_⟩;simp only[iJ]at hok;split at hok
  case h_2=>simp at hok
  rename_i o' t y1 y2 yt hop;simp only[bN,beq_iff_eq]at hok;obtain⟨⟨⟨rfl,h1⟩,h2⟩,h3⟩:=hok;exact YQ h hop h1 h2 h3 hl hm hb
 case no=>simp[aB]at hs
 case VT neg r=>
  simp only[iJ]at hok;split at hok
  case h_2=>simp at hok
  rename_i o' t y1 yt hop;simp only[bN,beq_iff_eq]at hok;obtain⟨⟨rfl,h1⟩,h3⟩:=hok;split at h3
  case h_2=>simp at h3
  rename_i p1 p2 p3 hel;exact YO h hop rfl h1 hel hs
 case VU neg r=>
  simp only[iJ]at hok;split at hok
  case h_2=>simp at hok
  rename_i o' t y1 yt hop;simp only[bN,beq_iff_eq]at hok;obtain⟨⟨rfl,h1⟩,h3⟩:=hok;split at h3
  case h_2=>simp at h3
  rename_i el hel;exact YP h hop rfl h1 hel hs
 case KL ks ag rm rk z ok=>
  simp only[iJ]at hok;cases hop:o.op<;>simp only[hop,oK,kG,bN,beq_iff_eq]at hok;obtain⟨⟨⟨⟨h1,h2⟩,h3⟩,h4⟩,rfl⟩:=hok;exact Y3 h hop h1 h2 h3 h4 hs
 case P7 rm=>
  simp only[iJ]at hok;cases hop:o.op
  case call c=>rw[hop]at hok;exact Y4 h hop hok hs
  all_goals (rw[hop]at hok;simp[oK]at hok)
 case ZJ neg r1 r2=>
  have hok:=aM hok (by simp);simp only[aB]at hs;split at hs
  case h_2=>simp at hs
  rename_i u v hu hv;simp only[aW,bK]at hs;obtain⟨rfl,rfl⟩:=hs;refine⟨rfl,?_⟩;cases hop:o.op
  case binOp op' t y1 y2 yt=>
   rw[hop]at hok
   cases op'<;>cases neg<;>simp only[dn,kG,bN]at hok
   ·exact OQ (neg:=false) h (by simpa using hop) hok.1.1 hok.1.2 hok.2 hu hv
   ·exact OQ (neg:=true) h (by simpa using hop) hok.1.1 hok.1.2 hok.2 hu hv
  all_goals (rw[hop]at hok;simp[dn]at hok)
 case un op r=>
  have hok:=aM hok (by simp);simp only[aB]at hs;split at hs
  case h_2=>simp at hs
  rename_i u hu;split at hs
  case h_2=>simp at hs
  rename_i z hz;simp only[aW,bK]at hs;obtain⟨rfl,rfl⟩:=hs;refine⟨rfl,?_⟩;cases hop:o.op<;>simp only[hop,dn,kG,bN,beq_iff_eq]at hok;obtain⟨rfl,h1⟩:=hok;exact snd_un h hop h1 hu hz
 case cvs r=>
  have hok:=aM hok (by simp);simp only[aB]at hs;split at hs
  case h_2=>simp at hs
  rename_i b hb;simp only[aW,bK]at hs;obtain⟨rfl,rfl⟩:=hs;refine⟨rfl,?_⟩;cases hop:o.op<;>simp only[hop,dn,kG,bN]at hok;obtain⟨hd,h1⟩:=hok;split at hd
  case h_2=>simp at hd
  rename_i hd1 hd2;exact YN h hop hd1 hd2 h1 hb
 case conv k r=>
  have hok:=aM hok (by simp);simp only[aB]at hs;split at hs
  case h_2=>simp at hs
  rename_i k' n hb;simp only[aW,bK]at hs;obtain⟨rfl,rfl⟩:=hs;refine⟨rfl,?_⟩;cases hop:o.op<;>simp only[hop,dn,kG,bN]at hok;obtain⟨⟨hs1,hd⟩,h1⟩:=hok;split at hd
  case h_2=>simp at hd
  rename_i k2 hd2;simp only[beq_iff_eq]at hd;subst hd;exact Vr h hop (Option.isSome_iff_exists.1 hs1) hd2 h1 hb
 case fa r j=>
  have hok:=aM hok (by simp);cases hop:o.op<;>simp only[hop,dn,kG,bN]at hok;obtain⟨hd,h1⟩:=hok;split at hd
  case h_2=>simp at hd
  rename_i fs ht;split at hd
  case h_2=>simp at hd
  rename_i f hf;simp only[bN,beq_iff_eq]at hd;obtain⟨rfl,hd⟩:=hd;split at hd
  case h_2=>simp at hd
  rename_i i hi;have hd:i.size≠0:=by simpa using hd
  simp only[aB]at hs;split at hs
  ·rename_i q g l hr;split at hs
   case isFalse=>simp at hs
   rename_i hg;simp only[aW,bK]at hs;obtain⟨rfl,rfl⟩:=hs;exact⟨rfl,Me h hop ht hf hi hd h1 hr (.inl ⟨_,_,_,rfl,rfl,hg.symm⟩)⟩
  ·rename_i q g k i' l hr;split at hs
   case isFalse=>simp at hs
   rename_i hg;simp only[aW,bK]at hs;obtain⟨rfl,rfl⟩:=hs;exact⟨rfl,Me h hop ht hf hi hd h1 hr (.inr (.inl ⟨_,_,_,_,_,rfl,rfl,hg.symm⟩))⟩
  ·rename_i z l hr;simp only[aW,bK]at hs;obtain⟨rfl,rfl⟩:=hs;exact⟨rfl,Me h hop ht hf hi hd h1 hr (.inr (.inr ⟨_,_,rfl,rfl⟩))⟩
  ·simp at hs
 case M4 r j k ag=>
  have hok:=aM hok (by simp);simp only[aB]at hs;split at hs
  case h_2=>simp at hs
  rename_i cs hr;obtain⟨hs2,rfl⟩:=oP hs;refine⟨rfl,?_⟩;cases hop:o.op<;>simp only[hop,dn,kG,bN]at hok;obtain⟨hd,h1⟩:=hok;split at hd
  case h_2=>simp at hd
  rename_i fs ht;split at hd
  case h_2=>simp at hd
  rename_i f hf;simp only[bN,beq_iff_eq]at hd;obtain⟨⟨rfl,hd1⟩,hd2⟩:=hd;exact YS h hop ht hf hd1 hd2 h1 hr hs2
 case dN r1 r2 k=>
  have hok:=aM hok (by simp);cases hop:o.op<;>simp only[hop,dn,kG,bN]at hok;obtain⟨⟨hd,h1⟩,h2⟩:=hok;split at hd
  case h_2=>simp at hd
  rename_i el ht;simp only[aB]at hs;split at hs
  case h_2=>simp at hs
  rename_i n hn;split at hs
  ·rename_i f es hr;split at hs
   case isFalse=>simp at hs
   rename_i hc;split at hs
   case h_2=>simp at hs
   rename_i y hy;split at hs
   case isFalse=>simp at hs
   rename_i hw;simp only[aW,bK]at hs;obtain⟨rfl,rfl⟩:=hs;exact⟨rfl,YT h hop ht hd h1 h2 hr hn hc.1 hc.2 hy hw⟩
  ·rename_i q g k' j m hr;split at hs
   case isFalse=>simp at hs
   rename_i hc;obtain⟨hc1,hc2,rfl,hg⟩:=hc;simp only[aW,bK]at hs;obtain⟨rfl,rfl⟩:=hs;exact⟨rfl,YU h hop ht hd h1 h2 hr hn hc1 hc2 hg.symm⟩
  ·simp at hs
 case DX r1 r2 k n=>
  have hok:=aM hok (by simp);cases hop:o.op<;>simp only[hop,dn,kG,bN]at hok;obtain⟨⟨hd,h1⟩,h2⟩:=hok;split at hd
  case h_2=>simp at hd
  rename_i m el ht;simp only[bN,beq_iff_eq]at hd;obtain⟨hd,rfl⟩:=hd;simp only[aB]at hs;split at hs
  case h_2=>simp at hs
  rename_i i hi;split at hs
  case isFalse=>simp at hs
  rename_i hc;split at hs
  ·rename_i q g j hr;split at hs
   case isFalse=>simp at hs
   rename_i hg;simp only[aW,bK]at hs;obtain⟨rfl,rfl⟩:=hs;exact⟨rfl,OT h hop ht hd h1 h2 hi hc.1 hc.2 hr (.inl ⟨_,_,_,rfl,rfl,hg.symm⟩)⟩
  ·rename_i z j hr;simp only[aW,bK]at hs;obtain⟨rfl,rfl⟩:=hs;exact⟨rfl,OT h hop ht hd h1 h2 hi hc.1 hc.2 hr (.inr ⟨_,_,rfl,rfl⟩)⟩
  ·simp at hs
 case JZ r1 r2=>
  have hok:=aM hok (by simp);cases hop:o.op<;>simp only[hop,dn,kG,bN]at hok;obtain⟨⟨hd,h1⟩,h2⟩:=hok;split at hd
  case h_2=>simp at hd
  rename_i ht;simp only[aB]at hs;split at hs
  case h_2=>simp at hs
  rename_i b n hb hn;split at hs
  case h_2=>simp at hs
  rename_i c hc;simp only[aW,bK]at hs;obtain⟨rfl,rfl⟩:=hs;exact⟨rfl,YV h hop ht h1 h2 hb hn hc⟩
 case ixv r1 r2 k n ag=>
  have hok:=aM hok (by simp);cases hop:o.op<;>simp only[hop,dn,kG,bN]at hok;obtain⟨⟨hd,h1⟩,h2⟩:=hok;split at hd
  case h_2=>simp at hd
  rename_i m el ht;simp only[bN,beq_iff_eq]at hd;obtain⟨⟨hd1,hd2⟩,rfl⟩:=hd;simp only[aB]at hs;split at hs
  case h_2=>simp at hs
  rename_i cs i hr hi;split at hs
  case isFalse=>simp at hs
  rename_i hc;obtain⟨hs2,rfl⟩:=oP hs;exact⟨rfl,YW h hop ht hd1 hd2 h1 h2 hr hi hc.1 hc.2 hs2⟩
 case sls r lo hi=>
  have hok:=aM hok (by simp);simp only[aB]at hs;split at hs
  case h_2=>simp at hs
  rename_i b hb;split at hs
  case h_2=>simp at hs
  rename_i m hm;split at hs
  case h_2=>simp at hs
  rename_i l hl;simp only[aW,bK]at hs;obtain⟨rfl,rfl⟩:=hs;refine⟨rfl,?_⟩;cases hop:o.op
  case slice t x lo' hi' mx=>
   rw[hop]at hok
   cases mx
   case some=>simp[dn]at hok
   simp only[dn,bN]at hok;obtain⟨⟨⟨hd,h1⟩,h2⟩,h3⟩:=hok;split at hd
   case h_2=>simp at hd
   rename_i ht;exact Y9 h hop ht h1 h2 h3 hb hm hl
  all_goals (rw[hop]at hok;simp[dn]at hok)
 case Vp k r lo hi=>
  have hok:=aM hok (by simp);cases hop:o.op
  case slice t x' lo' hi' mx=>
   rw[hop]at hok
   cases mx
   case some=>simp[dn]at hok
   simp only[dn,bN]at hok;obtain⟨⟨⟨hd,h1⟩,h2⟩,h3⟩:=hok;split at hd
   case h_2=>simp at hd
   rename_i el ht;simp only[aB]at hs;split at hs
   ·rename_i f es hr;split at hs
    case isTrue=>simp at hs
    rename_i hw;split at hs
    case h_2=>simp at hs
    rename_i m hm;split at hs
    case h_2=>simp at hs
    rename_i l hl;simp only[aW,bK]at hs;obtain⟨rfl,rfl⟩:=hs;refine⟨rfl,Y7 h hop ht hd h1 h2 h3 hr hm hl ?_⟩;have hw:es.all (fun y=>y.cells.length==k)=true:=by simpa using hw
    intro y hy;simpa using (List.all_eq_true.1 hw) y hy
   ·rename_i q g k' j n hr;split at hs
    case isTrue=>simp at hs
    rename_i hc;obtain⟨hg,rfl⟩:g=(s q).g/\k'=k:=by simpa using hc
    split at hs
    case h_2=>simp at hs
    rename_i m hm;split at hs
    case h_2=>simp at hs
    rename_i l hl;simp only[aW,bK]at hs;obtain⟨rfl,rfl⟩:=hs;exact⟨rfl,Y8 h hop ht hd h1 h2 h3 hr hg.symm hm hl⟩
   ·rename_i hr;split at hs
    case h_2=>simp at hs
    rename_i m hm;split at hs
    case h_2=>simp at hs
    rename_i l hl;simp only[aW,bK]at hs;obtain⟨rfl,rfl⟩:=hs;refine⟨rfl,?_⟩;have hr1:=aD h.env h1;rw[hr]at hr1
    generalize hv:a.eval x'=v at hr1;cases hr1 with
    | nil=>
     rename_i bb;have hm0:m=0:=by
      unfold bnd at hm;split at hm
      ·simpa using hm.symm
      ·split at hm
       ·split at hm
        ·simp at hm;omega
        ·simp at hm
       ·simp at hm
     subst hm0;have hl0:l=0:=by
      unfold bnd at hl;split at hl
      ·simpa using hl.symm
      ·split at hl
       ·split at hl
        ·simp at hl;omega
        ·simp at hl
       ·simp at hl
     subst hl0;obtain⟨h4,_⟩:=oW (P:=P) (isS:=true) h.env h2 h3 hm hl (Nat.le_refl _);refine aO h (v:=.slice bb 0 0) ?_ .nil;simp only[execOp,hop,hv,Instr.sliceAt,Instr.slice,Sem.run_bind,run_underlying ht,Result.andThen_ok,Option.map_none,h4];simp[dx hd]
   ·simp at hs
  all_goals (rw[hop]at hok;simp[dn]at hok)
 case len r=>
  have hok:=aM hok (by simp);cases hop:o.op<;>simp only[hop,dn,kG,bN]at hok;rename_i c;obtain⟨⟨hc,hd⟩,h1⟩:=hok;have hc:c.callee=.builtin .len:=by revert hc;cases c.callee<;>simp;rename_i b;cases b<;>simp
  split at hd
  case h_2=>simp at hd
  rename_i t ht;split at hd
  case h_2=>simp at hd
  rename_i el hel;simp only[aB]at hs;split at hs
  ·rename_i f es hr;simp only[aW,bK]at hs;obtain⟨rfl,rfl⟩:=hs;exact⟨rfl,Gp h hop hc ht hel h1 hr (.inl ⟨_,_,rfl,rfl⟩)⟩
  ·rename_i q g k i n hr;split at hs
   case isFalse=>simp at hs
   rename_i hg;simp only[aW,bK]at hs;obtain⟨rfl,rfl⟩:=hs;exact⟨rfl,Gp h hop hc ht hel h1 hr (.inr (.inl ⟨_,_,_,_,_,rfl,hg.symm,rfl⟩))⟩
  ·rename_i hr;simp only[aW,bK]at hs;obtain⟨rfl,rfl⟩:=hs;exact⟨rfl,Gp h hop hc ht hel h1 hr (.inr (.inr ⟨rfl,rfl⟩))⟩
  ·simp at hs
 case lens r=>
  have hok:=aM hok (by simp);cases hop:o.op<;>simp only[hop,dn,kG,bN]at hok;rename_i c;obtain⟨⟨hc,hd⟩,h1⟩:=hok;have hc:c.callee=.builtin .len:=by revert hc;cases c.callee<;>simp;rename_i b;cases b<;>simp
  split at hd
  case h_2=>simp at hd
  rename_i t ht;split at hd
  case h_2=>simp at hd
  rename_i hel;simp only[aB]at hs;split at hs
  ·rename_i b hr;simp only[aW,bK]at hs;obtain⟨rfl,rfl⟩:=hs;exact⟨rfl,Vs h hop hc ht hel h1 hr⟩
  ·simp at hs
 case bA mx r l=>
  have hok:=aM hok (by simp);cases hop:o.op<;>simp only[hop,dn,kG,bN]at hok;rename_i c;obtain⟨hc,h1⟩:=hok;have hc:c.callee=.builtin (if mx then .max else .min):=by
   revert hc;cases c.callee<;>cases mx<;>simp
   all_goals (rename_i b;cases b<;>simp)
  simp only[aB]at hs;split at hs
  case h_2=>simp at hs
  rename_i u hu;split at hs
  case h_2=>simp at hs
  rename_i z hz;simp only[aW,bK]at hs;obtain⟨rfl,rfl⟩:=hs;exact⟨rfl,Vt h hop hc h1 hu hz⟩
 case ext r i=>
  have hok:=aM hok (by simp);cases hop:o.op<;>simp only[hop,dn,kG,bN,beq_iff_eq]at hok;obtain⟨h1,rfl⟩:=hok;simp only[aB]at hs;split at hs
  case h_2=>simp at hs
  rename_i cs hr;obtain⟨hs2,rfl⟩:=oP hs;exact⟨rfl,YR h hop h1 hr hs2⟩
 case KI f l=>
  have hok:=aM hok (by simp);simp only[aB]at hs;split at hs
  case isFalse=>simp at hs
  simp only[aW,bK]at hs;obtain⟨rfl,rfl⟩:=hs;refine⟨rfl,?_⟩;cases hop:o.op
  case makeFunc fn fst cap=>
   rw[hop]at hok
   cases fn<;>simp only[dn,kG,bN,beq_iff_eq]at hok;obtain⟨⟨rfl,h1⟩,h2⟩:=hok;exact YZ h hop h1 h2
  all_goals (rw[hop]at hok;simp[dn]at hok)
 case IX f l=>
  have hok:=aM hok (by simp);simp only[aB]at hs;split at hs
  case isFalse=>simp at hs
  simp only[aW,bK]at hs;obtain⟨rfl,rfl⟩:=hs;refine⟨rfl,?_⟩;cases hop:o.op
  case makeFunc fn fst cap=>
   rw[hop]at hok
   cases fn<;>simp only[dn,kG,bN,beq_iff_eq]at hok;obtain⟨⟨rfl,h1⟩,h2⟩:=hok;exact Y2 h hop h1 h2
  all_goals (rw[hop]at hok;simp[dn]at hok)
 all_goals (simp[dM]at hst)
theorem Mj(h:Inv w0 sh nt μ fr e s a w){o:Oper}{io:iw}(hok:iJ P o.op io=true){x:X}{s':ax}(hs:aB io e s=some (x,s')):Out P w0 sh nt e a w o x s':=by
 cases hst:dM io
 case true=>
  obtain⟨rfl,h1⟩:=yX h hok hst hs;exact h1.out
 cases io<;>simp only[dM,reduceCtorEq]at hst
 case box n r=>
  have hok:=aM hok (by simp);simp only[aB]at hs;split at hs
  case isFalse=>simp at hs
  rename_i hd;simp only[aW,bK]at hs;obtain⟨rfl,rfl⟩:=hs;cases hop:o.op<;>simp only[hop,dn,kG]at hok
  case alloc t=>
   cases r<;>simp only[kG]at hok;rename_i z;obtain⟨v,hv,hr⟩:=Dw (w:=w) hok;exact OP h (t:=t) ⟨v,pQ hv _,by simp[execOp,hop,hr]⟩ hd
  case box t y=>
   have:dU y r=true:=by cases r<;>exact hok
   exact OP h (t:=t) ⟨a.eval y,aD h.env this,by simp[execOp,hop,MN]⟩ hd
 case Zt q k z d ix r=>
  have hok:=aM hok (by simp);simp only[aB]at hs;split at hs
  case h_2=>simp at hs
  rename_i i cs hi hcs;split at hs
  case isFalse=>simp at hs
  rename_i hc;split at hs
  case h_2=>simp at hs
  rename_i cs' s2 hr;simp only[aW,bK]at hs;obtain⟨rfl,rfl⟩:=hs;cases hop:o.op
  case buildSlice t m qs=>
   rw[hop]at hok
   exact YM h hop hok hcs hc.2.1 hr
  all_goals (rw[hop]at hok;simp[dn]at hok)
 case lg q k n z ps=>
  have hok:=aM hok (by simp);simp only[aB]at hs;split at hs
  case h_2=>simp at hs
  rename_i es nm hc;split at hs
  case isTrue=>simp at hs
  rename_i hq;simp only[aW,bK]at hs;obtain⟨rfl,rfl⟩:=hs;cases hop:o.op
  case buildSlice t m qs=>
   rw[hop]at hok
   have hnm:m=n:=by simp only[dn,bN,beq_iff_eq]at hok;exact hok.1.1.1.1.2
   subst hnm;exact YL h hop (by simpa[dn]using hok) hc hq
  all_goals (rw[hop]at hok;simp[dn]at hok)
 case st r1 r2 k=>
  have hok:=aM hok (by simp);simp only[aB]at hs;split at hs
  case h_2=>simp at hs
  rename_i s2 hst;simp only[aW,bK]at hs;obtain⟨rfl,rfl⟩:=hs;cases hop:o.op<;>simp only[hop,dn,kG,bN]at hok;exact snd_st h hop hok.1.1 hok.1.2 hok.2 hst
 case P6 q k z r1 r2 lim=>
  have hok:=aM hok (by simp);simp only[aB]at hs;split at hs
  case h_2=>simp at hs
  rename_i l c hl hc;split at hs
  case isFalse=>simp at hs
  rename_i hcond;simp only[aW,bK]at hs;obtain⟨rfl,rfl⟩:=hs;cases hop:o.op
  case makeSlice t x1 x2=>
   rw[hop]at hok
   exact Y1 h hop hok hl hc hcond.1 hcond.2.1 hcond.2.2.1 hcond.2.2.2.2.1 hcond.2.2.2.2.2
  all_goals (rw[hop]at hok;simp[dn]at hok)
 case app q k lim r1 r2=>
  have hok:=aM hok (by simp);cases hop:o.op
  case call c=>
   rw[hop]at hok
   have hc:c.callee=.builtin .append:=by have hh:=hok;simp only[dn,bN]at hh;have:=hh.1.1;revert this;cases c.callee<;>simp;rename_i b;cases b<;>simp
   exact OO h hop hc hok hs
  all_goals (rw[hop]at hok;simp[dn]at hok)
 case Rh q k lim r1 r2=>
  have hs:aB (.app q k lim r1 r2) e s=some (x,s'):=by
   simp only[aB,y9]at hs ⊢;split at hs
   ·rename_i h1 h2;rw[h1,h2];exact hs
   ·rename_i h1 h2;split at hs
    ·rw[h1,h2];exact hs
    ·simp at hs
   ·simp at hs
  have hok:=aM hok (by simp);cases hop:o.op
  case call c=>
   rw[hop]at hok
   have hc:c.callee=.builtin .append:=by have hh:=hok;simp only[dn,bN]at hh;have:=hh.1.1;revert this;cases c.callee<;>simp;rename_i b;cases b<;>simp
   exact OO h hop hc (by simpa only[dn]using hok) hs
  all_goals (rw[hop]at hok;simp[dn]at hok)
 case call=>simp[aB]at hs
 case gN=>simp[aB]at hs
 case bO=>simp[aB]at hs
 case lu=>simp[aB]at hs
 case bU=>simp[aB]at hs
 case gW=>simp[aB]at hs
 case KJ n ha=>
  simp only[iJ]at hok;cases hop:o.op
  case makeMap t hi=>rw[hop]at hok;exact Y0 h hop hok hs
  all_goals (rw[hop]at hok;simp[oK]at hok)
 case SK ks ag rm rk z=>
  simp only[iJ]at hok;cases hop:o.op<;>simp only[hop,oK,kG,bN]at hok;exact YX h hop hok.1.1.1 hok.1.1.2 hok.1.2 hok.2 hs
 case SQ rm rs rv=>
  simp only[iJ]at hok;cases hop:o.op<;>simp only[hop,oK,kG,bN]at hok;exact Y5 h hop hok.1.1 hok.1.2 hok.2 hs
 case Rl ks ag rm rk rv=>
  simp only[iJ]at hok;cases hop:o.op<;>simp only[hop,oK,kG,bN]at hok;exact Y6 h hop hok.1.1.1 hok.1.1.2 hok.1.2 hok.2 hs
end
end Go.Proofs.YtbmkfjmlepjpfaaGreatDoor
