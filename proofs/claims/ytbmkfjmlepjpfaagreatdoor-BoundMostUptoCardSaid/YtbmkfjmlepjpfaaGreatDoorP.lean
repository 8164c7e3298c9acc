/- A part of the proof. -/
import Derived.Test.YtbmkfjmlepjpfaaGreatDoorE
import Derived.Laws.StructEq
import Derived.ChangeKeysEq
import Derived.MapKept
import Derived.WideKeyRuns
set_option linter.all false
set_option maxRecDepth 100000
namespace Go.Proofs.YtbmkfjmlepjpfaaGreatDoor
open Go.RowKit
variable {P:Program}
def GK(P:Program)(g:TypeId->Option (List LK)):List Field->Nat->Option (List LK)
 | [],_=>some []
 | f::fs,off=>
  if f.name="_" then none else if f.offset=off then
   match g f.type with
   | some k=>if lJ P f.type k.length=true then
    match GK P g fs (off+k.length)with
    | some l=>some (k++l)
    | none=>none
    else none
   | none=>none
  else none
def Du(P:Program):Nat->TypeId->Option (List LK)
 | 0,_=>none
 | d+1,t=>
  match P.underlying t with
  | some (.int _)=>some [.i]
  | some .string=>some [.s]
  | some .bool=>some [.b]
  | some (.struct fs)=>if P.stoodInHeld t=false then GK P (Du P d) fs.toList 0 else none
  | some (.array n e)=>match Du P d e with
   | some k=>if lJ P e k.length=true then some (List.replicate n k).flatten else none
   | none=>none
  | _=>none
def rP:List LK->List Value->List Value->Option Bool
 | [],[],[]=>some true
 | k::ks,a::l,b::m=>match Dt k a b,rP ks l m with
  | some p,some q=>some (p&&q)
  | _,_=>none
 | _,_,_=>none
theorem nH:∀ {ks:List LK} {l m:List Value} {b:Bool},rP ks l m=some b->l.length=ks.length/\m.length=ks.length:=by
 intro ks;induction ks with
 | nil=>intro l m b h;cases l<;>cases m<;>simp[rP]at h ⊢
 | cons k ks ih=>
  intro l m b h;cases l<;>cases m<;>simp[rP]at h ⊢;split at h
  ·rename_i h2;exact ih h2
  ·simp at h
theorem Bj:∀ {ks ks':List LK} {l m:List Value} {b:Bool},rP (ks++ks') l m=some b->∃p q,rP ks (l.take ks.length) (m.take ks.length)=some p/\rP ks' (l.drop ks.length) (m.drop ks.length)=some q/\b=(p&&q):=by
 intro ks;induction ks with
 | nil=>intro ks' l m b h;exact⟨true,b,by simp[rP],by simpa using h,by simp⟩
 | cons k ks ih=>
  intro ks' l m b h;cases l with
  | nil=>simp[rP]at h
  | cons x l=>cases m with
   | nil=>simp[rP]at h
   | cons y m=>
    simp only[List.cons_append,rP]at h;split at h
    case h_2=>simp at h
    rename_i p q hp hq;injection h with h;obtain⟨p',q',h1,h2,h3⟩:=ih hq;exact⟨p&&p',q',by simp[rP,hp,h1],by simpa using h2,by rw[<-h,h3,Bool.and_assoc]⟩
def Seg(xs:Array Value)(off:Nat)(l:List Value):Prop:=off+l.length<=xs.size/\∀j u,l[j]?=some u->xs[off+j]?=some u
theorem Seg.extract{xs:Array Value}{off:Nat}{l:List Value}(h:Seg xs off l):Seg (xs.extract off (off+l.length)) 0 l:=by refine⟨by simp;have:=h.1;omega,fun j u hu=>?_⟩;have hj:=(List.getElem?_eq_some_iff.1 hu).1;rw[Array.getElem?_extract,if_pos (by have:=h.1;omega),Nat.zero_add];exact h.2 j u hu
theorem Seg.take{xs:Array Value}{off k:Nat}{l:List Value}(h:Seg xs off l)(hk:k<=l.length):Seg xs off (l.take k):=
 ⟨by have:=h.1;simp;omega,fun j u hu=>h.2 j u (by rw[List.getElem?_take]at hu;split at hu<;>simp_all)⟩
theorem Seg.drop{xs:Array Value}{off k:Nat}{l:List Value}(h:Seg xs off l)(hk:k<=l.length):Seg xs (off+k) (l.drop k):=
 ⟨by have:=h.1;simp;omega,fun j u hu=>by rw[List.getElem?_drop]at hu;rw[Nat.add_assoc];exact h.2 _ u hu⟩
theorem aggF{t:TypeId}{d:TypeDesc}(hu:P.underlying t=some d)(hd:(∀fs,d≠.struct fs)/\∀n e,d≠.array n e)(w:World):(isAgg t).run P w=.ok false w:=by refine dV (b:=false) ?_ w;unfold jw;rw[hu];cases d<;>first|rfl|(exact absurd rfl (hd.1 _))|(exact absurd rfl (hd.2 _ _))
theorem CB(w:World):∀(d:Nat) (t:TypeId) (ks:List LK),Du P d t=some ks->∀ {xs ys:Array Value} {off:Nat} {l m:List Value} {b:Bool},Seg xs off l->Seg ys off m->lJ P t ks.length=true->rP ks l m=some b->
 ∃x y,(part t xs off).run P w=.ok x w/\(part t ys off).run P w=.ok y w/\∀d',d<=d'->(Op.equalIn d' t x y).run P w=.ok b w:=by
 intro d;induction d with
 | zero=>intro t k h;simp[Du]at h
 | succ d ih=>
  intro t ks h xs ys off l m b hx hy hs he;obtain⟨hl,hm⟩:=nH he;have one:∀(de:TypeDesc) (lk:LK),P.underlying t=some de->(∀fs,de≠.struct fs)/\(∀n e,de≠.array n e)->ks=[lk]->
   (∀u v d',Dt lk u v=some b->(Op.equalIn (d'+1) t u v).run P w=.ok b w)->
   ∃x y,(part t xs off).run P w=.ok x w/\(part t ys off).run P w=.ok y w/\∀d',d+1<=d'->(Op.equalIn d' t x y).run P w=.ok b w:=by
   intro de lk hu hd hk heq;subst hk
   match l,m,hl,hm with
   | [u],[v],_,_=>
    have h1:=hx.2 0 u rfl;have h2:=hy.2 0 v rfl;rw[Nat.add_zero]at h1 h2
    refine⟨u,v,by simp[part,aggF hu hd,h1],by simp[part,aggF hu hd,h2],fun d' hd'=>?_⟩;obtain⟨d'',rfl⟩:∃n,d'=n+1:=⟨d'-1,by omega⟩
    refine heq u v d'' ?_;simp only[rP]at he;split at he
    ·rename_i p q hp hq;simp only[aR]at hq he;subst hq;rw[hp];simpa using he
    ·simp at he
  simp only[Du]at h;split at h
  ·rename_i kd hu;simp only[aR]at h;refine one _ _ hu ⟨by simp,by simp⟩ h.symm fun u v d' huv=>?_
   cases u<;>cases v<;>simp[Dt]at huv;obtain⟨rfl,rfl⟩:=huv;simp[Op.equalIn,run_underlying hu]
  ·rename_i hu;simp only[aR]at h;refine one _ _ hu ⟨by simp,by simp⟩ h.symm fun u v d' huv=>?_
   cases u<;>cases v<;>simp only[Dt,reduceCtorEq,aR]at huv;subst huv;exact run_equalIn_string w d' t _ _ hu
  ·rename_i hu;simp only[aR]at h;refine one _ _ hu ⟨by simp,by simp⟩ h.symm fun u v d' huv=>?_
   cases u<;>cases v<;>simp only[Dt,reduceCtorEq,aR]at huv;subst huv;exact run_equalIn_bool w d' t _ _ hu
  ·rename_i fs hu;split at h
   case isFalse=>simp at h
   rename_i hst;have hag:(isAgg t).run P w=.ok true w:=dV (by unfold jw;rw[hu]) w;refine⟨.agg (xs.extract off (off+ks.length)),.agg (ys.extract off (off+ks.length)),by simp[part,hag,bR hs],by simp[part,hag,bR hs],fun d' hd'=>?_⟩;obtain⟨d'',rfl⟩:∃n,d'=n+1:=⟨d'-1,by omega⟩
   have hfo:P.fieldsOf t=fs:=by unfold Program.fieldsOf;rw[hu]
   rw[run_equalIn_struct w d'' t _ _ (by rw[hfo];exact hu) hst,hfo];have hx':=hx.extract;have hy':=hy.extract;rw[hl]at hx'
   rw[hm]at hy'
   have key:∀(fl:List Field) (o:Nat) (ks':List LK) (l m:List Value) (b:Bool),GK P (Du P d) fl o=some ks'->Seg (xs.extract off (off+ks.length)) o l->Seg (ys.extract off (off+ks.length)) o m->rP ks' l m=some b->
    (Op.eqFields d'' (xs.extract off (off+ks.length)) (ys.extract off (off+ks.length)) fl).run P w=.ok b w:=by
    intro fl;induction fl with
    | nil=>
     intro o ks' l m b hf hx hy he;simp only[GK,aR]at hf;subst hf;obtain⟨h1,h2⟩:=nH he;have h1:l=[]:=List.eq_nil_of_length_eq_zero (by simpa using h1);have h2:m=[]:=List.eq_nil_of_length_eq_zero (by simpa using h2);subst h1;subst h2;simp[rP]at he
     subst he;simp[Op.eqFields]
    | cons f fl ihf=>
     intro o ks' l m b hf hx hy he;simp only[GK]at hf;split at hf
     case isTrue=>simp at hf
     rename_i hname;split at hf
     case isFalse=>simp at hf
     rename_i hoff;split at hf
     case h_2=>simp at hf
     rename_i kf hkf;split at hf
     case isFalse=>simp at hf
     rename_i hsf;split at hf
     case h_2=>simp at hf
     rename_i kr hkr;simp only[aR]at hf;subst hf;obtain⟨hl,hm⟩:=nH he;simp only[List.length_append]at hl hm;obtain⟨p,q,hp,hq,rfl⟩:=Bj he;obtain⟨x,y,h1,h2,h3⟩:=ih f.type kf hkf (l:=l.take kf.length) (m:=m.take kf.length) (hx.take (by omega)) (hy.take (by omega)) hsf hp;have h4:=ihf (o+kf.length) kr (l.drop kf.length) (m.drop kf.length) q hkr (hx.drop (by omega)) (hy.drop (by omega)) hq;simp only[Op.eqFields,ne_eq,hname,not_false_eq_true,if_true,hoff,Sem.run_bind,h1,h2,Result.andThen_ok,h3 d'' (by omega)];cases p
     ·simp
     ·simp[h4]
   exact key fs.toList 0 ks l m b h hx' hy' he
  ·rename_i n te hu;split at h
   case h_2=>simp at h
   rename_i k hk;split at h
   case isFalse=>simp at h
   rename_i hse;injection h with h;subst h;have hag:(isAgg t).run P w=.ok true w:=dV (by unfold jw;rw[hu]) w;refine⟨.agg (xs.extract off (off+(List.replicate n k).flatten.length)),.agg (ys.extract off (off+(List.replicate n k).flatten.length)),by simp only[part,Sem.run_bind,hag,bR hs,Result.andThen_ok,if_true];rfl,by simp only[part,Sem.run_bind,hag,bR hs,Result.andThen_ok,if_true];rfl,fun d' hd'=>?_⟩;obtain⟨d'',rfl⟩:∃n,d'=n+1:=⟨d'-1,by omega⟩
   have hinf:∃i,P.info? te=some i/\i.size=k.length:=by
    unfold lJ at hse;split at hse
    ·rename_i i hi;exact⟨i,hi,by simpa using hse⟩
    ·simp at hse
   obtain⟨i,hi,hisz⟩:=hinf;rw[run_equalIn_array w d'' _ _ hu hi,show P.cellsOf te=k.length by simp[Program.cellsOf,hi,hisz]];have hx':=hx.extract;have hy':=hy.extract;rw[hl]at hx'
   rw[hm]at hy'
   have key:∀(c o:Nat) (l m:List Value) (b:Bool),Seg (xs.extract off (off+(List.replicate n k).flatten.length)) (o*k.length) l->Seg (ys.extract off (off+(List.replicate n k).flatten.length)) (o*k.length) m->rP (List.replicate c k).flatten l m=some b->
    (Op.eqItems d'' te k.length (xs.extract off (off+(List.replicate n k).flatten.length)) (ys.extract off (off+(List.replicate n k).flatten.length)) (List.range' o c)).run P w=.ok b w:=by
    intro c;induction c with
    | zero=>
     intro o l m b hx hy he;obtain⟨h1,h2⟩:=nH he;have h1:l=[]:=List.eq_nil_of_length_eq_zero (by simpa using h1);have h2:m=[]:=List.eq_nil_of_length_eq_zero (by simpa using h2);subst h1;subst h2;simp[rP]at he
     subst he;simp[Op.eqItems]
    | succ c ihn=>
     intro o l m b hx hy he;rw[List.replicate_succ,List.flatten_cons]at he
     obtain⟨hl,hm⟩:=nH he;simp only[List.length_append]at hl hm;obtain⟨p,q,hp,hq,rfl⟩:=Bj he;obtain⟨x,y,h1,h2,h3⟩:=ih te k hk (l:=l.take k.length) (m:=m.take k.length) (hx.take (by omega)) (hy.take (by omega)) hse hp;have hq':(o+1)*k.length=o*k.length+k.length:=by rw[Nat.add_mul,Nat.one_mul]
     have h4:=ihn (o+1) (l.drop k.length) (m.drop k.length) q (hq'▸hx.drop (by omega)) (hq'▸hy.drop (by omega)) hq;rw[List.range'_succ];simp only[Op.eqItems,Sem.run_bind,h1,h2,Result.andThen_ok,h3 d'' (by omega)];cases p
     ·simp
     ·simp only[Bool.not_true,jI,if_false,Bool.true_and];exact h4
   rw[List.range_eq_range'];exact key n 0 l m b (by simpa using hx') (by simpa using hy') he
  ·simp at h
theorem xK(w:World)(em:Bool):∀(d:Nat) (t:TypeId) (ks:List LK),Du P d t=some ks->∀ {xs:Array Value} {off:Nat} {l:List Value},Seg xs off l->l.length=ks.length->lJ P t ks.length=true->
 ∃x,(part t xs off).run P w=.ok x w/\∀d',d<=d'->(Instr.checkKey em d' t x).run P w=.ok () w:=by
 intro d;induction d with
 | zero=>intro t k h;simp[Du]at h
 | succ d ih=>
  intro t ks h xs off l hx hl hs;have one:∀(de:TypeDesc) (lk:LK),P.underlying t=some de->(∀fs,de≠.struct fs)/\(∀n e,de≠.array n e)->ks=[lk]->(∀u n,(Instr.checkKey em (n+1) t u).run P w=.ok () w)->
   ∃x,(part t xs off).run P w=.ok x w/\∀d',d+1<=d'->(Instr.checkKey em d' t x).run P w=.ok () w:=by
   intro de lk hu hd hk heq;subst hk
   match l,hl with
   | [u],_=>
    have h1:=hx.2 0 u rfl;rw[Nat.add_zero]at h1
    refine⟨u,by simp[part,aggF hu hd,h1],fun d' hd'=>?_⟩;obtain⟨d'',rfl⟩:∃n,d'=n+1:=⟨d'-1,by omega⟩
    exact heq u d''
  simp only[Du]at h;split at h
  ·rename_i kd hu;simp only[aR]at h;exact one _ _ hu ⟨by simp,by simp⟩ h.symm fun u n=>by simp[Instr.checkKey,run_underlying hu]
  ·rename_i hu;simp only[aR]at h;exact one _ _ hu ⟨by simp,by simp⟩ h.symm fun u n=>by simp[Instr.checkKey,run_underlying hu]
  ·rename_i hu;simp only[aR]at h;exact one _ _ hu ⟨by simp,by simp⟩ h.symm fun u n=>by simp[Instr.checkKey,run_underlying hu]
  ·rename_i fs hu;split at h
   case isFalse=>simp at h
   rename_i hst;have hag:(isAgg t).run P w=.ok true w:=dV (by unfold jw;rw[hu]) w;refine⟨.agg (xs.extract off (off+ks.length)),by simp[part,hag,bR hs],fun d' hd'=>?_⟩;obtain⟨d'',rfl⟩:∃n,d'=n+1:=⟨d'-1,by omega⟩
   have hx':=hx.extract;rw[hl]at hx'
   simp only[Instr.checkKey,Sem.run_bind,run_underlying hu,Result.andThen_ok];rw[<-Array.forIn_toList];have key:∀(fl:List Field) (o:Nat) (ks':List LK) (l:List Value),GK P (Du P d) fl o=some ks'->Seg (xs.extract off (off+ks.length)) o l->l.length=ks'.length->
    (forIn fl PUnit.unit fun f _=>(if f.name≠"_" then do
     let y <-part f.type (xs.extract off (off+ks.length)) f.offset
     Instr.checkKey em d'' f.type y
     pure (ForInStep.yield PUnit.unit)else pure (ForInStep.yield PUnit.unit):Sem (ForInStep PUnit))).run P w=.ok PUnit.unit w:=by
    intro fl;induction fl with
    | nil=>intro o ks' l hf hx hl;simp
    | cons f fl ihf=>
     intro o ks' l hf hx hl;simp only[GK]at hf;split at hf
     case isTrue=>simp at hf
     rename_i hname;split at hf
     case isFalse=>simp at hf
     rename_i hoff;split at hf
     case h_2=>simp at hf
     rename_i kf hkf;split at hf
     case isFalse=>simp at hf
     rename_i hsf;split at hf
     case h_2=>simp at hf
     rename_i kr hkr;simp only[aR]at hf;subst hf;simp only[List.length_append]at hl;obtain⟨x,h1,h3⟩:=ih f.type kf hkf (l:=l.take kf.length) (hx.take (by omega)) (by simp;omega) hsf;have h4:=ihf (o+kf.length) kr (l.drop kf.length) hkr (hx.drop (by omega)) (by simp;omega);simp only[List.forIn_cons,Sem.run_bind,ne_eq,hname,not_false_eq_true,if_true,hoff,h1,Result.andThen_ok,h3 d'' (by omega),Sem.run_pure];exact h4
   have:=key fs.toList 0 ks l h hx' hl;simp only[ne_eq,bind_pure_comp]at this ⊢;rw[this];rfl
  ·rename_i n te hu;split at h
   case h_2=>simp at h
   rename_i k hk;split at h
   case isFalse=>simp at h
   rename_i hse;injection h with h;subst h;have hag:(isAgg t).run P w=.ok true w:=dV (by unfold jw;rw[hu]) w;refine⟨.agg (xs.extract off (off+(List.replicate n k).flatten.length)),by simp only[part,Sem.run_bind,hag,bR hs,Result.andThen_ok,if_true];rfl,fun d' hd'=>?_⟩;obtain⟨d'',rfl⟩:∃n,d'=n+1:=⟨d'-1,by omega⟩
   have hx':=hx.extract;rw[hl]at hx'
   simp only[Instr.checkKey,Sem.run_bind,run_underlying hu,Result.andThen_ok];simp only[Std.Legacy.Range.forIn_eq_forIn_range',Std.Legacy.Range.size,Nat.sub_zero,Nat.add_one_sub_one,Nat.div_one];have key:∀(c o:Nat) (l:List Value),Seg (xs.extract off (off+(List.replicate n k).flatten.length)) (o*k.length) l->l.length=(List.replicate c k).flatten.length->
    (forIn (List.range' o c) PUnit.unit fun i _=>(do
     let z <-sizeOf te
     let y <-part te (xs.extract off (off+(List.replicate n k).flatten.length)) (i*z)
     Instr.checkKey em d'' te y
     pure (ForInStep.yield PUnit.unit):Sem (ForInStep PUnit))).run P w=.ok PUnit.unit w:=by
    intro c;induction c with
    | zero=>intro o l hx hl;simp
    | succ c ihn=>
     intro o l hx hl;rw[List.replicate_succ,List.flatten_cons,List.length_append]at hl
     obtain⟨x,h1,h3⟩:=ih te k hk (l:=l.take k.length) (hx.take (by omega)) (by simp;omega) hse;have hq':(o+1)*k.length=o*k.length+k.length:=by rw[Nat.add_mul,Nat.one_mul]
     have h4:=ihn (o+1) (l.drop k.length) (hq'▸hx.drop (by omega)) (by simp only[List.length_drop];omega);rw[List.range'_succ];simp only[List.forIn_cons,Sem.run_bind,bR hse,h1,Result.andThen_ok,h3 d'' (by omega),Sem.run_pure];exact h4
   have:=key n 0 l (by simpa using hx') hl;simp only[bind_pure_comp]at this ⊢;rw[this];rfl
  ·simp at h
def eqT(P:Program)(t:TypeId)(ks:List LK):Bool:=
 lJ P t ks.length&&jw P t true&&decide (Du P 9 t=some ks)&&!(P.eqGuardType P.depth t)
theorem ZW{C:Cx}:∀ {ks:List LK} {l m:List X} {us vs:List Value} {b:Bool},Cy ks l m=some b->l.length=us.length->m.length=vs.length->(∀(j:Nat) c u,l[j]?=some c->us[j]?=some u->aW C c u)->(∀(j:Nat) c u,m[j]?=some c->vs[j]?=some u->aW C c u)->rP ks us vs=some b:=by
 intro ks;induction ks with
 | nil=>
  intro l m us vs b h h1 h2 _ _;cases l<;>cases m<;>simp[Cy]at h;subst h;have:us=[]:=List.eq_nil_of_length_eq_zero (by simpa using h1.symm);have:vs=[]:=List.eq_nil_of_length_eq_zero (by simpa using h2.symm);subst us;subst vs;rfl
 | cons k ks ih=>
  intro l m us vs b h h1 h2 h3 h4;cases l with
  | nil=>simp[Cy]at h
  | cons x l=>cases m with
   | nil=>cases x<;>simp[Cy]at h
   | cons y m=>
    cases us with
    | nil=>simp at h1
    | cons u us=>cases vs with
     | nil=>simp at h2
     | cons v vs=>
      cases x<;>cases y<;>simp only[Cy,reduceCtorEq]at h;rename_i x y;split at h
      case h_2=>simp at h
      rename_i p q hp hq;have e1:=(gW (h3 0 _ u rfl rfl)).1;have e2:=(gW (h4 0 _ v rfl rfl)).1;subst e1;subst e2;have:=ih hq (by simpa using h1) (by simpa using h2) (fun j c u hj hu=>h3 (j+1) c u (by simpa using hj) (by simpa using hu)) (fun j c u hj hu=>h4 (j+1) c u (by simpa using hj) (by simpa using hu));simp[rP,hp,this,h]
section
variable {w0:Bs} {sh:Nat->Prop} {nt:Nat} {μ:Nat->Nat} {fr:Nat->Prop} {e:Env} {s:ay} {a:Act} {w:World}
theorem Y5(h:Inv w0 sh nt μ fr e s a w){o:Oper}{neg:Bool}{ks:List LK}{t yt:TypeId}{x y:Operand}{r1 r2:Ar}(ho:o.op=.binOp (if neg then .neq else .eql) t x y yt)(hx:dA x r1=true)(hy:dA y r2=true)(ht:eqT P t ks=true)
 {l m:List X} {b:Bool} (hl:r1.ev e=.agg l) (hm:r2.ev e=.agg m) (hb:Cy ks l m=some b):fT P w0 sh nt μ fr e s a w o (.v (.bool (if neg then !b else b))):=by
 have h1:=aD h.env hx;have h2:=aD h.env hy;rw[hl]at h1
 rw[hm]at h2
 simp only[eqT,bE,decide_eq_true_eq,Bool.not_eq_true']at ht;obtain⟨⟨⟨hs,hag⟩,hf⟩,hgd⟩:=ht;generalize hv1:a.eval x=v1 at h1;generalize hv2:a.eval y=v2 at h2;cases h1 with
 | @agg _ us hl1 _ hr1=>
  cases h2 with
  | @agg _ vs hl2 _ hr2=>
   have hw:=ZW hb (us:=us.toList) (vs:=vs.toList) (by simpa using hl1) (by simpa using hl2) (by simpa using hr1) (by simpa using hr2);obtain⟨n1,n2⟩:=nH hw;have sg:∀(z:Array Value),Seg z 0 z.toList:=fun z=>⟨by simp,fun j u hu=>by simpa using hu⟩
   obtain⟨p,q,hp,hq,heq⟩:=CB (P:=P) w 9 t ks hf (sg us) (sg vs) hs hw;have ep:(part t us 0).run P w=.ok (.agg us) w:=by simp only[Array.length_toList]at n1;simp[part,dV hag,bR hs,<-n1]
   have eq':(part t vs 0).run P w=.ok (.agg vs) w:=by simp only[Array.length_toList]at n2;simp[part,dV hag,bR hs,<-n2]
   rw[ep]at hp
   rw[eq']at hq
   injection hp with hp _;injection hq with hq _;subst hp;subst hq;have he:=heq 10000 (by omega);have hg:=fun op=>run_eqGuard_agg (P:=P) w op t x y us vs hgd
   cases neg
   ·have:=run_eql_struct (P:=P) w t us vs;rw[he]at this
    exact aK h (v:=.bool b) (by simp[execOp,ho,hv1,hv2,hg,this]) (.v rfl)
   ·have:=run_neq_struct (P:=P) w t us vs;rw[he]at this
    exact aK h (v:=.bool (!b)) (by simp[execOp,ho,hv1,hv2,hg,this]) (.v rfl)
end
variable {P:Program}
def EU(P:Program)(t:TypeId)(ks:List LK)(ag:Bool):Bool:=match P.underlying t with
 | some (.map kt _)=>lJ P kt ks.length&&jw P kt ag&&decide (Du P 9 kt=some ks)
 | _=>false
def Mv(P:Program)(t:TypeId)(z:X):Bool:=match P.underlying t with
 | some (.map _ et)=>ni P et z
 | _=>false
def mY(P:Program):Op->gm->Bool
 | .makeMap _ none,.GZ _ none=>true
 | .makeMap t (some h),.GZ _ (some a)=>dA h a&&(match P.underlying t with
  | some (.map _ _)=>true
  | _=>false)
 | .lookup t m k ok,.G5 ks ag m' k' z ok'=>EU P t ks ag&&Mv P t z&&dA m m'&&dA k k'&&ok==ok'
 | .mapEntry t m k,.O9 ks ag m' k' z=>EU P t ks ag&&Mv P t z&&dA m m'&&dA k k'
 | .entryStore _ m st v,.Pb m' st' v'=>dA m m'&&dA st st'&&dA v v'
 | .mapUpdate t m k v,.NN ks ag m' k' v'=>EU P t ks ag&&dA m m'&&dA k k'&&dA v v'
 | .call c,.Mx a=>(match c.callee with
  | .builtin .len=>true
  | _=>false)&&(match c.argTypes[0]? with
  | some t=>match P.underlying t with
   | some (.map _ _)=>true
   | _=>false
  | none=>false)&&iy c.args.toList [a]
 | _,_=>false
theorem BO:∀ {l:List X},p9 l=true↔∀c∈l,c.eG=true:=by
 intro l;induction l with
 | nil=>simp[p9]
 | cons a l ih=>simp[p9,ih]
theorem aW.eG{C D:Cx}{x:X}{v:Value}(hx:aW C x v)(hd:x.eG=true):aW D x v:=by
 induction hx with
 | v hp=>exact .v hp
 | agg hl ho hr ih=>exact .agg hl ho fun j c v hj hv=>ih j c v hj hv (BO.1 (by simpa[X.eG]using hd) c (jM hj))
 | bU hl hr ih=>exact .bU hl fun j c v hj hv=>ih j c v hj hv (BO.1 (by simpa[X.eG]using hd) c (jM hj))
 | _=>simp[X.eG]at hd
theorem ED{k:LK}{a b:Value}(h:Dt k a b=some true):a=b:=by
 cases k<;>cases a<;>cases b<;>simp only[Dt,reduceCtorEq,aR]at h
 ·split at h
  ·rename_i hk;subst hk;simp only[aR,beq_iff_eq]at h;rw[h]
  ·simp at h
 ·have:∀x y:ByteArray,x.toList=y.toList->x=y:=by
   intro x y hxy;rw[ByteArray.toList_eq,ByteArray.toList_eq]at hxy
   obtain⟨⟨x⟩⟩:=x;obtain⟨⟨y⟩⟩:=y;simp only at hxy;rw[hxy]
  rename_i a b;rw[this a b (by simpa using h)]
 ·rw[beq_iff_eq.1 h]
theorem OB:∀ {ks:List LK} {l m:List Value},rP ks l m=some true->l=m:=by
 intro ks;induction ks with
 | nil=>intro l m h;cases l<;>cases m<;>simp[rP]at h ⊢
 | cons k ks ih=>
  intro l m h;cases l with
  | nil=>simp[rP]at h
  | cons a l=>cases m with
   | nil=>simp[rP]at h
   | cons b m=>
    simp only[rP]at h;split at h
    case h_2=>simp at h
    rename_i p q hp hq;simp only[aR,bE]at h;obtain⟨rfl,rfl⟩:=h;rw[ED hp,ih hq]
theorem EF:∀ {ks:List LK} {l m:List Value} {b:Bool},rP ks l m=some b->∀n,(l.zip l).all (fun p=>Instr.sameBits n p.1 p.2)=true:=by
 intro ks;induction ks with
 | nil=>intro l m b h n;cases l<;>cases m<;>simp[rP]at h ⊢
 | cons k ks ih=>
  intro l m b h n;cases l with
  | nil=>simp
  | cons a l=>cases m with
   | nil=>simp[rP]at h
   | cons c m=>
    simp only[rP]at h;split at h
    case h_2=>simp at h
    rename_i p q hp hq;simp only[List.zip_cons_cons,List.all_cons,bE];refine⟨?_,ih hq n⟩;cases k<;>cases a<;>cases c<;>simp[Dt]at hp<;>cases n<;>simp[Instr.sameBits,beq_toListBytes]
theorem xJ(w:World){C:Cx}{kt:TypeId}{ks:List LK}{ag:Bool}(hs:lJ P kt ks.length=true)(ha:jw P kt ag=true)(hf:Du P 9 kt=some ks){p q:X}{u v:Value}{b:Bool}(he:eqX ks ag p q=some b)(hp:aW C p u)(hq:aW C q v) :
 (Op.equal kt u v).run P w=.ok b w/\(b=true->u=v)/\(∀em,(Instr.checkKey em 10000 kt u).run P w=.ok () w)/\Instr.sameBits 10000 u u=true/\
 (ag=false->∃d,P.underlying kt=some d/\Instr.sameNow d u v=some b):=by
 have sg:∀(z:Array Value),Seg z 0 z.toList:=fun z=>⟨by simp,fun j u hu=>by simpa using hu⟩
 unfold eqX at he;split at he
 ·rename_i l m;generalize hu:u=u' at hp;generalize hv:v=v' at hq;cases hp with
  | @agg _ us hl1 _ hr1=>
   cases hq with
   | @agg _ vs hl2 _ hr2=>
    have hw:=ZW he (us:=us.toList) (vs:=vs.toList) (by simpa using hl1) (by simpa using hl2) (by simpa using hr1) (by simpa using hr2);obtain⟨n1,n2⟩:=nH hw;obtain⟨x,y,hx,hy,heq⟩:=CB (P:=P) w 9 kt ks hf (sg us) (sg vs) hs hw;have ep:(part kt us 0).run P w=.ok (.agg us) w:=by simp only[Array.length_toList]at n1;simp[part,dV ha,bR hs,<-n1]
    have eq':(part kt vs 0).run P w=.ok (.agg vs) w:=by simp only[Array.length_toList]at n2;simp[part,dV ha,bR hs,<-n2]
    rw[ep]at hx
    rw[eq']at hy
    injection hx with hx _;injection hy with hy _;subst hx;subst hy;subst hu;subst hv;refine⟨heq 10000 (by omega),fun hb=>?_,fun em=>?_,?_,by simp⟩
    ·subst hb;have:=OB hw;rw[Array.ext' this]
    ·obtain⟨x,hx,hk⟩:=xK (P:=P) w em 9 kt ks hf (sg us) n1 hs;rw[ep]at hx
     injection hx with hx _;subst hx;exact hk 10000 (by omega)
    ·have:=EF hw 9999;simp only[Instr.sameBits,beq_self_eq_true,Bool.true_and];exact this
 ·rename_i x y;split at he
  case h_2=>simp at he
  rename_i k;obtain⟨rfl,_⟩:=gW hp;obtain⟨rfl,_⟩:=gW hq;have hw:rP [k] [u] [v]=some b:=by simp[rP,he]
  have ep:∀z,(part kt #[z] 0).run P w=.ok z w:=by intro z;simp[part,dV ha]
  obtain⟨x,y,hx,hy,heq⟩:=CB (P:=P) w 9 kt [k] hf (sg #[u]) (sg #[v]) hs hw;rw[ep]at hx
  rw[ep]at hy
  injection hx with hx _;injection hy with hy _;subst hx;subst hy;refine⟨heq 10000 (by omega),fun hb=>?_,fun em=>?_,?_,fun _=>?_⟩
  ·subst hb;exact ED he
  ·obtain⟨x,hx,hk⟩:=xK (P:=P) w em 9 kt [k] hf (sg #[u]) rfl hs;rw[ep]at hx
   injection hx with hx _;subst hx;exact hk 10000 (by omega)
  ·have:=EF hw 10000;simpa using this
  ·simp only[Du]at hf;split at hf
   ·rename_i kd hu;simp only[aR,List.cons.injEq,and_true]at hf;subst hf;cases u<;>cases v<;>simp only[Dt,reduceCtorEq]at he;exact⟨_,hu,by simpa[Instr.sameNow]using he⟩
   ·rename_i hu;simp only[aR,List.cons.injEq,and_true]at hf;subst hf;cases u<;>cases v<;>simp only[Dt,reduceCtorEq]at he;exact⟨_,hu,by simpa[Instr.sameNow,beq_toListBytes]using he⟩
   ·rename_i hu;simp only[aR,List.cons.injEq,and_true]at hf;subst hf;cases u<;>cases v<;>simp only[Dt,reduceCtorEq]at he;exact⟨_,hu,by simpa[Instr.sameNow]using he⟩
   ·rename_i hu;unfold jw at ha;rw[hu]at ha;simp at ha
   ·rename_i hu;unfold jw at ha;rw[hu]at ha;simp at ha
   ·simp at hf
 ·simp at he
theorem mX(w:World){C:Cx}{kt:TypeId}{ks:List LK}{ag:Bool}(hs:lJ P kt ks.length=true)(ha:jw P kt ag=true)(hf:Du P 9 kt=some ks){p:X}{u:Value}(he:zk ks ag p=true)(hp:aW C p u)(em:Bool) :
 (Instr.checkKey em 10000 kt u).run P w=.ok () w:=by
 have sg:∀(z:Array Value),Seg z 0 z.toList:=fun z=>⟨by simp,fun j u hu=>by simpa using hu⟩
 unfold zk at he;split at he
 ·simp only[beq_iff_eq]at he;generalize hu:u=u' at hp;cases hp with
  | @agg _ us hl1 _ hr1=>
   have n1:us.toList.length=ks.length:=by simp;omega
   obtain⟨x,hx,hk⟩:=xK (P:=P) w em 9 kt ks hf (sg us) n1 hs;have ep:(part kt us 0).run P w=.ok (.agg us) w:=by simp only[Array.length_toList]at n1;simp[part,dV ha,bR hs,<-n1]
   rw[ep]at hx
   injection hx with hx _;subst hx;subst hu;exact hk 10000 (by omega)
 ·simp only[beq_iff_eq]at he;obtain⟨rfl,_⟩:=gW hp;obtain⟨x,hx,hk⟩:=xK (P:=P) w em 9 kt ks hf (sg #[u]) (by simp[he]) hs;have ep:(part kt #[u] 0).run P w=.ok u w:=by simp[part,dV ha]
  rw[ep]at hx
  injection hx with hx _;subst hx;exact hk 10000 (by omega)
 ·simp at he
theorem mU{ks:List LK}{ag:Bool}{key:X}:∀ {es:List (X×X)} {r:Option Nat},jE ks ag key es=some r->zk ks ag key=true:=by
 intro es;induction es with
 | nil=>intro r h;simp only[jE]at h;split at h<;>simp_all
 | cons p es ih=>
  intro r h;simp only[jE]at h;have len:∀ {ks:List LK} {l m:List X} {b:Bool},Cy ks l m=some b->l.length=ks.length:=by
   intro ks;induction ks with
   | nil=>intro l m b h;cases l<;>cases m<;>simp[Cy]at h ⊢
   | cons k ks ih=>
    intro l m b h;cases l with
    | nil=>simp[Cy]at h
    | cons x l=>cases m with
     | nil=>cases x<;>simp[Cy]at h
     | cons y m=>
      cases x<;>cases y<;>simp only[Cy,reduceCtorEq]at h;split at h
      case h_2=>simp at h
      rename_i hq;simp[ih hq]
  have ok:∀ {b:Bool},eqX ks ag key p.1=some b->zk ks ag key=true:=by
   intro b hb;unfold eqX at hb;split at hb
   ·simp[zk,len hb]
   ·split at hb
    ·simp[zk]
    ·simp at hb
   ·simp at hb
  split at h
  ·exact ok (by assumption)
  ·exact ok (by assumption)
  ·simp at h
theorem EW{ks:List LK}{ag:Bool}{key:X}:∀ {es:List (X×X)} {i:Nat},jE ks ag key es=some (some i)->∃p,es[i]?=some p/\eqX ks ag key p.1=some true:=by
 intro es;induction es with
 | nil=>intro r h;simp only[jE]at h;split at h<;>simp at h
 | cons p es ih=>
  intro i h;simp only[jE]at h;split at h
  ·simp only[aR]at h;subst h;exact⟨p,rfl,by assumption⟩
  ·split at h
   ·rename_i r hr;simp only[aR]at h;cases r with
    | none=>simp at h
    | some j=>simp at h;subst h;simpa using ih hr
   ·simp at h
  ·simp at h
theorem yQ(w:World){C:Cx}{kt:TypeId}{ks:List LK}{ag:Bool}(hs:lJ P kt ks.length=true)(ha:jw P kt ag=true)(hf:Du P 9 kt=some ks){key:X}{u:Value}(hp:aW C key u) :
 ∀ {es:List (X×X)} {en:List MapEntry} {i:Nat} {r:Option Nat},es.length=en.length->(∀(j:Nat) p m,es[j]?=some p->en[j]?=some m->aW C p.1 m.key)->jE ks ag key es=some r->
 (Instr.findAsking kt u en i).run P w=.ok (r.map fun j=>(i+j,((en[j]?).map (·.val)).getD undef)) w/\
 (ag=false->∀d,P.underlying kt=some d->Instr.findNow d u en i=some (r.map fun j=>(i+j,((en[j]?).map (·.val)).getD undef))):=by
 intro es;induction es with
 | nil=>
  intro en i r hl _ h;have:en=[]:=List.eq_nil_of_length_eq_zero (by simpa using hl.symm);subst this;simp only[jE]at h;split at h
  ·simp only[aR]at h;subst h;exact⟨by simp[Instr.findAsking],fun _ d _=>by simp[Instr.findNow]⟩
  ·simp at h
 | cons p es ih=>
  intro en i r hl hr h;cases en with
  | nil=>simp at hl
  | cons m en=>
   simp only[jE]at h;have hpm:=hr 0 p m rfl rfl;split at h
   ·rename_i he;obtain⟨h1,_,_,_,h5⟩:=xJ w hs ha hf he hp hpm;simp only[aR]at h;subst h;refine⟨by simp[Instr.findAsking,h1],fun hag d hd=>?_⟩;obtain⟨d',hd',hn⟩:=h5 hag;rw[hd]at hd'
    injection hd' with hd';subst hd';simp[Instr.findNow,hn]
   ·rename_i he;obtain⟨h1,_,_,_,h5⟩:=xJ w hs ha hf he hp hpm;split at h
    case h_2=>simp at h
    rename_i r' hr';simp only[aR]at h;subst h;obtain⟨i1,i2⟩:=ih (en:=en) (i:=i+1) (by simpa using hl) (fun j p m hj hm=>hr (j+1) p m (by simpa using hj) (by simpa using hm)) hr';refine⟨?_,fun hag d hd=>?_⟩
    ·simp only[Instr.findAsking,Sem.run_bind,h1,Result.andThen_ok,jI,if_false,i1,Option.map_map];congr 2;funext j;simp[Nat.add_assoc,Nat.add_comm 1 j]
    ·obtain⟨d',hd',hn⟩:=h5 hag;have hd2:=hd;rw[hd]at hd'
     injection hd' with hd';subst hd';simp only[Instr.findNow,hn,i2 hag d hd2,Option.map_map];congr 2;funext j;simp[Nat.add_assoc,Nat.add_comm 1 j]
   ·simp at h
theorem j_(w:World){C:Cx}{kt:TypeId}{ks:List LK}{ag:Bool}(hs:lJ P kt ks.length=true)(ha:jw P kt ag=true)(hf:Du P 9 kt=some ks){key:X}{u:Value}(hp:aW C key u)
 {es:List (X×X)} {en:Array MapEntry} {r:Option Nat} (hl:es.length=en.size) (hr:∀(j:Nat) p m,es[j]?=some p->en[j]?=some m->aW C p.1 m.key) (h:jE ks ag key es=some r) :
 (Instr.findKey kt u en.toList).run P w=.ok (r.map fun j=>(j,((en[j]?).map (·.val)).getD undef)) w:=by
 obtain⟨h1,h2⟩:=yQ (P:=P) w hs ha hf hp (en:=en.toList) (i:=0) (by simpa using hl) (by simpa using hr) h;simp only[Nat.zero_add,Array.getElem?_toList]at h1 h2;cases ag with
 | true=>
  rw[run_findKey_eq]
  ·exact h1
  ·unfold jw at ha;split at ha
   ·rename_i hu;rw[hu]
   ·rename_i hu;rw[hu]
   ·simp at ha
   ·simp at ha
 | false=>
  have hu:∃d,P.underlying kt=some d:=by
   unfold jw at ha;split at ha
   ·rename_i hu;exact⟨_,hu⟩
   ·rename_i hu;exact⟨_,hu⟩
   ·rename_i hu;exact⟨_,hu⟩
   ·simp at ha
  obtain⟨d,hu⟩:=hu;simp[Instr.findKey,run_underlying hu,h2 rfl d hu]
section
variable {w0:Bs} {sh:Nat->Prop} {nt:Nat} {μ:Nat->Nat} {fr:Nat->Prop} {e:Env} {s:ay} {a:Act} {w:World}
theorem pO(h:Inv w0 sh nt μ fr e s a w){x:X}{o:Nat}{es:List (X×X)}(hm:Dv s x=some (o,es)){v:Value}(hx:aW (aQ μ s w sh fr) x v) :
 v=.map (some (μ o))/\(s o).o=some (.map es)/\(s o).wr=true/\∃en,w.heap[μ o]?=some (.map en es.length)/\en.size=es.length/\
  ∀(i:Nat) p m,es[i]?=some p->en[i]?=some m->p.1.eG=true/\p.2.eG=true/\aW (aQ μ s w sh fr) p.1 m.key/\aW (aQ μ s w sh fr) p.2 m.val/\m.born=i:=by
 unfold Dv at hm;split at hm
 case h_2=>simp at hm
 rename_i o' g;split at hm
 case h_2=>simp at hm
 rename_i es' ho;split at hm
 case isFalse=>simp at hm
 rename_i hg;simp only[aR,bq]at hm;obtain⟨rfl,rfl⟩:=hm;cases hx with
 | mp h1 h2 h3 h4=>
  obtain⟨hob,_⟩:=h.obj _ _ ho;exact⟨h3 hg.1.symm,ho,hg.2,hob⟩
theorem Inv.zU(h:Inv w0 sh nt μ fr e s a w){o:Nat}{es es':List (X×X)}(ho:(s o).o=some (.map es))(hwr:(s o).wr=true){en:Array MapEntry}{c:Nat}(hh:w.heap[μ o]?=some (.map en c))(ob:Obj)
 (hob:∀C',(aQ μ s w sh fr).Le C'->C'.w={w with heap:=w.heap.setIfInBounds (μ o) ob}->Dr C' (.map es') (μ o)) :
 Inv w0 sh nt μ fr e (bK s o (.map es')) a {w with heap:=w.heap.setIfInBounds (μ o) ob}:=by
 have hge:=(h.obj o _ ho).2.1;have hlt:=bV hh;have hold:∀k,k≠μ o->(w.heap.setIfInBounds (μ o) ob)[k]?=w.heap[k]?:=fun k hk=>Array.getElem?_setIfInBounds_ne (Ne.symm hk);have:=(h.change o (μ o) (s o).g ((s o).n+1) (.map es') {w with heap:=w.heap.setIfInBounds (μ o) ob} (Nat.le_refl _) (fun _=>rfl) ⟨rfl,rfl,rfl,by simp,fun k hk=>hold k (by omega)⟩ (fun k _ hk=>hold k hk)
  (.inr ⟨rfl,by simp[ho],hwr,fun cs t fz hcs=>by rw[hh]at hcs;simp at hcs⟩) (fun hle=>hob _ hle rfl)).1
 have hu:upd μ o (μ o)=μ:=by funext n;unfold upd;split<;>simp_all
 rw[hu]at this
 exact this
theorem vG{t:TypeId}{ks:List LK}{ag:Bool}(h:EU P t ks ag=true):∃kt et,P.underlying t=some (.map kt et)/\lJ P kt ks.length=true/\jw P kt ag=true/\Du P 9 kt=some ks:=by
 unfold EU at h;split at h
 ·rename_i kt et hu;simp only[bE,decide_eq_true_eq]at h;exact⟨kt,et,hu,h.1.1,h.1.2,h.2⟩
 ·simp at h
theorem Zg(h:Inv w0 sh nt μ fr e s a w){o:Oper}{t:TypeId}{m k:Operand}{ok ag:Bool}{ks:List LK}{rm rk:Ar}{z:X}(hop:o.op=.lookup t m k ok)(hB:EU P t ks ag=true)(hZ:Mv P t z=true)(hm:dA m rm=true)(hk:dA k rk=true)
 {x:X} {s':ay} (hs:aA (.G5 ks ag rm rk z ok) e s=some (x,s')):s'=s/\fT P w0 sh nt μ fr e s a w o x:=by
 obtain⟨kt,et,hu,h1,h2,h3⟩:=vG hB;simp only[Mv,hu]at hZ;simp only[aA]at hs;split at hs
 case h_2=>simp at hs
 rename_i q es hmp;split at hs
 case h_2=>simp at hs
 rename_i r hr;split at hs
 case h_2=>simp at hs
 rename_i v hv;simp only[aR,bq]at hs;obtain⟨rfl,rfl⟩:=hs;obtain⟨e1,e2,e3,en,e4,e5,e6⟩:=pO h hmp (aD h.env hm);have hkr:=aD h.env hk;have hfk:=j_ (P:=P) w h1 h2 h3 hkr (en:=en) e5.symm (fun j p m hj hm=>(e6 j p m hj hm).2.2.1) hr;have hck:=mX (P:=P) w h1 h2 h3 (mU hr) hkr;obtain⟨zv,hz1,hz2⟩:=kU hZ w;have hval:∃u,aW (aQ μ s w sh fr) v u/\(r=none->u=zv)/\∀i,r=some i->((en[i]?).map fun m:MapEntry=>m.val).getD undef=u:=by
  cases r with
  | none=>
   simp only[aR]at hv;subst hv;exact⟨zv,nS hz2 _,fun _=>rfl,by simp⟩
  | some i=>
   simp only[Option.map_eq_some_iff]at hv;obtain⟨p,hp,rfl⟩:=hv;have hi:i<en.size:=by have:=(List.getElem?_eq_some_iff.1 hp).1;omega
   have hm:=Array.getElem?_eq_getElem hi;exact⟨en[i].val,(e6 i p _ hp hm).2.2.2.1,by simp,fun j hj=>by injection hj with hj;subst hj;simp[hm]⟩
 obtain⟨u,hu1,hu2,hu3⟩:=hval;refine⟨rfl,aK h (v:=if ok then .tuple #[u,.bool r.isSome]else u) ?_ ?_⟩
 ·have hgo:(getObj (μ q)).run P w=.ok (.map en es.length) w:=by simp[getObj,Sem.run,e4]
  simp only[execOp,hop,e1,Sem.run_bind,Instr.lookup,run_underlying hu,Result.andThen_ok,hgo,Sem.run_pure,hck,hfk];cases r with
  | none=>rw[hu2 rfl];simp[hz1]
  | some i=>rw[<-hu3 i rfl];simp
 ·cases ok
  ·exact hu1
  ·refine .bU rfl ?_;intro j c v' hj hv'
   match j with
   | 0=>simp at hj hv';subst hj;subst hv';exact hu1
   | 1=>simp at hj hv';subst hj;subst hv';exact .v rfl
   | j+2=>simp at hj
theorem Zd(h:Inv w0 sh nt μ fr e s a w){o:Oper}{t:TypeId}{hi:Option Operand}{n:Nat}{ha:Option Ar}(hop:o.op=.makeMap t hi)(hok:mY P (.makeMap t hi) (.GZ n ha)=true)
 {x:X} {s':ay} (hs:aA (.GZ n ha) e s=some (x,s')):Out P w0 sh nt e a w o x s':=by
 simp only[aA]at hs;split at hs
 case isFalse=>simp at hs
 rename_i hcond;simp only[aR,bq]at hs;obtain⟨rfl,rfl⟩:=hs;have hI:Inv w0 sh nt (upd μ n w.heap.size) fr e (aO s n (.map [])) a (w.alloc (.map #[] 0)):=by
  refine(h.change n w.heap.size ((s n).g+1) ((s n).n+1) (.map []) (w.alloc (.map #[] 0)) (by omega) (by omega) ?_ ?_ (.inl (Nat.le_refl _)) (fun hle=>?_)).1
  ·exact(Below.refl _ _).alloc h.below.size _
  ·intro k hk _;exact heap_alloc_old w _ k hk
  ·exact⟨#[],heap_alloc_new w _,rfl,by simp⟩
 have hrun:(execOp a.eval o).run P w=.ok (.value (.map (some w.heap.size))) (w.alloc (.map #[] 0)):=by
  cases hi with
  | none=>simp[execOp,hop,Instr.makeMap]
  | some y=>
   cases ha with
   | none=>simp[mY]at hok
   | some r=>
    simp only[mY,bE]at hok;have hu:∃k e,P.underlying t=some (.map k e):=by
     have:=hok.2;split at this
     ·rename_i k e hu;exact⟨k,e,hu⟩
     ·simp at this
    obtain⟨k,e',hu⟩:=hu;obtain⟨i,hi⟩:=Option.isSome_iff_exists.1 (show(uT (r.ev e)).isSome=true from hcond);obtain⟨q,hq⟩:=jV (aD h.env hok.1) hi;simp[execOp,hop,Instr.makeMap,run_underlying hu,hq,asInt,asIntOf]
 refine⟨_,_,_,_,_,hrun,.inl rfl,hI,?_⟩;exact .mp (by omega) (by simp[aQ,aO,upd_same]) (fun _=>by simp[aQ,upd_same]) rfl
theorem map_push{C:Cx}{es:List (X×X)}{en:Array MapEntry}(e5:en.size=es.length)(e6:∀(i:Nat) p m,es[i]?=some p->en[i]?=some m->p.1.eG=true/\p.2.eG=true/\aW C p.1 m.key/\aW C p.2 m.val/\m.born=i)
 {k v:X} {u z:Value} (hk:k.eG=true) (hv:v.eG=true) (hku:aW C k u) (hvz:aW C v z) :
 ∀(i:Nat) p m,(es++[(k,v)])[i]?=some p->(en.push ⟨u,z,es.length⟩)[i]?=some m->p.1.eG=true/\p.2.eG=true/\aW C p.1 m.key/\aW C p.2 m.val/\m.born=i:=by
 intro i p m hp hm;by_cases hi:i<es.length
 ·rw[List.getElem?_append_left hi]at hp
  rw[Array.getElem?_push,if_neg (by omega)]at hm
  exact e6 i p m hp hm
 ·by_cases he:i=es.length
  ·subst he;rw[Array.getElem?_push,if_pos e5.symm]at hm
   simp at hp hm;subst hp;subst hm;exact⟨hk,hv,hku,hvz,rfl⟩
  ·rw[List.getElem?_append_right (by omega)]at hp
   have:i-es.length=(i-es.length-1)+1:=by omega
   rw[this]at hp
   simp at hp
theorem map_set{C:Cx}{es:List (X×X)}{en:Array MapEntry}(e6:∀(i:Nat) p m,es[i]?=some p->en[i]?=some m->p.1.eG=true/\p.2.eG=true/\aW C p.1 m.key/\aW C p.2 m.val/\m.born=i)
 {j:Nat} {v:X} {u z:Value} (hv:v.eG=true) (hvz:aW C v z) (f:MapEntry->MapEntry) (hf:∀m,en[j]?=some m->(f m).key=m.key/\(f m).val=z/\(f m).born=m.born) :
 ∀(i:Nat) p m,(vP es j v)[i]?=some p->(en.modify j f)[i]?=some m->p.1.eG=true/\p.2.eG=true/\aW C p.1 m.key/\aW C p.2 m.val/\m.born=i:=by
 intro i p m hp hm;unfold vP at hp;rw[List.getElem?_modify]at hp
 rw[Array.getElem?_modify]at hm
 by_cases hj:j=i
 ·subst hj;simp only[if_true]at hp hm;cases hes:es[j]? with
  | none=>simp[hes]at hp
  | some p0=>cases hen:en[j]? with
   | none=>simp[hen]at hm
   | some m0=>
    simp only[hes,hen,Option.map_some,Option.map_eq_map,aR]at hp hm;subst hp;subst hm;obtain⟨a1,a2,a3,a4,a5⟩:=e6 j p0 m0 hes hen;obtain⟨b1,b2,b3⟩:=hf m0 hen;exact⟨a1,hv,b1▸a3,b2▸hvz,b3.trans a5⟩
 ·simp only[hj,if_false]at hp hm;cases hes:es[i]? with
  | none=>simp[hes]at hp
  | some p0=>cases hen:en[i]? with
   | none=>simp[hen]at hm
   | some m0=>
    simp[hes,hen]at hp hm
    subst hp;subst hm;exact e6 i p0 m0 hes hen
theorem find_born{es:List (X×X)}{en:Array MapEntry}(e5:en.size=es.length)(hb:∀(i:Nat) m,en[i]?=some m->m.born=i){i:Nat}(hi:i<en.size)(z:Int)(hz:z=i):en.findIdx? (fun e=>(e.born:Int)==z)=some i:=by
 subst hz;rw[Array.findIdx?_eq_some_iff_getElem];refine⟨hi,?_,fun j hj=>?_⟩
 ·have:=hb i _ (Array.getElem?_eq_getElem hi);simp[this]
 ·have:=hb j _ (Array.getElem?_eq_getElem (show j<en.size by omega));simp[this];omega
theorem zW(w:World){b:Nat}{en:Array MapEntry}{c:Nat}(hb:w.heap[b]?=some (.map en c))(o:Obj):(setObj b o).run P w=.ok () {w with heap:=w.heap.setIfInBounds b o}:=by simp[setObj,Sem.run,hb]
theorem zV(w:World){b:Nat}{o:Obj}{ob:Obj}(hb:w.heap[b]?=some o):({w with heap:=w.heap.setIfInBounds b ob}:World).heap[b]?=some ob:=by have:=bV hb;simp[this]
theorem Zi(h:Inv w0 sh nt μ fr e s a w){o:Oper}{t:TypeId}{m st v:Operand}{rm rs rv:Ar}(hop:o.op=.entryStore t m st v)(hm:dA m rm=true)(hst:dA st rs=true)(hv:dA v rv=true)
 {x:X} {s':ay} (hs:aA (.Pb rm rs rv) e s=some (x,s')):Out P w0 sh nt e a w o x s':=by
 simp only[aA]at hs;split at hs
 case h_2=>simp at hs
 rename_i q es i hmp hi;split at hs
 case isFalse=>simp at hs
 rename_i hcond;obtain⟨hi0,hi1,hsc⟩:=hcond;simp only[aR,bq]at hs;obtain⟨rfl,rfl⟩:=hs;obtain⟨e1,e2,e3,en,e4,e5,e6⟩:=pO h hmp (aD h.env hm);obtain⟨ki,hsi⟩:=jV (aD h.env hst) hi;have hvr:=aD h.env hv;have hgo:(getObj (μ q)).run P w=.ok (.map en es.length) w:=by simp[getObj,Sem.run,e4]
 have hfi:=find_born e5 (fun i m hm=>by
  have hlt:i<es.length:=by have:=(Array.getElem?_eq_some_iff.1 hm).1;omega
  exact(e6 i _ m (List.getElem?_eq_getElem hlt) hm).2.2.2.2) (i:=i.toNat) (by omega) i (by omega)
 have hI:=h.zU e2 e3 e4 (es':=vP es i.toNat (rv.ev e)) (.map (en.modify i.toNat fun m=>{m with val:=a.eval v}) es.length) (by
  intro C' hle hw;refine⟨en.modify i.toNat fun m=>{m with val:=a.eval v},?_,?_,?_⟩
  ·rw[hw,zV w e4];simp[vP]
  ·simp[vP,e5]
  ·exact map_set (fun i p m hp hm=>by obtain⟨a1,a2,a3,a4,a5⟩:=e6 i p m hp hm;exact⟨a1,a2,a3.mono hle,a4.mono hle,a5⟩) hsc (hvr.mono hle) (u:=undef) _ (fun m _=>⟨rfl,rfl,rfl⟩))
 refine⟨.skip,undef,_,_,_,?_,.inr ⟨rfl,rfl⟩,hI,.junk⟩;simp[execOp,hop,e1,hsi,Instr.entryStore,hgo,asInt,asIntOf,hfi,zW w e4]
theorem Zb(h:Inv w0 sh nt μ fr e s a w){o:Oper}{t:TypeId}{m k:Operand}{ag:Bool}{ks:List LK}{rm rk:Ar}{z:X}(hop:o.op=.mapEntry t m k)(hB:EU P t ks ag=true)(hZ:Mv P t z=true)(hm:dA m rm=true)(hk:dA k rk=true)
 {x:X} {s':ay} (hs:aA (.O9 ks ag rm rk z) e s=some (x,s')):Out P w0 sh nt e a w o x s':=by
 obtain⟨kt,et,hu,h1,h2,h3⟩:=vG hB;simp only[Mv,hu]at hZ;simp only[aA]at hs;split at hs
 case h_2=>simp at hs
 rename_i q es hmp;obtain⟨e1,e2,e3,en,e4,e5,e6⟩:=pO h hmp (aD h.env hm);have hkr:=aD h.env hk;have hgo:(getObj (μ q)).run P w=.ok (.map en es.length) w:=by simp[getObj,Sem.run,e4]
 obtain⟨zv,hz1,hz2⟩:=kU hZ w;split at hs
 ·rename_i i hr;split at hs
  case h_2=>simp at hs
  rename_i p hp;simp only[aR,bq]at hs;obtain⟨rfl,rfl⟩:=hs;have hfk:=j_ (P:=P) w h1 h2 h3 hkr (en:=en) e5.symm (fun j p m hj hm=>(e6 j p m hj hm).2.2.1) hr;have hck:=mX (P:=P) w h1 h2 h3 (mU hr) hkr;have hi:i<en.size:=by have:=(List.getElem?_eq_some_iff.1 hp).1;omega
  have hme:=Array.getElem?_eq_getElem hi;obtain⟨a1,a2,a3,a4,a5⟩:=e6 i p _ hp hme;obtain⟨p',hp',heq⟩:=EW hr;rw[hp]at hp'
  injection hp' with hp';subst hp';obtain⟨_,hsame,_,hbits,_⟩:=xJ (P:=P) w h1 h2 h3 heq hkr a3;have hsame:=hsame rfl;have hI:=h.zU e2 e3 e4 (es':=es) (.map (en.modify i fun m=>{m with key:=a.eval k}) es.length) (by
   intro C' hle hw;refine⟨en.modify i fun m=>{m with key:=a.eval k},?_,by simp[e5],?_⟩
   ·rw[hw,zV w e4]
   ·intro j p m hj hm;rw[Array.getElem?_modify]at hm
    split at hm
    ·rename_i hij;subst hij;rw[hme]at hm
     simp only[Option.map_some,aR]at hm;subst hm;obtain⟨b1,b2,b3,b4,b5⟩:=e6 i p _ hj hme;exact⟨b1,b2,by simpa[hsame]using b3.mono hle,b4.mono hle,b5⟩
    ·obtain⟨b1,b2,b3,b4,b5⟩:=e6 j p m hj hm;exact⟨b1,b2,b3.mono hle,b4.mono hle,b5⟩)
  refine⟨_,.tuple #[en[i].val,.int .i64 i],_,_,_,?_,.inl rfl,hI,.bU rfl ?_⟩
  ·simp[execOp,hop,e1,Instr.mapEntry,run_underlying hu,hgo,hck,hfk,Instr.keyThatStays,hme,<-hsame,hbits,zW w e4,a5,goInt]
  ·intro j c v' hj hv'
   match j with
   | 0=>simp at hj hv';subst hj;subst hv';exact a4.eG a2
   | 1=>simp at hj hv';subst hj;subst hv';exact .v rfl
   | j+2=>simp at hj
 ·rename_i hr;split at hs
  case isFalse=>simp at hs
  rename_i hcond;simp only[aR,bq]at hs;obtain⟨rfl,rfl⟩:=hs;have hfk:=j_ (P:=P) w h1 h2 h3 hkr (en:=en) e5.symm (fun j p m hj hm=>(e6 j p m hj hm).2.2.1) hr;have hck:=mX (P:=P) w h1 h2 h3 (mU hr) hkr;have hI:=h.zU e2 e3 e4 (es':=es++[(rk.ev e,z)]) (.map (en.push ⟨a.eval k,zv,es.length⟩) (es.length+1)) (by
   intro C' hle hw;refine⟨en.push ⟨a.eval k,zv,es.length⟩,?_,by simp[e5],?_⟩
   ·rw[hw,zV w e4];simp
   ·exact map_push e5 (fun i p m hp hm=>by obtain⟨a1,a2,a3,a4,a5⟩:=e6 i p m hp hm;exact⟨a1,a2,a3.mono hle,a4.mono hle,a5⟩) hcond.1 hcond.2 (hkr.mono hle) (nS hz2 _))
  refine⟨_,.tuple #[zv,.int .i64 es.length],_,_,_,?_,.inl rfl,hI,.bU rfl ?_⟩
  ·simp[execOp,hop,e1,Instr.mapEntry,run_underlying hu,hgo,hck,hfk,hz1,zW w e4,goInt]
  ·intro j c v' hj hv'
   match j with
   | 0=>simp at hj hv';subst hj;subst hv';exact nS hz2 _
   | 1=>simp at hj hv';subst hj;subst hv';exact .v rfl
   | j+2=>simp at hj
 ·simp at hs
theorem Zj(h:Inv w0 sh nt μ fr e s a w){o:Oper}{t:TypeId}{m k v:Operand}{ag:Bool}{ks:List LK}{rm rk rv:Ar}(hop:o.op=.mapUpdate t m k v)(hB:EU P t ks ag=true)(hm:dA m rm=true)(hk:dA k rk=true)(hv:dA v rv=true)
 {x:X} {s':ay} (hs:aA (.NN ks ag rm rk rv) e s=some (x,s')):Out P w0 sh nt e a w o x s':=by
 obtain⟨kt,et,hu,h1,h2,h3⟩:=vG hB;simp only[aA]at hs;split at hs
 case h_2=>simp at hs
 rename_i q es hmp;split at hs
 case isFalse=>simp at hs
 rename_i hcond;obtain⟨e1,e2,e3,en,e4,e5,e6⟩:=pO h hmp (aD h.env hm);have hkr:=aD h.env hk;have hvr:=aD h.env hv;have hgo:(getObj (μ q)).run P w=.ok (.map en es.length) w:=by simp[getObj,Sem.run,e4]
 split at hs
 ·rename_i i hr;simp only[aR,bq]at hs;obtain⟨rfl,rfl⟩:=hs;have hfk:=j_ (P:=P) w h1 h2 h3 hkr (en:=en) e5.symm (fun j p m hj hm=>(e6 j p m hj hm).2.2.1) hr;have hck:=mX (P:=P) w h1 h2 h3 (mU hr) hkr;obtain⟨p,hp,heq⟩:=EW hr;have hi:i<en.size:=by have:=(List.getElem?_eq_some_iff.1 hp).1;omega
  have hme:=Array.getElem?_eq_getElem hi;obtain⟨a1,a2,a3,a4,a5⟩:=e6 i p _ hp hme;obtain⟨_,hsame,_,hbits,_⟩:=xJ (P:=P) w h1 h2 h3 heq hkr a3;have hsame:=hsame rfl;have hI:=h.zU e2 e3 e4 (es':=vP es i (rv.ev e)) (.map (en.modify i fun m=>{m with key:=a.eval k,val:=a.eval v}) es.length) (by
   intro C' hle hw;refine⟨en.modify i fun m=>{m with key:=a.eval k,val:=a.eval v},?_,by simp[vP,e5],?_⟩
   ·rw[hw,zV w e4];simp[vP]
   ·exact map_set (fun i p m hp hm=>by obtain⟨a1,a2,a3,a4,a5⟩:=e6 i p m hp hm;exact⟨a1,a2,a3.mono hle,a4.mono hle,a5⟩) hcond.2 (hvr.mono hle) (u:=undef) _ (fun m hm=>by rw[hme]at hm;injection hm with hm;subst hm;exact⟨hsame,rfl,rfl⟩))
  refine⟨.skip,undef,_,_,_,?_,.inr ⟨rfl,rfl⟩,hI,.junk⟩;simp[execOp,hop,e1,Instr.mapUpdate,run_underlying hu,hgo,hck,hfk,Instr.keyThatStays,hme,<-hsame,hbits,zW w e4]
 ·rename_i hr;simp only[aR,bq]at hs;obtain⟨rfl,rfl⟩:=hs;have hfk:=j_ (P:=P) w h1 h2 h3 hkr (en:=en) e5.symm (fun j p m hj hm=>(e6 j p m hj hm).2.2.1) hr;have hck:=mX (P:=P) w h1 h2 h3 (mU hr) hkr;have hI:=h.zU e2 e3 e4 (es':=es++[(rk.ev e,rv.ev e)]) (.map (en.push ⟨a.eval k,a.eval v,es.length⟩) (es.length+1)) (by
   intro C' hle hw;refine⟨en.push ⟨a.eval k,a.eval v,es.length⟩,?_,by simp[e5],?_⟩
   ·rw[hw,zV w e4];simp
   ·exact map_push e5 (fun i p m hp hm=>by obtain⟨a1,a2,a3,a4,a5⟩:=e6 i p m hp hm;exact⟨a1,a2,a3.mono hle,a4.mono hle,a5⟩) hcond.1 hcond.2 (hkr.mono hle) (hvr.mono hle))
  refine⟨.skip,undef,_,_,_,?_,.inr ⟨rfl,rfl⟩,hI,.junk⟩;simp[execOp,hop,e1,Instr.mapUpdate,run_underlying hu,hgo,hck,hfk,zW w e4]
 ·simp at hs
theorem Zh(h:Inv w0 sh nt μ fr e s a w){o:Oper}{c:Call}{rm:Ar}(hop:o.op=.call c)(hok:mY P (.call c) (.Mx rm)=true)
 {x:X} {s':ay} (hs:aA (.Mx rm) e s=some (x,s')):s'=s/\fT P w0 sh nt μ fr e s a w o x:=by
 simp only[aA]at hs;split at hs
 case h_2=>simp at hs
 rename_i q es hmp;simp only[aR,bq]at hs;obtain⟨rfl,rfl⟩:=hs;simp only[mY,bE]at hok;obtain⟨⟨hb,ht⟩,hl⟩:=hok;have hc:c.callee=.builtin .len:=by revert hb;cases c.callee<;>simp;rename_i b;cases b<;>simp
 split at ht
 case h_2=>simp at ht
 rename_i t htt;have hu:∃k e,P.underlying t=some (.map k e):=by
  split at ht
  ·rename_i k e hu;exact⟨k,e,hu⟩
  ·simp at ht
 obtain⟨k,e',hu⟩:=hu;obtain⟨h1,h2⟩:=fQ h.env hl;obtain⟨y,hy⟩:=CV h1;obtain⟨e1,e2,e3,en,e4,e5,e6⟩:=pO h hmp (h2 0 rm y rfl (by simp[hy]));have hgo:(getObj (μ q)).run P w=.ok (.map en es.length) w:=by simp[getObj,Sem.run,e4]
 exact⟨rfl,aK h (v:=.int .i64 es.length) (by simp[execOp,hop,resolve,hc,hy,invoke,builtin,e1,Builtin.len_,htt,run_underlying hu,hgo,goInt,e5]) (.v rfl)⟩
theorem Y3(h:Inv w0 sh nt μ fr e s a w){o:Oper}{t yt:TypeId}{ps rs:Array TypeId}{va:Bool}{x y:Operand}{r:Ar}{neg:Bool}(hop:o.op=.binOp (if neg then .neq else .eql) t x y yt)(hy:a.eval y=.nilFunc)(hx:dA x r=true)(ht:P.underlying t=some (.func ps rs va))
 {z:X} {s':ay} (hs:aA (.Sb neg r) e s=some (z,s')):s'=s/\fT P w0 sh nt μ fr e s a w o z:=by
 have hr:=aD h.env hx;have fin:∀(v:Value) (b:Bool),a.eval x=v->(∀d,(Op.equalIn (d+1) t v .nilFunc).run P w=.ok b w)->(∀op,(eqGuard op t x y v .nilFunc).run P w=.ok () w)->(∀op,op=.eql\/op=.neq->(binOp op t v .nilFunc).run P w=(do
  let r <-Op.equal t v .nilFunc
  pure (.bool (if op=.neq then !r else r)):Sem Value).run P w)->fT P w0 sh nt μ fr e s a w o (.v (.bool (if neg then !b else b))):=by
  intro v b hv heq hg hb;have heq:=heq 9999;have e1:(binOp .eql t v .nilFunc).run P w=.ok (.bool b) w:=by rw[hb _ (.inl rfl)];simp only[Op.equal,Op.maxDepth,Sem.run_bind,heq,Result.andThen_ok,Sem.run_pure];rfl
  have e2:(binOp .neq t v .nilFunc).run P w=.ok (.bool !b) w:=by rw[hb _ (.inr rfl)];simp only[Op.equal,Op.maxDepth,Sem.run_bind,heq,Result.andThen_ok,Sem.run_pure];rfl
  cases neg
  ·refine aK h (v:=.bool b) ?_ (.v rfl);simp[execOp,hop,hv,hy,hg,e1]
  ·refine aK h (v:=.bool !b) ?_ (.v rfl);simp[execOp,hop,hv,hy,hg,e2]
 simp only[aA]at hs;split at hs
 ·rename_i f q hx';simp only[aR,bq]at hs;obtain⟨rfl,rfl⟩:=hs;rw[hx']at hr
  generalize hv:a.eval x=v at hr;cases hr with
  | fn=>
   refine⟨rfl,?_⟩;have:=fin _ false hv (fun d=>by simp[Op.equalIn,run_underlying ht]) (fun op=>by cases op<;>simp[eqGuard,run_program]) (fun op ho=>by rcases ho with rfl|rfl<;>simp[binOp])
   cases neg<;>simpa using this
 ·rename_i f q hx';simp only[aR,bq]at hs;obtain⟨rfl,rfl⟩:=hs;rw[hx']at hr
  generalize hv:a.eval x=v at hr;cases hr with
  | fm=>
   refine⟨rfl,?_⟩;have:=fin _ false hv (fun d=>by simp[Op.equalIn,run_underlying ht]) (fun op=>by cases op<;>simp[eqGuard,run_program]) (fun op ho=>by rcases ho with rfl|rfl<;>simp[binOp])
   cases neg<;>simpa using this
 ·rename_i hx';simp only[aR,bq]at hs;obtain⟨rfl,rfl⟩:=hs;rw[hx']at hr
  have hv:=(gW hr).1;refine⟨rfl,?_⟩;have:=fin _ true hv (fun d=>by simp[Op.equalIn,run_underlying ht]) (fun op=>by cases op<;>simp[eqGuard,run_program]) (fun op ho=>by rcases ho with rfl|rfl<;>simp[binOp])
  cases neg<;>simpa using this
 ·simp at hs
theorem Y4(h:Inv w0 sh nt μ fr e s a w){o:Oper}{t el yt:TypeId}{x y:Operand}{r:Ar}{neg:Bool}(hop:o.op=.binOp (if neg then .neq else .eql) t x y yt)(hy:a.eval y=.slice none 0 0)(hx:dA x r=true)(ht:P.underlying t=some (.slice el))
 {z:X} {s':ay} (hs:aA (.Sc neg r) e s=some (z,s')):s'=s/\fT P w0 sh nt μ fr e s a w o z:=by
 have hr:=aD h.env hx;have fin:∀(ad:Option Addr) n c,a.eval x=.slice ad n c->fT P w0 sh nt μ fr e s a w o (.v (.bool (if neg then !ad.isNone else ad.isNone))):=by
  intro ad n c hv;have heq':∀d,(Op.equalIn (d+1) t (.slice ad n c) (.slice none 0 0)).run P w=.ok ad.isNone w:=by intro d;cases ad<;>simp[Op.equalIn,run_underlying ht]
  have heq:=heq' 9999;have hg:∀op,(eqGuard op t x y (.slice ad n c) (.slice none 0 0)).run P w=.ok () w:=by intro op;cases op<;>simp[eqGuard,run_program]
  have e1:(binOp .eql t (.slice ad n c) (.slice none 0 0)).run P w=.ok (.bool ad.isNone) w:=by simp only[binOp];simp only[Op.equal,Op.maxDepth,Sem.run_bind,heq,Result.andThen_ok,Sem.run_pure]
  have e2:(binOp .neq t (.slice ad n c) (.slice none 0 0)).run P w=.ok (.bool !ad.isNone) w:=by simp only[binOp];simp only[Op.equal,Op.maxDepth,Sem.run_bind,heq,Result.andThen_ok,Sem.run_pure]
  cases neg
  ·refine aK h (v:=.bool ad.isNone) ?_ (.v rfl);simp[execOp,hop,hv,hy,hg,e1]
  ·refine aK h (v:=.bool !ad.isNone) ?_ (.v rfl);simp[execOp,hop,hv,hy,hg,e2]
 simp only[aA]at hs;split at hs
 ·rename_i f q es hx';simp only[aR,bq]at hs;obtain⟨rfl,rfl⟩:=hs;rw[hx']at hr
  generalize hv:a.eval x=v at hr;cases hr with
  | sl=>refine⟨rfl,?_⟩;have:=fin _ _ _ hv;cases neg<;>simpa using this
 ·rename_i q g k i n hx';split at hs
  case isFalse=>simp at hs
  rename_i hg;simp only[aR,bq]at hs;obtain⟨rfl,rfl⟩:=hs;rw[hx']at hr
  generalize hv:a.eval x=v at hr;cases hr with
  | ref _ _ hv' _=>
   obtain⟨cap,rfl,_⟩:=hv' hg.symm;refine⟨rfl,?_⟩;have:=fin _ _ _ hv;cases neg<;>simpa using this
 ·simp at hs
end
variable {P:Program}
def gL(P:Program)(op:Op)(io:gm):Bool:=
 match io with
 | .eqs neg ks a b=>match op with
  | .binOp o t x y _=>(o==if neg then .neq else .eql)&&dA x a&&dA y b&&eqT P t ks
  | _=>false
 | .Sc neg a=>match op with
  | .binOp o t x (.const (.slice none 0 0)) _=>(o==if neg then .neq else .eql)&&dA x a&&(match P.underlying t with
   | some (.slice _)=>true
   | _=>false)
  | _=>false
 | .GZ ..|.G5 ..|.O9 ..|.Pb ..|.NN ..|.Mx ..=>mY P op io
 | .Sb neg a=>match op with
  | .binOp o t x (.const .nilFunc) _=>(o==if neg then .neq else .eql)&&dA x a&&(match P.underlying t with
   | some (.func _ _ _)=>true
   | _=>false)
  | _=>false
 | .no=>match op with
  | .defer _=>false
  | _=>true
 | _=>bO P op io
@[simp] def plainI:gm->Bool
 | .eqs ..|.Sc ..|.Sb ..|.no|.GZ ..|.G5 ..|.O9 ..|.Pb ..|.NN ..|.Mx ..=>false
 | _=>true
def dn:gm->Bool
 | .box ..|.kG ..|.ZH ..|.st ..|.Mw ..|.app ..|.NK ..|.call ..|.fG ..|.bB ..|.j6 ..|.bL ..|.fK ..|.GZ ..|.O9 ..|.Pb ..|.NN ..=>false
 | _=>true
section
variable {w0:Bs} {sh:Nat->Prop} {nt:Nat} {μ:Nat->Nat} {fr:Nat->Prop} {e:Env} {s:ay} {a:Act} {w:World}
theorem aJ{op:Op}{io:gm}(h:gL P op io=true)(hn:plainI io=true):bO P op io=true:=by cases io<;>first|exact h|(simp at hn;done)
theorem ng{x:Option X}{y:X}{s s':ay}(h:qL x s=some (y,s')):x=some y/\s'=s:=by
 unfold qL at h;split at h
 ·simp only[aR,bq]at h;obtain⟨rfl,rfl⟩:=h;exact⟨rfl,rfl⟩
 ·simp at h
set_option maxHeartbeats 1000000 in
theorem wQ(h:Inv w0 sh nt μ fr e s a w){o:Oper}{io:gm}(hok:gL P o.op io=true)(hst:dn io=true){x:X}{s':ay}(hs:aA io e s=some (x,s')) :
 s'=s/\fT P w0 sh nt μ fr e s a w o x:=by
 cases io
 case bF r=>
  have hok:=aJ hok (by simp);simp only[aA,aR,bq]at hs;obtain⟨rfl,rfl⟩:=hs;refine⟨rfl,?_⟩;cases hop:o.op<;>simp only[hop,bO,jI]at hok
  ·exact Lc h (.inl hop) hok
  ·exact Lc h (.inr hop) hok
 case pick c r1 r2=>
  have hok:=aJ hok (by simp);simp only[aA]at hs;split at hs
  case h_2=>simp at hs
  rename_i t ht;simp only[aR,bq]at hs;obtain⟨rfl,rfl⟩:=hs;refine⟨rfl,?_⟩;cases hop:o.op<;>simp only[hop,bO,jI,bE]at hok;exact RI h hop hok.1.1 hok.1.2 hok.2 ht
 case xZ r=>
  have hok:=aJ hok (by simp);simp only[aA]at hs;split at hs
  case isFalse=>simp at hs
  rename_i hd;simp only[aR,bq]at hs;obtain⟨rfl,rfl⟩:=hs;refine⟨rfl,?_⟩;cases hop:o.op<;>simp only[hop,bO,jI]at hok
  case alloc t=>
   cases r<;>simp only[jI]at hok;rename_i z;obtain⟨v,hv,hr⟩:=AY (w:=w) hok;exact FW h (t:=t) ⟨v,nS hv _,by simp[execOp,hop,hr]⟩ hd.2
  case box t y=>
   have:dA y r=true:=by cases r<;>exact hok
   exact FW h (t:=t) ⟨a.eval y,aD h.env this,by simp[execOp,hop,Js]⟩ hd.2
 case build z ps=>
  have hok:=aJ hok (by simp);simp only[aA]at hs;split at hs
  case h_2=>simp at hs
  rename_i cs hc;simp only[aR,bq]at hs;obtain⟨rfl,rfl⟩:=hs;refine⟨rfl,?_⟩;cases hop:o.op
  case build t qs=>rw[hop]at hok;exact Nt h hop hok hc
  all_goals (rw[hop]at hok;simp[bO]at hok)
 case jA k n z ps=>
  have hok:=aJ hok (by simp);simp only[aA]at hs;split at hs
  case h_2=>simp at hs
  rename_i es hc;simp only[aR,bq]at hs;obtain⟨rfl,rfl⟩:=hs;refine⟨rfl,?_⟩;cases hop:o.op
  case buildSlice t m qs=>
   rw[hop]at hok
   have hnm:m=n:=by simp only[bO,bE,beq_iff_eq]at hok;exact hok.1.1.1.1.2
   subst hnm;exact RD h hop hok hc
  all_goals (rw[hop]at hok;simp[bO]at hok)
 case ld r k ag=>
  have hok:=aJ hok (by simp);simp only[aA]at hs;obtain⟨hs2,rfl⟩:=ng hs;refine⟨rfl,?_⟩;cases hop:o.op<;>simp only[hop,bO,jI,bE]at hok;exact snd_ld h hop hok.1.1 hok.1.2 hok.2 hs2
 case Sg r=>
  have hok:=aJ hok (by simp);cases hop:o.op<;>simp only[hop,bO,jI]at hok;simp only[aA]at hs;split at hs
  ·rename_i q g j hr;split at hs
   case isFalse=>simp at hs
   rename_i hg;simp only[aR,bq]at hs;obtain⟨rfl,rfl⟩:=hs;exact⟨rfl,Dk h hop hok hr (.inl ⟨_,_,_,rfl,hg.symm⟩)⟩
  ·rename_i q g k i j hr;split at hs
   case isFalse=>simp at hs
   rename_i hg;simp only[aR,bq]at hs;obtain⟨rfl,rfl⟩:=hs;exact⟨rfl,Dk h hop hok hr (.inr (.inl ⟨_,_,_,_,_,rfl,hg.symm⟩))⟩
  ·rename_i z j hr;simp only[aR,bq]at hs;obtain⟨rfl,rfl⟩:=hs;exact⟨rfl,Dk h hop hok hr (.inr (.inr ⟨_,_,rfl⟩))⟩
  ·simp at hs
 case bin op r1 r2=>
  have hok:=aJ hok (by simp);simp only[aA]at hs;split at hs
  case h_2=>simp at hs
  rename_i u v hu hv;split at hs
  case h_2=>simp at hs
  rename_i z hz;simp only[aR,bq]at hs;obtain⟨rfl,rfl⟩:=hs;refine⟨rfl,?_⟩;cases hop:o.op
  case binOp op' t y1 y2 yt=>
   rw[hop]at hok
   have hok':((op'==op&&dA y1 r1)&&dA y2 r2)&&K7 P t=true:=by cases op'<;>simpa[bO]using hok
   simp only[bE,beq_iff_eq]at hok';obtain⟨⟨⟨rfl,h1⟩,h2⟩,h3⟩:=hok';exact YZ h hop h1 h2 (by simpa using h3) hu hv hz
  all_goals (rw[hop]at hok;simp[bO]at hok)
 case eqs neg ks r1 r2=>
  simp only[aA]at hs;split at hs
  case h_2=>simp at hs
  rename_i l m hl hm;split at hs
  case h_2=>simp at hs
  rename_i b hb;simp only[aR,bq]at hs;obtain⟨rfl,rfl⟩:=hs;refine⟨rfl,?_⟩;simp only[gL]at hok;split at hok
  case h_2=>simp at hok
  rename_i o' t y1 y2 yt hop;simp only[bE,beq_iff_eq]at hok;obtain⟨⟨⟨rfl,h1⟩,h2⟩,h3⟩:=hok;exact Y5 h hop h1 h2 h3 hl hm hb
 case no=>simp[aA]at hs
 case Sb neg r=>
  simp only[gL]at hok;split at hok
  case h_2=>simp at hok
  rename_i o' t y1 yt hop;simp only[bE,beq_iff_eq]at hok;obtain⟨⟨rfl,h1⟩,h3⟩:=hok;split at h3
  case h_2=>simp at h3
  rename_i p1 p2 p3 hel;exact Y3 h hop rfl h1 hel hs
 case Sc neg r=>
  simp only[gL]at hok;split at hok
  case h_2=>simp at hok
  rename_i o' t y1 yt hop;simp only[bE,beq_iff_eq]at hok;obtain⟨⟨rfl,h1⟩,h3⟩:=hok;split at h3
  case h_2=>simp at h3
  rename_i el hel;exact Y4 h hop rfl h1 hel hs
 case G5 ks ag rm rk z ok=>
  simp only[gL]at hok;cases hop:o.op<;>simp only[hop,mY,jI,bE,beq_iff_eq]at hok;obtain⟨⟨⟨⟨h1,h2⟩,h3⟩,h4⟩,rfl⟩:=hok;exact Zg h hop h1 h2 h3 h4 hs
 case Mx rm=>
  simp only[gL]at hok;cases hop:o.op
  case call c=>rw[hop]at hok;exact Zh h hop hok hs
  all_goals (rw[hop]at hok;simp[mY]at hok)
 case ZX neg r1 r2=>
  have hok:=aJ hok (by simp);simp only[aA]at hs;split at hs
  case h_2=>simp at hs
  rename_i u v hu hv;simp only[aR,bq]at hs;obtain⟨rfl,rfl⟩:=hs;refine⟨rfl,?_⟩;cases hop:o.op
  case binOp op' t y1 y2 yt=>
   rw[hop]at hok
   cases op'<;>cases neg<;>simp only[bO,jI,bE]at hok
   ·exact La (neg:=false) h (by simpa using hop) hok.1.1 hok.1.2 hok.2 hu hv
   ·exact La (neg:=true) h (by simpa using hop) hok.1.1 hok.1.2 hok.2 hu hv
  all_goals (rw[hop]at hok;simp[bO]at hok)
 case un op r=>
  have hok:=aJ hok (by simp);simp only[aA]at hs;split at hs
  case h_2=>simp at hs
  rename_i u hu;split at hs
  case h_2=>simp at hs
  rename_i z hz;simp only[aR,bq]at hs;obtain⟨rfl,rfl⟩:=hs;refine⟨rfl,?_⟩;cases hop:o.op<;>simp only[hop,bO,jI,bE,beq_iff_eq]at hok;obtain⟨rfl,h1⟩:=hok;exact snd_un h hop h1 hu hz
 case cvs r=>
  have hok:=aJ hok (by simp);simp only[aA]at hs;split at hs
  case h_2=>simp at hs
  rename_i b hb;simp only[aR,bq]at hs;obtain⟨rfl,rfl⟩:=hs;refine⟨rfl,?_⟩;cases hop:o.op<;>simp only[hop,bO,jI,bE]at hok;obtain⟨hd,h1⟩:=hok;split at hd
  case h_2=>simp at hd
  rename_i hd1 hd2;exact Y2 h hop hd1 hd2 h1 hb
 case conv k r=>
  have hok:=aJ hok (by simp);simp only[aA]at hs;split at hs
  case h_2=>simp at hs
  rename_i k' n hb;simp only[aR,bq]at hs;obtain⟨rfl,rfl⟩:=hs;refine⟨rfl,?_⟩;cases hop:o.op<;>simp only[hop,bO,jI,bE]at hok;obtain⟨⟨hs1,hd⟩,h1⟩:=hok;split at hd
  case h_2=>simp at hd
  rename_i k2 hd2;simp only[beq_iff_eq]at hd;subst hd;exact RF h hop (Option.isSome_iff_exists.1 hs1) hd2 h1 hb
 case fa r j=>
  have hok:=aJ hok (by simp);cases hop:o.op<;>simp only[hop,bO,jI,bE]at hok;obtain⟨hd,h1⟩:=hok;split at hd
  case h_2=>simp at hd
  rename_i fs ht;split at hd
  case h_2=>simp at hd
  rename_i f hf;simp only[bE,beq_iff_eq]at hd;obtain⟨rfl,hd⟩:=hd;split at hd
  case h_2=>simp at hd
  rename_i i hi;have hd:i.size≠0:=by simpa using hd
  simp only[aA]at hs;split at hs
  ·rename_i q g l hr;split at hs
   case isFalse=>simp at hs
   rename_i hg;simp only[aR,bq]at hs;obtain⟨rfl,rfl⟩:=hs;exact⟨rfl,I6 h hop ht hf hi hd h1 hr (.inl ⟨_,_,_,rfl,rfl,hg.symm⟩)⟩
  ·rename_i q g k i' l hr;split at hs
   case isFalse=>simp at hs
   rename_i hg;simp only[aR,bq]at hs;obtain⟨rfl,rfl⟩:=hs;exact⟨rfl,I6 h hop ht hf hi hd h1 hr (.inr (.inl ⟨_,_,_,_,_,rfl,rfl,hg.symm⟩))⟩
  ·rename_i z l hr;simp only[aR,bq]at hs;obtain⟨rfl,rfl⟩:=hs;exact⟨rfl,I6 h hop ht hf hi hd h1 hr (.inr (.inr ⟨_,_,rfl,rfl⟩))⟩
  ·simp at hs
 case JF r j k ag=>
  have hok:=aJ hok (by simp);simp only[aA]at hs;split at hs
  case h_2=>simp at hs
  rename_i cs hr;obtain⟨hs2,rfl⟩:=ng hs;refine⟨rfl,?_⟩;cases hop:o.op<;>simp only[hop,bO,jI,bE]at hok;obtain⟨hd,h1⟩:=hok;split at hd
  case h_2=>simp at hd
  rename_i fs ht;split at hd
  case h_2=>simp at hd
  rename_i f hf;simp only[bE,beq_iff_eq]at hd;obtain⟨⟨rfl,hd1⟩,hd2⟩:=hd;exact Y7 h hop ht hf hd1 hd2 h1 hr hs2
 case dK r1 r2 k=>
  have hok:=aJ hok (by simp);cases hop:o.op<;>simp only[hop,bO,jI,bE]at hok;obtain⟨⟨hd,h1⟩,h2⟩:=hok;split at hd
  case h_2=>simp at hd
  rename_i el ht;simp only[aA]at hs;split at hs
  case h_2=>simp at hs
  rename_i n hn;split at hs
  ·rename_i f es hr;split at hs
   case isFalse=>simp at hs
   rename_i hc;split at hs
   case h_2=>simp at hs
   rename_i y hy;split at hs
   case isFalse=>simp at hs
   rename_i hw;simp only[aR,bq]at hs;obtain⟨rfl,rfl⟩:=hs;exact⟨rfl,Y8 h hop ht hd h1 h2 hr hn hc.1 hc.2 hy hw⟩
  ·rename_i q g k' j m hr;split at hs
   case isFalse=>simp at hs
   rename_i hc;obtain⟨hc1,hc2,rfl,hg⟩:=hc;simp only[aR,bq]at hs;obtain⟨rfl,rfl⟩:=hs;exact⟨rfl,Y9 h hop ht hd h1 h2 hr hn hc1 hc2 hg.symm⟩
  ·simp at hs
 case Bo r1 r2 k n=>
  have hok:=aJ hok (by simp);cases hop:o.op<;>simp only[hop,bO,jI,bE]at hok;obtain⟨⟨hd,h1⟩,h2⟩:=hok;split at hd
  case h_2=>simp at hd
  rename_i m el ht;simp only[bE,beq_iff_eq]at hd;obtain⟨hd,rfl⟩:=hd;simp only[aA]at hs;split at hs
  case h_2=>simp at hs
  rename_i i hi;split at hs
  case isFalse=>simp at hs
  rename_i hc;split at hs
  ·rename_i q g j hr;split at hs
   case isFalse=>simp at hs
   rename_i hg;simp only[aR,bq]at hs;obtain⟨rfl,rfl⟩:=hs;exact⟨rfl,Lb h hop ht hd h1 h2 hi hc.1 hc.2 hr (.inl ⟨_,_,_,rfl,rfl,hg.symm⟩)⟩
  ·rename_i z j hr;simp only[aR,bq]at hs;obtain⟨rfl,rfl⟩:=hs;exact⟨rfl,Lb h hop ht hd h1 h2 hi hc.1 hc.2 hr (.inr ⟨_,_,rfl,rfl⟩)⟩
  ·simp at hs
 case F_ r1 r2=>
  have hok:=aJ hok (by simp);cases hop:o.op<;>simp only[hop,bO,jI,bE]at hok;obtain⟨⟨hd,h1⟩,h2⟩:=hok;split at hd
  case h_2=>simp at hd
  rename_i ht;simp only[aA]at hs;split at hs
  case h_2=>simp at hs
  rename_i b n hb hn;split at hs
  case h_2=>simp at hs
  rename_i c hc;simp only[aR,bq]at hs;obtain⟨rfl,rfl⟩:=hs;exact⟨rfl,Y_ h hop ht h1 h2 hb hn hc⟩
 case ixv r1 r2 k n ag=>
  have hok:=aJ hok (by simp);cases hop:o.op<;>simp only[hop,bO,jI,bE]at hok;obtain⟨⟨hd,h1⟩,h2⟩:=hok;split at hd
  case h_2=>simp at hd
  rename_i m el ht;simp only[bE,beq_iff_eq]at hd;obtain⟨⟨hd1,hd2⟩,rfl⟩:=hd;simp only[aA]at hs;split at hs
  case h_2=>simp at hs
  rename_i cs i hr hi;split at hs
  case isFalse=>simp at hs
  rename_i hc;obtain⟨hs2,rfl⟩:=ng hs;exact⟨rfl,Za h hop ht hd1 hd2 h1 h2 hr hi hc.1 hc.2 hs2⟩
 case sls r lo hi=>
  have hok:=aJ hok (by simp);simp only[aA]at hs;split at hs
  case h_2=>simp at hs
  rename_i b hb;split at hs
  case h_2=>simp at hs
  rename_i m hm;split at hs
  case h_2=>simp at hs
  rename_i l hl;simp only[aR,bq]at hs;obtain⟨rfl,rfl⟩:=hs;refine⟨rfl,?_⟩;cases hop:o.op
  case slice t x lo' hi' mx=>
   rw[hop]at hok
   cases mx
   case some=>simp[bO]at hok
   simp only[bO,bE]at hok;obtain⟨⟨⟨hd,h1⟩,h2⟩,h3⟩:=hok;split at hd
   case h_2=>simp at hd
   rename_i ht;exact Zm h hop ht h1 h2 h3 hb hm hl
  all_goals (rw[hop]at hok;simp[bO]at hok)
 case RB k r lo hi=>
  have hok:=aJ hok (by simp);cases hop:o.op
  case slice t x' lo' hi' mx=>
   rw[hop]at hok
   cases mx
   case some=>simp[bO]at hok
   simp only[bO,bE]at hok;obtain⟨⟨⟨hd,h1⟩,h2⟩,h3⟩:=hok;split at hd
   case h_2=>simp at hd
   rename_i el ht;simp only[aA]at hs;split at hs
   ·rename_i f es hr;split at hs
    case isTrue=>simp at hs
    rename_i hw;split at hs
    case h_2=>simp at hs
    rename_i m hm;split at hs
    case h_2=>simp at hs
    rename_i l hl;simp only[aR,bq]at hs;obtain⟨rfl,rfl⟩:=hs;refine⟨rfl,Zk h hop ht hd h1 h2 h3 hr hm hl ?_⟩;have hw:es.all (fun y=>y.cells.length==k)=true:=by simpa using hw
    intro y hy;simpa using (List.all_eq_true.1 hw) y hy
   ·rename_i q g k' j n hr;split at hs
    case isTrue=>simp at hs
    rename_i hc;obtain⟨hg,rfl⟩:g=(s q).g/\k'=k:=by simpa using hc
    split at hs
    case h_2=>simp at hs
    rename_i m hm;split at hs
    case h_2=>simp at hs
    rename_i l hl;simp only[aR,bq]at hs;obtain⟨rfl,rfl⟩:=hs;exact⟨rfl,Zl h hop ht hd h1 h2 h3 hr hg.symm hm hl⟩
   ·rename_i hr;split at hs
    case h_2=>simp at hs
    rename_i m hm;split at hs
    case h_2=>simp at hs
    rename_i l hl;simp only[aR,bq]at hs;obtain⟨rfl,rfl⟩:=hs;refine⟨rfl,?_⟩;have hr1:=aD h.env h1;rw[hr]at hr1
    generalize hv:a.eval x'=v at hr1;cases hr1 with
    | nil=>
     rename_i bb;have hm0:m=0:=by
      unfold bnd at hm;split at hm
      ·simpa using hm.symm
      ·split at hm
       ·split at hm
        ·simp at hm;omega
        ·simp at hm
       ·simp at hm
     subst hm0;have hl0:l=0:=by
      unfold bnd at hl;split at hl
      ·simpa using hl.symm
      ·split at hl
       ·split at hl
        ·simp at hl;omega
        ·simp at hl
       ·simp at hl
     subst hl0;obtain⟨h4,_⟩:=nA (P:=P) (isS:=true) h.env h2 h3 hm hl (Nat.le_refl _);refine aK h (v:=.slice bb 0 0) ?_ .nil;simp only[execOp,hop,hv,Instr.sliceAt,Instr.slice,Sem.run_bind,run_underlying ht,Result.andThen_ok,Option.map_none,h4];simp[bR hd]
   ·simp at hs
  all_goals (rw[hop]at hok;simp[bO]at hok)
 case len r=>
  have hok:=aJ hok (by simp);cases hop:o.op<;>simp only[hop,bO,jI,bE]at hok;rename_i c;obtain⟨⟨hc,hd⟩,h1⟩:=hok;have hc:c.callee=.builtin .len:=by revert hc;cases c.callee<;>simp;rename_i b;cases b<;>simp
  split at hd
  case h_2=>simp at hd
  rename_i t ht;split at hd
  case h_2=>simp at hd
  rename_i el hel;simp only[aA]at hs;split at hs
  ·rename_i f es hr;simp only[aR,bq]at hs;obtain⟨rfl,rfl⟩:=hs;exact⟨rfl,Dj h hop hc ht hel h1 hr (.inl ⟨_,_,rfl,rfl⟩)⟩
  ·rename_i q g k i n hr;split at hs
   case isFalse=>simp at hs
   rename_i hg;simp only[aR,bq]at hs;obtain⟨rfl,rfl⟩:=hs;exact⟨rfl,Dj h hop hc ht hel h1 hr (.inr (.inl ⟨_,_,_,_,_,rfl,hg.symm,rfl⟩))⟩
  ·rename_i hr;simp only[aR,bq]at hs;obtain⟨rfl,rfl⟩:=hs;exact⟨rfl,Dj h hop hc ht hel h1 hr (.inr (.inr ⟨rfl,rfl⟩))⟩
  ·simp at hs
 case lens r=>
  have hok:=aJ hok (by simp);cases hop:o.op<;>simp only[hop,bO,jI,bE]at hok;rename_i c;obtain⟨⟨hc,hd⟩,h1⟩:=hok;have hc:c.callee=.builtin .len:=by revert hc;cases c.callee<;>simp;rename_i b;cases b<;>simp
  split at hd
  case h_2=>simp at hd
  rename_i t ht;split at hd
  case h_2=>simp at hd
  rename_i hel;simp only[aA]at hs;split at hs
  ·rename_i b hr;simp only[aR,bq]at hs;obtain⟨rfl,rfl⟩:=hs;exact⟨rfl,RG h hop hc ht hel h1 hr⟩
  ·simp at hs
 case a_ mx r l=>
  have hok:=aJ hok (by simp);cases hop:o.op<;>simp only[hop,bO,jI,bE]at hok;rename_i c;obtain⟨hc,h1⟩:=hok;have hc:c.callee=.builtin (if mx then .max else .min):=by
   revert hc;cases c.callee<;>cases mx<;>simp
   all_goals (rename_i b;cases b<;>simp)
  simp only[aA]at hs;split at hs
  case h_2=>simp at hs
  rename_i u hu;split at hs
  case h_2=>simp at hs
  rename_i z hz;simp only[aR,bq]at hs;obtain⟨rfl,rfl⟩:=hs;exact⟨rfl,RH h hop hc h1 hu hz⟩
 case ext r i=>
  have hok:=aJ hok (by simp);cases hop:o.op<;>simp only[hop,bO,jI,bE,beq_iff_eq]at hok;obtain⟨h1,rfl⟩:=hok;simp only[aA]at hs;split at hs
  case h_2=>simp at hs
  rename_i cs hr;obtain⟨hs2,rfl⟩:=ng hs;exact⟨rfl,Y6 h hop h1 hr hs2⟩
 case GY f l=>
  have hok:=aJ hok (by simp);simp only[aA]at hs;split at hs
  case isFalse=>simp at hs
  simp only[aR,bq]at hs;obtain⟨rfl,rfl⟩:=hs;refine⟨rfl,?_⟩;cases hop:o.op
  case makeFunc fn fst cap=>
   rw[hop]at hok
   cases fn<;>simp only[bO,jI,bE,beq_iff_eq]at hok;obtain⟨⟨rfl,h1⟩,h2⟩:=hok;exact Zc h hop h1 h2
  all_goals (rw[hop]at hok;simp[bO]at hok)
 case EX f l=>
  have hok:=aJ hok (by simp);simp only[aA]at hs;split at hs
  case isFalse=>simp at hs
  simp only[aR,bq]at hs;obtain⟨rfl,rfl⟩:=hs;refine⟨rfl,?_⟩;cases hop:o.op
  case makeFunc fn fst cap=>
   rw[hop]at hok
   cases fn<;>simp only[bO,jI,bE,beq_iff_eq]at hok;obtain⟨⟨rfl,h1⟩,h2⟩:=hok;exact Zf h hop h1 h2
  all_goals (rw[hop]at hok;simp[bO]at hok)
 all_goals (simp[dn]at hst)
theorem Ja(h:Inv w0 sh nt μ fr e s a w){o:Oper}{io:gm}(hok:gL P o.op io=true){x:X}{s':ay}(hs:aA io e s=some (x,s')):Out P w0 sh nt e a w o x s':=by
 cases hst:dn io
 case true=>
  obtain⟨rfl,h1⟩:=wQ h hok hst hs;exact h1.out
 cases io<;>simp only[dn,reduceCtorEq]at hst
 case box n r=>
  have hok:=aJ hok (by simp);simp only[aA]at hs;split at hs
  case isFalse=>simp at hs
  rename_i hd;simp only[aR,bq]at hs;obtain⟨rfl,rfl⟩:=hs;cases hop:o.op<;>simp only[hop,bO,jI]at hok
  case alloc t=>
   cases r<;>simp only[jI]at hok;rename_i z;obtain⟨v,hv,hr⟩:=AY (w:=w) hok;exact K_ h (t:=t) ⟨v,nS hv _,by simp[execOp,hop,hr]⟩ hd
  case box t y=>
   have:dA y r=true:=by cases r<;>exact hok
   exact K_ h (t:=t) ⟨a.eval y,aD h.env this,by simp[execOp,hop,Js]⟩ hd
 case ZH q k z d ix r=>
  have hok:=aJ hok (by simp);simp only[aA]at hs;split at hs
  case h_2=>simp at hs
  rename_i i cs hi hcs;split at hs
  case isFalse=>simp at hs
  rename_i hc;split at hs
  case h_2=>simp at hs
  rename_i cs' s2 hr;simp only[aR,bq]at hs;obtain⟨rfl,rfl⟩:=hs;cases hop:o.op
  case buildSlice t m qs=>
   rw[hop]at hok
   exact Y1 h hop hok hcs hc.2.1 hr
  all_goals (rw[hop]at hok;simp[bO]at hok)
 case kG q k n z ps=>
  have hok:=aJ hok (by simp);simp only[aA]at hs;split at hs
  case h_2=>simp at hs
  rename_i es nm hc;split at hs
  case isTrue=>simp at hs
  rename_i hq;simp only[aR,bq]at hs;obtain⟨rfl,rfl⟩:=hs;cases hop:o.op
  case buildSlice t m qs=>
   rw[hop]at hok
   have hnm:m=n:=by simp only[bO,bE,beq_iff_eq]at hok;exact hok.1.1.1.1.2
   subst hnm;exact Y0 h hop (by simpa[bO]using hok) hc hq
  all_goals (rw[hop]at hok;simp[bO]at hok)
 case st r1 r2 k=>
  have hok:=aJ hok (by simp);simp only[aA]at hs;split at hs
  case h_2=>simp at hs
  rename_i s2 hst;simp only[aR,bq]at hs;obtain⟨rfl,rfl⟩:=hs;cases hop:o.op<;>simp only[hop,bO,jI,bE]at hok;exact snd_st h hop hok.1.1 hok.1.2 hok.2 hst
 case Mw q k z r1 r2 lim=>
  have hok:=aJ hok (by simp);simp only[aA]at hs;split at hs
  case h_2=>simp at hs
  rename_i l c hl hc;split at hs
  case isFalse=>simp at hs
  rename_i hcond;simp only[aR,bq]at hs;obtain⟨rfl,rfl⟩:=hs;cases hop:o.op
  case makeSlice t x1 x2=>
   rw[hop]at hok
   exact Ze h hop hok hl hc hcond.1 hcond.2.1 hcond.2.2.1 hcond.2.2.2.2.1 hcond.2.2.2.2.2
  all_goals (rw[hop]at hok;simp[bO]at hok)
 case app q k lim r1 r2=>
  have hok:=aJ hok (by simp);cases hop:o.op
  case call c=>
   rw[hop]at hok
   have hc:c.callee=.builtin .append:=by have hh:=hok;simp only[bO,bE]at hh;have:=hh.1.1;revert this;cases c.callee<;>simp;rename_i b;cases b<;>simp
   exact K9 h hop hc hok hs
  all_goals (rw[hop]at hok;simp[bO]at hok)
 case NK q k lim r1 r2=>
  have hs:aA (.app q k lim r1 r2) e s=some (x,s'):=by
   simp only[aA,wV]at hs ⊢;split at hs
   ·rename_i h1 h2;rw[h1,h2];exact hs
   ·rename_i h1 h2;split at hs
    ·rw[h1,h2];exact hs
    ·simp at hs
   ·simp at hs
  have hok:=aJ hok (by simp);cases hop:o.op
  case call c=>
   rw[hop]at hok
   have hc:c.callee=.builtin .append:=by have hh:=hok;simp only[bO,bE]at hh;have:=hh.1.1;revert this;cases c.callee<;>simp;rename_i b;cases b<;>simp
   exact K9 h hop hc (by simpa only[bO]using hok) hs
  all_goals (rw[hop]at hok;simp[bO]at hok)
 case call=>simp[aA]at hs
 case fG=>simp[aA]at hs
 case bB=>simp[aA]at hs
 case j6=>simp[aA]at hs
 case bL=>simp[aA]at hs
 case fK=>simp[aA]at hs
 case GZ n ha=>
  simp only[gL]at hok;cases hop:o.op
  case makeMap t hi=>rw[hop]at hok;exact Zd h hop hok hs
  all_goals (rw[hop]at hok;simp[mY]at hok)
 case O9 ks ag rm rk z=>
  simp only[gL]at hok;cases hop:o.op<;>simp only[hop,mY,jI,bE]at hok;exact Zb h hop hok.1.1.1 hok.1.1.2 hok.1.2 hok.2 hs
 case Pb rm rs rv=>
  simp only[gL]at hok;cases hop:o.op<;>simp only[hop,mY,jI,bE]at hok;exact Zi h hop hok.1.1 hok.1.2 hok.2 hs
 case NN ks ag rm rk rv=>
  simp only[gL]at hok;cases hop:o.op<;>simp only[hop,mY,jI,bE]at hok;exact Zj h hop hok.1.1.1 hok.1.1.2 hok.1.2 hok.2 hs
end
end Go.Proofs.YtbmkfjmlepjpfaaGreatDoor
