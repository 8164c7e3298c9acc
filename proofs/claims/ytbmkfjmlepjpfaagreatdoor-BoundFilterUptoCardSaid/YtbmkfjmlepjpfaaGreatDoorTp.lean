/- A part of the proof. -/
import Derived.Test.YtbmkfjmlepjpfaaGreatDoorCk
import Derived.Test.YtbmkfjmlepjpfaaGreatDoorWk
import Derived.Test.YtbmkfjmlepjpfaaGreatDoorKf
import Derived.Test.YtbmkfjmlepjpfaaGreatDoorSh
import Derived.Test.YtbmkfjmlepjpfaaGreatDoorGs
set_option linter.all false
set_option maxRecDepth 100000
namespace Go.Proofs.YtbmkfjmlepjpfaaGreatDoor
open Go.RowKit
theorem Du{f:Nat}{fe:Fe}(h:T f=some fe):(f,fe)∈EQ++Hr:=by unfold T at h;obtain⟨p,hp,rfl⟩:=Option.map_eq_some_iff.1 h;have h1:=List.find?_some hp;have h2:=List.mem_of_find?_eq_some hp;simp only[beq_iff_eq]at h1;subst h1;exact h2
theorem T_fn:∀f,(T f).isSome=true->lM Tryz.prog f=true:=by intro f h;obtain⟨fe,hfe⟩:=Option.isSome_iff_exists.1 h;exact List.all_eq_true.1 ZA _ (Du hfe)
theorem I8{p:Nat×Fe}(h:p∈EQ):(∃F,p.2=.ext F)\/∃F,p.2=.uK F:=by
 simp only[EQ,List.mem_cons,List.not_mem_nil,or_false]at h;rcases h with rfl|rfl|rfl|rfl|rfl|rfl|rfl
 all_goals first|exact .inl ⟨_,rfl⟩|exact .inr ⟨_,rfl⟩
theorem T_code:∀f nt res body,T f=some (.code nt res body)\/T f=some (.yx nt res body)->xP Tryz.prog f nt res body=true:=by
 intro f nt res body h;rcases h with h|h
 ·rcases List.mem_append.1 (Du h)with hm|hm
  ·rcases I8 hm with⟨F,hF⟩|⟨F,hF⟩<;>cases hF
  ·exact List.all_eq_true.1 xE _ hm
 ·rcases List.mem_append.1 (Du h)with hm|hm
  ·rcases I8 hm with⟨F,hF⟩|⟨F,hF⟩<;>cases hF
  ·exact List.all_eq_true.1 xE _ hm
theorem Jf{f:Nat}{b b':ByteArray}(h:∀w,MF w->Calls Tryz.prog f #[.string b] w fun e w'=>e=.returned (.string b')/\Below w.heap.size w w'):lW Tryz.prog f [.v (.string b)] (.v (.string b')):=by
 intro w sh vs hg hsh hl hv;obtain⟨v,rfl⟩:∃v,vs=#[v]:=by
  rcases vs with⟨l⟩
  rcases l with _|⟨v,_|⟨u,l⟩⟩<;>simp at hl
  exact⟨v,rfl⟩
 have:=hv 0 _ v rfl rfl;cases this with
 | v _=>
  refine(h w hg).mono ?_;rintro e w' ⟨rfl,hb⟩;exact⟨_,fun _=>False,rfl,hb,fun _ h=>h.elim,.v rfl,rfl⟩
theorem Qu{f:Nat}{b:ByteArray}{r:Bool}(h:∀w,MF w->Calls Tryz.prog f #[.string b] w fun e w'=>e=.returned (.bool r)/\Below w.heap.size w w'):lW Tryz.prog f [.v (.string b)] (.v (.bool r)):=by
 intro w sh vs hg hsh hl hv;obtain⟨v,rfl⟩:∃v,vs=#[v]:=by
  rcases vs with⟨l⟩
  rcases l with _|⟨v,_|⟨u,l⟩⟩<;>simp at hl
  exact⟨v,rfl⟩
 have:=hv 0 _ v rfl rfl;cases this with
 | v _=>
  refine(h w hg).mono ?_;rintro e w' ⟨rfl,hb⟩;exact⟨_,fun _=>False,rfl,hb,fun _ h=>h.elim,.v rfl,rfl⟩
theorem Qv{f:Nat}{b b':ByteArray}{q:Bool}(h:∀w,MF w->Calls Tryz.prog f #[.string b,.bool q] w fun e w'=>e=.returned (.string b')/\Below w.heap.size w w'):lW Tryz.prog f [.v (.string b),.v (.bool q)] (.v (.string b')):=by
 intro w sh vs hg hsh hlen hv;obtain⟨v,u,rfl⟩:∃v u,vs=#[v,u]:=by
  rcases vs with⟨l⟩
  have hl:l.length=2:=by simpa using hlen.symm
  rcases l with _|⟨v,_|⟨u,_|⟨x,l⟩⟩⟩<;>simp at hl
  exact⟨v,u,rfl⟩
 have h1:=hv 0 _ v rfl rfl;have h2:=hv 1 _ u rfl rfl;cases h1 with
 | v _=>
  cases h2 with
  | v _=>
   refine(h w hg).mono ?_;rintro e w' ⟨rfl,hb⟩;exact⟨_,fun _=>False,rfl,hb,fun _ h=>h.elim,.v rfl,rfl⟩
theorem Ai{b:ByteArray}(h:Ey b=true):b.size<=140737488355328/\∀(j:Nat) (c:UInt8),b.data.toList[j]?=some c->c.toNat<128:=by simp only[Ey,bN,decide_eq_true_eq]at h;exact⟨h.2,fun j c hj=>of_decide_eq_true (List.all_eq_true.1 h.1 c (kK hj))⟩
theorem kwL_eq:wm.map (·.toList)=kwL:=by decide +kernel
theorem Wz(b:ByteArray):Sv b=kwL.any fun x=>x==b.toList:=by rw[<-kwL_eq,List.any_map];rfl
theorem T_ext:∀f F xs r,T f=some (.ext F)->F xs=some r->lW Tryz.prog f xs r:=by
 intro f F xs r h hr;rcases List.mem_append.1 (Du h)with hm|hm
 ·simp only[EQ,List.mem_cons,List.not_mem_nil,or_false]at hm;rcases hm with hm|hm|hm|hm|hm|hm|hm
  ·simp only[bK,Fe.ext.injEq]at hm;obtain⟨rfl,rfl⟩:=hm;exact Q6 hr
  ·simp only[bK,reduceCtorEq,and_false]at hm
  ·simp only[bK,reduceCtorEq,and_false]at hm
  ·simp only[bK,Fe.ext.injEq]at hm;obtain⟨rfl,rfl⟩:=hm;unfold upF at hr;split at hr
   ·split at hr
    ·rename_i b ha;simp only[aW]at hr;subst hr;obtain⟨h1,h2⟩:=Ai ha;exact Jf fun w _=>Tryz.strings_ToUpper_ascii b w h1 h2
    ·simp at hr
   ·simp at hr
  ·simp only[bK,Fe.ext.injEq]at hm;obtain⟨rfl,rfl⟩:=hm;unfold loF at hr;split at hr
   ·split at hr
    ·rename_i b ha;simp only[aW]at hr;subst hr;obtain⟨h1,h2⟩:=Ai ha;exact Jf fun w _=>Tryz.strings_ToLower_ascii b w h1 h2
    ·simp at hr
   ·simp at hr
  ·simp only[bK,Fe.ext.injEq]at hm;obtain⟨rfl,rfl⟩:=hm;unfold kwF at hr;split at hr
   ·rename_i b;simp only[aW]at hr;subst hr;rw[<-Wz];exact Qu fun w hg=>SC b w hg
   ·simp at hr
  ·simp only[bK,Fe.ext.injEq]at hm;obtain⟨rfl,rfl⟩:=hm;unfold foF at hr;split at hr
   ·split at hr
    ·rename_i b hb;simp only[aW]at hr;subst hr;exact Qv fun w _=>Sb b hb w
    ·simp at hr
   ·simp at hr
 ·have:=List.all_eq_true.1 xE _ hm;simp[Nj]at this
theorem Pm{xs:List X}{s s':ax}{r:X}(h:uH xs s=some (r,s')):iC s s':=by
 unfold uH at h;split at h
 ·simp only[aW,bK]at h;obtain⟨_,rfl⟩:=h;exact iC.refl _
 ·split at h
  ·simp only[aW,bK]at h;obtain⟨_,rfl⟩:=h;exact(iC.aN _ _ _).trans (iC.aN _ _ _)
  ·simp at h
 ·simp at h
theorem T_cnt:TC T:=by
 intro f F h;rcases List.mem_append.1 (Du h)with hm|hm
 ·simp only[EQ,List.mem_cons,List.not_mem_nil,or_false]at hm;rcases hm with hm|hm|hm|hm|hm|hm|hm
  rotate_left
  ·simp only[bK,Fe.uK.injEq]at hm;obtain⟨_,rfl⟩:=hm;exact fun xs s r s' h=>Sk h
  ·simp only[bK,Fe.uK.injEq]at hm;obtain⟨_,rfl⟩:=hm;exact fun xs s r s' h=>Pm h
  all_goals simp only[bK,reduceCtorEq,and_false]at hm
 ·have:=List.all_eq_true.1 xE _ hm;simp[Nj]at this
def T1(f:Nat):Option Fe:=if f=mg then some Uq else none
theorem T1_inl(n:Nat):om Tryz.prog T1 n:=by
 refine(sound (T:=T1) Hf ?_ ?_ ?_ ?_ ?_ n).2
 ·intro f h;unfold T1 at h;split at h
  ·rename_i hf;subst hf;exact List.all_eq_true.1 ZA (mg,.uK uH) (by simp[EQ])
  ·simp at h
 ·intro f nt res body h;unfold T1 at h;split at h
  ·rename_i hf;subst hf;rcases h with h|h
   ·simp only[aW,Fe.code.injEq]at h;obtain⟨rfl,rfl,rfl⟩:=h;exact List.all_eq_true.1 xE (mg,Uq) (by simp[Hr])
   ·simp at h
  ·simp at h
 ·intro f F xs r h;unfold T1 at h;split at h<;>simp at h
 ·intro f F h;unfold T1 at h;split at h<;>simp at h
 ·intro f F xs s r s' h;unfold T1 at h;split at h<;>simp at h
theorem Pp(b:Bool)(x:X)(es:List X)(s:ax)(h:(x::es).all (fun y=>y.cells.length==5&&y.deep)=true)(hl:(x::es).length<=3518437208883) :
 bZ (run T1) T1 mg [.sl b (x::es)] s=some (.ref 4005 ((s 4005).g+2) 5 0 (es.length+1),aN (aN s 4005 (.row 5 [])) 4005 (.row 5 (x::es))):=by
 have hk:Dj 5 (x::es)=true:=by
  unfold Dj;rw[oH]at h ⊢
  intro y hy;have:=h y hy;simp only[bN]at this ⊢;exact⟨this.1,by rw[this.2];rfl⟩
 obtain⟨r,hr,hp⟩:=fF (T:=T1) (f:=mg) (nt:=8) (res:=[.tmp 2]) (body:=abp) (xs:=[.sl b (x::es)]) (s:=s)
  (P:=fun r=>r=(.ref 4005 ((s 4005).g+2) 5 0 (es.length+1),aN (aN s 4005 (.row 5 [])) 4005 (.row 5 (x::es)))) (by simp[T1]) (by simp) (by
   have hl':es.length<=3518437208882:=by simpa using hl
   simp[dX,dZ,-Dj,hk,hl'])
 rw[hr,hp]
theorem T_inl:∀f F xs s r s',T f=some (.uK F)->F xs s=some (r,s')->GJ Tryz.prog f xs s r s':=by
 intro f F xs s r s' h hr;rcases List.mem_append.1 (Du h)with hm|hm
 ·simp only[EQ,List.mem_cons,List.not_mem_nil,or_false]at hm;rcases hm with hm|hm|hm|hm|hm|hm|hm
  rotate_left
  ·simp only[bK,Fe.uK.injEq]at hm;obtain⟨rfl,rfl⟩:=hm;exact Sl hr
  ·simp only[bK,Fe.uK.injEq]at hm;obtain⟨rfl,rfl⟩:=hm;unfold uH at hr;split at hr
   ·simp only[aW,bK]at hr;obtain⟨rfl,rfl⟩:=hr;rename_i b;intro w0 sh nt μ fr e a w hI _ vs hl hv;obtain⟨v,rfl⟩:∃v,vs=#[v]:=by
     rcases vs with⟨l⟩
     rcases l with _|⟨v,_|⟨u,l⟩⟩<;>simp at hl
     exact⟨v,rfl⟩
    obtain⟨ad,c,rfl⟩:∃ad c,v=.slice ad 0 c:=by
     have:=hv 0 _ v rfl rfl;cases this with
     | sl0=>exact⟨_,_,rfl⟩
     | sl val hn hcap hl' hb hk hc hz hr=>
      simp only[List.length_nil]at hn;subst hn;exact⟨_,_,rfl⟩
    have key:Calls Tryz.prog mg #[.slice ad 0 c] w fun e w'=>(∃b,e=.returned (.slice b 0 0))/\Below w.heap.size w w':=by
     cases ad with
     | none=>exact Po c w
     | some a=>exact Hg a c w
    refine key.mono ?_;rintro e' w' ⟨⟨b',rfl⟩,hb⟩;obtain⟨hI',hle'⟩:=hI.news w' hb fr (fun _ h=>h) (fun b hb=>.inl hb);exact⟨_,μ,fr,rfl,hI',.nil,hle'⟩
   ·split at hr
    ·rename_i ha;simp only[aW,bK]at hr;obtain⟨rfl,rfl⟩:=hr;obtain⟨n,hn⟩:=oD.1 (Pp _ _ _ s ha.1 ha.2);exact(T1_inl n).1 _ _ _ _ _ hn
    ·simp at hr
   ·simp at hr
  all_goals simp only[bK,reduceCtorEq,and_false]at hm
 ·have:=List.all_eq_true.1 xE _ hm;simp[Nj]at this
theorem V8{f:Nat}{xs:List X}{r:X}(h:call T f xs=some r):lW Tryz.prog f xs r:=Pk Hf T_fn T_code T_ext T_cnt T_inl h
end Go.Proofs.YtbmkfjmlepjpfaaGreatDoor
