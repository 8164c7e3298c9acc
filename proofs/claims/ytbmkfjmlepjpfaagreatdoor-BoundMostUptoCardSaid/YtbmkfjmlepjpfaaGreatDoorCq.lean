/- A part of the proof. -/
import Derived.Test.YtbmkfjmlepjpfaaGreatDoorGo
import Derived.IntWalk
set_option linter.all false
set_option maxRecDepth 100000
namespace Go.Proofs.YtbmkfjmlepjpfaaGreatDoor
open Go.RowKit
abbrev u8(n:Int):X:=.v (.int .u8 n)
abbrev i6(n:Int):X:=.v (.int .i64 n)
theorem dJ{α:Type}{f:α->X}(h:∀a,(f a).deep=true)(l:List α):aP (l.map f)=true:=by
 induction l with
 | nil=>rfl
 | cons a l ih=>simp[h,ih]
theorem eH{α:Type}{f g:α->X}(h:∀a,(f a).shr=g a)(l:List α):fu (l.map f)=l.map g:=by
 induction l with
 | nil=>rfl
 | cons a l ih=>simp[h,ih]
@[simp] theorem Eh(l:List Int):aP (l.map u8)=true:=dJ (by simp) l
@[simp] theorem deepL_i6(l:List Int):aP (l.map i6)=true:=dJ (by simp) l
@[simp] theorem shrL_u8(l:List Int):fu (l.map u8)=l.map u8:=eH (by simp) l
@[simp] theorem shrL_i6(l:List Int):fu (l.map i6)=l.map i6:=eH (by simp) l
theorem iM{n:Int}(h:-9223372036854775808<=n)(h':n<=9223372036854775807):IntKind.i64.wrap n=n:=IntWalk.i64_in _ (by omega)
theorem ai{i n:Nat}(h:i<n)(h':n<=9223372036854775807):IntKind.i64.wrap ((i:Int)+1)=((i+1:Nat):Int):=by rw[iM]<;>omega
structure Val where
 kind:Int
 int:Int
 text:ByteArray
abbrev Val.enc(v:Val):X:=.agg [.v (.int .u8 v.kind),.v (.int .i64 v.int),.v (.string v.text)]
@[simp] theorem deepL_val(l:List Val):aP (l.map Val.enc)=true:=dJ (by simp) l
@[simp] theorem shrL_val(l:List Val):fu (l.map Val.enc)=l.map Val.enc:=eH (by simp) l
def Val.valid(v:Val):Bool:=
 if v.kind=0 then decide (v.int=0)&&v.text.toList.isEmpty
 else if v.kind=1 then v.text.toList.isEmpty
 else if v.kind=2 then decide (v.int=0)&&decide (v.text.size<=100)
 else if v.kind=3 then v.text.toList.isEmpty&&(decide (v.int=0)||decide (v.int=1))
 else false
def Val.ok(v:Val):Prop:=-9223372036854775808<=v.int/\v.int<=9223372036854775807
theorem toList_eq(a:ByteArray):(a.toList==(⟨#[]⟩:ByteArray).toList)=a.toList.isEmpty:=by
 have:(⟨#[]⟩:ByteArray).toList=[]:=by decide +kernel
 rw[this];cases a.toList<;>rfl
theorem Zu{n:Int}(h:-9223372036854775808<=n)(h':n<=9223372036854775807):decide (IntKind.u64.wrap n<=1)=(decide (n=0)||decide (n=1)):=by
 have:IntKind.u64.wrap n=n % 18446744073709551616:=by simp[IntKind.wrap,IntKind.bits,IntKind.signed]
 rw[this];by_cases h0:n=0
 ·subst h0;rfl
 ·by_cases h1:n=1
  ·subst h1;rfl
  ·simp only[h0,h1,decide_false,Bool.or_self,decide_eq_false_iff_not];omega
theorem qP(v:Val)(hi:v.ok):call T zK [v.enc]=some (.v (.bool v.valid)):=by
 obtain⟨h1,h2⟩:=hi;refine q221g (by simp) ?_;simp
 repeat' ((first|refine aj (fun h=>?_) (fun h=>?_)|refine aY (fun h=>?_) (fun h=>?_))<;>(have h':=h;try simp at h')<;>(try simp[*]))
 all_goals (simp_all [Val.valid,toList_eq,Zu]<;>omega)
theorem jY(v:Val):call T BF [v.enc]=some (.v (.bool v.valid)):=by
 refine q102g (by simp) ?_;simp
 repeat' ((first|refine aj (fun h=>?_) (fun h=>?_)|refine aY (fun h=>?_) (fun h=>?_))<;>(have h':=h;try simp at h')<;>(try simp[*]))
 all_goals (simp_all [Val.valid,toList_eq]<;>omega)
def Val.same(a b:Val):Bool:=decide (a.kind=b.kind)&&decide (a.int=b.int)&&(a.text.toList==b.text.toList)
theorem qE(a b:Val):call T Fs [a.enc,b.enc]=some (.v (.bool (a.same b))):=by
 refine q100g (by simp) ?_;simp
 repeat' ((first|refine aj (fun h=>?_) (fun h=>?_)|refine aY (fun h=>?_) (fun h=>?_))<;>(have h':=h;try simp at h')<;>(try simp[*]))
 all_goals simp_all [Val.same]
theorem xX{α:Type}{p:α->Bool}{l:List α}{i:Nat}(h:i<l.length):(l.drop i).all p=(p l[i]&&(l.drop (i+1)).all p):=by rw[List.drop_eq_getElem_cons h,List.all_cons]
theorem Jp{α:Type}{p:α->Bool}{l:List α}{i:Nat}(h:l.length<=i):(l.drop i).all p=true:=by rw[List.drop_eq_nil_of_le h];rfl
def aT(l:List Int):Bool:=l.all fun k=>decide (k<=3)
theorem jZ(l:List Int)(hl:l.length<=9223372036854775807):call T FD [.sl false (l.map u8)]=some (.v (.bool (aT l))):=by
 refine q154g (by simp) ?_;simp;refine av (σ:=Nat) (fun i e s=>e 0=.sl false (l.map u8)/\e 3=i6 i/\i<=l.length/\Hd (aT l=aT (l.drop i))) (fun i=>l.length-i) ?_ 0 _ _ ⟨rfl,rfl,by omega,⟨rfl⟩⟩;rintro i e s ⟨h0,h3,hi,hA⟩ ih;simp[h0,h3];refine aj (fun h=>?_) (fun h=>?_)<;>(have h':=h;try simp at h')<;>(try simp[*])
 ·replace hA:=Hd.mk (hA.out.trans (xX h'));refine aj (fun g=>?_) (fun g=>?_)<;>(have g':=g;try simp at g')<;>(try simp[*])
  ·rw[hA.out];simp[show ¬l[i]<=3 by omega]
  ·refine ih.out (i+1) _ _ ?_ (by omega);exact⟨by simp[h0],by simp[ai h' hl],h',⟨by rw[hA.out];simp[g'];rfl⟩⟩
 ·rw[hA.out];exact Jp h'
def vD{α:Type}(p:α->Bool)(l:List α):Int:=if l.any p then(l.findIdx p:Nat)else -1
theorem nJ{α:Type}{p:α->Bool}{l:List α}{i:Nat}(h:i<l.length)(hb:∀j (hj:j<i),p (l[j]'(by omega))=false)(hp:p l[i]=true):vD p l=i:=by have h1:l.any p=true:=List.any_eq_true.2 ⟨l[i],List.getElem_mem h,hp⟩;have h2:l.findIdx p=i:=(List.findIdx_eq h).2 ⟨hp,fun j hj=>hb j hj⟩;simp[vD,h1,h2]
theorem qj{α:Type}{p:α->Bool}{l:List α}(hb:∀j (hj:j<l.length),p (l[j])=false):vD p l=-1:=by
 have h1:l.any p=false:=by rw[List.any_eq_false];intro x hx;obtain⟨j,hj,rfl⟩:=List.mem_iff_getElem.1 hx;simp[hb j hj]
 simp[vD,h1]
theorem tQ{α:Type}(p:α->Bool)(l:List α):decide (0<=vD p l)=l.any p:=by unfold vD;cases l.any p<;>simp
theorem ve(k:Int):call T KX [u8 k]=some (.v (.bool (decide (3<k)))):=by refine q213g (by simp) ?_;simp
theorem uW(l:List Int)(hl:l.length<=9223372036854775807)(f:Nat)(p:Int->Bool)(hp:∀k,call T f [u8 k]=some (.v (.bool (p k)))) :
 call T BI [.sl false (l.map u8),.fn f []]=some (i6 (vD p l)):=by
 refine QD (by simp) ?_;simp;refine av (σ:=Nat) (fun i e s=>e 0=.sl false (l.map u8)/\e 1=.fn f []/\e 7=i6 l.length/\e 8=i6 i/\i<=l.length/\Hd (∀j (hj:j<i) (h:j<l.length),p l[j]=false)) (fun i=>l.length-i) ?_ 0 _ _ ⟨rfl,rfl,rfl,rfl,by omega,⟨fun _ h=>by omega⟩⟩;rintro i e s ⟨h0,h1,h7,h8,hi,hA⟩ ih;simp[h0,h1,h7,h8];refine aj (fun h=>?_) (fun h=>?_)<;>(have h':=h;try simp at h')<;>(try simp[*])
 ·refine aj (fun g=>?_) (fun g=>?_)<;>(have g':=g;try simp at g')<;>(try simp[*])
  ·exact(nJ h' (fun j hj=>hA.out j hj (by omega)) g').symm
  ·refine ih.out (i+1) _ _ ?_ (by omega);exact⟨by simp[h0],by simp[h1],by simp[h7],by simp[ai h' hl],h',⟨fun j hj hjl=>by
    rcases Nat.lt_or_eq_of_le (Nat.le_of_lt_succ hj)with h|h
    ·exact hA.out j h hjl
    ·subst h;exact g'⟩⟩
 ·exact(qj (fun j hj=>hA.out j (by omega) hj)).symm
theorem kH(l:List Int)(hl:l.length<=9223372036854775807)(f:Nat)(p:Int->Bool)(hp:∀k,call T f [u8 k]=some (.v (.bool (p k)))) :
 call T qX [.sl false (l.map u8),.fn f []]=some (.v (.bool (l.any p))):=by
 refine QC (by simp) ?_;simp[uW l hl f p hp,tQ]
theorem oZ(l:List Int)(hl:l.length<=9223372036854775807):call T BL [.sl false (l.map u8)]=some (.v (.bool (aT l))):=by
 refine q212g (by simp) ?_;have e:(l.any fun k=>decide (3<k))=!aT l:=by rw[aT,List.all_eq_not_any_not,Bool.not_not];congr 1;funext k;rw[<-decide_not];congr 1;simp
 have:=kH l hl _ _ ve;rw[e]at this
 simp[this]
def mW(n:Int):Bool:=decide (0<=n)&&decide (n<=4611686018427387904)
theorem o_(l:List Int)(hl:l.length<=9223372036854775807):call T zJ [.sl false (l.map i6)]=some (.v (.bool (l.all mW))):=by
 refine q215g (by simp) ?_;generalize hR:l.all mW=R;replace hR:=Hd.mk hR;simp;refine av (σ:=Nat) (fun i e s=>e 5=.sl false (l.map i6)/\e 6=i6 l.length/\e 7=i6 i/\i<=l.length/\Hd (R=(l.drop i).all mW)) (fun i=>l.length-i) ?_ 0 _ _ ⟨rfl,rfl,rfl,by omega,⟨hR.out.symm⟩⟩;rintro i e s ⟨h5,h6,h7,hi,hA⟩ ih;simp[h5,h6,h7];refine aj (fun h=>?_) (fun h=>?_)<;>(have h':=h;try simp at h')<;>(try simp[*])
 ·replace hA:=Hd.mk (hA.out.trans (xX h'));refine aY (fun g=>?_) (fun g=>?_)<;>(have g':=g;try simp at g')<;>(try simp[*])
  ·rw[hA.out];simp[mW,show ¬0<=l[i]by omega]
  ·refine aj (fun k=>?_) (fun k=>?_)<;>(have k':=k;try simp at k')<;>(try simp[*])
   ·rw[hA.out];simp[mW,show ¬l[i]<=4611686018427387904 by omega]
   ·refine ih.out (i+1) _ _ ?_ (by omega);exact⟨by simp[h5],by simp[h6],by simp[ai h' hl],h',⟨by rw[hA.out];simp[mW,g',k']⟩⟩
 ·rw[hA.out];exact Jp h'
theorem dG(n:Int):call T wN [i6 n]=some (.v (.bool (mW n))):=by
 refine q159g (by simp) ?_;simp
 repeat' ((first|refine aj (fun h=>?_) (fun h=>?_)|refine aY (fun h=>?_) (fun h=>?_))<;>(have h':=h;try simp at h')<;>(try simp[*]))
 all_goals (simp_all [mW]<;>omega)
structure dh where
 bQ:Int
 distinct:Int
 degree:Int
 lo:Int
 hi:Int
abbrev dh.enc(c:dh):X:=.agg [.v (.int .i64 c.bQ),.v (.int .i64 c.distinct),.v (.int .i64 c.degree),.v (.int .i64 c.lo),.v (.int .i64 c.hi)]
@[simp] theorem deepL_col(l:List dh):aP (l.map dh.enc)=true:=dJ (by simp) l
@[simp] theorem shrL_col(l:List dh):fu (l.map dh.enc)=l.map dh.enc:=eH (by simp) l
structure TS where
 low:Int
 rows:Int
 ah:List dh
abbrev TS.enc(f:Bool)(t:TS):X:=.agg [.v (.int .i64 t.low),.v (.int .i64 t.rows),.sl f (t.ah.map dh.enc)]
@[simp] theorem deepL_ts(f:Bool)(l:List TS):aP (l.map (TS.enc f))=true:=dJ (by simp) l
@[simp] theorem shrL_ts(f:Bool)(l:List TS):fu (l.map (TS.enc f))=l.map (TS.enc false):=eH (by simp) l
def rM(k:Int)(c:dh):Bool:=mW c.bQ&&(mW c.distinct&&(mW c.degree&&(decide (k=1)||(decide (c.lo=0)&&decide (c.hi=0)))))
def mP:List Int->List dh->Bool
 | k::ks,c::cs=>rM k c&&mP ks cs
 | _,_=>true
def fV(kinds:List Int)(t:TS):Bool:=aT kinds&&(decide (t.ah.length=kinds.length)&&(mW t.low&&(mW t.rows&&mP kinds t.ah)))
theorem yL{ks:List Int}{cs:List dh}{i:Nat}(h:i<ks.length)(h':i<cs.length):mP (ks.drop i) (cs.drop i)=(rM ks[i] cs[i]&&mP (ks.drop (i+1)) (cs.drop (i+1))):=by rw[List.drop_eq_getElem_cons h,List.drop_eq_getElem_cons h',mP]
theorem Bb{ks:List Int}{cs:List dh}{i:Nat}(h:ks.length<=i):mP (ks.drop i) (cs.drop i)=true:=by rw[List.drop_eq_nil_of_le h,mP];simp
set_option maxHeartbeats 400000 in
theorem Cn(ks:List Int)(t:TS)(hl:ks.length<=9223372036854775807):call T BJ [.sl false (ks.map u8),t.enc false]=some (.v (.bool (fV ks t))):=by
 refine q202g (by simp) ?_;generalize hR:fV ks t=R;replace hR:=Hd.mk hR;have r2:∀a b:Int,call T zJ [.sl false [i6 a,i6 b]]=some (.v (.bool (mW a&&mW b))):=fun a b=>by have:=o_ [a,b] (by simp);simpa using this
 have r3:∀a b c:Int,call T zJ [.sl false [i6 a,i6 b,i6 c]]=some (.v (.bool (mW a&&(mW b&&mW c)))):=fun a b c=>by have:=o_ [a,b,c] (by simp);simpa using this
 simp[oZ ks hl];refine aY (fun h1=>?_) (fun h1=>?_)<;>(have h1':=h1;try simp at h1')<;>(try simp[*])
 ·rw[<-hR.out];simp[fV,h1']
 refine aY (fun h2=>?_) (fun h2=>?_)<;>(have h2':=h2;try simp at h2')<;>(try simp[*])
 ·rw[<-hR.out];simp[fV,h2']
 refine aj (fun h3=>?_) (fun h3=>?_)<;>(have h3':=h3;try simp at h3')<;>(try simp[*])
 ·rw[<-hR.out];simp only[fV,h1',h2',Bool.true_and,decide_true];rcases h3' with h|h<;>simp[h]
 obtain⟨h3,h4⟩:=h3';replace hR:Hd (R=mP (ks.drop 0) (t.ah.drop 0)):=⟨by rw[<-hR.out];simp[fV,h1',h2',h3,h4]⟩
 refine av (σ:=Nat) (fun i e s=>e 0=.sl false (ks.map u8)/\e 28=.sl false (t.ah.map dh.enc)/\e 29=i6 ks.length/\e 30=i6 i/\i<=ks.length/\Hd (R=mP (ks.drop i) (t.ah.drop i))) (fun i=>ks.length-i) ?_ 0 _ _ ⟨rfl,rfl,by simp[h2'],rfl,by omega,hR⟩;clear hR;rintro i e s ⟨h0,h28,h29,h30,hi,hA⟩ ih;simp[h0,h28,h29,h30];refine aj (fun h=>?_) (fun h=>?_)<;>(have h':=h;try simp at h')<;>(try simp[*])
 ·have hic:i<t.ah.length:=by omega
  replace hA:=Hd.mk (hA.out.trans (yL h' hic));refine aj (fun a=>?_) (fun a=>?_)<;>(have a':=a;try simp at a')<;>(try simp[*])
  ·rw[hA.out];simp only[rM];rcases a' with h|h|h<;>simp[h]
  obtain⟨a1,a2,a3⟩:=a';refine aY (fun b=>?_) (fun b=>?_)<;>(have b':=b;try simp at b')<;>(try simp[*])
  ·refine aY (fun c=>?_) (fun c=>?_)<;>(have c':=c;try simp at c')<;>(try simp[*])
   ·rw[hA.out];simp[rM,b',c']
   ·refine aj (fun d=>?_) (fun d=>?_)<;>(have d':=d;try simp at d')<;>(try simp[*])
    ·rw[hA.out];simp[rM,b',d']
    ·refine ih.out (i+1) _ _ ?_ (by omega);exact⟨by simp[h0],by simp[h28],by simp[h29],by simp[ai h' hl],h',⟨by rw[hA.out];simp[rM,a1,a2,a3,c',d']⟩⟩
  ·refine ih.out (i+1) _ _ ?_ (by omega);exact⟨by simp[h0],by simp[h28],by simp[h29],by simp[ai h' hl],h',⟨by rw[hA.out];simp[rM,a1,a2,a3,b']⟩⟩
 ·rw[hA.out];exact Bb h'
set_option maxHeartbeats 400000 in
theorem qF(ks:List Int)(t:TS)(hl:ks.length<=9223372036854775807):call T KA [.sl false (ks.map u8),t.enc false]=some (.v (.bool (fV ks t))):=by
 refine q153g (by simp) ?_;generalize hR:fV ks t=R;replace hR:=Hd.mk hR;simp[jZ ks hl];refine aY (fun h1=>?_) (fun h1=>?_)<;>(have h1':=h1;try simp at h1')<;>(try simp[*])
 ·rw[<-hR.out];simp[fV,h1']
 refine aY (fun h2=>?_) (fun h2=>?_)<;>(have h2':=h2;try simp at h2')<;>(try simp[*])
 ·rw[<-hR.out];simp[fV,h2']
 simp[dG];refine aY (fun h3=>?_) (fun h3=>?_)<;>(have h3':=h3;try simp at h3')<;>(try simp[*])
 ·rw[<-hR.out];simp[fV,h3']
 simp[dG];refine aj (fun h4=>?_) (fun h4=>?_)<;>(have h4':=h4;try simp at h4')<;>(try simp[*])
 ·rw[<-hR.out];simp[fV,h4']
 replace hR:Hd (R=mP (ks.drop 0) (t.ah.drop 0)):=⟨by rw[<-hR.out];simp[fV,h1',h2',h3',h4']⟩
 refine av (σ:=Nat) (fun i e s=>e 0=.sl false (ks.map u8)/\e 3=.ptr 3 1 0/\(∃n,s 3=⟨1,true,some (.box (t.enc false)),n⟩)/\e 5=i6 i/\i<=ks.length/\Hd (R=mP (ks.drop i) (t.ah.drop i))) (fun i=>ks.length-i) ?_ 0 _ _ ⟨rfl,rfl,⟨_,rfl⟩,rfl,by omega,hR⟩;clear hR;rintro i e s ⟨h0,e3,⟨n,s3⟩,h5,hi,hA⟩ ih;simp[h0,e3,s3,h5];refine aj (fun h=>?_) (fun h=>?_)<;>(have h':=h;try simp at h')<;>(try simp[*])
 ·have hic:i<t.ah.length:=by omega
  replace hA:=Hd.mk (hA.out.trans (yL h' hic));simp[dG];refine aY (fun a=>?_) (fun a=>?_)<;>(have a':=a;try simp at a')<;>(try simp[*])
  ·rw[hA.out];simp[rM,a']
  simp[dG];refine aY (fun b=>?_) (fun b=>?_)<;>(have b':=b;try simp at b')<;>(try simp[*])
  ·rw[hA.out];simp[rM,b']
  simp[dG];refine aj (fun c=>?_) (fun c=>?_)<;>(have c':=c;try simp at c')<;>(try simp[*])
  ·rw[hA.out];simp[rM,c']
  refine aY (fun d=>?_) (fun d=>?_)<;>(have d':=d;try simp at d')<;>(try simp[*])
  ·refine aY (fun f=>?_) (fun f=>?_)<;>(have f':=f;try simp at f')<;>(try simp[*])
   ·rw[hA.out];simp[rM,d',f']
   ·refine aj (fun g=>?_) (fun g=>?_)<;>(have g':=g;try simp at g')<;>(try simp[*])
    ·rw[hA.out];simp[rM,d',g']
    ·refine ih.out (i+1) _ _ ?_ (by omega);exact⟨by simp[h0],by simp[e3],by simp[s3],by simp[ai h' hl],h',⟨by rw[hA.out];simp[rM,a',b',c',f',g']⟩⟩
  ·refine ih.out (i+1) _ _ ?_ (by omega);exact⟨by simp[h0],by simp[e3],by simp[s3],by simp[ai h' hl],h',⟨by rw[hA.out];simp[rM,a',b',c',d']⟩⟩
 ·rw[hA.out];exact Bb h'
def Ju(k:Int)(v:Val):Bool:=v.valid&&(decide (v.kind=0)||decide (v.kind=k))
def iN:List Int->List Val->Bool
 | k::ks,v::vs=>Ju k v&&iN ks vs
 | _,_=>true
def mr(ks:List Int)(r:List Val):Bool:=decide (r.length=ks.length)&&iN ks r
def lq(ks:List Int)(rows:List (List Val)):Bool:=aT ks&&rows.all (mr ks)
theorem vW{ks:List Int}{cs:List Val}{i:Nat}(h:i<ks.length)(h':i<cs.length):iN (ks.drop i) (cs.drop i)=(Ju ks[i] cs[i]&&iN (ks.drop (i+1)) (cs.drop (i+1))):=by rw[List.drop_eq_getElem_cons h,List.drop_eq_getElem_cons h',iN]
theorem yJ{ks:List Int}{cs:List Val}{i:Nat}(h:ks.length<=i):iN (ks.drop i) (cs.drop i)=true:=by rw[List.drop_eq_nil_of_le h,iN];simp
abbrev oJ(r:List Val):X:=.sl false (r.map Val.enc)
@[simp] theorem deepL_row(l:List (List Val)):aP (l.map oJ)=true:=dJ (by simp) l
@[simp] theorem shrL_row(l:List (List Val)):fu (l.map oJ)=l.map oJ:=eH (by simp) l
theorem OG{ks:List Int}{t:TS}(h:fV ks t=true):t.ah.length=ks.length:=by simp only[fV,bE,decide_eq_true_eq]at h;exact h.2.1
def dh.same(a b:dh):Bool:=decide (a.bQ=b.bQ)&&(decide (a.distinct=b.distinct)&&(decide (a.degree=b.degree)&&(decide (a.lo=b.lo)&&decide (a.hi=b.hi))))
def pY:List dh->List dh->Bool
 | a::l,b::m=>a.same b&&pY l m
 | _,_=>true
def TS.same(a b:TS):Bool:=decide (a.low=b.low)&&(decide (a.rows=b.rows)&&(decide (a.ah.length=b.ah.length)&&pY a.ah b.ah))
theorem IK{l m:List dh}{i:Nat}(h:i<l.length)(h':i<m.length):pY (l.drop i) (m.drop i)=(l[i].same m[i]&&pY (l.drop (i+1)) (m.drop (i+1))):=by rw[List.drop_eq_getElem_cons h,List.drop_eq_getElem_cons h',pY]
theorem Nq{l m:List dh}{i:Nat}(h:l.length<=i):pY (l.drop i) (m.drop i)=true:=by rw[List.drop_eq_nil_of_le h,pY];simp
theorem dh.vO(a:dh):a.same a=true:=by simp[dh.same]
theorem zT:∀l:List dh,pY l l=true
 | []=>rfl
 | a::l=>by simp[pY,dh.vO,zT l]
theorem TS.vO(a:TS):a.same a=true:=by simp[TS.same,zT]
theorem qD(a b:TS)(hl:a.ah.length<=9223372036854775807):call T YK [a.enc false,b.enc false]=some (.v (.bool (a.same b))):=by
 refine q91g (by simp) ?_;generalize hR:a.same b=R;replace hR:=Hd.mk hR;simp;refine aY (fun a1=>?_) (fun a1=>?_)<;>(have a1':=a1;try simp at a1')<;>(try simp[*])
 ·rw[<-hR.out];simp[TS.same,a1']
 refine aY (fun a2=>?_) (fun a2=>?_)<;>(have a2':=a2;try simp at a2')<;>(try simp[*])
 ·rw[<-hR.out];simp[TS.same,a2']
 refine aj (fun a3=>?_) (fun a3=>?_)<;>(have a3':=a3;try simp at a3')<;>(try simp[*])
 ·rw[<-hR.out];simp[TS.same,a3']
 replace hR:Hd (R=pY (a.ah.drop 0) (b.ah.drop 0)):=⟨by rw[<-hR.out];simp[TS.same,a1',a2',a3']⟩
 refine av (σ:=Nat) (fun i e s=>e 2=.ptr 2 1 0/\e 3=.ptr 3 1 0/\e 5=i6 i/\(∃n,s 2=⟨1,true,some (.box (a.enc false)),n⟩)/\(∃n,s 3=⟨1,true,some (.box (b.enc false)),n⟩)/\i<=a.ah.length/\Hd (R=pY (a.ah.drop i) (b.ah.drop i))) (fun i=>a.ah.length-i) ?_ 0 _ _ ⟨rfl,rfl,rfl,⟨_,rfl⟩,⟨_,rfl⟩,by omega,hR⟩;clear hR;rintro i e s ⟨e2,e3,e5,⟨n2,s2⟩,⟨n3,s3⟩,hi,hA⟩ ih;simp[e2,e3,e5,s2,s3];refine aj (fun h=>?_) (fun h=>?_)<;>(have h':=h;try simp at h')<;>(try simp[*])
 ·have hic:i<b.ah.length:=by omega
  replace hA:=Hd.mk (hA.out.trans (IK h' hic));have hia:i<a.ah.length:=by omega
  have ga:a.ah[i]?=some a.ah[i]:=List.getElem?_eq_getElem hia;have gb:b.ah[i]?=some b.ah[i]:=List.getElem?_eq_getElem hic;simp[hic,ga,gb,e2,e3,e5,s2,s3];refine aj (fun g=>?_) (fun g=>?_)<;>(have g':=g;try simp at g')<;>(try simp[*])
  ·rw[hA.out];have:a.ah[i].same b.ah[i]=false:=by rw[<-Bool.not_eq_true];simp only[dh.same,bE,decide_eq_true_eq];omega
   simp[this]
  ·refine ih.out (i+1) _ _ ?_ (by omega);exact⟨by simp[e2],by simp[e3],by simp[e5,ai hia hl],⟨n2,by simp[s2]⟩,⟨n3,by simp[s3]⟩,hia,⟨by rw[hA.out];simp[dh.same,g']⟩⟩
 ·rw[hA.out];exact Nq (by omega)
structure Fr (lo hi:Nat) (s s':ay):Prop where
 out:∀o,(o<lo\/hi<=o)->s' o=s o
theorem Fr.refl(lo hi:Nat)(s:ay):Fr lo hi s s:=⟨fun _ _=>rfl⟩
theorem Fr.trans{lo hi:Nat}{a b c:ay}(h:Fr lo hi a b)(k:Fr lo hi b c):Fr lo hi a c:=⟨fun o ho=>(k.out o ho).trans (h.out o ho)⟩
theorem Fr.aO{lo hi:Nat}{s s':ay}(h:Fr lo hi s s'){o:Nat}(b:Ob)(ho:lo<=o/\o<hi):Fr lo hi s (aO s' o b):=
 ⟨fun q hq=>by rw[EY,if_neg (by omega)];exact h.out q hq⟩
theorem Fr.bK{lo hi:Nat}{s s':ay}(h:Fr lo hi s s'){o:Nat}(b:Ob)(ho:lo<=o/\o<hi):Fr lo hi s (bK s' o b):=
 ⟨fun q hq=>by rw[FV,if_neg (by omega)];exact h.out q hq⟩
def kV(s:ay)(lo hi k:Nat)(x:X)(es:List X):Prop:=(es=[]/\x=.nil)\/(es≠[]/\∃o g n,x=.ref o g k 0 es.length/\s o=⟨g,true,some (.row k es),n⟩/\lo<=o/\o<hi)
theorem kV.one{s:ay}{lo hi k:Nat}{x:X}{es:List X}(h:kV s lo hi k x es):x.one=true/\x.cells=[x]:=by rcases h with⟨_,rfl⟩|⟨_,o,g,n,rfl,_⟩<;>exact⟨rfl,rfl⟩
theorem kV.rZ{s:ay}{lo hi k:Nat}{x:X}{es:List X}(h:kV s lo hi k x es)(hd:aP es=true):rZ s x=some (.sl true es):=by
 rcases h with⟨rfl,rfl⟩|⟨_,o,g,n,rfl,h,_⟩
 ·rfl
 ·rw[SB,h];simp[hd]
theorem kV.fr{s s':ay}{lo hi lo' hi' k:Nat}{x:X}{es:List X}(h:kV s lo hi k x es)(hf:Fr lo' hi' s s')(hd:hi<=lo'\/hi'<=lo):kV s' lo hi k x es:=by
 rcases h with⟨rfl,rfl⟩|⟨h0,o,g,n,rfl,h,h1,h2⟩
 ·exact .inl ⟨rfl,rfl⟩
 ·exact .inr ⟨h0,o,g,n,rfl,by rw[hf.out o (by omega)];exact h,h1,h2⟩
theorem Lr{oc:Option (X×ay)}{P:X×ay->Prop}{d:Option Nat}{l:List d9}{its:List It}{e:Env}{Q:Env->ay->Prop}(h:∃r,oc=some r/\P r)
 (k:∀r,P r->R3 T (some r) d l its e Q):R3 T oc d l its e Q:=by
 obtain⟨r,rfl,hr⟩:=h;exact k r hr
def qA(lo hi lo' hi':Nat)(s s':ay):Prop:=∀o,(o<lo\/hi<=o)->(o<lo'\/hi'<=o)->s' o=s o
theorem qA.aO{lo hi lo' hi':Nat}{s s':ay}(h:qA lo hi lo' hi' s s'){o:Nat}(b:Ob)(ho:(lo<=o/\o<hi)\/(lo'<=o/\o<hi')):qA lo hi lo' hi' s (aO s' o b):=
 fun q h1 h2=>by rw[EY,if_neg (by omega)];exact h q h1 h2
theorem qA.bK{lo hi lo' hi':Nat}{s s':ay}(h:qA lo hi lo' hi' s s'){o:Nat}(b:Ob)(ho:(lo<=o/\o<hi)\/(lo'<=o/\o<hi')):qA lo hi lo' hi' s (bK s' o b):=
 fun q h1 h2=>by rw[FV,if_neg (by omega)];exact h q h1 h2
end Go.Proofs.YtbmkfjmlepjpfaaGreatDoor
