/- A part of the proof. -/
import Derived.Test.YtbmkfjmlepjpfaaGreatDoorGo
import Derived.IntWalk
set_option linter.all false
set_option maxRecDepth 100000
namespace Go.Proofs.YtbmkfjmlepjpfaaGreatDoor
open Go.RowKit
abbrev u8(n:Int):X:=.v (.int .u8 n)
abbrev i6(n:Int):X:=.v (.int .i64 n)
theorem dh{α:Type}{f:α->X}(h:∀a,(f a).deep=true)(l:List α):aT (l.map f)=true:=by
 induction l with
 | nil=>rfl
 | cons a l ih=>simp[h,ih]
theorem fO{α:Type}{f g:α->X}(h:∀a,(f a).shr=g a)(l:List α):gB (l.map f)=l.map g:=by
 induction l with
 | nil=>rfl
 | cons a l ih=>simp[h,ih]
@[simp] theorem Hz(l:List Int):aT (l.map u8)=true:=dh (by simp) l
@[simp] theorem deepL_i6(l:List Int):aT (l.map i6)=true:=dh (by simp) l
@[simp] theorem shrL_u8(l:List Int):gB (l.map u8)=l.map u8:=fO (by simp) l
@[simp] theorem shrL_i6(l:List Int):gB (l.map i6)=l.map i6:=fO (by simp) l
theorem jv{n:Int}(h:-9223372036854775808<=n)(h':n<=9223372036854775807):IntKind.i64.wrap n=n:=IntWalk.i64_in _ (by omega)
theorem ai{i n:Nat}(h:i<n)(h':n<=9223372036854775807):IntKind.i64.wrap ((i:Int)+1)=((i+1:Nat):Int):=by rw[jv]<;>omega
structure Val where
 kind:Int
 int:Int
 text:ByteArray
abbrev Val.enc(v:Val):X:=.agg [.v (.int .u8 v.kind),.v (.int .i64 v.int),.v (.string v.text)]
@[simp] theorem deepL_val(l:List Val):aT (l.map Val.enc)=true:=dh (by simp) l
@[simp] theorem shrL_val(l:List Val):gB (l.map Val.enc)=l.map Val.enc:=fO (by simp) l
def Val.valid(v:Val):Bool:=
 if v.kind=0 then decide (v.int=0)&&v.text.toList.isEmpty
 else if v.kind=1 then v.text.toList.isEmpty
 else if v.kind=2 then decide (v.int=0)&&decide (v.text.size<=100)
 else if v.kind=3 then v.text.toList.isEmpty&&(decide (v.int=0)||decide (v.int=1))
 else false
def Val.ok(v:Val):Prop:=-9223372036854775808<=v.int/\v.int<=9223372036854775807
theorem toList_eq(a:ByteArray):(a.toList==(⟨#[]⟩:ByteArray).toList)=a.toList.isEmpty:=by
 have:(⟨#[]⟩:ByteArray).toList=[]:=by decide +kernel
 rw[this];cases a.toList<;>rfl
theorem Zg{n:Int}(h:-9223372036854775808<=n)(h':n<=9223372036854775807):decide (IntKind.u64.wrap n<=1)=(decide (n=0)||decide (n=1)):=by
 have:IntKind.u64.wrap n=n % 18446744073709551616:=by simp[IntKind.wrap,IntKind.bits,IntKind.signed]
 rw[this];by_cases h0:n=0
 ·subst h0;rfl
 ·by_cases h1:n=1
  ·subst h1;rfl
  ·simp only[h0,h1,decide_false,Bool.or_self,decide_eq_false_iff_not];omega
theorem tL(v:Val)(hi:v.ok):call T Ci [v.enc]=some (.v (.bool v.valid)):=by
 obtain⟨h1,h2⟩:=hi;refine q226g (by simp) ?_;simp
 repeat' ((first|refine aj (fun h=>?_) (fun h=>?_)|refine bg (fun h=>?_) (fun h=>?_))<;>(have h':=h;try simp at h')<;>(try simp[*]))
 all_goals (simp_all [Val.valid,toList_eq,Zg]<;>omega)
theorem lm(v:Val):call T Ec [v.enc]=some (.v (.bool v.valid)):=by
 refine q102g (by simp) ?_;simp
 repeat' ((first|refine aj (fun h=>?_) (fun h=>?_)|refine bg (fun h=>?_) (fun h=>?_))<;>(have h':=h;try simp at h')<;>(try simp[*]))
 all_goals (simp_all [Val.valid,toList_eq]<;>omega)
def Val.same(a b:Val):Bool:=decide (a.kind=b.kind)&&decide (a.int=b.int)&&(a.text.toList==b.text.toList)
theorem sQ(a b:Val):call T Jg [a.enc,b.enc]=some (.v (.bool (a.same b))):=by
 refine q100g (by simp) ?_;simp
 repeat' ((first|refine aj (fun h=>?_) (fun h=>?_)|refine bg (fun h=>?_) (fun h=>?_))<;>(have h':=h;try simp at h')<;>(try simp[*]))
 all_goals simp_all [Val.same]
theorem Ah{α:Type}{p:α->Bool}{l:List α}{i:Nat}(h:i<l.length):(l.drop i).all p=(p l[i]&&(l.drop (i+1)).all p):=by rw[List.drop_eq_getElem_cons h,List.all_cons]
theorem MJ{α:Type}{p:α->Bool}{l:List α}{i:Nat}(h:l.length<=i):(l.drop i).all p=true:=by rw[List.drop_eq_nil_of_le h];rfl
def aX(l:List Int):Bool:=l.all fun k=>decide (k<=3)
theorem lq(l:List Int)(hl:l.length<=9223372036854775807):call T Jp [.sl false (l.map u8)]=some (.v (.bool (aX l))):=by
 refine q154g (by simp) ?_;simp;refine av (σ:=Nat) (fun i e s=>e 0=.sl false (l.map u8)/\e 3=i6 i/\i<=l.length/\Hd (aX l=aX (l.drop i))) (fun i=>l.length-i) ?_ 0 _ _ ⟨rfl,rfl,by omega,⟨rfl⟩⟩;rintro i e s ⟨h0,h3,hi,hA⟩ ih;simp[h0,h3];refine aj (fun h=>?_) (fun h=>?_)<;>(have h':=h;try simp at h')<;>(try simp[*])
 ·replace hA:=Hd.mk (hA.out.trans (Ah h'));refine aj (fun g=>?_) (fun g=>?_)<;>(have g':=g;try simp at g')<;>(try simp[*])
  ·rw[hA.out];simp[show ¬l[i]<=3 by omega]
  ·refine ih.out (i+1) _ _ ?_ (by omega);exact⟨by simp[h0],by simp[ai h' hl],h',⟨by rw[hA.out];simp[g'];rfl⟩⟩
 ·rw[hA.out];exact MJ h'
def xL{α:Type}(p:α->Bool)(l:List α):Int:=if l.any p then(l.findIdx p:Nat)else -1
theorem pI{α:Type}{p:α->Bool}{l:List α}{i:Nat}(h:i<l.length)(hb:∀j (hj:j<i),p (l[j]'(by omega))=false)(hp:p l[i]=true):xL p l=i:=by have h1:l.any p=true:=List.any_eq_true.2 ⟨l[i],gG h,hp⟩;have h2:l.findIdx p=i:=(List.findIdx_eq h).2 ⟨hp,fun j hj=>hb j hj⟩;simp[xL,h1,h2]
theorem rZ{α:Type}{p:α->Bool}{l:List α}(hb:∀j (hj:j<l.length),p (l[j])=false):xL p l=-1:=by
 have h1:l.any p=false:=by rw[List.any_eq_false];intro x hx;obtain⟨j,hj,rfl⟩:=List.mem_iff_getElem.1 hx;simp[hb j hj]
 simp[xL,h1]
theorem v_{α:Type}(p:α->Bool)(l:List α):decide (0<=xL p l)=l.any p:=by unfold xL;cases l.any p<;>simp
theorem xC(k:Int):call T Ox [u8 k]=some (.v (.bool (decide (3<k)))):=by refine q218g (by simp) ?_;simp
theorem xk(l:List Int)(hl:l.length<=9223372036854775807)(f:Nat)(p:Int->Bool)(hp:∀k,call T f [u8 k]=some (.v (.bool (p k)))) :
 call T Eg [.sl false (l.map u8),.fn f []]=some (i6 (xL p l)):=by
 refine Ut (by simp) ?_;simp;refine av (σ:=Nat) (fun i e s=>e 0=.sl false (l.map u8)/\e 1=.fn f []/\e 7=i6 l.length/\e 8=i6 i/\i<=l.length/\Hd (∀j (hj:j<i) (h:j<l.length),p l[j]=false)) (fun i=>l.length-i) ?_ 0 _ _ ⟨rfl,rfl,rfl,rfl,by omega,⟨fun _ h=>by omega⟩⟩;rintro i e s ⟨h0,h1,h7,h8,hi,hA⟩ ih;simp[h0,h1,h7,h8];refine aj (fun h=>?_) (fun h=>?_)<;>(have h':=h;try simp at h')<;>(try simp[*])
 ·refine aj (fun g=>?_) (fun g=>?_)<;>(have g':=g;try simp at g')<;>(try simp[*])
  ·exact(pI h' (fun j hj=>hA.out j hj (by omega)) g').symm
  ·refine ih.out (i+1) _ _ ?_ (by omega);exact⟨by simp[h0],by simp[h1],by simp[h7],by simp[ai h' hl],h',⟨fun j hj hjl=>by
    rcases qP (qQ hj)with h|h
    ·exact hA.out j h hjl
    ·subst h;exact g'⟩⟩
 ·exact(rZ (fun j hj=>hA.out j (by omega) hj)).symm
theorem lY(l:List Int)(hl:l.length<=9223372036854775807)(f:Nat)(p:Int->Bool)(hp:∀k,call T f [u8 k]=some (.v (.bool (p k)))) :
 call T tY [.sl false (l.map u8),.fn f []]=some (.v (.bool (l.any p))):=by
 refine Us (by simp) ?_;simp[xk l hl f p hp,v_]
theorem qF(l:List Int)(hl:l.length<=9223372036854775807):call T Ej [.sl false (l.map u8)]=some (.v (.bool (aX l))):=by
 refine q217g (by simp) ?_;have e:(l.any fun k=>decide (3<k))=!aX l:=by rw[aX,List.all_eq_not_any_not,Bool.not_not];congr 1;funext k;rw[<-decide_not];congr 1;simp
 have:=lY l hl _ _ xC;rw[e]at this
 simp[this]
def jZ(n:Int):Bool:=decide (0<=n)&&decide (n<=4611686018427387904)
theorem qG(l:List Int)(hl:l.length<=9223372036854775807):call T Ch [.sl false (l.map i6)]=some (.v (.bool (l.all jZ))):=by
 refine q220g (by simp) ?_;generalize hR:l.all jZ=R;replace hR:=Hd.mk hR;simp;refine av (σ:=Nat) (fun i e s=>e 5=.sl false (l.map i6)/\e 6=i6 l.length/\e 7=i6 i/\i<=l.length/\Hd (R=(l.drop i).all jZ)) (fun i=>l.length-i) ?_ 0 _ _ ⟨rfl,rfl,rfl,by omega,⟨hR.out.symm⟩⟩;rintro i e s ⟨h5,h6,h7,hi,hA⟩ ih;simp[h5,h6,h7];refine aj (fun h=>?_) (fun h=>?_)<;>(have h':=h;try simp at h')<;>(try simp[*])
 ·replace hA:=Hd.mk (hA.out.trans (Ah h'));refine bg (fun g=>?_) (fun g=>?_)<;>(have g':=g;try simp at g')<;>(try simp[*])
  ·rw[hA.out];simp[jZ,show ¬0<=l[i]by omega]
  ·refine aj (fun k=>?_) (fun k=>?_)<;>(have k':=k;try simp at k')<;>(try simp[*])
   ·rw[hA.out];simp[jZ,show ¬l[i]<=4611686018427387904 by omega]
   ·refine ih.out (i+1) _ _ ?_ (by omega);exact⟨by simp[h5],by simp[h6],by simp[ai h' hl],h',⟨by rw[hA.out];simp[jZ,g',k']⟩⟩
 ·rw[hA.out];exact MJ h'
theorem dW(n:Int):call T yS [i6 n]=some (.v (.bool (jZ n))):=by
 refine q159g (by simp) ?_;simp
 repeat' ((first|refine aj (fun h=>?_) (fun h=>?_)|refine bg (fun h=>?_) (fun h=>?_))<;>(have h':=h;try simp at h')<;>(try simp[*]))
 all_goals (simp_all [jZ]<;>omega)
structure aK where
 bC:Int
 distinct:Int
 degree:Int
 lo:Int
 hi:Int
abbrev aK.enc(c:aK):X:=.agg [.v (.int .i64 c.bC),.v (.int .i64 c.distinct),.v (.int .i64 c.degree),.v (.int .i64 c.lo),.v (.int .i64 c.hi)]
@[simp] theorem deepL_col(l:List aK):aT (l.map aK.enc)=true:=dh (by simp) l
@[simp] theorem shrL_col(l:List aK):gB (l.map aK.enc)=l.map aK.enc:=fO (by simp) l
structure TS where
 low:Int
 rows:Int
 ah:List aK
abbrev TS.enc(f:Bool)(t:TS):X:=.agg [.v (.int .i64 t.low),.v (.int .i64 t.rows),.sl f (t.ah.map aK.enc)]
@[simp] theorem deepL_ts(f:Bool)(l:List TS):aT (l.map (TS.enc f))=true:=dh (by simp) l
@[simp] theorem shrL_ts(f:Bool)(l:List TS):gB (l.map (TS.enc f))=l.map (TS.enc false):=fO (by simp) l
def nU(k:Int)(c:aK):Bool:=jZ c.bC&&(jZ c.distinct&&(jZ c.degree&&(decide (k=1)||(decide (c.lo=0)&&decide (c.hi=0)))))
def lC:List Int->List aK->Bool
 | k::ks,c::cs=>nU k c&&lC ks cs
 | _,_=>true
def fC(kinds:List Int)(t:TS):Bool:=aX kinds&&(decide (t.ah.length=kinds.length)&&(jZ t.low&&(jZ t.rows&&lC kinds t.ah)))
theorem AZ{ks:List Int}{cs:List aK}{i:Nat}(h:i<ks.length)(h':i<cs.length):lC (ks.drop i) (cs.drop i)=(nU ks[i] cs[i]&&lC (ks.drop (i+1)) (cs.drop (i+1))):=by rw[List.drop_eq_getElem_cons h,List.drop_eq_getElem_cons h',lC]
theorem DJ{ks:List Int}{cs:List aK}{i:Nat}(h:ks.length<=i):lC (ks.drop i) (cs.drop i)=true:=by rw[List.drop_eq_nil_of_le h,lC];simp
set_option maxHeartbeats 400000 in
theorem EH(ks:List Int)(t:TS)(hl:ks.length<=9223372036854775807):call T Eh [.sl false (ks.map u8),t.enc false]=some (.v (.bool (fC ks t))):=by
 refine q207g (by simp) ?_;generalize hR:fC ks t=R;replace hR:=Hd.mk hR;have r2:∀a b:Int,call T Ch [.sl false [i6 a,i6 b]]=some (.v (.bool (jZ a&&jZ b))):=fun a b=>by have:=qG [a,b] (by simp);simpa using this
 have r3:∀a b c:Int,call T Ch [.sl false [i6 a,i6 b,i6 c]]=some (.v (.bool (jZ a&&(jZ b&&jZ c)))):=fun a b c=>by have:=qG [a,b,c] (by simp);simpa using this
 simp[qF ks hl];refine bg (fun h1=>?_) (fun h1=>?_)<;>(have h1':=h1;try simp at h1')<;>(try simp[*])
 ·rw[<-hR.out];simp[fC,h1']
 refine bg (fun h2=>?_) (fun h2=>?_)<;>(have h2':=h2;try simp at h2')<;>(try simp[*])
 ·rw[<-hR.out];simp[fC,h2']
 refine aj (fun h3=>?_) (fun h3=>?_)<;>(have h3':=h3;try simp at h3')<;>(try simp[*])
 ·rw[<-hR.out];simp only[fC,h1',h2',Bool.true_and,decide_true];rcases h3' with h|h<;>simp[h]
 obtain⟨h3,h4⟩:=h3';replace hR:Hd (R=lC (ks.drop 0) (t.ah.drop 0)):=⟨by rw[<-hR.out];simp[fC,h1',h2',h3,h4]⟩
 refine av (σ:=Nat) (fun i e s=>e 0=.sl false (ks.map u8)/\e 28=.sl false (t.ah.map aK.enc)/\e 29=i6 ks.length/\e 30=i6 i/\i<=ks.length/\Hd (R=lC (ks.drop i) (t.ah.drop i))) (fun i=>ks.length-i) ?_ 0 _ _ ⟨rfl,rfl,by simp[h2'],rfl,by omega,hR⟩;clear hR;rintro i e s ⟨h0,h28,h29,h30,hi,hA⟩ ih;simp[h0,h28,h29,h30];refine aj (fun h=>?_) (fun h=>?_)<;>(have h':=h;try simp at h')<;>(try simp[*])
 ·have hic:i<t.ah.length:=by omega
  replace hA:=Hd.mk (hA.out.trans (AZ h' hic));refine aj (fun a=>?_) (fun a=>?_)<;>(have a':=a;try simp at a')<;>(try simp[*])
  ·rw[hA.out];simp only[nU];rcases a' with h|h|h<;>simp[h]
  obtain⟨a1,a2,a3⟩:=a';refine bg (fun b=>?_) (fun b=>?_)<;>(have b':=b;try simp at b')<;>(try simp[*])
  ·refine bg (fun c=>?_) (fun c=>?_)<;>(have c':=c;try simp at c')<;>(try simp[*])
   ·rw[hA.out];simp[nU,b',c']
   ·refine aj (fun d=>?_) (fun d=>?_)<;>(have d':=d;try simp at d')<;>(try simp[*])
    ·rw[hA.out];simp[nU,b',d']
    ·refine ih.out (i+1) _ _ ?_ (by omega);exact⟨by simp[h0],by simp[h28],by simp[h29],by simp[ai h' hl],h',⟨by rw[hA.out];simp[nU,a1,a2,a3,c',d']⟩⟩
  ·refine ih.out (i+1) _ _ ?_ (by omega);exact⟨by simp[h0],by simp[h28],by simp[h29],by simp[ai h' hl],h',⟨by rw[hA.out];simp[nU,a1,a2,a3,b']⟩⟩
 ·rw[hA.out];exact DJ h'
set_option maxHeartbeats 400000 in
theorem sS(ks:List Int)(t:TS)(hl:ks.length<=9223372036854775807):call T NY [.sl false (ks.map u8),t.enc false]=some (.v (.bool (fC ks t))):=by
 refine q153g (by simp) ?_;generalize hR:fC ks t=R;replace hR:=Hd.mk hR;simp[lq ks hl];refine bg (fun h1=>?_) (fun h1=>?_)<;>(have h1':=h1;try simp at h1')<;>(try simp[*])
 ·rw[<-hR.out];simp[fC,h1']
 refine bg (fun h2=>?_) (fun h2=>?_)<;>(have h2':=h2;try simp at h2')<;>(try simp[*])
 ·rw[<-hR.out];simp[fC,h2']
 simp[dW];refine bg (fun h3=>?_) (fun h3=>?_)<;>(have h3':=h3;try simp at h3')<;>(try simp[*])
 ·rw[<-hR.out];simp[fC,h3']
 simp[dW];refine aj (fun h4=>?_) (fun h4=>?_)<;>(have h4':=h4;try simp at h4')<;>(try simp[*])
 ·rw[<-hR.out];simp[fC,h4']
 replace hR:Hd (R=lC (ks.drop 0) (t.ah.drop 0)):=⟨by rw[<-hR.out];simp[fC,h1',h2',h3',h4']⟩
 refine av (σ:=Nat) (fun i e s=>e 0=.sl false (ks.map u8)/\e 3=.ptr 3 1 0/\(∃n,s 3=⟨1,true,some (.box (t.enc false)),n⟩)/\e 5=i6 i/\i<=ks.length/\Hd (R=lC (ks.drop i) (t.ah.drop i))) (fun i=>ks.length-i) ?_ 0 _ _ ⟨rfl,rfl,⟨_,rfl⟩,rfl,by omega,hR⟩;clear hR;rintro i e s ⟨h0,e3,⟨n,s3⟩,h5,hi,hA⟩ ih;simp[h0,e3,s3,h5];refine aj (fun h=>?_) (fun h=>?_)<;>(have h':=h;try simp at h')<;>(try simp[*])
 ·have hic:i<t.ah.length:=by omega
  replace hA:=Hd.mk (hA.out.trans (AZ h' hic));simp[dW];refine bg (fun a=>?_) (fun a=>?_)<;>(have a':=a;try simp at a')<;>(try simp[*])
  ·rw[hA.out];simp[nU,a']
  simp[dW];refine bg (fun b=>?_) (fun b=>?_)<;>(have b':=b;try simp at b')<;>(try simp[*])
  ·rw[hA.out];simp[nU,b']
  simp[dW];refine aj (fun c=>?_) (fun c=>?_)<;>(have c':=c;try simp at c')<;>(try simp[*])
  ·rw[hA.out];simp[nU,c']
  refine bg (fun d=>?_) (fun d=>?_)<;>(have d':=d;try simp at d')<;>(try simp[*])
  ·refine bg (fun f=>?_) (fun f=>?_)<;>(have f':=f;try simp at f')<;>(try simp[*])
   ·rw[hA.out];simp[nU,d',f']
   ·refine aj (fun g=>?_) (fun g=>?_)<;>(have g':=g;try simp at g')<;>(try simp[*])
    ·rw[hA.out];simp[nU,d',g']
    ·refine ih.out (i+1) _ _ ?_ (by omega);exact⟨by simp[h0],by simp[e3],by simp[s3],by simp[ai h' hl],h',⟨by rw[hA.out];simp[nU,a',b',c',f',g']⟩⟩
  ·refine ih.out (i+1) _ _ ?_ (by omega);exact⟨by simp[h0],by simp[e3],by simp[s3],by simp[ai h' hl],h',⟨by rw[hA.out];simp[nU,a',b',c',d']⟩⟩
 ·rw[hA.out];exact DJ h'
def MP(k:Int)(v:Val):Bool:=v.valid&&(decide (v.kind=0)||decide (v.kind=k))
def jA:List Int->List Val->Bool
 | k::ks,v::vs=>MP k v&&jA ks vs
 | _,_=>true
def og(ks:List Int)(r:List Val):Bool:=decide (r.length=ks.length)&&jA ks r
def mY(ks:List Int)(rows:List (List Val)):Bool:=aX ks&&rows.all (og ks)
theorem yw{ks:List Int}{cs:List Val}{i:Nat}(h:i<ks.length)(h':i<cs.length):jA (ks.drop i) (cs.drop i)=(MP ks[i] cs[i]&&jA (ks.drop (i+1)) (cs.drop (i+1))):=by rw[List.drop_eq_getElem_cons h,List.drop_eq_getElem_cons h',jA]
theorem AX{ks:List Int}{cs:List Val}{i:Nat}(h:ks.length<=i):jA (ks.drop i) (cs.drop i)=true:=by rw[List.drop_eq_nil_of_le h,jA];simp
abbrev ql(r:List Val):X:=.sl false (r.map Val.enc)
@[simp] theorem deepL_row(l:List (List Val)):aT (l.map ql)=true:=dh (by simp) l
@[simp] theorem shrL_row(l:List (List Val)):gB (l.map ql)=l.map ql:=fO (by simp) l
theorem R9{ks:List Int}{t:TS}(h:fC ks t=true):t.ah.length=ks.length:=by simp only[fC,bN,decide_eq_true_eq]at h;exact h.2.1
def aK.same(a b:aK):Bool:=decide (a.bC=b.bC)&&(decide (a.distinct=b.distinct)&&(decide (a.degree=b.degree)&&(decide (a.lo=b.lo)&&decide (a.hi=b.hi))))
def rE:List aK->List aK->Bool
 | a::l,b::m=>a.same b&&rE l m
 | _,_=>true
def TS.same(a b:TS):Bool:=decide (a.low=b.low)&&(decide (a.rows=b.rows)&&(decide (a.ah.length=b.ah.length)&&rE a.ah b.ah))
theorem LW{l m:List aK}{i:Nat}(h:i<l.length)(h':i<m.length):rE (l.drop i) (m.drop i)=(l[i].same m[i]&&rE (l.drop (i+1)) (m.drop (i+1))):=by rw[List.drop_eq_getElem_cons h,List.drop_eq_getElem_cons h',rE]
theorem QS{l m:List aK}{i:Nat}(h:l.length<=i):rE (l.drop i) (m.drop i)=true:=by rw[List.drop_eq_nil_of_le h,rE];simp
theorem aK.sI(a:aK):a.same a=true:=by simp[aK.same]
theorem Cu:∀l:List aK,rE l l=true
 | []=>rfl
 | a::l=>by simp[rE,aK.sI,Cu l]
theorem TS.sI(a:TS):a.same a=true:=by simp[TS.same,Cu]
theorem lZ(a b:TS)(hl:a.ah.length<=9223372036854775807):call T U3 [a.enc false,b.enc false]=some (.v (.bool (a.same b))):=by
 refine q91g (by simp) ?_;generalize hR:a.same b=R;replace hR:=Hd.mk hR;simp;refine bg (fun a1=>?_) (fun a1=>?_)<;>(have a1':=a1;try simp at a1')<;>(try simp[*])
 ·rw[<-hR.out];simp[TS.same,a1']
 refine bg (fun a2=>?_) (fun a2=>?_)<;>(have a2':=a2;try simp at a2')<;>(try simp[*])
 ·rw[<-hR.out];simp[TS.same,a2']
 refine aj (fun a3=>?_) (fun a3=>?_)<;>(have a3':=a3;try simp at a3')<;>(try simp[*])
 ·rw[<-hR.out];simp[TS.same,a3']
 replace hR:Hd (R=rE (a.ah.drop 0) (b.ah.drop 0)):=⟨by rw[<-hR.out];simp[TS.same,a1',a2',a3']⟩
 refine av (σ:=Nat) (fun i e s=>e 2=.ptr 2 1 0/\e 3=.ptr 3 1 0/\e 5=i6 i/\(∃n,s 2=⟨1,true,some (.box (a.enc false)),n⟩)/\(∃n,s 3=⟨1,true,some (.box (b.enc false)),n⟩)/\i<=a.ah.length/\Hd (R=rE (a.ah.drop i) (b.ah.drop i))) (fun i=>a.ah.length-i) ?_ 0 _ _ ⟨rfl,rfl,rfl,⟨_,rfl⟩,⟨_,rfl⟩,by omega,hR⟩;clear hR;rintro i e s ⟨e2,e3,e5,⟨n2,s2⟩,⟨n3,s3⟩,hi,hA⟩ ih;simp[e2,e3,e5,s2,s3];refine aj (fun h=>?_) (fun h=>?_)<;>(have h':=h;try simp at h')<;>(try simp[*])
 ·have hic:i<b.ah.length:=by omega
  replace hA:=Hd.mk (hA.out.trans (LW h' hic));have hia:i<a.ah.length:=by omega
  have ga:a.ah[i]?=some a.ah[i]:=List.getElem?_eq_getElem hia;have gb:b.ah[i]?=some b.ah[i]:=List.getElem?_eq_getElem hic;simp[hic,ga,gb,e2,e3,e5,s2,s3];refine aj (fun g=>?_) (fun g=>?_)<;>(have g':=g;try simp at g')<;>(try simp[*])
  ·rw[hA.out];have:a.ah[i].same b.ah[i]=false:=by rw[<-Bool.not_eq_true];simp only[aK.same,bN,decide_eq_true_eq];omega
   simp[this]
  ·refine ih.out (i+1) _ _ ?_ (by omega);exact⟨by simp[e2],by simp[e3],by simp[e5,ai hia hl],⟨n2,by simp[s2]⟩,⟨n3,by simp[s3]⟩,hia,⟨by rw[hA.out];simp[aK.same,g']⟩⟩
 ·rw[hA.out];exact QS (by omega)
structure Fr (lo hi:Nat) (s s':ax):Prop where
 out:∀o,(o<lo\/hi<=o)->s' o=s o
theorem Fr.refl(lo hi:Nat)(s:ax):Fr lo hi s s:=⟨fun _ _=>rfl⟩
theorem Fr.trans{lo hi:Nat}{a b c:ax}(h:Fr lo hi a b)(k:Fr lo hi b c):Fr lo hi a c:=⟨fun o ho=>(k.out o ho).trans (h.out o ho)⟩
theorem Fr.aN{lo hi:Nat}{s s':ax}(h:Fr lo hi s s'){o:Nat}(b:Ob)(ho:lo<=o/\o<hi):Fr lo hi s (aN s' o b):=
 ⟨fun q hq=>by rw[I6,if_neg (by omega)];exact h.out q hq⟩
theorem Fr.bF{lo hi:Nat}{s s':ax}(h:Fr lo hi s s'){o:Nat}(b:Ob)(ho:lo<=o/\o<hi):Fr lo hi s (bF s' o b):=
 ⟨fun q hq=>by rw[JL,if_neg (by omega)];exact h.out q hq⟩
def bW(s:ax)(lo hi k:Nat)(x:X)(es:List X):Prop:=(es=[]/\x=.nil)\/(es≠[]/\∃o g n,x=.ref o g k 0 es.length/\s o=⟨g,true,some (.row k es),n⟩/\lo<=o/\o<hi)
theorem bW.one{s:ax}{lo hi k:Nat}{x:X}{es:List X}(h:bW s lo hi k x es):x.one=true/\x.cells=[x]:=by rcases h with⟨_,rfl⟩|⟨_,o,g,n,rfl,_⟩<;>exact⟨rfl,rfl⟩
theorem bW.mK{s:ax}{lo hi k:Nat}{x:X}{es:List X}(h:bW s lo hi k x es)(hd:aT es=true):mK s x=some (.sl true es):=by
 rcases h with⟨rfl,rfl⟩|⟨_,o,g,n,rfl,h,_⟩
 ·rfl
 ·rw[Wm,h];simp[hd]
theorem bW.fr{s s':ax}{lo hi lo' hi' k:Nat}{x:X}{es:List X}(h:bW s lo hi k x es)(hf:Fr lo' hi' s s')(hd:hi<=lo'\/hi'<=lo):bW s' lo hi k x es:=by
 rcases h with⟨rfl,rfl⟩|⟨h0,o,g,n,rfl,h,h1,h2⟩
 ·exact .inl ⟨rfl,rfl⟩
 ·exact .inr ⟨h0,o,g,n,rfl,by rw[hf.out o (by omega)];exact h,h1,h2⟩
theorem eO{oc:Option (X×ax)}{P:X×ax->Prop}{d:Option Nat}{l:List fE}{its:List It}{e:Env}{Q:Env->ax->Prop}(h:∃r,oc=some r/\P r)
 (k:∀r,P r->VJ T (some r) d l its e Q):VJ T oc d l its e Q:=by
 obtain⟨r,rfl,hr⟩:=h;exact k r hr
def sN(lo hi lo' hi':Nat)(s s':ax):Prop:=∀o,(o<lo\/hi<=o)->(o<lo'\/hi'<=o)->s' o=s o
theorem sN.aN{lo hi lo' hi':Nat}{s s':ax}(h:sN lo hi lo' hi' s s'){o:Nat}(b:Ob)(ho:(lo<=o/\o<hi)\/(lo'<=o/\o<hi')):sN lo hi lo' hi' s (aN s' o b):=
 fun q h1 h2=>by rw[I6,if_neg (by omega)];exact h q h1 h2
theorem sN.bF{lo hi lo' hi':Nat}{s s':ax}(h:sN lo hi lo' hi' s s'){o:Nat}(b:Ob)(ho:(lo<=o/\o<hi)\/(lo'<=o/\o<hi')):sN lo hi lo' hi' s (bF s' o b):=
 fun q h1 h2=>by rw[JL,if_neg (by omega)];exact h q h1 h2
end Go.Proofs.YtbmkfjmlepjpfaaGreatDoor
