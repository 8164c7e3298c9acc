/- A part of the proof. -/
import Derived.Test.YtbmkfjmlepjpfaaGreatDoorR
set_option linter.all false
set_option maxRecDepth 100000
namespace Go.Proofs.YtbmkfjmlepjpfaaGreatDoor
open Go.RowKit
theorem Tg{T:Nat->Option Fe}{p:List Nat}{f:Nat}{xs:List X}{x:X×Option (Nat×List X)}:uO (run T) T p f xs=some x↔∃n,uO (runN T n) T p f xs=some x:=by
 constructor
 ·intro h;unfold uO at h;split at h
  case h_2=>simp at h
  rename_i nt res body hF;split at h
  case isFalse=>simp at h
  rename_i hn;split at h
  case h_2=>simp at h
  rename_i hr;obtain⟨n,hn'⟩:=jm hr;exact⟨n,by simp only[uO,hF,hn,hn',if_true];exact h⟩
 ·rintro⟨n,h⟩;exact D8 (fun its e s x hx=>nA hx) h
theorem MC{T:Nat->Option Fe}{q g:Nat}{l:List X}{s:ax}{x:X×ax}:gZ (run T) q g l s=some x↔∃n,gZ (runN T n) q g l s=some x:=by
 constructor
 ·intro h;unfold gZ at h;split at h
  case h_2=>simp at h
  rename_i e ps a b ho;split at h
  case isFalse=>simp at h
  rename_i hc;cases hr:run T [.code a,.Ri q g,.code b,.Rj q g] (puts e ps l) s with
  | none=>rw[hr]at h;simp[Dm]at h
  | some z=>
   obtain⟨n,hn⟩:=jm hr;refine⟨n,?_⟩;simp only[gZ,ho];rw[if_pos hc,hn,<-hr];exact h
 ·rintro⟨n,h⟩;exact y5 (fun its e s x hx=>nA hx) h
theorem JG{T:Nat->Option Fe}{q:Nat}{x:X}{ps:List Nat}{a b:IC}{e:Env}{s:ax}{y:Option (Option Nat)×ax}:n_ (run T) T q x ps a b e s=some y↔∃n,n_ (runN T n) T q x ps a b e s=some y:=by
 constructor
 ·intro h;unfold n_ at h;split at h
  case h_2=>simp at h
  rename_i f cs;cases hr:bZ (run T) T f (.Dq q ((s q).g+1)::cs) (aN s q (.lp e ps a b .ready))with
  | none=>rw[hr]at h;simp[ZM]at h
  | some z=>
   obtain⟨n,hn⟩:=oD.1 hr;refine⟨n,?_⟩;simp only[n_];rw[hn,<-hr];exact h
 ·rintro⟨n,h⟩;exact xY (fun its e s x hx=>nA hx) h
theorem Nr{T:Nat->Option Fe}{op:iw}{e:Env}{s:ax}{x:X×ax}:dB (run T) T op e s=some x↔∃n,dB (runN T n) T op e s=some x:=by
 have hS:∀ {st f l},iM (run T) T st f l s=some x↔∃n,iM (runN T n) T st f l s=some x:=by
  intro st f l;constructor
  ·intro h;unfold iM at h;split at h
   ·simp at h
   ·rename_i xs hx;split at h
    ·simp at h
    ·rename_i r hr;obtain⟨n,hn⟩:=oC.1 hr;exact⟨n,by simp only[iM,hx,hn];exact h⟩
  ·rintro⟨n,h⟩;exact pq (fun its e s x hx=>nA hx) h
 constructor
 ·intro h;unfold dB at h;split at h
  ·obtain⟨n,hn⟩:=hS.1 h;exact⟨n,hn⟩
  ·split at h
   ·rename_i hf;obtain⟨n,hn⟩:=hS.1 h;exact⟨n,by simp only[dB,hf];exact hn⟩
   ·simp at h
  ·obtain⟨n,hn⟩:=oD.1 h;exact⟨n,hn⟩
  ·rename_i f l;unfold tO at h;split at h
   ·simp at h
   ·rename_i xs hx;split at h
    ·simp at h
    ·rename_i r hr;obtain⟨n,hn⟩:=oC.1 hr;exact⟨n,by simp only[dB,tO,hx,hn];exact h⟩
  ·unfold qH at h;split at h
   ·simp at h
   ·rename_i xs hx;cases ho:uO (run T) T _ _ xs with
    | none=>rw[ho]at h;simp[jy]at h
    | some y=>
     obtain⟨n,hn⟩:=Tg.1 ho;refine⟨n,?_⟩;simp only[dB,qH,hx,hn];rw[ho]at h
     exact h
  ·split at h
   ·rename_i hf;split at h
    ·rename_i hd;obtain⟨n,hn⟩:=hS.1 h;exact⟨n,by simp only[dB,hf,if_pos hd];exact hn⟩
    ·rename_i hd;obtain⟨n,hn⟩:=oD.1 h;exact⟨n,by simp only[dB,hf,if_neg hd];exact hn⟩
   ·rename_i hf;obtain⟨n,hn⟩:=oD.1 h;exact⟨n,by simp only[dB,hf];exact hn⟩
   ·rename_i hf;obtain⟨n,hn⟩:=MC.1 h;exact⟨n,by simp only[dB,hf];exact hn⟩
   ·simp at h
  ·refine⟨0,?_⟩;unfold dB;split
   ·simp[aB]at h
   ·simp[aB]at h
   ·simp[aB]at h
   ·simp[aB]at h
   ·simp[aB]at h
   ·simp[aB]at h
   ·exact h
 ·rintro⟨n,h⟩;exact wJ (fun its e s x hx=>nA hx) h
theorem Ct{T:Nat->Option Fe}{o:fE}{l:List fE}{k:List It}{e:Env}{s:ax}:run T (.ops (o::l)::k) e s=match gd o e with
 | some true=>(match dB (run T) T o.op e s with
  | some (x,s')=>run T (.ops l::k) (put e o.d x) s'
  | none=>none)
 | some false=>run T (.ops l::k) (put e o.d (.cZ [])) s
 | none=>none:=by
 have nn:∀ {its:List It} {e:Env} {s:ax},(∀n,runN T (n+1) its e s=none)->run T its e s=none:=by
  intro its e s h;cases hr:run T its e s with
  | none=>rfl
  | some x=>
   obtain⟨n,hn⟩:=jm hr;have:=xZ T n _ _ _ _ hn;rw[h n]at this
   simp at this
 cases hg:gd o e with
 | none=>exact nn fun n=>by rw[runN];simp only[hg]
 | some g=>
  cases g with
  | false=>exact YD hg
  | true=>
   simp only;cases ho:dB (run T) T o.op e s with
   | some p=>
    obtain⟨x,s'⟩:=p;obtain⟨m,hm⟩:=Nr.1 ho;simp only;apply Ab;intro y;constructor
    ·rintro⟨n,hn⟩;have hn:=jr T (Nat.le_add_right n (m+1)) _ _ _ _ hn;rw[show n+(m+1)=(n+m)+1 by omega,runN]at hn
     simp only[hg,wJ (jr T (by omega:m<=n+m)) hm]at hn;exact⟨_,hn⟩
    ·rintro⟨n,hn⟩;have hn:=jr T (Nat.le_add_right n m) _ _ _ _ hn;refine⟨n+m+1,?_⟩;rw[runN];simp only[hg,wJ (jr T (by omega:m<=n+m)) hm];exact hn
   | none=>
    refine nn fun n=>?_;rw[runN];simp only[hg];split
    ·rename_i h;rw[Nr.2 ⟨n,h⟩]at ho
     simp at ho
    ·rfl
def wp(T:Nat->Option Fe)(its:List It)(e:Env)(s:ax)(Q:Env->ax->Prop):Prop:=∃e' s',run T its e s=some (e',s')/\Q e' s'
def wpC(T:Nat->Option Fe)(x:X)(a b:IC)(k:List It)(e:Env)(s:ax)(Q:Env->ax->Prop):Prop:=
 match x with
 | .v (.bool t)=>wp T (.code (cond t a b)::k) e s Q
 | _=>False
def VJ(T:Nat->Option Fe)(r:Option (X×ax))(d:Option Nat)(l:List fE)(k:List It)(e:Env)(Q:Env->ax->Prop):Prop:=
 match r with
 | some (x,s')=>wp T (.ops l::k) (put e d x) s' Q
 | none=>False
def Gx(T:Nat->Option Fe)(x:X)(b:Bool)(d:Option Nat)(op:iw)(l:List fE)(k:List It)(e:Env)(s:ax)(Q:Env->ax->Prop):Prop:=
 match x with
 | .v (.bool c)=>if c=b then VJ T (dB (run T) T op e s) d l k e Q else wp T (.ops l::k) (put e d (.cZ [])) s Q
 | .cZ []=>wp T (.ops l::k) (put e d (.cZ [])) s Q
 | _=>False
def wpK(T:Nat->Option Fe)(c:Bool)(k:List It)(e:Env)(s:ax)(Q:Env->ax->Prop):Prop:=c=true/\wp T k e s Q
section
variable {T:Nat->Option Fe} {k:List It} {e:Env} {s:ax} {Q:Env->ax->Prop}
theorem jD{its its':List It}{e':Env}{s':ax}(h:run T its e s=run T its' e' s'):wp T its e s Q=wp T its' e' s' Q:=by unfold wp;rw[h]
theorem wp_nil:wp T [] e s Q=Q e s:=by unfold wp;rw[YC];simp[and_assoc]
theorem wp_ret:wp T (.code .ret::k) e s Q=Q e s:=by unfold wp;rw[YF];simp[and_assoc]
theorem wp_skip:wp T (.code .skip::k) e s Q=wp T k e s Q:=jD Vj
theorem wp_ops(l:List fE):wp T (.code (.ops l)::k) e s Q=wp T (.ops l::k) e s Q:=jD (YE l)
theorem Zn(ch js:List Nat)(l m:List fE):wp T (.code (.aH ch js l m)::k) e s Q=wp T (.ops l::.Wd ch (js.filterMap fun j=>l[j]?) s::.ops m::k) e s Q:=jD (Vf ch js l m)
theorem wp_seq(a b:IC):wp T (.code (.seq a b)::k) e s Q=wp T (.code a::.code b::k) e s Q:=jD (run_seq a b)
theorem VP(c:IC):wp T (.code (.scope c)::k) e s Q=wp T (.code c::k) e s Q:=jD (QN c)
theorem wp_block(id:Nat)(c:IC):wp T (.code (.block id c)::k) e s Q=wp T (.code c::.bl id::k) e s Q:=jD (QM id c)
theorem wp_loop(c:IC):wp T (.code (.loop c)::k) e s Q=wp T (.lp c::k) e s Q:=jD (Vh c)
theorem gD(c:IC):wp T (.lp c::k) e s Q=wp T (.code c::.lp c::k) e s Q:=jD (run_lp c)
theorem wp_bl(id:Nat):wp T (.bl id::k) e s Q=wp T k e s Q:=jD (run_bl id)
theorem Mx:wp T (.ops []::k) e s Q=wp T k e s Q:=jD JH
def wpX(T:Nat->Option Fe)(k:Option (List It))(e:Env)(s:ax)(Q:Env->ax->Prop):Prop:=match k with
 | some k=>wp T k e s Q
 | none=>False
theorem Vi{its:List It}(h:∀n,runN T (n+1) its e s=none):run T its e s=none:=by
 cases hr:run T its e s with
 | none=>rfl
 | some x=>
  obtain⟨n,hn⟩:=jm hr;have:=xZ T n _ _ _ _ hn;rw[h n]at this
  simp at this
theorem mH{its:List It}(h:∀n,runN T (n+1) its e s=none):wp T its e s Q=False:=by unfold wp;rw[Vi h];simp
theorem wp_exit(id:Nat):wp T (.code (.exit id)::k) e s Q=wpX T (bS id k) e s Q:=by
 cases h:bS id k with
 | some k'=>exact jD (Vg h)
 | none=>exact mH fun n=>by rw[runN,h]
theorem VN:wpX T (some k) e s Q=wp T k e s Q:=rfl
theorem Tk(id:Nat):bS id (.bl id::k)=some k:=by simp[bS]
theorem Je{id id':Nat}(h:(id'==id)=false):bS id (.bl id'::k)=bS id k:=by simp[bS,h]
theorem K3(id:Nat)(c:IC):bS id (.code c::k)=bS id k:=by simp[bS]
theorem Tn(id:Nat)(c:IC):bS id (.lp c::k)=bS id k:=by simp[bS]
theorem Qt(id:Nat)(l:List fE):bS id (.ops l::k)=bS id k:=by simp[bS]
theorem Qp(id q g:Nat):bS id (.Ri q g::k)=bS id k:=by simp[bS]
theorem Qr(id q g:Nat):bS id (.Rj q g::k)=bS id k:=by simp[bS]
theorem Qs(id:Nat):bS id []=none:=rfl
def wpS(T:Nat->Option Fe)(o:Option ax)(k:List It)(e:Env)(Q:Env->ax->Prop):Prop:=match o with
 | some s=>wp T k e s Q
 | none=>False
theorem VL:wpS T (some s) k e Q=wp T k e s Q:=rfl
def wpE(o:Option ax)(e:Env)(Q:Env->ax->Prop):Prop:=match o with
 | some s=>Q e s
 | none=>False
theorem VH:wpE (some s) e Q=Q e s:=rfl
theorem Mw{its:List It}{s':ax}(h:∀n,runN T (n+1) its e s=some (e,s')):wp T its e s Q=Q e s':=by unfold wp;rw[Cs h];simp[and_assoc]
theorem wp_bgn(q g:Nat):wp T (.Ri q g::k) e s Q=wpS T (J6 s q g) k e Q:=by
 cases h:J6 s q g with
 | some s'=>exact jD (eD fun n=>by rw[runN];simp only[h])
 | none=>exact mH fun n=>by rw[runN];simp only[h]
theorem wp_eor(q g:Nat):wp T (.Rj q g::k) e s Q=wpE (Kz s q g) e Q:=by
 cases h:Kz s q g with
 | some s'=>exact Mw fun n=>by rw[runN];simp only[h]
 | none=>exact mH fun n=>by rw[runN];simp only[h]
theorem Zo(q:Nat):wp T (.code (.Vb q)::k) e s Q=wpE (zq s q none) e Q:=by
 cases h:zq s q none with
 | some s'=>exact Mw fun n=>by rw[runN];simp only[h]
 | none=>exact mH fun n=>by rw[runN];simp only[h]
def wpEX(k:Option (List It))(o:Option ax)(e:Env)(Q:Env->ax->Prop):Prop:=match k with
 | none=>wpE o e Q
 | some _=>False
theorem Q_(o:Option ax):wpEX none o e Q=wpE o e Q:=rfl
theorem VO(q id:Nat):wp T (.code (.JF q id)::k) e s Q=wpEX (bS id k) (zq s q (some id)) e Q:=by
 cases hp:bS id k with
 | some k'=>exact mH fun n=>by rw[runN];simp only[hp]
 | none=>
  cases h:zq s q (some id)with
  | some s'=>exact Mw fun n=>by rw[runN];simp only[hp,h]
  | none=>exact mH fun n=>by rw[runN];simp only[hp,h]
theorem Qq(id:Nat)(a:List Nat)(b:List fE)(c:ax):bS id (.Wd a b c::k)=bS id k:=by simp[bS]
theorem wp_cond(c:Ar)(a b:IC):wp T (.code (.cond c a b)::k) e s Q=wpC T (c.ev e) a b k e s Q:=by
 unfold wpC;split
 ·rename_i t h;unfold wp;rw[Ve h];cases t<;>rfl
 ·rename_i h;refine mH fun n=>?_
  rw[runN];split
  ·rename_i t h';exact absurd h' (h t)
  ·rfl
theorem VG(a b:IC):wpC T (.v (.bool true)) a b k e s Q=wp T (.code a::k) e s Q:=rfl
theorem Q9(a b:IC):wpC T (.v (.bool false)) a b k e s Q=wp T (.code b::k) e s Q:=rfl
theorem aj{c:Bool}{a b:IC}(h1:c=true->wp T (.code a::k) e s Q)(h2:c=false->wp T (.code b::k) e s Q):wpC T (.v (.bool c)) a b k e s Q:=by
 cases c
 ·exact h2 rfl
 ·exact h1 rfl
theorem wp_op(d:Option Nat)(op:iw)(l:List fE):wp T (.ops (⟨d,none,op⟩::l)::k) e s Q=VJ T (dB (run T) T op e s) d l k e Q:=by
 unfold wp;rw[Ct];simp only[gd];unfold VJ wp;cases dB (run T) T op e s with
 | some p=>rfl
 | none=>simp
theorem VK(x:X)(s':ax)(d:Nat)(l:List fE):VJ T (some (x,s')) (some d) l k e Q=wp T (.ops l::k) (upd e d x) s' Q:=rfl
theorem Rb(x:X)(s':ax)(l:List fE):VJ T (some (x,s')) none l k e Q=wp T (.ops l::k) e s' Q:=rfl
theorem wp_gop(d:Option Nat)(t:Nat)(b:Bool)(op:iw)(l:List fE):wp T (.ops (⟨d,some (t,b),op⟩::l)::k) e s Q=Gx T (e t) b d op l k e s Q:=by
 unfold wp;rw[Ct];simp only[gd];unfold Gx;split
 ·rename_i h;split at h
  ·rename_i c hc;simp only[aW,beq_iff_eq]at h;subst h;simp only[hc,if_true];unfold VJ wp;cases dB (run T) T op e s with
   | none=>simp
   | some p=>rfl
  ·simp at h
  ·simp at h
 ·rename_i h;split at h
  ·rename_i c hc;simp only[aW,beq_eq_false_iff_ne]at h;simp only[hc,if_neg h];rfl
  ·rename_i hc;simp only[hc];rfl
  ·simp at h
 ·rename_i h;split at h
  ·simp at h
  ·simp at h
  ·rename_i h1 h2;split
   ·rename_i c hc;exact absurd hc (h1 c)
   ·rename_i hc;exact absurd hc h2
   ·simp
theorem wpG_on(b:Bool)(d:Option Nat)(op:iw)(l:List fE):Gx T (.v (.bool b)) b d op l k e s Q=VJ T (dB (run T) T op e s) d l k e Q:=by simp[Gx]
theorem wpG_tf(d:Nat)(op:iw)(l:List fE):Gx T (.v (.bool true)) false (some d) op l k e s Q=wp T (.ops l::k) (upd e d (.cZ [])) s Q:=by simp[Gx,put]
theorem wpG_ft(d:Nat)(op:iw)(l:List fE):Gx T (.v (.bool false)) true (some d) op l k e s Q=wp T (.ops l::k) (upd e d (.cZ [])) s Q:=by simp[Gx,put]
theorem wpG_un(b:Bool)(d:Nat)(op:iw)(l:List fE):Gx T (.cZ []) b (some d) op l k e s Q=wp T (.ops l::k) (upd e d (.cZ [])) s Q:=by simp[Gx,put]
theorem Zl(op:iw)(l:List fE):Gx T (.v (.bool true)) false none op l k e s Q=wp T (.ops l::k) e s Q:=by simp[Gx,put]
theorem Zk(op:iw)(l:List fE):Gx T (.v (.bool false)) true none op l k e s Q=wp T (.ops l::k) e s Q:=by simp[Gx,put]
theorem Zm(b:Bool)(op:iw)(l:List fE):Gx T (.cZ []) b none op l k e s Q=wp T (.ops l::k) e s Q:=by simp[Gx,put]
theorem bg{c b:Bool}{d:Option Nat}{op:iw}{l:List fE}(h1:c=true->Gx T (.v (.bool true)) b d op l k e s Q)(h2:c=false->Gx T (.v (.bool false)) b d op l k e s Q):Gx T (.v (.bool c)) b d op l k e s Q:=by
 cases c
 ·exact h2 rfl
 ·exact h1 rfl
theorem wp_chk(ch:List Nat)(js:List fE)(s0:ax):wp T (.Wd ch js s0::k) e s Q=wpK T (vJ ch js s0 e s) k e s Q:=by
 unfold wpK;cases h:vJ ch js s0 e s with
 | true=>rw[jD (YB h)];simp
 | false=>rw[mH fun n=>by rw[runN,if_neg (by simp[h])]];simp
theorem VI:wpK T true k e s Q=wp T k e s Q:=by simp[wpK]
def wpL(T:Nat->Option Fe)(y:Option (Option (Option Nat)×ax))(k:List It)(e:Env)(Q:Env->ax->Prop):Prop:=match y with
 | some (none,s')=>wp T k e s' Q
 | some (some none,s')=>Q e s'
 | some (some (some id),s')=>wpX T (bS id k) e s' Q
 | none=>False
theorem wp_rng(q:Nat)(g:Ar)(ps:List Nat)(a b:IC):wp T (.code (.U_ q g ps a b)::k) e s Q=wpL T (n_ (run T) T q (g.ev e) ps a b e s) k e Q:=by
 cases h:n_ (run T) T q (g.ev e) ps a b e s with
 | none=>
  refine mH fun n=>?_;rw[runN];cases h':n_ (runN T n) T q (g.ev e) ps a b e s with
  | none=>rfl
  | some y=>rw[JG.2 ⟨n,h'⟩]at h;simp at h
 | some y=>
  obtain⟨j,s'⟩:=y;obtain⟨m,hm⟩:=JG.1 h;have up:∀n,n_ (runN T (n+m)) T q (g.ev e) ps a b e s=some (j,s'):=fun n=>xY (jr T (by omega)) hm;rcases j with _|_|id
  ·refine jD (Ab fun x=>⟨fun⟨n,hn⟩=>?_,fun⟨n,hn⟩=>⟨n+m+1,?_⟩⟩)
   ·have hn:=jr T (Nat.le_add_right n (m+1)) _ _ _ _ hn;rw[show n+(m+1)=(n+m)+1 by omega,runN,up n]at hn
    exact⟨_,hn⟩
   ·rw[runN,up n];exact jr T (Nat.le_add_right n m) _ _ _ _ hn
  ·unfold wpL wp;have:run T (.code (.U_ q g ps a b)::k) e s=some (e,s'):=nA (n:=m+1) (by rw[runN,show m=0+m by omega,up 0]);rw[this];simp[and_assoc]
  ·cases hp:bS id k with
   | some k'=>
    simp only[wpL,hp,wpX];refine jD (Ab fun x=>⟨fun⟨n,hn⟩=>?_,fun⟨n,hn⟩=>⟨n+m+1,?_⟩⟩)
    ·have hn:=jr T (Nat.le_add_right n (m+1)) _ _ _ _ hn;rw[show n+(m+1)=(n+m)+1 by omega,runN,up n]at hn
     simp only[hp]at hn;exact⟨_,hn⟩
    ·rw[runN,up n];simp only[hp];exact jr T (Nat.le_add_right n m) _ _ _ _ hn
   | none=>
    have:run T (.code (.U_ q g ps a b)::k) e s=none:=by
     cases hr:run T (.code (.U_ q g ps a b)::k) e s with
     | none=>rfl
     | some x=>
      obtain⟨n,hn⟩:=jm hr;have hn:=jr T (Nat.le_add_right n (m+1)) _ _ _ _ hn;rw[show n+(m+1)=(n+m)+1 by omega,runN,up n]at hn
      simp[hp]at hn
    simp only[wpL,hp,wpX];unfold wp;rw[this];simp
theorem wp_mono{its:List It}{Q':Env->ax->Prop}(h:wp T its e s Q)(hq:∀e s,Q e s->Q' e s):wp T its e s Q':=by obtain⟨e',s',h1,h2⟩:=h;exact⟨e',s',h1,hq _ _ h2⟩
structure Hd (p:Prop):Prop where
 out:p
theorem av{σ:Type}{c:IC}(I:σ->Env->ax->Prop)(μ:σ->Nat)
 (h:∀x e s,I x e s->Hd (∀y e' s',I y e' s'->μ y<μ x->wp T (.lp c::k) e' s' Q)->wp T (.code c::.lp c::k) e s Q) :
 ∀x e s,I x e s->wp T (.lp c::k) e s Q:=by
 have:∀n x e s,μ x<n->I x e s->wp T (.lp c::k) e s Q:=by
  intro n;induction n with
  | zero=>intro x e s hn;omega
  | succ n ih=>
   intro x e s hn hi;rw[gD];exact h x e s hi ⟨fun y e' s' hy hlt=>ih y e' s' (by omega) hy⟩
 intro x e s hi;exact this (μ x+1) x e s (by omega) hi
theorem Zj{α:Type}(f:Nat->α)(d:Nat)(x:α)(n:Nat):upd f d x n=if n=d then x else f n:=rfl
theorem M5(s:ax)(l:List Nat)(o:Nat):gX s l o=if o∈l then(s o).fz else s o:=rfl
theorem Wy(n:Nat):bG [] n=.junk:=rfl
theorem Sr(x:X)(l:List X):bG (x::l) 0=x:=rfl
theorem ini_1(x a:X)(l:List X):bG (x::a::l) 1=a:=rfl
theorem ini_2(x a b:X)(l:List X):bG (x::a::b::l) 2=b:=rfl
theorem ini_3(x a b c:X)(l:List X):bG (x::a::b::c::l) 3=c:=rfl
theorem ini_4(x a b c d:X)(l:List X):bG (x::a::b::c::d::l) 4=d:=rfl
theorem ini_5(x a b c d f:X)(l:List X):bG (x::a::b::c::d::f::l) 5=f:=rfl
def AU(o:Option X)(st:Bool)(nm:List Nat)(s:ax):Option (X×ax):=match o with
 | none=>none
 | some r=>if r.fM=true then some (r,s)else if st=true then(if qt s nm=true then some (r,s)else none)else some (r,gX s nm)
theorem Kn(r:X)(st:Bool)(nm:List Nat)(s:ax):AU (some r) st nm s=if r.fM=true then some (r,s)else if st=true then(if qt s nm=true then some (r,s)else none)else some (r,gX s nm):=rfl
noncomputable def yh(T:Nat->Option Fe)(f:Nat)(xs:Option (List X))(st:Bool)(nm:List Nat)(s:ax):Option (X×ax):=match xs with
 | none=>none
 | some xs=>AU (call T f xs) st nm s
theorem Kk(f:Nat)(xs:List X)(st:Bool)(nm:List Nat)(s:ax):yh T f (some xs) st nm s=AU (call T f xs) st nm s:=rfl
theorem Tc(st:Bool)(f:Nat)(l:List Ar):dB (run T) T (.call st f l) e s=yh T f (vO s (l.map (Ar.ev e))) st ((l.map (Ar.ev e)).flatMap nJ) s:=by
 simp only[dB,iM,yh];cases vO s (l.map (Ar.ev e))with
 | none=>rfl
 | some xs=>
  simp only;cases h:jG (run T) T f xs with
  | none=>simp[call,h,AU]
  | some r=>simp[call,h,AU]
noncomputable def RG(T:Nat->Option Fe)(x:X)(l:List X)(st:Bool)(s:ax):Option (X×ax):=match x with
 | .fn g cs=>yh T g (vO s (l++cs)) st ((l++cs).flatMap nJ) s
 | _=>none
theorem RH(g:Nat)(cs l:List X)(st:Bool)(s:ax):RG T (.fn g cs) l st s=yh T g (vO s (l++cs)) st ((l++cs).flatMap nJ) s:=rfl
theorem Qj(st:Bool)(f:Ar)(l:List Ar):dB (run T) T (.gN st f l) e s=RG T (f.ev e) (l.map (Ar.ev e)) st s:=by
 simp only[dB,RG];cases h:f.ev e with
 | fn g cs=>
  simp only[iM,yh];cases vO s (l.map (Ar.ev e)++cs)with
  | none=>rfl
  | some xs=>
   simp only;cases h:jG (run T) T g xs with
   | none=>simp[call,h,AU]
   | some r=>simp[call,h,AU]
 | _=>rfl
noncomputable def AR(o:Option X)(s:ax):Option (X×ax):=match o with
 | none=>none
 | some r=>if r.fM=true then some (r,s)else none
@[simp] theorem Zw(r:X)(s:ax):AR (some r) s=if r.fM=true then some (r,s)else none:=rfl
noncomputable def Ki(T:Nat->Option Fe)(f:Nat)(xs:Option (List X))(s:ax):Option (X×ax):=match xs with
 | none=>none
 | some xs=>AR (call T f xs) s
@[simp] theorem Zv(f:Nat)(xs:List X)(s:ax):Ki T f (some xs) s=AR (call T f xs) s:=rfl
@[simp] theorem opR_callb(f:Nat)(l:List Ar):dB (run T) T (.lu f l) e s=Ki T f (zm s (l.map (Ar.ev e))) s:=by
 simp only[dB,tO,Ki];cases zm s (l.map (Ar.ev e))with
 | none=>rfl
 | some xs=>
  simp only;cases h:jG (run T) T f xs with
  | none=>simp[call,h,AR]
  | some r=>simp[call,h,AR]
noncomputable def BJ(T:Nat->Option Fe)(p:List Nat)(f:Nat)(xs:List X):Option (X×Option (Nat×List X)):=uO (run T) T p f xs
noncomputable def Kl(T:Nat->Option Fe)(st:Bool)(p:List Nat)(q f:Nat)(nm:List Nat)(s:ax)(xs:Option (List X)):Option (X×ax):=match xs with
 | none=>none
 | some xs=>jy st p q nm s (BJ T p f xs)
@[simp] theorem Zx(st:Bool)(p:List Nat)(q f:Nat)(nm:List Nat)(s:ax)(xs:List X):Kl T st p q f nm s (some xs)=jy st p q nm s (BJ T p f xs):=rfl
@[simp] theorem Zz(st:Bool)(p:List Nat)(q:Nat)(nm:List Nat)(s:ax)(r:X)(k:Nat)(es:List X):jy st p q nm s (some (r,some (k,es))) =
 if(st=true/\¬(nm=[]))\/q∈nm then none else some (plug p r (.ref q ((s q).g+1) k 0 es.length),aN (gX s nm) q (.row k es)):=rfl
@[simp] theorem Zy(st:Bool)(p:List Nat)(q:Nat)(nm:List Nat)(s:ax)(r:X):jy st p q nm s (some (r,none)) =
 if st=true/\¬(nm=[])then none else some (plug p r .nil,gX s nm):=rfl
@[simp] theorem opR_callo(st:Bool)(p:List Nat)(q f:Nat)(l:List Ar):dB (run T) T (.bU st p q f l) e s=Kl T st p q f ((l.map (Ar.ev e)).flatMap nJ) s (vO s (l.map (Ar.ev e))):=by simp only[dB,qH,Kl,BJ];cases vO s (l.map (Ar.ev e))<;>rfl
noncomputable def G7(T:Nat->Option Fe)(x:X)(l:List X)(s:ax):Option (X×ax):=match x with
 | .fn g cs=>if aT cs=true then yh T g (vO s (l++cs)) false ((l++cs).flatMap nJ) s else bZ (run T) T g (l++cs) s
 | .fm g cs=>bZ (run T) T g (cs++l) s
 | .Dq q g=>gZ (run T) q g l s
 | _=>none
@[simp] theorem callW_yld(q g:Nat)(l:List X)(s:ax):G7 T (.Dq q g) l s=gZ (run T) q g l s:=rfl
@[simp] theorem callW_fm(g:Nat)(cs l:List X)(s:ax):G7 T (.fm g cs) l s=bZ (run T) T g (cs++l) s:=rfl
@[simp] theorem callW_fn(g:Nat)(cs l:List X)(s:ax):G7 T (.fn g cs) l s=if aT cs=true then yh T g (vO s (l++cs)) false ((l++cs).flatMap nJ) s else bZ (run T) T g (l++cs) s:=rfl
@[simp] theorem opR_callw(f:Ar)(l:List Ar):dB (run T) T (.gW f l) e s=G7 T (f.ev e) (l.map (Ar.ev e)) s:=by simp only[dB,G7];cases f.ev e<;>rfl
theorem BL{p:List Nat}{f nt:Nat}{res:List gQ}{body:IC}{xs:List X}{x:X×Option (Nat×List X)}(hT:T f=some (.code nt res body))(hn:xs.length<=nt)
 (h:wp T [.code body] (bG xs) s0 (fun e s=>∃r,dX e s res=some r/\uP s (oM p r) (nk s p r)=some x)):BJ T p f xs=some x:=by
 obtain⟨e',s',hr,r,hx,ho⟩:=h;simp only[BJ,uO,hT,if_pos hn,hr,hx,ho]
theorem Qi(f:Nat)(l:List Ar):dB (run T) T (.bO f l) e s=bZ (run T) T f (l.map (Ar.ev e)) s:=rfl
theorem ak{f nt:Nat}{res:List gQ}{body:IC}{xs:List X}{x:X}(hT:T f=some (.code nt res body))(hn:xs.length<=nt)
 (h:wp T [.code body] (bG xs) s0 (fun e s=>aC e s res=some x)):call T f xs=some x:=by
 obtain⟨e',s',hr,hx⟩:=h;exact DC hT hn hr hx
theorem fF{f nt:Nat}{res:List gQ}{body:IC}{xs:List X}{s:ax}{P:X×ax->Prop}(hT:T f=some (.code nt res body))(hn:xs.length<=nt)
 (h:wp T [.code body] (bG xs) s (fun e s'=>∃x,dX e s' res=some x/\P (x,s'))):∃r,bZ (run T) T f xs s=some r/\P r:=by
 obtain⟨e',s',hr,x,hx,hp⟩:=h;exact⟨(x,s'),by simp only[bZ,hT,if_pos hn,hr,hx],hp⟩
end
attribute [simp] wp_nil wp_ret wp_skip wp_ops Zn wp_seq VP wp_block wp_loop wp_bl Mx wp_exit VN Tk K3 Tn Qt Qq wp_cond VG Q9 wp_op VK Rb wp_gop
 wpG_on wpG_tf wpG_ft wpG_un Zl Zk Zm VI wp_chk Zj M5 M6 Wy Sr ini_1 ini_2 ini_3 ini_4 ini_5 Kn Kk RH Tc Qj Qi Qp Qr Qs VL VH wp_bgn wp_eor Zo Q_ VO wp_rng
@[simp] theorem popTo_ne(id id':Nat)(k:List It)(h:¬id'=id):bS id (.bl id'::k)=bS id k:=Je (by simpa using h)
@[simp] theorem ev_t(e:Env)(n:Nat):Ar.ev e (.t n)=e n:=rfl
@[simp] theorem ev_k(e:Env)(x:X):Ar.ev e (.k x)=x:=rfl
@[simp] theorem nat_inj(a b:Nat):((a:Int)=(b:Int))=(a=b):=by apply propext;omega
theorem aP{x:SO}{g:Nat}{wr:Bool}{o:Option Ob}(h1:x.g=g)(h2:x.wr=wr)(h3:x.o=o):∃n,x=⟨g,wr,o,n⟩:=⟨x.n,by cases x;simp_all⟩
@[simp] theorem Zf{α β:Type}(f:α->β)(l:List α):(l.map f).take l.length=l.map f:=wU (by simp)
theorem zK(a b:Int):(a==b)=decide (a=b):=by by_cases h:a=b<;>simp[h]
section
variable {r:List It->Env->ax->Option (Env×ax)} {T:Nat->Option Fe} {e:Env} {s:ax}
@[simp] theorem opR_mov(a:Ar):dB r T (.bM a) e s=some (a.ev e,s):=rfl
def Ti(c a b:X)(s:ax):Option (X×ax):=match c with
 | .v (.bool t)=>some (cond t a b,s)
 | _=>none
@[simp] theorem opR_pick(c a b:Ar):dB r T (.pick c a b) e s=Ti (c.ev e) (a.ev e) (b.ev e) s:=by simp only[dB,aB,Ti];cases c.ev e<;>rfl
@[simp] theorem pickR_v(t:Bool)(a b:X):Ti (.v (.bool t)) a b s=some (cond t a b,s):=rfl
@[simp] theorem opR_box(o:Nat)(a:Ar):dB r T (.box o a) e s=if(a.ev e).cells.all X.one=true then some (.ptr o ((s o).g+1) 0,aN s o (.box (a.ev e)))else none:=rfl
@[simp] theorem opR_boxI(a:Ar):dB r T (.Aj a) e s=if(a.ev e).deep=true/\(a.ev e).cells.all X.one=true then some (.ip (a.ev e) 0,s)else none:=rfl
def J9(o:Option (List X))(s:ax):Option (X×ax):=match o with
 | some cs=>some (.agg cs,s)
 | none=>none
@[simp] theorem Zu(cs:List X):J9 (some cs) s=some (.agg cs,s):=rfl
@[simp] theorem opR_build(z:List X)(ps:List (Nat×Nat×Ar)):dB r T (.build z ps) e s=J9 (fill e z ps) s:=by simp only[dB,aB,J9];split<;>simp_all
def bslR(o k n:Nat)(x:Option (List X×List Nat))(s:ax):Option (X×ax):=match x with
 | some (es,nm)=>if o∈nm then none else some (.ref o ((s o).g+1) k 0 n,gX (aN s o (.row k es)) nm)
 | none=>none
@[simp] theorem bslR_some(o k n:Nat)(es:List X)(nm:List Nat):bslR o k n (some (es,nm)) s=if o∈nm then none else some (.ref o ((s o).g+1) k 0 n,gX (aN s o (.row k es)) nm):=rfl
@[simp] theorem opR_bsl(o k n:Nat)(z:X)(ps:List (Nat×Ar)):dB r T (.lg o k n z ps) e s=bslR o k n (jH e s k (List.replicate n z) ps) s:=by simp only[dB,aB,bslR];split<;>simp_all
def RB(x:Option (List X×List Nat))(s:ax):Option (X×ax):=match x with
 | some (es,[])=>some (.sl true es,s)
 | _=>none
@[simp] theorem bslIR_some(es:List X):RB (some (es,[])) s=some (.sl true es,s):=rfl
@[simp] theorem opR_bslI(k n:Nat)(z:X)(ps:List (Nat×Ar)):dB r T (.jP k n z ps) e s=RB (jH e s k (List.replicate n z) ps) s:=by simp only[dB,aB,RB];split<;>simp_all
@[simp] theorem fill_nil(cs:List X):fill e cs []=some cs:=rfl
@[simp] theorem fill_cons(cs:List X)(j w:Nat)(a:Ar)(l:List (Nat×Nat×Ar)):fill e cs ((j,w,a)::l)=if(a.ev e).cells.length=w/\j+w<=cs.length/\(a.ev e).cells.all X.one=true then fill e (spl cs j (a.ev e).cells) l else none:=rfl
@[simp] theorem fillE_nil(k:Nat)(es:List X):jH e s k es []=some (es,[]):=rfl
def MZ(nm:List Nat)(o:Option (List X×List Nat)):Option (List X×List Nat):=match o with
 | some (es,l)=>some (es,nm++l)
 | none=>none
@[simp] theorem fillC_some(nm l:List Nat)(es:List X):MZ nm (some (es,l))=some (es,nm++l):=rfl
def R8(e:Env)(s:ax)(k i:Nat)(es:List X)(nm:List Nat)(l:List (Nat×Ar))(o:Option X):Option (List X×List Nat):=match o with
 | some x=>if x.cells.length=k/\i<es.length/\x.cells.all X.one=true then MZ nm (jH e s k (es.set i x) l)else none
 | none=>none
@[simp] theorem fillR_some(k i:Nat)(es:List X)(nm:List Nat)(l:List (Nat×Ar))(x:X):R8 e s k i es nm l (some x)=if x.cells.length=k/\i<es.length/\x.cells.all X.one=true then MZ nm (jH e s k (es.set i x) l)else none:=rfl
@[simp] theorem fillE_cons(k i:Nat)(es:List X)(a:Ar)(l:List (Nat×Ar)):jH e s k es ((i,a)::l)=R8 e s k i es (nX (a.ev e)) l (nI s (a.ev e)):=by
 simp only[jH,R8,MZ];split
 ·rename_i x hx;rw[hx];simp only;split
  ·cases jH e s k (es.set i x) l with
   | none=>rfl
   | some p=>rfl
  ·rfl
 ·rename_i hx;rw[hx]
@[simp] theorem retS_mk(x:X):tC (some x) s=some (x,s):=rfl
@[simp] theorem opR_ld(a:Ar)(w:Nat)(ag:Bool):dB r T (.ld a w ag) e s=tC (EX s (a.ev e) w ag) s:=rfl
def stR(o:Option ax):Option (X×ax):=match o with
 | some s=>some (.junk,s)
 | none=>none
@[simp] theorem stR_some:stR (some s)=some (.junk,s):=rfl
@[simp] theorem opR_st(a b:Ar)(w:Nat):dB r T (.st a b w) e s=stR (stX s (a.ev e) (b.ev e) w):=by simp only[dB,aB,stR];split<;>simp_all
def ldP(g j w:Nat)(ag:Bool)(x:SO):Option X:=match x.o with
 | some (.box y)=>if g=x.g then jl y.cells j w ag else none
 | _=>none
@[simp] theorem ldX_ptr(o g j w:Nat)(ag:Bool):EX s (.ptr o g j) w ag=ldP g j w ag (s o):=rfl
@[simp] theorem ldP_box(g j w:Nat)(ag:Bool)(g' n:Nat)(wr:Bool)(y:X):ldP g j w ag ⟨g',wr,some (.box y),n⟩=if g=g' then jl y.cells j w ag else none:=rfl
def ldE(g k i j w:Nat)(ag:Bool)(x:SO):Option X:=match x.o with
 | some (.row k' es)=>if g=x.g/\k=k'/\j+w<=k then(match es[i]? with
  | some y=>jl y.cells j w ag
  | none=>none)else none
 | _=>none
@[simp] theorem ldX_ep(o g k i j w:Nat)(ag:Bool):EX s (.ep o g k i j) w ag=ldE g k i j w ag (s o):=rfl
@[simp] theorem ldE_row(g k i j w:Nat)(ag:Bool)(g' n k':Nat)(wr:Bool)(es:List X):ldE g k i j w ag ⟨g',wr,some (.row k' es),n⟩=if g=g'/\k=k'/\j+w<=k then(match es[i]? with
 | some y=>jl y.cells j w ag
 | none=>none)else none:=rfl
@[simp] theorem ldX_ip(y:X)(j w:Nat)(ag:Bool):EX s (.ip y j) w ag=jl y.cells j w ag:=rfl
def stP(s:ax)(o g j:Nat)(y:X)(w:Nat)(x:SO):Option ax:=match x.o with
 | some (.box z)=>if g=x.g/\x.wr=true/\y.cells.length=w/\j+w<=z.cells.length/\y.cells.all X.one=true then some (bF s o (.box (rJ z j y.cells)))else none
 | _=>none
@[simp] theorem stX_ptr(o g j:Nat)(y:X)(w:Nat):stX s (.ptr o g j) y w=stP s o g j y w (s o):=rfl
@[simp] theorem stP_box(o g j:Nat)(y:X)(w:Nat)(g' n:Nat)(wr:Bool)(z:X):stP s o g j y w ⟨g',wr,some (.box z),n⟩=if g=g'/\wr=true/\y.cells.length=w/\j+w<=z.cells.length/\y.cells.all X.one=true then some (bF s o (.box (rJ z j y.cells)))else none:=rfl
def stE(s:ax)(o g k i j:Nat)(y:X)(w:Nat)(y':Option X)(x:SO):Option ax:=match x.o,y' with
 | some (.row k' es),some y'=>(match es[i]? with
  | some z=>if g=x.g/\k=k'/\x.wr=true/\y'.cells.length=w/\j+w<=k/\y'.cells.all X.one=true/\¬o∈nX y then some (gX (bF s o (.row k (es.set i (rJ z j y'.cells)))) (nX y))else none
  | none=>none)
 | _,_=>none
@[simp] theorem stX_ep(o g k i j:Nat)(y:X)(w:Nat):stX s (.ep o g k i j) y w=stE s o g k i j y w (nI s y) (s o):=rfl
@[simp] theorem stE_row(o g k i j:Nat)(y:X)(w:Nat)(y':X)(g' n k':Nat)(wr:Bool)(es:List X):stE s o g k i j y w (some y') ⟨g',wr,some (.row k' es),n⟩=(match es[i]? with
 | some z=>if g=g'/\k=k'/\wr=true/\y'.cells.length=w/\j+w<=k/\y'.cells.all X.one=true/\¬o∈nX y then some (gX (bF s o (.row k (es.set i (rJ z j y'.cells)))) (nX y))else none
 | none=>none):=rfl
@[simp] theorem opR_nck(a:Ar):dB r T (.VX a) e s=(match a.ev e with
 | .ptr o g j=>if g=(s o).g then some (.ptr o g j,s)else none
 | .ep o g k i j=>if g=(s o).g then some (.ep o g k i j,s)else none
 | .ip x j=>some (.ip x j,s)
 | _=>none):=rfl
def h_(op:BinOp)(x y:X)(s:ax):Option (X×ax):=match x,y with
 | .v x,.v y=>(match jY op x y with
  | some z=>some (.v z,s)
  | none=>none)
 | _,_=>none
@[simp] theorem opR_bin(op:BinOp)(a b:Ar):dB r T (.bin op a b) e s=h_ op (a.ev e) (b.ev e) s:=by simp only[dB,aB,h_];cases a.ev e<;>cases b.ev e<;>rfl
@[simp] theorem Rx(k:IntKind)(a b:Int):h_ .add (.v (.int k a)) (.v (.int k b)) s=some (.v (.int k (k.wrap (a+b))),s):=by simp[h_,jY]
@[simp] theorem binR_sub(k:IntKind)(a b:Int):h_ .sub (.v (.int k a)) (.v (.int k b)) s=some (.v (.int k (k.wrap (a-b))),s):=by simp[h_,jY]
@[simp] theorem Ry(k:IntKind)(a b:Int):h_ .mul (.v (.int k a)) (.v (.int k b)) s=some (.v (.int k (k.wrap (a*b))),s):=by simp[h_,jY]
@[simp] theorem binR_eql(k:IntKind)(a b:Int):h_ .eql (.v (.int k a)) (.v (.int k b)) s=some (.v (.bool (decide (a=b))),s):=by simp[h_,jY];try rw[zK]
@[simp] theorem binR_neq(k:IntKind)(a b:Int):h_ .neq (.v (.int k a)) (.v (.int k b)) s=some (.v (.bool (!decide (a=b))),s):=by simp[h_,jY,bne];try rw[zK]
@[simp] theorem binR_lss(k:IntKind)(a b:Int):h_ .lss (.v (.int k a)) (.v (.int k b)) s=some (.v (.bool (decide (a<b))),s):=by simp[h_,jY]
@[simp] theorem binR_leq(k:IntKind)(a b:Int):h_ .leq (.v (.int k a)) (.v (.int k b)) s=some (.v (.bool (decide (a<=b))),s):=by simp[h_,jY]
@[simp] theorem binR_gtr(k:IntKind)(a b:Int):h_ .gtr (.v (.int k a)) (.v (.int k b)) s=some (.v (.bool (decide (b<a))),s):=by simp[h_,jY]
@[simp] theorem binR_geq(k:IntKind)(a b:Int):h_ .geq (.v (.int k a)) (.v (.int k b)) s=some (.v (.bool (decide (b<=a))),s):=by simp[h_,jY]
@[simp] theorem binR_seql(a b:ByteArray):h_ .eql (.v (.string a)) (.v (.string b)) s=some (.v (.bool (a.toList==b.toList)),s):=by simp[h_,jY]
@[simp] theorem binR_sneq(a b:ByteArray):h_ .neq (.v (.string a)) (.v (.string b)) s=some (.v (.bool (!(a.toList==b.toList))),s):=by simp[h_,jY]
def eqsR(neg:Bool)(ks:List LK)(x y:X)(s:ax):Option (X×ax):=match x,y with
 | .agg x,.agg y=>(match EP ks x y with
  | some z=>some (.v (.bool (if neg then !z else z)),s)
  | none=>none)
 | _,_=>none
@[simp] theorem opR_eqs(neg:Bool)(ks:List LK)(a b:Ar):dB r T (.eqs neg ks a b) e s=eqsR neg ks (a.ev e) (b.ev e) s:=by simp only[dB,aB,eqsR];cases a.ev e<;>cases b.ev e<;>rfl
@[simp] theorem eqsR_agg(neg:Bool)(ks:List LK)(x y:List X):eqsR neg ks (.agg x) (.agg y) s=(match EP ks x y with
 | some z=>some (.v (.bool (if neg then !z else z)),s)
 | none=>none):=rfl
@[simp] theorem eqL_nil:EP [] [] []=some true:=rfl
@[simp] theorem eqL_cons(k:LK)(ks:List LK)(a b:Value)(l m:List X):EP (k::ks) (.v a::l) (.v b::m)=(match Gz k a b,EP ks l m with
 | some p,some q=>some (p&&q)
 | _,_=>none):=rfl
@[simp] theorem eqV_i(k:IntKind)(a b:Int):Gz .i (.int k a) (.int k b)=some (decide (a=b)):=by simp[Gz];try rw[zK]
@[simp] theorem eqV_s(a b:ByteArray):Gz .s (.string a) (.string b)=some (a.toList==b.toList):=rfl
@[simp] theorem eqV_b(a b:Bool):Gz .b (.bool a) (.bool b)=some (a==b):=rfl
@[simp] theorem opR_eqb(neg:Bool)(a b:Ar):dB r T (.ZJ neg a b) e s=(match a.ev e,b.ev e with
 | .v (.bool x),.v (.bool y)=>some (.v (.bool (if neg then !(x==y)else x==y)),s)
 | _,_=>none):=rfl
def unR(op:UnOp)(x:X)(s:ax):Option (X×ax):=match x with
 | .v x=>(match unV op x with
  | some z=>some (.v z,s)
  | none=>none)
 | _=>none
@[simp] theorem opR_un(op:UnOp)(a:Ar):dB r T (.un op a) e s=unR op (a.ev e) s:=by simp only[dB,aB,unR];cases a.ev e<;>rfl
@[simp] theorem unR_not(b:Bool):unR .not (.v (.bool b)) s=some (.v (.bool !b),s):=rfl
@[simp] theorem unR_neg(k:IntKind)(n:Int):unR .neg (.v (.int k n)) s=some (.v (.int k (k.wrap (0-n))),s):=rfl
@[simp] theorem opR_cvs(a:Ar):dB r T (.cvs a) e s=(match a.ev e with
 | .v (.string b)=>some (.v (.string b),s)
 | _=>none):=rfl
def ZB(k:IntKind)(x:X)(s:ax):Option (X×ax):=match x with
 | .v (.int _ n)=>some (.v (.int k (k.wrap n)),s)
 | _=>none
@[simp] theorem opR_conv(k:IntKind)(a:Ar):dB r T (.conv k a) e s=ZB k (a.ev e) s:=rfl
@[simp] theorem convR_int(k k':IntKind)(n:Int):ZB k (.v (.int k' n)) s=some (.v (.int k (k.wrap n)),s):=rfl
def faR(x:X)(j:Nat)(s:ax):Option (X×ax):=match x with
 | .ptr o g i=>if g=(s o).g then some (.ptr o g (i+j),s)else none
 | .ep o g k i l=>if g=(s o).g then some (.ep o g k i (l+j),s)else none
 | .ip x i=>some (.ip x (i+j),s)
 | _=>none
@[simp] theorem opR_fa(a:Ar)(j:Nat):dB r T (.fa a j) e s=faR (a.ev e) j s:=rfl
@[simp] theorem faR_ptr(o g i j:Nat):faR (.ptr o g i) j s=if g=(s o).g then some (.ptr o g (i+j),s)else none:=rfl
@[simp] theorem faR_ep(o g k i l j:Nat):faR (.ep o g k i l) j s=if g=(s o).g then some (.ep o g k i (l+j),s)else none:=rfl
@[simp] theorem faR_ip(x:X)(i j:Nat):faR (.ip x i) j s=some (.ip x (i+j),s):=rfl
def fldR(x:X)(j w:Nat)(ag:Bool)(s:ax):Option (X×ax):=match x with
 | .agg cs=>tC (jl cs j w ag) s
 | _=>none
@[simp] theorem opR_fld(a:Ar)(j w:Nat)(ag:Bool):dB r T (.M4 a j w ag) e s=fldR (a.ev e) j w ag s:=rfl
@[simp] theorem fldR_agg(cs:List X)(j w:Nat)(ag:Bool):fldR (.agg cs) j w ag s=tC (jl cs j w ag) s:=rfl
def WG(x i:X)(w:Nat)(s:ax):Option (X×ax):=match i with
 | .v (.int _ n)=>(match x with
  | .sl _ es=>if 0<=n/\n<(es.length:Int)then(match es[n.toNat]? with
   | some x=>if x.cells.length=w then some (.ip x 0,s)else none
   | none=>none)
   else none
  | .ref o g k j m=>if 0<=n/\n<(m:Int)/\k=w/\g=(s o).g then some (.ep o g k (j+n.toNat) 0,s)else none
  | _=>none)
 | _=>none
@[simp] theorem opR_ixa(a i:Ar)(w:Nat):dB r T (.dN a i w) e s=WG (a.ev e) (i.ev e) w s:=by
 simp only[dB,aB,WG];cases i.ev e<;>first|rfl|skip
 rename_i u;cases u<;>rfl
@[simp] theorem ixaR_sl(k:IntKind)(n:Int)(f:Bool)(es:List X)(w:Nat):WG (.sl f es) (.v (.int k n)) w s=if 0<=n/\n<(es.length:Int)then(match es[n.toNat]? with
 | some x=>if x.cells.length=w then some (.ip x 0,s)else none
 | none=>none)
 else none:=rfl
@[simp] theorem ixaR_ref(ki:IntKind)(n:Int)(o g k j m w:Nat):WG (.ref o g k j m) (.v (.int ki n)) w s=if 0<=n/\n<(m:Int)/\k=w/\g=(s o).g then some (.ep o g k (j+n.toNat) 0,s)else none:=rfl
def ixpR(x i:X)(w n:Nat)(s:ax):Option (X×ax):=match i with
 | .v (.int _ m)=>if 0<=m/\m<(n:Int)then(match x with
  | .ptr o g j=>if g=(s o).g then some (.ptr o g (j+m.toNat*w),s)else none
  | .ip x j=>some (.ip x (j+m.toNat*w),s)
  | _=>none)
  else none
 | _=>none
@[simp] theorem opR_ixp(a i:Ar)(w n:Nat):dB r T (.DX a i w n) e s=ixpR (a.ev e) (i.ev e) w n s:=by
 simp only[dB,aB,ixpR];cases i.ev e<;>first|rfl|skip
 rename_i u;cases u<;>rfl
@[simp] theorem ixpR_ptr(k:IntKind)(m:Int)(o g j w n:Nat):ixpR (.ptr o g j) (.v (.int k m)) w n s=if 0<=m/\m<(n:Int)then(if g=(s o).g then some (.ptr o g (j+m.toNat*w),s)else none)else none:=rfl
def ixsR(x i:X)(s:ax):Option (X×ax):=match x,i with
 | .v (.string b),.v (.int _ n)=>(match (if 0<=n then b[n.toNat]? else none)with
  | some c=>some (.v (.int .u8 c.toNat),s)
  | none=>none)
 | _,_=>none
@[simp] theorem opR_ixs(a i:Ar):dB r T (.JZ a i) e s=ixsR (a.ev e) (i.ev e) s:=by
 simp only[dB,aB,ixsR];cases a.ev e<;>first|rfl|skip
 rename_i u;cases u<;>first|rfl|skip
 cases i.ev e<;>first|rfl|skip
 rename_i u;cases u<;>rfl
@[simp] theorem ixsR_v(k:IntKind)(b:ByteArray)(n:Int):ixsR (.v (.string b)) (.v (.int k n)) s=(match (if 0<=n then b[n.toNat]? else none)with
 | some c=>some (.v (.int .u8 c.toNat),s)
 | none=>none):=rfl
def ixvR(x i:X)(w n:Nat)(ag:Bool)(s:ax):Option (X×ax):=match x,i with
 | .agg cs,.v (.int _ m)=>if 0<=m/\m<(n:Int)then tC (jl cs (m.toNat*w) w ag) s else none
 | _,_=>none
@[simp] theorem opR_ixv(a i:Ar)(w n:Nat)(ag:Bool):dB r T (.ixv a i w n ag) e s=ixvR (a.ev e) (i.ev e) w n ag s:=by
 simp only[dB,aB,ixvR];cases a.ev e<;>first|rfl|skip
 cases i.ev e<;>first|rfl|skip
 rename_i u;cases u<;>rfl
@[simp] theorem ixvR_agg(k:IntKind)(cs:List X)(m:Int)(w n:Nat)(ag:Bool):ixvR (.agg cs) (.v (.int k m)) w n ag s=if 0<=m/\m<(n:Int)then tC (jl cs (m.toNat*w) w ag) s else none:=rfl
@[simp] theorem opR_sls(a:Ar)(lo hi:Option Ar):dB r T (.sls a lo hi) e s=(match a.ev e with
 | .v (.string b)=>(match bnd e hi b.size b.size with
  | some h=>(match bnd e lo 0 h with
   | some l=>some (.v (.string (b.extract l h)),s)
   | none=>none)
  | none=>none)
 | _=>none):=rfl
def sliR(w:Nat)(x:X)(lo hi:Option Ar)(e:Env)(s:ax):Option (X×ax):=match x with
 | .sl f es=>if es.all (fun y=>y.cells.length==w)=false then none else match bnd e hi es.length es.length with
  | some h=>match bnd e lo 0 h with
   | some l=>some (.sl f ((es.drop l).take (h-l)),s)
   | none=>none
  | none=>none
 | .ref o g k i n=>if ¬(g=(s o).g/\k=w)then none else match bnd e hi n n with
  | some h=>match bnd e lo 0 h with
   | some l=>some (if l=0 then .ref o g k i h else if h-l=0 then .sl true []else .ref o g k (i+l) (h-l),s)
   | none=>none
  | none=>none
 | .nil=>match bnd e hi 0 0 with
  | some _=>match bnd e lo 0 0 with
   | some _=>some (.nil,s)
   | none=>none
  | none=>none
 | _=>none
@[simp] theorem opR_sli(w:Nat)(a:Ar)(lo hi:Option Ar):dB r T (.Vp w a lo hi) e s=sliR w (a.ev e) lo hi e s:=rfl
@[simp] theorem sliR_sl(w:Nat)(f:Bool)(es:List X)(lo hi:Option Ar):sliR w (.sl f es) lo hi e s=if es.all (fun y=>y.cells.length==w)=false then none else match bnd e hi es.length es.length with
 | some h=>match bnd e lo 0 h with
  | some l=>some (.sl f ((es.drop l).take (h-l)),s)
  | none=>none
 | none=>none:=rfl
@[simp] theorem bnd_none(d y:Nat):bnd e none d y=some d:=rfl
@[simp] theorem bnd_some(a:Ar)(d y:Nat):bnd e (some a) d y=(match w9 (a.ev e)with
 | some i=>if 0<=i/\i<=(y:Int)then some i.toNat else none
 | none=>none):=rfl
@[simp] theorem asI_int(k:IntKind)(n:Int):w9 (.v (.int k n))=some n:=rfl
@[simp] theorem opR_mks(o k:Nat)(z:X)(len cap:Ar)(lim:Nat):dB r T (.P6 o k z len cap lim) e s=(match w9 (len.ev e),w9 (cap.ev e)with
 | some l,some c=>if 0<=l/\l<=c/\c<=(lim:Int)/\z.cells.length=k/\z.deep=true/\z.cells.all X.one=true then some (.ref o ((s o).g+1) k 0 l.toNat,aN s o (.row k (List.replicate l.toNat z)))else none
 | _,_=>none):=rfl
def WK(x:X)(s:ax):Option (X×ax):=match x with
 | .sl _ es=>some (.v (.int .i64 es.length),s)
 | .ref o g _ _ n=>if g=(s o).g then some (.v (.int .i64 n),s)else none
 | .nil=>some (.v (.int .i64 0),s)
 | _=>none
@[simp] theorem opR_len(a:Ar):dB r T (.len a) e s=WK (a.ev e) s:=rfl
@[simp] theorem lenR_sl(f:Bool)(es:List X):WK (.sl f es) s=some (.v (.int .i64 es.length),s):=rfl
@[simp] theorem lenR_nil:WK .nil s=some (.v (.int .i64 0),s):=rfl
@[simp] theorem lenR_ref(o g k i n:Nat):WK (.ref o g k i n) s=if g=(s o).g then some (.v (.int .i64 n),s)else none:=rfl
def ZL(x:X)(s:ax):Option (X×ax):=match x with
 | .v (.string b)=>some (.v (.int .i64 b.size),s)
 | _=>none
@[simp] theorem opR_lens(a:Ar):dB r T (.lens a) e s=ZL (a.ev e) s:=rfl
@[simp] theorem lensR_v(b:ByteArray):ZL (.v (.string b)) s=some (.v (.int .i64 b.size),s):=rfl
def Ru(o k lim:Nat)(x:X)(ys:Option (List X))(nm:List Nat)(s:ax):Option (X×ax):=match ys with
 | some ys=>if Dj k ys=false then none else match x with
  | .nil=>if ys=[]then some (.nil,s)else
   if ys.length<=lim then some (.ref o ((s o).g+1) k 0 ys.length,aN s o (.row k ys))else none
  | .ref o' g k' i n=>(match (s o').o with
   | some (.row k'' es)=>
    if g=(s o').g/\k'=k/\k''=k/\(s o').wr=true/\i=0/\n=es.length/\n+ys.length<=lim/\¬o'∈nm then
     some (.ref o' (g+1) k i (n+ys.length),aN s o' (.row k (es++ys)))else none
   | _=>none)
  | _=>none
 | none=>none
@[simp] theorem opR_app(o k lim:Nat)(a b:Ar):dB r T (.app o k lim a b) e s=Ru o k lim (a.ev e) (elems s (b.ev e)) (p_ (b.ev e)) s:=rfl
@[simp] theorem elems_sl(f:Bool)(es:List X):elems s (.sl f es)=some es:=rfl
@[simp] theorem elems_nil:elems s .nil=some []:=rfl
@[simp] theorem opR_apo(o k lim:Nat)(a b:Ar):dB r T (.Rh o k lim a b) e s=y9 s o k lim (a.ev e) (b.ev e):=rfl
@[simp] theorem apoX_nil(o k lim:Nat)(f:Bool)(es:List X):y9 s o k lim .nil (.sl f es)=Ru o k lim .nil (some es) [] s:=rfl
@[simp] theorem apoX_ref(o k lim o' g k' i n:Nat)(f:Bool)(es:List X):y9 s o k lim (.ref o' g k' i n) (.sl f es)=if o'=o then Ru o k lim (.ref o' g k' i n) (some es) [] s else none:=rfl
@[simp] theorem appR_nil(o k lim:Nat)(ys:List X)(nm:List Nat):Ru o k lim .nil (some ys) nm s=if Dj k ys=false then none else if ys=[]then some (.nil,s)else
 if ys.length<=lim then some (.ref o ((s o).g+1) k 0 ys.length,aN s o (.row k ys))else none:=rfl
def appO(k lim g k' i n:Nat)(ys:List X)(nm:List Nat)(s:ax)(o':Nat)(x:SO):Option (X×ax):=match x.o with
 | some (
  .row k'' es)=>
  if g=x.g/\k'=k/\k''=k/\x.wr=true/\i=0/\n=es.length/\n+ys.length<=lim/\¬o'∈nm then
   some (.ref o' (g+1) k i (n+ys.length),aN s o' (.row k (es++ys)))else none
 | _=>none
@[simp] theorem appR_ref(o k lim o' g k' i n:Nat)(ys:List X)(nm:List Nat):Ru o k lim (.ref o' g k' i n) (some ys) nm s=if Dj k ys=false then none else appO k lim g k' i n ys nm s o' (s o'):=rfl
@[simp] theorem appO_row(k lim g k' i n:Nat)(ys:List X)(nm:List Nat)(o' g' c k'':Nat)(wr:Bool)(es:List X):appO k lim g k' i n ys nm s o' ⟨g',wr,some (.row k'' es),c⟩ =
 if g=g'/\k'=k/\k''=k/\wr=true/\i=0/\n=es.length/\n+ys.length<=lim/\¬o'∈nm then
  some (.ref o' (g+1) k i (n+ys.length),aN s o' (.row k (es++ys)))else none:=rfl
def ZO(mx:Bool)(x:X)(e:Env)(l:List Ar)(s:ax):Option (X×ax):=match x with
 | .v u=>(match qU mx e u l with
  | some z=>some (.v z,s)
  | none=>none)
 | _=>none
@[simp] theorem opR_mnmx(mx:Bool)(a:Ar)(l:List Ar):dB r T (.bA mx a l) e s=ZO mx (a.ev e) e l s:=rfl
@[simp] theorem mnmxR_v(mx:Bool)(u:Value)(l:List Ar):ZO mx (.v u) e l s=(match qU mx e u l with
 | some z=>some (.v z,s)
 | none=>none):=rfl
@[simp] theorem mnxL_nil(mx:Bool)(u:Value):qU mx e u []=some u:=rfl
def mnxR(mx:Bool)(e:Env)(u:Value)(x:X)(l:List Ar):Option Value:=match x with
 | .v y=>(match mnx mx u y with
  | some z=>qU mx e z l
  | none=>none)
 | _=>none
@[simp] theorem mnxL_cons(mx:Bool)(u:Value)(a:Ar)(l:List Ar):qU mx e u (a::l)=mnxR mx e u (a.ev e) l:=rfl
@[simp] theorem mnxR_int(mx:Bool)(k:IntKind)(x y:Int)(l:List Ar):mnxR mx e (.int k x) (.v (.int k y)) l=qU mx e (.int k (if mx then(max x y)else(min x y))) l:=by
 simp only[mnxR,mnx,if_true];cases mx
 ·simp only[kG,if_false];congr 2;split<;>omega
 ·simp only[if_true];congr 2;split<;>omega
def extR(x:X)(i:Nat)(s:ax):Option (X×ax):=match x with
 | .cZ cs=>tC cs[i]? s
 | _=>none
@[simp] theorem opR_ext(a:Ar)(i:Nat):dB r T (.ext a i) e s=extR (a.ev e) i s:=rfl
@[simp] theorem extR_tup(cs:List X)(i:Nat):extR (.cZ cs) i s=tC cs[i]? s:=rfl
@[simp] theorem opR_mkv(f:Nat)(l:List Ar):dB r T (.IX f l) e s=if(l.map (Ar.ev e)).all X.one=true then some (.fm f (l.map (Ar.ev e)),s)else none:=rfl
@[simp] theorem opR_no:dB r T .no e s=none:=rfl
def Wo(neg:Bool)(x:X)(s:ax):Option (X×ax):=match x with
 | .fn _ _=>some (.v (.bool neg),s)
 | .fm _ _=>some (.v (.bool neg),s)
 | .v .nilFunc=>some (.v (.bool !neg),s)
 | _=>none
@[simp] theorem opR_eqf(neg:Bool)(a:Ar):dB r T (.VT neg a) e s=Wo neg (a.ev e) s:=rfl
@[simp] theorem eqfR_fn(neg:Bool)(f:Nat)(cs:List X):Wo neg (.fn f cs) s=some (.v (.bool neg),s):=rfl
@[simp] theorem eqfR_fm(neg:Bool)(f:Nat)(cs:List X):Wo neg (.fm f cs) s=some (.v (.bool neg),s):=rfl
@[simp] theorem eqfR_nil(neg:Bool):Wo neg (.v .nilFunc) s=some (.v (.bool !neg),s):=rfl
@[simp] theorem opR_mkf(f:Nat)(l:List Ar):dB r T (.KI f l) e s=if(l.map (Ar.ev e)).all X.one=true then some (.fn f (l.map (Ar.ev e)),s)else none:=rfl
def Wp(neg:Bool)(x:X)(s:ax):Option (X×ax):=match x with
 | .sl _ (_::_)=>some (.v (.bool neg),s)
 | .ref o g _ _ _=>if g=(s o).g then some (.v (.bool neg),s)else none
 | _=>none
@[simp] theorem opR_eqn(neg:Bool)(a:Ar):dB r T (.VU neg a) e s=Wp neg (a.ev e) s:=by simp only[dB,aB,Wp];split<;>simp_all
@[simp] theorem eqnR_sl(neg f:Bool)(x:X)(l:List X):Wp neg (.sl f (x::l)) s=some (.v (.bool neg),s):=rfl
@[simp] theorem eqnR_ref(neg:Bool)(o g k i n:Nat):Wp neg (.ref o g k i n) s=if g=(s o).g then some (.v (.bool neg),s)else none:=rfl
@[simp] theorem opR_mkm(o:Nat)(h:Option Ar):dB r T (.KJ o h) e s=if Bf e h=true then some (.mp o ((s o).g+1),aN s o (.map []))else none:=rfl
@[simp] theorem hintB_none:Bf e none=true:=rfl
@[simp] theorem hintB_some(a:Ar):Bf e (some a)=(w9 (a.ev e)).isSome:=rfl
def mpO(o g:Nat)(x:SO):Option (Nat×List (X×X)):=match x.o with
 | some (.map es)=>if g=x.g/\x.wr=true then some (o,es)else none
 | _=>none
@[simp] theorem mpX_mp(o g:Nat):GD s (.mp o g)=mpO o g (s o):=rfl
@[simp] theorem mpO_map(o g g' n:Nat)(wr:Bool)(es:List (X×X)):mpO o g ⟨g',wr,some (.map es),n⟩=if g=g'/\wr=true then some (o,es)else none:=rfl
@[simp] theorem opR_mlk(ks:List LK)(ag:Bool)(m k:Ar)(z:X)(ok:Bool):dB r T (.KL ks ag m k z ok) e s=(match GD s (m.ev e)with
 | some (_,es)=>(match kz ks ag (k.ev e) es with
  | some r=>(match (match r with
   | some i=>es[i]?.map Prod.snd
   | none=>some z)with
   | some v=>some (if ok then .cZ [v,.v (.bool r.isSome)]else v,s)
   | none=>none)
  | none=>none)
 | none=>none):=rfl
@[simp] theorem stepO_mlk(ks:List LK)(ag:Bool)(m k:Ar)(z:X)(ok:Bool):aB (.KL ks ag m k z ok) e s=(match GD s (m.ev e)with
 | some (_,es)=>(match kz ks ag (k.ev e) es with
  | some r=>(match (match r with
   | some i=>es[i]?.map Prod.snd
   | none=>some z)with
   | some v=>some (if ok then .cZ [v,.v (.bool r.isSome)]else v,s)
   | none=>none)
  | none=>none)
 | none=>none):=rfl
@[simp] theorem opR_men(ks:List LK)(ag:Bool)(m k:Ar)(z:X):dB r T (.SK ks ag m k z) e s=(match GD s (m.ev e)with
 | some (o,es)=>(match kz ks ag (k.ev e) es with
  | some (some i)=>(match es[i]? with
   | some p=>some (.cZ [p.2,.v (.int .i64 i)],bF s o (.map es))
   | none=>none)
  | some none=>if(k.ev e).fM=true/\z.fM=true then some (.cZ [z,.v (.int .i64 es.length)],bF s o (.map (es++[(k.ev e,z)])))else none
  | none=>none)
 | none=>none):=rfl
def mstR(x:Option (Nat×List (X×X)))(st v:X)(s:ax):Option (X×ax):=match x,st with
 | some (o,es),.v (.int _ i)=>if 0<=i/\i<(es.length:Int)/\v.fM=true then some (.junk,bF s o (.map (x9 es i.toNat v)))else none
 | _,_=>none
@[simp] theorem opR_mst(m st v:Ar):dB r T (.SQ m st v) e s=mstR (GD s (m.ev e)) (st.ev e) (v.ev e) s:=by
 simp only[dB,aB,mstR];cases GD s (m.ev e)with
 | none=>rfl
 | some p=>
  cases st.ev e<;>first|rfl|skip
  rename_i u;cases u<;>rfl
@[simp] theorem mstR_some(o:Nat)(es:List (X×X))(k:IntKind)(i:Int)(v:X):mstR (some (o,es)) (.v (.int k i)) v s=if 0<=i/\i<(es.length:Int)/\v.fM=true then some (.junk,bF s o (.map (x9 es i.toNat v)))else none:=rfl
@[simp] theorem opR_mup(ks:List LK)(ag:Bool)(m k v:Ar):dB r T (.Rl ks ag m k v) e s=(match GD s (m.ev e)with
 | some (o,es)=>if(k.ev e).fM=true/\(v.ev e).fM=true then(match kz ks ag (k.ev e) es with
  | some (some i)=>some (.junk,bF s o (.map (x9 es i (v.ev e))))
  | some none=>some (.junk,bF s o (.map (es++[(k.ev e,v.ev e)])))
  | none=>none)
  else none
 | none=>none):=rfl
@[simp] theorem opR_mln(m:Ar):dB r T (.P7 m) e s=(match GD s (m.ev e)with
 | some (_,es)=>some (.v (.int .i64 es.length),s)
 | none=>none):=rfl
@[simp] theorem sameV_int(k:IntKind)(a b:Int):rG (.v (.int k a)) (.v (.int k b))=decide (a=b):=by simp[rG];try rw[zK]
@[simp] theorem sameV_bool(a b:Bool):rG (.v (.bool a)) (.v (.bool b))=(a==b):=rfl
@[simp] theorem I6(o:Nat)(b:Ob)(n:Nat):aN s o b n=if n=o then⟨(s o).g+1,true,some b,(s o).n+1⟩else s n:=rfl
@[simp] theorem JL(o:Nat)(b:Ob)(n:Nat):bF s o b n=if n=o then⟨(s o).g,true,some b,(s o).n+1⟩else s n:=rfl
@[simp] theorem s0_app(n:Nat):s0 n=⟨0,false,none,0⟩:=rfl
@[simp] theorem cells_agg(cs:List X):(X.agg cs).cells=cs:=rfl
@[simp] theorem cells_v(u:Value):(X.v u).cells=[.v u]:=rfl
@[simp] theorem He(f:Bool)(es:List X):(X.sl f es).cells=[.sl f es]:=rfl
@[simp] theorem cells_nil:X.nil.cells=[.nil]:=rfl
@[simp] theorem cells_ref(o g k i n:Nat):(X.ref o g k i n).cells=[.ref o g k i n]:=rfl
@[simp] theorem cells_fn(f:Nat)(cs:List X):(X.fn f cs).cells=[.fn f cs]:=rfl
@[simp] theorem cells_ptr(o g j:Nat):(X.ptr o g j).cells=[.ptr o g j]:=rfl
@[simp] theorem one_v(u:Value):(X.v u).one=true:=rfl
@[simp] theorem one_sl(f:Bool)(es:List X):(X.sl f es).one=true:=rfl
@[simp] theorem one_nil:X.nil.one=true:=rfl
@[simp] theorem one_ref(o g k i n:Nat):(X.ref o g k i n).one=true:=rfl
@[simp] theorem one_fn(f:Nat)(cs:List X):(X.fn f cs).one=true:=rfl
@[simp] theorem one_ptr(o g j:Nat):(X.ptr o g j).one=true:=rfl
@[simp] theorem one_ip(x:X)(j:Nat):(X.ip x j).one=true:=rfl
@[simp] theorem one_mp(o g:Nat):(X.mp o g).one=true:=rfl
@[simp] theorem resT_one(r:gQ):aC e s [r]=zx e s r:=rfl
@[simp] theorem resT_nil:aC e s []=some (.cZ []):=rfl
@[simp] theorem resT_two(a b:gQ)(l:List gQ):aC e s (a::b::l)=(match uU e s (a::b::l)with
 | some m=>some (.cZ m)
 | none=>none):=rfl
@[simp] theorem resL_nil:uU e s []=some []:=rfl
@[simp] theorem resL_cons(r:gQ)(l:List gQ):uU e s (r::l)=(match zx e s r,uU e s l with
 | some x,some m=>some (x::m)
 | _,_=>none):=rfl
@[simp] theorem resX_tmp(t:Nat):zx e s (.tmp t)=nI s (e t):=rfl
@[simp] theorem resX_cell(t w:Nat)(ag:Bool):zx e s (.cell t w ag)=(match EX s (e t) w ag with
 | some x=>nI s x
 | none=>none):=rfl
@[simp] theorem dpC_agg(cs:List X):nI s (.agg cs)=(match tq s cs with
 | some ds=>some (.agg ds)
 | none=>none):=rfl
@[simp] theorem dpL_nil:tq s []=some []:=rfl
@[simp] theorem dpL_cons(x:X)(l:List X):tq s (x::l)=(match mK s x,tq s l with
 | some y,some m=>some (y::m)
 | _,_=>none):=rfl
@[simp] theorem dpC_v(u:Value):nI s (.v u)=some (.v u):=rfl
@[simp] theorem dpn_v(u:Value):mK s (.v u)=some (.v u):=rfl
@[simp] theorem dpC_nil:nI s .nil=some (.sl true []):=rfl
@[simp] theorem dpn_nil:mK s .nil=some (.sl true []):=rfl
@[simp] theorem dpC_sl(f:Bool)(es:List X):nI s (.sl f es)=if aT es then some (.sl f es)else none:=rfl
@[simp] theorem dpn_sl(f:Bool)(es:List X):mK s (.sl f es)=if aT es then some (.sl f es)else none:=rfl
def dpR(g k i n:Nat)(x:SO):Option X:=match x.o with
 | some (.row k' es)=>if g=x.g/\k=k'/\i+n<=es.length/\aT es=true then some (.sl true ((es.drop i).take n))else none
 | _=>none
@[simp] theorem dpR_row(g k i n g' c k':Nat)(wr:Bool)(es:List X):dpR g k i n ⟨g',wr,some (.row k' es),c⟩=if g=g'/\k=k'/\i+n<=es.length/\aT es=true then some (.sl true ((es.drop i).take n))else none:=rfl
@[simp] theorem dpC_ref(o g k i n:Nat):nI s (.ref o g k i n)=dpR g k i n (s o):=rfl
@[simp] theorem Wm(o g k i n:Nat):mK s (.ref o g k i n)=dpR g k i n (s o):=rfl
@[simp] theorem elems_ref(o g k i n:Nat):elems s (.ref o g k i n)=(match (s o).o with
 | some (.row k' es)=>if g=(s o).g/\k=k'/\i+n<=es.length then some ((es.drop i).take n)else none
 | _=>none):=rfl
def slM(o:Option (List X)):Option X:=match o with
 | some ds=>some (.sl true ds)
 | none=>none
@[simp] theorem slM_some(ds:List X):slM (some ds)=some (.sl true ds):=rfl
def dpmR(s:ax)(g k i n:Nat)(x:SO):Option X:=match x.o with
 | some (.row k' es)=>if g=x.g/\k=k'/\i+n<=es.length then slM (ZH s ((es.drop i).take n))else none
 | _=>none
@[simp] theorem dpmR_row(g k i n g' c k':Nat)(wr:Bool)(es:List X):dpmR s g k i n ⟨g',wr,some (.row k' es),c⟩=if g=g'/\k=k'/\i+n<=es.length then slM (ZH s ((es.drop i).take n))else none:=rfl
@[simp] theorem dpm_ref(o g k i n:Nat):RY s (.ref o g k i n)=dpmR s g k i n (s o):=rfl
@[simp] theorem dpm_nil:RY s .nil=some (.sl true []):=rfl
@[simp] theorem dpm_sl(f:Bool)(es:List X):RY s (.sl f es)=if aT es then some (.sl f es)else none:=rfl
@[simp] theorem dpGm_ref(o g k i n:Nat):Db s (.ref o g k i n)=dpmR s g k i n (s o):=rfl
@[simp] theorem dpGm_nil:Db s .nil=some (.sl true []):=rfl
@[simp] theorem dpGm_v(u:Value):Db s (.v u)=some (.v u):=rfl
@[simp] theorem dpGm_sl(f:Bool)(es:List X):Db s (.sl f es)=if aT es then some (.sl f es)else none:=rfl
@[simp] theorem dpGm_agg(cs:List X):Db s (.agg cs)=(match tq s cs with
 | some ds=>some (.agg ds)
 | none=>none):=rfl
@[simp] theorem dpAm_nil:zm s []=some []:=rfl
@[simp] theorem dpAm_cons(x:X)(l:List X):zm s (x::l)=(match Db s x,zm s l with
 | some y,some m=>some (y.shr::m)
 | _,_=>none):=rfl
@[simp] theorem resX_nst(t:Nat):zx e s (.WZ t)=RY s (e t):=rfl
@[simp] theorem dpE_nil:ZH s []=some []:=rfl
@[simp] theorem renL_nil(d:Nat):lQ s d []=some ([],s):=rfl
def renC(c:X)(o:Option (List X×ax)):Option (List X×ax):=match o with
 | some (l,s)=>some (c::l,s)
 | none=>none
@[simp] theorem renC_some(c:X)(l:List X)(s:ax):renC c (some (l,s))=some (c::l,s):=rfl
@[simp] theorem renL_v(d:Nat)(u:Value)(l:List X):lQ s d (.v u::l)=renC (.v u) (lQ s d l):=by simp only[lQ,X.deep,if_true,renC];cases lQ s d l<;>rfl
@[simp] theorem renL_own(d:Nat)(l:List X):lQ s d (.nil::l)=if aT l=true then some (.nil::l,s)else none:=rfl
def renO(s:ax)(d o g k i n:Nat)(l:List X)(x:SO):Option (List X×ax):=match x.o with
 | some (.row k' es)=>if g=x.g/\x.wr=true/\¬o=d/\aT l=true then some (.ref d ((s d).g+1) k i n::l,Dh s o d (.row k' es))else none
 | _=>none
@[simp] theorem renO_some(d o g k i n g' m:Nat)(wr:Bool)(k':Nat)(es:List X)(l:List X):renO s d o g k i n l ⟨g',wr,some (.row k' es),m⟩=if g=g'/\wr=true/\¬o=d/\aT l=true then some (.ref d ((s d).g+1) k i n::l,Dh s o d (.row k' es))else none:=rfl
@[simp] theorem renL_ref(d o g k i n:Nat)(l:List X):lQ s d (.ref o g k i n::l)=renO s d o g k i n l (s o):=rfl
def bsnR(q k d:Nat)(i:Option Int)(x:X)(s:ax):Option (X×ax):=match i,x with
 | some i,.agg cs=>if 0<=i/\cs.length=k/\cs.all X.one=true/\¬q=d+i.toNat then match lQ s (d+i.toNat) cs with
  | some (cs',s')=>some (.ref q ((s' q).g+1) k 0 1,aN s' q (.row k [.agg cs']))
  | none=>none
  else none
 | _,_=>none
def bsnF(q k:Nat)(o:Option (List X×ax)):Option (X×ax):=match o with
 | some (cs',s')=>some (.ref q ((s' q).g+1) k 0 1,aN s' q (.row k [.agg cs']))
 | none=>none
@[simp] theorem bsnF_some(q k:Nat)(cs:List X)(s':ax):bsnF q k (some (cs,s'))=some (.ref q ((s' q).g+1) k 0 1,aN s' q (.row k [.agg cs])):=rfl
@[simp] theorem bsnR_agg(q k d:Nat)(i:Int)(cs:List X):bsnR q k d (some i) (.agg cs) s=if 0<=i/\cs.length=k/\cs.all X.one=true/\¬q=d+i.toNat then bsnF q k (lQ s (d+i.toNat) cs)else none:=rfl
@[simp] theorem opR_bsn(q k:Nat)(z:X)(d:Nat)(ix a:Ar):dB r T (.Zt q k z d ix a) e s=bsnR q k d (w9 (ix.ev e)) (a.ev e) s:=by
 simp only[dB,aB,bsnR];cases w9 (ix.ev e)with
 | none=>rfl
 | some i=>
  cases a.ev e with
  | agg cs=>
   simp only;split
   ·cases lQ s (d+i.toNat) cs<;>rfl
   ·rfl
  | _=>rfl
@[simp] theorem dpA_nil:vO s []=some []:=rfl
@[simp] theorem dpA_cons(x:X)(l:List X):vO s (x::l)=(match yD s x,vO s l with
 | some y,some m=>some (y.shr::m)
 | _,_=>none):=rfl
@[simp] theorem dpG_v(u:Value):yD s (.v u)=some (.v u):=rfl
@[simp] theorem dpG_agg(cs:List X):yD s (.agg cs)=(match tq s cs with
 | some ds=>some (.agg ds)
 | none=>none):=rfl
@[simp] theorem dpG_sl(f:Bool)(es:List X):yD s (.sl f es)=if aT es then some (.sl f es)else none:=rfl
@[simp] theorem dpG_nil:yD s .nil=some (.sl true []):=rfl
@[simp] theorem dpG_ref(o g k i n:Nat):yD s (.ref o g k i n)=dpR g k i n (s o):=rfl
@[simp] theorem dpG_fn(f:Nat)(cs:List X):yD s (.fn f cs)=(match sZ s cs with
 | some ds=>some (.fn f ds)
 | none=>none):=rfl
@[simp] theorem dpHL_nil:sZ s []=some []:=rfl
@[simp] theorem dpHL_cons(x:X)(l:List X):sZ s (x::l)=(match zF s x,sZ s l with
 | some y,some m=>some (y::m)
 | _,_=>none):=rfl
@[simp] theorem shr_v(u:Value):(X.v u).shr=.v u:=rfl
@[simp] theorem shr_agg(cs:List X):(X.agg cs).shr=.agg (gB cs):=rfl
@[simp] theorem shr_sl(f:Bool)(es:List X):(X.sl f es).shr=.sl false (gB es):=rfl
@[simp] theorem shr_fn(f:Nat)(cs:List X):(X.fn f cs).shr=.fn f (gB cs):=rfl
@[simp] theorem shr_ip(x:X)(j:Nat):(X.ip x j).shr=.ip x.shr j:=rfl
@[simp] theorem shrL_nil:gB []=[]:=rfl
@[simp] theorem shrL_cons(x:X)(l:List X):gB (x::l)=x.shr::gB l:=rfl
@[simp] theorem deepL_nil:aT []=true:=rfl
@[simp] theorem A8(x:X)(l:List X):aT (x::l)=(x.deep&&aT l):=rfl
@[simp] theorem deep_v(u:Value):(X.v u).deep=true:=rfl
@[simp] theorem deep_sl(f:Bool)(es:List X):(X.sl f es).deep=aT es:=rfl
@[simp] theorem deep_agg(es:List X):(X.agg es).deep=aT es:=rfl
@[simp] theorem deep_tup(es:List X):(X.cZ es).deep=aT es:=rfl
@[simp] theorem deep_fn(f:Nat)(es:List X):(X.fn f es).deep=aT es:=rfl
@[simp] theorem scal_v(u:Value):(X.v u).fM=true:=rfl
@[simp] theorem scal_agg(l:List X):(X.agg l).fM=rH l:=rfl
@[simp] theorem scal_tup(l:List X):(X.cZ l).fM=rH l:=rfl
@[simp] theorem scal_sl(f:Bool)(l:List X):(X.sl f l).fM=false:=rfl
@[simp] theorem scalL_nil:rH []=true:=rfl
@[simp] theorem scalL_cons(x:X)(l:List X):rH (x::l)=(x.fM&&rH l):=rfl
@[simp] theorem nmG_v(u:Value):nJ (.v u)=[]:=rfl
@[simp] theorem nmG_sl(f:Bool)(es:List X):nJ (.sl f es)=[]:=rfl
@[simp] theorem nmG_nil:nJ .nil=[]:=rfl
@[simp] theorem nmG_ref(o g k i n:Nat):nJ (.ref o g k i n)=[o]:=rfl
@[simp] theorem nmG_agg(cs:List X):nJ (.agg cs)=cs.flatMap p_:=rfl
@[simp] theorem nmG_fn(f:Nat)(cs:List X):nJ (.fn f cs)=cs.flatMap S9:=rfl
@[simp] theorem nmX_v(u:Value):p_ (.v u)=[]:=rfl
@[simp] theorem nmX_sl(f:Bool)(es:List X):p_ (.sl f es)=[]:=rfl
@[simp] theorem nmX_nil:p_ .nil=[]:=rfl
@[simp] theorem nmX_ref(o g k i n:Nat):p_ (.ref o g k i n)=[o]:=rfl
@[simp] theorem nmC_v(u:Value):nX (.v u)=[]:=rfl
@[simp] theorem nmC_sl(f:Bool)(es:List X):nX (.sl f es)=[]:=rfl
@[simp] theorem nmC_nil:nX .nil=[]:=rfl
@[simp] theorem nmC_ref(o g k i n:Nat):nX (.ref o g k i n)=[o]:=rfl
@[simp] theorem nmC_agg(cs:List X):nX (.agg cs)=cs.flatMap p_:=rfl
@[simp] theorem setC_agg(cs ys:List X)(j:Nat):rJ (.agg cs) j ys=.agg (spl cs j ys):=rfl
@[simp] theorem setC_v(u:Value)(y:X)(j:Nat):rJ (.v u) j [y]=y:=rfl
@[simp] theorem setC_sl(f:Bool)(l:List X)(y:X)(j:Nat):rJ (.sl f l) j [y]=y:=rfl
@[simp] theorem setC_nil(y:X)(j:Nat):rJ .nil j [y]=y:=rfl
@[simp] theorem setC_ref(o g k i n:Nat)(y:X)(j:Nat):rJ (.ref o g k i n) j [y]=y:=rfl
@[simp] theorem chkB_nil(s0:ax):vJ [] [] s0 e s=true:=rfl
@[simp] theorem chkB_ch(t:Nat)(ch:List Nat)(js:List fE)(s0:ax):vJ (t::ch) js s0 e s=((lK (e t)).all (fun o=>(s o).n==(s0 o).n)&&vJ ch js s0 e s):=by simp[vJ,Bool.and_assoc]
def Wh(s0:ax)(e:Env)(s:ax)(g:fE):Bool:=vJ [] [g] s0 e s
@[simp] theorem chkB_js(g:fE)(js:List fE)(s0:ax):vJ [] (g::js) s0 e s=(Wh s0 e s g&&vJ [] js s0 e s):=by simp[vJ,Wh]
def chkM(e:Env)(d:Nat)(x y:Option (X×ax)):Bool:=match x,y with
 | some (x,_),some (y,_)=>rG x (e d)&&rG y (e d)
 | _,_=>false
@[simp] theorem chkM_some(d:Nat)(x y:X)(s1 s2:ax):chkM e d (some (x,s1)) (some (y,s2))=(rG x (e d)&&rG y (e d)):=rfl
@[simp] theorem chkJ_mk(d:Nat)(g:Option (Nat×Bool))(op:iw)(s0:ax):Wh s0 e s ⟨some d,g,op⟩=chkM e d (aB op e s0) (aB op e s):=by simp only[Wh,vJ,List.all_nil,List.all_cons,Bool.true_and,Bool.and_true,chkM];cases aB op e s0<;>cases aB op e s<;>rfl
@[simp] theorem nmA_v(u:Value):lK (.v u)=[]:=rfl
@[simp] theorem nmA_sl(f:Bool)(l:List X):lK (.sl f l)=[]:=rfl
@[simp] theorem nmA_ip(x:X)(j:Nat):lK (.ip x j)=[]:=rfl
@[simp] theorem nmA_nil:lK .nil=[]:=rfl
@[simp] theorem nmA_agg(l:List X):lK (.agg l)=BA l:=rfl
@[simp] theorem nmA_tup(l:List X):lK (.cZ l)=BA l:=rfl
@[simp] theorem nmA_ptr(o g j:Nat):lK (.ptr o g j)=[o]:=rfl
@[simp] theorem nmA_ref(o g k i n:Nat):lK (.ref o g k i n)=[o]:=rfl
@[simp] theorem nmA_ep(o g k i j:Nat):lK (.ep o g k i j)=[o]:=rfl
@[simp] theorem nmA_mp(o g:Nat):lK (.mp o g)=[o]:=rfl
@[simp] theorem nmL_nil:BA []=[]:=rfl
@[simp] theorem nmL_cons(x:X)(l:List X):BA (x::l)=lK x++BA l:=rfl
@[simp] theorem deepL_take{l:List X}(i:Nat)(h:aT l=true):aT (l.take i)=true:=by
 induction l generalizing i with
 | nil=>simp
 | cons x l ih=>
  simp only[A8,bN]at h;cases i with
  | zero=>rfl
  | succ i=>simp[h.1,ih i h.2]
@[simp] theorem deepL_drop{l:List X}(i:Nat)(h:aT l=true):aT (l.drop i)=true:=by
 induction l generalizing i with
 | nil=>simp
 | cons x l ih=>
  simp only[A8,bN]at h;cases i with
  | zero=>simp[h.1,h.2]
  | succ i=>simp[ih i h.2]
@[simp] theorem shrL_take(l:List X)(i:Nat):gB (l.take i)=(gB l).take i:=by simp only[iQ,List.map_take]
@[simp] theorem shrL_drop(l:List X)(i:Nat):gB (l.drop i)=(gB l).drop i:=by simp only[iQ,List.map_drop]
attribute [simp] jl spl Dj
end
end Go.Proofs.YtbmkfjmlepjpfaaGreatDoor
