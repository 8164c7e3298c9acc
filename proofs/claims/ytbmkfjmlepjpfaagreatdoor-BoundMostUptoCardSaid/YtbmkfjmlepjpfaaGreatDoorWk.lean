/- A part of the proof. -/
import Derived.Test.YtbmkfjmlepjpfaaGreatDoorR
set_option linter.all false
set_option maxRecDepth 100000
namespace Go.Proofs.YtbmkfjmlepjpfaaGreatDoor
open Go.RowKit
theorem Pp{T:Nat->Option Fe}{p:List Nat}{f:Nat}{xs:List X}{x:X×Option (Nat×List X)}:um (run T) T p f xs=some x↔∃n,um (runN T n) T p f xs=some x:=by
 constructor
 ·intro h;unfold um at h;split at h
  case h_2=>simp at h
  rename_i nt res body hF;split at h
  case isFalse=>simp at h
  rename_i hn;split at h
  case h_2=>simp at h
  rename_i hr;obtain⟨n,hn'⟩:=iK hr;exact⟨n,by simp only[um,hF,hn,hn',if_true];exact h⟩
 ·rintro⟨n,h⟩;exact BA (fun its e s x hx=>lI hx) h
theorem Jj{T:Nat->Option Fe}{q g:Nat}{l:List X}{s:ay}{x:X×ay}:iR (run T) q g l s=some x↔∃n,iR (runN T n) q g l s=some x:=by
 constructor
 ·intro h;unfold iR at h;split at h
  case h_2=>simp at h
  rename_i e ps a b ho;split at h
  case isFalse=>simp at h
  rename_i hc;cases hr:run T [.code a,.NZ q g,.code b,.Oz q g] (puts e ps l) s with
  | none=>rw[hr]at h;simp[Di]at h
  | some z=>
   obtain⟨n,hn⟩:=iK hr;refine⟨n,?_⟩;simp only[iR,ho];rw[if_pos hc,hn,<-hr];exact h
 ·rintro⟨n,h⟩;exact wU (fun its e s x hx=>lI hx) h
theorem FP{T:Nat->Option Fe}{q:Nat}{x:X}{ps:List Nat}{a b:IC}{e:Env}{s:ay}{y:Option (Option Nat)×ay}:nX (run T) T q x ps a b e s=some y↔∃n,nX (runN T n) T q x ps a b e s=some y:=by
 constructor
 ·intro h;unfold nX at h;split at h
  case h_2=>simp at h
  rename_i f cs;cases hr:dD (run T) T f (.Dx q ((s q).g+1)::cs) (aO s q (.lp e ps a b .ready))with
  | none=>rw[hr]at h;simp[lpE]at h
  | some z=>
   obtain⟨n,hn⟩:=mO.1 hr;refine⟨n,?_⟩;simp only[nX];rw[hn,<-hr];exact h
 ·rintro⟨n,h⟩;exact vM (fun its e s x hx=>lI hx) h
theorem J2{T:Nat->Option Fe}{op:gm}{e:Env}{s:ay}{x:X×ay}:bW (run T) T op e s=some x↔∃n,bW (runN T n) T op e s=some x:=by
 have hS:∀ {st f l},gP (run T) T st f l s=some x↔∃n,gP (runN T n) T st f l s=some x:=by
  intro st f l;constructor
  ·intro h;unfold gP at h;split at h
   ·simp at h
   ·rename_i xs hx;split at h
    ·simp at h
    ·rename_i r hr;obtain⟨n,hn⟩:=mM.1 hr;exact⟨n,by simp only[gP,hx,hn];exact h⟩
  ·rintro⟨n,h⟩;exact nE (fun its e s x hx=>lI hx) h
 constructor
 ·intro h;unfold bW at h;split at h
  ·obtain⟨n,hn⟩:=hS.1 h;exact⟨n,hn⟩
  ·split at h
   ·rename_i hf;obtain⟨n,hn⟩:=hS.1 h;exact⟨n,by simp only[bW,hf];exact hn⟩
   ·simp at h
  ·obtain⟨n,hn⟩:=mO.1 h;exact⟨n,hn⟩
  ·rename_i f l;unfold qR at h;split at h
   ·simp at h
   ·rename_i xs hx;split at h
    ·simp at h
    ·rename_i r hr;obtain⟨n,hn⟩:=mM.1 hr;exact⟨n,by simp only[bW,qR,hx,hn];exact h⟩
  ·unfold pq at h;split at h
   ·simp at h
   ·rename_i xs hx;cases ho:um (run T) T _ _ xs with
    | none=>rw[ho]at h;simp[ji]at h
    | some y=>
     obtain⟨n,hn⟩:=Pp.1 ho;refine⟨n,?_⟩;simp only[bW,pq,hx,hn];rw[ho]at h
     exact h
  ·split at h
   ·rename_i hf;split at h
    ·rename_i hd;obtain⟨n,hn⟩:=hS.1 h;exact⟨n,by simp only[bW,hf,if_pos hd];exact hn⟩
    ·rename_i hd;obtain⟨n,hn⟩:=mO.1 h;exact⟨n,by simp only[bW,hf,if_neg hd];exact hn⟩
   ·rename_i hf;obtain⟨n,hn⟩:=mO.1 h;exact⟨n,by simp only[bW,hf];exact hn⟩
   ·rename_i hf;obtain⟨n,hn⟩:=Jj.1 h;exact⟨n,by simp only[bW,hf];exact hn⟩
   ·simp at h
  ·refine⟨0,?_⟩;unfold bW;split
   ·simp[aA]at h
   ·simp[aA]at h
   ·simp[aA]at h
   ·simp[aA]at h
   ·simp[aA]at h
   ·simp[aA]at h
   ·exact h
 ·rintro⟨n,h⟩;exact ul (fun its e s x hx=>lI hx) h
theorem zS{T:Nat->Option Fe}{o:d9}{l:List d9}{k:List It}{e:Env}{s:ay}:run T (.ops (o::l)::k) e s=match gd o e with
 | some true=>(match bW (run T) T o.op e s with
  | some (x,s')=>run T (.ops l::k) (put e o.d x) s'
  | none=>none)
 | some false=>run T (.ops l::k) (put e o.d (.bU [])) s
 | none=>none:=by
 have nn:∀ {its:List It} {e:Env} {s:ay},(∀n,runN T (n+1) its e s=none)->run T its e s=none:=by
  intro its e s h;cases hr:run T its e s with
  | none=>rfl
  | some x=>
   obtain⟨n,hn⟩:=iK hr;have:=vN T n _ _ _ _ hn;rw[h n]at this
   simp at this
 cases hg:gd o e with
 | none=>exact nn fun n=>by rw[runN];simp only[hg]
 | some g=>
  cases g with
  | false=>exact YS hg
  | true=>
   simp only;cases ho:bW (run T) T o.op e s with
   | some p=>
    obtain⟨x,s'⟩:=p;obtain⟨m,hm⟩:=J2.1 ho;simp only;apply xV;intro y;constructor
    ·rintro⟨n,hn⟩;have hn:=iL T (Nat.le_add_right n (m+1)) _ _ _ _ hn;rw[show n+(m+1)=(n+m)+1 by omega,runN]at hn
     simp only[hg,ul (iL T (by omega:m<=n+m)) hm]at hn;exact⟨_,hn⟩
    ·rintro⟨n,hn⟩;have hn:=iL T (Nat.le_add_right n m) _ _ _ _ hn;refine⟨n+m+1,?_⟩;rw[runN];simp only[hg,ul (iL T (by omega:m<=n+m)) hm];exact hn
   | none=>
    refine nn fun n=>?_;rw[runN];simp only[hg];split
    ·rename_i h;rw[J2.2 ⟨n,h⟩]at ho
     simp at ho
    ·rfl
def wp(T:Nat->Option Fe)(its:List It)(e:Env)(s:ay)(Q:Env->ay->Prop):Prop:=∃e' s',run T its e s=some (e',s')/\Q e' s'
def wpC(T:Nat->Option Fe)(x:X)(a b:IC)(k:List It)(e:Env)(s:ay)(Q:Env->ay->Prop):Prop:=
 match x with
 | .v (.bool t)=>wp T (.code (cond t a b)::k) e s Q
 | _=>False
def R3(T:Nat->Option Fe)(r:Option (X×ay))(d:Option Nat)(l:List d9)(k:List It)(e:Env)(Q:Env->ay->Prop):Prop:=
 match r with
 | some (x,s')=>wp T (.ops l::k) (put e d x) s' Q
 | none=>False
def Dq(T:Nat->Option Fe)(x:X)(b:Bool)(d:Option Nat)(op:gm)(l:List d9)(k:List It)(e:Env)(s:ay)(Q:Env->ay->Prop):Prop:=
 match x with
 | .v (.bool c)=>if c=b then R3 T (bW (run T) T op e s) d l k e Q else wp T (.ops l::k) (put e d (.bU [])) s Q
 | .bU []=>wp T (.ops l::k) (put e d (.bU [])) s Q
 | _=>False
def wpK(T:Nat->Option Fe)(c:Bool)(k:List It)(e:Env)(s:ay)(Q:Env->ay->Prop):Prop:=c=true/\wp T k e s Q
section
variable {T:Nat->Option Fe} {k:List It} {e:Env} {s:ay} {Q:Env->ay->Prop}
theorem iQ{its its':List It}{e':Env}{s':ay}(h:run T its e s=run T its' e' s'):wp T its e s Q=wp T its' e' s' Q:=by unfold wp;rw[h]
theorem wp_nil:wp T [] e s Q=Q e s:=by unfold wp;rw[YR];simp[and_assoc]
theorem wp_ret:wp T (.code .ret::k) e s Q=Q e s:=by unfold wp;rw[YU];simp[and_assoc]
theorem wp_skip:wp T (.code .skip::k) e s Q=wp T k e s Q:=iQ Rv
theorem wp_ops(l:List d9):wp T (.code (.ops l)::k) e s Q=wp T (.ops l::k) e s Q:=iQ (YT l)
theorem ZB(ch js:List Nat)(l m:List d9):wp T (.code (.aL ch js l m)::k) e s Q=wp T (.ops l::.Sw ch (js.filterMap fun j=>l[j]?) s::.ops m::k) e s Q:=iQ (Ro ch js l m)
theorem wp_seq(a b:IC):wp T (.code (.seq a b)::k) e s Q=wp T (.code a::.code b::k) e s Q:=iQ (run_seq a b)
theorem R8(c:IC):wp T (.code (.scope c)::k) e s Q=wp T (.code c::k) e s Q:=iQ (Nk c)
theorem wp_block(id:Nat)(c:IC):wp T (.code (.block id c)::k) e s Q=wp T (.code c::.bl id::k) e s Q:=iQ (Nj id c)
theorem wp_loop(c:IC):wp T (.code (.loop c)::k) e s Q=wp T (.lp c::k) e s Q:=iQ (Rt c)
theorem fw(c:IC):wp T (.lp c::k) e s Q=wp T (.code c::.lp c::k) e s Q:=iQ (run_lp c)
theorem wp_bl(id:Nat):wp T (.bl id::k) e s Q=wp T k e s Q:=iQ (run_bl id)
theorem Jh:wp T (.ops []::k) e s Q=wp T k e s Q:=iQ FQ
def wpX(T:Nat->Option Fe)(k:Option (List It))(e:Env)(s:ay)(Q:Env->ay->Prop):Prop:=match k with
 | some k=>wp T k e s Q
 | none=>False
theorem Ru{its:List It}(h:∀n,runN T (n+1) its e s=none):run T its e s=none:=by
 cases hr:run T its e s with
 | none=>rfl
 | some x=>
  obtain⟨n,hn⟩:=iK hr;have:=vN T n _ _ _ _ hn;rw[h n]at this
  simp at this
theorem kP{its:List It}(h:∀n,runN T (n+1) its e s=none):wp T its e s Q=False:=by unfold wp;rw[Ru h];simp
theorem wp_exit(id:Nat):wp T (.code (.exit id)::k) e s Q=wpX T (bD id k) e s Q:=by
 cases h:bD id k with
 | some k'=>exact iQ (Rs h)
 | none=>exact kP fun n=>by rw[runN,h]
theorem R6:wpX T (some k) e s Q=wp T k e s Q:=rfl
theorem Pt(id:Nat):bD id (.bl id::k)=some k:=by simp[bD]
theorem Fj{id id':Nat}(h:(id'==id)=false):bD id (.bl id'::k)=bD id k:=by simp[bD,h]
theorem Hr(id:Nat)(c:IC):bD id (.code c::k)=bD id k:=by simp[bD]
theorem Pv(id:Nat)(c:IC):bD id (.lp c::k)=bD id k:=by simp[bD]
theorem MW(id:Nat)(l:List d9):bD id (.ops l::k)=bD id k:=by simp[bD]
theorem MR(id q g:Nat):bD id (.NZ q g::k)=bD id k:=by simp[bD]
theorem MU(id q g:Nat):bD id (.Oz q g::k)=bD id k:=by simp[bD]
theorem MV(id:Nat):bD id []=none:=rfl
def wpS(T:Nat->Option Fe)(o:Option ay)(k:List It)(e:Env)(Q:Env->ay->Prop):Prop:=match o with
 | some s=>wp T k e s Q
 | none=>False
theorem R5:wpS T (some s) k e Q=wp T k e s Q:=rfl
def wpE(o:Option ay)(e:Env)(Q:Env->ay->Prop):Prop:=match o with
 | some s=>Q e s
 | none=>False
theorem RY:wpE (some s) e Q=Q e s:=rfl
theorem Jg{its:List It}{s':ay}(h:∀n,runN T (n+1) its e s=some (e,s')):wp T its e s Q=Q e s':=by unfold wp;rw[zR h];simp[and_assoc]
theorem wp_bgn(q g:Nat):wp T (.NZ q g::k) e s Q=wpS T (LF s q g) k e Q:=by
 cases h:LF s q g with
 | some s'=>exact iQ (dQ fun n=>by rw[runN];simp only[h])
 | none=>exact kP fun n=>by rw[runN];simp only[h]
theorem wp_eor(q g:Nat):wp T (.Oz q g::k) e s Q=wpE (Mc s q g) e Q:=by
 cases h:Mc s q g with
 | some s'=>exact Jg fun n=>by rw[runN];simp only[h]
 | none=>exact kP fun n=>by rw[runN];simp only[h]
theorem ZC(q:Nat):wp T (.code (.Rl q)::k) e s Q=wpE (xA s q none) e Q:=by
 cases h:xA s q none with
 | some s'=>exact Jg fun n=>by rw[runN];simp only[h]
 | none=>exact kP fun n=>by rw[runN];simp only[h]
def wpEX(k:Option (List It))(o:Option ay)(e:Env)(Q:Env->ay->Prop):Prop:=match k with
 | none=>wpE o e Q
 | some _=>False
theorem NG(o:Option ay):wpEX none o e Q=wpE o e Q:=rfl
theorem R7(q id:Nat):wp T (.code (.FO q id)::k) e s Q=wpEX (bD id k) (xA s q (some id)) e Q:=by
 cases hp:bD id k with
 | some k'=>exact kP fun n=>by rw[runN];simp only[hp]
 | none=>
  cases h:xA s q (some id)with
  | some s'=>exact Jg fun n=>by rw[runN];simp only[hp,h]
  | none=>exact kP fun n=>by rw[runN];simp only[hp,h]
theorem MS(id:Nat)(a:List Nat)(b:List d9)(c:ay):bD id (.Sw a b c::k)=bD id k:=by simp[bD]
theorem wp_cond(c:Ar)(a b:IC):wp T (.code (.cond c a b)::k) e s Q=wpC T (c.ev e) a b k e s Q:=by
 unfold wpC;split
 ·rename_i t h;unfold wp;rw[Rn h];cases t<;>rfl
 ·rename_i h;refine kP fun n=>?_
  rw[runN];split
  ·rename_i t h';exact absurd h' (h t)
  ·rfl
theorem RX(a b:IC):wpC T (.v (.bool true)) a b k e s Q=wp T (.code a::k) e s Q:=rfl
theorem NF(a b:IC):wpC T (.v (.bool false)) a b k e s Q=wp T (.code b::k) e s Q:=rfl
theorem aj{c:Bool}{a b:IC}(h1:c=true->wp T (.code a::k) e s Q)(h2:c=false->wp T (.code b::k) e s Q):wpC T (.v (.bool c)) a b k e s Q:=by
 cases c
 ·exact h2 rfl
 ·exact h1 rfl
theorem wp_op(d:Option Nat)(op:gm)(l:List d9):wp T (.ops (⟨d,none,op⟩::l)::k) e s Q=R3 T (bW (run T) T op e s) d l k e Q:=by
 unfold wp;rw[zS];simp only[gd];unfold R3 wp;cases bW (run T) T op e s with
 | some p=>rfl
 | none=>simp
theorem R4(x:X)(s':ay)(d:Nat)(l:List d9):R3 T (some (x,s')) (some d) l k e Q=wp T (.ops l::k) (upd e d x) s' Q:=rfl
theorem NH(x:X)(s':ay)(l:List d9):R3 T (some (x,s')) none l k e Q=wp T (.ops l::k) e s' Q:=rfl
theorem wp_gop(d:Option Nat)(t:Nat)(b:Bool)(op:gm)(l:List d9):wp T (.ops (⟨d,some (t,b),op⟩::l)::k) e s Q=Dq T (e t) b d op l k e s Q:=by
 unfold wp;rw[zS];simp only[gd];unfold Dq;split
 ·rename_i h;split at h
  ·rename_i c hc;simp only[aR,beq_iff_eq]at h;subst h;simp only[hc,if_true];unfold R3 wp;cases bW (run T) T op e s with
   | none=>simp
   | some p=>rfl
  ·simp at h
  ·simp at h
 ·rename_i h;split at h
  ·rename_i c hc;simp only[aR,beq_eq_false_iff_ne]at h;simp only[hc,if_neg h];rfl
  ·rename_i hc;simp only[hc];rfl
  ·simp at h
 ·rename_i h;split at h
  ·simp at h
  ·simp at h
  ·rename_i h1 h2;split
   ·rename_i c hc;exact absurd hc (h1 c)
   ·rename_i hc;exact absurd hc h2
   ·simp
theorem wpG_on(b:Bool)(d:Option Nat)(op:gm)(l:List d9):Dq T (.v (.bool b)) b d op l k e s Q=R3 T (bW (run T) T op e s) d l k e Q:=by simp[Dq]
theorem wpG_tf(d:Nat)(op:gm)(l:List d9):Dq T (.v (.bool true)) false (some d) op l k e s Q=wp T (.ops l::k) (upd e d (.bU [])) s Q:=by simp[Dq,put]
theorem wpG_ft(d:Nat)(op:gm)(l:List d9):Dq T (.v (.bool false)) true (some d) op l k e s Q=wp T (.ops l::k) (upd e d (.bU [])) s Q:=by simp[Dq,put]
theorem wpG_un(b:Bool)(d:Nat)(op:gm)(l:List d9):Dq T (.bU []) b (some d) op l k e s Q=wp T (.ops l::k) (upd e d (.bU [])) s Q:=by simp[Dq,put]
theorem Zz(op:gm)(l:List d9):Dq T (.v (.bool true)) false none op l k e s Q=wp T (.ops l::k) e s Q:=by simp[Dq,put]
theorem Zy(op:gm)(l:List d9):Dq T (.v (.bool false)) true none op l k e s Q=wp T (.ops l::k) e s Q:=by simp[Dq,put]
theorem ZA(b:Bool)(op:gm)(l:List d9):Dq T (.bU []) b none op l k e s Q=wp T (.ops l::k) e s Q:=by simp[Dq,put]
theorem aY{c b:Bool}{d:Option Nat}{op:gm}{l:List d9}(h1:c=true->Dq T (.v (.bool true)) b d op l k e s Q)(h2:c=false->Dq T (.v (.bool false)) b d op l k e s Q):Dq T (.v (.bool c)) b d op l k e s Q:=by
 cases c
 ·exact h2 rfl
 ·exact h1 rfl
theorem wp_chk(ch:List Nat)(js:List d9)(s0:ay):wp T (.Sw ch js s0::k) e s Q=wpK T (sU ch js s0 e s) k e s Q:=by
 unfold wpK;cases h:sU ch js s0 e s with
 | true=>rw[iQ (YQ h)];simp
 | false=>rw[kP fun n=>by rw[runN,if_neg (by simp[h])]];simp
theorem RZ:wpK T true k e s Q=wp T k e s Q:=by simp[wpK]
def wpL(T:Nat->Option Fe)(y:Option (Option (Option Nat)×ay))(k:List It)(e:Env)(Q:Env->ay->Prop):Prop:=match y with
 | some (none,s')=>wp T k e s' Q
 | some (some none,s')=>Q e s'
 | some (some (some id),s')=>wpX T (bD id k) e s' Q
 | none=>False
theorem wp_rng(q:Nat)(g:Ar)(ps:List Nat)(a b:IC):wp T (.code (.Rj q g ps a b)::k) e s Q=wpL T (nX (run T) T q (g.ev e) ps a b e s) k e Q:=by
 cases h:nX (run T) T q (g.ev e) ps a b e s with
 | none=>
  refine kP fun n=>?_;rw[runN];cases h':nX (runN T n) T q (g.ev e) ps a b e s with
  | none=>rfl
  | some y=>rw[FP.2 ⟨n,h'⟩]at h;simp at h
 | some y=>
  obtain⟨j,s'⟩:=y;obtain⟨m,hm⟩:=FP.1 h;have up:∀n,nX (runN T (n+m)) T q (g.ev e) ps a b e s=some (j,s'):=fun n=>vM (iL T (by omega)) hm;rcases j with _|_|id
  ·refine iQ (xV fun x=>⟨fun⟨n,hn⟩=>?_,fun⟨n,hn⟩=>⟨n+m+1,?_⟩⟩)
   ·have hn:=iL T (Nat.le_add_right n (m+1)) _ _ _ _ hn;rw[show n+(m+1)=(n+m)+1 by omega,runN,up n]at hn
    exact⟨_,hn⟩
   ·rw[runN,up n];exact iL T (Nat.le_add_right n m) _ _ _ _ hn
  ·unfold wpL wp;have:run T (.code (.Rj q g ps a b)::k) e s=some (e,s'):=lI (n:=m+1) (by rw[runN,show m=0+m by omega,up 0]);rw[this];simp[and_assoc]
  ·cases hp:bD id k with
   | some k'=>
    simp only[wpL,hp,wpX];refine iQ (xV fun x=>⟨fun⟨n,hn⟩=>?_,fun⟨n,hn⟩=>⟨n+m+1,?_⟩⟩)
    ·have hn:=iL T (Nat.le_add_right n (m+1)) _ _ _ _ hn;rw[show n+(m+1)=(n+m)+1 by omega,runN,up n]at hn
     simp only[hp]at hn;exact⟨_,hn⟩
    ·rw[runN,up n];simp only[hp];exact iL T (Nat.le_add_right n m) _ _ _ _ hn
   | none=>
    have:run T (.code (.Rj q g ps a b)::k) e s=none:=by
     cases hr:run T (.code (.Rj q g ps a b)::k) e s with
     | none=>rfl
     | some x=>
      obtain⟨n,hn⟩:=iK hr;have hn:=iL T (Nat.le_add_right n (m+1)) _ _ _ _ hn;rw[show n+(m+1)=(n+m)+1 by omega,runN,up n]at hn
      simp[hp]at hn
    simp only[wpL,hp,wpX];unfold wp;rw[this];simp
theorem wp_mono{its:List It}{Q':Env->ay->Prop}(h:wp T its e s Q)(hq:∀e s,Q e s->Q' e s):wp T its e s Q':=by obtain⟨e',s',h1,h2⟩:=h;exact⟨e',s',h1,hq _ _ h2⟩
structure Hd (p:Prop):Prop where
 out:p
theorem av{σ:Type}{c:IC}(I:σ->Env->ay->Prop)(μ:σ->Nat)
 (h:∀x e s,I x e s->Hd (∀y e' s',I y e' s'->μ y<μ x->wp T (.lp c::k) e' s' Q)->wp T (.code c::.lp c::k) e s Q) :
 ∀x e s,I x e s->wp T (.lp c::k) e s Q:=by
 have:∀n x e s,μ x<n->I x e s->wp T (.lp c::k) e s Q:=by
  intro n;induction n with
  | zero=>intro x e s hn;omega
  | succ n ih=>
   intro x e s hn hi;rw[fw];exact h x e s hi ⟨fun y e' s' hy hlt=>ih y e' s' (by omega) hy⟩
 intro x e s hi;exact this (μ x+1) x e s (by omega) hi
theorem Zx{α:Type}(f:Nat->α)(d:Nat)(x:α)(n:Nat):upd f d x n=if n=d then x else f n:=rfl
theorem SI(s:ay)(l:List Nat)(o:Nat):gB s l o=if o∈l then(s o).fz else s o:=rfl
theorem SS(n:Nat):bn [] n=.junk:=rfl
theorem OV(x:X)(l:List X):bn (x::l) 0=x:=rfl
theorem ini_1(x a:X)(l:List X):bn (x::a::l) 1=a:=rfl
theorem ini_2(x a b:X)(l:List X):bn (x::a::b::l) 2=b:=rfl
theorem ini_3(x a b c:X)(l:List X):bn (x::a::b::c::l) 3=c:=rfl
theorem ini_4(x a b c d:X)(l:List X):bn (x::a::b::c::d::l) 4=d:=rfl
theorem ini_5(x a b c d f:X)(l:List X):bn (x::a::b::c::d::f::l) 5=f:=rfl
def yH(o:Option X)(st:Bool)(nm:List Nat)(s:ay):Option (X×ay):=match o with
 | none=>none
 | some r=>if r.eG=true then some (r,s)else if st=true then(if qt s nm=true then some (r,s)else none)else some (r,gB s nm)
theorem Gz(r:X)(st:Bool)(nm:List Nat)(s:ay):yH (some r) st nm s=if r.eG=true then some (r,s)else if st=true then(if qt s nm=true then some (r,s)else none)else some (r,gB s nm):=rfl
noncomputable def vT(T:Nat->Option Fe)(f:Nat)(xs:Option (List X))(st:Bool)(nm:List Nat)(s:ay):Option (X×ay):=match xs with
 | none=>none
 | some xs=>yH (call T f xs) st nm s
theorem Gw(f:Nat)(xs:List X)(st:Bool)(nm:List Nat)(s:ay):vT T f (some xs) st nm s=yH (call T f xs) st nm s:=rfl
theorem Pm(st:Bool)(f:Nat)(l:List Ar):bW (run T) T (.call st f l) e s=vT T f (tq s (l.map (Ar.ev e))) st ((l.map (Ar.ev e)).flatMap lU) s:=by
 simp only[bW,gP,vT];cases tq s (l.map (Ar.ev e))with
 | none=>rfl
 | some xs=>
  simp only;cases h:iW (run T) T f xs with
  | none=>simp[call,h,yH]
  | some r=>simp[call,h,yH]
noncomputable def Oe(T:Nat->Option Fe)(x:X)(l:List X)(st:Bool)(s:ay):Option (X×ay):=match x with
 | .fn g cs=>vT T g (tq s (l++cs)) st ((l++cs).flatMap lU) s
 | _=>none
theorem Og(g:Nat)(cs l:List X)(st:Bool)(s:ay):Oe T (.fn g cs) l st s=vT T g (tq s (l++cs)) st ((l++cs).flatMap lU) s:=rfl
theorem ML(st:Bool)(f:Ar)(l:List Ar):bW (run T) T (.fG st f l) e s=Oe T (f.ev e) (l.map (Ar.ev e)) st s:=by
 simp only[bW,Oe];cases h:f.ev e with
 | fn g cs=>
  simp only[gP,vT];cases tq s (l.map (Ar.ev e)++cs)with
  | none=>rfl
  | some xs=>
   simp only;cases h:iW (run T) T g xs with
   | none=>simp[call,h,yH]
   | some r=>simp[call,h,yH]
 | _=>rfl
noncomputable def yG(o:Option X)(s:ay):Option (X×ay):=match o with
 | none=>none
 | some r=>if r.eG=true then some (r,s)else none
@[simp] theorem ZK(r:X)(s:ay):yG (some r) s=if r.eG=true then some (r,s)else none:=rfl
noncomputable def Gu(T:Nat->Option Fe)(f:Nat)(xs:Option (List X))(s:ay):Option (X×ay):=match xs with
 | none=>none
 | some xs=>yG (call T f xs) s
@[simp] theorem ZJ(f:Nat)(xs:List X)(s:ay):Gu T f (some xs) s=yG (call T f xs) s:=rfl
@[simp] theorem opR_callb(f:Nat)(l:List Ar):bW (run T) T (.j6 f l) e s=Gu T f (xu s (l.map (Ar.ev e))) s:=by
 simp only[bW,qR,Gu];cases xu s (l.map (Ar.ev e))with
 | none=>rfl
 | some xs=>
  simp only;cases h:iW (run T) T f xs with
  | none=>simp[call,h,yG]
  | some r=>simp[call,h,yG]
noncomputable def ownC(T:Nat->Option Fe)(p:List Nat)(f:Nat)(xs:List X):Option (X×Option (Nat×List X)):=um (run T) T p f xs
noncomputable def Gx(T:Nat->Option Fe)(st:Bool)(p:List Nat)(q f:Nat)(nm:List Nat)(s:ay)(xs:Option (List X)):Option (X×ay):=match xs with
 | none=>none
 | some xs=>ji st p q nm s (ownC T p f xs)
@[simp] theorem ZL(st:Bool)(p:List Nat)(q f:Nat)(nm:List Nat)(s:ay)(xs:List X):Gx T st p q f nm s (some xs)=ji st p q nm s (ownC T p f xs):=rfl
@[simp] theorem ZN(st:Bool)(p:List Nat)(q:Nat)(nm:List Nat)(s:ay)(r:X)(k:Nat)(es:List X):ji st p q nm s (some (r,some (k,es))) =
 if(st=true/\¬(nm=[]))\/q∈nm then none else some (plug p r (.ref q ((s q).g+1) k 0 es.length),aO (gB s nm) q (.row k es)):=rfl
@[simp] theorem ZM(st:Bool)(p:List Nat)(q:Nat)(nm:List Nat)(s:ay)(r:X):ji st p q nm s (some (r,none)) =
 if st=true/\¬(nm=[])then none else some (plug p r .nil,gB s nm):=rfl
@[simp] theorem opR_callo(st:Bool)(p:List Nat)(q f:Nat)(l:List Ar):bW (run T) T (.bL st p q f l) e s=Gx T st p q f ((l.map (Ar.ev e)).flatMap lU) s (tq s (l.map (Ar.ev e))):=by simp only[bW,pq,Gx,ownC];cases tq s (l.map (Ar.ev e))<;>rfl
noncomputable def DY(T:Nat->Option Fe)(x:X)(l:List X)(s:ay):Option (X×ay):=match x with
 | .fn g cs=>if aP cs=true then vT T g (tq s (l++cs)) false ((l++cs).flatMap lU) s else dD (run T) T g (l++cs) s
 | .fm g cs=>dD (run T) T g (cs++l) s
 | .Dx q g=>iR (run T) q g l s
 | _=>none
@[simp] theorem callW_yld(q g:Nat)(l:List X)(s:ay):DY T (.Dx q g) l s=iR (run T) q g l s:=rfl
@[simp] theorem callW_fm(g:Nat)(cs l:List X)(s:ay):DY T (.fm g cs) l s=dD (run T) T g (cs++l) s:=rfl
@[simp] theorem callW_fn(g:Nat)(cs l:List X)(s:ay):DY T (.fn g cs) l s=if aP cs=true then vT T g (tq s (l++cs)) false ((l++cs).flatMap lU) s else dD (run T) T g (l++cs) s:=rfl
@[simp] theorem opR_callw(f:Ar)(l:List Ar):bW (run T) T (.fK f l) e s=DY T (f.ev e) (l.map (Ar.ev e)) s:=by simp only[bW,DY];cases f.ev e<;>rfl
theorem MK(f:Nat)(l:List Ar):bW (run T) T (.bB f l) e s=dD (run T) T f (l.map (Ar.ev e)) s:=rfl
theorem ak{f nt:Nat}{res:List fI}{body:IC}{xs:List X}{x:X}(hT:T f=some (.code nt res body))(hn:xs.length<=nt)
 (h:wp T [.code body] (bn xs) s0 (fun e s=>aC e s res=some x)):call T f xs=some x:=by
 obtain⟨e',s',hr,hx⟩:=h;exact A9 hT hn hr hx
theorem j5{f nt:Nat}{res:List fI}{body:IC}{xs:List X}{s:ay}{P:X×ay->Prop}(hT:T f=some (.code nt res body))(hn:xs.length<=nt)
 (h:wp T [.code body] (bn xs) s (fun e s'=>∃x,iJ e s' res=some x/\P (x,s'))):∃r,dD (run T) T f xs s=some r/\P r:=by
 obtain⟨e',s',hr,x,hx,hp⟩:=h;exact⟨(x,s'),by simp only[dD,hT,if_pos hn,hr,hx],hp⟩
end
attribute [simp] wp_nil wp_ret wp_skip wp_ops ZB wp_seq R8 wp_block wp_loop wp_bl Jh wp_exit R6 Pt Hr Pv MW MS wp_cond RX NF wp_op R4 NH wp_gop
 wpG_on wpG_tf wpG_ft wpG_un Zz Zy ZA RZ wp_chk Zx SI JG SS OV ini_1 ini_2 ini_3 ini_4 ini_5 Gz Gw Og Pm ML MK MR MU MV R5 RY wp_bgn wp_eor ZC NG R7 wp_rng
@[simp] theorem popTo_ne(id id':Nat)(k:List It)(h:¬id'=id):bD id (.bl id'::k)=bD id k:=Fj (by simpa using h)
@[simp] theorem ev_t(e:Env)(n:Nat):Ar.ev e (.t n)=e n:=rfl
@[simp] theorem ev_k(e:Env)(x:X):Ar.ev e (.k x)=x:=rfl
@[simp] theorem nat_inj(a b:Nat):((a:Int)=(b:Int))=(a=b):=by apply propext;omega
theorem bY{x:SO}{g:Nat}{wr:Bool}{o:Option Ob}(h1:x.g=g)(h2:x.wr=wr)(h3:x.o=o):∃n,x=⟨g,wr,o,n⟩:=⟨x.n,by cases x;simp_all⟩
@[simp] theorem Zt{α β:Type}(f:α->β)(l:List α):(l.map f).take l.length=l.map f:=List.take_of_length_le (by simp)
theorem xL(a b:Int):(a==b)=decide (a=b):=by by_cases h:a=b<;>simp[h]
section
variable {r:List It->Env->ay->Option (Env×ay)} {T:Nat->Option Fe} {e:Env} {s:ay}
@[simp] theorem opR_mov(a:Ar):bW r T (.bF a) e s=some (a.ev e,s):=rfl
def Pq(c a b:X)(s:ay):Option (X×ay):=match c with
 | .v (.bool t)=>some (cond t a b,s)
 | _=>none
@[simp] theorem opR_pick(c a b:Ar):bW r T (.pick c a b) e s=Pq (c.ev e) (a.ev e) (b.ev e) s:=by simp only[bW,aA,Pq];cases c.ev e<;>rfl
@[simp] theorem pickR_v(t:Bool)(a b:X):Pq (.v (.bool t)) a b s=some (cond t a b,s):=rfl
@[simp] theorem opR_box(o:Nat)(a:Ar):bW r T (.box o a) e s=if(a.ev e).cells.all X.one=true then some (.ptr o ((s o).g+1) 0,aO s o (.box (a.ev e)))else none:=rfl
@[simp] theorem opR_boxI(a:Ar):bW r T (.xZ a) e s=if(a.ev e).deep=true/\(a.ev e).cells.all X.one=true then some (.ip (a.ev e) 0,s)else none:=rfl
def Gi(o:Option (List X))(s:ay):Option (X×ay):=match o with
 | some cs=>some (.agg cs,s)
 | none=>none
@[simp] theorem ZI(cs:List X):Gi (some cs) s=some (.agg cs,s):=rfl
@[simp] theorem opR_build(z:List X)(ps:List (Nat×Nat×Ar)):bW r T (.build z ps) e s=Gi (fill e z ps) s:=by simp only[bW,aA,Gi];split<;>simp_all
def bslR(o k n:Nat)(x:Option (List X×List Nat))(s:ay):Option (X×ay):=match x with
 | some (es,nm)=>if o∈nm then none else some (.ref o ((s o).g+1) k 0 n,gB (aO s o (.row k es)) nm)
 | none=>none
@[simp] theorem bslR_some(o k n:Nat)(es:List X)(nm:List Nat):bslR o k n (some (es,nm)) s=if o∈nm then none else some (.ref o ((s o).g+1) k 0 n,gB (aO s o (.row k es)) nm):=rfl
@[simp] theorem opR_bsl(o k n:Nat)(z:X)(ps:List (Nat×Ar)):bW r T (.kG o k n z ps) e s=bslR o k n (iY e s k (List.replicate n z) ps) s:=by simp only[bW,aA,bslR];split<;>simp_all
def Oa(x:Option (List X×List Nat))(s:ay):Option (X×ay):=match x with
 | some (es,[])=>some (.sl true es,s)
 | _=>none
@[simp] theorem bslIR_some(es:List X):Oa (some (es,[])) s=some (.sl true es,s):=rfl
@[simp] theorem opR_bslI(k n:Nat)(z:X)(ps:List (Nat×Ar)):bW r T (.jA k n z ps) e s=Oa (iY e s k (List.replicate n z) ps) s:=by simp only[bW,aA,Oa];split<;>simp_all
@[simp] theorem fill_nil(cs:List X):fill e cs []=some cs:=rfl
@[simp] theorem fill_cons(cs:List X)(j w:Nat)(a:Ar)(l:List (Nat×Nat×Ar)):fill e cs ((j,w,a)::l)=if(a.ev e).cells.length=w/\j+w<=cs.length/\(a.ev e).cells.all X.one=true then fill e (spl cs j (a.ev e).cells) l else none:=rfl
@[simp] theorem fillE_nil(k:Nat)(es:List X):iY e s k es []=some (es,[]):=rfl
def JD(nm:List Nat)(o:Option (List X×List Nat)):Option (List X×List Nat):=match o with
 | some (es,l)=>some (es,nm++l)
 | none=>none
@[simp] theorem fillC_some(nm l:List Nat)(es:List X):JD nm (some (es,l))=some (es,nm++l):=rfl
def OE(e:Env)(s:ay)(k i:Nat)(es:List X)(nm:List Nat)(l:List (Nat×Ar))(o:Option X):Option (List X×List Nat):=match o with
 | some x=>if x.cells.length=k/\i<es.length/\x.cells.all X.one=true then JD nm (iY e s k (es.set i x) l)else none
 | none=>none
@[simp] theorem fillR_some(k i:Nat)(es:List X)(nm:List Nat)(l:List (Nat×Ar))(x:X):OE e s k i es nm l (some x)=if x.cells.length=k/\i<es.length/\x.cells.all X.one=true then JD nm (iY e s k (es.set i x) l)else none:=rfl
@[simp] theorem fillE_cons(k i:Nat)(es:List X)(a:Ar)(l:List (Nat×Ar)):iY e s k es ((i,a)::l)=OE e s k i es (nR (a.ev e)) l (oh s (a.ev e)):=by
 simp only[iY,OE,JD];split
 ·rename_i x hx;rw[hx];simp only;split
  ·cases iY e s k (es.set i x) l with
   | none=>rfl
   | some p=>rfl
  ·rfl
 ·rename_i hx;rw[hx]
@[simp] theorem retS_mk(x:X):qL (some x) s=some (x,s):=rfl
@[simp] theorem opR_ld(a:Ar)(w:Nat)(ag:Bool):bW r T (.ld a w ag) e s=qL (ES s (a.ev e) w ag) s:=rfl
def stR(o:Option ay):Option (X×ay):=match o with
 | some s=>some (.junk,s)
 | none=>none
@[simp] theorem stR_some:stR (some s)=some (.junk,s):=rfl
@[simp] theorem opR_st(a b:Ar)(w:Nat):bW r T (.st a b w) e s=stR (stX s (a.ev e) (b.ev e) w):=by simp only[bW,aA,stR];split<;>simp_all
def ldP(g j w:Nat)(ag:Bool)(x:SO):Option X:=match x.o with
 | some (.box y)=>if g=x.g then iI y.cells j w ag else none
 | _=>none
@[simp] theorem ldX_ptr(o g j w:Nat)(ag:Bool):ES s (.ptr o g j) w ag=ldP g j w ag (s o):=rfl
@[simp] theorem ldP_box(g j w:Nat)(ag:Bool)(g' n:Nat)(wr:Bool)(y:X):ldP g j w ag ⟨g',wr,some (.box y),n⟩=if g=g' then iI y.cells j w ag else none:=rfl
def ldE(g k i j w:Nat)(ag:Bool)(x:SO):Option X:=match x.o with
 | some (.row k' es)=>if g=x.g/\k=k'/\j+w<=k then(match es[i]? with
  | some y=>iI y.cells j w ag
  | none=>none)else none
 | _=>none
@[simp] theorem ldX_ep(o g k i j w:Nat)(ag:Bool):ES s (.ep o g k i j) w ag=ldE g k i j w ag (s o):=rfl
@[simp] theorem ldE_row(g k i j w:Nat)(ag:Bool)(g' n k':Nat)(wr:Bool)(es:List X):ldE g k i j w ag ⟨g',wr,some (.row k' es),n⟩=if g=g'/\k=k'/\j+w<=k then(match es[i]? with
 | some y=>iI y.cells j w ag
 | none=>none)else none:=rfl
@[simp] theorem ldX_ip(y:X)(j w:Nat)(ag:Bool):ES s (.ip y j) w ag=iI y.cells j w ag:=rfl
def stP(s:ay)(o g j:Nat)(y:X)(w:Nat)(x:SO):Option ay:=match x.o with
 | some (.box z)=>if g=x.g/\x.wr=true/\y.cells.length=w/\j+w<=z.cells.length/\y.cells.all X.one=true then some (bK s o (.box (p_ z j y.cells)))else none
 | _=>none
@[simp] theorem stX_ptr(o g j:Nat)(y:X)(w:Nat):stX s (.ptr o g j) y w=stP s o g j y w (s o):=rfl
@[simp] theorem stP_box(o g j:Nat)(y:X)(w:Nat)(g' n:Nat)(wr:Bool)(z:X):stP s o g j y w ⟨g',wr,some (.box z),n⟩=if g=g'/\wr=true/\y.cells.length=w/\j+w<=z.cells.length/\y.cells.all X.one=true then some (bK s o (.box (p_ z j y.cells)))else none:=rfl
def stE(s:ay)(o g k i j:Nat)(y:X)(w:Nat)(y':Option X)(x:SO):Option ay:=match x.o,y' with
 | some (.row k' es),some y'=>(match es[i]? with
  | some z=>if g=x.g/\k=k'/\x.wr=true/\y'.cells.length=w/\j+w<=k/\y'.cells.all X.one=true/\¬o∈nR y then some (gB (bK s o (.row k (es.set i (p_ z j y'.cells)))) (nR y))else none
  | none=>none)
 | _,_=>none
@[simp] theorem stX_ep(o g k i j:Nat)(y:X)(w:Nat):stX s (.ep o g k i j) y w=stE s o g k i j y w (oh s y) (s o):=rfl
@[simp] theorem stE_row(o g k i j:Nat)(y:X)(w:Nat)(y':X)(g' n k':Nat)(wr:Bool)(es:List X):stE s o g k i j y w (some y') ⟨g',wr,some (.row k' es),n⟩=(match es[i]? with
 | some z=>if g=g'/\k=k'/\wr=true/\y'.cells.length=w/\j+w<=k/\y'.cells.all X.one=true/\¬o∈nR y then some (gB (bK s o (.row k (es.set i (p_ z j y'.cells)))) (nR y))else none
 | none=>none):=rfl
@[simp] theorem opR_nck(a:Ar):bW r T (.Sg a) e s=(match a.ev e with
 | .ptr o g j=>if g=(s o).g then some (.ptr o g j,s)else none
 | .ep o g k i j=>if g=(s o).g then some (.ep o g k i j,s)else none
 | .ip x j=>some (.ip x j,s)
 | _=>none):=rfl
def fU(op:BinOp)(x y:X)(s:ay):Option (X×ay):=match x,y with
 | .v x,.v y=>(match jy op x y with
  | some z=>some (.v z,s)
  | none=>none)
 | _,_=>none
@[simp] theorem opR_bin(op:BinOp)(a b:Ar):bW r T (.bin op a b) e s=fU op (a.ev e) (b.ev e) s:=by simp only[bW,aA,fU];cases a.ev e<;>cases b.ev e<;>rfl
@[simp] theorem N7(k:IntKind)(a b:Int):fU .add (.v (.int k a)) (.v (.int k b)) s=some (.v (.int k (k.wrap (a+b))),s):=by simp[fU,jy]
@[simp] theorem binR_sub(k:IntKind)(a b:Int):fU .sub (.v (.int k a)) (.v (.int k b)) s=some (.v (.int k (k.wrap (a-b))),s):=by simp[fU,jy]
@[simp] theorem N8(k:IntKind)(a b:Int):fU .mul (.v (.int k a)) (.v (.int k b)) s=some (.v (.int k (k.wrap (a*b))),s):=by simp[fU,jy]
@[simp] theorem binR_eql(k:IntKind)(a b:Int):fU .eql (.v (.int k a)) (.v (.int k b)) s=some (.v (.bool (decide (a=b))),s):=by simp[fU,jy];try rw[xL]
@[simp] theorem binR_neq(k:IntKind)(a b:Int):fU .neq (.v (.int k a)) (.v (.int k b)) s=some (.v (.bool (!decide (a=b))),s):=by simp[fU,jy,bne];try rw[xL]
@[simp] theorem binR_lss(k:IntKind)(a b:Int):fU .lss (.v (.int k a)) (.v (.int k b)) s=some (.v (.bool (decide (a<b))),s):=by simp[fU,jy]
@[simp] theorem binR_leq(k:IntKind)(a b:Int):fU .leq (.v (.int k a)) (.v (.int k b)) s=some (.v (.bool (decide (a<=b))),s):=by simp[fU,jy]
@[simp] theorem binR_gtr(k:IntKind)(a b:Int):fU .gtr (.v (.int k a)) (.v (.int k b)) s=some (.v (.bool (decide (b<a))),s):=by simp[fU,jy]
@[simp] theorem binR_geq(k:IntKind)(a b:Int):fU .geq (.v (.int k a)) (.v (.int k b)) s=some (.v (.bool (decide (b<=a))),s):=by simp[fU,jy]
@[simp] theorem binR_seql(a b:ByteArray):fU .eql (.v (.string a)) (.v (.string b)) s=some (.v (.bool (a.toList==b.toList)),s):=by simp[fU,jy]
@[simp] theorem binR_sneq(a b:ByteArray):fU .neq (.v (.string a)) (.v (.string b)) s=some (.v (.bool (!(a.toList==b.toList))),s):=by simp[fU,jy]
def eqsR(neg:Bool)(ks:List LK)(x y:X)(s:ay):Option (X×ay):=match x,y with
 | .agg x,.agg y=>(match Cy ks x y with
  | some z=>some (.v (.bool (if neg then !z else z)),s)
  | none=>none)
 | _,_=>none
@[simp] theorem opR_eqs(neg:Bool)(ks:List LK)(a b:Ar):bW r T (.eqs neg ks a b) e s=eqsR neg ks (a.ev e) (b.ev e) s:=by simp only[bW,aA,eqsR];cases a.ev e<;>cases b.ev e<;>rfl
@[simp] theorem eqsR_agg(neg:Bool)(ks:List LK)(x y:List X):eqsR neg ks (.agg x) (.agg y) s=(match Cy ks x y with
 | some z=>some (.v (.bool (if neg then !z else z)),s)
 | none=>none):=rfl
@[simp] theorem eqL_nil:Cy [] [] []=some true:=rfl
@[simp] theorem eqL_cons(k:LK)(ks:List LK)(a b:Value)(l m:List X):Cy (k::ks) (.v a::l) (.v b::m)=(match Dt k a b,Cy ks l m with
 | some p,some q=>some (p&&q)
 | _,_=>none):=rfl
@[simp] theorem eqV_i(k:IntKind)(a b:Int):Dt .i (.int k a) (.int k b)=some (decide (a=b)):=by simp[Dt];try rw[xL]
@[simp] theorem eqV_s(a b:ByteArray):Dt .s (.string a) (.string b)=some (a.toList==b.toList):=rfl
@[simp] theorem eqV_b(a b:Bool):Dt .b (.bool a) (.bool b)=some (a==b):=rfl
@[simp] theorem opR_eqb(neg:Bool)(a b:Ar):bW r T (.ZX neg a b) e s=(match a.ev e,b.ev e with
 | .v (.bool x),.v (.bool y)=>some (.v (.bool (if neg then !(x==y)else x==y)),s)
 | _,_=>none):=rfl
def unR(op:UnOp)(x:X)(s:ay):Option (X×ay):=match x with
 | .v x=>(match unV op x with
  | some z=>some (.v z,s)
  | none=>none)
 | _=>none
@[simp] theorem opR_un(op:UnOp)(a:Ar):bW r T (.un op a) e s=unR op (a.ev e) s:=by simp only[bW,aA,unR];cases a.ev e<;>rfl
@[simp] theorem unR_not(b:Bool):unR .not (.v (.bool b)) s=some (.v (.bool !b),s):=rfl
@[simp] theorem unR_neg(k:IntKind)(n:Int):unR .neg (.v (.int k n)) s=some (.v (.int k (k.wrap (0-n))),s):=rfl
@[simp] theorem opR_cvs(a:Ar):bW r T (.cvs a) e s=(match a.ev e with
 | .v (.string b)=>some (.v (.string b),s)
 | _=>none):=rfl
def ZP(k:IntKind)(x:X)(s:ay):Option (X×ay):=match x with
 | .v (.int _ n)=>some (.v (.int k (k.wrap n)),s)
 | _=>none
@[simp] theorem opR_conv(k:IntKind)(a:Ar):bW r T (.conv k a) e s=ZP k (a.ev e) s:=rfl
@[simp] theorem convR_int(k k':IntKind)(n:Int):ZP k (.v (.int k' n)) s=some (.v (.int k (k.wrap n)),s):=rfl
def faR(x:X)(j:Nat)(s:ay):Option (X×ay):=match x with
 | .ptr o g i=>if g=(s o).g then some (.ptr o g (i+j),s)else none
 | .ep o g k i l=>if g=(s o).g then some (.ep o g k i (l+j),s)else none
 | .ip x i=>some (.ip x (i+j),s)
 | _=>none
@[simp] theorem opR_fa(a:Ar)(j:Nat):bW r T (.fa a j) e s=faR (a.ev e) j s:=rfl
@[simp] theorem faR_ptr(o g i j:Nat):faR (.ptr o g i) j s=if g=(s o).g then some (.ptr o g (i+j),s)else none:=rfl
@[simp] theorem faR_ep(o g k i l j:Nat):faR (.ep o g k i l) j s=if g=(s o).g then some (.ep o g k i (l+j),s)else none:=rfl
@[simp] theorem faR_ip(x:X)(i j:Nat):faR (.ip x i) j s=some (.ip x (i+j),s):=rfl
def fldR(x:X)(j w:Nat)(ag:Bool)(s:ay):Option (X×ay):=match x with
 | .agg cs=>qL (iI cs j w ag) s
 | _=>none
@[simp] theorem opR_fld(a:Ar)(j w:Nat)(ag:Bool):bW r T (.JF a j w ag) e s=fldR (a.ev e) j w ag s:=rfl
@[simp] theorem fldR_agg(cs:List X)(j w:Nat)(ag:Bool):fldR (.agg cs) j w ag s=qL (iI cs j w ag) s:=rfl
def Ta(x i:X)(w:Nat)(s:ay):Option (X×ay):=match i with
 | .v (.int _ n)=>(match x with
  | .sl _ es=>if 0<=n/\n<(es.length:Int)then(match es[n.toNat]? with
   | some x=>if x.cells.length=w then some (.ip x 0,s)else none
   | none=>none)
   else none
  | .ref o g k j m=>if 0<=n/\n<(m:Int)/\k=w/\g=(s o).g then some (.ep o g k (j+n.toNat) 0,s)else none
  | _=>none)
 | _=>none
@[simp] theorem opR_ixa(a i:Ar)(w:Nat):bW r T (.dK a i w) e s=Ta (a.ev e) (i.ev e) w s:=by
 simp only[bW,aA,Ta];cases i.ev e<;>first|rfl|skip
 rename_i u;cases u<;>rfl
@[simp] theorem ixaR_sl(k:IntKind)(n:Int)(f:Bool)(es:List X)(w:Nat):Ta (.sl f es) (.v (.int k n)) w s=if 0<=n/\n<(es.length:Int)then(match es[n.toNat]? with
 | some x=>if x.cells.length=w then some (.ip x 0,s)else none
 | none=>none)
 else none:=rfl
@[simp] theorem ixaR_ref(ki:IntKind)(n:Int)(o g k j m w:Nat):Ta (.ref o g k j m) (.v (.int ki n)) w s=if 0<=n/\n<(m:Int)/\k=w/\g=(s o).g then some (.ep o g k (j+n.toNat) 0,s)else none:=rfl
def ixpR(x i:X)(w n:Nat)(s:ay):Option (X×ay):=match i with
 | .v (.int _ m)=>if 0<=m/\m<(n:Int)then(match x with
  | .ptr o g j=>if g=(s o).g then some (.ptr o g (j+m.toNat*w),s)else none
  | .ip x j=>some (.ip x (j+m.toNat*w),s)
  | _=>none)
  else none
 | _=>none
@[simp] theorem opR_ixp(a i:Ar)(w n:Nat):bW r T (.Bo a i w n) e s=ixpR (a.ev e) (i.ev e) w n s:=by
 simp only[bW,aA,ixpR];cases i.ev e<;>first|rfl|skip
 rename_i u;cases u<;>rfl
@[simp] theorem ixpR_ptr(k:IntKind)(m:Int)(o g j w n:Nat):ixpR (.ptr o g j) (.v (.int k m)) w n s=if 0<=m/\m<(n:Int)then(if g=(s o).g then some (.ptr o g (j+m.toNat*w),s)else none)else none:=rfl
def ixsR(x i:X)(s:ay):Option (X×ay):=match x,i with
 | .v (.string b),.v (.int _ n)=>(match (if 0<=n then b[n.toNat]? else none)with
  | some c=>some (.v (.int .u8 c.toNat),s)
  | none=>none)
 | _,_=>none
@[simp] theorem opR_ixs(a i:Ar):bW r T (.F_ a i) e s=ixsR (a.ev e) (i.ev e) s:=by
 simp only[bW,aA,ixsR];cases a.ev e<;>first|rfl|skip
 rename_i u;cases u<;>first|rfl|skip
 cases i.ev e<;>first|rfl|skip
 rename_i u;cases u<;>rfl
@[simp] theorem ixsR_v(k:IntKind)(b:ByteArray)(n:Int):ixsR (.v (.string b)) (.v (.int k n)) s=(match (if 0<=n then b[n.toNat]? else none)with
 | some c=>some (.v (.int .u8 c.toNat),s)
 | none=>none):=rfl
def ixvR(x i:X)(w n:Nat)(ag:Bool)(s:ay):Option (X×ay):=match x,i with
 | .agg cs,.v (.int _ m)=>if 0<=m/\m<(n:Int)then qL (iI cs (m.toNat*w) w ag) s else none
 | _,_=>none
@[simp] theorem opR_ixv(a i:Ar)(w n:Nat)(ag:Bool):bW r T (.ixv a i w n ag) e s=ixvR (a.ev e) (i.ev e) w n ag s:=by
 simp only[bW,aA,ixvR];cases a.ev e<;>first|rfl|skip
 cases i.ev e<;>first|rfl|skip
 rename_i u;cases u<;>rfl
@[simp] theorem ixvR_agg(k:IntKind)(cs:List X)(m:Int)(w n:Nat)(ag:Bool):ixvR (.agg cs) (.v (.int k m)) w n ag s=if 0<=m/\m<(n:Int)then qL (iI cs (m.toNat*w) w ag) s else none:=rfl
@[simp] theorem opR_sls(a:Ar)(lo hi:Option Ar):bW r T (.sls a lo hi) e s=(match a.ev e with
 | .v (.string b)=>(match bnd e hi b.size b.size with
  | some h=>(match bnd e lo 0 h with
   | some l=>some (.v (.string (b.extract l h)),s)
   | none=>none)
  | none=>none)
 | _=>none):=rfl
def sliR(w:Nat)(x:X)(lo hi:Option Ar)(e:Env)(s:ay):Option (X×ay):=match x with
 | .sl f es=>if es.all (fun y=>y.cells.length==w)=false then none else match bnd e hi es.length es.length with
  | some h=>match bnd e lo 0 h with
   | some l=>some (.sl f ((es.drop l).take (h-l)),s)
   | none=>none
  | none=>none
 | .ref o g k i n=>if ¬(g=(s o).g/\k=w)then none else match bnd e hi n n with
  | some h=>match bnd e lo 0 h with
   | some l=>some (if l=0 then .ref o g k i h else if h-l=0 then .sl true []else .ref o g k (i+l) (h-l),s)
   | none=>none
  | none=>none
 | .nil=>match bnd e hi 0 0 with
  | some _=>match bnd e lo 0 0 with
   | some _=>some (.nil,s)
   | none=>none
  | none=>none
 | _=>none
@[simp] theorem opR_sli(w:Nat)(a:Ar)(lo hi:Option Ar):bW r T (.RB w a lo hi) e s=sliR w (a.ev e) lo hi e s:=rfl
@[simp] theorem sliR_sl(w:Nat)(f:Bool)(es:List X)(lo hi:Option Ar):sliR w (.sl f es) lo hi e s=if es.all (fun y=>y.cells.length==w)=false then none else match bnd e hi es.length es.length with
 | some h=>match bnd e lo 0 h with
  | some l=>some (.sl f ((es.drop l).take (h-l)),s)
  | none=>none
 | none=>none:=rfl
@[simp] theorem bnd_none(d y:Nat):bnd e none d y=some d:=rfl
@[simp] theorem bnd_some(a:Ar)(d y:Nat):bnd e (some a) d y=(match uT (a.ev e)with
 | some i=>if 0<=i/\i<=(y:Int)then some i.toNat else none
 | none=>none):=rfl
@[simp] theorem asI_int(k:IntKind)(n:Int):uT (.v (.int k n))=some n:=rfl
@[simp] theorem opR_mks(o k:Nat)(z:X)(len cap:Ar)(lim:Nat):bW r T (.Mw o k z len cap lim) e s=(match uT (len.ev e),uT (cap.ev e)with
 | some l,some c=>if 0<=l/\l<=c/\c<=(lim:Int)/\z.cells.length=k/\z.deep=true/\z.cells.all X.one=true then some (.ref o ((s o).g+1) k 0 l.toNat,aO s o (.row k (List.replicate l.toNat z)))else none
 | _,_=>none):=rfl
def Tg(x:X)(s:ay):Option (X×ay):=match x with
 | .sl _ es=>some (.v (.int .i64 es.length),s)
 | .ref o g _ _ n=>if g=(s o).g then some (.v (.int .i64 n),s)else none
 | .nil=>some (.v (.int .i64 0),s)
 | _=>none
@[simp] theorem opR_len(a:Ar):bW r T (.len a) e s=Tg (a.ev e) s:=rfl
@[simp] theorem lenR_sl(f:Bool)(es:List X):Tg (.sl f es) s=some (.v (.int .i64 es.length),s):=rfl
@[simp] theorem lenR_nil:Tg .nil s=some (.v (.int .i64 0),s):=rfl
@[simp] theorem lenR_ref(o g k i n:Nat):Tg (.ref o g k i n) s=if g=(s o).g then some (.v (.int .i64 n),s)else none:=rfl
def Z0(x:X)(s:ay):Option (X×ay):=match x with
 | .v (.string b)=>some (.v (.int .i64 b.size),s)
 | _=>none
@[simp] theorem opR_lens(a:Ar):bW r T (.lens a) e s=Z0 (a.ev e) s:=rfl
@[simp] theorem lensR_v(b:ByteArray):Z0 (.v (.string b)) s=some (.v (.int .i64 b.size),s):=rfl
def NV(o k lim:Nat)(x:X)(ys:Option (List X))(nm:List Nat)(s:ay):Option (X×ay):=match ys with
 | some ys=>if NP k ys=false then none else match x with
  | .nil=>if ys=[]then some (.nil,s)else
   if ys.length<=lim then some (.ref o ((s o).g+1) k 0 ys.length,aO s o (.row k ys))else none
  | .ref o' g k' i n=>(match (s o').o with
   | some (.row k'' es)=>
    if g=(s o').g/\k'=k/\k''=k/\(s o').wr=true/\i=0/\n=es.length/\n+ys.length<=lim/\¬o'∈nm then
     some (.ref o' (g+1) k i (n+ys.length),aO s o' (.row k (es++ys)))else none
   | _=>none)
  | _=>none
 | none=>none
@[simp] theorem opR_app(o k lim:Nat)(a b:Ar):bW r T (.app o k lim a b) e s=NV o k lim (a.ev e) (elems s (b.ev e)) (r_ (b.ev e)) s:=rfl
@[simp] theorem elems_sl(f:Bool)(es:List X):elems s (.sl f es)=some es:=rfl
@[simp] theorem elems_nil:elems s .nil=some []:=rfl
@[simp] theorem opR_apo(o k lim:Nat)(a b:Ar):bW r T (.NK o k lim a b) e s=wV s o k lim (a.ev e) (b.ev e):=rfl
@[simp] theorem apoX_nil(o k lim:Nat)(f:Bool)(es:List X):wV s o k lim .nil (.sl f es)=NV o k lim .nil (some es) [] s:=rfl
@[simp] theorem apoX_ref(o k lim o' g k' i n:Nat)(f:Bool)(es:List X):wV s o k lim (.ref o' g k' i n) (.sl f es)=if o'=o then NV o k lim (.ref o' g k' i n) (some es) [] s else none:=rfl
@[simp] theorem appR_nil(o k lim:Nat)(ys:List X)(nm:List Nat):NV o k lim .nil (some ys) nm s=if NP k ys=false then none else if ys=[]then some (.nil,s)else
 if ys.length<=lim then some (.ref o ((s o).g+1) k 0 ys.length,aO s o (.row k ys))else none:=rfl
def appO(k lim g k' i n:Nat)(ys:List X)(nm:List Nat)(s:ay)(o':Nat)(x:SO):Option (X×ay):=match x.o with
 | some (
  .row k'' es)=>
  if g=x.g/\k'=k/\k''=k/\x.wr=true/\i=0/\n=es.length/\n+ys.length<=lim/\¬o'∈nm then
   some (.ref o' (g+1) k i (n+ys.length),aO s o' (.row k (es++ys)))else none
 | _=>none
@[simp] theorem appR_ref(o k lim o' g k' i n:Nat)(ys:List X)(nm:List Nat):NV o k lim (.ref o' g k' i n) (some ys) nm s=if NP k ys=false then none else appO k lim g k' i n ys nm s o' (s o'):=rfl
@[simp] theorem appO_row(k lim g k' i n:Nat)(ys:List X)(nm:List Nat)(o' g' c k'':Nat)(wr:Bool)(es:List X):appO k lim g k' i n ys nm s o' ⟨g',wr,some (.row k'' es),c⟩ =
 if g=g'/\k'=k/\k''=k/\wr=true/\i=0/\n=es.length/\n+ys.length<=lim/\¬o'∈nm then
  some (.ref o' (g+1) k i (n+ys.length),aO s o' (.row k (es++ys)))else none:=rfl
def Z5(mx:Bool)(x:X)(e:Env)(l:List Ar)(s:ay):Option (X×ay):=match x with
 | .v u=>(match pK mx e u l with
  | some z=>some (.v z,s)
  | none=>none)
 | _=>none
@[simp] theorem opR_mnmx(mx:Bool)(a:Ar)(l:List Ar):bW r T (.a_ mx a l) e s=Z5 mx (a.ev e) e l s:=rfl
@[simp] theorem mnmxR_v(mx:Bool)(u:Value)(l:List Ar):Z5 mx (.v u) e l s=(match pK mx e u l with
 | some z=>some (.v z,s)
 | none=>none):=rfl
@[simp] theorem mnxL_nil(mx:Bool)(u:Value):pK mx e u []=some u:=rfl
def mnxR(mx:Bool)(e:Env)(u:Value)(x:X)(l:List Ar):Option Value:=match x with
 | .v y=>(match mnx mx u y with
  | some z=>pK mx e z l
  | none=>none)
 | _=>none
@[simp] theorem mnxL_cons(mx:Bool)(u:Value)(a:Ar)(l:List Ar):pK mx e u (a::l)=mnxR mx e u (a.ev e) l:=rfl
@[simp] theorem mnxR_int(mx:Bool)(k:IntKind)(x y:Int)(l:List Ar):mnxR mx e (.int k x) (.v (.int k y)) l=pK mx e (.int k (if mx then(max x y)else(min x y))) l:=by
 simp only[mnxR,mnx,if_true];cases mx
 ·simp only[jI,if_false];congr 2;split<;>omega
 ·simp only[if_true];congr 2;split<;>omega
def extR(x:X)(i:Nat)(s:ay):Option (X×ay):=match x with
 | .bU cs=>qL cs[i]? s
 | _=>none
@[simp] theorem opR_ext(a:Ar)(i:Nat):bW r T (.ext a i) e s=extR (a.ev e) i s:=rfl
@[simp] theorem extR_tup(cs:List X)(i:Nat):extR (.bU cs) i s=qL cs[i]? s:=rfl
@[simp] theorem opR_mkv(f:Nat)(l:List Ar):bW r T (.EX f l) e s=if(l.map (Ar.ev e)).all X.one=true then some (.fm f (l.map (Ar.ev e)),s)else none:=rfl
@[simp] theorem opR_no:bW r T .no e s=none:=rfl
def SE(neg:Bool)(x:X)(s:ay):Option (X×ay):=match x with
 | .fn _ _=>some (.v (.bool neg),s)
 | .fm _ _=>some (.v (.bool neg),s)
 | .v .nilFunc=>some (.v (.bool !neg),s)
 | _=>none
@[simp] theorem opR_eqf(neg:Bool)(a:Ar):bW r T (.Sb neg a) e s=SE neg (a.ev e) s:=rfl
@[simp] theorem eqfR_fn(neg:Bool)(f:Nat)(cs:List X):SE neg (.fn f cs) s=some (.v (.bool neg),s):=rfl
@[simp] theorem eqfR_fm(neg:Bool)(f:Nat)(cs:List X):SE neg (.fm f cs) s=some (.v (.bool neg),s):=rfl
@[simp] theorem eqfR_nil(neg:Bool):SE neg (.v .nilFunc) s=some (.v (.bool !neg),s):=rfl
@[simp] theorem opR_mkf(f:Nat)(l:List Ar):bW r T (.GY f l) e s=if(l.map (Ar.ev e)).all X.one=true then some (.fn f (l.map (Ar.ev e)),s)else none:=rfl
def SF(neg:Bool)(x:X)(s:ay):Option (X×ay):=match x with
 | .sl _ (_::_)=>some (.v (.bool neg),s)
 | .ref o g _ _ _=>if g=(s o).g then some (.v (.bool neg),s)else none
 | _=>none
@[simp] theorem opR_eqn(neg:Bool)(a:Ar):bW r T (.Sc neg a) e s=SF neg (a.ev e) s:=by simp only[bW,aA,SF];split<;>simp_all
@[simp] theorem eqnR_sl(neg f:Bool)(x:X)(l:List X):SF neg (.sl f (x::l)) s=some (.v (.bool neg),s):=rfl
@[simp] theorem eqnR_ref(neg:Bool)(o g k i n:Nat):SF neg (.ref o g k i n) s=if g=(s o).g then some (.v (.bool neg),s)else none:=rfl
@[simp] theorem opR_mkm(o:Nat)(h:Option Ar):bW r T (.GZ o h) e s=if yU e h=true then some (.mp o ((s o).g+1),aO s o (.map []))else none:=rfl
@[simp] theorem hintB_none:yU e none=true:=rfl
@[simp] theorem hintB_some(a:Ar):yU e (some a)=(uT (a.ev e)).isSome:=rfl
def mpO(o g:Nat)(x:SO):Option (Nat×List (X×X)):=match x.o with
 | some (.map es)=>if g=x.g/\x.wr=true then some (o,es)else none
 | _=>none
@[simp] theorem mpX_mp(o g:Nat):Dv s (.mp o g)=mpO o g (s o):=rfl
@[simp] theorem mpO_map(o g g' n:Nat)(wr:Bool)(es:List (X×X)):mpO o g ⟨g',wr,some (.map es),n⟩=if g=g'/\wr=true then some (o,es)else none:=rfl
@[simp] theorem opR_mlk(ks:List LK)(ag:Bool)(m k:Ar)(z:X)(ok:Bool):bW r T (.G5 ks ag m k z ok) e s=(match Dv s (m.ev e)with
 | some (_,es)=>(match jE ks ag (k.ev e) es with
  | some r=>(match (match r with
   | some i=>es[i]?.map Prod.snd
   | none=>some z)with
   | some v=>some (if ok then .bU [v,.v (.bool r.isSome)]else v,s)
   | none=>none)
  | none=>none)
 | none=>none):=rfl
@[simp] theorem stepO_mlk(ks:List LK)(ag:Bool)(m k:Ar)(z:X)(ok:Bool):aA (.G5 ks ag m k z ok) e s=(match Dv s (m.ev e)with
 | some (_,es)=>(match jE ks ag (k.ev e) es with
  | some r=>(match (match r with
   | some i=>es[i]?.map Prod.snd
   | none=>some z)with
   | some v=>some (if ok then .bU [v,.v (.bool r.isSome)]else v,s)
   | none=>none)
  | none=>none)
 | none=>none):=rfl
@[simp] theorem opR_men(ks:List LK)(ag:Bool)(m k:Ar)(z:X):bW r T (.O9 ks ag m k z) e s=(match Dv s (m.ev e)with
 | some (o,es)=>(match jE ks ag (k.ev e) es with
  | some (some i)=>(match es[i]? with
   | some p=>some (.bU [p.2,.v (.int .i64 i)],bK s o (.map es))
   | none=>none)
  | some none=>if(k.ev e).eG=true/\z.eG=true then some (.bU [z,.v (.int .i64 es.length)],bK s o (.map (es++[(k.ev e,z)])))else none
  | none=>none)
 | none=>none):=rfl
def mstR(x:Option (Nat×List (X×X)))(st v:X)(s:ay):Option (X×ay):=match x,st with
 | some (o,es),.v (.int _ i)=>if 0<=i/\i<(es.length:Int)/\v.eG=true then some (.junk,bK s o (.map (vP es i.toNat v)))else none
 | _,_=>none
@[simp] theorem opR_mst(m st v:Ar):bW r T (.Pb m st v) e s=mstR (Dv s (m.ev e)) (st.ev e) (v.ev e) s:=by
 simp only[bW,aA,mstR];cases Dv s (m.ev e)with
 | none=>rfl
 | some p=>
  cases st.ev e<;>first|rfl|skip
  rename_i u;cases u<;>rfl
@[simp] theorem mstR_some(o:Nat)(es:List (X×X))(k:IntKind)(i:Int)(v:X):mstR (some (o,es)) (.v (.int k i)) v s=if 0<=i/\i<(es.length:Int)/\v.eG=true then some (.junk,bK s o (.map (vP es i.toNat v)))else none:=rfl
@[simp] theorem opR_mup(ks:List LK)(ag:Bool)(m k v:Ar):bW r T (.NN ks ag m k v) e s=(match Dv s (m.ev e)with
 | some (o,es)=>if(k.ev e).eG=true/\(v.ev e).eG=true then(match jE ks ag (k.ev e) es with
  | some (some i)=>some (.junk,bK s o (.map (vP es i (v.ev e))))
  | some none=>some (.junk,bK s o (.map (es++[(k.ev e,v.ev e)])))
  | none=>none)
  else none
 | none=>none):=rfl
@[simp] theorem opR_mln(m:Ar):bW r T (.Mx m) e s=(match Dv s (m.ev e)with
 | some (_,es)=>some (.v (.int .i64 es.length),s)
 | none=>none):=rfl
@[simp] theorem sameV_int(k:IntKind)(a b:Int):p8 (.v (.int k a)) (.v (.int k b))=decide (a=b):=by simp[p8];try rw[xL]
@[simp] theorem sameV_bool(a b:Bool):p8 (.v (.bool a)) (.v (.bool b))=(a==b):=rfl
@[simp] theorem EY(o:Nat)(b:Ob)(n:Nat):aO s o b n=if n=o then⟨(s o).g+1,true,some b,(s o).n+1⟩else s n:=rfl
@[simp] theorem FV(o:Nat)(b:Ob)(n:Nat):bK s o b n=if n=o then⟨(s o).g,true,some b,(s o).n+1⟩else s n:=rfl
@[simp] theorem s0_app(n:Nat):s0 n=⟨0,false,none,0⟩:=rfl
@[simp] theorem cells_agg(cs:List X):(X.agg cs).cells=cs:=rfl
@[simp] theorem cells_v(u:Value):(X.v u).cells=[.v u]:=rfl
@[simp] theorem D7(f:Bool)(es:List X):(X.sl f es).cells=[.sl f es]:=rfl
@[simp] theorem cells_nil:X.nil.cells=[.nil]:=rfl
@[simp] theorem cells_ref(o g k i n:Nat):(X.ref o g k i n).cells=[.ref o g k i n]:=rfl
@[simp] theorem cells_fn(f:Nat)(cs:List X):(X.fn f cs).cells=[.fn f cs]:=rfl
@[simp] theorem cells_ptr(o g j:Nat):(X.ptr o g j).cells=[.ptr o g j]:=rfl
@[simp] theorem one_v(u:Value):(X.v u).one=true:=rfl
@[simp] theorem one_sl(f:Bool)(es:List X):(X.sl f es).one=true:=rfl
@[simp] theorem one_nil:X.nil.one=true:=rfl
@[simp] theorem one_ref(o g k i n:Nat):(X.ref o g k i n).one=true:=rfl
@[simp] theorem one_fn(f:Nat)(cs:List X):(X.fn f cs).one=true:=rfl
@[simp] theorem one_ptr(o g j:Nat):(X.ptr o g j).one=true:=rfl
@[simp] theorem one_ip(x:X)(j:Nat):(X.ip x j).one=true:=rfl
@[simp] theorem one_mp(o g:Nat):(X.mp o g).one=true:=rfl
@[simp] theorem resT_one(r:fI):aC e s [r]=zO e s r:=rfl
@[simp] theorem resT_nil:aC e s []=some (.bU []):=rfl
@[simp] theorem resT_two(a b:fI)(l:List fI):aC e s (a::b::l)=(match uK e s (a::b::l)with
 | some m=>some (.bU m)
 | none=>none):=rfl
@[simp] theorem resL_nil:uK e s []=some []:=rfl
@[simp] theorem resL_cons(r:fI)(l:List fI):uK e s (r::l)=(match zO e s r,uK e s l with
 | some x,some m=>some (x::m)
 | _,_=>none):=rfl
@[simp] theorem resX_tmp(t:Nat):zO e s (.tmp t)=oh s (e t):=rfl
@[simp] theorem resX_cell(t w:Nat)(ag:Bool):zO e s (.cell t w ag)=(match ES s (e t) w ag with
 | some x=>oh s x
 | none=>none):=rfl
@[simp] theorem dpC_agg(cs:List X):oh s (.agg cs)=(match uM s cs with
 | some ds=>some (.agg ds)
 | none=>none):=rfl
@[simp] theorem dpL_nil:uM s []=some []:=rfl
@[simp] theorem dpL_cons(x:X)(l:List X):uM s (x::l)=(match rZ s x,uM s l with
 | some y,some m=>some (y::m)
 | _,_=>none):=rfl
@[simp] theorem dpC_v(u:Value):oh s (.v u)=some (.v u):=rfl
@[simp] theorem dpn_v(u:Value):rZ s (.v u)=some (.v u):=rfl
@[simp] theorem dpC_nil:oh s .nil=some (.sl true []):=rfl
@[simp] theorem dpn_nil:rZ s .nil=some (.sl true []):=rfl
@[simp] theorem dpC_sl(f:Bool)(es:List X):oh s (.sl f es)=if aP es then some (.sl f es)else none:=rfl
@[simp] theorem dpn_sl(f:Bool)(es:List X):rZ s (.sl f es)=if aP es then some (.sl f es)else none:=rfl
def dpR(g k i n:Nat)(x:SO):Option X:=match x.o with
 | some (.row k' es)=>if g=x.g/\k=k'/\i+n<=es.length/\aP es=true then some (.sl true ((es.drop i).take n))else none
 | _=>none
@[simp] theorem dpR_row(g k i n g' c k':Nat)(wr:Bool)(es:List X):dpR g k i n ⟨g',wr,some (.row k' es),c⟩=if g=g'/\k=k'/\i+n<=es.length/\aP es=true then some (.sl true ((es.drop i).take n))else none:=rfl
@[simp] theorem dpC_ref(o g k i n:Nat):oh s (.ref o g k i n)=dpR g k i n (s o):=rfl
@[simp] theorem SB(o g k i n:Nat):rZ s (.ref o g k i n)=dpR g k i n (s o):=rfl
@[simp] theorem elems_ref(o g k i n:Nat):elems s (.ref o g k i n)=(match (s o).o with
 | some (.row k' es)=>if g=(s o).g/\k=k'/\i+n<=es.length then some ((es.drop i).take n)else none
 | _=>none):=rfl
def slM(o:Option (List X)):Option X:=match o with
 | some ds=>some (.sl true ds)
 | none=>none
@[simp] theorem slM_some(ds:List X):slM (some ds)=some (.sl true ds):=rfl
def dpmR(s:ay)(g k i n:Nat)(x:SO):Option X:=match x.o with
 | some (.row k' es)=>if g=x.g/\k=k'/\i+n<=es.length then slM (ZV s ((es.drop i).take n))else none
 | _=>none
@[simp] theorem dpmR_row(g k i n g' c k':Nat)(wr:Bool)(es:List X):dpmR s g k i n ⟨g',wr,some (.row k' es),c⟩=if g=g'/\k=k'/\i+n<=es.length then slM (ZV s ((es.drop i).take n))else none:=rfl
@[simp] theorem dpm_ref(o g k i n:Nat):Ow s (.ref o g k i n)=dpmR s g k i n (s o):=rfl
@[simp] theorem dpm_nil:Ow s .nil=some (.sl true []):=rfl
@[simp] theorem dpm_sl(f:Bool)(es:List X):Ow s (.sl f es)=if aP es then some (.sl f es)else none:=rfl
@[simp] theorem dpGm_ref(o g k i n:Nat):Az s (.ref o g k i n)=dpmR s g k i n (s o):=rfl
@[simp] theorem dpGm_nil:Az s .nil=some (.sl true []):=rfl
@[simp] theorem dpGm_v(u:Value):Az s (.v u)=some (.v u):=rfl
@[simp] theorem dpGm_sl(f:Bool)(es:List X):Az s (.sl f es)=if aP es then some (.sl f es)else none:=rfl
@[simp] theorem dpGm_agg(cs:List X):Az s (.agg cs)=(match uM s cs with
 | some ds=>some (.agg ds)
 | none=>none):=rfl
@[simp] theorem dpAm_nil:xu s []=some []:=rfl
@[simp] theorem dpAm_cons(x:X)(l:List X):xu s (x::l)=(match Az s x,xu s l with
 | some y,some m=>some (y.shr::m)
 | _,_=>none):=rfl
@[simp] theorem resX_nst(t:Nat):zO e s (.Tz t)=Ow s (e t):=rfl
@[simp] theorem dpE_nil:ZV s []=some []:=rfl
@[simp] theorem renL_nil(d:Nat):kD s d []=some ([],s):=rfl
def renC(c:X)(o:Option (List X×ay)):Option (List X×ay):=match o with
 | some (l,s)=>some (c::l,s)
 | none=>none
@[simp] theorem renC_some(c:X)(l:List X)(s:ay):renC c (some (l,s))=some (c::l,s):=rfl
@[simp] theorem renL_v(d:Nat)(u:Value)(l:List X):kD s d (.v u::l)=renC (.v u) (kD s d l):=by simp only[kD,X.deep,if_true,renC];cases kD s d l<;>rfl
@[simp] theorem renL_own(d:Nat)(l:List X):kD s d (.nil::l)=if aP l=true then some (.nil::l,s)else none:=rfl
def renO(s:ay)(d o g k i n:Nat)(l:List X)(x:SO):Option (List X×ay):=match x.o with
 | some (.row k' es)=>if g=x.g/\x.wr=true/\¬o=d/\aP l=true then some (.ref d ((s d).g+1) k i n::l,AB s o d (.row k' es))else none
 | _=>none
@[simp] theorem renO_some(d o g k i n g' m:Nat)(wr:Bool)(k':Nat)(es:List X)(l:List X):renO s d o g k i n l ⟨g',wr,some (.row k' es),m⟩=if g=g'/\wr=true/\¬o=d/\aP l=true then some (.ref d ((s d).g+1) k i n::l,AB s o d (.row k' es))else none:=rfl
@[simp] theorem renL_ref(d o g k i n:Nat)(l:List X):kD s d (.ref o g k i n::l)=renO s d o g k i n l (s o):=rfl
def bsnR(q k d:Nat)(i:Option Int)(x:X)(s:ay):Option (X×ay):=match i,x with
 | some i,.agg cs=>if 0<=i/\cs.length=k/\cs.all X.one=true/\¬q=d+i.toNat then match kD s (d+i.toNat) cs with
  | some (cs',s')=>some (.ref q ((s' q).g+1) k 0 1,aO s' q (.row k [.agg cs']))
  | none=>none
  else none
 | _,_=>none
def bsnF(q k:Nat)(o:Option (List X×ay)):Option (X×ay):=match o with
 | some (cs',s')=>some (.ref q ((s' q).g+1) k 0 1,aO s' q (.row k [.agg cs']))
 | none=>none
@[simp] theorem bsnF_some(q k:Nat)(cs:List X)(s':ay):bsnF q k (some (cs,s'))=some (.ref q ((s' q).g+1) k 0 1,aO s' q (.row k [.agg cs])):=rfl
@[simp] theorem bsnR_agg(q k d:Nat)(i:Int)(cs:List X):bsnR q k d (some i) (.agg cs) s=if 0<=i/\cs.length=k/\cs.all X.one=true/\¬q=d+i.toNat then bsnF q k (kD s (d+i.toNat) cs)else none:=rfl
@[simp] theorem opR_bsn(q k:Nat)(z:X)(d:Nat)(ix a:Ar):bW r T (.ZH q k z d ix a) e s=bsnR q k d (uT (ix.ev e)) (a.ev e) s:=by
 simp only[bW,aA,bsnR];cases uT (ix.ev e)with
 | none=>rfl
 | some i=>
  cases a.ev e with
  | agg cs=>
   simp only;split
   ·cases kD s (d+i.toNat) cs<;>rfl
   ·rfl
  | _=>rfl
@[simp] theorem dpA_nil:tq s []=some []:=rfl
@[simp] theorem dpA_cons(x:X)(l:List X):tq s (x::l)=(match wh s x,tq s l with
 | some y,some m=>some (y.shr::m)
 | _,_=>none):=rfl
@[simp] theorem dpG_v(u:Value):wh s (.v u)=some (.v u):=rfl
@[simp] theorem dpG_agg(cs:List X):wh s (.agg cs)=(match uM s cs with
 | some ds=>some (.agg ds)
 | none=>none):=rfl
@[simp] theorem dpG_sl(f:Bool)(es:List X):wh s (.sl f es)=if aP es then some (.sl f es)else none:=rfl
@[simp] theorem dpG_nil:wh s .nil=some (.sl true []):=rfl
@[simp] theorem dpG_ref(o g k i n:Nat):wh s (.ref o g k i n)=dpR g k i n (s o):=rfl
@[simp] theorem dpG_fn(f:Nat)(cs:List X):wh s (.fn f cs)=(match qJ s cs with
 | some ds=>some (.fn f ds)
 | none=>none):=rfl
@[simp] theorem dpHL_nil:qJ s []=some []:=rfl
@[simp] theorem dpHL_cons(x:X)(l:List X):qJ s (x::l)=(match xI s x,qJ s l with
 | some y,some m=>some (y::m)
 | _,_=>none):=rfl
@[simp] theorem shr_v(u:Value):(X.v u).shr=.v u:=rfl
@[simp] theorem shr_agg(cs:List X):(X.agg cs).shr=.agg (fu cs):=rfl
@[simp] theorem shr_sl(f:Bool)(es:List X):(X.sl f es).shr=.sl false (fu es):=rfl
@[simp] theorem shr_fn(f:Nat)(cs:List X):(X.fn f cs).shr=.fn f (fu cs):=rfl
@[simp] theorem shr_ip(x:X)(j:Nat):(X.ip x j).shr=.ip x.shr j:=rfl
@[simp] theorem shrL_nil:fu []=[]:=rfl
@[simp] theorem shrL_cons(x:X)(l:List X):fu (x::l)=x.shr::fu l:=rfl
@[simp] theorem deepL_nil:aP []=true:=rfl
@[simp] theorem yN(x:X)(l:List X):aP (x::l)=(x.deep&&aP l):=rfl
@[simp] theorem deep_v(u:Value):(X.v u).deep=true:=rfl
@[simp] theorem deep_sl(f:Bool)(es:List X):(X.sl f es).deep=aP es:=rfl
@[simp] theorem deep_agg(es:List X):(X.agg es).deep=aP es:=rfl
@[simp] theorem deep_tup(es:List X):(X.bU es).deep=aP es:=rfl
@[simp] theorem deep_fn(f:Nat)(es:List X):(X.fn f es).deep=aP es:=rfl
@[simp] theorem scal_v(u:Value):(X.v u).eG=true:=rfl
@[simp] theorem scal_agg(l:List X):(X.agg l).eG=p9 l:=rfl
@[simp] theorem scal_tup(l:List X):(X.bU l).eG=p9 l:=rfl
@[simp] theorem scal_sl(f:Bool)(l:List X):(X.sl f l).eG=false:=rfl
@[simp] theorem scalL_nil:p9 []=true:=rfl
@[simp] theorem scalL_cons(x:X)(l:List X):p9 (x::l)=(x.eG&&p9 l):=rfl
@[simp] theorem nmG_v(u:Value):lU (.v u)=[]:=rfl
@[simp] theorem nmG_sl(f:Bool)(es:List X):lU (.sl f es)=[]:=rfl
@[simp] theorem nmG_nil:lU .nil=[]:=rfl
@[simp] theorem nmG_ref(o g k i n:Nat):lU (.ref o g k i n)=[o]:=rfl
@[simp] theorem nmG_agg(cs:List X):lU (.agg cs)=cs.flatMap r_:=rfl
@[simp] theorem nmG_fn(f:Nat)(cs:List X):lU (.fn f cs)=cs.flatMap Pg:=rfl
@[simp] theorem nmX_v(u:Value):r_ (.v u)=[]:=rfl
@[simp] theorem nmX_sl(f:Bool)(es:List X):r_ (.sl f es)=[]:=rfl
@[simp] theorem nmX_nil:r_ .nil=[]:=rfl
@[simp] theorem nmX_ref(o g k i n:Nat):r_ (.ref o g k i n)=[o]:=rfl
@[simp] theorem nmC_v(u:Value):nR (.v u)=[]:=rfl
@[simp] theorem nmC_sl(f:Bool)(es:List X):nR (.sl f es)=[]:=rfl
@[simp] theorem nmC_nil:nR .nil=[]:=rfl
@[simp] theorem nmC_ref(o g k i n:Nat):nR (.ref o g k i n)=[o]:=rfl
@[simp] theorem nmC_agg(cs:List X):nR (.agg cs)=cs.flatMap r_:=rfl
@[simp] theorem setC_agg(cs ys:List X)(j:Nat):p_ (.agg cs) j ys=.agg (spl cs j ys):=rfl
@[simp] theorem setC_v(u:Value)(y:X)(j:Nat):p_ (.v u) j [y]=y:=rfl
@[simp] theorem setC_sl(f:Bool)(l:List X)(y:X)(j:Nat):p_ (.sl f l) j [y]=y:=rfl
@[simp] theorem setC_nil(y:X)(j:Nat):p_ .nil j [y]=y:=rfl
@[simp] theorem setC_ref(o g k i n:Nat)(y:X)(j:Nat):p_ (.ref o g k i n) j [y]=y:=rfl
@[simp] theorem chkB_nil(s0:ay):sU [] [] s0 e s=true:=rfl
@[simp] theorem chkB_ch(t:Nat)(ch:List Nat)(js:List d9)(s0:ay):sU (t::ch) js s0 e s=((kz (e t)).all (fun o=>(s o).n==(s0 o).n)&&sU ch js s0 e s):=by simp[sU,Bool.and_assoc]
def Sy(s0:ay)(e:Env)(s:ay)(g:d9):Bool:=sU [] [g] s0 e s
@[simp] theorem chkB_js(g:d9)(js:List d9)(s0:ay):sU [] (g::js) s0 e s=(Sy s0 e s g&&sU [] js s0 e s):=by simp[sU,Sy]
def chkM(e:Env)(d:Nat)(x y:Option (X×ay)):Bool:=match x,y with
 | some (x,_),some (y,_)=>p8 x (e d)&&p8 y (e d)
 | _,_=>false
@[simp] theorem chkM_some(d:Nat)(x y:X)(s1 s2:ay):chkM e d (some (x,s1)) (some (y,s2))=(p8 x (e d)&&p8 y (e d)):=rfl
@[simp] theorem chkJ_mk(d:Nat)(g:Option (Nat×Bool))(op:gm)(s0:ay):Sy s0 e s ⟨some d,g,op⟩=chkM e d (aA op e s0) (aA op e s):=by simp only[Sy,sU,List.all_nil,List.all_cons,Bool.true_and,Bool.and_true,chkM];cases aA op e s0<;>cases aA op e s<;>rfl
@[simp] theorem nmA_v(u:Value):kz (.v u)=[]:=rfl
@[simp] theorem nmA_sl(f:Bool)(l:List X):kz (.sl f l)=[]:=rfl
@[simp] theorem nmA_ip(x:X)(j:Nat):kz (.ip x j)=[]:=rfl
@[simp] theorem nmA_nil:kz .nil=[]:=rfl
@[simp] theorem nmA_agg(l:List X):kz (.agg l)=zf l:=rfl
@[simp] theorem nmA_tup(l:List X):kz (.bU l)=zf l:=rfl
@[simp] theorem nmA_ptr(o g j:Nat):kz (.ptr o g j)=[o]:=rfl
@[simp] theorem nmA_ref(o g k i n:Nat):kz (.ref o g k i n)=[o]:=rfl
@[simp] theorem nmA_ep(o g k i j:Nat):kz (.ep o g k i j)=[o]:=rfl
@[simp] theorem nmA_mp(o g:Nat):kz (.mp o g)=[o]:=rfl
@[simp] theorem nmL_nil:zf []=[]:=rfl
@[simp] theorem nmL_cons(x:X)(l:List X):zf (x::l)=kz x++zf l:=rfl
@[simp] theorem deepL_take{l:List X}(i:Nat)(h:aP l=true):aP (l.take i)=true:=by
 induction l generalizing i with
 | nil=>simp
 | cons x l ih=>
  simp only[yN,bE]at h;cases i with
  | zero=>rfl
  | succ i=>simp[h.1,ih i h.2]
@[simp] theorem deepL_drop{l:List X}(i:Nat)(h:aP l=true):aP (l.drop i)=true:=by
 induction l generalizing i with
 | nil=>simp
 | cons x l ih=>
  simp only[yN,bE]at h;cases i with
  | zero=>simp[h.1,h.2]
  | succ i=>simp[ih i h.2]
@[simp] theorem shrL_take(l:List X)(i:Nat):fu (l.take i)=(fu l).take i:=by simp only[gX,List.map_take]
@[simp] theorem shrL_drop(l:List X)(i:Nat):fu (l.drop i)=(fu l).drop i:=by simp only[gX,List.map_drop]
attribute [simp] iI spl NP
end
end Go.Proofs.YtbmkfjmlepjpfaaGreatDoor
