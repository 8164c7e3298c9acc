/- PROVED: the law BoundFilter (jointerlaw20), whatever the kinds, the description and the conditions (of bulk at most 1048576): it answers true and leaves its arguments as they were. Conditions: the package-level variables hold what the row lists (the card ties them to the text). -/
import Derived.Test.YtbmkfjmlepjpfaaGreatDoorLd
import Derived.Test.YtbmkfjmlepjpfaaGreatDoorTp
import Derived.Test.YtbmkfjmlepjpfaaGreatDoorTt
import Derived.Test.YtbmkfjmlepjpfaaGreatDoorPy
import Derived.Test.YtbmkfjmlepjpfaaGreatDoorQfilter
import Derived.Test.YtbmkfjmlepjpfaaGreatDoorBu
set_option linter.all false
set_option maxRecDepth 100000
namespace Go.Proofs.YtbmkfjmlepjpfaaGreatDoor.lawBoundFilterUpto
open Go.ChangeShapes Go.WideShapes Go.ChangeAt Go.RowKit
abbrev QZ:List TD:=[Gt,tdTS,.sl 104 tdE]
theorem SH(xs:List X)(h:GI 1048576 QZ xs):lW Tryz.prog Yw xs (.v (.bool true)):=by
 rcases xs with _|⟨a,_|⟨b,_|⟨c,_|⟨d,xs⟩⟩⟩⟩<;>simp only[QZ,GI,and_false]at h
 obtain⟨h0,h1,h2,_⟩:=h;obtain⟨ks,rfl,h1',hn⟩:=Sw h0;obtain⟨t,rfl,_,_,h2',h3'⟩:=is_ts h1;obtain⟨l,rfl,ho,hl⟩:=wh (fun y hy=>Nb hy) h2;exact V8 (CR ks (iq h1'.1 (by decide)) (fun k hk=>(hn k hk).1) t (by have:=h2'.1;omega) (fun c hc=>⟨(h3' c hc).2.2.2.1,(h3' c hc).2.2.2.2⟩) l (by have:=ho.1;omega) hl)
theorem contract(H:Type)(enc:TypeId×Value->H)(W:World)(base:Nat)(args:Array Value)(ds gs:List (DataW H))(before:List MemPlace)
 (hval:∀(j:Nat) t v,Tryz.f4.params[j]?=some t->args[j]?=some v->Value.okWide Tryz.prog W .any base t v)
 (hW:DataW.Whole enc Tryz.prog Tryz.f4.params.toList Rows.boundFilterSpec.vars false W args.toList ds gs before)
 (hsz:(DataW.weightsEach Tryz.prog Tryz.f4.params.toList ds).all (·<=140737488351232)=true) (hL:laidMetH Tryz.prog listed W) (hk:Rows.uptoSmall H (ds++gs)=true) :
 Calls Tryz.prog 4 args W fun e W'=>∃v,e=.returned v/\Rows.boundFilterSpec.post enc Tryz.prog Tryz.f4 false true false false W args v W':=by
 have hn:ds.length=3:=by obtain⟨p,q,hA,_⟩:=hW;exact JS hA
 refine PY (QZ:=QZ) ML SE (by kernel_rfl) rfl Tryz.underlying4 rfl ?_ (fun N=>⟨rX _ rfl N,rX _ rfl N,fit_sl fun M=>M0 fun K _=>W9 (fun b hb=>hb) ML (by decide) K,trivial⟩) (by kernel_rfl) hval hW hsz (QU hk) (IJ hL) SH;rcases ds with _|⟨a,_|⟨b,_|⟨c,_|⟨z,xs⟩⟩⟩⟩<;>simp at hn
 rfl
abbrev VF:Array Value:=#[.slice none 0 0,.agg #[.int .i64 0,.int .i64 0,.slice none 0 0],.slice none 0 0]
theorem reads(os:Os){H:Type}(enc:TypeId×Value->H):∃places,DataW.whole enc Tryz.prog ((w0 os).forCall (fun _ _=>0) ⟨#[],VF,[]⟩).memory Tryz.f4.params.toList Rows.boundFilterSpec.vars false VF.toList 8=some ([.nil,.agg [.lit (.int .i64 0),.lit (.int .i64 0),.nil],.nil],[],places):=
 ⟨[],by kernel_rfl⟩
theorem lifted(os:Os)(started:os.Started)(H:Type)(enc:TypeId×Value->H)(F:Stop.Interp) :
 ReturnsInHanded {} Tryz.checked os 4 .any ((Rows.OpenSpec.upto Rows.boundFilterSpec).preRow enc Tryz.prog Tryz.f4 Rows.boundFilterUptoRow.domain false Rows.boundFilterUptoRow.laid) (((Rows.OpenSpec.upto Rows.boundFilterSpec).at F).post enc Tryz.prog Tryz.f4 false true false false):=by
 obtain⟨places,hx⟩:=reads os enc;refine returnsInHanded_of_row (C:=Tryz.checked) (s:=Rows.OpenSpec.upto Rows.boundFilterSpec) own started (by kernel_rfl) Tryz.func4
  (wit os VF (by kernel_rfl) (OpenSpec.preRow_of_cond 8 hx (by rfl) (fun k hk=>by cases hk;kernel_rfl) (by kernel_rfl) (w0_met os _))) ?_
 intro W base args ds gs before hval hW _ hcond hsz hL _ _;obtain⟨rfl,_⟩:gs=[]/\True:=by obtain⟨p,q,hA,hV,_⟩:=hW;obtain⟨rfl,rfl⟩:=trodVars_none hV;exact⟨rfl,trivial⟩
 have hz:(DataW.weightsEach Tryz.prog (Tryz.f4.params.toList++[]) (ds++[])).all (·<=reachBytes)=true:=hsz;rw[List.append_nil,List.append_nil]at hz
 exact contract H enc W base args ds [] before hval hW hz hL (hcond _ rfl)
theorem said:Rows.BoundFilterUptoSaid:=
 OpenClaim.holds_of_cond 4 Tryz.f4 rfl rfl rfl rfl rfl rfl rfl ⟨rfl,rfl,rfl,rfl,rfl⟩ rfl rfl rfl rfl rfl (by as_aux_lemma=>kernel_rfl) Tryz.func4 facts
  (of_decide_eq_true (by as_aux_lemma=>kernel_rfl)) (by as_aux_lemma=>unfold Func.isWrapper;first|(rw[if_pos (by decide +kernel)];kernel_rfl)|(rw[if_neg (by decide +kernel)];exact⟨rfl,rfl⟩))
  (fun os started H enc _ F=>by rw[OpenClaim.pre_eq_preRow];exact lifted os started H enc F)
theorem plain(f:FuncId)(fn:Func)(hf:Tryz.pinned.checked.prog.funcNamed "jointer/jointerlaw20.BoundFilter"=some f)(hfn:Tryz.pinned.checked.prog.funcs[f]?=some fn) :
 false=Tryz.pinned.checked.prog.looks []/\∀(j:Nat) t,fn.params[j]?=some t->Tryz.pinned.checked.prog.wantsStandIn t=false:=by
 obtain rfl:f=4:=Option.some.inj ((show Tryz.prog.funcNamed "jointer/jointerlaw20.BoundFilter"=some 4 by as_aux_lemma=>kernel_rfl).symm.trans hf) |>.symm;obtain rfl:fn=Tryz.f4:=(Option.some.inj (Tryz.func4.symm.trans hfn)).symm;refine⟨by as_aux_lemma=>kernel_rfl,fun j t ht=>?_⟩;have hall:(Tryz.f4.params.toList.all fun u=>!Tryz.prog.wantsStandIn u)=true:=by as_aux_lemma=>kernel_rfl
 have hm:t∈Tryz.f4.params.toList:=by simpa using Array.mem_of_getElem? ht
 exact(show Tryz.prog.wantsStandIn t=false by simpa using List.all_eq_true.1 hall t hm)
theorem card:Rows.BoundFilterUptoCardSaid:=
 Claim7.holds_tied_plain_at .later [] _ _ _ _ said (fun _ h=>by cases h) (by as_aux_lemma=>kernel_rfl) (fun _ h=>by cases h) boundFilterUpto_row_tie rfl ⟨rfl,rfl⟩ (by as_aux_lemma=>kernel_rfl) rfl plain goes
end Go.Proofs.YtbmkfjmlepjpfaaGreatDoor.lawBoundFilterUpto
namespace Go.Proofs.YtbmkfjmlepjpfaaGreatDoor
theorem boundFilterUpto_holds:Rows.BoundFilterUptoCardSaid:=lawBoundFilterUpto.card
end Go.Proofs.YtbmkfjmlepjpfaaGreatDoor
