/- A part of the proof. -/
import Derived.Test.YtbmkfjmlepjpfaaGreatDoorCards
import Derived.Test.YtbmkfjmlepjpfaaGreatDoorTie
import Derived.Test.YtbmkfjmlepjpfaaGreatDoorBr
import Derived.Deep.DeepHandedRow
import Derived.Lib.LaidU8
import Derived.Lib.LaidTab
import Derived.PinnedBridge
import Derived.Lay
import Derived.LaidOnce
import Derived.SevenTiedAt
import Derived.ProofKit
set_option linter.all false
set_option maxRecDepth 100000
namespace Go.Proofs.YtbmkfjmlepjpfaaGreatDoor
open Go.ChangeShapes Go.WideShapes Go.ChangeAt Go.RowKit
theorem own:ownKnob Tryz.prog.godebug=none:=by kernel_rfl
theorem SE:laidOutB Tryz.prog=true:=by kernel_rfl
abbrev listed:List (String×DataW Unit):=Rows.boundMostRow.laid
theorem Si:Tryz.prog.globalNamed "strings.asciiSpace"=some 0:=by kernel_rfl
theorem Wt:(Tryz.prog.globals[0]?).map (·.type)=some 417:=by kernel_rfl
theorem V9:Tryz.prog.cellsOf 417=256:=by kernel_rfl
theorem V_:Tryz.prog.cellsOf 5=1:=by kernel_rfl
def Mg:List Int:=(List.range 256).map fun i=>if i=9\/i=10\/i=11\/i=12\/i=13\/i=32 then 1 else 0
theorem Mh:(Rows.laid_strings_asciiSpace:DataW Unit)=Lib.tabData .u8 Mg:=by kernel_rfl
theorem Vy:mQ=Mg.map fun z=>Value.int .u8 z:=by unfold mQ Mg;rw[List.map_map];rfl
theorem IJ{W:World}(h:laidMetH Tryz.prog listed W):MF W:=by
 rw[MakeChecks.laidMetH_plain _ _ _ (by kernel_rfl)]at h
 have hr:=Lib.laidMet.reads h (n:="strings.asciiSpace") (d:=Rows.laid_strings_asciiSpace) (by simp[listed,Rows.boundMostRow]);obtain⟨g,t,cs,fuel,p,hg,ht,hvar,hd⟩:=hr;obtain rfl:=Option.some.inj (Si.symm.trans hg);obtain rfl:=Option.some.inj (Wt.symm.trans ht);rw[Mh]at hd
 have hcs:=Lib.cells_of_tab Tryz.underlying417 Tryz.underlying5 V_ V9 hd;have key:∀(i:Nat) v,mQ[i]?=some v->W.cell? ⟨0,i,none⟩=some v:=by intro i v hi;rw[World.var?_cell Si hvar i,<-Array.getElem?_toList,hcs,<-Vy];exact hi
 refine⟨?_,key⟩;have h0:=key 0 (.int .u8 0) (by rw[Vy];rfl);unfold World.cell? at h0;split at h0
 ·rename_i hh;exact dA hh
 ·simp at h0
noncomputable def w0(os:Os):World:=World.laidAll Tryz.prog os listed
theorem w0_met(os:Os)(args:Array Value):laidMetH Tryz.prog listed ((w0 os).forCall (fun _ _=>0) ⟨#[],args,[]⟩).memory:=by rw[MakeChecks.laidMetH_plain _ _ _ (by kernel_rfl)];exact laidMet_laidAll _ (by kernel_rfl) (by kernel_rfl)
theorem Q7(os:Os)(args:Array Value):((w0 os).forCall (fun _ _=>0) ⟨#[],args,[]⟩).Shaped Tryz.prog:=World.shaped_of_ZipB (by kernel_rfl) (by kernel_rfl)
theorem wit{H:Type}{enc:TypeId×Value->H}{f:FuncId}{fn:Func}{s:OpenSpec}{conds:List PathCond}{apart:Bool}(os:Os)(args:Array Value)
 (hok:Input.okWideB Tryz.prog ((w0 os).forCall (fun _ _=>0) ⟨#[],args,[]⟩) f ⟨#[],args,[]⟩=true)
 (hrow:s.preRow enc Tryz.prog fn conds apart listed ((w0 os).forCall (fun _ _=>0) ⟨#[],args,[]⟩).memory args) :
 ∃(w:World) (tape:Tape) (i:Input),w.os=os/\(w.forCall tape i).Shaped Tryz.prog/\i.vars=[]/\Input.okWide Tryz.prog (w.forCall tape i) .any w.heap.size f i/\
  s.preRow enc Tryz.prog fn conds apart listed (w.forCall tape i).memory i.args/\({}:Assume).holds Tryz.prog (lone (Frame.enter Tryz.prog f i.args .normal) [] (w.forCall tape i)):=
 ⟨w0 os,fun _ _=>0,⟨#[],args,[]⟩,World.laidAll_os _ _ _,Q7 os _,(Input.okWide_of_okWideB (base:=0) hok).1,(Input.okWide_of_okWideB hok).2,hrow,by simp only[Assume.holds];exact⟨by simp,by simp,fun _=>Modest.zero,by simp,by simp⟩⟩
theorem JS{H:Type}{enc:TypeId×Value->H}{P:Program}{w:World}{base:Nat}{sp:Nat->Bool}{held:Bool}:∀ {ts:List TypeId} {vs:List Value} {ds:List (DataW H)} {ps:List MemPlace},DataW.TrodAll enc P w base sp held ts vs ds ps->ds.length=ts.length
 | [],_,_,_,h=>by obtain⟨rfl,rfl,rfl⟩:=trodAll_nil h;rfl
 | _::_,_,_,_,h=>by obtain⟨v,vs1,d,ds1,a,b,rfl,rfl,rfl,h1,h2⟩:=trodAll_cons h;simp[JS h2]
end Go.Proofs.YtbmkfjmlepjpfaaGreatDoor
