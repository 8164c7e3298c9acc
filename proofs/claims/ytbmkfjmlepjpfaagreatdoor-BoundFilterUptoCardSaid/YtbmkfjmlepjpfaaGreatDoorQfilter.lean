/- A part of the proof. -/
import Derived.Test.YtbmkfjmlepjpfaaGreatDoorRows
import Derived.Test.YtbmkfjmlepjpfaaGreatDoorProg
import Derived.KernelRfl
import Derived.SevenTiedAt
import Derived.JoinedCond
set_option linter.all false
set_option maxRecDepth 100000
namespace Go.Proofs.YtbmkfjmlepjpfaaGreatDoor.lawBoundFilterUpto
open Go.ChangeShapes Go.WideShapes
set_option maxHeartbeats 40000000 in
theorem facts:joinedFacts Tryz.pinned.checked.prog 4 Tryz.f4 (Rows.OpenSpec.upto Rows.boundFilterSpec).bare Rows.boundFilterUptoRow=true:=by
 simp only[joinedFacts,Bool.and_eq_true]
 and_intros
 all_goals (as_aux_lemma=>kernel_rfl)
theorem Wu{P:Program}{c:OpenClaim}(h:P.funcs.any Func.goes=false)(hs:c.start=.entering):false=c.goesBy P:=by
 have hg:∀g:Nat,(P.funcs[g]?).any Func.goes=false:=by
  intro g;cases he:P.funcs[g]? with
  | none=>rfl
  | some fn=>
   simp only[Option.any_some];rw[Array.any_eq_false]at h
   obtain⟨hlt,rfl⟩:=Array.getElem?_eq_some_iff.1 he;simpa using h g hlt
 have hp:∀f,P.goes f=false:=by intro f;unfold Program.goes;rw[h,Bool.and_false,Bool.or_false,List.any_eq_false];intro g _;rw[hg g];simp
 unfold OpenClaim.goesBy Program.goesAt Program.goesFrom;rw[hs];cases P.funcNamed c.func with
 | none=>rfl
 | some f=>simp[hp f]
theorem noGo:Tryz.pinned.checked.prog.funcs.any Func.goes=false:=by kernel_rfl
theorem goes:false=Rows.boundFilterUptoRow.goesBy Tryz.pinned.checked.prog:=Wu noGo rfl
end Go.Proofs.YtbmkfjmlepjpfaaGreatDoor.lawBoundFilterUpto
