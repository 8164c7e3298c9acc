/- A part of the proof. -/
import Derived.Test.YtbmkfjmlepjpfaaGreatDoorIr
import Derived.Test.YtbmkfjmlepjpfaaGreatDoorProg
import Derived.KernelRfl
set_option linter.all false
set_option maxRecDepth 100000
namespace Go.Proofs.YtbmkfjmlepjpfaaGreatDoor
def JV(P:Program)(p:Nat×Fe):Bool:=match p.2 with
 | .code nt res body=>vH P p.1 nt res body
 | .vX nt res body=>vH P p.1 nt res body
 | _=>false
theorem vo:Ec.all (JV Tryz.prog)=true:=by kernel_rfl
theorem ZO:(Cz++Ec).all (fun p=>kC Tryz.prog p.1)=true:=by kernel_rfl
theorem D8:Tryz.prog.follows .mixedOrders=true:=by kernel_rfl
end Go.Proofs.YtbmkfjmlepjpfaaGreatDoor
