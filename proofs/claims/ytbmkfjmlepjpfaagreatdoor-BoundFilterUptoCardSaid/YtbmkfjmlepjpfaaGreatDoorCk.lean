/- A part of the proof. -/
import Derived.Test.YtbmkfjmlepjpfaaGreatDoorIr
import Derived.Test.YtbmkfjmlepjpfaaGreatDoorProg
import Derived.KernelRfl
set_option linter.all false
set_option maxRecDepth 100000
namespace Go.Proofs.YtbmkfjmlepjpfaaGreatDoor
def Nj(P:Program)(p:Nat×Fe):Bool:=match p.2 with
 | .code nt res body=>xP P p.1 nt res body
 | .yx nt res body=>xP P p.1 nt res body
 | _=>false
theorem xE:Hr.all (Nj Tryz.prog)=true:=by kernel_rfl
theorem ZA:(EQ++Hr).all (fun p=>lM Tryz.prog p.1)=true:=by kernel_rfl
theorem Hf:Tryz.prog.follows .mixedOrders=true:=by kernel_rfl
end Go.Proofs.YtbmkfjmlepjpfaaGreatDoor
