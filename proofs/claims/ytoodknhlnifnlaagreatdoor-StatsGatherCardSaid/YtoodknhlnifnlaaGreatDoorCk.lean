/- The table, tested against the program by the kernel. -/
import Derived.Test.YtoodknhlnifnlaaGreatDoorTb
import Derived.Test.YtoodknhlnifnlaaGreatDoorProg
import Derived.KernelRfl
set_option linter.all false
set_option maxRecDepth 100000
namespace Go.Proofs.YtoodknhlnifnlaaGreatDoor
def okEnt (P : Program) (p : Nat × Fe) : Bool := match p.2 with
  | .code nt res body => okBody P p.1 nt res body
  | .codez nt res body => okBody P p.1 nt res body
  | _ => false
theorem ck_all : codeL.all (okEnt Tryz.prog) = true := by kernel_rfl
theorem ck_fn : (extL ++ codeL).all (fun p => okFn Tryz.prog p.1) = true := by kernel_rfl
theorem ck_mixed : Tryz.prog.follows .mixedOrders = true := by kernel_rfl
end Go.Proofs.YtoodknhlnifnlaaGreatDoor
