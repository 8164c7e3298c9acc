/- A part of the proof. -/
import Derived.Test.YtbmkfjmlepjpfaaGreatDoorIr
import Derived.KernelRfl
set_option linter.all false
set_option maxRecDepth 100000
set_option maxRecDepth 1000000
namespace Go.Proofs.YtbmkfjmlepjpfaaGreatDoor
theorem Pd:jG (runN T 3000) T Yx []=some (.v (.bool true)):=by kernel_rfl
theorem V7:call T Yx []=some (.v (.bool true)):=oC.2 ⟨_,Pd⟩
end Go.Proofs.YtbmkfjmlepjpfaaGreatDoor
