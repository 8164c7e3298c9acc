/- A part of the proof. -/
import Derived.Test.YtbmkfjmlepjpfaaGreatDoorIr
import Derived.KernelRfl
set_option linter.all false
set_option maxRecDepth 100000
set_option maxRecDepth 1000000
namespace Go.Proofs.YtbmkfjmlepjpfaaGreatDoor
theorem LD:iW (runN T 3000) T YM []=some (.v (.bool true)):=by kernel_rfl
theorem Sn:call T YM []=some (.v (.bool true)):=mM.2 ⟨_,LD⟩
end Go.Proofs.YtbmkfjmlepjpfaaGreatDoor
