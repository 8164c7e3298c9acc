/- What the examples come to: the whole run, by the kernel. -/
import Derived.Test.YtoodknhlnifnlaaGreatDoorTb
import Derived.KernelRfl
set_option linter.all false
set_option maxRecDepth 1000000
namespace Go.Proofs.YtoodknhlnifnlaaGreatDoor
theorem awake_run : callA (runN T 3000) T n_jointerlaw19_awake [] = some (.v (.bool true)) := by kernel_rfl
theorem c_awake : call T n_jointerlaw19_awake [] = some (.v (.bool true)) := callA_run.2 ⟨_, awake_run⟩
end Go.Proofs.YtoodknhlnifnlaaGreatDoor
