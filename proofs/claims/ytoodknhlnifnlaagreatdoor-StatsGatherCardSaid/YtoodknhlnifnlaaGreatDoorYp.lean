/- What is gathered. -/
import Derived.Test.YtoodknhlnifnlaaGreatDoorVd
import Derived.Test.YtoodknhlnifnlaaGreatDoorVj
import Derived.Test.YtoodknhlnifnlaaGreatDoorDa
set_option linter.all false
set_option linter.unusedVariables false
namespace Go.Proofs.YtoodknhlnifnlaaGreatDoor
open Classical in
noncomputable def gathR (s : List TabD) (d : List (List (List Val))) : List TS := if DataOK s d then List.zipWith (fun t rows => ofS (kindsT t) rows) s d else []
open Classical in
noncomputable def gathE (s : List TabD) (d : List (List (List Val))) : Int := if DataOK s d then 0 else 1
end Go.Proofs.YtoodknhlnifnlaaGreatDoor
