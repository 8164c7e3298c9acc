/- The table: the functions' code, and what is said by hand of those that the engine does not take. -/
import Derived.Test.YtoodknhlnifnlaaGreatDoorIr
import Derived.Lib.Case
set_option linter.all false
set_option linter.unusedVariables false
namespace Go.Proofs.YtoodknhlnifnlaaGreatDoor
open Go.RowKit
/-- slices.Clone, carried out in the midst of the caller's variables. -/
def cloneF : List X → Sto → Option (X × Sto)
  | [.sl _ []], s => some (.nil, s)
  | [.sl _ (e :: es)], s => if (e :: es).all (fun y => y.cells.length == 5 && y.deep) = true ∧ (e :: es).length ≤ 3518437208883 then some (.ref 4005 ((s 4005).g + 2) 5 0 (es.length + 1), newO (newO s 4005 (.row 5 [])) 4005 (.row 5 (e :: es))) else none
  | _, _ => none
def asciiB (b : ByteArray) : Bool := b.data.toList.all (fun c => decide (c.toNat < 128)) && decide (b.size ≤ 140737488355328)
def upF : List X → Option X
  | [.v (.string b)] => if asciiB b = true then some (.v (.string ⟨(Lib.toUpperA b.data.toList).toArray⟩)) else none
  | _ => none
def loF : List X → Option X
  | [.v (.string b)] => if asciiB b = true then some (.v (.string ⟨(Lib.toLowerA b.data.toList).toArray⟩)) else none
  | _ => none
/-- The keywords. -/
def kwL : List (List UInt8) := [[65, 76, 76], [65, 78, 65, 76, 89, 90, 69], [65, 78, 68], [65, 83], [65, 83, 67], [65, 86, 71], [66, 69, 84, 87, 69, 69, 78], [66, 73, 71, 73, 78, 84], [66, 79, 79, 76], [66, 89], [67, 65, 83, 69], [67, 79, 65, 76, 69, 83, 67, 69], [67, 79, 85, 78, 84], [67, 82, 69, 65, 84, 69], [67, 82, 79, 83, 83], [68, 69, 76, 69, 84, 69], [68, 69, 83, 67], [68, 73, 83, 84, 73, 78, 67, 84], [68, 82, 79, 80], [69, 76, 83, 69], [69, 78, 68], [69, 88, 67, 69, 80, 84], [69, 88, 73, 83, 84, 83], [69, 88, 80, 76, 65, 73, 78], [70, 65, 76, 83, 69], [70, 79, 82, 69, 73, 71, 78], [70, 82, 79, 77], [70, 85, 76, 76], [71, 82, 79, 85, 80], [72, 65, 86, 73, 78, 71], [73, 78], [73, 78, 68, 69, 88], [73, 78, 78, 69, 82], [73, 78, 83, 69, 82, 84], [73, 78, 84], [73, 78, 84, 69, 82, 83, 69, 67, 84], [73, 78, 84, 79], [73, 83], [74, 79, 73, 78], [75, 69, 89], [76, 69, 70, 84], [76, 69, 78, 71, 84, 72], [76, 73, 75, 69], [76, 73, 77, 73, 84], [77, 65, 88], [77, 73, 78], [78, 79, 84], [78, 85, 76, 76], [79, 70, 70, 83, 69, 84], [79, 78], [79, 82], [79, 82, 68, 69, 82], [79, 85, 84, 69, 82], [82, 69, 70, 69, 82, 69, 78, 67, 69, 83], [82, 73, 71, 72, 84], [83, 69, 76, 69, 67, 84], [83, 85, 77], [84, 65, 66, 76, 69], [84, 69, 88, 84], [84, 72, 69, 78], [84, 79], [84, 82, 85, 69], [85, 78, 73, 79, 78], [86, 65, 76, 85, 69, 83], [87, 72, 69, 78], [87, 72, 69, 82, 69]]
def kwF : List X → Option X
  | [.v (.string b)] => some (.v (.bool (kwL.any fun x => x == b.toList)))
  | _ => none
/-- Small letters as capital ones. -/
def foF : List X → Option X
  | [.v (.string b), .v (.bool true)] => if b.size ≤ 1000 then some (.v (.string ⟨(Lib.toUpperA b.data.toList).toArray⟩)) else none
  | _ => none
def extL : List (Nat × Fe) := [(n_slices_Clone__api_ColumnStat_api_ColumnStat, .extI cloneF), (n_strings_ToUpper, .ext upF), (n_strings_ToLower, .ext loF), (n_lex_IsKeyword, .ext kwF), (n_jointerref02_folded, .ext foF)]
def T (f : Nat) : Option Fe := ((extL ++ codeL).find? (·.1 == f)).map (·.2)
end Go.Proofs.YtoodknhlnifnlaaGreatDoor
