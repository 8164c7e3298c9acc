/- A part of the proof. -/
import Derived.Tactics
import Derived.Below
set_option linter.all false
set_option maxRecDepth 100000
namespace Go.Proofs.YtbmkfjmlepjpfaaGreatDoor
open Go.RowKit
def mQ:List Value:=(List.range 256).map fun i=>.int .u8 (if i=9\/i=10\/i=11\/i=12\/i=13\/i=32 then 1 else 0)
def MF(w:World):Prop:=0<w.heap.size/\∀(i:Nat) v,mQ[i]?=some v->w.cell? ⟨0,i,none⟩=some v
theorem MF.below{w w':World}{n:Nat}(h:MF w)(hn:0<n)(hb:Below n w w'):MF w':=
 ⟨Nat.lt_of_lt_of_le h.1 hb.size,fun i v hi=>by rw[hb.cell (p:=⟨0,i,none⟩) hn];exact h.2 i v hi⟩
end Go.Proofs.YtbmkfjmlepjpfaaGreatDoor
