/- A part of the proof. -/
import Derived.Test.YtbmkfjmlepjpfaaGreatDoorRows
import Derived.Test.YtbmkfjmlepjpfaaGreatDoorBr
set_option linter.all false
set_option maxRecDepth 100000
namespace Go.Proofs.YtbmkfjmlepjpfaaGreatDoor
theorem RD{H:Type}(d:DataW H):1<=Rows.uptoBulk d:=by
 cases d with
 | lit l=>cases l<;>simp[Rows.uptoBulk]
 | nil=>simp[Rows.uptoBulk]
 | ptr d=>simp[Rows.uptoBulk]
 | slice elems spare=>simp[Rows.uptoBulk]
 | agg parts=>simp[Rows.uptoBulk]
 | iface t d=>simp[Rows.uptoBulk]
 | map entries=>simp[Rows.uptoBulk]
 | held h=>simp[Rows.uptoBulk]
theorem rT{H:Type}{d:DataW H}:∀ {l:List (DataW H)},d∈l->Rows.uptoBulk d<=Rows.uptoBulkAll l
 | x::r,h=>by
  simp only[Rows.uptoBulkAll];rcases List.mem_cons.1 h with rfl|e
  ·omega
  ·have:=rT e;omega
theorem GU{H:Type}:∀l:List (DataW H),l.length<=Rows.uptoBulkAll l
 | []=>by simp[Rows.uptoBulkAll]
 | x::r=>by have:=RD x;have:=GU r;simp only[Rows.uptoBulkAll,List.length_cons];omega
theorem GR{H:Type}:∀(l r:List (DataW H)),Rows.uptoBulkAll (l++r)=Rows.uptoBulkAll l+Rows.uptoBulkAll r
 | [],r=>by simp[Rows.uptoBulkAll]
 | x::l,r=>by simp only[List.cons_append,Rows.uptoBulkAll,GR l r];omega
def Small{H:Type}(d:DataW H):Prop:=Rows.uptoBulk d<=1048576
theorem ML{H:Type}:Bd (Small (H:=H)) 1048576:=by
 refine⟨fun l h _=>?_,fun es sp h _=>?_,fun ps h d hd=>?_⟩
 ·simp only[Small,Rows.uptoBulk]at h;omega
 ·simp only[Small,Rows.uptoBulk]at h;refine⟨by have:=GU es;omega,fun d hd=>?_⟩;have:=rT hd;simp only[Small];omega
 ·simp only[Small,Rows.uptoBulk]at h;have:=rT hd;simp only[Small];omega
theorem QU{H:Type}{ds gs:List (DataW H)}(hk:Rows.uptoSmall H (ds++gs)=true):∀d∈ds,Small d:=by
 intro d hd;have h:Rows.uptoBulkAll (ds++gs)<=1048576:=of_decide_eq_true hk;rw[GR]at h
 have:=rT hd;simp only[Small];omega
end Go.Proofs.YtbmkfjmlepjpfaaGreatDoor
