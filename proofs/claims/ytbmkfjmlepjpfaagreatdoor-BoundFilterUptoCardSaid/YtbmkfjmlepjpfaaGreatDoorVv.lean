/- A part of the proof. -/
import Derived.Test.YtbmkfjmlepjpfaaGreatDoorCq
set_option linter.all false
set_option maxRecDepth 100000
namespace Go.Proofs.YtbmkfjmlepjpfaaGreatDoor
open Go.RowKit
def clsN(c:Nat):Int:=if c=32\/c=9\/c=10\/c=13 then 1 else if c=95 then 2 else if c=39 then 4 else if(97<=c/\c<=122)\/(65<=c/\c<=90)then 2 else if 48<=c/\c<=57 then 3 else 0
def letU(c:UInt8):Bool:=decide (clsN c.toNat=2)
def wordU(c:UInt8):Bool:=decide (clsN c.toNat=2)||decide (clsN c.toNat=3)
def restU(l:List UInt8):Bool:=(l==Lib.toLowerA l)&&!(kwL.any fun x=>x==Lib.toUpperA l)
def ZP(s:ByteArray):Bool:=!s.toList.isEmpty&&(decide (s.toList.length<=20)&&(s.toList.head?.any letU&&(s.toList.all wordU&&restU s.toList)))
noncomputable def bP(p:Prop):Bool:=@decide p (Classical.propDecidable p)
theorem Ez{p:Prop}:bP p=true↔p:=by unfold bP;simp
structure sM where
 name:ByteArray
 kind:Int
 nn:Bool
 lo:Int
 hi:Int
abbrev sM.enc(c:sM):X:=.agg [.v (.string c.name),.v (.int .u8 c.kind),.v (.bool c.nn),.v (.int .i64 c.lo),.v (.int .i64 c.hi)]
structure CP where
 ah:List Int
 table:Int
 key:Int
abbrev CP.enc(r:CP):X:=.agg [.sl false (r.ah.map i6),.v (.int .i64 r.table),.v (.int .i64 r.key)]
abbrev WH(k:List Int):X:=.sl false (k.map i6)
structure fZ where
 name:ByteArray
 ah:List sM
 keys:List (List Int)
 refs:List CP
 idx:List Int
abbrev fZ.enc(t:fZ):X:=.agg [.v (.string t.name),.sl false (t.ah.map sM.enc),.sl false (t.keys.map WH),.sl false (t.refs.map CP.enc),.sl false (t.idx.map i6)]
@[simp] theorem deepL_ColD(l:List sM):aT (l.map sM.enc)=true:=dh (by simp) l
@[simp] theorem shrL_ColD(l:List sM):gB (l.map sM.enc)=l.map sM.enc:=fO (by simp) l
@[simp] theorem deepL_RefD(l:List CP):aT (l.map CP.enc)=true:=dh (by simp) l
@[simp] theorem shrL_RefD(l:List CP):gB (l.map CP.enc)=l.map CP.enc:=fO (by simp) l
@[simp] theorem deepL_keyX(l:List (List Int)):aT (l.map WH)=true:=dh (by simp) l
@[simp] theorem shrL_keyX(l:List (List Int)):gB (l.map WH)=l.map WH:=fO (by simp) l
@[simp] theorem deepL_TabD(l:List fZ):aT (l.map fZ.enc)=true:=dh (by simp) l
@[simp] theorem shrL_TabD(l:List fZ):gB (l.map fZ.enc)=l.map fZ.enc:=fO (by simp) l
def Rn(l:List Int)(n:Int):Prop:=∀(i:Nat) (h:i<l.length),0<=l[i]/\l[i]<n/\∀(h0:0<i),l[i-1]<l[i]
abbrev QY(b:ByteArray):X:=.v (.string b)
@[simp] theorem ZF(l:List fZ):aT (l.map fun t=>QY t.name)=true:=dh (by simp) l
@[simp] theorem ZE(l:List sM):aT (l.map fun t=>QY t.name)=true:=dh (by simp) l
@[simp] theorem shrL_nameT(l:List fZ):gB (l.map fun t=>QY t.name)=l.map fun t=>QY t.name:=fO (by simp) l
@[simp] theorem shrL_nameC(l:List sM):gB (l.map fun t=>QY t.name)=l.map fun t=>QY t.name:=fO (by simp) l
def ColOK(c:sM):Prop:=ZP c.name=true/\((c.kind=1/\c.lo<=c.hi)\/(c.kind=2/\c.lo=0/\0<=c.hi/\c.hi<=100)\/(c.kind=3/\c.lo=0/\c.hi=0))
def sM.small(c:sM):Prop:=c.name.size<=9223372036854775807
def SA(ah:List sM)(j:Int):Option Int:=(ah[j.toNat]?).map (·.kind)
def RefOK(before:List fZ)(t:fZ)(r:CP):Prop:=0<=r.table/\r.table<before.length/\∀b,before[r.table.toNat]?=some b->0<=r.key/\r.key<b.keys.length/\r.ah.Nodup/\∀k,b.keys[r.key.toNat]?=some k->k.length=r.ah.length/\
 ∀(i:Nat) (h:i<r.ah.length),0<=r.ah[i]/\r.ah[i]<t.ah.length/\SA t.ah r.ah[i]=SA b.ah (k.getD i 0)
def KeysIn(b:fZ):Prop:=∀k∈b.keys,∀c∈k,0<=c/\c<(b.ah.length:Int)
structure fZ.small (t:fZ):Prop where
 name:t.name.size<=9223372036854775807
 ah:t.ah.length<=9223372036854775807/\∀c∈t.ah,c.small
 keys:t.keys.length<=9223372036854775807/\∀k∈t.keys,k.length<=9223372036854775807
 refs:t.refs.length<=9223372036854775807/\∀r∈t.refs,r.ah.length<=9223372036854775807
 idx:t.idx.length<=9223372036854775807
@[simp] theorem dpH_ip{s:ax}{x:X}{j:Nat}(h:x.deep=true):zF s (.ip x j)=some (.ip x j):=by simp only[zF];rw[if_pos h]
@[simp] theorem dpG_ip{s:ax}{x:X}{j:Nat}(h:x.deep=true):yD s (.ip x j)=some (.ip x j):=by simp only[yD];exact dpH_ip h
@[simp] theorem nmG_ip{x:X}{j:Nat}:nJ (.ip x j)=[]:=rfl
@[simp] theorem nmH_ip{x:X}{j:Nat}:S9 (.ip x j)=[]:=rfl
def Ro(before:List fZ)(t:fZ):Prop:=ZP t.name=true/\t.ah.length<=8/\t.keys.length<=4/\t.refs.length<=4/\Rn t.idx t.ah.length/\(t.ah.map (·.name.toList)).Nodup/\(∀c∈t.ah,ColOK c)/\(∀k∈t.keys,k≠[]/\Rn k t.ah.length)/\∀r∈t.refs,RefOK before t r
theorem Ro.keys{before:List fZ}{t:fZ}(h:Ro before t):KeysIn t:=by intro k hk c hc;obtain⟨i,hi,rfl⟩:=List.getElem_of_mem hc;have:=(h.2.2.2.2.2.2.2.1 k hk).2 i hi;exact⟨this.1,this.2.1⟩
def fV(s:List fZ):Prop:=s.length<=16/\(s.map (·.name.toList)).Nodup/\∀(n:Nat) (h:n<s.length),Ro (s.take n) s[n]
end Go.Proofs.YtbmkfjmlepjpfaaGreatDoor
