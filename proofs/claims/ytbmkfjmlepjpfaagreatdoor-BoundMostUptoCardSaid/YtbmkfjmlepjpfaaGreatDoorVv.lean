/- A part of the proof. -/
import Derived.Test.YtbmkfjmlepjpfaaGreatDoorCq
set_option linter.all false
set_option maxRecDepth 100000
namespace Go.Proofs.YtbmkfjmlepjpfaaGreatDoor
open Go.RowKit
def clsN(c:Nat):Int:=if c=32\/c=9\/c=10\/c=13 then 1 else if c=95 then 2 else if c=39 then 4 else if(97<=c/\c<=122)\/(65<=c/\c<=90)then 2 else if 48<=c/\c<=57 then 3 else 0
def letU(c:UInt8):Bool:=decide (clsN c.toNat=2)
def wordU(c:UInt8):Bool:=decide (clsN c.toNat=2)||decide (clsN c.toNat=3)
def restU(l:List UInt8):Bool:=(l==Lib.toLowerA l)&&!(kwL.any fun x=>x==Lib.toUpperA l)
def Z6(s:ByteArray):Bool:=!s.toList.isEmpty&&(decide (s.toList.length<=20)&&(s.toList.head?.any letU&&(s.toList.all wordU&&restU s.toList)))
noncomputable def bP(p:Prop):Bool:=@decide p (Classical.propDecidable p)
theorem Ca{p:Prop}:bP p=true↔p:=by unfold bP;simp
structure qz where
 name:ByteArray
 kind:Int
 nn:Bool
 lo:Int
 hi:Int
abbrev qz.enc(c:qz):X:=.agg [.v (.string c.name),.v (.int .u8 c.kind),.v (.bool c.nn),.v (.int .i64 c.lo),.v (.int .i64 c.hi)]
structure Af where
 ah:List Int
 table:Int
 key:Int
abbrev Af.enc(r:Af):X:=.agg [.sl false (r.ah.map i6),.v (.int .i64 r.table),.v (.int .i64 r.key)]
abbrev Tc(k:List Int):X:=.sl false (k.map i6)
structure eT where
 name:ByteArray
 ah:List qz
 keys:List (List Int)
 refs:List Af
 idx:List Int
abbrev eT.enc(t:eT):X:=.agg [.v (.string t.name),.sl false (t.ah.map qz.enc),.sl false (t.keys.map Tc),.sl false (t.refs.map Af.enc),.sl false (t.idx.map i6)]
@[simp] theorem deepL_ColD(l:List qz):aP (l.map qz.enc)=true:=dJ (by simp) l
@[simp] theorem shrL_ColD(l:List qz):fu (l.map qz.enc)=l.map qz.enc:=eH (by simp) l
@[simp] theorem deepL_RefD(l:List Af):aP (l.map Af.enc)=true:=dJ (by simp) l
@[simp] theorem shrL_RefD(l:List Af):fu (l.map Af.enc)=l.map Af.enc:=eH (by simp) l
@[simp] theorem deepL_keyX(l:List (List Int)):aP (l.map Tc)=true:=dJ (by simp) l
@[simp] theorem shrL_keyX(l:List (List Int)):fu (l.map Tc)=l.map Tc:=eH (by simp) l
@[simp] theorem deepL_TabD(l:List eT):aP (l.map eT.enc)=true:=dJ (by simp) l
@[simp] theorem shrL_TabD(l:List eT):fu (l.map eT.enc)=l.map eT.enc:=eH (by simp) l
def NQ(l:List Int)(n:Int):Prop:=∀(i:Nat) (h:i<l.length),0<=l[i]/\l[i]<n/\∀(h0:0<i),l[i-1]<l[i]
abbrev Nw(b:ByteArray):X:=.v (.string b)
@[simp] theorem ZT(l:List eT):aP (l.map fun t=>Nw t.name)=true:=dJ (by simp) l
@[simp] theorem ZR(l:List qz):aP (l.map fun t=>Nw t.name)=true:=dJ (by simp) l
@[simp] theorem shrL_nameT(l:List eT):fu (l.map fun t=>Nw t.name)=l.map fun t=>Nw t.name:=eH (by simp) l
@[simp] theorem shrL_nameC(l:List qz):fu (l.map fun t=>Nw t.name)=l.map fun t=>Nw t.name:=eH (by simp) l
def ColOK(c:qz):Prop:=Z6 c.name=true/\((c.kind=1/\c.lo<=c.hi)\/(c.kind=2/\c.lo=0/\0<=c.hi/\c.hi<=100)\/(c.kind=3/\c.lo=0/\c.hi=0))
def qz.small(c:qz):Prop:=c.name.size<=9223372036854775807
def O0(ah:List qz)(j:Int):Option Int:=(ah[j.toNat]?).map (·.kind)
def RefOK(before:List eT)(t:eT)(r:Af):Prop:=0<=r.table/\r.table<before.length/\∀b,before[r.table.toNat]?=some b->0<=r.key/\r.key<b.keys.length/\r.ah.Nodup/\∀k,b.keys[r.key.toNat]?=some k->k.length=r.ah.length/\
 ∀(i:Nat) (h:i<r.ah.length),0<=r.ah[i]/\r.ah[i]<t.ah.length/\O0 t.ah r.ah[i]=O0 b.ah (k.getD i 0)
def KeysIn(b:eT):Prop:=∀k∈b.keys,∀c∈k,0<=c/\c<(b.ah.length:Int)
structure eT.small (t:eT):Prop where
 name:t.name.size<=9223372036854775807
 ah:t.ah.length<=9223372036854775807/\∀c∈t.ah,c.small
 keys:t.keys.length<=9223372036854775807/\∀k∈t.keys,k.length<=9223372036854775807
 refs:t.refs.length<=9223372036854775807/\∀r∈t.refs,r.ah.length<=9223372036854775807
 idx:t.idx.length<=9223372036854775807
@[simp] theorem dpH_ip{s:ay}{x:X}{j:Nat}(h:x.deep=true):xI s (.ip x j)=some (.ip x j):=by simp only[xI];rw[if_pos h]
@[simp] theorem dpG_ip{s:ay}{x:X}{j:Nat}(h:x.deep=true):wh s (.ip x j)=some (.ip x j):=by simp only[wh];exact dpH_ip h
@[simp] theorem nmG_ip{x:X}{j:Nat}:lU (.ip x j)=[]:=rfl
@[simp] theorem nmH_ip{x:X}{j:Nat}:Pg (.ip x j)=[]:=rfl
def NS(before:List eT)(t:eT):Prop:=Z6 t.name=true/\t.ah.length<=8/\t.keys.length<=4/\t.refs.length<=4/\NQ t.idx t.ah.length/\(t.ah.map (·.name.toList)).Nodup/\(∀c∈t.ah,ColOK c)/\(∀k∈t.keys,k≠[]/\NQ k t.ah.length)/\∀r∈t.refs,RefOK before t r
theorem NS.keys{before:List eT}{t:eT}(h:NS before t):KeysIn t:=by intro k hk c hc;obtain⟨i,hi,rfl⟩:=List.getElem_of_mem hc;have:=(h.2.2.2.2.2.2.2.1 k hk).2 i hi;exact⟨this.1,this.2.1⟩
def eP(s:List eT):Prop:=s.length<=16/\(s.map (·.name.toList)).Nodup/\∀(n:Nat) (h:n<s.length),NS (s.take n) s[n]
end Go.Proofs.YtbmkfjmlepjpfaaGreatDoor
