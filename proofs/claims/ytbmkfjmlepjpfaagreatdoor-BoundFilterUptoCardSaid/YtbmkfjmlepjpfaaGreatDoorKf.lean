/- A part of the proof. -/
import Derived.RangeFuncFrom
import Derived.RangeFuncLeaves
import Derived.Shelf.Abstract
import Derived.WalkKit
import Derived.OwnWalkIn
import Derived.TacticsInMore
import Derived.LoopNIn
import Derived.LoopIn
import Derived.WalkSpells
import Derived.Test.YtbmkfjmlepjpfaaGreatDoorGl
import Derived.Test.YtbmkfjmlepjpfaaGreatDoorProg
import Derived.Laws.IdiomStrings
import Derived.Lib.Case
import Derived.WideShapes
import Derived.WalkLawsBesides
import Derived.Maps.AppendAt
import Derived.Below
set_option linter.all false
set_option maxRecDepth 100000
namespace Go.Proofs.YtbmkfjmlepjpfaaGreatDoor
open Go.RowKit Go.Shelf
attribute [local go_sem] Oper.semAt_some
def spB(c:UInt8):Bool:=c==9||c==10||c==11||c==12||c==13||c==32
def words(s:ByteArray):Nat->Option Nat->Nat->List ByteArray
 | 0,some a,_=>[s.extract a s.size]
 | 0,none,_=>[]
 | d+1,st,i=>if spB s[i]! then(match st with
  | some a=>s.extract a i::words s d none (i+1)
  | none=>words s d none (i+1))else words s d (some (st.getD i)) (i+1)
theorem Vw(c:UInt8):spB c=true↔(c.toNat=9\/c.toNat=10\/c.toNat=11\/c.toNat=12\/c.toNat=13\/c.toNat=32):=by simp[spB,<-UInt8.toNat_inj,or_assoc]
theorem Sj(s:ByteArray)(k:Nat)(h:k<s.size):s[k]! = s[k]:=by simp[h]
theorem CG(s:ByteArray)(k:Nat)(a:Option Nat)(h:k<s.size):words s (s.size-k) a k=if spB s[k]then(match a with
 | some b=>s.extract b k::words s (s.size-(k+1)) none (k+1)
 | none=>words s (s.size-(k+1)) none (k+1))else words s (s.size-(k+1)) (some (a.getD k)) (k+1):=by
 obtain⟨d,hd⟩:∃d,s.size-k=d+1:=⟨s.size-k-1,by omega⟩
 rw[hd,show s.size-(k+1)=d by omega];cases a<;>simp only[words,Sj s k h]
def stV:Option Nat->Value
 | some a=>.int .i64 a
 | none=>.int .i64 (-1)
set_option maxRecDepth 100000 in
set_option maxHeartbeats 2000000 in
theorem fs_in(F:Fence)(n:Nat)(h5:F.fn 385)(hro:F.round=none)(s:ByteArray)(w:World) :
 CallsIn F n Tryz.prog 385 #[.string s] w fun e w'=>e=.returned (.func (.func 401) #[] #[.pointer (some ⟨w.heap.size,0,none⟩)])/\w'=w.alloc (.cells #[.string s] 9):=by
 refine callsIn_of_wp Tryz.func385 rfl h5 ?_ hro;simp only[Tryz.ntmps385,List.size_toArray,List.length_cons,List.length_nil,Nat.reduceAdd,Nat.reduceSub,Array.replicate_succ,Array.replicate_zero,List.push_toArray,List.append_toArray,List.nil_append,List.cons_append]
 gi_wp2
 go_ret
 exact⟨rfl,rfl⟩
set_option maxRecDepth 100000 in
set_option maxHeartbeats 2000000 in
theorem fs1_in(F:Fence)(n:Nat)(h6:F.fn 401)(hro:F.round=none)(hn:1<=n)(l Bn n₀:Nat)(s:ByteArray)(hs:∀(j:Nat) (b:UInt8),s.data.toList[j]?=some b->b.toNat<128)(hsz:s.size<=1000)(J Jx:List ByteArray->World->Prop)
 (hJ:∀pre W,J pre W->(∀(i:Nat) v,mQ[i]?=some v->W.cell? ⟨0,i,none⟩=some v)/\W.cell? ⟨Bn,0,none⟩=some (.string s))
 (hY:∀pre x W,J pre W->pre.length<(words s s.size none 0).length->YieldAt F (n-1) Tryz.prog l #[.string x] W fun e W'=>
  (e=.returned (.bool true)/\J (pre++[x]) W'/\Below n₀ W W')\/(e=.returned (.bool false)/\Jx (pre++[x]) W'))
 (W:World) (h0:J [] W) :
 CallsIn F n Tryz.prog 401 #[.func (.yield l) #[] #[],.pointer (some ⟨Bn,0,none⟩)] W fun e W'=>(∃v,e=.returned v)/\
  ((∃ys,ys=words s s.size none 0/\J ys W')\/(∃pre,pre <+: words s s.size none 0/\Jx pre W')):=by
 refine callsIn_of_wp Tryz.func401 rfl h6 ?_ hro;simp only[Tryz.ntmps401,List.size_toArray,List.length_cons,List.length_nil,Nat.reduceAdd,Nat.reduceSub,Array.replicate_succ,Array.replicate_zero,List.push_toArray,List.append_toArray,List.nil_append,List.cons_append]
 gi_wp2
 gi_loopw [3,4] (fun st i wr=>∃(pre:List ByteArray) (a:Option Nat) (k:Nat),st=stV a/\i=.int .i64 k/\k<=s.size/\(∀b,a=some b->b<=k)/\words s s.size none 0=pre++words s (s.size-k) a k/\J pre wr)
  (fun _ i _=>s.size-(intOf i).toNat)
 case atStart=>
  exact⟨[],none,0,rfl,rfl,Nat.zero_le _,by simp,rfl,h0⟩
 case round=>
  obtain⟨pre,a,k,rfl,rfl,hk,ha,hw,hj⟩:=hrel;obtain⟨hG,hB⟩:=hJ pre wr hj;by_cases hlt:k<s.size
  ·have hc128:s[k].toNat<128:=hs k s[k] (by simp[hlt];rfl);have hcell:=hG s[k].toNat (.int .u8 (if s[k].toNat=9\/s[k].toNat=10\/s[k].toNat=11\/s[k].toNat=12\/s[k].toNat=13\/s[k].toNat=32 then 1 else 0)) (by simp only[mQ,List.getElem?_map,List.getElem?_range (show s[k].toNat<256 by omega),Option.map_some])
   by_cases hsp:s[k].toNat=9\/s[k].toNat=10\/s[k].toNat=11\/s[k].toNat=12\/s[k].toNat=13\/s[k].toNat=32
   ·have hw':=CG s k a hlt;rw[if_pos ((Vw _).2 hsp)]at hw'
    rw[if_pos hsp]at hcell
    clear hG hJ hs;cases a with
    | none=>
     simp only[stV]
     gi_wp2
     exact⟨⟨pre,none,k+1,rfl,by simp,hlt,by simp,by rw[hw,hw'],hj⟩,by simp[intOf];omega⟩
    | some b=>
     simp only[stV];have hbk:=ha b rfl;obtain⟨fn,tmps,assign,body,hy,hR⟩:=hY pre (s.extract b k) wr hj (by rw[hw,hw'];simp)
     gi_wp2
     refine hR.mono ?_;rintro e W3 (⟨rfl,hJ3,hk3⟩|⟨rfl,hJx3⟩)
     ·gi_wp2
      exact⟨⟨pre++[s.extract b k],none,k+1,rfl,by simp,hlt,by simp,by rw[hw,hw'];simp,hJ3⟩,by simp[intOf];omega⟩
     ·gi_wp2
      refine bodyPost_ret (results_none rfl _ _ _) rfl ?_;exact⟨⟨_,rfl⟩,.inr ⟨pre++[s.extract b k],⟨words s (s.size-(k+1)) none (k+1),by rw[hw,hw'];simp⟩,hJx3⟩⟩
   ·have hw':=CG s k a hlt;rw[if_neg (fun h=>hsp ((Vw _).1 h))]at hw'
    rw[if_neg hsp]at hcell
    clear hG hJ hs;cases a with
    | none=>
     simp only[stV]
     gi_wp2
     exact⟨⟨pre,some k,k+1,rfl,by simp,hlt,by simp,by rw[hw,hw'];rfl,hj⟩,by simp[intOf];omega⟩
    | some b=>
     have hbk:=ha b rfl;simp only[stV]
     gi_wp2
     exact⟨⟨pre,some b,k+1,rfl,by simp,hlt,by simp;omega,by rw[hw,hw'];rfl,hj⟩,by simp[intOf];omega⟩
  ·have hks:k=s.size:=by omega
   subst hks;have hw':words s (s.size-s.size) a s.size=(a.map fun b=>[s.extract b s.size]).getD []:=by rw[Nat.sub_self];cases a<;>rfl
   cases a with
   | none=>
    simp only[stV]
    gi_wp2
    go_end0
    exact⟨⟨_,rfl⟩,.inl ⟨pre,by rw[hw,hw'];simp,hj⟩⟩
   | some b=>
    have hbk:=ha b rfl;simp only[stV];obtain⟨fn,tmps,assign,body,hy,hR⟩:=hY pre (s.extract b s.size) wr hj (by rw[hw,hw'];simp)
    gi_wp2
    refine hR.mono ?_;rintro e W3 (⟨rfl,hJ3,hk3⟩|⟨rfl,hJx3⟩)
    ·gi_wp2
     go_end0
     exact⟨⟨_,rfl⟩,.inl ⟨_,by rw[hw,hw'];rfl,hJ3⟩⟩
    ·gi_wp2
     go_end0
     exact⟨⟨_,rfl⟩,.inr ⟨_,⟨[],by rw[hw,hw'];simp⟩,hJx3⟩⟩
theorem RJ{W:World}{B:Nat}{v:Value}{t:TypeId}(h:W.heap[B]?=some (.cells #[v] t (0,0))):W.cell? ⟨B,0,none⟩=some v/\W.frozen? ⟨B,0,none⟩=false:=by constructor<;>simp[World.cell?,World.frozen?,h]
theorem AV(W:World)(v:Value)(t:TypeId):(W.alloc (.cells #[v] t)).cell? ⟨W.heap.size,0,none⟩=some v/\(W.alloc (.cells #[v] t)).frozen? ⟨W.heap.size,0,none⟩=false:=
 RJ (World.alloc_heap_new W _)
theorem EJ{W:World}{a:Addr}{v:Value}(o:Obj)(h:W.cell? a=some v):(W.alloc o).cell? a=some v:=cell_kept h (World.grownBy_alloc W o none) (fun r e=>by cases e)
theorem PL{W:World}{a:Addr}{v:Value}(o:Obj)(h:W.cell? a=some v)(hf:W.frozen? a=false):(W.alloc o).frozen? a=false:=(frozen_kept h (World.grownBy_alloc W o none) (fun r e=>by cases e)).trans hf
def pK:ByteArray:=⟨#[65,76,76,32,65,78,65,76,89,90,69,32,65,78,68,32,65,83,32,65,83,67,32,65,86,71,32,66,69,84,87,69,69,78,32,66,73,71,73,78,84,32,66,79,79,76,32,66,89,32,67,65,83,69,32,67,79,65,76,69,83,67,69,32,67,79,85,78,84,32,67,82,69,65,84,69,32,67,82,79,83,83,32,68,69,76,69,84,69,32,68,69,83,67,32,68,73,83,84,73,78,67,84,32,68,82,79,80,32,69,76,83,69,32,69,78,68,32,69,88,67,69,80,84,32,69,88,73,83,84,83,32,69,88,80,76,65,73,78,32,70,65,76,83,69,32,70,79,82,69,73,71,78,32,70,82,79,77,32,70,85,76,76,32,71,82,79,85,80,32,72,65,86,73,78,71,32,73,78,32,73,78,68,69,88,32,73,78,78,69,82,32,73,78,83,69,82,84,32,73,78,84,32,73,78,84,69,82,83,69,67,84,32,73,78,84,79,32,73,83,32,74,79,73,78,32,75,69,89,32,76,69,70,84,32,76,69,78,71,84,72,32,76,73,75,69,32,76,73,77,73,84,32,77,65,88,32,77,73,78,32,78,79,84,32,78,85,76,76,32,79,70,70,83,69,84,32,79,78,32,79,82,32,79,82,68,69,82,32,79,85,84,69,82,32,82,69,70,69,82,69,78,67,69,83,32,82,73,71,72,84,32,83,69,76,69,67,84,32,83,85,77,32,84,65,66,76,69,32,84,69,88,84,32,84,72,69,78,32,84,79,32,84,82,85,69,32,85,78,73,79,78,32,86,65,76,85,69,83,32,87,72,69,78,32,87,72,69,82,69]⟩
def wm:List ByteArray:=words pK pK.size none 0
theorem Sg(F:Fence)(n:Nat)(h6:F.fn 401)(hro:F.round=none)(hn:1<=n)(Bn n₀:Nat)(w:World)(hBn:Bn<n₀)(hn₀:n₀<=w.heap.size)(h0n:0<n₀)(hc:w.cell? ⟨Bn,0,none⟩=some (.string pK))(hG:MF w) :
 SeqStopsK F n Tryz.prog 401 #[.pointer (some ⟨Bn,0,none⟩)] (fun x:ByteArray=>#[Value.string x]) (Below n₀) (fun ys=>ys=wm) (fun pre=>pre <+: wm) wm.length w:=fun l J Jx W hW hJ hJx hY h0=>by
 have hk:∀(j:Nat) (b:UInt8),pK.data.toList[j]?=some b->b.toNat<128:=by
  intro j b hb;have:pK.data.toList.all (fun b=>decide (b.toNat<128))=true:=by decide +kernel
  exact of_decide_eq_true (List.all_eq_true.1 this b (List.mem_of_getElem? hb))
 refine(fs1_in F n h6 hro hn l Bn n₀ pK hk (by decide +kernel) (fun pre W=>J pre W/\(∀(i:Nat) v,mQ[i]?=some v->W.cell? ⟨0,i,none⟩=some v)/\W.cell? ⟨Bn,0,none⟩=some (.string pK)) Jx (fun _ _ h=>h.2) ?_ W
  ⟨h0,fun i v hi=>by rw[hW.cell (p:=⟨0,i,none⟩) (Nat.lt_of_lt_of_le h0n hn₀)];exact hG.2 i v hi,by rw[hW.cell (p:=⟨Bn,0,none⟩) (Nat.lt_of_lt_of_le hBn hn₀)];exact hc⟩).mono ?_
 ·rintro pre x W1 ⟨h1,h2,h3⟩ hlen;obtain⟨fn,tmps,assign,body,hy,hR⟩:=hY pre x W1 h1 hlen;refine⟨fn,tmps,assign,body,hy,hR.mono ?_⟩;rintro e W' (⟨rfl,hj,hb⟩|h)
  ·exact .inl ⟨rfl,⟨hj,fun i v hi=>by rw[hb.cell (p:=⟨0,i,none⟩) h0n];exact h2 i v hi,by rw[hb.cell (p:=⟨Bn,0,none⟩) hBn];exact h3⟩,hb⟩
  ·exact .inr h
 ·rintro e W' ⟨h1,⟨ys,h2,h3,_⟩|h⟩
  ·exact⟨h1,.inl ⟨ys,h2,h3⟩⟩
  ·exact⟨h1,.inr h⟩
def Sv(s:ByteArray):Bool:=wm.any fun x=>x.toList==s.toList
set_option maxRecDepth 100000 in
set_option maxHeartbeats 2000000 in
theorem kw_in(F:Fence)(n:Nat)(h4:F.fn 359)(h5:F.fn 385)(h6:F.fn 401)(hro:F.round=none)(hn:3<=n)(s:ByteArray)(w:World)(hG:MF w) :
 CallsIn F n Tryz.prog 359 #[.string s] w fun e W'=>e=.returned (.bool (Sv s))/\Below w.heap.size w W':=by
 have h1:1<=n:=by omega
 refine callsIn_of_wp_marks Tryz.func359 rfl h4 ?_ hro;simp only[Tryz.ntmps359,List.size_toArray,List.length_cons,List.length_nil,Nat.reduceAdd,Nat.reduceSub,Array.replicate_succ,Array.replicate_zero,List.push_toArray,List.append_toArray,List.nil_append,List.cons_append]
 gi_wp2_with (gi_at_call 385;refine(fs_in F (n-1) h5 hro _ _).mono ?_;rintro e w' ⟨rfl,rfl⟩)
 have c0:=AV w (.string s) 9;have c1:=AV (w.alloc (.cells #[.string s] 9)) (.bool false) 4;have c2:=AV ((w.alloc (.cells #[.string s] 9)).alloc (.cells #[.bool false] 4)) (.string pK) 9;simp only[World.size_alloc]at c1 c2;have hB0:Below w.heap.size w (((w.alloc (.cells #[.string s] 9)).alloc (.cells #[.bool false] 4)).alloc (.cells #[.string pK] 9)):=(((Below.refl _ w).alloc (Nat.le_refl _) _).alloc (by simp) _).alloc (by simp;omega) _;have hG0:=hG.below hG.1 hB0;have hGs:=hG.1;refine wpIn_rangeFunc_ownF hro h1 (gf:=401) (lb:=#[.pointer (some ⟨w.heap.size+1+1,0,none⟩)]) rfl h6 (enters_of Tryz.func401 (by kernel_rfl) rfl)
  (Sg F (n-1) h6 hro (by omega) (w.heap.size+1+1) (w.heap.size+1+1+1) _ (by omega) (by simp) (by omega) c2.1 hG0) belowK_t (belowK_b (by simp)) (Below.refl _ _) (fun _=>rfl)
  (fun pre W=>((∀y∈pre,(y.toList==s.toList)=false)/\W.cell? ⟨w.heap.size,0,none⟩=some (.string s)/\W.cell? ⟨w.heap.size+1,0,none⟩=some (.bool false)/\W.frozen? ⟨w.heap.size+1,0,none⟩=false)/\Below w.heap.size w W)
  (fun c pre W=>(c=.ret/\(∃y∈pre,(y.toList==s.toList)=true)/\W.cell? ⟨w.heap.size+1,0,none⟩=some (.bool true))/\Below w.heap.size w W)
  (OwnFrom.and (Own.from (fun s A B row hs hg hr=>⟨hs.1,cell_kept hs.2.1 hg hr,cell_kept hs.2.2.1 hg hr,(frozen_kept hs.2.2.1 hg hr).trans hs.2.2.2⟩) _) (ownFrom_below (Nat.le_refl _) (by simp;omega)))
  (fun c=>OwnFrom.and (Own.from (fun s A B row hs hg hr=>⟨hs.1,hs.2.1,cell_kept hs.2.2 hg hr⟩) _) (ownFrom_below (Nat.le_refl _) (by simp;omega)))
  ⟨⟨by simp,EJ _ (EJ _ c0.1),EJ _ c1.1,PL _ c1.1 c1.2⟩,hB0⟩
  (fun x=>{tmps:=#[.string s,.pointer (some ⟨w.heap.size,0,none⟩),.pointer (some ⟨w.heap.size+1,0,none⟩),.string x,.func (.func 401) #[] #[.pointer (some ⟨w.heap.size+1+1,0,none⟩)],.string x,undef,undef,undef],defers:=[]}) ?assign ?body ?done ?stop
 case assign=>
  intro l x W K hK
  gi_wp2
  exact hK
 case body=>
  rintro l pre x W ⟨⟨hp,hcw,hcr,hfr⟩,hB⟩ _
  gi_wp2
  ·rename_i hx;exact⟨KeepsOthers.setCell _ _ _,⟨rfl,⟨x,by simp,hx⟩,World.cell?_setCell_same' _ _ _ (by rw[hcr];rfl)⟩,hB.setCell (p:=⟨w.heap.size+1,0,none⟩) (by simp) _⟩
  ·rename_i hx;exact⟨KeepsOthers.refl _,Below.refl _ _,⟨fun y hy=>(List.mem_append.1 hy).elim (hp y) (fun e=>by simp only[List.mem_singleton]at e;subst e;simpa using hx),hcw,hcr,hfr⟩,hB⟩
 case done=>
  rintro D ys W hD rfl ⟨⟨hne,_,hcr,hfr⟩,hB⟩ hK
  gi_wp2
  have hK':=(KeepsOthers.setCell W ⟨w.heap.size+1,0,none⟩ (.bool false)).same D _ hK rfl;refine⟨by simp,.inl ⟨_,_,rfl,run_takeDeferred hK',?_⟩⟩;have hc5:=cell_kept (World.cell?_setCell_same' W ⟨w.heap.size+1,0,none⟩ (.bool false) (by rw[hcr];rfl)) (grownBy_putObj' _ D (.deferred none)) (fun r e=>by cases e;exact⟨_,hK',rfl⟩);refine⟨.bool false,?_,by rw[show Sv s=false from List.any_eq_false.2 fun y hy=>by rw[hne y hy];simp],(hB.setCell (p:=⟨w.heap.size+1,0,none⟩) (by simp) _).trans (belowK_b (w:=w) (Nat.le_refl _) _ D _ _ (by simp at hD;omega) hK' rfl rfl)⟩;simp[results,Tryz.f359,go_sem,hc5]
 case stop=>
  rintro D c pre W hD hpre ⟨⟨rfl,⟨y,hy,hin⟩,hcr⟩,hB⟩ hK
  gi_wp2
  refine⟨by simp,.inl ⟨_,_,rfl,run_takeDeferred hK,?_⟩⟩;have hc5:=cell_kept hcr (grownBy_putObj' _ D (.deferred none)) (fun r e=>by cases e;exact⟨_,hK,rfl⟩);refine⟨.bool true,?_,by rw[show Sv s=true from List.any_eq_true.2 ⟨y,hpre.subset hy,hin⟩],hB.trans (belowK_b (w:=w) (Nat.le_refl _) W D _ _ (by simp at hD;omega) hK rfl rfl)⟩;simp[results,Tryz.f359,go_sem,hc5]
theorem SC(s:ByteArray)(w:World)(hG:MF w):Calls Tryz.prog 359 #[.string s] w fun e W'=>e=.returned (.bool (Sv s))/\Below w.heap.size w W':=
 (callsIn_wide (n:=3)).1 (kw_in _ 3 trivial trivial trivial rfl (by omega) s w hG)
def uX(l:List UInt8)(k j:Nat):UInt8:=if j<k then Lib.upperB (l.getD j 0)else l.getD j 0
structure Folding (w:World) (s:ByteArray) (k:Nat) (W:World):Prop where
 below:Below w.heap.size w W
 cell:∀j,j<s.size->W.cell? ⟨w.heap.size,j,none⟩=some (.int .u8 ((uX s.data.toList k j).toNat:Int))
 froz:∀j,j<s.size->W.frozen? ⟨w.heap.size,j,none⟩=false
theorem Folding.start(w:World)(s:ByteArray)(cap:Nat)(t:TypeId):Folding w s 0 (w.drew.alloc (.cells (bytesRow s cap) t ((bytesRow s cap).size,(bytesRow s cap).size+1))):=by
 have hsz:s.size<=(bytesRow s cap).size:=by simp[bytesRow]
 refine⟨(Below.refl _ _).drew.alloc (Nat.le_refl _) _,fun j hj=>?_,fun j hj=>?_⟩
 ·have e:w.heap.size=w.drew.heap.size:=rfl;rw[e,World.cell?_alloc_mark,bytesRow_at s cap j hj];simp[uX];rw[Array.getElem?_eq_getElem hj];rfl
 ·have e:w.heap.size=w.drew.heap.size:=rfl;rw[e,World.frozen?_alloc_mark];simp;omega
theorem O1(l:List UInt8){k j:Nat}(h:¬j=k):uX l (k+1) j=uX l k j:=by
 unfold uX;by_cases h1:j<k
 ·rw[if_pos h1,if_pos (by omega)]
 ·rw[if_neg h1,if_neg (by omega)]
theorem O0(l:List UInt8)(k:Nat):uX l (k+1) k=Lib.upperB (uX l k k):=by unfold uX;rw[if_pos (by omega),if_neg (by omega)]
theorem Q0{c:UInt8}(h:(97:Int)<=(c.toNat:Int))(h':(c.toNat:Int)<=122):((Lib.upperB c).toNat:Int)=(c.toNat:Int)-32:=by
 have key:∀n:Nat,n<256->97<=n->n<=122->(Lib.upperB (UInt8.ofNat n)).toNat=n-32:=by decide +kernel
 have:=key c.toNat c.toNat_lt (by omega) (by omega);rw[UInt8.ofNat_toNat]at this
 omega
theorem Q5{c:UInt8}(h:¬((97:Int)<=(c.toNat:Int)/\(c.toNat:Int)<=122)):Lib.upperB c=c:=by
 have key:∀n:Nat,n<256->¬(97<=n/\n<=122)->Lib.upperB (UInt8.ofNat n)=UInt8.ofNat n:=by decide +kernel
 have:=key c.toNat c.toNat_lt (by omega);rwa [UInt8.ofNat_toNat]at this
theorem Folding.set{w W:World}{s:ByteArray}{k:Nat}(h:Folding w s k W)(hk:k<s.size)(h1:(97:Int)<=((uX s.data.toList k k).toNat:Int))(h2:((uX s.data.toList k k).toNat:Int)<=122) :
 Folding w s (k+1) (W.setCell ⟨w.heap.size,k,none⟩ (.int .u8 (((uX s.data.toList k k).toNat:Int)-32))):=by
 refine⟨h.below.setCell (Nat.le_refl _) _,fun j hj=>?_,fun j hj=>by rw[World.frozen?_setCell];exact h.froz j hj⟩;by_cases hjk:j=k
 ·subst hjk;rw[World.cell?_setCell_same _ _ _ (h.cell j hj),O0,Q0 h1 h2]
 ·rw[World.cell?_setCell_other _ _ _ _ (by simp<;>omega),O1 _ hjk]
  exact h.cell j hj
theorem Folding.same{w W:World}{s:ByteArray}{k:Nat}(h:Folding w s k W)(h1:¬((97:Int)<=((uX s.data.toList k k).toNat:Int)/\((uX s.data.toList k k).toNat:Int)<=122)):Folding w s (k+1) W:=by
 refine⟨h.below,fun j hj=>?_,h.froz⟩;by_cases hjk:j=k
 ·subst hjk;rw[O0,Q5 h1];exact h.cell j hj
 ·rw[O1 _ hjk];exact h.cell j hj
set_option maxRecDepth 100000 in
set_option maxHeartbeats 2000000 in
theorem fo_in(F:Fence)(n:Nat)(h6:F.fn 300)(hro:F.round=none)(s:ByteArray)(hsz:s.size<=1000)(w:World) :
 CallsIn F n Tryz.prog 300 #[.string s,.bool true] w fun e W'=>e=.returned (.string ⟨(Lib.toUpperA s.data.toList).toArray⟩)/\Below w.heap.size w W':=by
 have hconv:=run_bytes_of_string (P:=Tryz.prog) w 9 366 5 s Tryz.underlying9 Tryz.underlying366 Tryz.underlying5;refine callsIn_of_wp Tryz.func300 rfl h6 ?_ hro;simp only[Tryz.ntmps300,List.size_toArray,List.length_cons,List.length_nil,Nat.reduceAdd,Nat.reduceSub,Array.replicate_succ,Array.replicate_zero,List.push_toArray,List.append_toArray,List.nil_append,List.cons_append]
 gi_wp2
 gi_loopw [6] (fun i wr=>∃(k:Nat),i=.int .i64 k/\k<=s.size/\Folding w s k wr) (fun i _=>s.size-(intOf i).toNat)
 case atStart=>exact⟨0,rfl,Nat.zero_le _,Folding.start w s _ 5⟩
 case round=>
  obtain⟨k,rfl,hk,hW⟩:=hrel;by_cases hlt:k<s.size
  ·have hcell:=hW.cell k hlt;have hfr:=hW.froz k hlt
   gi_wp2
   ·rename_i h1 h2;exact⟨⟨k+1,by simp,hlt,hW.set hlt h1 h2⟩,by simp[intOf];omega⟩
   ·rename_i h1 h2;exact⟨⟨k+1,by simp,hlt,hW.same (by omega)⟩,by simp[intOf];omega⟩
   ·rename_i h1;exact⟨⟨k+1,by simp,hlt,hW.same (by omega)⟩,by simp[intOf];omega⟩
  ·have hks:k=s.size:=by omega
   subst hks;have hlen:(Lib.toUpperA s.data.toList).length=s.size:=by simp[Lib.toUpperA]<;>rfl
   have hback:=run_convert_bytes_back (P:=Tryz.prog) wr 366 9 5 ⟨w.heap.size,0,none⟩ (grownCap w s.size 0 5) (Lib.toUpperA s.data.toList) Tryz.underlying366 Tryz.underlying5 Tryz.underlying9 (fun j hj=>by
    have hjs:j<s.size:=by omega
    have:=hW.cell j hjs;have e:uX s.data.toList s.size j=(Lib.toUpperA s.data.toList)[j]:=by
     unfold uX;rw[if_pos hjs];have:j<s.data.toList.length:=by simpa[Lib.toUpperA]using hj
     rw[List.getD_eq_getElem?_getD,List.getElem?_eq_getElem this];simp[Lib.toUpperA]
    rw[e]at this
    rw[Go.WideShapes.add_plain];simpa using this)
   rw[hlen]at hback
   have hB:=hW.below
   gi_wp2
   go_ret
   exact⟨rfl,hB⟩
theorem Sb(s:ByteArray)(hsz:s.size<=1000)(w:World):Calls Tryz.prog 300 #[.string s,.bool true] w fun e W'=>e=.returned (.string ⟨(Lib.toUpperA s.data.toList).toArray⟩)/\Below w.heap.size w W':=
 (callsIn_wide (n:=1)).1 (fo_in _ 1 trivial rfl s hsz w)
set_option maxHeartbeats 1000000 in
theorem Po(c:Nat)(w:World):Calls Tryz.prog 160 #[.slice none 0 c] w fun e w'=>(∃b,e=.returned (.slice b 0 0))/\Below w.heap.size w w':=by
 have h1:=fun w a n c n' c'=>Lib.run_eql_slice_nil (P:=Tryz.prog) w 23 44 a n c n' c' Tryz.underlying23
 go_enter Tryz.func160,Tryz.ntmps160
 go_wp2
 go_ret
 exact⟨⟨_,rfl⟩,Below.refl _ _⟩
set_option maxHeartbeats 1000000 in
theorem Hg(a:Addr)(c:Nat)(w:World):Calls Tryz.prog 160 #[.slice (some a) 0 c] w fun e w'=>(∃b,e=.returned (.slice b 0 0))/\Below w.heap.size w w':=by
 have h1:=fun w a n c n' c'=>Lib.run_eql_slice_nil (P:=Tryz.prog) w 23 44 a n c n' c' Tryz.underlying23
 go_enter Tryz.func160,Tryz.ntmps160
 go_wp2
 go_ret
 exact⟨⟨_,rfl⟩,(Below.refl _ _).alloc (Nat.le_refl _) _⟩
end Go.Proofs.YtbmkfjmlepjpfaaGreatDoor
