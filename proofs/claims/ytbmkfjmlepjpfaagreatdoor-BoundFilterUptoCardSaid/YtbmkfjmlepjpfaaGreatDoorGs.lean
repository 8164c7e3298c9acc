/- A part of the proof. -/
import Derived.WalkKit
import Derived.WalkSpells
import Derived.WalkLawsBesides
import Derived.Maps.AppendAt
import Derived.Lib.AppendZeros
import Derived.Below
import Derived.KernelRfl
import Derived.Test.YtbmkfjmlepjpfaaGreatDoorProg
import Derived.Test.YtbmkfjmlepjpfaaGreatDoorIr
import Derived.Test.YtbmkfjmlepjpfaaGreatDoorR
import Derived.Laws.IdiomRangeMap
import Derived.WideMake
import Derived.Maps.RangeRun
import Derived.Laws.Bits64b
import Derived.LoopTactic
import Derived.MapFrom
set_option linter.all false
set_option maxRecDepth 100000
namespace Go.Proofs.YtbmkfjmlepjpfaaGreatDoor
open Go.RowKit
theorem tF{P:Program}(w:World)(b:Option Addr)(t tn ty e:TypeId)(i:TypeInfo)(z:Value)(k kn:IntKind)(ht:P.underlying t=some (.slice e))(htn:P.underlying tn=some (.int kn))(hi:P.info? e=some i)(hz:i.zero=some z)
 (n:Nat) (h0:0<n) (hs:0<i.size) (h63:(n:Int)<=9223372036854775807) (h48:n*i.bytes<=281474976710656) :
 (Builtin.append_ #[t,tn] ty #[.slice b 0 0,.int k n]).run P w =
  .ok (.slice (some ⟨w.heap.size,0,none⟩) n (grownCap w n 0 e)) (w.drew.alloc (.cells (Builtin.zeroCells z.cells n++Builtin.zeroCells z.cells (grownCap w n 0 e-n)) e)):=by
 cases b with
 | none=>exact Lib.run_append_nil_zeros w t tn ty e i z k kn ht htn hi hz n h0 hs h63 h48
 | some b=>
  have hn:n≠0:=by omega
  have hw:IntKind.i64.wrap (n:Int)=n:=by rw[IntKind.wrap_i64];omega
  have h63':¬(9223372036854775807<(n:Int)):=by omega
  have h48':¬(281474976710656<Builtin.nextslicecap n 0*i.bytes):=by rw[nextslicecap_zero h0];omega
  have h48i:¬(281474976710656<(n:Int)*(i.bytes:Int)):=by rw[<-Int.natCast_mul];omega
  have hneg:¬((n:Int)<0):=by omega
  have hns:¬(n*i.size=0):=Nat.mul_ne_zero hn (by omega);have hf:=fun size w=>run_firstCells_some (P:=P) (w:=w) size 0 b 0 0 [] (by simp) (by simp);simp[Builtin.append_,run_underlying ht,run_underlying htn,sizeOf,typeInfo,zeroValue,hi,hz,asInt,asIntOf,hw,hn,hneg,hns,h63',h48',h48i,Question.forced,hf,newRow,grownCap]
theorem PU:∃i,Tryz.prog.info? 27=some i/\i.zero=some (.int .u8 0)/\i.size=1/\i.bytes=1:=by
 have h:((Tryz.prog.info? 27).map fun i=>(i.zero,i.size,i.bytes))=some (some (.int .u8 0),1,1):=by kernel_rfl
 cases hi:Tryz.prog.info? 27 with
 | none=>simp[hi]at h
 | some i=>simp[hi]at h;exact⟨i,rfl,h.1,h.2.1,h.2.2⟩
set_option maxHeartbeats 1000000 in
theorem PS(b:Option Addr)(w:World):Calls Tryz.prog 122 #[.slice b 0 0,.int .i64 0] w fun e w'=>e=.returned (.slice b 0 0)/\w'=w:=by
 have t22:=Tryz.underlying22;have t3:=Tryz.underlying3
 go_enter Tryz.func122,Tryz.ntmps122
 go_wp2
 go_ret
 exact⟨rfl,rfl⟩
set_option maxHeartbeats 1000000 in
theorem Sm(b:Option Addr)(n:Nat)(h0:0<n)(hn:n<=140737488355328)(w:World):Calls Tryz.prog 122 #[.slice b 0 0,.int .i64 n] w fun e w'=>
 ∃cap cs,e=.returned (.slice (some ⟨w.heap.size,0,none⟩) 0 cap)/\cs.size=cap/\w'=(w.alloc (.cells cs 27)).drew:=by
 have t22:=Tryz.underlying22;have t3:=Tryz.underlying3;obtain⟨i0,hi,hz0,hz1,hz2⟩:=PU;have happ:=tF (P:=Tryz.prog) w b 22 3 22 27 i0 (.int .u8 0) .i64 .i64 t22 t3 hi hz0 n h0 (by omega) (by omega) (by rw[hz2];omega);generalize hcap:grownCap w n 0 27=cap2 at happ;have hcapge:n<=cap2:=by rw[<-hcap];exact grownCap_ge w _ 0 _
 generalize hZ:(Builtin.zeroCells (Value.int .u8 0).cells n++Builtin.zeroCells (Value.int .u8 0).cells (cap2-n))=Z at happ;have hZs:Z.size=cap2:=by rw[<-hZ];simp[size_zeroCells,Value.cells];omega
 clear hcap hZ;have hw:IntKind.i64.wrap (n:Int)=n:=by rw[IntKind.wrap_i64];omega
 go_enter Tryz.func122,Tryz.ntmps122
 go_wp2_with (at_builtin;refine Lib.wpList_append_run _ rfl _ _ _ _ rfl _ _ rfl rfl _ _ happ ?_)
 go_ret
 exact⟨_,Z,rfl,hZs,rfl⟩
theorem Sk{xs:List X}{s s':ax}{r:X}(h:IL xs s=some (r,s')):iC s s':=by
 unfold IL at h
 repeat' split at h
 all_goals first
  | (simp at h;done)
  | (simp only[aW,bK]at h;obtain⟨_,rfl⟩:=h;first|exact iC.refl _|exact iC.aN _ _ _)
theorem Sl{xs:List X}{s s':ax}{r:X}(hr:IL xs s=some (r,s')):GJ Tryz.prog 122 xs s r s':=by
 unfold IL at hr;split at hr
 case h_2=>simp at hr
 rename_i n;intro w0 sh nt μ fr e a w hI _ vs hl hv;obtain⟨v,u,rfl⟩:∃v u,vs=#[v,u]:=by
  rcases vs with⟨l⟩
  have hl:l.length=2:=by simpa using hl.symm
  rcases l with _|⟨v,_|⟨u,_|⟨x,l⟩⟩⟩<;>simp at hl
  exact⟨v,u,rfl⟩
 have h1:=hv 0 _ v rfl rfl;have h2:=hv 1 _ u rfl rfl;cases h1 with
 | @nil b=>
 cases h2 with
 | v _=>
 split at hr
 ·rename_i hn;simp only[aW,bK]at hr;obtain⟨rfl,rfl⟩:=hr;obtain⟨m,rfl⟩:=Int.eq_ofNat_of_zero_le (show 0<=n by omega);refine(Sm b m (by omega) (by omega) w).mono ?_;rintro e' w' ⟨cap,cs,rfl,hcs,rfl⟩;obtain⟨c1,c2⟩:=hI.change 800020 w.heap.size ((s 800020).g+1) ((s 800020).n+1) (.row 1 []) (w.alloc (.cells cs 27)) (by omega) (by omega) ((Below.refl _ _).alloc hI.below.size _)
   (fun k hk _=>heap_alloc_old w _ hk) (.inl (Nat.le_refl _)) (fun _=>⟨cs,27,heap_alloc_new w _,by simp,by simp,by omega,by simp,by simp⟩)
  have hle:(aU (upd μ 800020 w.heap.size) (aN s 800020 (.row 1 [])) (w.alloc (.cells cs 27)) sh fr).Le (aU (upd μ 800020 w.heap.size) (aN s 800020 (.row 1 [])) (w.alloc (.cells cs 27)).drew sh fr):=
   ⟨fun _ _ _ _ h=>h,fun _ _ _ h=>h,fun _ h=>.inl h,fun _ h=>h,fun _=>Nat.le_refl _,fun _ _ _=>⟨rfl,fun cs t fz h=>⟨cs,t,fz,h,rfl⟩⟩⟩
  refine⟨_,_,fr,rfl,Inv.drew c1,?_,Cx.Le.trans c2 hle⟩;refine .ref (by omega) (by simp[aU,aN,upd_same]) (fun _=>⟨cap,by simp[aU,upd_same],by omega,cs,27,(0,0),?_,by omega⟩) rfl;simp only[aU,upd_same];exact heap_alloc_new w _
 ·split at hr
  ·rename_i hn;subst hn;simp only[aW,bK]at hr;obtain⟨rfl,rfl⟩:=hr;refine(PS b w).mono ?_;rintro e' w' ⟨rfl,rfl⟩;exact⟨_,μ,fr,rfl,hI,.nil,Cx.Le.refl _⟩
  ·simp at hr
theorem pJ(w:World)(es:Array MapEntry)(clock:Nat)(k:Int)(v:Value)(hk:∀x∈es.toList,∃j,x.key=.int .u64 j/\j≠k) :
 (Instr.mapUpdate 347 (.map (some w.heap.size)) (.int .u64 k) v).run Tryz.prog (w.alloc (.map es clock))=.ok () (w.alloc (.map (es.push ⟨.int .u64 k,v,clock⟩) (clock+1))):=by
 have hd:Tryz.prog.underlying 283=some (.int .u64):=Tryz.underlying283;have hm:=Tryz.underlying347;have hkey:∀j:Int,MapKept.IsKey (.int .u64) (.int .u64 j):=fun j=>by simp[MapKept.IsKey]
 have hb:(w.alloc (.map es clock)).heap[w.heap.size]?=some (.map es clock):=heap_alloc_new w _;have hp:∀(h:Array Obj) (x y:Obj),(h.push x).setIfInBounds h.size y=h.push y:=by intro h x y;apply Array.toList_inj.1;simp
 rcases MapKept.findNow_spec (hkey k) es.toList 0 (fun x hx=>by obtain⟨j,h1,_⟩:=hk x hx;rw[h1];exact hkey j)with⟨h1,_⟩|⟨j,e,h1,h2,h3⟩
 ·have hc:(Instr.checkKey false 10000 283 (.int .u64 k)).run Tryz.prog (w.alloc (.map es clock))=.ok () (w.alloc (.map es clock)):=MapKept.run_checkKey (k:=.int .u64 k) hd (hkey k) false 9999;have hs:({w.alloc (.map es clock)with heap:=(w.alloc (.map es clock)).heap.setIfInBounds w.heap.size (.map (es.push ⟨.int .u64 k,v,clock⟩) (clock+1))}:World)=w.alloc (.map (es.push ⟨.int .u64 k,v,clock⟩) (clock+1)):=by show({w.alloc (.map es clock)with heap:=(w.heap.push (.map es clock)).setIfInBounds w.heap.size _}:World)=_;rw[hp];rfl
  simp only[Instr.mapUpdate,Sem.run_bind,run_underlying hm,MapKept.run_getObj_map hb,hc,MapKept.run_findKey hd h1,MapKept.run_setObj_map _ hb,Result.andThen,hs]
 ·exfalso;obtain⟨j',g1,g2⟩:=hk e (kK (by simpa using h2));rw[g1]at h3
  simp at h3;exact g2 h3
def uE(q0 q1 q2 q3 q4 q5 q6:Bool):Array MapEntry:=#[⟨.int .u64 1,.bool q0,0⟩,⟨.int .u64 2,.bool q1,1⟩,⟨.int .u64 4,.bool q2,2⟩,⟨.int .u64 8,.bool q3,3⟩,⟨.int .u64 16,.bool q4,4⟩,⟨.int .u64 32,.bool q5,5⟩,⟨.int .u64 64,.bool q6,6⟩]
def WA:Value->Bool|.bool b=>b|_=>false
def uS:List MapEntry->Array Nat->Nat
 | [],_=>0
 | x::l,seen=>(if seen.contains x.born&&WA x.val then(valOf x.key).toNat else 0)||| uS l seen
theorem JW(seen:Array Nat)(b:Nat):∀(es:List MapEntry),b ∉ es.map (·.born)->uS es (seen.push b)=uS es seen
 | [],_=>rfl
 | x::l,h=>by
  have hx:(x.born==b)=false:=by
   cases hc:x.born==b with
   | false=>rfl
   | true=>exact absurd (List.mem_cons.2 (Or.inl (beq_iff_eq.1 hc).symm)) h
  have ih:=JW seen b l (fun e=>h (List.mem_cons.2 (Or.inr e)));simp only[uS,contains_push,hx,Bool.or_false,ih]
theorem Gv(seen:Array Nat)(e:MapEntry)(hs:seen.contains e.born=false):∀(es:List MapEntry),(es.map (·.born)).Nodup->e∈es->uS es (seen.push e.born)=uS es seen||| (if WA e.val then(valOf e.key).toNat else 0)
 | x::l,hn,he=>by
  have hn':x.born ∉ l.map (·.born)/\(l.map (·.born)).Nodup:=List.nodup_cons.1 hn;rcases List.mem_cons.1 he with rfl|h
  ·simp only[uS,contains_push,hs,beq_self_eq_true,Bool.or_true,Bool.false_and,Bool.true_and,kG,if_false,Nat.zero_or,JW seen e.born l hn'.1];exact Nat.or_comm _ _
  ·have hx:(x.born==e.born)=false:=by
    cases hc:x.born==e.born with
    | false=>rfl
    | true=>exact absurd (by rw[beq_iff_eq.1 hc];exact List.mem_map.2 ⟨e,h,rfl⟩) hn'.1
   simp only[uS,contains_push,hx,Bool.or_false,Gv seen e hs l hn'.2 h,Nat.or_assoc]
theorem Gu:∀(es:List MapEntry),uS es #[]=0
 | []=>rfl
 | x::l=>by
  have:(#[]:Array Nat).contains x.born=false:=by simp
  simp only[uS,this,Bool.false_and,kG,if_false,Gu l,Nat.or_zero]
def uF:List MapEntry->Nat
 | []=>0
 | x::l=>(if WA x.val then(valOf x.key).toNat else 0)||| uF l
theorem OZ(seen:Array Nat):∀(es:List MapEntry),(∀x∈es,seen.contains x.born=true)->uS es seen=uF es
 | [],_=>rfl
 | x::l,h=>by simp only[uS,uF,h x (List.mem_cons.2 (Or.inl rfl)),Bool.true_and,OZ seen l (fun y hy=>h y (List.mem_cons.2 (Or.inr hy)))]
def uR(q0 q1 q2 q3 q4 q5 q6:Bool):Nat:=(if q0 then 1 else 0)||| ((if q1 then 2 else 0)||| ((if q2 then 4 else 0)||| ((if q3 then 8 else 0)||| ((if q4 then 16 else 0)||| ((if q5 then 32 else 0)||| (if q6 then 64 else 0))))))
theorem OY(q0 q1 q2 q3 q4 q5 q6:Bool)(seen:Array Nat)(h:(leftOf (uE q0 q1 q2 q3 q4 q5 q6) seen).size=0):uS (uE q0 q1 q2 q3 q4 q5 q6).toList seen=uR q0 q1 q2 q3 q4 q5 q6:=by rw[OZ seen _ (all_seen _ seen h)];cases q0<;>cases q1<;>cases q2<;>cases q3<;>cases q4<;>cases q5<;>cases q6<;>rfl
theorem VD(seen:Array Nat):∀(es:List MapEntry),(∀x∈es,(valOf x.key).toNat<128)->uS es seen<128
 | [],_=>by simp[uS]
 | x::l,h=>by have ih:=VD seen l (fun y hy=>h y (List.mem_cons.2 (Or.inr hy)));have hx:=h x (List.mem_cons.2 (Or.inl rfl));simp only[uS];refine Nat.or_lt_two_pow (n:=7) ?_ ih;split<;>omega
theorem OX(q0 q1 q2 q3 q4 q5 q6:Bool):(∀x∈(uE q0 q1 q2 q3 q4 q5 q6).toList,x.born<7)/\((uE q0 q1 q2 q3 q4 q5 q6).toList.map (·.born)).Nodup:=by
 constructor
 ·simp[uE]
 ·simp[uE]
theorem VB(q0 q1 q2 q3 q4 q5 q6:Bool){e:MapEntry}(h:e∈(uE q0 q1 q2 q3 q4 q5 q6).toList):∃(k:Nat) (q:Bool),e.key=.int .u64 k/\e.val=.bool q/\k<128:=by
 simp[uE]at h
 rcases h with rfl|rfl|rfl|rfl|rfl|rfl|rfl
 ·exact⟨1,_,rfl,rfl,by omega⟩
 ·exact⟨2,_,rfl,rfl,by omega⟩
 ·exact⟨4,_,rfl,rfl,by omega⟩
 ·exact⟨8,_,rfl,rfl,by omega⟩
 ·exact⟨16,_,rfl,rfl,by omega⟩
 ·exact⟨32,_,rfl,rfl,by omega⟩
 ·exact⟨64,_,rfl,rfl,by omega⟩
theorem D6{P:Program}(w1 w2:World)(bm:Nat)(seen seen2:Array Nat)(E:Array MapEntry)(v:Value)(hb:w1.heap[bm]?=some (.map E 7))(hold:∀x∈E.toList,x.born<7)
 (hrun:(Instr.next (.pointer (some ⟨w1.heap.size,0,none⟩)) false 0).run P (w1.alloc (.mapIter (some bm) 7 seen 7))=.ok v (w2.alloc (.mapIter (some bm) 7 seen2 7))):w2.tape=w1.tape:=by
 have hlt:bm<w1.heap.size:=by
  rcases Nat.lt_or_ge bm w1.heap.size with h|h
  ·exact h
  ·simp[Array.getElem?_eq_none h]at hb
 have hb':(w1.alloc (.mapIter (some bm) 7 seen 7)).heap[bm]?=some (.map E 7):=by rw[heap_alloc_old w1 _ hlt];exact hb
 rcases run_next_at (P:=P) (w1.alloc (.mapIter (some bm) 7 seen 7)) 0 w1.heap.size bm 7 7 seen E 7 (heap_alloc_new w1 _) hb' hold (Nat.le_refl _)with⟨_,h⟩|⟨e,_,w3,hw,h⟩
 ·rw[hrun]at h
  simp only[Result.ok.injEq]at h;have:=congrArg World.tape h.2;exact this
 ·rw[hrun]at h
  simp only[Result.ok.injEq]at h;have:=congrArg World.tape h.2;rcases hw with rfl|rfl<;>exact this
set_option maxHeartbeats 4000000 in
theorem Mt(k0 tb fr ct:Int)(b2 b3 b4 b5 b6 b7 b8 b9:Option Addr)(n2 n3 n4 n5 n6 n7 n8 n9 c2 c3 c4 c5 c6 c7 c8 c9:Nat)(h2:n2+n3<=9223372036854775807)(h6:n6+n7<=9223372036854775807)(w:World) :
 Calls Tryz.prog 263 #[.agg #[.int .u8 k0,.int .i64 tb,.slice b2 n2 c2,.slice b3 n3 c3,.slice b4 n4 c4,.slice b5 n5 c5,.slice b6 n6 c6,.slice b7 n7 c7,.slice b8 n8 c8,.int .i64 fr,.int .i64 ct,.slice b9 n9 c9]] w fun e w'=>e=.returned (.int .u64 ((uR (decide (0<(n2:Int)+n3)) (tb != 0) (decide (0<n4)) (decide (0<n5)) (decide (0<(n6:Int)+n7)) (decide (0<n8)) (fr != 0||ct != 0):Nat):Int))/\Below w.heap.size w w':=by
 have t328:=Tryz.underlying347;have hmk:∀w,(Instr.makeMap 347 none).run Tryz.prog w=.ok (.map (some w.heap.size)) (w.alloc (.map #[] 0)):=fun w=>run_makeMap_plain w 347;have i1:∀(w:World) (B:Obj) (v:Value),(Instr.mapUpdate 347 (.map (some (w.heap.size+1))) (.int .u64 1) v).run Tryz.prog ((w.alloc B).alloc (.map #[] 0))=.ok () ((w.alloc B).alloc (.map #[⟨.int .u64 1,v,0⟩] 1)):=fun w B  v=>by
  have h:=pJ (w.alloc B) #[] 0 1 v (by simp);rw[show(w.alloc B).heap.size=w.heap.size+1 from Array.size_push _]at h
  exact h
 have i2:∀(w:World) (B:Obj) (v0 v:Value),(Instr.mapUpdate 347 (.map (some (w.heap.size+1))) (.int .u64 2) v).run Tryz.prog ((w.alloc B).alloc (.map #[⟨.int .u64 1,v0,0⟩] 1))=.ok () ((w.alloc B).alloc (.map #[⟨.int .u64 1,v0,0⟩,⟨.int .u64 2,v,1⟩] 2)):=fun w B v0 v=>by
  have h:=pJ (w.alloc B) #[⟨.int .u64 1,v0,0⟩] 1 2 v (by simp);rw[show(w.alloc B).heap.size=w.heap.size+1 from Array.size_push _]at h
  exact h
 have i3:∀(w:World) (B:Obj) (v0 v1 v:Value),(Instr.mapUpdate 347 (.map (some (w.heap.size+1))) (.int .u64 4) v).run Tryz.prog ((w.alloc B).alloc (.map #[⟨.int .u64 1,v0,0⟩,⟨.int .u64 2,v1,1⟩] 2))=.ok () ((w.alloc B).alloc (.map #[⟨.int .u64 1,v0,0⟩,⟨.int .u64 2,v1,1⟩,⟨.int .u64 4,v,2⟩] 3)):=fun w B v0 v1 v=>by
  have h:=pJ (w.alloc B) #[⟨.int .u64 1,v0,0⟩,⟨.int .u64 2,v1,1⟩] 2 4 v (by simp);rw[show(w.alloc B).heap.size=w.heap.size+1 from Array.size_push _]at h
  exact h
 have i4:∀(w:World) (B:Obj) (v0 v1 v2 v:Value),(Instr.mapUpdate 347 (.map (some (w.heap.size+1))) (.int .u64 8) v).run Tryz.prog ((w.alloc B).alloc (.map #[⟨.int .u64 1,v0,0⟩,⟨.int .u64 2,v1,1⟩,⟨.int .u64 4,v2,2⟩] 3))=.ok () ((w.alloc B).alloc (.map #[⟨.int .u64 1,v0,0⟩,⟨.int .u64 2,v1,1⟩,⟨.int .u64 4,v2,2⟩,⟨.int .u64 8,v,3⟩] 4)):=fun w B v0 v1 v2 v=>by
  have h:=pJ (w.alloc B) #[⟨.int .u64 1,v0,0⟩,⟨.int .u64 2,v1,1⟩,⟨.int .u64 4,v2,2⟩] 3 8 v (by simp);rw[show(w.alloc B).heap.size=w.heap.size+1 from Array.size_push _]at h
  exact h
 have i5:∀(w:World) (B:Obj) (v0 v1 v2 v3 v:Value),(Instr.mapUpdate 347 (.map (some (w.heap.size+1))) (.int .u64 16) v).run Tryz.prog ((w.alloc B).alloc (.map #[⟨.int .u64 1,v0,0⟩,⟨.int .u64 2,v1,1⟩,⟨.int .u64 4,v2,2⟩,⟨.int .u64 8,v3,3⟩] 4))=.ok () ((w.alloc B).alloc (.map #[⟨.int .u64 1,v0,0⟩,⟨.int .u64 2,v1,1⟩,⟨.int .u64 4,v2,2⟩,⟨.int .u64 8,v3,3⟩,⟨.int .u64 16,v,4⟩] 5)):=fun w B v0 v1 v2 v3 v=>by
  have h:=pJ (w.alloc B) #[⟨.int .u64 1,v0,0⟩,⟨.int .u64 2,v1,1⟩,⟨.int .u64 4,v2,2⟩,⟨.int .u64 8,v3,3⟩] 4 16 v (by simp);rw[show(w.alloc B).heap.size=w.heap.size+1 from Array.size_push _]at h
  exact h
 have i6:∀(w:World) (B:Obj) (v0 v1 v2 v3 v4 v:Value),(Instr.mapUpdate 347 (.map (some (w.heap.size+1))) (.int .u64 32) v).run Tryz.prog ((w.alloc B).alloc (.map #[⟨.int .u64 1,v0,0⟩,⟨.int .u64 2,v1,1⟩,⟨.int .u64 4,v2,2⟩,⟨.int .u64 8,v3,3⟩,⟨.int .u64 16,v4,4⟩] 5))=.ok () ((w.alloc B).alloc (.map #[⟨.int .u64 1,v0,0⟩,⟨.int .u64 2,v1,1⟩,⟨.int .u64 4,v2,2⟩,⟨.int .u64 8,v3,3⟩,⟨.int .u64 16,v4,4⟩,⟨.int .u64 32,v,5⟩] 6)):=fun w B v0 v1 v2 v3 v4 v=>by
  have h:=pJ (w.alloc B) #[⟨.int .u64 1,v0,0⟩,⟨.int .u64 2,v1,1⟩,⟨.int .u64 4,v2,2⟩,⟨.int .u64 8,v3,3⟩,⟨.int .u64 16,v4,4⟩] 5 32 v (by simp);rw[show(w.alloc B).heap.size=w.heap.size+1 from Array.size_push _]at h
  exact h
 have i7:∀(w:World) (B:Obj) (v0 v1 v2 v3 v4 v5 v:Value),(Instr.mapUpdate 347 (.map (some (w.heap.size+1))) (.int .u64 64) v).run Tryz.prog ((w.alloc B).alloc (.map #[⟨.int .u64 1,v0,0⟩,⟨.int .u64 2,v1,1⟩,⟨.int .u64 4,v2,2⟩,⟨.int .u64 8,v3,3⟩,⟨.int .u64 16,v4,4⟩,⟨.int .u64 32,v5,5⟩] 6))=.ok () ((w.alloc B).alloc (.map #[⟨.int .u64 1,v0,0⟩,⟨.int .u64 2,v1,1⟩,⟨.int .u64 4,v2,2⟩,⟨.int .u64 8,v3,3⟩,⟨.int .u64 16,v4,4⟩,⟨.int .u64 32,v5,5⟩,⟨.int .u64 64,v,6⟩] 7)):=fun w B v0 v1 v2 v3 v4 v5 v=>by
  have h:=pJ (w.alloc B) #[⟨.int .u64 1,v0,0⟩,⟨.int .u64 2,v1,1⟩,⟨.int .u64 4,v2,2⟩,⟨.int .u64 8,v3,3⟩,⟨.int .u64 16,v4,4⟩,⟨.int .u64 32,v5,5⟩] 6 64 v (by simp);rw[show(w.alloc B).heap.size=w.heap.size+1 from Array.size_push _]at h
  exact h
 have hrg:∀(w:World) (B:Obj) (v0 v1 v2 v3 v4 v5 v6:Value),(Instr.range 347 (.map (some (w.heap.size+1)))).run Tryz.prog ((w.alloc B).alloc (.map #[⟨.int .u64 1,v0,0⟩,⟨.int .u64 2,v1,1⟩,⟨.int .u64 4,v2,2⟩,⟨.int .u64 8,v3,3⟩,⟨.int .u64 16,v4,4⟩,⟨.int .u64 32,v5,5⟩,⟨.int .u64 64,v6,6⟩] 7))=.ok (.pointer (some ⟨w.heap.size+2,0,none⟩)) (((w.alloc B).alloc (.map #[⟨.int .u64 1,v0,0⟩,⟨.int .u64 2,v1,1⟩,⟨.int .u64 4,v2,2⟩,⟨.int .u64 8,v3,3⟩,⟨.int .u64 16,v4,4⟩,⟨.int .u64 32,v5,5⟩,⟨.int .u64 64,v6,6⟩] 7)).alloc (.mapIter (some (w.heap.size+1)) 7 #[] 7)):=fun w B v0 v1 v2 v3 v4 v5 v6=>by
  have hb:((w.alloc B).alloc (.map #[⟨.int .u64 1,v0,0⟩,⟨.int .u64 2,v1,1⟩,⟨.int .u64 4,v2,2⟩,⟨.int .u64 8,v3,3⟩,⟨.int .u64 16,v4,4⟩,⟨.int .u64 32,v5,5⟩,⟨.int .u64 64,v6,6⟩] 7)).heap[w.heap.size+1]?=some (.map #[⟨.int .u64 1,v0,0⟩,⟨.int .u64 2,v1,1⟩,⟨.int .u64 4,v2,2⟩,⟨.int .u64 8,v3,3⟩,⟨.int .u64 16,v4,4⟩,⟨.int .u64 32,v5,5⟩,⟨.int .u64 64,v6,6⟩] 7):=by
   have:=heap_alloc_new (w.alloc B) (.map #[⟨.int .u64 1,v0,0⟩,⟨.int .u64 2,v1,1⟩,⟨.int .u64 4,v2,2⟩,⟨.int .u64 8,v3,3⟩,⟨.int .u64 16,v4,4⟩,⟨.int .u64 32,v5,5⟩,⟨.int .u64 64,v6,6⟩] 7);rw[show(w.alloc B).heap.size=w.heap.size+1 from Array.size_push _]at this
   exact this
  have h:=run_range_map (P:=Tryz.prog) ((w.alloc B).alloc (.map #[⟨.int .u64 1,v0,0⟩,⟨.int .u64 2,v1,1⟩,⟨.int .u64 4,v2,2⟩,⟨.int .u64 8,v3,3⟩,⟨.int .u64 16,v4,4⟩,⟨.int .u64 32,v5,5⟩,⟨.int .u64 64,v6,6⟩] 7)) 347 283 4 (w.heap.size+1) _ 7 t328 hb;rw[show((w.alloc B).alloc (.map #[⟨.int .u64 1,v0,0⟩,⟨.int .u64 2,v1,1⟩,⟨.int .u64 4,v2,2⟩,⟨.int .u64 8,v3,3⟩,⟨.int .u64 16,v4,4⟩,⟨.int .u64 32,v5,5⟩,⟨.int .u64 64,v6,6⟩] 7)).heap.size=w.heap.size+2 from by show((w.heap.push _).push _).size=_;rw[Array.size_push,Array.size_push]]at h
  exact h
 go_enter Tryz.func263,Tryz.ntmps263
 go_wp2
 ·change Code.wp _ _ _ _ (((World.alloc w _).alloc (Obj.map (uE _ _ _ _ _ _ _) 7)).alloc _);generalize hE:uE _ _ _ _ _ _ _=E;have f1:=hE▸OX _ _ _ _ _ _ _;have f3:=fun {e:MapEntry}=>hE▸VB (e:=e) _ _ _ _ _ _ _
  have f4:=hE▸OY _ _ _ _ _ _ _;generalize hB:Obj.cells _ 60=B;generalize hW:((World.alloc w B).alloc (Obj.map E 7))=W;have hWs:w.heap.size+2=W.heap.size:=by rw[<-hW];symm;show((w.heap.push _).push _).size=_;rw[Array.size_push,Array.size_push]
  have hWb:W.heap[w.heap.size+1]?=some (.map E 7):=by
   rw[<-hW];have:=heap_alloc_new (World.alloc w B) (.map E 7);rw[show(World.alloc w B).heap.size=w.heap.size+1 from Array.size_push _]at this
   exact this
  have hWl:Below w.heap.size w W:=by rw[<-hW];exact((Below.refl _ _).alloc (Nat.le_refl _) _).alloc (by show _<=(w.heap.push _).size;rw[Array.size_push];omega) _
  rw[hWs]
  go_loopw [3] (fun s w'=>∃(w1:World) (seen:Array Nat),w1.Alike W/\w1.tape=W.tape/\w'=w1.alloc (.mapIter (some (w.heap.size+1)) 7 seen 7)/\s=.int .u64 ((uS E.toList seen:Nat):Int)) (fun _ w'=>(leftOf E (w'.iterSeen W.heap.size)).size)
  case atStart=>exact⟨W,#[],⟨rfl,rfl,rfl⟩,rfl,rfl,by rw[Gu];rfl⟩
  case round=>
   obtain⟨w1,seen,hal,htp,rfl,rfl⟩:=hrel;have hsz:w1.heap.size=W.heap.size:=by rw[hal.1]
   have hb1:w1.heap[w.heap.size+1]?=some (.map E 7):=by rw[hal.1];exact hWb
   have law:=run_next_map (P:=Tryz.prog) w1 0 (w.heap.size+1) 7 7 seen E 7 hb1 f1.1 (Nat.le_refl _);rw[hsz]at law
   rcases law with⟨h0,hrun⟩|⟨e,he,w2,hal2,hrun⟩
   ·have hnx:∀ty,(Instr.next (.pointer (some ⟨W.heap.size,0,none⟩)) false ty).run Tryz.prog (w1.alloc (.mapIter (some (w.heap.size+1)) 7 seen 7))=_:=fun _=>hrun
    go_wp2
    go_ret
    refine⟨?_,?_⟩
    ·show Ending.returned (Value.int .u64 ((uS E.toList seen:Nat):Int))=_;rw[f4 _ h0]
     first
     | (simp[*];done)
     | (
      have hfr:(fr != 0)=true:=by simpa using ‹¬fr=0›
      rw[hfr,Bool.true_or])
    ·have hb3:Below w.heap.size w w1:=⟨hal.2.1.trans hWl.os,htp.trans hWl.tape,hal.2.2.trans hWl.output,by rw[hal.1];exact hWl.size,fun b hb=>by rw[hal.1];exact hWl.block b hb⟩
     exact hb3.alloc (by rw[hal.1];exact hWl.size) _
   ·obtain⟨k,q,hkey,hval,hk128⟩:=f3 (mem_left he).1;rw[hkey,hval]at hrun
    have htp2:w2.tape=W.tape:=(D6 (P:=Tryz.prog) w1 w2 (w.heap.size+1) seen _ E _ hb1 f1.1 (by rw[hsz];exact hrun)).trans htp;have hnx:∀ty,(Instr.next (.pointer (some ⟨W.heap.size,0,none⟩)) false ty).run Tryz.prog (w1.alloc (.mapIter (some (w.heap.size+1)) 7 seen 7))=_:=fun _=>hrun;have hsz2:w2.heap.size=W.heap.size:=by rw[hal2.1,hal.1]
    have hb2:w2.heap[w.heap.size+1]?=some (.map E 7):=by rw[hal2.1];exact hb1
    have hen:=run_entry_map (P:=Tryz.prog) w2 (w.heap.size+1) 7 seen E 7 e hb2 (mem_left he).1 f1.2;rw[hsz2,hkey,hval]at hen
    have hlt:uS E.toList seen<128:=VD seen _ (fun x hx=>by obtain⟨k,_,h1,_,h2⟩:=f3 hx;rw[h1];simpa[valOf]using h2);have hpush:=Gv seen e (mem_left he).2 E.toList f1.2 (mem_left he).1;have hmeas:(leftOf E ((w2.alloc (Obj.mapIter (some (w.heap.size+1)) 7 (seen.push e.born) 7)).iterSeen W.heap.size)).size<(leftOf E ((w1.alloc (Obj.mapIter (some (w.heap.size+1)) 7 seen 7)).iterSeen W.heap.size)).size:=by rw[<-hsz2,World.iterSeen_alloc,hsz2,<-hsz,World.iterSeen_alloc];exact left_shrinks E seen e he
    rw[hkey,hval]at hpush
    have hor:=bits_or_u64_nat (uS E.toList seen) k (by omega) (by omega);cases q
    ·go_wp2
     refine⟨⟨w2,seen.push e.born,⟨hal2.1.trans hal.1,hal2.2.1.trans hal.2.1,hal2.2.2.trans hal.2.2⟩,htp2,rfl,?_⟩,hmeas⟩;rw[hpush];simp[WA]
    ·go_wp2
     refine⟨⟨w2,seen.push e.born,⟨hal2.1.trans hal.1,hal2.2.1.trans hal.2.1,hal2.2.2.trans hal.2.2⟩,htp2,rfl,?_⟩,hmeas⟩;rw[hpush]
     first
     | (rw[hor];simp[WA,valOf];done)
     | simp[WA,valOf]
 ·change Code.wp _ _ _ _ (((World.alloc w _).alloc (Obj.map (uE _ _ _ _ _ _ _) 7)).alloc _);generalize hE:uE _ _ _ _ _ _ _=E;have f1:=hE▸OX _ _ _ _ _ _ _;have f3:=fun {e:MapEntry}=>hE▸VB (e:=e) _ _ _ _ _ _ _
  have f4:=hE▸OY _ _ _ _ _ _ _;generalize hB:Obj.cells _ 60=B;generalize hW:((World.alloc w B).alloc (Obj.map E 7))=W;have hWs:w.heap.size+2=W.heap.size:=by rw[<-hW];symm;show((w.heap.push _).push _).size=_;rw[Array.size_push,Array.size_push]
  have hWb:W.heap[w.heap.size+1]?=some (.map E 7):=by
   rw[<-hW];have:=heap_alloc_new (World.alloc w B) (.map E 7);rw[show(World.alloc w B).heap.size=w.heap.size+1 from Array.size_push _]at this
   exact this
  have hWl:Below w.heap.size w W:=by rw[<-hW];exact((Below.refl _ _).alloc (Nat.le_refl _) _).alloc (by show _<=(w.heap.push _).size;rw[Array.size_push];omega) _
  rw[hWs]
  go_loopw [3] (fun s w'=>∃(w1:World) (seen:Array Nat),w1.Alike W/\w1.tape=W.tape/\w'=w1.alloc (.mapIter (some (w.heap.size+1)) 7 seen 7)/\s=.int .u64 ((uS E.toList seen:Nat):Int)) (fun _ w'=>(leftOf E (w'.iterSeen W.heap.size)).size)
  case atStart=>exact⟨W,#[],⟨rfl,rfl,rfl⟩,rfl,rfl,by rw[Gu];rfl⟩
  case round=>
   obtain⟨w1,seen,hal,htp,rfl,rfl⟩:=hrel;have hsz:w1.heap.size=W.heap.size:=by rw[hal.1]
   have hb1:w1.heap[w.heap.size+1]?=some (.map E 7):=by rw[hal.1];exact hWb
   have law:=run_next_map (P:=Tryz.prog) w1 0 (w.heap.size+1) 7 7 seen E 7 hb1 f1.1 (Nat.le_refl _);rw[hsz]at law
   rcases law with⟨h0,hrun⟩|⟨e,he,w2,hal2,hrun⟩
   ·have hnx:∀ty,(Instr.next (.pointer (some ⟨W.heap.size,0,none⟩)) false ty).run Tryz.prog (w1.alloc (.mapIter (some (w.heap.size+1)) 7 seen 7))=_:=fun _=>hrun
    go_wp2
    go_ret
    refine⟨?_,?_⟩
    ·show Ending.returned (Value.int .u64 ((uS E.toList seen:Nat):Int))=_;rw[f4 _ h0]
     first
     | (simp[*];done)
     | (
      have hfr:(fr != 0)=true:=by simpa using ‹¬fr=0›
      rw[hfr,Bool.true_or])
    ·have hb3:Below w.heap.size w w1:=⟨hal.2.1.trans hWl.os,htp.trans hWl.tape,hal.2.2.trans hWl.output,by rw[hal.1];exact hWl.size,fun b hb=>by rw[hal.1];exact hWl.block b hb⟩
     exact hb3.alloc (by rw[hal.1];exact hWl.size) _
   ·obtain⟨k,q,hkey,hval,hk128⟩:=f3 (mem_left he).1;rw[hkey,hval]at hrun
    have htp2:w2.tape=W.tape:=(D6 (P:=Tryz.prog) w1 w2 (w.heap.size+1) seen _ E _ hb1 f1.1 (by rw[hsz];exact hrun)).trans htp;have hnx:∀ty,(Instr.next (.pointer (some ⟨W.heap.size,0,none⟩)) false ty).run Tryz.prog (w1.alloc (.mapIter (some (w.heap.size+1)) 7 seen 7))=_:=fun _=>hrun;have hsz2:w2.heap.size=W.heap.size:=by rw[hal2.1,hal.1]
    have hb2:w2.heap[w.heap.size+1]?=some (.map E 7):=by rw[hal2.1];exact hb1
    have hen:=run_entry_map (P:=Tryz.prog) w2 (w.heap.size+1) 7 seen E 7 e hb2 (mem_left he).1 f1.2;rw[hsz2,hkey,hval]at hen
    have hlt:uS E.toList seen<128:=VD seen _ (fun x hx=>by obtain⟨k,_,h1,_,h2⟩:=f3 hx;rw[h1];simpa[valOf]using h2);have hpush:=Gv seen e (mem_left he).2 E.toList f1.2 (mem_left he).1;have hmeas:(leftOf E ((w2.alloc (Obj.mapIter (some (w.heap.size+1)) 7 (seen.push e.born) 7)).iterSeen W.heap.size)).size<(leftOf E ((w1.alloc (Obj.mapIter (some (w.heap.size+1)) 7 seen 7)).iterSeen W.heap.size)).size:=by rw[<-hsz2,World.iterSeen_alloc,hsz2,<-hsz,World.iterSeen_alloc];exact left_shrinks E seen e he
    rw[hkey,hval]at hpush
    have hor:=bits_or_u64_nat (uS E.toList seen) k (by omega) (by omega);cases q
    ·go_wp2
     refine⟨⟨w2,seen.push e.born,⟨hal2.1.trans hal.1,hal2.2.1.trans hal.2.1,hal2.2.2.trans hal.2.2⟩,htp2,rfl,?_⟩,hmeas⟩;rw[hpush];simp[WA]
    ·go_wp2
     refine⟨⟨w2,seen.push e.born,⟨hal2.1.trans hal.1,hal2.2.1.trans hal.2.1,hal2.2.2.trans hal.2.2⟩,htp2,rfl,?_⟩,hmeas⟩;rw[hpush]
     first
     | (rw[hor];simp[WA,valOf];done)
     | simp[WA,valOf]
theorem lH{C:Cx}{x:X}{v:Value}{n:Nat}(h:Bq x=some n)(hx:aZ C x v):∃b c,v=.slice b n c:=by
 cases hx<;>simp[Bq]at h<;>subst h
 all_goals first
  | exact⟨_,_,rfl⟩
  | skip
 rename_i hn _ _ _ _ _ _ _;exact⟨_,_,by rw[hn]⟩
theorem Q6{xs:List X}{r:X}(hr:Er xs=some r):lW Tryz.prog 263 xs r:=by
 unfold Er at hr;split at hr
 case h_2=>simp at hr
 rename_i k0 tb ki ro co ex cl ag ke fr ct kids;split at hr
 case h_2=>simp at hr
 rename_i a b c d e f g h l1 l2 l3 l4 l5 l6 l7 l8;split at hr
 case isFalse=>simp at hr
 rename_i hc;simp only[aW]at hr;subst hr;intro w sh vs hg hsh hl hv;obtain⟨v,rfl⟩:∃v,vs=#[v]:=by
  rcases vs with⟨l⟩
  rcases l with _|⟨v,_|⟨u,l⟩⟩<;>simp at hl
  exact⟨v,rfl⟩
 have h1:=hv 0 _ v rfl rfl;cases h1 with
 | agg hlen hone hrep=>
 rename_i us;obtain⟨u0,u1,u2,u3,u4,u5,u6,u7,u8,u9,u10,u11,rfl⟩:∃u0 u1 u2 u3 u4 u5 u6 u7 u8 u9 u10 u11,us=#[u0,u1,u2,u3,u4,u5,u6,u7,u8,u9,u10,u11]:=by
  rcases us with⟨l⟩
  simp at hlen
  match l,hlen with
  | [a0,a1,a2,a3,a4,a5,a6,a7,a8,a9,a10,a11],_=>exact⟨a0,a1,a2,a3,a4,a5,a6,a7,a8,a9,a10,a11,rfl⟩
 have r0:=hrep 0 _ u0 rfl rfl;have r1:=hrep 1 _ u1 rfl rfl;have r9:=hrep 9 _ u9 rfl rfl;have r10:=hrep 10 _ u10 rfl rfl;obtain⟨b2,c2,rfl⟩:=lH l1 (hrep 2 _ u2 rfl rfl);obtain⟨b3,c3,rfl⟩:=lH l2 (hrep 3 _ u3 rfl rfl);obtain⟨b4,c4,rfl⟩:=lH l3 (hrep 4 _ u4 rfl rfl);obtain⟨b5,c5,rfl⟩:=lH l4 (hrep 5 _ u5 rfl rfl);obtain⟨b6,c6,rfl⟩:=lH l5 (hrep 6 _ u6 rfl rfl);obtain⟨b7,c7,rfl⟩:=lH l6 (hrep 7 _ u7 rfl rfl);obtain⟨b8,c8,rfl⟩:=lH l7 (hrep 8 _ u8 rfl rfl);obtain⟨b9,c9,rfl⟩:=lH l8 (hrep 11 _ u11 rfl rfl);cases r0 with
 | v _=>
 cases r1 with
 | v _=>
 cases r9 with
 | v _=>
 cases r10 with
 | v _=>
 refine(Mt k0 tb fr ct b2 b3 b4 b5 b6 b7 b8 b9 a b c d e f g h c2 c3 c4 c5 c6 c7 c8 c9 hc.1 hc.2 w).mono ?_;rintro e' w' ⟨rfl,hb⟩;exact⟨_,fun _=>False,rfl,hb,fun _ h=>h.elim,.v rfl,rfl⟩
end Go.Proofs.YtbmkfjmlepjpfaaGreatDoor
