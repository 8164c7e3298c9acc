/- jointerref02.folded, which turns a text into bytes and back: walked by the kit's laws. -/
import Derived.WalkKit
import Derived.OwnWalkIn
import Derived.TacticsInMore
import Derived.LoopNIn
import Derived.LoopIn
import Derived.WalkSpells
import Derived.Laws.IdiomStrings
import Derived.Lib.Case
import Derived.WideShapes
import Derived.Test.YtoodknhlnifnlaaGreatDoorGl
import Derived.Test.YtoodknhlnifnlaaGreatDoorProg
set_option linter.all false
set_option linter.unusedVariables false
set_option linter.unusedSimpArgs false
namespace Go.Proofs.YtoodknhlnifnlaaGreatDoor
open Go.RowKit
/-- The bytes behind some rounds. -/
def upAt (l : List UInt8) (k j : Nat) : UInt8 := if j < k then Lib.upperB (l.getD j 0) else l.getD j 0
structure Folding (w : World) (s : ByteArray) (k : Nat) (W : World) : Prop where
  below : Below w.heap.size w W
  cell : ∀ j, j < s.size → W.cell? ⟨w.heap.size, j, none⟩ = some (.int .u8 ((upAt s.data.toList k j).toNat : Int))
  froz : ∀ j, j < s.size → W.frozen? ⟨w.heap.size, j, none⟩ = false
theorem Folding.start (w : World) (s : ByteArray) (cap : Nat) (t : TypeId) : Folding w s 0 (w.drew.alloc (.cells (bytesRow s cap) t ((bytesRow s cap).size, (bytesRow s cap).size + 1))) := by
  have hsz : s.size ≤ (bytesRow s cap).size := by simp [bytesRow]
  refine ⟨(Below.refl _ _).drew.alloc (Nat.le_refl _) _, fun j hj => ?_, fun j hj => ?_⟩
  · have e : w.heap.size = w.drew.heap.size := rfl
    rw [e, World.cell?_alloc_mark, bytesRow_at s cap j hj]
    simp [upAt]
    rw [Array.getElem?_eq_getElem hj]; rfl
  · have e : w.heap.size = w.drew.heap.size := rfl
    rw [e, World.frozen?_alloc_mark]
    simp; omega
theorem upAt_ne (l : List UInt8) {k j : Nat} (h : ¬ j = k) : upAt l (k + 1) j = upAt l k j := by
  unfold upAt
  by_cases h1 : j < k
  · rw [if_pos h1, if_pos (by omega)]
  · rw [if_neg h1, if_neg (by omega)]
theorem upAt_eq (l : List UInt8) (k : Nat) : upAt l (k + 1) k = Lib.upperB (upAt l k k) := by
  unfold upAt
  rw [if_pos (by omega), if_neg (by omega)]
theorem upperB_lo {c : UInt8} (h : (97 : Int) ≤ (c.toNat : Int)) (h' : (c.toNat : Int) ≤ 122) : ((Lib.upperB c).toNat : Int) = (c.toNat : Int) - 32 := by
  have key : ∀ n : Nat, n < 256 → 97 ≤ n → n ≤ 122 → (Lib.upperB (UInt8.ofNat n)).toNat = n - 32 := by decide +kernel
  have := key c.toNat c.toNat_lt (by omega) (by omega)
  rw [UInt8.ofNat_toNat] at this
  omega
theorem upperB_no {c : UInt8} (h : ¬ ((97 : Int) ≤ (c.toNat : Int) ∧ (c.toNat : Int) ≤ 122)) : Lib.upperB c = c := by
  have key : ∀ n : Nat, n < 256 → ¬ (97 ≤ n ∧ n ≤ 122) → Lib.upperB (UInt8.ofNat n) = UInt8.ofNat n := by decide +kernel
  have := key c.toNat c.toNat_lt (by omega)
  rwa [UInt8.ofNat_toNat] at this
theorem Folding.set {w W : World} {s : ByteArray} {k : Nat} (h : Folding w s k W) (hk : k < s.size) (h1 : (97 : Int) ≤ ((upAt s.data.toList k k).toNat : Int)) (h2 : ((upAt s.data.toList k k).toNat : Int) ≤ 122) :
    Folding w s (k + 1) (W.setCell ⟨w.heap.size, k, none⟩ (.int .u8 (((upAt s.data.toList k k).toNat : Int) - 32))) := by
  refine ⟨h.below.setCell (Nat.le_refl _) _, fun j hj => ?_, fun j hj => by rw [World.frozen?_setCell]; exact h.froz j hj⟩
  by_cases hjk : j = k
  · subst hjk
    rw [World.cell?_setCell_same _ _ _ (h.cell j hj), upAt_eq, upperB_lo h1 h2]
  · rw [World.cell?_setCell_other _ _ _ _ (by simp <;> omega), upAt_ne _ hjk]
    exact h.cell j hj
theorem Folding.same {w W : World} {s : ByteArray} {k : Nat} (h : Folding w s k W) (h1 : ¬ ((97 : Int) ≤ ((upAt s.data.toList k k).toNat : Int) ∧ ((upAt s.data.toList k k).toNat : Int) ≤ 122)) : Folding w s (k + 1) W := by
  refine ⟨h.below, fun j hj => ?_, h.froz⟩
  by_cases hjk : j = k
  · subst hjk
    rw [upAt_eq, upperB_no h1]; exact h.cell j hj
  · rw [upAt_ne _ hjk]; exact h.cell j hj
set_option maxRecDepth 100000 in
set_option maxHeartbeats 2000000 in
theorem fo_in (F : Fence) (n : Nat) (h6 : F.fn 116) (hro : F.round = none) (s : ByteArray) (hsz : s.size ≤ 1000) (w : World) :
    CallsIn F n Tryz.prog 116 #[.string s, .bool true] w fun e W' => e = .returned (.string ⟨(Lib.toUpperA s.data.toList).toArray⟩) ∧ Below w.heap.size w W' := by
  have hconv := run_bytes_of_string (P := Tryz.prog) w 9 148 5 s Tryz.underlying9 Tryz.underlying148 Tryz.underlying5
  refine callsIn_of_wp Tryz.func116 rfl h6 ?_ hro
  simp only [Tryz.ntmps116, List.size_toArray, List.length_cons, List.length_nil, Nat.reduceAdd, Nat.reduceSub, Array.replicate_succ, Array.replicate_zero, List.push_toArray, List.append_toArray, List.nil_append, List.cons_append]
  gi_wp2
  gi_loopw [6] (fun i wr => ∃ (k : Nat), i = .int .i64 k ∧ k ≤ s.size ∧ Folding w s k wr) (fun i _ => s.size - (intOf i).toNat)
  case atStart => exact ⟨0, rfl, Nat.zero_le _, Folding.start w s _ 5⟩
  case round =>
    obtain ⟨k, rfl, hk, hW⟩ := hrel
    by_cases hlt : k < s.size
    · have hcell := hW.cell k hlt
      have hfr := hW.froz k hlt
      gi_wp2
      · rename_i h1 h2
        exact ⟨⟨k + 1, by simp, hlt, hW.set hlt h1 h2⟩, by simp [intOf]; omega⟩
      · rename_i h1 h2
        exact ⟨⟨k + 1, by simp, hlt, hW.same (by omega)⟩, by simp [intOf]; omega⟩
      · rename_i h1
        exact ⟨⟨k + 1, by simp, hlt, hW.same (by omega)⟩, by simp [intOf]; omega⟩
    · have hks : k = s.size := by omega
      subst hks
      have hlen : (Lib.toUpperA s.data.toList).length = s.size := by simp [Lib.toUpperA] <;> rfl
      have hback := run_convert_bytes_back (P := Tryz.prog) wr 148 9 5 ⟨w.heap.size, 0, none⟩ (grownCap w s.size 0 5) (Lib.toUpperA s.data.toList) Tryz.underlying148 Tryz.underlying5 Tryz.underlying9 (fun j hj => by
        have hjs : j < s.size := by omega
        have := hW.cell j hjs
        have e : upAt s.data.toList s.size j = (Lib.toUpperA s.data.toList)[j] := by
          unfold upAt; rw [if_pos hjs]
          have : j < s.data.toList.length := by simpa [Lib.toUpperA] using hj
          rw [List.getD_eq_getElem?_getD, List.getElem?_eq_getElem this]
          simp [Lib.toUpperA]
        rw [e] at this
        rw [Go.WideShapes.add_plain]; simpa using this)
      rw [hlen] at hback
      have hB := hW.below
      gi_wp2
      go_ret
      exact ⟨rfl, hB⟩
theorem fo_calls (s : ByteArray) (hsz : s.size ≤ 1000) (w : World) : Calls Tryz.prog 116 #[.string s, .bool true] w fun e W' => e = .returned (.string ⟨(Lib.toUpperA s.data.toList).toArray⟩) ∧ Below w.heap.size w W' :=
  (callsIn_wide (n := 1)).1 (fo_in _ 1 trivial rfl s hsz w)
end Go.Proofs.YtoodknhlnifnlaaGreatDoor
