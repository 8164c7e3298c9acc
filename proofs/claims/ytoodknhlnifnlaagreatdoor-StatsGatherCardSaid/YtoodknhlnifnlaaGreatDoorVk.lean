/- The keywords, as the reference writes them. -/
import Derived.Test.YtoodknhlnifnlaaGreatDoorVa
set_option linter.all false
set_option linter.unusedVariables false
set_option linter.unusedSimpArgs false
set_option maxRecDepth 100000
namespace Go.Proofs.YtoodknhlnifnlaaGreatDoor
open Go.RowKit
/-- The keywords' text. -/
def kwB : List UInt8 := [32, 65, 76, 76, 32, 65, 78, 65, 76, 89, 90, 69, 32, 65, 78, 68, 32, 65, 83, 32, 65, 83, 67, 32, 65, 86, 71, 32, 66, 69, 84, 87, 69, 69, 78, 32, 66, 73, 71, 73, 78, 84, 32, 66, 79, 79, 76, 32, 66, 89, 32, 67, 65, 83, 69, 32, 67, 79, 65, 76, 69, 83, 67, 69, 32, 67, 79, 85, 78, 84, 32, 67, 82, 69, 65, 84, 69, 32, 67, 82, 79, 83, 83, 32, 68, 69, 76, 69, 84, 69, 32, 68, 69, 83, 67, 32, 68, 73, 83, 84, 73, 78, 67, 84, 32, 68, 82, 79, 80, 32, 69, 76, 83, 69, 32, 69, 78, 68, 32, 69, 88, 67, 69, 80, 84, 32, 69, 88, 73, 83, 84, 83, 32, 69, 88, 80, 76, 65, 73, 78, 32, 70, 65, 76, 83, 69, 32, 70, 79, 82, 69, 73, 71, 78, 32, 70, 82, 79, 77, 32, 70, 85, 76, 76, 32, 71, 82, 79, 85, 80, 32, 72, 65, 86, 73, 78, 71, 32, 73, 78, 32, 73, 78, 68, 69, 88, 32, 73, 78, 78, 69, 82, 32, 73, 78, 83, 69, 82, 84, 32, 73, 78, 84, 32, 73, 78, 84, 69, 82, 83, 69, 67, 84, 32, 73, 78, 84, 79, 32, 73, 83, 32, 74, 79, 73, 78, 32, 75, 69, 89, 32, 76, 69, 70, 84, 32, 76, 69, 78, 71, 84, 72, 32, 76, 73, 75, 69, 32, 76, 73, 77, 73, 84, 32, 77, 65, 88, 32, 77, 73, 78, 32, 78, 79, 84, 32, 78, 85, 76, 76, 32, 79, 70, 70, 83, 69, 84, 32, 79, 78, 32, 79, 82, 32, 79, 82, 68, 69, 82, 32, 79, 85, 84, 69, 82, 32, 82, 69, 70, 69, 82, 69, 78, 67, 69, 83, 32, 82, 73, 71, 72, 84, 32, 83, 69, 76, 69, 67, 84, 32, 83, 85, 77, 32, 84, 65, 66, 76, 69, 32, 84, 69, 88, 84, 32, 84, 72, 69, 78, 32, 84, 79, 32, 84, 82, 85, 69, 32, 85, 78, 73, 79, 78, 32, 86, 65, 76, 85, 69, 83, 32, 87, 72, 69, 78, 32, 87, 72, 69, 82, 69, 32]
/-- The word behind each blank. -/
def wordsAt : List (List UInt8) := (List.range 372).filterMap fun i => if kwB.getD i 0 = 32 ∧ i < 371 then some ((kwB.drop (i + 1)).takeWhile fun c => c != 32) else none
theorem wordsAt_kw : wordsAt = kwL := by decide +kernel
/-- A word stands in the text between blanks just if it is one of the words. -/
theorem kw_iff {l : List UInt8} (hl : l ≠ []) (hc : ∀ c ∈ l, c ≠ 32) : (∃ i, i + l.length + 2 ≤ 372 ∧ (kwB.drop i).take (l.length + 2) = 32 :: (l ++ [32])) ↔ (kwL.any fun x => x == l) = true := by
  rw [← wordsAt_kw]
  constructor
  · rintro ⟨i, hi, he⟩
    refine List.any_eq_true.2 ⟨l, ?_, by simp⟩
    have hk : kwB.length = 372 := by decide +kernel
    have hd : kwB.drop i = kwB.getD i 0 :: kwB.drop (i + 1) := by
      rw [List.drop_eq_getElem_cons (by omega)]
      congr 1
      simp [List.getD_eq_getElem?_getD, show i < kwB.length by omega]
    rw [hd, List.take_succ_cons] at he
    simp only [List.cons.injEq] at he
    have ht : (kwB.drop (i + 1)).takeWhile (fun c => c != 32) = l := by
      have h1 : kwB.drop (i + 1) = (l ++ [32]) ++ (kwB.drop (i + 1)).drop (l.length + 1) := by
        rw [← he.2, List.take_append_drop]
      rw [h1, List.append_assoc, List.takeWhile_append_of_pos (by intro c hcl; simpa using hc c hcl)]
      simp
    refine List.mem_filterMap.2 ⟨i, List.mem_range.2 (by omega), ?_⟩
    rw [if_pos ⟨he.1, by omega⟩, ht]
  · intro h
    obtain ⟨x, hx, he⟩ := List.any_eq_true.1 h
    have hxl : x = l := by simpa using he
    subst hxl
    have key : ∀ x ∈ wordsAt, ∃ i, i < 372 ∧ i + x.length + 2 ≤ 372 ∧ (kwB.drop i).take (x.length + 2) = 32 :: (x ++ [32]) := by decide +kernel
    obtain ⟨i, _, h1, h2⟩ := key x hx
    exact ⟨i, h1, h2⟩
def kwT : ByteArray := ⟨kwB.toArray⟩
abbrev r11k : List GOp := [⟨some 31, none, .mov (.t 4)⟩, ⟨some 32, none, .mov (.t 4)⟩, ⟨some 33, none, .mov (.t 0)⟩, ⟨some 34, none, .lens (.t 33)⟩, ⟨some 35, none, .bin .add (.t 32) (.t 34)⟩, ⟨some 36, none, .bin .add (.t 35) (.k (.v (.int .i64 2)))⟩,
  ⟨some 37, none, .sls (.k (.v (.string kwT))) (some (.t 31)) (some (.t 36))⟩, ⟨some 38, none, .mov (.t 0)⟩, ⟨some 39, none, .bin .add (.k (.v (.string ⟨#[32]⟩))) (.t 38)⟩, ⟨some 40, none, .bin .add (.t 39) (.k (.v (.string ⟨#[32]⟩)))⟩, ⟨some 41, none, .bin .eql (.t 37) (.t 40)⟩]
theorem r11_eq : jointerref02_IsKeyword_r11 = r11k := rfl
theorem ba_append (a b : ByteArray) : (a ++ b).toList = a.toList ++ b.toList := by rw [ba_toList, ba_toList, ba_toList]; simp
theorem ba_extract (b : ByteArray) (i j : Nat) : (b.extract i j).toList = (b.toList.drop i).take (j - i) := by
  rw [ba_toList, ba_toList]; simp [List.take_drop]
theorem kw_caps : kwL.all (fun x => !x.isEmpty && x.all fun c => decide (65 ≤ c.toNat) && decide (c.toNat ≤ 90)) = true := by decide +kernel
abbrev l2k : IC := .seq (.seq (.ops jointerref02_IsKeyword_r9) (.cond (.t 28) (.skip) (.exit 2))) (.seq (.block 3 (.seq (.ops r11k) (.cond (.t 41) (.seq (.ops jointerref02_IsKeyword_r12) (.ret)) (.skip)))) (.ops jointerref02_IsKeyword_r10))
theorem l2_eq : jointerref02_IsKeyword_l2 = l2k := rfl
theorem kwT_size : kwT.size = 372 := by decide +kernel
end Go.Proofs.YtoodknhlnifnlaaGreatDoor
