/- Tight and default descriptions: plain facts. -/
import Derived.Test.YtoodknhlnifnlaaGreatDoorHi
import Derived.Test.YtoodknhlnifnlaaGreatDoorHp
set_option linter.all false
set_option linter.unusedVariables false
set_option linter.unusedSimpArgs false
namespace Go.Proofs.YtoodknhlnifnlaaGreatDoor
open Go.RowKit
theorem tight_okC {a : ColD} {c : Col} (h : cok c) (ha : a.in64) : cok (tightC a c) := by
  obtain ⟨h1, h2, h3, ⟨h4, h5⟩, h6, h7⟩ := h
  obtain ⟨⟨a1, a2⟩, a3, a4⟩ := ha
  refine ⟨?_, ?_, h3, ⟨?_, ?_⟩, ?_, ?_⟩ <;> simp only [tightC] <;> split <;> omega
theorem key_okC {cols : List Col} (h : ∀ c ∈ cols, cok c) (key : List Int) : ∀ c ∈ keyC cols key, cok c := by
  unfold keyC
  split
  · intro c hc
    obtain ⟨i, hi, rfl⟩ := List.getElem_of_mem hc
    rw [List.getElem_modify]
    rw [List.length_modify] at hi
    have hb := h _ (List.getElem_mem hi)
    split
    · obtain ⟨h1, h2, h3, h4⟩ := hb
      refine ⟨h1, h2, ?_, h4⟩
      show 0 ≤ min cols[i].degree 1
      omega
    · exact hb
  · exact h
theorem keys_okC : ∀ (keys : List (List Int)) {cols : List Col}, (∀ c ∈ cols, cok c) → ∀ c ∈ keys.foldl keyC cols, cok c
  | [], _, h => h
  | k :: keys, _, h => keys_okC keys (key_okC h k)
theorem tightU_len (t : TabD) (d : TS) (h : d.cols.length = t.cols.length) : (tightU t d).cols.length = t.cols.length := by
  show (t.keys.foldl keyC (List.zipWith tightC t.cols d.cols)).length = _
  rw [keysC_len, List.length_zipWith]; omega
theorem tightU_ok {t : TabD} {d : TS} (hld : d.cols.length = t.cols.length) (hd : ∀ c ∈ d.cols, cok c) (hr : 0 ≤ d.rows) (h6 : ∀ c ∈ t.cols, c.in64) : okT (kindsT t) (tightU t d) := by
  refine ⟨by rw [tightU_len t d hld]; simp, by show 0 ≤ min d.rows 1000; omega, keys_okC _ ?_⟩
  intro c hc
  obtain ⟨i, hi, rfl⟩ := List.getElem_of_mem hc
  rw [List.getElem_zipWith]
  rw [List.length_zipWith] at hi
  exact tight_okC (hd _ (List.getElem_mem (by omega))) (h6 _ (List.getElem_mem (by omega)))
noncomputable def tightR (s : List TabD) (st : List TS) : List TS := if checkE s st = 0 then List.zipWith tightT s st else []
@[simp] theorem okE_ts' (f : Bool) (l : List TS) : okE 3 (l.map (TS.enc f)) = true := by simp [okE]
def defC (a : ColD) : Col := ⟨1000, 1000, 1000, if a.kind = 1 then -9223372036854775808 else 0, if a.kind = 1 then 9223372036854775807 else 0⟩
def defD (t : TabD) : TS := ⟨0, 1000, t.cols.map defC⟩
open Classical in
noncomputable def defR (s : List TabD) : List TS := if SchemeOK s then s.map (fun t => tightT t (defD t)) else []
open Classical in
noncomputable def defE (s : List TabD) : Int := if SchemeOK s then 0 else 1
theorem defC_ok (a : ColD) : cok (defC a) := by
  refine ⟨by simp [defC], by simp [defC], by simp [defC], ⟨?_, ?_⟩, ?_, ?_⟩ <;> simp only [defC] <;> split <;> omega
theorem kindsT_ok {t : TabD} (h : ∀ c ∈ t.cols, ColOK c) : kindsB (kindsT t) = true := by
  simp only [kindsB, kindsT, List.all_eq_true, List.mem_map, decide_eq_true_eq]
  rintro k ⟨c, hc, rfl⟩
  have := (h c hc).2
  omega
theorem defD_fits {t : TabD} (hc : ∀ c ∈ t.cols, ColOK c) : fitsB (kindsT t) (defD t) = true := by
  rw [fitsB_iff]
  refine ⟨kindsT_ok hc, by simp [defD], by simp [defD, numB], by simp [defD, numB], fun i h h' => ?_⟩
  have hi : i < t.cols.length := by simpa using h
  have hk : (kindsT t)[i] = t.cols[i].kind := by simp [kindsT]
  have hd : (defD t).cols[i] = defC t.cols[i] := by simp [defD]
  rw [hk, hd, colB_iff]
  refine ⟨by simp [defC], by simp [defC], by simp [defC], ?_⟩
  by_cases hk1 : t.cols[i].kind = 1
  · exact .inl hk1
  · exact .inr (by simp [defC, hk1])
end Go.Proofs.YtoodknhlnifnlaaGreatDoor
