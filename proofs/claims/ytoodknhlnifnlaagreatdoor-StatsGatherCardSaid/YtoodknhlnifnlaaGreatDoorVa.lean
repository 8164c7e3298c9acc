/- Names: what lex.IsName says of a text. -/
import Derived.Test.YtoodknhlnifnlaaGreatDoorCb
set_option linter.all false
set_option linter.unusedVariables false
set_option linter.unusedSimpArgs false
set_option maxRecDepth 100000
namespace Go.Proofs.YtoodknhlnifnlaaGreatDoor
open Go.RowKit
theorem ba_len (b : ByteArray) : b.data.toList.length = b.size := by rw [Array.length_toList]; rfl
theorem ba_bang (b : ByteArray) (i : Nat) (h : i < b.data.toList.length) : b.get! i = b.data.toList[i] := by
  have h' : i < b.data.size := by rw [ba_len] at h; exact h
  cases b with | mk d =>
  show d[i]! = _
  rw [getElem!_pos d i h']; rfl
theorem ba_loop (b : ByteArray) : ∀ (n i : Nat) (r : List UInt8), b.size - i = n → ByteArray.toList.loop b i r = r.reverse ++ b.data.toList.drop i := by
  intro n
  induction n with
  | zero =>
    intro i r h
    unfold ByteArray.toList.loop
    rw [if_neg (by omega)]
    rw [List.drop_eq_nil_of_le (by rw [ba_len]; omega)]; simp
  | succ n ih =>
    intro i r h
    unfold ByteArray.toList.loop
    have hi : i < b.size := by omega
    rw [if_pos hi, ih (i+1) _ (by omega)]
    have hd : i < b.data.toList.length := by rw [ba_len]; exact hi
    rw [List.drop_eq_getElem_cons hd, ba_bang b i hd]; simp
theorem ba_toList (b : ByteArray) : b.toList = b.data.toList := by
  unfold ByteArray.toList; rw [ba_loop b _ 0 [] rfl]; simp
theorem ba_size (b : ByteArray) : b.toList.length = b.size := by rw [ba_toList]; exact ba_len b
theorem ba_get (b : ByteArray) (i : Nat) (h : i < b.size) : b[i]? = some (b.toList[i]'(by rw [ba_size]; exact h)) := by
  rw [getElem?_pos b i h]; simp only [ba_toList]; rfl
theorem ba_mk (l : List UInt8) : (⟨l.toArray⟩ : ByteArray).toList = l := by rw [ba_toList]
theorem ba_ext {a b : ByteArray} (h : a.toList = b.toList) : a = b := by
  rw [ba_toList, ba_toList] at h
  cases a; cases b; congr; exact Array.toList_inj.1 h
/-- The class of a byte. -/
def clsN (c : Nat) : Int := if c = 32 ∨ c = 9 ∨ c = 10 ∨ c = 13 then 1 else if c = 95 then 2 else if c = 39 then 4 else if (97 ≤ c ∧ c ≤ 122) ∨ (65 ≤ c ∧ c ≤ 90) then 2 else if 48 ≤ c ∧ c ≤ 57 then 3 else 0
theorem class_runs : (List.range 256).map (fun c => callA (runN T 300) T n_lex_class [.v (.int .u8 ((c : Nat) : Int))]) = (List.range 256).map (fun c => some (i6 (clsN c))) := by kernel_rfl
theorem c_lex_class (c : Nat) (h : c < 256) : call T n_lex_class [.v (.int .u8 (c : Int))] = some (i6 (clsN c)) := by
  refine callA_run.2 ⟨300, ?_⟩
  have := congrArg (fun l => l[c]?) class_runs
  simpa [h] using this
/-- Letters and digits. -/
def letU (c : UInt8) : Bool := decide (clsN c.toNat = 2)
def wordU (c : UInt8) : Bool := decide (clsN c.toNat = 2) || decide (clsN c.toNat = 3)
theorem wordU_ascii {c : UInt8} (h : wordU c = true) : c.toNat < 128 := by
  have : ∀ n, n < 256 → (clsN n = 2 ∨ clsN n = 3) → n < 128 := by decide +kernel
  simp only [wordU, Bool.or_eq_true, decide_eq_true_eq] at h
  exact this _ c.toNat_lt h
def restU (l : List UInt8) : Bool := (l == Lib.toLowerA l) && !(kwL.any fun x => x == Lib.toUpperA l)
/-- A name. -/
def nameB (s : ByteArray) : Bool := !s.toList.isEmpty && (decide (s.toList.length ≤ 20) && (s.toList.head?.any letU && (s.toList.all wordU && restU s.toList)))
theorem ascii_of {s : ByteArray} (h : s.toList.all wordU = true) (hl : s.toList.length ≤ 20) : asciiB s = true := by
  simp only [asciiB, Bool.and_eq_true, decide_eq_true_eq, List.all_eq_true]
  rw [ba_size] at hl
  refine ⟨fun c hc => wordU_ascii (List.all_eq_true.1 h c (by rw [ba_toList]; exact hc)), by omega⟩
theorem c_lower {s : ByteArray} (h : asciiB s = true) : call T n_strings_ToLower [.v (.string s)] = some (.v (.string ⟨(Lib.toLowerA s.toList).toArray⟩)) := by
  rw [ba_toList]
  have hT : T n_strings_ToLower = some (.ext loF) := by kernel_rfl
  simp only [call, callA, hT, loF, h, if_true]
theorem c_upper {s : ByteArray} (h : asciiB s = true) : call T n_strings_ToUpper [.v (.string s)] = some (.v (.string ⟨(Lib.toUpperA s.toList).toArray⟩)) := by
  rw [ba_toList]
  have hT : T n_strings_ToUpper = some (.ext upF) := by kernel_rfl
  simp only [call, callA, hT, upF, h, if_true]
theorem c_lex_IsKeyword (s : ByteArray) : call T n_lex_IsKeyword [.v (.string s)] = some (.v (.bool (kwL.any fun x => x == s.toList))) := by
  have hT : T n_lex_IsKeyword = some (.ext kwF) := by kernel_rfl
  simp only [call, callA, hT, kwF]
set_option maxHeartbeats 1000000 in
theorem c_lex_IsName (s : ByteArray) (hs : s.size ≤ 9223372036854775807) : call T n_lex_IsName [.v (.string s)] = some (.v (.bool (nameB s))) := by
  refine go_lex_IsName (by simp) ?_
  generalize hR : nameB s = R; replace hR := Hd.mk hR
  have hsz := ba_size s
  simp [toList_eq]
  refine wpG_split (fun h0 => ?_) (fun h0 => ?_) <;> (try simp [*])
  · rw [← hR.out]; simp [nameB, h0]
  refine wpG_split (fun h1 => ?_) (fun h1 => ?_) <;> (have h1' := h1; try simp at h1') <;> (try simp [*])
  · rw [← hR.out]; simp [nameB, show ¬ s.toList.length ≤ 20 by omega]
  have hpos : 0 < s.toList.length := by
    cases hl : s.toList with
    | nil => rw [hl] at h0; simp at h0
    | cons x l => simp
  have hg0 := ba_get s 0 (by omega)
  have hc0 := c_lex_class s.toList[0].toNat s.toList[0].toNat_lt
  simp [hg0, hc0]
  have hh : s.toList.head? = some s.toList[0] := by rw [List.head?_eq_getElem?, List.getElem?_eq_getElem hpos]
  refine wpC_split (fun h2 => ?_) (fun h2 => ?_) <;> (have h2' := h2; try simp at h2') <;> (try simp [*])
  · rw [← hR.out]; simp [nameB, hh, letU, h2']
  replace hR : Hd (R = ((s.toList.drop 0).all wordU && restU s.toList)) := ⟨by rw [← hR.out]; simp [nameB, hh, letU, h2', h0, show s.toList.length ≤ 20 by omega]⟩
  clear hg0 hc0 hh
  refine wp_rounds (σ := Nat) (fun i e s' => e 0 = .v (.string s) ∧ e 19 = i6 s.size ∧ e 20 = i6 i ∧ i ≤ s.size ∧ Hd (R = ((s.toList.drop i).all wordU && restU s.toList)) ∧ Hd (∀ j (h : j < s.toList.length), j < i → wordU s.toList[j] = true)) (fun i => s.size - i) ?_ 0 _ _ ⟨rfl, by simp, by simp, by omega, hR, ⟨fun j h h' => by omega⟩⟩
  clear hR
  rintro i e s' ⟨e0, e19, e20, hi, hA, hB⟩ ih
  simp [e0, e19, e20]
  refine wpC_split (fun h => ?_) (fun h => ?_) <;> (have h' := h; try simp at h') <;> (try simp [*])
  · have hil : i < s.toList.length := by omega
    have hg : s[i] = s.toList[i] := by simp only [ba_toList]; rfl
    have hc := c_lex_class s.toList[i].toNat s.toList[i].toNat_lt
    replace hA := Hd.mk (hA.out.trans (by rw [all_drop hil]))
    have hw : Hd (wordU s.toList[i] = (decide (clsN s.toList[i].toNat = 2) || decide (clsN s.toList[i].toNat = 3))) := ⟨rfl⟩
    have next : wordU s.toList[i] = true → ∀ e' s'', e' 0 = .v (.string s) → e' 19 = i6 s.size → e' 20 = i6 ((i + 1 : Nat) : Int) → wp T [.lp lex_IsName_l1, .bl 0, .code ((IC.ops lex_IsName_r10).seq IC.ret)] e' s'' (fun e s => dpC s (e 2) = some (.v (.bool R))) := by
      intro hc e' s'' x0 x1 x2
      refine ih.out (i + 1) _ _ ⟨x0, x1, x2, h', ⟨by rw [hA.out, hc]; simp⟩, ⟨fun j h hj => ?_⟩⟩ (by omega)
      rcases Nat.lt_or_eq_of_le (Nat.le_of_lt_succ hj) with h4 | h4
      · exact hB.out j h h4
      · subst h4; exact hc
    replace next := Hd.mk next
    generalize clsN s.toList[i].toNat = C at *
    simp [hg, hc, e0, e19, e20]
    refine wpG_split (fun b1 => ?_) (fun b1 => ?_) <;> (have b1' := b1; try simp at b1') <;> (try simp [*])
    · refine wpC_split (fun b2 => ?_) (fun b2 => ?_) <;> (have b2' := b2; try simp at b2') <;> (try simp [*])
      · rw [hA.out, hw.out]; simp [b1', b2']
      · exact next.out (by rw [hw.out]; simp [b2']) _ _ (by simp [e0]) (by simp [e19]) (by simp [wrap_succ h' hs])
    · exact next.out (by rw [hw.out]; simp [b1']) _ _ (by simp [e0]) (by simp [e19]) (by simp [wrap_succ h' hs])
  · have hall : s.toList.all wordU = true := List.all_eq_true.2 fun c hc => by
      obtain ⟨j, hj, rfl⟩ := List.getElem_of_mem hc
      exact hB.out j hj (by omega)
    have ha := ascii_of hall (by omega)
    have h1 := c_lower ha
    have h2 := c_upper ha
    have h3 := c_lex_IsKeyword ⟨(Lib.toUpperA s.toList).toArray⟩
    rw [ba_mk (Lib.toUpperA s.toList)] at h3
    replace hA : Hd (R = restU s.toList) := ⟨by rw [hA.out, List.drop_eq_nil_of_le (by omega)]; rfl⟩
    simp [h1, ba_mk]
    refine wpG_split (fun q => ?_) (fun q => ?_) <;> (try simp [*])
    · simp [h2, h3, hA.out, restU, q]
    · simp [hA.out, restU, q]
end Go.Proofs.YtoodknhlnifnlaaGreatDoor
