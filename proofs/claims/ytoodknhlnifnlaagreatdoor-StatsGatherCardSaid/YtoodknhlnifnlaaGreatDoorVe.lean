/- The reference's schemes and data: contracts. -/
import Derived.Test.YtoodknhlnifnlaaGreatDoorVb
import Derived.Test.YtoodknhlnifnlaaGreatDoorVk
set_option linter.all false
set_option linter.unusedVariables false
set_option linter.unusedSimpArgs false
set_option maxRecDepth 100000
namespace Go.Proofs.YtoodknhlnifnlaaGreatDoor
open Go.RowKit
theorem folded_eq (s : ByteArray) (h : s.size ≤ 1000) : call T n_jointerref02_folded [.v (.string s), .v (.bool true)] = some (.v (.string ⟨(Lib.toUpperA s.toList).toArray⟩)) := by
  rw [ba_toList]
  have hT : T n_jointerref02_folded = some (.ext foF) := by kernel_rfl
  simp only [call, callA, hT, foF, h, if_true]
theorem c_isDigit (c : Int) : call T n_jointerref02_isDigit [.v (.int .u8 c)] = some (.v (.bool (decide (48 ≤ c) && decide (c ≤ 57)))) := by
  refine go_jointerref02_isDigit (by simp) ?_
  simp
  repeat' ((first | refine wpC_split (fun h => ?_) (fun h => ?_) | refine wpG_split (fun h => ?_) (fun h => ?_)) <;> (have h' := h; try simp at h') <;> (try simp [*]))
theorem c_isLetter (c : Int) : call T n_jointerref02_isLetter [.v (.int .u8 c)] = some (.v (.bool ((decide (97 ≤ c) && decide (c ≤ 122)) || ((decide (65 ≤ c) && decide (c ≤ 90)) || decide (c = 95))))) := by
  refine go_jointerref02_isLetter (by simp) ?_
  simp
  repeat' ((first | refine wpC_split (fun h => ?_) (fun h => ?_) | refine wpG_split (fun h => ?_) (fun h => ?_)) <;> (have h' := h; try simp at h') <;> (try simp [*]))
  all_goals (simp_all <;> omega)
theorem binR_cat {s : Sto} (a b : ByteArray) (h : a.size + b.size ≤ 9223372036854775807) : binR .add (.v (.string a)) (.v (.string b)) s = some (.v (.string (a ++ b)), s) := by
  have : ¬ ((a.size + b.size : Nat) : Int) > IntKind.i64.max := by
    have : IntKind.i64.max = 9223372036854775807 := by kernel_rfl
    omega
  simp only [binR, binV, if_neg this]
set_option maxHeartbeats 2000000 in
theorem c_ref02_IsKeyword (s : ByteArray) (hs : s.size ≤ 1000) : call T n_jointerref02_IsKeyword [.v (.string s)] = some (.v (.bool (kwL.any fun x => x == s.toList))) := by
  refine go_jointerref02_IsKeyword (by simp) ?_
  have hsz := ba_size s
  have hcap : (kwL.any fun x => x == s.toList) = true → s.toList ≠ [] ∧ ∀ c ∈ s.toList, 65 ≤ c.toNat ∧ c.toNat ≤ 90 := by
    intro h
    obtain ⟨x, hx, he⟩ := List.any_eq_true.1 h
    have := List.all_eq_true.1 kw_caps x hx
    have hxl : x = s.toList := by simpa using he
    subst hxl
    simp only [Bool.and_eq_true, List.all_eq_true, decide_eq_true_eq] at this
    exact ⟨fun h0 => by rw [h0] at this; simp at this, this.2⟩
  have hkw := fun (h1 : s.toList ≠ []) (h2 : ∀ c ∈ s.toList, c ≠ 32) => kw_iff h1 h2
  generalize hR : (kwL.any fun x => x == s.toList) = R at *
  replace hcap := Hd.mk hcap
  replace hkw := Hd.mk hkw
  clear hR
  simp [toList_eq]
  refine wpC_split (fun a0 => ?_) (fun a0 => ?_) <;> (have a0' := a0; try simp at a0') <;> (try simp [*])
  · cases R
    · rfl
    · exact absurd (by simpa using a0') (hcap.out rfl).1
  have hne : s.toList ≠ [] := by simpa using a0'
  refine wp_rounds (σ := Nat) (fun i e w => e 0 = .v (.string s) ∧ e 3 = i6 i ∧ i ≤ s.size ∧ Hd (∀ (j : Nat) (h : j < s.toList.length), j < i → 65 ≤ s.toList[j].toNat ∧ s.toList[j].toNat ≤ 90)) (fun i => s.size - i) ?_ 0 _ _
    ⟨by simp, by simp, by omega, ⟨fun j h h' => by omega⟩⟩
  rintro i e w ⟨e0, e3, hi, hA⟩ ih
  simp [e0, e3]
  refine wpC_split (fun q => ?_) (fun q => ?_) <;> (have q' := q; try simp at q') <;> (try simp [*])
  · have hil : i < s.toList.length := by omega
    have hg : s[i] = s.toList[i] := by simp only [ba_toList]; rfl
    have bad : ¬ (65 ≤ s.toList[i].toNat ∧ s.toList[i].toNat ≤ 90) → R = false := fun h => by
      cases R
      · rfl
      · exact absurd ((hcap.out rfl).2 _ (List.getElem_mem hil)) h
    replace bad := Hd.mk bad
    simp [hg, q', e0, e3]
    refine wpG_split (fun b1 => ?_) (fun b1 => ?_) <;> (have b1' := b1; try simp at b1') <;> (try simp [*])
    · exact bad.out (by omega)
    refine wpC_split (fun b2 => ?_) (fun b2 => ?_) <;> (have b2' := b2; try simp at b2') <;> (try simp [*])
    · exact bad.out (by omega)
    · refine ih.out (i + 1) _ _ ?_ (by omega)
      refine ⟨by simp [e0], by simp [e3, wrap_succ q' (by omega : s.size ≤ 9223372036854775807)], q', ⟨fun j h hj => ?_⟩⟩
      rcases Nat.lt_or_eq_of_le (Nat.le_of_lt_succ hj) with h4 | h4
      · exact hA.out j h h4
      · subst h4; omega
  · have hall : ∀ c ∈ s.toList, c ≠ 32 := fun c hc => by
      obtain ⟨j, hj, rfl⟩ := List.getElem_of_mem hc
      have := (hA.out j hj (by omega)).1
      intro h; rw [h] at this; simp at this
    have hiff := Hd.mk (hkw.out hne hall)
    clear hA ih hkw hcap
    have hpos : 0 < s.size := by
      rw [← hsz]; cases hl : s.toList with
      | nil => exact absurd hl hne
      | cons x l => simp
    rw [l2_eq]
    refine wp_rounds (σ := Nat) (fun i e w => e 0 = .v (.string s) ∧ e 4 = i6 i ∧ i ≤ 372 ∧ Hd (∀ (j : Nat), j + s.toList.length + 2 ≤ 372 → j < i → ¬ (kwB.drop j).take (s.toList.length + 2) = 32 :: (s.toList ++ [32]))) (fun i => 372 - i) ?_ 0 _ _
      ⟨by simp [e0], by simp, by omega, ⟨fun j h h' => by omega⟩⟩
    clear e0 e3
    rintro i e w ⟨e0, e4, hi, hA⟩ ih
    have w1 : IntKind.i64.wrap ((i : Int) + (s.size : Int)) = (i : Int) + (s.size : Int) := by rw [wrap_in] <;> omega
    have w2 : IntKind.i64.wrap ((i : Int) + (s.size : Int) + 2) = (i : Int) + (s.size : Int) + 2 := by rw [wrap_in] <;> omega
    simp [e0, e4, w1, w2]
    refine wpC_split (fun v => ?_) (fun v => ?_) <;> (have v' := v; try simp at v') <;> (try simp [*])
    · have hih : i + s.toList.length + 2 ≤ 372 := by omega
      have e1 : (kwT.extract i ((i : Int) + (s.size : Int) + 2).toNat).toList = (kwB.drop i).take (s.toList.length + 2) := by
        rw [ba_extract, show ((i : Int) + (s.size : Int) + 2).toNat - i = s.toList.length + 2 by omega]
        rw [show kwT.toList = kwB from ba_mk kwB]
      have e2 : ((⟨#[32]⟩ ++ s : ByteArray) ++ (⟨#[32]⟩ : ByteArray)).toList = 32 :: (s.toList ++ [32]) := by
        rw [ba_append, ba_append, show (⟨#[32]⟩ : ByteArray).toList = [32] from ba_mk [32]]; rfl
      have hks := kwT_size
      have h1 : ((i : Int) + (s.size : Int) + 2).toNat ≤ 372 := by omega
      have s1 : (⟨#[32]⟩ ++ s : ByteArray).size = s.size + 1 := by
        rw [← ba_size, ba_append, List.length_append, ba_size, ba_size]
        have : (⟨#[32]⟩ : ByteArray).size = 1 := rfl
        omega
      have s2 : (⟨#[32]⟩ : ByteArray).size = 1 := rfl
      have k1 : ∀ w : Sto, binR .add (.v (.string ⟨#[32]⟩)) (.v (.string s)) w = _ := fun w => binR_cat ⟨#[32]⟩ s (by rw [s2]; omega)
      have k2 : ∀ w : Sto, binR .add (.v (.string (⟨#[32]⟩ ++ s))) (.v (.string ⟨#[32]⟩)) w = _ := fun w => binR_cat _ ⟨#[32]⟩ (by rw [s1, s2]; omega)
      simp [e0, e4, w1, w2, hks, show (0 : Int) ≤ (i : Int) + (s.size : Int) + 2 by omega, show (i : Int) + (s.size : Int) + 2 ≤ 372 by omega, show i ≤ ((i : Int) + (s.size : Int) + 2).toNat by omega, e1, e2, k1, k2]
      refine wpC_split (fun x => ?_) (fun x => ?_) <;> (have x' := x; try simp at x') <;> (try simp [*])
      · have hT : R = true := hiff.out.1 ⟨i, hih, by simpa using x⟩
        rw [hT]
      · refine ih.out (i + 1) _ _ ?_ (by omega)
        refine ⟨by simp [e0], by simp [e4, wrap_succ (show i < 373 by omega) (by omega)], by omega, ⟨fun j h hj => ?_⟩⟩
        rcases Nat.lt_or_eq_of_le (Nat.le_of_lt_succ hj) with h4 | h4
        · exact hA.out j h h4
        · subst h4; simpa using x
    · have hn : R = false := by
        cases hR : R
        · rfl
        · obtain ⟨j, hj, he⟩ := hiff.out.2 hR
          exact absurd he (hA.out j hj (by omega))
      rw [hn]
theorem word_ref (c : UInt8) : (wordU c && (Lib.lowerB c == c)) = (((decide (97 ≤ (c.toNat : Int)) && decide ((c.toNat : Int) ≤ 122)) || ((decide (65 ≤ (c.toNat : Int)) && decide ((c.toNat : Int) ≤ 90)) || decide ((c.toNat : Int) = 95)) || (decide (48 ≤ (c.toNat : Int)) && decide ((c.toNat : Int) ≤ 57))) && !(decide (65 ≤ (c.toNat : Int)) && decide ((c.toNat : Int) ≤ 90))) := by
  have key : ∀ n : Nat, n < 256 → (wordU (UInt8.ofNat n) && (Lib.lowerB (UInt8.ofNat n) == UInt8.ofNat n)) = (((decide (97 ≤ (n : Int)) && decide ((n : Int) ≤ 122)) || ((decide (65 ≤ (n : Int)) && decide ((n : Int) ≤ 90)) || decide ((n : Int) = 95)) || (decide (48 ≤ (n : Int)) && decide ((n : Int) ≤ 57))) && !(decide (65 ≤ (n : Int)) && decide ((n : Int) ≤ 90))) := by decide +kernel
  have := key c.toNat c.toNat_lt
  rwa [UInt8.ofNat_toNat] at this
theorem letU_ref (c : UInt8) (h : wordU c = true) : letU c = !(decide (48 ≤ (c.toNat : Int)) && decide ((c.toNat : Int) ≤ 57)) := by
  have key : ∀ n : Nat, n < 256 → wordU (UInt8.ofNat n) = true → letU (UInt8.ofNat n) = !(decide (48 ≤ (n : Int)) && decide ((n : Int) ≤ 57)) := by decide +kernel
  have := key c.toNat c.toNat_lt
  rw [UInt8.ofNat_toNat] at this
  exact this h
theorem lower_all : ∀ l : List UInt8, (l == Lib.toLowerA l) = l.all fun c => Lib.lowerB c == c
  | [] => rfl
  | c :: l => by
    have := lower_all l
    simp only [Lib.toLowerA, List.map_cons, List.all_cons] at *
    rw [← this]
    rw [show ((c :: l) == (Lib.lowerB c :: List.map Lib.lowerB l)) = ((c == Lib.lowerB c) && (l == List.map Lib.lowerB l)) from rfl]
    rw [show (c == Lib.lowerB c) = (Lib.lowerB c == c) from by rw [Bool.eq_iff_iff, beq_iff_eq, beq_iff_eq]; exact eq_comm]
/-- What the reference asks of a byte. -/
def refU (c : UInt8) : Bool := wordU c && (Lib.lowerB c == c)
theorem all_ref (l : List UInt8) : (l.all wordU && (l == Lib.toLowerA l)) = l.all refU := by
  rw [lower_all, Bool.eq_iff_iff]
  simp only [Bool.and_eq_true, List.all_eq_true, refU]
  exact ⟨fun h c hc => ⟨h.1 c hc, h.2 c hc⟩, fun h => ⟨fun c hc => (h c hc).1, fun c hc => (h c hc).2⟩⟩
set_option maxHeartbeats 2000000 in
theorem c_ref02_IsName (s : ByteArray) (hs : s.size ≤ 9223372036854775807) : call T n_jointerref02_IsName [.v (.string s)] = some (.v (.bool (nameB s))) := by
  refine go_jointerref02_IsName (by simp) ?_
  have hname : nameB s = (!s.toList.isEmpty && (decide (s.toList.length ≤ 20) && (s.toList.head?.any letU && (s.toList.all refU && !(kwL.any fun x => x == Lib.toUpperA s.toList))))) := by
    rw [nameB, restU, ← all_ref]; simp only [Bool.and_assoc]
  rw [hname]; clear hname
  generalize hR : (!s.toList.isEmpty && (decide (s.toList.length ≤ 20) && (s.toList.head?.any letU && (s.toList.all refU && !(kwL.any fun x => x == Lib.toUpperA s.toList))))) = R; replace hR := Hd.mk hR
  have hsz := ba_size s
  simp [toList_eq]
  refine wpG_split (fun h0 => ?_) (fun h0 => ?_) <;> (try simp [*])
  · rw [← hR.out]; simp [h0]
  refine wpG_split (fun h1 => ?_) (fun h1 => ?_) <;> (have h1' := h1; try simp at h1') <;> (try simp [*])
  · rw [← hR.out]; simp [show ¬ s.toList.length ≤ 20 by omega]
  have hpos : 0 < s.toList.length := by
    cases hl : s.toList with
    | nil => rw [hl] at h0; simp at h0
    | cons x l => simp
  have hg0 : s[0]? = some s.toList[0] := ba_get s 0 (by omega)
  have hc0 := c_isDigit (s.toList[0].toNat : Int)
  have hh : s.toList.head? = some s.toList[0] := by rw [List.head?_eq_getElem?, List.getElem?_eq_getElem hpos]
  have hle : s.toList.length ≤ 20 := by omega
  have hlet := letU_ref s.toList[0]
  replace hR : Hd (R = (letU s.toList[0] && (s.toList.all refU && !(kwL.any fun x => x == Lib.toUpperA s.toList)))) := ⟨by rw [← hR.out]; simp [h0, hle, hh]⟩
  simp [hg0, hc0]
  generalize hD : (decide (48 ≤ (s.toList[0].toNat : Int)) && decide ((s.toList[0].toNat : Int) ≤ 57)) = D at *
  have hbad : Hd (∀ c ∈ s.toList, refU c = false → R = false) := ⟨fun c hc h => by
    have : s.toList.all refU = false := by
      rw [List.all_eq_false]; exact ⟨c, hc, by simp [h]⟩
    rw [hR.out, this]; simp⟩
  have hword : ∀ c, refU c = true → wordU c = true := fun c h => by simp only [refU, Bool.and_eq_true] at h; exact h.1
  cases D
  · simp
    have hgood : Hd (s.toList.all refU = true → R = !(kwL.any fun x => x == Lib.toUpperA s.toList)) := ⟨fun h => by
      have h0 := hword _ (List.all_eq_true.1 h _ (List.getElem_mem hpos))
      rw [hR.out, h, hlet h0]; simp⟩
    clear hR hlet hc0 hg0 hh hD
    refine wp_rounds (σ := Nat) (fun i e w => e 0 = .v (.string s) ∧ e 3 = i6 i ∧ i ≤ s.size ∧ Hd (∀ (j : Nat) (h : j < s.toList.length), j < i → refU s.toList[j] = true)) (fun i => s.size - i) ?_ 0 _ _
      ⟨by simp, by simp, by omega, ⟨fun j h h' => by omega⟩⟩
    rintro i e w ⟨e0, e3, hi, hA⟩ ih
    simp [e0, e3]
    refine wpC_split (fun q => ?_) (fun q => ?_) <;> (have q' := q; try simp at q') <;> (try simp [*])
    · have hil : i < s.toList.length := by omega
      have hg : s[i] = s.toList[i] := by simp only [ba_toList]; rfl
      have hwr := word_ref s.toList[i]
      have hbd := hbad.out s.toList[i] (List.getElem_mem hil)
      have d1 := c_isLetter (s.toList[i].toNat : Int)
      have d2 := c_isDigit (s.toList[i].toNat : Int)
      have ws := wrap_succ q' hs
      have next : refU s.toList[i] = true → ∀ e' w', e' 0 = .v (.string s) → e' 3 = i6 ((i + 1 : Nat) : Int) → wp T [.lp jointerref02_IsName_l1, .bl 0, .code ((IC.ops jointerref02_IsName_r8).seq IC.ret)] e' w' (fun e s => dpC s (e 2) = some (.v (.bool R))) := by
        intro hc e' w' x0 x3
        refine ih.out (i + 1) _ _ ⟨x0, x3, q', ⟨fun j h hj => ?_⟩⟩ (by omega)
        rcases Nat.lt_or_eq_of_le (Nat.le_of_lt_succ hj) with h4 | h4
        · exact hA.out j h h4
        · subst h4; exact hc
      replace next := Hd.mk next
      replace hbd := Hd.mk hbd
      have hrf : refU s.toList[i] = (wordU s.toList[i] && (Lib.lowerB s.toList[i] == s.toList[i])) := rfl
      rw [← hrf] at hwr
      replace hwr := Hd.mk hwr
      clear hrf ih hA
      generalize hL : ((decide (97 ≤ (s.toList[i].toNat : Int)) && decide ((s.toList[i].toNat : Int) ≤ 122)) || ((decide (65 ≤ (s.toList[i].toNat : Int)) && decide ((s.toList[i].toNat : Int) ≤ 90)) || decide ((s.toList[i].toNat : Int) = 95))) = L at *
      generalize hD : (decide (48 ≤ (s.toList[i].toNat : Int)) && decide ((s.toList[i].toNat : Int) ≤ 57)) = D at *
      simp [hg, q', e0, e3, d1, d2]
      have fin : ((L || D) && !(decide (65 ≤ (s.toList[i].toNat : Int)) && decide ((s.toList[i].toNat : Int) ≤ 90))) = true → ∀ e' w', e' 0 = .v (.string s) → e' 3 = i6 ((i + 1 : Nat) : Int) → wp T [.lp jointerref02_IsName_l1, .bl 0, .code ((IC.ops jointerref02_IsName_r8).seq IC.ret)] e' w' (fun e s => dpC s (e 2) = some (.v (.bool R))) :=
        fun h => next.out (hwr.out.trans h)
      have bad : ((L || D) && !(decide (65 ≤ (s.toList[i].toNat : Int)) && decide ((s.toList[i].toNat : Int) ≤ 90))) = false → R = false := fun h => hbd.out (hwr.out.trans h)
      replace fin := Hd.mk fin
      replace bad := Hd.mk bad
      clear next hbd hwr
      generalize hcn : (s.toList[i].toNat : Int) = c at *
      by_cases p65 : 65 ≤ c
      · by_cases p90 : c ≤ 90
        · have hf := bad.out (by simp [p65, p90])
          cases L <;> cases D <;> simp [hg, hcn, q', e0, e3, d1, d2, p65, p90, hf]
        · cases L
          · cases D
            · have hf := bad.out (by simp)
              simp [hg, hcn, q', e0, e3, d1, d2, p65, p90, hf]
            · simp [hg, hcn, q', e0, e3, d1, d2, p65, p90]
              exact fin.out (by simp [p90]) _ _ (by simp [e0]) (by simp [e3, ws])
          · simp [hg, hcn, q', e0, e3, d1, d2, p65, p90]
            exact fin.out (by simp [p90]) _ _ (by simp [e0]) (by simp [e3, ws])
      · cases L
        · cases D
          · have hf := bad.out (by simp)
            simp [hg, hcn, q', e0, e3, d1, d2, p65, hf]
          · simp [hg, hcn, q', e0, e3, d1, d2, p65]
            exact fin.out (by simp [p65]) _ _ (by simp [e0]) (by simp [e3, ws])
        · simp [hg, hcn, q', e0, e3, d1, d2, p65]
          exact fin.out (by simp [p65]) _ _ (by simp [e0]) (by simp [e3, ws])
    · have hall : s.toList.all refU = true := List.all_eq_true.2 fun c hc => by
        obtain ⟨j, hj, rfl⟩ := List.getElem_of_mem hc
        exact hA.out j hj (by omega)
      have hg := hgood.out hall
      have f1 := folded_eq s (by omega)
      have hul : (⟨(Lib.toUpperA s.toList).toArray⟩ : ByteArray).size ≤ 1000 := by
        rw [← ba_size, ba_mk]; simp [Lib.toUpperA]; omega
      have f2 := c_ref02_IsKeyword ⟨(Lib.toUpperA s.toList).toArray⟩ hul
      rw [ba_mk (Lib.toUpperA s.toList)] at f2
      simp [e0, f1, f2, hg]
  · have hf : R = false := by
      cases hr : refU s.toList[0]
      · exact hbad.out _ (List.getElem_mem hpos) hr
      · rw [hR.out, hlet (hword _ hr)]; simp
    simp [hf]
end Go.Proofs.YtoodknhlnifnlaaGreatDoor
