/- The engine, part M: variables that are written; what is appended to. -/
import Derived.Test.YtoodknhlnifnlaaGreatDoorL
set_option linter.all false
set_option linter.unusedVariables false
set_option linter.unusedSimpArgs false
namespace Go.Proofs.YtoodknhlnifnlaaGreatDoor
open Go.RowKit
variable {P : Program}

theorem setC_cells {z : X} {j : Nat} {ys : List X} (ho : ∀ y ∈ ys, y.one = true) (hj : j + ys.length ≤ z.cells.length) : (setC z j ys).cells = spl z.cells j ys := by
  cases z
  case agg cs => rfl
  all_goals
    simp only [X.cells, List.length_cons, List.length_nil] at hj
    match ys, ho, hj with
    | [], _, hj =>
      have : j = 0 ∨ j = 1 := by simp at hj; omega
      rcases this with rfl | rfl <;> rfl
    | [y], ho, hj =>
      have : j = 0 := by simp at hj; omega
      subst this
      have h1 := ho y (by simp)
      cases y <;> first | rfl | (simp [X.one] at h1; done)
    | _ :: _ :: _, _, hj => exact absurd hj (by simp; omega)
theorem setC_deep {z : X} {j : Nat} {ys : List X} (hz : z.deep = true) (hy : ∀ y ∈ ys, y.deep = true) : (setC z j ys).deep = true := by
  cases z
  case agg cs =>
    simp only [setC, X.deep] at hz ⊢
    refine deepL_mem.2 fun c hc => ?_
    unfold spl at hc
    simp only [List.append_assoc, List.mem_append] at hc
    rcases hc with hc | hc | hc
    · exact deepL_mem.1 hz c (List.mem_of_mem_take hc)
    · exact hy c hc
    · exact deepL_mem.1 hz c (List.mem_of_mem_drop hc)
  all_goals
    match ys, hy with
    | [], _ => exact hz
    | [y], hy => exact hy y (by simp)
    | _ :: _ :: _, _ => exact hz
theorem deep_cells {x : X} (h : x.deep = true) : ∀ c ∈ x.cells, c.deep = true := by
  intro c hc
  cases x
  case agg cs => exact deepL_mem.1 (by simpa [X.deep] using h) c (by simpa [X.cells] using hc)
  all_goals (simp only [X.cells, List.mem_singleton] at hc; subst hc; exact h)

section
variable {w0 : Bs} {sh : Nat → Prop} {nt : Nat} {μ : Nat → Nat} {fr : Nat → Prop} {e : Env} {s : Sto} {a : Act} {w : World}

/-- A store into a row of cells of this call's own. -/
theorem Inv.setRow (h : Inv w0 sh nt μ fr e s a w) {o : Nat} {ob ob' : Ob} (ho : (s o).o = some ob) (hwr : (s o).wr = true) {cs cs' : Array Value} {t : TypeId} (hh : w.heap[μ o]? = some (.cells cs t (0, 0))) (hsz : cs'.size = cs.size) (g' n' : Nat) (hg : (s o).g ≤ g')
    (hob : ∀ C', (cxo μ s w sh fr).Le C' → C'.w = w.setRow (μ o) cs' → ObR C' ob' (μ o)) :
    Inv w0 sh nt (upd μ o (μ o)) fr e (upd s o ⟨g', true, some ob', n'⟩) a (w.setRow (μ o) cs') ∧ (cxo μ s w sh fr).Le (cxo (upd μ o (μ o)) (upd s o ⟨g', true, some ob', n'⟩) (w.setRow (μ o) cs') sh fr) := by
  have hge := (h.obj o ob ho).2.1
  refine h.change o (μ o) g' n' ob' (w.setRow (μ o) cs') hg (fun _ => rfl) ⟨rfl, rfl, rfl, by simp, fun k hk => setRow_other w _ _ _ (by omega)⟩ (fun k _ hk => setRow_other w _ _ _ hk) (.inr ⟨rfl, by simp [ho], hwr, fun _ => ?_⟩) (fun hle => hob _ hle rfl)
  intro cs2 t2 fz2 h2
  rw [hh] at h2
  injection h2 with h2
  injection h2 with h2 _ _
  subst h2
  exact ⟨cs', t, (0, 0), setRow_heap w _ _ _ t _ hh, hsz.symm⟩
theorem upd_self (μ : Nat → Nat) (o : Nat) : upd μ o (μ o) = μ := by
  funext n; unfold upd; split <;> simp_all

theorem frz_setO {s : Sto} {o : Nat} {ob : Ob} {nm : List Nat} (h : ¬ o ∈ nm) : setO (frz s nm) o ob = frz (setO s o ob) nm := by
  funext q
  unfold setO frz upd
  by_cases hq : q = o
  · subst hq; simp [h]
  · simp [hq]

theorem store_run {t : TypeId} {k : Nat} (hs : szB P t k = true) {v : Value} (hv : v.cells.size = k) (h1 : ∀ u ∈ v.cells, u.oneCell' = true) {b off : Nat} {cs : Array Value} {ty : TypeId} (hh : w.heap[b]? = some (.cells cs ty (0, 0))) (hle : off + k ≤ cs.size) :
    (Instr.storeAt t (.pointer (some ⟨b, off, none⟩)) v).run P w = .ok () (w.setRow b (spl cs.toList off v.cells.toList).toArray) := by
  have hst := run_storeCells_at P b off ty v.cells.toList 0 cs w hh (by simp; omega) (by simpa using h1)
  simp only [Instr.storeAt, storeVar, Instr.sureAddr, Sem.run_bind, Sem.run_pure, Result.andThen_ok, szB_run hs, hv, ne_eq, not_true_eq_false, if_false]
  simpa [spl] using hst

theorem snd_st (h : Inv w0 sh nt μ fr e s a w) {o : Oper} {t : TypeId} {x y : Operand} {k : Nat} {r1 r2 : Ar} (ho : o.op = .store t x y) (hs : szB P t k = true) (hx : okA x r1 = true) (hy : okA y r2 = true)
    {s' : Sto} (hst : stX s (r1.ev e) (r2.ev e) k = some s') : Out P w0 sh nt e a w o .junk s' := by
  have hr1 := okA_rep h.env hx
  have hr2 := okA_rep h.env hy
  unfold stX at hst
  split at hst
  · rename_i q g j hq
    split at hst
    case h_2 => simp at hst
    rename_i z hz
    split at hst
    case isFalse => simp at hst
    rename_i hc
    obtain ⟨hg, hwr, hk, hj, hone⟩ := hc
    injection hst with hst
    subst hst
    rw [hq] at hr1
    generalize hv1 : a.eval x = v1 at hr1
    cases hr1 with
    | ptr hg1 hg' hv _ =>
      have hv := hv hg.symm
      obtain ⟨⟨cs, ty, hh, hsz, hzo, hzr⟩, _⟩ := h.obj q _ hz
      obtain ⟨h1, h2, h3⟩ := rep_cells hr2 hone
      have hrun := store_run (P := P) (w := w) hs (v := a.eval y) (by omega) h3 (b := μ q) (off := j) hh (by omega)
      have hlen : (spl cs.toList j (a.eval y).cells.toList).length = cs.size := by rw [spl_len _ _ _ (by simp; omega)]; simp
      have hone' : ∀ c ∈ (r2.ev e).cells, c.one = true := by simpa [List.all_eq_true] using hone
      obtain ⟨hI, hle⟩ := h.setRow hz hwr (ob' := .box (setC z j (r2.ev e).cells)) hh (cs' := (spl cs.toList j (a.eval y).cells.toList).toArray) (by simpa using hlen) (s q).g ((s q).n + 1) (Nat.le_refl _) (by
        intro C' hle hw'
        refine ⟨_, ty, by rw [hw']; exact setRow_heap w _ _ _ ty _ hh, ?_, ?_, ?_⟩
        · rw [setC_cells hone' (by omega), spl_len _ _ _ (by omega)]
          simp only [List.size_toArray, hlen]
          exact hsz
        · rw [setC_cells hone' (by omega)]
          intro c hc
          unfold spl at hc
          simp only [List.append_assoc, List.mem_append] at hc
          rcases hc with hc | hc | hc
          · exact hzo c (List.mem_of_mem_take hc)
          · exact hone' c hc
          · exact hzo c (List.mem_of_mem_drop hc)
        · rw [setC_cells hone' (by omega)]
          intro i c u hc hu
          rw [spl_get _ _ _ _ (by omega)] at hc
          simp only [List.getElem?_toArray] at hu
          rw [spl_get _ _ _ _ (by simp; omega)] at hu
          simp only [Array.length_toList, h1] at hu
          split at hc
          · rename_i hi
            rw [if_pos hi] at hu
            exact (h2 _ c u hc (by simpa using hu)).mono hle
          · rename_i hi
            rw [if_neg hi] at hu
            exact (hzr i c u hc (by simpa using hu)).mono hle)
      refine ⟨.skip, undef, _, _, _, ?_, .inr ⟨rfl, rfl⟩, hI, .junk⟩
      have hv1' : a.eval x = .pointer (some ⟨μ q, j, none⟩) := hv1.trans hv
      simp only [execOp, ho, hv1', Sem.run_bind, hrun]
      rfl
  · rename_i q g k0 i j hq
    split at hst
    case h_2 => simp at hst
    rename_i k' es y' hz hy'
    split at hst
    case h_2 => simp at hst
    rename_i z hzi
    split at hst
    case isFalse => simp at hst
    rename_i hc
    obtain ⟨hg, rfl, hwr, hk, hj, hone, hnm⟩ := hc
    injection hst with hst
    subst hst
    rw [hq] at hr1
    generalize hv1 : a.eval x = v1 at hr1
    cases hr1 with
    | ep hg1 hg' hv _ =>
      have hv := hv hg.symm
      obtain ⟨hI0, hle0⟩ := h.frz (nmC (r2.ev e))
      obtain ⟨hry, hdy⟩ := h.dpC hr2 hy' (l := nmC (r2.ev e)) (fun _ h => h)
      have hsq : (frz s (nmC (r2.ev e)) q).o = some (.row k0 es) ∧ (frz s (nmC (r2.ev e)) q).wr = true ∧ (frz s (nmC (r2.ev e)) q).g = (s q).g := by
        unfold frz; simp [hnm, hz, hwr]
      obtain ⟨⟨cs, ty, hh, hsz, hlen, hk0, hw, hzr⟩, _⟩ := hI0.obj q _ hsq.1
      obtain ⟨h1, h2, h3⟩ := rep_cells hry hone
      have hil := (List.getElem?_eq_some_iff.1 hzi).1
      have hzw := hw z (List.mem_of_getElem? hzi)
      have hbound : i * k0 + j + k ≤ cs.size := by
        have := Nat.mul_le_mul_right k0 hil
        rw [Nat.succ_mul] at this
        omega
      have hrun := store_run (P := P) (w := w) hs (v := a.eval y) (by omega) h3 (b := μ q) (off := i * k0 + j) hh (by omega)
      have hlenv : (spl cs.toList (i * k0 + j) (a.eval y).cells.toList).length = cs.size := by rw [spl_len _ _ _ (by simp; omega)]; simp
      have hone' : ∀ c ∈ y'.cells, c.one = true := by simpa [List.all_eq_true] using hone
      have hcells : (setC z j y'.cells).cells = spl z.cells j y'.cells := setC_cells hone' (by omega)
      obtain ⟨hI, hle⟩ := hI0.setRow hsq.1 hsq.2.1 (ob' := .row k0 (es.set i (setC z j y'.cells))) hh (cs' := (spl cs.toList (i * k0 + j) (a.eval y).cells.toList).toArray) (by simpa using hlenv) (s q).g ((s q).n + 1) (by rw [hsq.2.2]; exact Nat.le_refl _) (by
        intro C' hle hw'
        refine ⟨_, ty, by rw [hw']; exact setRow_heap w _ _ _ ty _ hh, ?_, by simpa using hlen, hk0, ?_, ?_⟩
        · simp only [List.size_toArray, hlenv, List.length_set]; exact hsz
        · intro x' hx'
          rcases List.mem_or_eq_of_mem_set hx' with hx' | rfl
          · exact hw x' hx'
          · refine ⟨by rw [hcells, spl_len _ _ _ (by omega)]; exact hzw.1, setC_deep hzw.2.1 (deep_cells hdy), ?_⟩
            rw [hcells]
            intro c hc
            unfold spl at hc
            simp only [List.append_assoc, List.mem_append] at hc
            rcases hc with hc | hc | hc
            · exact hzw.2.2 c (List.mem_of_mem_take hc)
            · exact hone' c hc
            · exact hzw.2.2 c (List.mem_of_mem_drop hc)
        · intro i' x' j' c u hx' hc hu
          simp only [List.getElem?_toArray] at hu
          rw [spl_get _ _ _ _ (by simp; omega)] at hu
          simp only [Array.length_toList, h1] at hu
          by_cases hii : i' = i
          · subst hii
            rw [List.getElem?_set_self hil] at hx'
            injection hx' with hx'
            subst hx'
            rw [hcells, spl_get _ _ _ _ (by omega)] at hc
            split at hc
            · rename_i hi
              rw [if_pos (by omega)] at hu
              refine (h2 (j' - j) c u hc ?_).mono hle
              rw [← Array.getElem?_toList, ← hu]
              congr 1
              omega
            · rename_i hi
              rw [if_neg (by omega)] at hu
              exact (hzr i' z j' c u hzi hc (by simpa using hu)).mono hle
          · rw [List.getElem?_set_ne (Ne.symm hii)] at hx'
            have hj' : j' < k0 := by have := (List.getElem?_eq_some_iff.1 hc).1; have := (hw x' (List.mem_of_getElem? hx')).1; omega
            have hne : ¬ (i * k0 + j ≤ i' * k0 + j' ∧ i' * k0 + j' < i * k0 + j + (r2.ev e).cells.length) → True := fun _ => trivial
            rw [if_neg (by
              rintro ⟨h4, h5⟩
              rcases Nat.lt_or_gt_of_ne hii with hlt | hgt
              · have := Nat.mul_le_mul_right k0 hlt
                rw [Nat.succ_mul] at this
                omega
              · have := Nat.mul_le_mul_right k0 hgt
                rw [Nat.succ_mul] at this
                omega)] at hu
            exact (hzr i' x' j' c u hx' hc (by simpa using hu)).mono hle)
      have hst' : upd (frz s (nmC (r2.ev e))) q ⟨(s q).g, true, some (.row k0 (es.set i (setC z j y'.cells))), (s q).n + 1⟩ = frz (setO s q (.row k0 (es.set i (setC z j y'.cells)))) (nmC (r2.ev e)) := by
        rw [← frz_setO hnm]
        unfold setO
        simp only [SO.sw]
        rw [hsq.2.2, show (frz s (nmC (r2.ev e)) q).n = (s q).n by unfold frz; simp [hnm]]
      rw [hst'] at hI
      refine ⟨.skip, undef, _, _, _, ?_, .inr ⟨rfl, rfl⟩, hI, .junk⟩
      have hv1' : a.eval x = .pointer (some ⟨μ q, i * k0 + j, none⟩) := hv1.trans hv
      simp only [execOp, ho, hv1', Sem.run_bind, hrun]
      rfl
  · simp at hst
end
end Go.Proofs.YtoodknhlnifnlaaGreatDoor
