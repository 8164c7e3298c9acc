/- The engine, part F: what ties the abstract state to the machine's, and how it is kept. -/
import Derived.Test.YtoodknhlnifnlaaGreatDoorE
set_option linter.all false
set_option linter.unusedVariables false
set_option linter.unusedSimpArgs false
namespace Go.Proofs.YtoodknhlnifnlaaGreatDoor
open Go.RowKit
variable {P : Program}

def ObR (C : Cx) : Ob → Nat → Prop
  | .box x, b => ∃ cs t, C.w.heap[b]? = some (.cells cs t (0, 0)) ∧ cs.size = x.cells.length ∧ (∀ c ∈ x.cells, c.one = true) ∧
      ∀ (j : Nat) c v, x.cells[j]? = some c → cs[j]? = some v → Rep C c v
  | .row k es, b => ∃ cs t, C.w.heap[b]? = some (.cells cs t (0, 0)) ∧ es.length * k ≤ cs.size ∧ es.length ≤ 9223372036854775807 ∧ 0 < k ∧
      (∀ e ∈ es, e.cells.length = k ∧ e.deep = true ∧ ∀ c ∈ e.cells, c.one = true) ∧
      ∀ (i : Nat) e (j : Nat) c v, es[i]? = some e → e.cells[j]? = some c → cs[i * k + j]? = some v → Rep C c v
  | .map es, b => ∃ en, C.w.heap[b]? = some (.map en es.length) ∧ en.size = es.length ∧
      ∀ (i : Nat) p m, es[i]? = some p → en[i]? = some m → p.1.scal = true ∧ p.2.scal = true ∧ Rep C p.1 m.key ∧ Rep C p.2 m.val ∧ m.born = i

theorem ObR.mono {C D : Cx} (h : C.Le D) {ob : Ob} {b : Nat} (hh : D.w.heap[b]? = C.w.heap[b]?) (ho : ObR C ob b) : ObR D ob b := by
  cases ob with
  | box x =>
    obtain ⟨cs, t, h1, h2, h3, h4⟩ := ho
    exact ⟨cs, t, hh.trans h1, h2, h3, fun j c v hc hv => (h4 j c v hc hv).mono h⟩
  | row k es =>
    obtain ⟨cs, t, h1, h2, h3, h4, h5, h6⟩ := ho
    exact ⟨cs, t, hh.trans h1, h2, h3, h4, h5, fun i e j c v hi hc hv => (h6 i e j c v hi hc hv).mono h⟩
  | map es =>
    obtain ⟨en, h1, h2, h3⟩ := ho
    exact ⟨en, hh.trans h1, h2, fun i p m hi hm => by obtain ⟨a1, a2, a3, a4, a5⟩ := h3 i p m hi hm; exact ⟨a1, a2, a3.mono h, a4.mono h, a5⟩⟩
theorem ObR.block {C : Cx} {ob : Ob} {b : Nat} (ho : ObR C ob b) : ∃ ob', C.w.heap[b]? = some ob' := by
  cases ob with
  | box x => obtain ⟨cs, t, h1, _⟩ := ho; exact ⟨_, h1⟩
  | row k es => obtain ⟨cs, t, h1, _⟩ := ho; exact ⟨_, h1⟩
  | map es => obtain ⟨cs, h1, _⟩ := ho; exact ⟨_, h1⟩
theorem heap_lt {w : World} {b : Nat} {o : Obj} (h : w.heap[b]? = some o) : b < w.heap.size := (Array.getElem?_eq_some_iff.1 h).1

def cxo (μ : Nat → Nat) (s : Sto) (w : World) (sh fr : Nat → Prop) : Cx := ⟨μ, fun o => (s o).g, w, sh, fr⟩

structure Inv (w0 : Bs) (sh : Nat → Prop) (nt : Nat) (μ : Nat → Nat) (fr : Nat → Prop) (e : Env) (s : Sto) (a : Act) (w : World) : Prop where
  below : Below w0.heap.size w0 w
  sh_lt : ∀ b, sh b → b < w0.heap.size
  fr_lt : ∀ b, fr b → w0.heap.size ≤ b ∧ b < w.heap.size
  obj : ∀ o ob, (s o).o = some ob → ObR (cxo μ s w sh fr) ob (μ o) ∧ w0.heap.size ≤ μ o ∧ ((s o).wr = true → ¬ fr (μ o)) ∧ ((s o).wr = false → fr (μ o))
  inj : ∀ o o', (s o).o.isSome = true → (s o').o.isSome = true → μ o = μ o' → o = o'
  live : ∀ o, 1 ≤ (s o).g → (s o).o.isSome = true
  env : EnvR (cxo μ s w sh fr) e a
  defers : a.defers = []
  size : a.tmps.size = nt
  base : w0.base.Le (cxo μ s w sh fr)

section
variable {w0 : Bs} {sh : Nat → Prop} {nt : Nat} {μ : Nat → Nat} {fr : Nat → Prop} {e : Env} {s : Sto} {a : Act} {w : World}

theorem EnvR.put {C : Cx} (h : EnvR C e a) {d : Option Nat} (hd : ∀ n, d = some n → n < a.tmps.size) {x : X} {v : Value} (hx : Rep C x v) : EnvR C (put e d x) (a.put d v) := by
  cases d with
  | none => exact h
  | some d =>
    intro n
    have hd := hd d rfl
    by_cases hn : n = d
    · subst hn
      simp only [Go.Proofs.YtoodknhlnifnlaaGreatDoor.put, upd_same, Act.put]
      simpa [Array.getD_eq_getD_getElem?, Array.getElem?_setIfInBounds, hd] using hx
    · simp only [Go.Proofs.YtoodknhlnifnlaaGreatDoor.put, upd_ne _ _ hn, Act.put]
      have := h n
      simpa [Array.getD_eq_getD_getElem?, Array.getElem?_setIfInBounds, Ne.symm hn] using this

/-- A value is put into its slot. -/
theorem Inv.put (h : Inv w0 sh nt μ fr e s a w) {d : Option Nat} (hd : ∀ n, d = some n → n < nt) {x : X} {v : Value} (hx : Rep (cxo μ s w sh fr) x v) :
    Inv w0 sh nt μ fr (put e d x) s (a.put d v) w :=
  ⟨h.below, h.sh_lt, h.fr_lt, h.obj, h.inj, h.live, h.env.put (by simpa [h.size] using hd) hx, by cases d <;> exact h.defers, by cases d <;> simp [Act.put, h.size], h.base⟩

/-- A draw. -/
theorem Inv.drew (h : Inv w0 sh nt μ fr e s a w) : Inv w0 sh nt μ fr e s a w.drew := by
  have hle : (cxo μ s w sh fr).Le (cxo μ s w.drew sh fr) :=
    ⟨fun _ _ _ _ h => h, fun _ _ _ h => h, fun _ h => .inl h, fun _ h => h, fun _ => Nat.le_refl _, fun _ _ _ => ⟨rfl, fun cs t fz h => ⟨cs, t, fz, h, rfl⟩⟩⟩
  exact ⟨h.below.drew, h.sh_lt, h.fr_lt, fun o ob ho => ⟨(h.obj o ob ho).1.mono hle rfl, (h.obj o ob ho).2⟩, h.inj, h.live, fun n => (h.env n).mono hle, h.defers, h.size, h.base.trans hle⟩

/-- The world has grown, or one variable of this call's own has changed. -/
theorem Inv.change (h : Inv w0 sh nt μ fr e s a w) (o b g' n' : Nat) (ob : Ob) (w' : World) (hg : (s o).g ≤ g') (hgb : g' = (s o).g → b = μ o)
    (hw : Below w0.heap.size w w') (hold : ∀ k, k < w.heap.size → k ≠ b → w'.heap[k]? = w.heap[k]?)
    (hb : w.heap.size ≤ b ∨ b = μ o ∧ (s o).o.isSome = true ∧ (s o).wr = true ∧
      (g' = (s o).g → ∀ cs t fz, w.heap[b]? = some (.cells cs t fz) → ∃ cs' t' fz', w'.heap[b]? = some (.cells cs' t' fz') ∧ cs.size = cs'.size))
    (hob : (cxo μ s w sh fr).Le (cxo (upd μ o b) (upd s o ⟨g', true, some ob, n'⟩) w' sh fr) → ObR (cxo (upd μ o b) (upd s o ⟨g', true, some ob, n'⟩) w' sh fr) ob b) :
    Inv w0 sh nt (upd μ o b) fr e (upd s o ⟨g', true, some ob, n'⟩) a w' ∧ (cxo μ s w sh fr).Le (cxo (upd μ o b) (upd s o ⟨g', true, some ob, n'⟩) w' sh fr) := by
  have hbge : w0.heap.size ≤ b := by
    rcases hb with hb | ⟨rfl, hs, _⟩
    · exact Nat.le_trans h.below.size hb
    · obtain ⟨ob', ho'⟩ := Option.isSome_iff_exists.1 hs
      exact (h.obj o ob' ho').2.1
  have hnfr : ¬ fr b := by
    intro hf
    rcases hb with hb | ⟨rfl, hs, hwr, _⟩
    · have := (h.fr_lt b hf).2; omega
    · obtain ⟨ob', ho'⟩ := Option.isSome_iff_exists.1 hs
      exact (h.obj o ob' ho').2.2.1 hwr hf
  have hheap : ∀ k, fr k ∨ sh k → w'.heap[k]? = w.heap[k]? := by
    intro k hk
    refine hold k ?_ ?_
    · rcases hk with hk | hk
      · exact (h.fr_lt k hk).2
      · exact Nat.lt_of_lt_of_le (h.sh_lt k hk) h.below.size
    · rintro rfl
      rcases hk with hk | hk
      · exact hnfr hk
      · have := h.sh_lt _ hk; omega
  have hle : (cxo μ s w sh fr).Le (cxo (upd μ o b) (upd s o ⟨g', true, some ob, n'⟩) w' sh fr) := by
    refine ⟨?_, ?_, fun _ h => .inl h, fun _ h => h, ?_, ?_⟩
    · intro k hk off v hv
      simp only [cxo] at hk hv ⊢
      rw [World.cell?_of_block (w := w) (hheap k hk)]; exact hv
    · intro k hk off hv
      simp only [cxo] at hk hv ⊢
      rw [World.frozen?_of_block (w := w) (hheap k (.inl hk))]; exact hv
    · intro o1
      simp only [cxo, upd]
      split
      · rename_i ho1; subst ho1; exact hg
      · exact Nat.le_refl _
    · intro o1 h1 hg1
      simp only [cxo] at h1 hg1 ⊢
      by_cases ho1 : o1 = o
      · subst ho1
        simp only [upd_same] at hg1 ⊢
        have hbm := hgb hg1
        refine ⟨hbm, fun cs t fz hcs => ?_⟩
        rcases hb with hb | ⟨_, _, _, hsz⟩
        · have := heap_lt hcs; omega
        · obtain ⟨cs', t', fz', h2, h3⟩ := hsz hg1 cs t fz (hbm ▸ hcs)
          exact ⟨cs', t', fz', hbm ▸ h2, h3⟩
      · rw [upd_ne _ _ ho1]
        refine ⟨rfl, fun cs t fz hcs => ⟨cs, t, fz, (hold _ (heap_lt hcs) ?_).trans hcs, rfl⟩⟩
        intro hk
        rcases hb with hb | ⟨hbm, hs, _⟩
        · have := heap_lt hcs; omega
        · exact ho1 (h.inj o1 o (h.live o1 h1) hs (hk.trans hbm))
  refine ⟨⟨h.below.trans hw, h.sh_lt, fun k hk => ⟨(h.fr_lt k hk).1, Nat.lt_of_lt_of_le (h.fr_lt k hk).2 hw.size⟩, ?_, ?_, ?_, fun n => (h.env n).mono hle, h.defers, h.size, h.base.trans hle⟩, hle⟩
  · intro o1 ob1 ho1
    by_cases he : o1 = o
    · subst he
      simp only [upd_same] at ho1 ⊢
      injection ho1 with ho1
      subst ho1
      exact ⟨hob hle, hbge, fun _ => hnfr, fun hf => by simp at hf⟩
    · rw [upd_ne _ _ he] at ho1
      rw [upd_ne _ _ he, upd_ne _ _ he]
      obtain ⟨h1, h2, h3, h4⟩ := h.obj o1 ob1 ho1
      refine ⟨h1.mono hle ?_, h2, h3, h4⟩
      obtain ⟨_, hcs⟩ := h1.block
      refine hold _ (heap_lt hcs) ?_
      rintro hk
      rcases hb with hb | ⟨hbm, hs, _⟩
      · have := heap_lt hcs; simp only [cxo] at this; omega
      · exact he (h.inj o1 o (by simp [ho1]) hs (hk.trans hbm))
  · intro o1 o2 h1 h2 hm
    by_cases e1 : o1 = o
    · by_cases e2 : o2 = o
      · rw [e1, e2]
      · exfalso
        subst e1
        rw [upd_same, upd_ne _ _ e2] at hm
        rw [upd_ne _ _ e2] at h2
        obtain ⟨ob2, ho2⟩ := Option.isSome_iff_exists.1 h2
        obtain ⟨_, hcs⟩ := (h.obj o2 ob2 ho2).1.block
        rcases hb with hb | ⟨hbm, hs, _⟩
        · have := heap_lt hcs; simp only [cxo] at this; omega
        · exact e2 (h.inj o2 o1 h2 hs (hm.symm.trans hbm))
    · by_cases e2 : o2 = o
      · exfalso
        subst e2
        rw [upd_same, upd_ne _ _ e1] at hm
        rw [upd_ne _ _ e1] at h1
        obtain ⟨ob1, ho1⟩ := Option.isSome_iff_exists.1 h1
        obtain ⟨_, hcs⟩ := (h.obj o1 ob1 ho1).1.block
        rcases hb with hb | ⟨hbm, hs, _⟩
        · have := heap_lt hcs; simp only [cxo] at this; omega
        · exact e1 (h.inj o1 o2 h1 hs (hm.trans hbm))
      · rw [upd_ne _ _ e1, upd_ne _ _ e2] at hm
        rw [upd_ne _ _ e1] at h1
        rw [upd_ne _ _ e2] at h2
        exact h.inj o1 o2 h1 h2 hm
  · intro o1 h1
    by_cases e1 : o1 = o
    · subst e1; simp [upd_same]
    · rw [upd_ne _ _ e1] at h1 ⊢; exact h.live o1 h1

/-- A new block of this call's own, without a name: it won't be written. -/
theorem Inv.news (h : Inv w0 sh nt μ fr e s a w) (w' : World) (hw : Below w.heap.size w w') (fr' : Nat → Prop) (hfr : ∀ b, fr b → fr' b) (hfr' : ∀ b, fr' b → fr b ∨ (w.heap.size ≤ b ∧ b < w'.heap.size)) :
    Inv w0 sh nt μ fr' e s a w' ∧ (cxo μ s w sh fr).Le (cxo μ s w' sh fr') := by
  have hle : (cxo μ s w sh fr).Le (cxo μ s w' sh fr') := by
    refine ⟨?_, ?_, fun _ h => .inl h, hfr, fun _ => Nat.le_refl _, fun o _ _ => ⟨rfl, fun cs t fz hcs => ⟨cs, t, fz, (hw.block _ (heap_lt hcs)).trans hcs, rfl⟩⟩⟩
    · intro k hk off v hv
      simp only [cxo] at hv ⊢
      rw [World.cell?_of_block (w := w) (hw.block k (World.block_lt_of_cell? w _ hv))]; exact hv
    · intro k hk off hv
      simp only [cxo] at hk hv ⊢
      rw [World.frozen?_of_block (w := w) (hw.block k (h.fr_lt k hk).2)]; exact hv
  refine ⟨⟨h.below.trans (hw.mono h.below.size), h.sh_lt, ?_, ?_, h.inj, h.live, fun n => (h.env n).mono hle, h.defers, h.size, h.base.trans hle⟩, hle⟩
  · intro b hb
    rcases hfr' b hb with hb | hb
    · exact ⟨(h.fr_lt b hb).1, Nat.lt_of_lt_of_le (h.fr_lt b hb).2 hw.size⟩
    · exact ⟨Nat.le_trans h.below.size hb.1, hb.2⟩
  · intro o ob ho
    obtain ⟨h1, h2, h3, h4⟩ := h.obj o ob ho
    obtain ⟨_, hcs⟩ := h1.block
    refine ⟨h1.mono hle (hw.block _ (heap_lt hcs)), h2, fun hwr hf => ?_, fun hwr => hfr _ (h4 hwr)⟩
    rcases hfr' _ hf with hf | hf
    · exact h3 hwr hf
    · have := heap_lt hcs; simp only [cxo] at this; omega

/-- Variables are not written any more. -/
theorem Inv.frz (h : Inv w0 sh nt μ fr e s a w) (l : List Nat) :
    Inv w0 sh nt μ (fun b => fr b ∨ ∃ o ∈ l, (s o).o.isSome = true ∧ b = μ o) e (frz s l) a w ∧
    (cxo μ s w sh fr).Le (cxo μ (frz s l) w sh (fun b => fr b ∨ ∃ o ∈ l, (s o).o.isSome = true ∧ b = μ o)) := by
  have hsg : ∀ o, (Go.Proofs.YtoodknhlnifnlaaGreatDoor.frz s l o).g = (s o).g := by intro o; unfold Go.Proofs.YtoodknhlnifnlaaGreatDoor.frz; split <;> rfl
  have hso : ∀ o, (Go.Proofs.YtoodknhlnifnlaaGreatDoor.frz s l o).o = (s o).o := by intro o; unfold Go.Proofs.YtoodknhlnifnlaaGreatDoor.frz; split <;> rfl
  have hle : (cxo μ s w sh fr).Le (cxo μ (Go.Proofs.YtoodknhlnifnlaaGreatDoor.frz s l) w sh (fun b => fr b ∨ ∃ o ∈ l, (s o).o.isSome = true ∧ b = μ o)) := by
    refine ⟨fun _ _ _ _ h => h, fun _ _ _ h => h, fun _ h => .inl h, fun _ h => .inl h, ?_, ?_⟩
    · intro o; simp only [cxo, hsg]; exact Nat.le_refl _
    · intro o _ _; exact ⟨rfl, fun cs t fz h => ⟨cs, t, fz, h, rfl⟩⟩
  refine ⟨⟨h.below, h.sh_lt, ?_, ?_, by simpa [hso] using h.inj, by simpa [hso, hsg] using h.live, fun n => (h.env n).mono hle, h.defers, h.size, h.base.trans hle⟩, hle⟩
  · rintro b (hb | ⟨o, ho, hs, rfl⟩)
    · exact h.fr_lt b hb
    · obtain ⟨ob, ho'⟩ := Option.isSome_iff_exists.1 hs
      obtain ⟨h1, h2, _⟩ := h.obj o ob ho'
      obtain ⟨_, hcs⟩ := h1.block
      exact ⟨h2, heap_lt hcs⟩
  · intro o ob ho
    rw [hso] at ho
    obtain ⟨h1, h2, h3, h4⟩ := h.obj o ob ho
    refine ⟨h1.mono hle rfl, h2, fun hwr => ?_, fun hwr => ?_⟩
    · have hol : ¬ o ∈ l ∧ (s o).wr = true := by
        unfold Go.Proofs.YtoodknhlnifnlaaGreatDoor.frz at hwr
        split at hwr
        · simp at hwr
        · rename_i hn; exact ⟨hn, hwr⟩
      rintro (hf | ⟨o', ho', hs', hm⟩)
      · exact h3 hol.2 hf
      · exact hol.1 ((h.inj o o' (by simp [ho]) hs' hm) ▸ ho')
    · unfold Go.Proofs.YtoodknhlnifnlaaGreatDoor.frz at hwr
      split at hwr
      · rename_i hn; exact .inr ⟨o, hn, by simp [ho], rfl⟩
      · exact .inl (h4 hwr)
end
end Go.Proofs.YtoodknhlnifnlaaGreatDoor
