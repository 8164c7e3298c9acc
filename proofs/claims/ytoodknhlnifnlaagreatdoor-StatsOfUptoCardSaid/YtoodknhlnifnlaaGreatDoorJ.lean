/- The engine, part J: structs and slices that are built; variables that are made. -/
import Derived.Test.YtoodknhlnifnlaaGreatDoorI
set_option linter.all false
set_option linter.unusedVariables false
set_option linter.unusedSimpArgs false
namespace Go.Proofs.YtoodknhlnifnlaaGreatDoor
open Go.RowKit
variable {P : Program}
section
variable {w0 : Bs} {sh : Nat → Prop} {nt : Nat} {μ : Nat → Nat} {fr : Nat → Prop} {e : Env} {s : Sto} {a : Act} {w : World}

theorem snd_slr (h : Inv w0 sh nt μ fr e s a w) {o : Oper} {t el : TypeId} {k : Nat} {x : Operand} {xl xh : Option Operand} {r : Ar} {rl rh : Option Ar} (ho : o.op = .slice t x xl xh none) (ht : P.underlying t = some (.slice el)) (hi : szB P el k = true)
    (hx : okA x r = true) (hlo : okAO xl rl = true) (hhi : okAO xh rh = true) {o' g j n l m : Nat} (hb : r.ev e = .ref o' g k j n) (hg : (s o').g = g) (hm : bnd e rh n n = some m) (hl : bnd e rl 0 m = some l) :
    OutS P w0 sh nt μ fr e s a w o (if l = 0 then .ref o' g k j m else if m - l = 0 then .sl true [] else .ref o' g k (j + l) (m - l)) := by
  have h1 := okA_rep h.env hx
  rw [hb] at h1
  generalize hv : a.eval x = v at h1
  cases h1 with
  | ref hg1 hg' hv' _ =>
    obtain ⟨cap, rfl, hcap, cs, t', fz, hh, hsz⟩ := hv' hg
    obtain ⟨h2, h3, h4⟩ := bounds_run (P := P) (isS := true) h.env hlo hhi hm hl hcap
    have hrun : (execOp a.eval o).run P w = .ok (.value (.slice (if cap = l then some ⟨μ o', j * k, none⟩ else some ⟨μ o', j * k + l * k, none⟩) (m - l) (cap - l))) w := by
      simp only [execOp, ho, hv, Instr.sliceAt, Instr.slice, Sem.run_bind, run_underlying ht, Result.andThen_ok, Option.map_none, h2]
      simp [szB_run hi, add_off, cxo]
    by_cases hl0 : l = 0
    · subst hl0
      rw [if_pos rfl]
      have : (if cap = 0 then some (⟨μ o', j * k, none⟩ : Addr) else some ⟨μ o', j * k + 0 * k, none⟩) = some ⟨μ o', j * k, none⟩ := by split <;> simp
      rw [this] at hrun
      exact outS_val h hrun (.ref hg1 hg' (fun hst => ⟨cap, rfl, by omega, cs, t', fz, hh, hsz⟩) rfl)
    · rw [if_neg hl0]
      by_cases hm0 : m - l = 0
      · rw [if_pos hm0]
        rw [hm0] at hrun
        exact outS_val h hrun .sl0
      · rw [if_neg hm0]
        rw [if_neg (by omega)] at hrun
        refine outS_val h hrun (.ref hg1 hg' (fun hst => ⟨cap - l, ?_, by omega, cs, t', fz, hh, ?_⟩) rfl)
        · simp [cxo, Nat.add_mul]
        · rw [← hsz]; congr 1; omega

/-! ### what is filled -/
theorem splice_size (cs : Array Value) (off : Nat) (vs : Array Value) : ∀ (l : List (Value × Nat)) (c : Array Value), (l.foldl (fun cs (x, j) => cs.setIfInBounds (off + j) x) c).size = c.size := by
  intro l
  induction l with
  | nil => intro c; rfl
  | cons x l ih => intro c; rw [List.foldl_cons, ih]; simp
theorem splice_get (off : Nat) : ∀ (vs : List Value) (k : Nat) (c : Array Value) (i : Nat), off + k + vs.length ≤ c.size →
    ((vs.zipIdx k).foldl (fun cs (x, j) => cs.setIfInBounds (off + j) x) c)[i]? = if off + k ≤ i ∧ i < off + k + vs.length then vs[i - (off + k)]? else c[i]? := by
  intro vs
  induction vs with
  | nil => intro k c i _; simp; omega
  | cons v vs ih =>
    intro k c i hle
    simp only [List.length_cons] at hle
    rw [List.zipIdx_cons, List.foldl_cons, ih (k + 1) _ i (by simp; omega)]
    by_cases h1 : i = off + k
    · subst h1
      rw [if_neg (by omega), if_pos (by simp)]
      simp only [Nat.sub_self, List.getElem?_cons_zero]
      rw [Array.getElem?_setIfInBounds_self_of_lt (by omega)]
    · rw [Array.getElem?_setIfInBounds_ne (by omega)]
      by_cases h2 : off + (k + 1) ≤ i ∧ i < off + (k + 1) + vs.length
      · rw [if_pos h2, if_pos (by simp; omega)]
        rw [show i - (off + k) = (i - (off + (k + 1))) + 1 by omega]
        simp
      · rw [if_neg h2, if_neg (by simp; omega)]
theorem spl_get {α : Type} (cs : List α) (j : Nat) (ys : List α) (i : Nat) (h : j + ys.length ≤ cs.length) : (spl cs j ys)[i]? = if j ≤ i ∧ i < j + ys.length then ys[i - j]? else cs[i]? := by
  unfold spl
  by_cases h1 : i < j
  · rw [if_neg (by omega), List.append_assoc, List.getElem?_append_left (by simp; omega), List.getElem?_take, if_pos h1]
  · by_cases h2 : i < j + ys.length
    · rw [if_pos ⟨by omega, h2⟩, List.getElem?_append_left (by simp; omega), List.getElem?_append_right (by simp; omega)]
      congr 1
      simp; omega
    · rw [if_neg (by omega), List.getElem?_append_right (by simp; omega), List.getElem?_drop]
      congr 1
      simp; omega
theorem spl_len {α : Type} (cs : List α) (j : Nat) (ys : List α) (h : j + ys.length ≤ cs.length) : (spl cs j ys).length = cs.length := by
  unfold spl; simp; omega

/-- Cells over which other cells are laid. -/
theorem rep_spl {C : Cx} {cs ys : List X} {vs : Array Value} {us : Array Value} {j : Nat} (hcs : Rep C (.agg cs) (.agg vs)) (hu : us.size = ys.length) (ho : ∀ y ∈ ys, y.one = true)
    (hr : ∀ (i : Nat) c u, ys[i]? = some c → us[i]? = some u → Rep C c u) (hj : j + ys.length ≤ cs.length) :
    Rep C (.agg (spl cs j ys)) (.agg (us.zipIdx.foldl (fun c (x, i) => c.setIfInBounds (j + i) x) vs)) := by
  cases hcs with
  | agg hl hone hrc =>
    have hfold : us.zipIdx.foldl (fun c (x, i) => c.setIfInBounds (j + i) x) vs = (us.toList.zipIdx 0).foldl (fun c (x, i) => c.setIfInBounds (j + i) x) vs := by
      rw [← Array.foldl_toList]; simp
    rw [hfold]
    refine .agg ?_ ?_ ?_
    · rw [spl_len _ _ _ hj, splice_size vs j us, hl]
    · intro c hc
      unfold spl at hc
      simp only [List.append_assoc, List.mem_append] at hc
      rcases hc with hc | hc | hc
      · exact hone c (List.mem_of_mem_take hc)
      · exact ho c hc
      · exact hone c (List.mem_of_mem_drop hc)
    · intro i c v hc hv
      rw [spl_get _ _ _ _ hj] at hc
      rw [splice_get j us.toList 0 vs i (by simp; omega)] at hv
      simp only [Nat.add_zero, Array.length_toList, hu] at hv
      split at hc
      · rename_i hi
        rw [if_pos hi] at hv
        exact hr _ c v hc (by simpa using hv)
      · rename_i hi
        rw [if_neg hi] at hv
        exact hrc i c v hc hv

theorem fill_run {place : Nat → Option (Nat × Nat)} {parts : List (Nat × Operand)} {qs : List (Nat × Nat × Ar)} (hE : EnvR (cxo μ s w sh fr) e a)
    (hq : qs.length = parts.length) (hp : ∀ (n : Nat) i x j k r, parts[n]? = some (i, x) → qs[n]? = some (j, k, r) → place i = some (j, k) ∧ okA x r = true) :
    ∀ {cs ds : List X} {vs : Array Value}, Rep (cxo μ s w sh fr) (.agg cs) (.agg vs) → fill e cs qs = some ds →
    ∃ us, Instr.fill place vs (parts.map fun (i, x) => (i, a.eval x)) = some us ∧ Rep (cxo μ s w sh fr) (.agg ds) (.agg us) := by
  induction qs generalizing parts with
  | nil =>
    intro cs ds vs hc hf
    have : parts = [] := List.eq_nil_of_length_eq_zero (by simpa using hq.symm)
    subst this
    simp only [fill, Option.some.injEq] at hf
    subst hf
    exact ⟨vs, rfl, hc⟩
  | cons q qs ih =>
    intro cs ds vs hc hf
    obtain ⟨j, k, r⟩ := q
    cases parts with
    | nil => simp at hq
    | cons p parts =>
      obtain ⟨i, x⟩ := p
      obtain ⟨hpl, hx⟩ := hp 0 i x j k r rfl rfl
      simp only [fill] at hf
      split at hf
      case isFalse => simp at hf
      rename_i hcond
      obtain ⟨hk, hjk, hone⟩ := hcond
      have hrx := okA_rep hE hx
      obtain ⟨h1, h2, h3⟩ := rep_cells hrx hone
      have hsz : vs.size = cs.length := by cases hc with | agg hl _ _ => exact hl.symm
      have hspl := rep_spl hc h1 (by simpa [List.all_eq_true] using hone) h2 (show j + (r.ev e).cells.length ≤ cs.length by omega)
      obtain ⟨us, hus, hr⟩ := ih (by simpa using hq) (fun n i' x' j' k' r' hn hm => hp (n + 1) i' x' j' k' r' (by simpa using hn) (by simpa using hm)) hspl hf
      refine ⟨us, ?_, hr⟩
      simp only [List.map_cons, Instr.fill, hpl]
      rw [if_neg (by simp; omega)]
      exact hus

theorem okFs_spec {fs : Array Field} : ∀ {parts : List (Nat × Operand)} {qs : List (Nat × Nat × Ar)}, okFs P fs parts qs = true →
    qs.length = parts.length ∧ ∀ (n : Nat) i x j k r, parts[n]? = some (i, x) → qs[n]? = some (j, k, r) → (∃ f, fs[i]? = some f ∧ f.offset = j ∧ szB P f.type k = true) ∧ okA x r = true := by
  intro parts
  induction parts with
  | nil => intro qs h; cases qs with
    | nil => exact ⟨rfl, by simp⟩
    | cons => simp [okFs] at h
  | cons p parts ih => intro qs h; cases qs with
    | nil => obtain ⟨i, x⟩ := p; simp [okFs] at h
    | cons q qs =>
      obtain ⟨i, x⟩ := p
      obtain ⟨j, k, r⟩ := q
      simp only [okFs, Bool.and_eq_true] at h
      obtain ⟨⟨h1, h2⟩, h3⟩ := h
      obtain ⟨i1, i2⟩ := ih h3
      refine ⟨by simp [i1], ?_⟩
      intro n i' x' j' k' r' hn hm
      cases n with
      | zero =>
        simp at hn hm
        obtain ⟨rfl, rfl⟩ := hn
        obtain ⟨rfl, rfl, rfl⟩ := hm
        split at h1
        · rename_i f hf; simp only [Bool.and_eq_true, beq_iff_eq] at h1; exact ⟨⟨f, hf, h1.1, h1.2⟩, h2⟩
        · simp at h1
      | succ n => exact i2 n i' x' j' k' r' (by simpa using hn) (by simpa using hm)
theorem okIs_spec {k : Nat} : ∀ {parts : List (Nat × Operand)} {qs : List (Nat × Nat × Ar)}, okIs k parts qs = true →
    qs.length = parts.length ∧ ∀ (n : Nat) i x j k' r, parts[n]? = some (i, x) → qs[n]? = some (j, k', r) → (i * k = j ∧ k' = k) ∧ okA x r = true := by
  intro parts
  induction parts with
  | nil => intro qs h; cases qs with
    | nil => exact ⟨rfl, by simp⟩
    | cons => simp [okIs] at h
  | cons p parts ih => intro qs h; cases qs with
    | nil => obtain ⟨i, x⟩ := p; simp [okIs] at h
    | cons q qs =>
      obtain ⟨i, x⟩ := p
      obtain ⟨j, k', r⟩ := q
      simp only [okIs, Bool.and_eq_true, beq_iff_eq] at h
      obtain ⟨⟨h1, h2⟩, h3⟩ := h
      obtain ⟨i1, i2⟩ := ih h3
      refine ⟨by simp [i1], ?_⟩
      intro n i' x' j' k' r' hn hm
      cases n with
      | zero =>
        simp at hn hm
        obtain ⟨rfl, rfl⟩ := hn
        obtain ⟨rfl, rfl, rfl⟩ := hm
        exact ⟨h1, h2⟩
      | succ n => exact i2 n i' x' j' k' r' (by simpa using hn) (by simpa using hm)

theorem snd_build (h : Inv w0 sh nt μ fr e s a w) {o : Oper} {t : TypeId} {ps : Array (Nat × Operand)} {z : List X} {qs : List (Nat × Nat × Ar)} (ho : o.op = .build t ps) (hok : okOp P (.build t ps) (.build z qs) = true)
    {cs : List X} (hc : fill e z qs = some cs) : OutS P w0 sh nt μ fr e s a w o (.agg cs) := by
  simp only [okOp, Bool.and_eq_true] at hok
  obtain ⟨hz, hd⟩ := hok
  obtain ⟨it, zv, hit, hzv, hzz⟩ := zeroB_spec hz
  have hzr := okZ_rep hzz (cxo μ s w sh fr)
  obtain ⟨vs, rfl⟩ : ∃ vs, zv = .agg vs := by
    cases hzr with
    | agg => exact ⟨_, rfl⟩
  have fin : ∀ us, P.built t (ps.toList.map fun (i, x) => (i, a.eval x)) = some us → Rep (cxo μ s w sh fr) (.agg cs) (.agg us) → OutS P w0 sh nt μ fr e s a w o (.agg cs) := by
    intro us hb hr
    refine outS_val h (v := .agg us) ?_ hr
    have hb' : P.built t (ps.map fun (i, x) => (i, a.eval x)).toList = some us := by simpa using hb
    simp [execOp, ho, run_build w t _ us hb']
  split at hd
  · rename_i fs hu
    simp only [Bool.and_eq_true] at hd
    obtain ⟨hall, hfs⟩ := hd
    obtain ⟨i1, i2⟩ := okFs_spec hfs
    have hall' : ∀ f ∈ fs.toList, ∃ i, P.info? f.type = some i := by
      intro f hf
      exact Option.isSome_iff_exists.1 (by simpa using (List.all_eq_true.1 hall) f hf)
    have hpl : fs.toList.mapM (fun f => (P.info? f.type).map fun i => (f.offset, i.size)) = some (fs.toList.map fun f => (f.offset, ((P.info? f.type).map (·.size)).getD 0)) := by
      generalize fs.toList = l at hall'
      induction l with
      | nil => rfl
      | cons f l ih =>
        obtain ⟨i, hi⟩ := hall' f (by simp)
        simp only [List.mapM_cons, hi, ih (fun f hf => hall' f (by simp [hf])), List.map_cons, Option.map_some, Option.getD_some]
        rfl
    obtain ⟨us, hus, hr⟩ := fill_run (e := e) (place := ((fs.toList.map fun f => (f.offset, ((P.info? f.type).map (·.size)).getD 0)).toArray[·]?)) h.env i1 (by
      intro n i x j k r hn hm
      obtain ⟨⟨f, hf, hfo, hfs⟩, hx⟩ := i2 n i x j k r hn hm
      refine ⟨?_, hx⟩
      have hf' : fs.toList[i]? = some f := by simpa using hf
      have hk : ((P.info? f.type).map (·.size)).getD 0 = k := by
        unfold szB at hfs
        split at hfs
        · rename_i i hi; simp only [beq_iff_eq] at hfs; simp [hi, hfs]
        · simp at hfs
      simp [hf', hfo, hk]) hzr hc
    refine fin us ?_ hr
    unfold Program.built
    simp only [hit, hu, hzv, hpl, Value.cells]
    exact hus
  · rename_i n el hu
    split at hd
    case h_2 => simp at hd
    rename_i ie hie
    obtain ⟨i1, i2⟩ := okIs_spec hd
    obtain ⟨us, hus, hr⟩ := fill_run (e := e) (place := fun i => some (i * ie.size, ie.size)) h.env i1 (by
      intro n i x j k r hn hm
      obtain ⟨⟨h1, h2⟩, hx⟩ := i2 n i x j k r hn hm
      exact ⟨by simp [h1, h2], hx⟩) hzr hc
    refine fin us ?_ hr
    unfold Program.built
    simp only [hit, hu, hzv, hie, Value.cells]
    exact hus
  · simp at hd

/-! ### variables that are made -/
/-- A new block in the world. -/
theorem Inv.allocO (h : Inv w0 sh nt μ fr e s a w) (o : Nat) (ob : Ob) (cs : Array Value) (t : TypeId)
    (hob : ∀ C', (cxo μ s w sh fr).Le C' → C'.w = w.alloc (.cells cs t) → ObR C' ob w.heap.size) :
    Inv w0 sh nt (upd μ o w.heap.size) fr e (newO s o ob) a (w.alloc (.cells cs t)) := by
  refine (h.change o w.heap.size ((s o).g + 1) ((s o).n + 1) ob (w.alloc (.cells cs t)) (by omega) (by omega) ?_ ?_ (.inl (Nat.le_refl _)) (fun hle => hob _ hle rfl)).1
  · exact (Below.refl _ _).alloc h.below.size _
  · intro k hk _; exact heap_alloc_old w _ k hk
/-- A new block that won't be written. -/
theorem Inv.allocI (h : Inv w0 sh nt μ fr e s a w) (o : Obj) :
    Inv w0 sh nt μ (fun b => fr b ∨ b = w.heap.size) e s a (w.alloc o) ∧ (cxo μ s w sh fr).Le (cxo μ s (w.alloc o) sh (fun b => fr b ∨ b = w.heap.size)) :=
  h.news (w.alloc o) ((Below.refl _ _).alloc (Nat.le_refl _) _) _ (fun _ h => .inl h) (fun b hb => hb.imp id (fun hb => ⟨by omega, by simp; omega⟩))

theorem heap_new (w : World) (cs : Array Value) (t : TypeId) : (w.alloc (.cells cs t)).heap[w.heap.size]? = some (.cells cs t (0, 0)) := heap_alloc_new w _

theorem box_rep {C : Cx} {x : X} {v : Value} (hx : Rep C x v) (ho : x.cells.all X.one = true) {t : TypeId} {b : Nat} {w' : World} (hh : w'.heap[b]? = some (.cells v.cells t (0, 0))) : ∀ C', C.Le C' → C'.w = w' → ObR C' (.box x) b := by
  intro C' hle hw
  obtain ⟨h1, h2, h3⟩ := rep_cells (hx.mono hle) ho
  exact ⟨v.cells, t, by rw [hw]; exact hh, h1, by simpa [List.all_eq_true] using ho, h2⟩

theorem box_run (t : TypeId) (v : Value) : (Instr.box t v).run P w = .ok (.pointer (some ⟨w.heap.size, 0, none⟩)) (w.alloc (.cells v.cells t)) := by
  simp [Instr.box, newVar, newRow]
theorem alloc_run {t : TypeId} {z : X} (hz : zeroB P t z = true) : ∃ v, okZ v z = true ∧ (Instr.alloc t true (.tuple #[])).run P w = .ok (.pointer (some ⟨w.heap.size, 0, none⟩)) (w.alloc (.cells v.cells t)) := by
  obtain ⟨v, hv, hz'⟩ := zeroB_run hz w
  exact ⟨v, hz', by simp [Instr.alloc, hv, newVar, newRow]⟩

theorem snd_box (h : Inv w0 sh nt μ fr e s a w) {o : Oper} {n : Nat} {r : Ar} {t : TypeId}
    (hrun : ∃ v, Rep (cxo μ s w sh fr) (r.ev e) v ∧ (execOp a.eval o).run P w = .ok (.value (.pointer (some ⟨w.heap.size, 0, none⟩))) (w.alloc (.cells v.cells t)))
    (ho : (r.ev e).cells.all X.one = true) : Out P w0 sh nt e a w o (.ptr n ((s n).g + 1) 0) (newO s n (.box (r.ev e))) := by
  obtain ⟨v, hv, hr⟩ := hrun
  have hI := h.allocO n (.box (r.ev e)) v.cells t (box_rep hv ho (heap_new w _ _))
  refine ⟨_, _, _, _, _, hr, .inl rfl, hI, ?_⟩
  exact .ptr (by omega) (by simp [cxo, newO, upd_same]) (fun _ => by simp [cxo, upd_same]) rfl
theorem snd_boxI (h : Inv w0 sh nt μ fr e s a w) {o : Oper} {r : Ar} {t : TypeId}
    (hrun : ∃ v, Rep (cxo μ s w sh fr) (r.ev e) v ∧ (execOp a.eval o).run P w = .ok (.value (.pointer (some ⟨w.heap.size, 0, none⟩))) (w.alloc (.cells v.cells t)))
    (ho : (r.ev e).cells.all X.one = true) : OutS P w0 sh nt μ fr e s a w o (.ip (r.ev e) 0) := by
  obtain ⟨v, hv, hr⟩ := hrun
  obtain ⟨hI, hle⟩ := h.allocI (.cells v.cells t)
  obtain ⟨h1, h2, h3⟩ := rep_cells (hv.mono hle) ho
  refine ⟨_, _, _, _, hr, .inl rfl, hI, ?_⟩
  have := Rep.ip (C := cxo μ s (w.alloc (.cells v.cells t)) sh (fun b => fr b ∨ b = w.heap.size)) (x := r.ev e) (j := 0) (b := w.heap.size) (off := 0) (fun l => v.cells.getD l undef) (.inl (.inr rfl)) (by
    intro l c hl
    have hlt : l < v.cells.size := by have := (List.getElem?_eq_some_iff.1 hl).1; omega
    refine ⟨?_, (List.all_eq_true.1 ho) c (List.mem_of_getElem? hl)⟩
    rw [Nat.zero_add]
    simp only [cxo]
    rw [cell_of_row _ _ _ _ t (0, 0) (heap_new w _ _)]
    simp [Array.getD_eq_getD_getElem?, Array.getElem?_eq_getElem hlt]) (by
    intro l c hl
    have hlt : l < v.cells.size := by have := (List.getElem?_eq_some_iff.1 hl).1; omega
    refine h2 l c _ hl ?_
    simp [Array.getD_eq_getD_getElem?, Array.getElem?_eq_getElem hlt])
  exact this
end
end Go.Proofs.YtoodknhlnifnlaaGreatDoor
