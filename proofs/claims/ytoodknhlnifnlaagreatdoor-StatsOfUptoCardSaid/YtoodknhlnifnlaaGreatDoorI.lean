/- The engine, part I: loads, lengths, cuts, the least and the greatest, structs and slices that are built. -/
import Derived.Test.YtoodknhlnifnlaaGreatDoorH
set_option linter.all false
set_option linter.unusedVariables false
set_option linter.unusedSimpArgs false
namespace Go.Proofs.YtoodknhlnifnlaaGreatDoor
open Go.RowKit
variable {P : Program}
section
variable {w0 : Bs} {sh : Nat → Prop} {nt : Nat} {μ : Nat → Nat} {fr : Nat → Prop} {e : Env} {s : Sto} {a : Act} {w : World}

theorem ldX_run (h : Inv w0 sh nt μ fr e s a w) {x y : X} {v : Value} {k : Nat} {ag : Bool} {t : TypeId} (hx : Rep (cxo μ s w sh fr) x v) (hy : ldX s x k ag = some y) (hs : szB P t k = true) (ha : aggB P t ag = true) :
    ∃ ad u, v = .pointer (some ad) ∧ (loadVar t ad).run P w = .ok u w ∧ Rep (cxo μ s w sh fr) y u := by
  unfold ldX at hy
  split at hy
  · rename_i o g j
    split at hy
    case h_2 => simp at hy
    rename_i z ho
    split at hy
    case isFalse => simp at hy
    rename_i hg
    cases hx with
    | ptr h1 hg' hv _ =>
      obtain ⟨⟨cs, t', hh, hsz, hone, hr⟩, _⟩ := h.obj o _ ho
      have hcell : ∀ l c, z.cells[l]? = some c → (cxo μ s w sh fr).w.cell? ⟨μ o, 0 + l, none⟩ = some (cs.getD l undef) ∧ c.one = true := by
        intro l c hl
        have hlt : l < cs.size := by have := (List.getElem?_eq_some_iff.1 hl).1; omega
        refine ⟨?_, hone c (List.mem_of_getElem? hl)⟩
        rw [Nat.zero_add, cell_of_row _ _ _ cs t' (0, 0) hh, Array.getElem?_eq_getElem hlt]
        simp [Array.getD_eq_getD_getElem?, Array.getElem?_eq_getElem hlt]
      obtain ⟨u, hu, hu'⟩ := load_part (P := P) (C := cxo μ s w sh fr) (b := μ o) (off := 0) (val := fun l => cs.getD l undef) hcell (fun l c hl => hr l c _ hl (by
        have hlt : l < cs.size := by have := (List.getElem?_eq_some_iff.1 hl).1; omega
        simp [Array.getD_eq_getD_getElem?, Array.getElem?_eq_getElem hlt])) hs ha hy
      exact ⟨_, u, hv hg.symm, by simpa [cxo] using hu, hu'⟩
  · rename_i o g k0 i j
    split at hy
    case h_2 => simp at hy
    rename_i k' es ho
    split at hy
    case isFalse => simp at hy
    rename_i hc
    obtain ⟨hg, rfl, hjk⟩ := hc
    split at hy
    case h_2 => simp at hy
    rename_i z hz
    cases hx with
    | ep h1 hg' hv _ =>
      obtain ⟨⟨cs, t', hh, hsz, _, _, hw, hr⟩, _⟩ := h.obj o _ ho
      have hzl := hw z (List.mem_of_getElem? hz)
      have hilt := (List.getElem?_eq_some_iff.1 hz).1
      have hcell : ∀ l c, z.cells[l]? = some c → (cxo μ s w sh fr).w.cell? ⟨μ o, i * k0 + l, none⟩ = some (cs.getD (i * k0 + l) undef) ∧ c.one = true := by
        intro l c hl
        have hlk : l < k0 := by have := (List.getElem?_eq_some_iff.1 hl).1; omega
        have hlt : i * k0 + l < cs.size := idx_lt hilt hlk hsz
        refine ⟨?_, hzl.2.2 c (List.mem_of_getElem? hl)⟩
        rw [cell_of_row _ _ _ cs t' (0, 0) hh, Array.getElem?_eq_getElem hlt]
        simp [Array.getD_eq_getD_getElem?, Array.getElem?_eq_getElem hlt]
      obtain ⟨u, hu, hu'⟩ := load_part (P := P) (C := cxo μ s w sh fr) (b := μ o) (off := i * k0) (val := fun l => cs.getD (i * k0 + l) undef) hcell (fun l c hl => hr i z l c _ hz hl (by
        have hlk : l < k0 := by have := (List.getElem?_eq_some_iff.1 hl).1; omega
        have hlt : i * k0 + l < cs.size := idx_lt hilt hlk hsz
        simp [Array.getD_eq_getD_getElem?, Array.getElem?_eq_getElem hlt])) hs ha hy
      exact ⟨_, u, hv hg.symm, by simpa [cxo] using hu, hu'⟩
  · rename_i z j
    cases hx with
    | ip val hb hc hr =>
      obtain ⟨u, hu, hu'⟩ := load_part (P := P) (C := cxo μ s w sh fr) hc hr hs ha hy
      exact ⟨_, u, rfl, by simpa [cxo] using hu, hu'⟩
  · simp at hy

theorem snd_ld (h : Inv w0 sh nt μ fr e s a w) {o : Oper} {t : TypeId} {x : Operand} {r : Ar} {k : Nat} {ag : Bool} (ho : o.op = .load t x) (hs : szB P t k = true) (ha : aggB P t ag = true) (hx : okA x r = true)
    {y : X} (hy : ldX s (r.ev e) k ag = some y) : OutS P w0 sh nt μ fr e s a w o y := by
  obtain ⟨ad, u, hv, hu, hu'⟩ := ldX_run h (okA_rep h.env hx) hy hs ha
  exact outS_val h (v := u) (by simp [execOp, ho, hv, Instr.loadAt, Instr.sureAddr, hu]) hu'

theorem one_arg {c : Call} (h : 1 = c.args.toList.length) : ∃ y, c.args = #[y] := by
  obtain ⟨callee, args, tys⟩ := c
  obtain ⟨l⟩ := args
  match l, h with
  | [y], _ => exact ⟨y, rfl⟩
theorem snd_lens (h : Inv w0 sh nt μ fr e s a w) {o : Oper} {t : TypeId} {c : Call} {r : Ar} (ho : o.op = .call c) (hc : c.callee = .builtin .len) (ht : c.argTypes[0]? = some t) (hd : P.underlying t = some .string)
    (hl : okAL c.args.toList [r] = true) {b : ByteArray} (hb : r.ev e = .v (.string b)) : OutS P w0 sh nt μ fr e s a w o (.v (.int .i64 b.size)) := by
  obtain ⟨h1, h2⟩ := okAL_rep h.env hl
  obtain ⟨y, hy⟩ := one_arg h1
  have hr := h2 0 r y rfl (by simp [hy])
  rw [hb] at hr
  exact outS_val h (v := .int .i64 b.size) (by simp [execOp, ho, resolve, hc, hy, invoke, builtin, (rep_v hr).1, Builtin.len_, ht, run_underlying hd, goInt]) (.v rfl)
theorem snd_len (h : Inv w0 sh nt μ fr e s a w) {o : Oper} {t el : TypeId} {c : Call} {r : Ar} (ho : o.op = .call c) (hc : c.callee = .builtin .len) (ht : c.argTypes[0]? = some t) (hd : P.underlying t = some (.slice el))
    (hl : okAL c.args.toList [r] = true) {n : Int} {x : X} (hx : r.ev e = x) (hn : (∃ f es, x = .sl f es ∧ n = es.length) ∨ (∃ o g k i m, x = .ref o g k i m ∧ (s o).g = g ∧ n = m) ∨ x = .nil ∧ n = 0) : OutS P w0 sh nt μ fr e s a w o (.v (.int .i64 n)) := by
  obtain ⟨h1, h2⟩ := okAL_rep h.env hl
  obtain ⟨y, hy⟩ := one_arg h1
  have hr := h2 0 r y rfl (by simp [hy])
  rw [hx] at hr
  have : ∃ ad m cp, a.eval y = .slice ad m cp ∧ (m : Int) = n := by
    generalize a.eval y = v at hr
    rcases hn with ⟨f, es, rfl, rfl⟩ | ⟨o', g, k, i, m, rfl, hg, rfl⟩ | ⟨rfl, rfl⟩
    · cases hr with
      | sl0 => exact ⟨_, _, _, rfl, rfl⟩
      | sl val hnl _ _ _ _ _ _ _ => exact ⟨_, _, _, rfl, by omega⟩
    · cases hr with
      | ref _ _ hv _ => obtain ⟨cap, rfl, _⟩ := hv hg; exact ⟨_, _, _, rfl, rfl⟩
    · cases hr with
      | nil => exact ⟨_, _, _, rfl, rfl⟩
  obtain ⟨ad, m, cp, hv, hm⟩ := this
  exact outS_val h (v := .int .i64 n) (by simp [execOp, ho, resolve, hc, hy, invoke, builtin, hv, Builtin.len_, ht, run_underlying hd, goInt, hm]) (.v rfl)

theorem mnxL_run (mx : Bool) : ∀ {l : List Ar} {xs : List Operand}, okAL xs l = true → EnvR (cxo μ s w sh fr) e a → ∀ {u z : Value}, plain u = true → mnxL mx e u l = some z →
    ((xs.map a.eval).foldlM (if mx then Builtin.max2 else Builtin.min2) u).run P w = .ok z w ∧ plain z = true := by
  intro l
  induction l with
  | nil => intro xs h hE u z hu hz; cases xs with
    | nil => simp only [mnxL, Option.some.injEq] at hz; subst hz; exact ⟨by simp, hu⟩
    | cons => simp [okAL] at h
  | cons r l ih => intro xs h hE u z hu hz; cases xs with
    | nil => simp [okAL] at h
    | cons x xs =>
      simp only [okAL, Bool.and_eq_true] at h
      simp only [mnxL] at hz
      split at hz
      case h_2 => simp at hz
      rename_i y hy
      split at hz
      case h_2 => simp at hz
      rename_i u' hu'
      have hx := okA_rep hE h.1
      rw [hy] at hx
      obtain ⟨h1, h2⟩ := mnx_run (P := P) hu' w
      obtain ⟨h3, h4⟩ := ih h.2 hE h2 hz
      refine ⟨?_, h4⟩
      cases mx <;> simp only [Bool.false_eq_true, if_false, if_true] at h1 h3 ⊢ <;> simp [(rep_v hx).1, h1, h3]

theorem snd_mnmx (h : Inv w0 sh nt μ fr e s a w) {o : Oper} {c : Call} {mx : Bool} {r : Ar} {l : List Ar} (ho : o.op = .call c) (hc : c.callee = .builtin (if mx then .max else .min)) (hl : okAL c.args.toList (r :: l) = true)
    {u z : Value} (hu : r.ev e = .v u) (hz : mnxL mx e u l = some z) : OutS P w0 sh nt μ fr e s a w o (.v z) := by
  obtain ⟨x, xs, hx⟩ : ∃ x xs, c.args.toList = x :: xs := by
    cases hq : c.args.toList with
    | nil => rw [hq] at hl; simp [okAL] at hl
    | cons x xs => exact ⟨x, xs, rfl⟩
  rw [hx] at hl
  simp only [okAL, Bool.and_eq_true] at hl
  have h1 := okA_rep h.env hl.1
  rw [hu] at h1
  obtain ⟨hv, hp⟩ := rep_v h1
  obtain ⟨h2, h3⟩ := mnxL_run (P := P) mx hl.2 h.env hp hz
  have hm : (c.args.map a.eval).toList = a.eval x :: xs.map a.eval := by simp [hx]
  refine outS_val h (v := z) ?_ (.v h3)
  cases mx
  · simp only [Bool.false_eq_true, if_false] at hc h2
    simp [execOp, ho, resolve, hc, invoke, builtin, Builtin.min_, hx, hv, h2]
  · simp only [if_true] at hc h2
    simp [execOp, ho, resolve, hc, invoke, builtin, Builtin.max_, hx, hv, h2]

/-! ### cuts -/
theorem bnd_run {x : Option Operand} {r : Option Ar} {d y n : Nat} {c : BoundsCode} (hE : EnvR (cxo μ s w sh fr) e a) (hx : okAO x r = true) (hb : bnd e r d y = some n) :
    (∀ q, x = some q → (Instr.sliceBound (a.eval q) y c).run P w = .ok n w) ∧ (x = none → n = d) ∧ (x.isSome = true → n ≤ y) := by
  unfold okAO at hx
  split at hx
  · simp only [bnd, Option.some.injEq] at hb; subst hb; exact ⟨by simp, fun _ => rfl, by simp⟩
  · rename_i q r'
    simp only [bnd] at hb
    split at hb
    case h_2 => simp at hb
    rename_i i hi
    split at hb
    case isFalse => simp at hb
    rename_i hc
    simp only [Option.some.injEq] at hb
    obtain ⟨k, hk⟩ := asI_rep (okA_rep hE hx) hi
    refine ⟨?_, by simp, fun _ => by omega⟩
    intro q' hq
    simp only [Option.some.injEq] at hq; subst hq
    simp [Instr.sliceBound, hk, asIntOf, hc, hb]
  · simp at hx

theorem bounds_run {isS : Bool} {xl xh : Option Operand} {rl rh : Option Ar} {n cap h l : Nat} (hE : EnvR (cxo μ s w sh fr) e a) (hlo : okAO xl rl = true) (hhi : okAO xh rh = true)
    (hh : bnd e rh n n = some h) (hl : bnd e rl 0 h = some l) (hcap : n ≤ cap) : (Instr.sliceBounds isS n cap (xl.map a.eval) (xh.map a.eval) none).run P w = .ok (l, h, cap) w ∧ l ≤ h ∧ h ≤ n := by
  have hh' : bnd e rh n cap = some h := by
    unfold bnd at hh ⊢
    split at hh
    · exact hh
    · split at hh
      · split at hh
        · rename_i hc; rw [if_pos ⟨hc.1, by omega⟩]; exact hh
        · simp at hh
      · simp at hh
  obtain ⟨a1, a2, a3⟩ := bnd_run (P := P) (c := if isS then .sliceAcap else .sliceAlen) hE hhi hh'
  obtain ⟨b1, b2, b3⟩ := bnd_run (P := P) (c := .sliceB) hE hlo hl
  have hn : h ≤ n := by
    obtain ⟨_, c2, c3⟩ := bnd_run (P := P) (c := .sliceB) hE hhi hh
    cases xh with
    | none => rw [c2 rfl]; exact Nat.le_refl _
    | some q => exact c3 rfl
  refine ⟨?_, ?_, hn⟩
  · cases xh with
    | none =>
      have := a2 rfl; subst this
      cases xl with
      | none => have := b2 rfl; subst this; simp [Instr.sliceBounds]
      | some q => simp [Instr.sliceBounds, b1 q rfl]
    | some p =>
      cases xl with
      | none => have := b2 rfl; subst this; simp [Instr.sliceBounds, a1 p rfl]
      | some q => simp [Instr.sliceBounds, a1 p rfl, b1 q rfl]
  · cases xl with
    | none => rw [b2 rfl]; exact Nat.zero_le _
    | some q => exact b3 rfl

theorem snd_sls (h : Inv w0 sh nt μ fr e s a w) {o : Oper} {t : TypeId} {x : Operand} {xl xh : Option Operand} {r : Ar} {rl rh : Option Ar} (ho : o.op = .slice t x xl xh none) (ht : P.underlying t = some .string)
    (hx : okA x r = true) (hlo : okAO xl rl = true) (hhi : okAO xh rh = true) {b : ByteArray} {l m : Nat} (hb : r.ev e = .v (.string b)) (hm : bnd e rh b.size b.size = some m) (hl : bnd e rl 0 m = some l) :
    OutS P w0 sh nt μ fr e s a w o (.v (.string (b.extract l m))) := by
  have h1 := okA_rep h.env hx
  rw [hb] at h1
  obtain ⟨h2, _⟩ := bounds_run (P := P) (isS := false) h.env hlo hhi hm hl (Nat.le_refl _)
  refine outS_val h (v := .string (b.extract l m)) ?_ (.v rfl)
  simp only [execOp, ho, (rep_v h1).1, Instr.sliceAt, Instr.slice, Sem.run_bind, run_underlying ht, Result.andThen_ok, Option.map_none, Option.isSome_none, Bool.false_eq_true, if_false, h2]
  rfl

theorem snd_sli (h : Inv w0 sh nt μ fr e s a w) {o : Oper} {t el : TypeId} {kw : Nat} {x : Operand} {xl xh : Option Operand} {r : Ar} {rl rh : Option Ar} (ho : o.op = .slice t x xl xh none) (ht : P.underlying t = some (.slice el)) (hi : szB P el kw = true)
    (hx : okA x r = true) (hlo : okAO xl rl = true) (hhi : okAO xh rh = true) {f : Bool} {es : List X} {l m : Nat} (hb : r.ev e = .sl f es) (hm : bnd e rh es.length es.length = some m) (hl : bnd e rl 0 m = some l)
    (hsz : ∀ y ∈ es, y.cells.length = kw) : OutS P w0 sh nt μ fr e s a w o (.sl f ((es.drop l).take (m - l))) := by
  have h1 := okA_rep h.env hx
  rw [hb] at h1
  have run : ∀ ad n c, a.eval x = .slice ad n c → n = es.length → n ≤ c → l ≤ m ∧ m ≤ es.length ∧ (execOp a.eval o).run P w = .ok (.value (.slice (if c = l then ad else ad.map (·.add (l * kw))) (m - l) (c - l))) w := by
    intro ad n c hv hn hcap
    subst hn
    obtain ⟨h2, h3, h4⟩ := bounds_run (P := P) (isS := true) h.env hlo hhi hm hl hcap
    refine ⟨h3, h4, ?_⟩
    simp only [execOp, ho, hv, Instr.sliceAt, Instr.slice, Sem.run_bind, run_underlying ht, Result.andThen_ok, Option.map_none, h2]
    simp [szB_run hi]
  generalize hv : a.eval x = v at h1
  cases h1 with
  | @sl0 f' ad cap =>
    obtain ⟨h2, h3, h4⟩ := run _ _ _ hv rfl (Nat.zero_le _)
    have : m = 0 := by simpa using h3
    subst this
    refine outS_val h h4 ?_
    simpa using Rep.sl0
  | @sl f es b off cap k n val hnl hcap hle hb' hw hcell hz hr =>
    obtain ⟨h2, h3, h4⟩ := run _ _ _ hv hnl hcap
    by_cases h0 : m - l = 0
    · rw [h0] at h4 ⊢
      exact outS_val h h4 (by simpa using Rep.sl0)
    · have hne : es ≠ [] := by rintro rfl; simp at h3; omega
      have hki : k = kw := by
        obtain ⟨y, hy⟩ := List.exists_mem_of_ne_nil _ hne
        rw [← hw y hy, hsz y hy]
      have hc : cap ≠ l := by omega
      rw [if_neg hc] at h4
      simp only [Option.map_some, add_off] at h4
      refine outS_val h h4 (Rep.sl (k := k) (fun q j => val (l + q) j) (by simp; omega) (by omega) (by simp; omega) hb' ?_ ?_ hz ?_)
      · intro y hy; exact hw y (List.mem_of_mem_drop (List.mem_of_mem_take hy))
      · intro q y j c hq hj
        have hq' : es[l + q]? = some y := by
          rw [List.getElem?_take] at hq
          split at hq
          · rwa [List.getElem?_drop] at hq
          · simp at hq
        have := hcell _ _ _ _ hq' hj
        rw [Nat.add_mul, ← Nat.add_assoc, hki] at this
        rw [hki]
        exact this
      · intro q y j c hq hj
        have hq' : es[l + q]? = some y := by
          rw [List.getElem?_take] at hq
          split at hq
          · rwa [List.getElem?_drop] at hq
          · simp at hq
        exact hr _ _ _ _ hq' hj
end
end Go.Proofs.YtoodknhlnifnlaaGreatDoor
