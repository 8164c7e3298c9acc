/- The engine, part H: each operation that writes no variable does in the machine what it does in the abstract one. -/
import Derived.Test.YtoodknhlnifnlaaGreatDoorG
set_option linter.all false
set_option linter.unusedVariables false
set_option linter.unusedSimpArgs false
namespace Go.Proofs.YtoodknhlnifnlaaGreatDoor
open Go.RowKit
variable {P : Program}

/-- What an operation that changes no variable leaves. -/
def OutS (P : Program) (w0 : Bs) (sh : Nat → Prop) (nt : Nat) (μ : Nat → Nat) (fr : Nat → Prop) (e : Env) (s : Sto) (a : Act) (w : World) (o : Oper) (x : X) : Prop :=
  ∃ n v w' fr', (execOp a.eval o).run P w = .ok n w' ∧ (n = .value v ∨ n = .skip ∧ v = undef) ∧ Inv w0 sh nt μ fr' e s a w' ∧ Rep (cxo μ s w' sh fr') x v
def Out (P : Program) (w0 : Bs) (sh : Nat → Prop) (nt : Nat) (e : Env) (a : Act) (w : World) (o : Oper) (x : X) (s' : Sto) : Prop :=
  ∃ n v w' μ' fr', (execOp a.eval o).run P w = .ok n w' ∧ (n = .value v ∨ n = .skip ∧ v = undef) ∧ Inv w0 sh nt μ' fr' e s' a w' ∧ Rep (cxo μ' s' w' sh fr') x v

section
variable {w0 : Bs} {sh : Nat → Prop} {nt : Nat} {μ : Nat → Nat} {fr : Nat → Prop} {e : Env} {s : Sto} {a : Act} {w : World}

theorem OutS.out {o : Oper} {x : X} (h : OutS P w0 sh nt μ fr e s a w o x) : Out P w0 sh nt e a w o x s := by
  obtain ⟨n, v, w', fr', h1, h2, h3, h4⟩ := h
  exact ⟨n, v, w', μ, fr', h1, h2, h3, h4⟩
theorem outS_val (h : Inv w0 sh nt μ fr e s a w) {o : Oper} {x : X} {v : Value} (hr : (execOp a.eval o).run P w = .ok (.value v) w) (hx : Rep (cxo μ s w sh fr) x v) :
    OutS P w0 sh nt μ fr e s a w o x := ⟨_, v, w, fr, hr, .inl rfl, h, hx⟩

/-- An operation, without its other parts. -/
def opr (op : Op) : Oper := { dst := none, op, type := 0, pos := "", after := #[], guard := none }

theorem snd_mov (h : Inv w0 sh nt μ fr e s a w) {o : Oper} {x : Operand} {r : Ar} (ho : o.op = .move x ∨ o.op = .assign x) (hx : okA x r = true) :
    OutS P w0 sh nt μ fr e s a w o (r.ev e) := by
  refine outS_val h (v := a.eval x) ?_ (okA_rep h.env hx)
  rcases ho with ho | ho <;> simp [execOp, ho]

theorem snd_pick (h : Inv w0 sh nt μ fr e s a w) {o : Oper} {c x y : Operand} {c' r1 r2 : Ar} (ho : o.op = .pick c x y) (hc : okA c c' = true) (hx : okA x r1 = true) (hy : okA y r2 = true)
    {t : Bool} (ht : c'.ev e = .v (.bool t)) : OutS P w0 sh nt μ fr e s a w o (cond t (r1.ev e) (r2.ev e)) := by
  have h1 := okA_rep h.env hc
  rw [ht] at h1
  have hcv := (rep_v h1).1
  cases t
  · exact outS_val h (v := a.eval y) (by simp [execOp, ho, hcv, asBool]) (okA_rep h.env hy)
  · exact outS_val h (v := a.eval x) (by simp [execOp, ho, hcv, asBool]) (okA_rep h.env hx)

theorem snd_nck (h : Inv w0 sh nt μ fr e s a w) {o : Oper} {x : Operand} {r : Ar} (ho : o.op = .nilCheck x) (hx : okA x r = true) {y : X} (hy : r.ev e = y)
    (hp : (∃ o g j, y = .ptr o g j ∧ (s o).g = g) ∨ (∃ o g k i j, y = .ep o g k i j ∧ (s o).g = g) ∨ ∃ z j, y = .ip z j) : OutS P w0 sh nt μ fr e s a w o y := by
  have h1 := okA_rep h.env hx
  rw [hy] at h1
  have : ∃ ad, a.eval x = .pointer (some ad) := by
    rcases hp with ⟨o, g, j, rfl, hg⟩ | ⟨o, g, k, i, j, rfl, hg⟩ | ⟨z, j, rfl⟩
    · cases h1 with
      | ptr _ _ hv _ => exact ⟨_, hv hg⟩
    · cases h1 with
      | ep _ _ hv _ => exact ⟨_, hv hg⟩
    · generalize a.eval x = v at h1 ⊢
      cases h1 with
      | ip val _ _ _ => exact ⟨_, rfl⟩
  obtain ⟨ad, had⟩ := this
  exact outS_val h (v := a.eval x) (by simp [execOp, ho, had]) h1

theorem snd_bin (h : Inv w0 sh nt μ fr e s a w) {o : Oper} {op : BinOp} {t yt : TypeId} {x y : Operand} {r1 r2 : Ar} (ho : o.op = .binOp op t x y yt) (hx : okA x r1 = true) (hy : okA y r2 = true) (ht : scalT P t = true)
    {u v z : Value} (hu : r1.ev e = .v u) (hv : r2.ev e = .v v) (hz : binV op u v = some z) : OutS P w0 sh nt μ fr e s a w o (.v z) := by
  have h1 := okA_rep h.env hx
  have h2 := okA_rep h.env hy
  rw [hu] at h1
  rw [hv] at h2
  obtain ⟨hb, hp⟩ := binV_run hz ht x y w
  rw [Sem.run_bind] at hb
  exact outS_val h (v := z) (by simp only [execOp, ho, (rep_v h1).1, (rep_v h2).1, Sem.run_bind, Result.andThen_ok]; rw [hb]; rfl) (.v hp)

theorem snd_eqb (h : Inv w0 sh nt μ fr e s a w) {o : Oper} {neg : Bool} {t yt : TypeId} {x y : Operand} {r1 r2 : Ar} (ho : o.op = .binOp (if neg then .neq else .eql) t x y yt) (hx : okA x r1 = true) (hy : okA y r2 = true) (ht : boolT P t = true)
    {u v : Bool} (hu : r1.ev e = .v (.bool u)) (hv : r2.ev e = .v (.bool v)) : OutS P w0 sh nt μ fr e s a w o (.v (.bool (if neg then !(u == v) else u == v))) := by
  have h1 := okA_rep h.env hx
  have h2 := okA_rep h.env hy
  rw [hu] at h1
  rw [hv] at h2
  obtain ⟨hb, hb'⟩ := eqb_run ht x y u v w
  rw [Sem.run_bind] at hb hb'
  cases neg
  · exact outS_val h (v := .bool (u == v)) (by simp only [execOp, ho, (rep_v h1).1, (rep_v h2).1, Sem.run_bind, Result.andThen_ok, Bool.false_eq_true, if_false]; rw [hb]; rfl) (.v rfl)
  · exact outS_val h (v := .bool (!(u == v))) (by simp only [execOp, ho, (rep_v h1).1, (rep_v h2).1, Sem.run_bind, Result.andThen_ok, if_true]; rw [hb']; rfl) (.v rfl)

theorem snd_un (h : Inv w0 sh nt μ fr e s a w) {o : Oper} {op : UnOp} {t : TypeId} {x : Operand} {r : Ar} (ho : o.op = .unOp op t x) (hx : okA x r = true)
    {u z : Value} (hu : r.ev e = .v u) (hz : unV op u = some z) : OutS P w0 sh nt μ fr e s a w o (.v z) := by
  have h1 := okA_rep h.env hx
  rw [hu] at h1
  obtain ⟨hb, hp⟩ := unV_run (P := P) hz w
  exact outS_val h (v := z) (by simp [execOp, ho, (rep_v h1).1, hb]) (.v hp)

theorem snd_conv (h : Inv w0 sh nt μ fr e s a w) {o : Oper} {src dst : TypeId} {x : Operand} {r : Ar} {k : IntKind} (ho : o.op = .convert src dst x) (hs : ∃ d, P.underlying src = some d) (hd : P.underlying dst = some (.int k)) (hx : okA x r = true)
    {k' : IntKind} {n : Int} (hu : r.ev e = .v (.int k' n)) : OutS P w0 sh nt μ fr e s a w o (.v (.int k (k.wrap n))) := by
  have h1 := okA_rep h.env hx
  rw [hu] at h1
  obtain ⟨d, hs⟩ := hs
  refine outS_val h (v := .int k (k.wrap n)) ?_ (.v rfl)
  have : (convert src dst (.int k' n)).run P w = .ok (.int k (k.wrap n)) w := by
    simp only [convert, Sem.run_bind, run_underlying hs, run_underlying hd, Result.andThen_ok]
    rfl
  simp [execOp, ho, (rep_v h1).1, this]

theorem snd_cvs (h : Inv w0 sh nt μ fr e s a w) {o : Oper} {src dst : TypeId} {x : Operand} {r : Ar} (ho : o.op = .convert src dst x) (hs : P.underlying src = some .string) (hd : P.underlying dst = some .string) (hx : okA x r = true)
    {b : ByteArray} (hu : r.ev e = .v (.string b)) : OutS P w0 sh nt μ fr e s a w o (.v (.string b)) := by
  have h1 := okA_rep h.env hx
  rw [hu] at h1
  refine outS_val h (v := .string b) ?_ (.v rfl)
  have : (convert src dst (.string b)).run P w = .ok (.string b) w := by
    simp only [convert, Sem.run_bind, run_underlying hs, run_underlying hd, Result.andThen_ok]
    rfl
  simp [execOp, ho, (rep_v h1).1, this]

theorem snd_ext (h : Inv w0 sh nt μ fr e s a w) {o : Oper} {x : Operand} {i : Nat} {r : Ar} (ho : o.op = .extract x i) (hx : okA x r = true)
    {cs : List X} {c : X} (hu : r.ev e = .tup cs) (hc : cs[i]? = some c) : OutS P w0 sh nt μ fr e s a w o c := by
  have h1 := okA_rep h.env hx
  rw [hu] at h1
  generalize hv : a.eval x = v at h1
  cases h1 with
  | tup hl hr =>
    rename_i vs
    have hi : i < vs.size := by have := (List.getElem?_eq_some_iff.1 hc).1; omega
    exact outS_val h (v := vs[i]) (by simp [execOp, ho, hv, Instr.extract, Array.getElem?_eq_getElem hi]) (hr i c _ hc (Array.getElem?_eq_getElem hi))

theorem okAL_rep {C : Cx} (hE : EnvR C e a) : ∀ {l : List Operand} {m : List Ar}, okAL l m = true → m.length = l.length ∧ ∀ (j : Nat) r x, m[j]? = some r → l[j]? = some x → Rep C (r.ev e) (a.eval x) := by
  intro l
  induction l with
  | nil => intro m h; cases m with
    | nil => exact ⟨rfl, by simp⟩
    | cons => simp [okAL] at h
  | cons x l ih => intro m h; cases m with
    | nil => simp [okAL] at h
    | cons r m =>
      simp only [okAL, Bool.and_eq_true] at h
      obtain ⟨h1, h2⟩ := ih h.2
      refine ⟨by simp [h1], ?_⟩
      intro j r' x' hr hx
      cases j with
      | zero => simp at hr hx; subst hr; subst hx; exact okA_rep hE h.1
      | succ j => exact h2 j r' x' (by simpa using hr) (by simpa using hx)

theorem snd_mkf (h : Inv w0 sh nt μ fr e s a w) {o : Oper} {f : Nat} {fst cap : Array Operand} {l : List Ar} (ho : o.op = .makeFunc (.func f) fst cap) (hf : fst.isEmpty = true) (hl : okAL cap.toList l = true) :
    OutS P w0 sh nt μ fr e s a w o (.fn f (l.map (Ar.ev e))) := by
  obtain ⟨h1, h2⟩ := okAL_rep h.env hl
  have hf' : fst = #[] := by simpa using hf
  refine outS_val h (v := .func (.func f) #[] (cap.map a.eval)) (by simp [execOp, ho, hf', Instr.makeFunc]) (.fn (by simpa using h1) ?_)
  intro j c v hc hv
  simp only [List.getElem?_map, Option.map_eq_some_iff] at hc
  obtain ⟨r, hr, rfl⟩ := hc
  simp only [Array.getElem?_map, Option.map_eq_some_iff] at hv
  obtain ⟨x, hx, rfl⟩ := hv
  exact h2 j r x hr (by simpa using hx)

/-! ### addresses -/
theorem fieldPlace_run {f : Field} {i : TypeInfo} (hi : P.info? f.type = some i) (hs : i.size ≠ 0) (b off : Nat) : (fieldPlace ⟨b, off, none⟩ f).run P w = .ok ⟨b, off + f.offset, none⟩ w := by
  simp [fieldPlace, sizeOf, typeInfo, hi, hs, add_off]

theorem snd_fa (h : Inv w0 sh nt μ fr e s a w) {o : Oper} {t : TypeId} {x : Operand} {n : Nat} {r : Ar} {fs : Array Field} {f : Field} {i : TypeInfo} (ho : o.op = .fieldAddr t x n) (ht : P.underlying t = some (.struct fs)) (hf : fs[n]? = some f)
    (hi : P.info? f.type = some i) (hs : i.size ≠ 0) (hx : okA x r = true) {y y' : X} (hy : r.ev e = y)
    (hp : (∃ o g j, y = .ptr o g j ∧ y' = .ptr o g (j + f.offset) ∧ (s o).g = g) ∨ (∃ o g k i j, y = .ep o g k i j ∧ y' = .ep o g k i (j + f.offset) ∧ (s o).g = g) ∨ ∃ z j, y = .ip z j ∧ y' = .ip z (j + f.offset)) :
    OutS P w0 sh nt μ fr e s a w o y' := by
  have h1 := okA_rep h.env hx
  rw [hy] at h1
  have run : ∀ b off, a.eval x = .pointer (some ⟨b, off, none⟩) → (execOp a.eval o).run P w = .ok (.value (.pointer (some ⟨b, off + f.offset, none⟩))) w := by
    intro b off hv
    have := fieldPlace_run (w := w) hi hs b off
    simp [execOp, ho, hv, Instr.fieldAt, run_underlying ht, hf, Instr.sureAddr, this]
  rcases hp with ⟨o', g, j, rfl, rfl, hg⟩ | ⟨o', g, k, i', j, rfl, rfl, hg⟩ | ⟨z, j, rfl, rfl⟩
  · generalize hv : a.eval x = v at h1
    cases h1 with
    | ptr h0 hg' hv' ho' => 
      rw [hv' hg] at hv
      exact outS_val h (run _ _ hv) (.ptr h0 hg' (fun _ => rfl) rfl)
  · generalize hv : a.eval x = v at h1
    cases h1 with
    | ep h0 hg' hv' ho' =>
      rw [hv' hg] at hv
      exact outS_val h (run _ _ hv) (.ep h0 hg' (fun _ => by simp only [Nat.add_assoc]) rfl)
  · generalize hv : a.eval x = v at h1
    cases h1 with
    | ip val hb hc hr =>
      refine outS_val h (run _ _ hv) ?_
      rw [Nat.add_assoc]
      exact .ip val hb hc hr

theorem snd_fld (h : Inv w0 sh nt μ fr e s a w) {o : Oper} {t : TypeId} {x : Operand} {n : Nat} {r : Ar} {fs : Array Field} {f : Field} {k : Nat} {ag : Bool} (ho : o.op = .field t x n) (ht : P.underlying t = some (.struct fs)) (hf : fs[n]? = some f)
    (hs : szB P f.type k = true) (ha : aggB P f.type ag = true) (hx : okA x r = true) {cs : List X} {y : X} (hy : r.ev e = .agg cs) (hp : partX cs f.offset k ag = some y) : OutS P w0 sh nt μ fr e s a w o y := by
  have h1 := okA_rep h.env hx
  rw [hy] at h1
  generalize hv : a.eval x = v at h1
  cases h1 with
  | agg hl hone hr =>
    obtain ⟨u, hu, hu'⟩ := part_part (P := P) (.agg hl hone hr) hs ha hp w
    exact outS_val h (v := u) (by simp [execOp, ho, hv, Instr.field, run_underlying ht, hf, asAgg, hu]) hu'

theorem snd_ixv (h : Inv w0 sh nt μ fr e s a w) {o : Oper} {t el : TypeId} {x i : Operand} {n k : Nat} {r1 r2 : Ar} {ag : Bool} (ho : o.op = .index t x i) (ht : P.underlying t = some (.array n el))
    (hs : szB P el k = true) (ha : aggB P el ag = true) (hx : okA x r1 = true) (hi : okA i r2 = true) {cs : List X} {y : X} {m : Int} (hy : r1.ev e = .agg cs) (hm : asI (r2.ev e) = some m) (h0 : 0 ≤ m) (hn : m < (n : Int))
    (hp : partX cs (m.toNat * k) k ag = some y) : OutS P w0 sh nt μ fr e s a w o y := by
  have h1 := okA_rep h.env hx
  obtain ⟨k', hk'⟩ := asI_rep (okA_rep h.env hi) hm
  rw [hy] at h1
  generalize hv : a.eval x = v at h1
  cases h1 with
  | agg hl hone hr =>
    obtain ⟨u, hu, hu'⟩ := part_part (P := P) (.agg hl hone hr) hs ha hp w
    exact outS_val h (v := u) (by simp [execOp, ho, hv, hk', Instr.index, asIntOf, run_underlying ht, h0, hn, szB_run hs, hu]) hu'

theorem snd_ixs (h : Inv w0 sh nt μ fr e s a w) {o : Oper} {t : TypeId} {x i : Operand} {r1 r2 : Ar} (ho : o.op = .index t x i) (ht : P.underlying t = some .string)
    (hx : okA x r1 = true) (hi : okA i r2 = true) {b : ByteArray} {m : Int} {c : UInt8} (hy : r1.ev e = .v (.string b)) (hm : asI (r2.ev e) = some m) (hc : (if 0 ≤ m then b[m.toNat]? else none) = some c) :
    OutS P w0 sh nt μ fr e s a w o (.v (.int .u8 c.toNat)) := by
  have h1 := okA_rep h.env hx
  obtain ⟨k', hk'⟩ := asI_rep (okA_rep h.env hi) hm
  rw [hy] at h1
  refine outS_val h (v := .int .u8 c.toNat) ?_ (.v rfl)
  simp only [execOp, ho, (rep_v h1).1, hk', Instr.index, asIntOf, Sem.run_bind, Sem.run_pure, Result.andThen_ok, run_underlying ht]
  rw [hc]
  rfl

theorem snd_ixa (h : Inv w0 sh nt μ fr e s a w) {o : Oper} {t el : TypeId} {x i : Operand} {k : Nat} {r1 r2 : Ar} (ho : o.op = .indexAddr t x i) (ht : P.underlying t = some (.slice el))
    (hs : szB P el k = true) (hx : okA x r1 = true) (hi : okA i r2 = true) {f : Bool} {es : List X} {y : X} {m : Int} (hy : r1.ev e = .sl f es) (hm : asI (r2.ev e) = some m) (h0 : 0 ≤ m) (hn : m < (es.length : Int))
    (hc : es[m.toNat]? = some y) (hk : y.cells.length = k) : OutS P w0 sh nt μ fr e s a w o (.ip y 0) := by
  have h1 := okA_rep h.env hx
  obtain ⟨k', hk'⟩ := asI_rep (okA_rep h.env hi) hm
  rw [hy] at h1
  generalize hv : a.eval x = v at h1
  cases h1 with
  | sl0 => simp at hc
  | @sl f es b off cap k1 n val hnl hcap hl hb hw hcell hz hr =>
    have hk1 : k1 = k := by rw [← hw y (List.mem_of_getElem? hc), hk]
    subst hk1
    refine outS_val h (v := .pointer (some ⟨b, off + m.toNat * k1, none⟩)) ?_ ?_
    · have : m < (n : Int) := by omega
      simp [execOp, ho, hv, hk', Instr.indexAt, asIntOf, run_underlying ht, h0, this, szB_run hs, add_off]
    · have := Rep.ip (C := cxo μ s w sh fr) (x := y) (j := 0) (b := b) (off := off + m.toNat * k1) (val m.toNat) (by
        rcases hb with hb | hb
        · exact .inl hb
        · exact .inr hb.2) (fun l c hl => hcell _ _ _ _ hc hl) (fun l c hl => hr _ _ _ _ hc hl)
      simpa using this

theorem snd_ixr (h : Inv w0 sh nt μ fr e s a w) {o : Oper} {t el : TypeId} {x i : Operand} {k : Nat} {r1 r2 : Ar} (ho : o.op = .indexAddr t x i) (ht : P.underlying t = some (.slice el))
    (hs : szB P el k = true) (hx : okA x r1 = true) (hi : okA i r2 = true) {o' g j n : Nat} {m : Int} (hy : r1.ev e = .ref o' g k j n) (hm : asI (r2.ev e) = some m) (h0 : 0 ≤ m) (hn : m < (n : Int)) (hg : (s o').g = g) :
    OutS P w0 sh nt μ fr e s a w o (.ep o' g k (j + m.toNat) 0) := by
  have h1 := okA_rep h.env hx
  obtain ⟨k', hk'⟩ := asI_rep (okA_rep h.env hi) hm
  rw [hy] at h1
  generalize hv : a.eval x = v at h1
  cases h1 with
  | ref h1 hg' hv' ho' =>
    obtain ⟨cap, rfl, _⟩ := hv' hg
    refine outS_val h (v := .pointer (some ⟨μ o', j * k + m.toNat * k, none⟩)) ?_ (.ep h1 hg' (fun _ => by simp [cxo, Nat.add_mul]) rfl)
    simp [execOp, ho, hv, hk', Instr.indexAt, asIntOf, run_underlying ht, h0, hn, szB_run hs, add_off, cxo]

theorem snd_ixp (h : Inv w0 sh nt μ fr e s a w) {o : Oper} {t el : TypeId} {x i : Operand} {k n : Nat} {r1 r2 : Ar} (ho : o.op = .indexAddr t x i) (ht : P.underlying t = some (.array n el))
    (hs : szB P el k = true) (hx : okA x r1 = true) (hi : okA i r2 = true) {m : Int} (hm : asI (r2.ev e) = some m) (h0 : 0 ≤ m) (hn : m < (n : Int)) {y y' : X} (hy : r1.ev e = y)
    (hp : (∃ o g j, y = .ptr o g j ∧ y' = .ptr o g (j + m.toNat * k) ∧ (s o).g = g) ∨ ∃ z j, y = .ip z j ∧ y' = .ip z (j + m.toNat * k)) :
    OutS P w0 sh nt μ fr e s a w o y' := by
  have h1 := okA_rep h.env hx
  obtain ⟨k', hk'⟩ := asI_rep (okA_rep h.env hi) hm
  rw [hy] at h1
  have run : ∀ b off, a.eval x = .pointer (some ⟨b, off, none⟩) → (execOp a.eval o).run P w = .ok (.value (.pointer (some ⟨b, off + m.toNat * k, none⟩))) w := by
    intro b off hv
    simp [execOp, ho, hv, hk', Instr.indexAt, asIntOf, run_underlying ht, Instr.sureAddr, h0, hn, szB_run hs, add_off]
  rcases hp with ⟨o', g, j, rfl, rfl, hg⟩ | ⟨z, j, rfl, rfl⟩
  · generalize hv : a.eval x = v at h1
    cases h1 with
    | ptr h0 hg' hv' ho' =>
      rw [hv' hg] at hv
      exact outS_val h (run _ _ hv) (.ptr h0 hg' (fun _ => rfl) rfl)
  · generalize hv : a.eval x = v at h1
    cases h1 with
    | ip val hb hc hr =>
      refine outS_val h (run _ _ hv) ?_
      rw [Nat.add_assoc]
      exact .ip val hb hc hr
end
end Go.Proofs.YtoodknhlnifnlaaGreatDoor
