/- The engine, part D: when an operation of the abstract machine is one of the program's; small lemmas on standing for. -/
import Derived.Test.YtoodknhlnifnlaaGreatDoorC
set_option linter.all false
set_option linter.unusedVariables false
set_option linter.unusedSimpArgs false
namespace Go.Proofs.YtoodknhlnifnlaaGreatDoor
open Go.RowKit

def okK : Value → X → Bool
  | .int k n, .v (.int k' n') => k == k' && n == n'
  | .bool b, .v (.bool b') => b == b'
  | .string s, .v (.string s') => s.data.toList == s'.data.toList
  | .nilIface, .v .nilIface => true
  | .nilFunc, .v .nilFunc => true
  | .pointer none, .v (.pointer none) => true
  | .map none, .v (.map none) => true
  | .slice none 0 0, .nil => true
  | .slice none 0 0, .sl _ [] => true
  | _, _ => false
def okKL : List Value → List X → Bool
  | [], [] => true
  | v :: l, x :: m => okK v x && okKL l m
  | _, _ => false
def okZ : Value → X → Bool
  | .agg vs, .agg cs => okKL vs.toList cs
  | v, x => okK v x
def okA : Operand → Ar → Bool
  | .tmp t, .t n => t == n
  | .const v, .k x => okK v x
  | .func f, .k (.fn g []) => f == g
  | _, _ => false
def okAL : List Operand → List Ar → Bool
  | [], [] => true
  | x :: l, a :: m => okA x a && okAL l m
  | _, _ => false
def okAO : Option Operand → Option Ar → Bool
  | none, none => true
  | some x, some a => okA x a
  | _, _ => false

def szB (P : Program) (t : TypeId) (w : Nat) : Bool := match P.info? t with
  | some i => i.size == w
  | none => false
def aggB (P : Program) (t : TypeId) (ag : Bool) : Bool := match P.underlying t with
  | some (.struct _) | some (.array _ _) => ag
  | some _ => !ag
  | none => false
def zeroB (P : Program) (t : TypeId) (z : X) : Bool := match P.info? t with
  | some i => match i.zero with
    | some v => okZ v z
    | none => false
  | none => false
def byB (P : Program) (t : TypeId) (lim : Nat) : Bool := match P.info? t with
  | some i => decide (0 < i.bytes) && decide (lim * i.bytes ≤ 140737488355328)
  | none => false
def okFs (P : Program) (fs : Array Field) : List (Nat × Operand) → List (Nat × Nat × Ar) → Bool
  | [], [] => true
  | (i, x) :: l, (j, w, a) :: m => (match fs[i]? with
    | some f => f.offset == j && szB P f.type w
    | none => false) && okA x a && okFs P fs l m
  | _, _ => false
def okIs (k : Nat) : List (Nat × Operand) → List (Nat × Nat × Ar) → Bool
  | [], [] => true
  | (i, x) :: l, (j, w, a) :: m => (i * k == j && w == k) && okA x a && okIs k l m
  | _, _ => false
def okEs : List (Nat × Operand) → List (Nat × Ar) → Bool
  | [], [] => true
  | (i, x) :: l, (j, a) :: m => i == j && okA x a && okEs l m
  | _, _ => false
def scalT (P : Program) (t : TypeId) : Bool := match P.underlying t with
  | some (.int _) | some .string => true
  | _ => false
def boolT (P : Program) (t : TypeId) : Bool := match P.underlying t with
  | some .bool => true
  | _ => false

def okOp (P : Program) : Op → IOp → Bool
  | .move x, .mov a => okA x a
  | .assign x, .mov a => okA x a
  | .pick c x y, .pick c' a b => okA c c' && okA x a && okA y b
  | .alloc t, .box _ (.k z) => zeroB P t z
  | .box _ x, .box _ a => okA x a
  | .box _ x, .boxI a => okA x a
  | .alloc t, .boxI (.k z) => zeroB P t z
  | .build t ps, .build z qs => zeroB P t (.agg z) && (match P.underlying t with
    | some (.struct fs) => (fs.toList.all fun f => (P.info? f.type).isSome) && okFs P fs ps.toList qs
    | some (.array _ e) => match P.info? e with
      | some i => okIs i.size ps.toList qs
      | none => false
    | _ => false)
  | .buildSlice t n ps, .bsl _ k m z qs => (match P.underlying t with
    | some (.slice e) => szB P e k && zeroB P e z && decide (0 < k) && decide (z.cells.length = k)
    | _ => false) && n == m && decide (n * k ≤ 16777216) && okEs ps.toList qs && z.deep && z.cells.all X.one
  | .buildSlice t n ps, .bslI k m z qs => (match P.underlying t with
    | some (.slice e) => szB P e k && zeroB P e z && decide (0 < k) && decide (z.cells.length = k)
    | _ => false) && n == m && decide (n * k ≤ 16777216) && okEs ps.toList qs && z.deep && z.cells.all X.one
  | .load t x, .ld a w ag => szB P t w && aggB P t ag && okA x a
  | .store t x y, .st a b w => szB P t w && okA x a && okA y b
  | .nilCheck x, .nck a => okA x a
  | .binOp op t x y _, .bin op' a b => op == op' && okA x a && okA y b && scalT P t
  | .binOp .eql t x y _, .eqb false a b => okA x a && okA y b && boolT P t
  | .binOp .neq t x y _, .eqb true a b => okA x a && okA y b && boolT P t
  | .unOp op _ x, .un op' a => op == op' && okA x a
  | .convert src dst x, .conv k a => (P.underlying src).isSome && (match P.underlying dst with
    | some (.int k') => k == k'
    | _ => false) && okA x a
  | .convert src dst x, .cvs a => (match P.underlying src, P.underlying dst with
    | some .string, some .string => true
    | _, _ => false) && okA x a
  | .fieldAddr t x f, .fa a j => (match P.underlying t with
    | some (.struct fs) => match fs[f]? with
      | some f => f.offset == j && (match P.info? f.type with
        | some i => decide (i.size ≠ 0)
        | none => false)
      | none => false
    | _ => false) && okA x a
  | .field t x f, .fld a j w ag => (match P.underlying t with
    | some (.struct fs) => match fs[f]? with
      | some f => f.offset == j && szB P f.type w && aggB P f.type ag
      | none => false
    | _ => false) && okA x a
  | .indexAddr t x i, .ixa a b w => (match P.underlying t with
    | some (.slice e) => szB P e w
    | _ => false) && okA x a && okA i b
  | .indexAddr t x i, .ixp a b w n => (match P.underlying t with
    | some (.array m e) => szB P e w && m == n
    | _ => false) && okA x a && okA i b
  | .index t x i, .ixs a b => (match P.underlying t with
    | some .string => true
    | _ => false) && okA x a && okA i b
  | .index t x i, .ixv a b w n ag => (match P.underlying t with
    | some (.array m e) => szB P e w && aggB P e ag && m == n
    | _ => false) && okA x a && okA i b
  | .slice t x lo hi none, .sls a lo' hi' => (match P.underlying t with
    | some .string => true
    | _ => false) && okA x a && okAO lo lo' && okAO hi hi'
  | .slice t x lo hi none, .sli w a lo' hi' => (match P.underlying t with
    | some (.slice e) => szB P e w
    | _ => false) && okA x a && okAO lo lo' && okAO hi hi'
  | .makeSlice t n c, .mks _ k z a b lim => (match P.underlying t with
    | some (.slice e) => szB P e k && zeroB P e z && byB P e lim && decide (0 < k) && decide (z.cells.length = k)
    | _ => false) && okA n a && okA c b
  | .extract x i, .ext a j => okA x a && i == j
  | .makeFunc (.func f) fst cap, .mkf g l => f == g && fst.isEmpty && okAL cap.toList l
  | .call c, .len a => (match c.callee with
    | .builtin .len => true
    | _ => false) && (match c.argTypes[0]? with
    | some t => match P.underlying t with
      | some (.slice _) => true
      | _ => false
    | none => false) && okAL c.args.toList [a]
  | .call c, .lens a => (match c.callee with
    | .builtin .len => true
    | _ => false) && (match c.argTypes[0]? with
    | some t => match P.underlying t with
      | some .string => true
      | _ => false
    | none => false) && okAL c.args.toList [a]
  | .call c, .app _ k lim a b => (match c.callee with
    | .builtin .append => true
    | _ => false) && (match c.argTypes.toList with
    | [t, u] => t == u && (match P.underlying t with
      | some (.slice e) => szB P e k && byB P e lim && decide (0 < k) && (match P.info? e with
        | some i => i.zero.any fun z => z.cells.size == k
        | none => false)
      | _ => false)
    | _ => false) && okAL c.args.toList [a, b]
  | .call c, .mnmx mx a l => (match c.callee, mx with
    | .builtin .max, true => true
    | .builtin .min, false => true
    | _, _ => false) && okAL c.args.toList (a :: l)
  | _, _ => false

/-- A function that the machine enters. -/
def okFn (P : Program) (f : Nat) : Bool := match P.funcs[f]? with
  | some fn => fn.body.isSome && fn.name != "runtime.NumGoroutine"
  | none => false
def okCall (P : Program) : Op → IOp → Bool
  | .call c, .call _ f l => match c.callee with
    | .value (.func g) => f == g && okAL c.args.toList l && okFn P f
    | _ => false
  | .call c, .calli f l => match c.callee with
    | .value (.func g) => f == g && okAL c.args.toList l && okFn P f
    | _ => false
  | .call c, .callv _ f l => match c.callee with
    | .value x => okA x f && okAL c.args.toList l
    | _ => false
  | _, _ => false

/-! ### what the tests say -/
theorem okK_rep {v : Value} {x : X} (h : okK v x = true) (C : Cx) : Rep C x v := by
  unfold okK at h
  split at h
  case h_1 => simp only [Bool.and_eq_true, beq_iff_eq] at h; obtain ⟨rfl, rfl⟩ := h; exact .v rfl
  case h_2 => simp only [beq_iff_eq] at h; subst h; exact .v rfl
  case h_3 s s' =>
    simp only [beq_iff_eq] at h
    have : s = s' := by
      cases s; cases s'
      simp only [ByteArray.mk.injEq]
      exact Array.toList_inj.1 h
    subst this
    exact .v rfl
  case h_8 => exact .nil
  case h_9 => exact .sl0
  case h_10 => simp at h
  all_goals exact .v rfl
theorem okK_one {v : Value} {x : X} (h : okK v x = true) : x.one = true ∧ x.cells = [x] ∧ v.cells = #[v] ∧ v.oneCell' = true := by
  unfold okK at h
  split at h <;> first | exact ⟨rfl, rfl, rfl, rfl⟩ | simp at h
theorem okKL_rep : ∀ {l : List Value} {m : List X}, okKL l m = true → ∀ C, m.length = l.length ∧ (∀ c ∈ m, c.one = true) ∧ ∀ (j : Nat) c v, m[j]? = some c → l[j]? = some v → Rep C c v := by
  intro l
  induction l with
  | nil => intro m h C; cases m with
    | nil => exact ⟨rfl, by simp, by simp⟩
    | cons => simp [okKL] at h
  | cons v l ih => intro m h C; cases m with
    | nil => simp [okKL] at h
    | cons x m =>
      simp only [okKL, Bool.and_eq_true] at h
      obtain ⟨h1, h2, h3⟩ := ih h.2 C
      refine ⟨by simp [h1], ?_, ?_⟩
      · intro c hc
        cases hc with
        | head => exact (okK_one h.1).1
        | tail _ hc => exact h2 c hc
      · intro j c u hc hu
        cases j with
        | zero => simp at hc hu; subst hc; subst hu; exact okK_rep h.1 C
        | succ j => exact h3 j c u (by simpa using hc) (by simpa using hu)
theorem okZ_rep {v : Value} {x : X} (h : okZ v x = true) (C : Cx) : Rep C x v := by
  unfold okZ at h
  split at h
  · obtain ⟨h1, h2, h3⟩ := okKL_rep h C
    exact .agg (by simpa using h1) h2 (by simpa using h3)
  · exact okK_rep h C
theorem okZ_cells {v : Value} {x : X} (h : okZ v x = true) : x.cells.length = v.cells.size := by
  unfold okZ at h
  split at h
  · have := (okKL_rep h ⟨fun _ => 0, fun _ => 0, default, fun _ => False, fun _ => False⟩).1
    simpa [X.cells, Value.cells] using this
  · obtain ⟨_, h2, h3, _⟩ := okK_one h
    simp [h2, h3]

def EnvR (C : Cx) (e : Env) (a : Act) : Prop := ∀ n, Rep C (e n) (a.tmps.getD n undef)
theorem okA_rep {C : Cx} {e : Env} {a : Act} (hE : EnvR C e a) {x : Operand} {r : Ar} (h : okA x r = true) : Rep C (r.ev e) (a.eval x) := by
  unfold okA at h
  split at h
  · simp only [beq_iff_eq] at h; subst h; exact hE _
  · exact okK_rep h C
  · simp only [beq_iff_eq] at h; subst h; exact .fn rfl (by simp)
  · simp at h

variable {P : Program}
theorem szB_run {t : TypeId} {k : Nat} (h : szB P t k = true) (w : World) : (sizeOf t).run P w = .ok k w := by
  unfold szB at h
  split at h
  · rename_i i hi
    simp only [beq_iff_eq] at h
    simp [sizeOf, typeInfo, hi, h]
  · simp at h
theorem aggB_run {t : TypeId} {b : Bool} (h : aggB P t b = true) (w : World) : (isAgg t).run P w = .ok b w := by
  unfold aggB at h
  split at h
  · rename_i hu; simp [isAgg, run_underlying hu, h]
  · rename_i hu; simp [isAgg, run_underlying hu, h]
  · rename_i d h1 h2 hu
    have hb : b = false := by simpa using h
    subst hb
    simp only [isAgg, Sem.run_bind, run_underlying hu, Result.andThen_ok]
    cases d <;> first | rfl | (exfalso; exact h1 _ rfl) | (exfalso; exact h2 _ _ rfl)
  · simp at h
theorem zeroB_spec {t : TypeId} {z : X} (h : zeroB P t z = true) : ∃ i v, P.info? t = some i ∧ i.zero = some v ∧ okZ v z = true := by
  unfold zeroB at h
  split at h
  · rename_i i hi
    split at h
    · rename_i v hv; exact ⟨i, v, hi, hv, h⟩
    · simp at h
  · simp at h
theorem zeroB_run {t : TypeId} {z : X} (h : zeroB P t z = true) (w : World) : ∃ v, (zeroValue t).run P w = .ok v w ∧ okZ v z = true := by
  obtain ⟨i, v, hi, hv, hz⟩ := zeroB_spec h
  exact ⟨v, by simp [zeroValue, typeInfo, hi, hv], hz⟩

theorem one_cells {v : Value} (h : v.oneCell' = true) : v.cells = #[v] := by
  cases v <;> first | rfl | (simp [Value.oneCell'] at h; done)
theorem rep_cells1 {C : Cx} {x : X} {v : Value} (h : Rep C x v) (hc : x.cells = [x]) (ho : x.one = true) :
    v.cells.size = x.cells.length ∧ (∀ (j : Nat) c u, x.cells[j]? = some c → v.cells[j]? = some u → Rep C c u) ∧ ∀ u ∈ v.cells, u.oneCell' = true := by
  have h1 := h.one ho
  have h2 := one_cells h1
  rw [h2, hc]
  refine ⟨rfl, fun j c u hj hu => ?_, fun u hu => ?_⟩
  · cases j with
    | zero => simp at hj hu; subst hj; subst hu; exact h
    | succ j => simp at hj
  · simp at hu; subst hu; exact h1
/-- The cells of a value. -/
theorem rep_cells {C : Cx} {x : X} {v : Value} (h : Rep C x v) (ho : x.cells.all X.one = true) :
    v.cells.size = x.cells.length ∧ (∀ (j : Nat) c u, x.cells[j]? = some c → v.cells[j]? = some u → Rep C c u) ∧ ∀ u ∈ v.cells, u.oneCell' = true := by
  cases x with
  | agg cs =>
    cases h with
    | agg hl hone hc =>
      rename_i vs
      refine ⟨by simpa [Value.cells, X.cells] using hl.symm, by simpa [Value.cells, X.cells] using hc, ?_⟩
      intro u hu
      obtain ⟨j, hj, rfl⟩ := Array.mem_iff_getElem.1 hu
      have hj0 : j < vs.size := by simpa [Value.cells] using hj
      have hj' : j < cs.length := by omega
      exact (hc j cs[j] _ (List.getElem?_eq_getElem hj') (by simp [Value.cells, Array.getElem?_eq_getElem hj0])).one (hone _ (List.getElem_mem hj'))
  | _ => exact rep_cells1 h rfl (by simpa [X.cells] using ho)

/-- A part of cells that lie in memory, as it is loaded. -/
theorem load_part {C : Cx} {cs : List X} {b off : Nat} {val : Nat → Value} {t : TypeId} {j k : Nat} {ag : Bool} {x : X}
    (hc : ∀ l c, cs[l]? = some c → C.w.cell? ⟨b, off + l, none⟩ = some (val l) ∧ c.one = true) (hr : ∀ l c, cs[l]? = some c → Rep C c (val l))
    (hs : szB P t k = true) (ha : aggB P t ag = true) (hp : partX cs j k ag = some x) : ∃ v, (loadVar t ⟨b, off + j, none⟩).run P C.w = .ok v C.w ∧ Rep C x v := by
  unfold partX at hp
  split at hp
  case isFalse => simp at hp
  rename_i hle
  cases ag with
  | true =>
    simp only [if_true, Option.some.injEq] at hp
    subst hp
    have hl := run_loadCells (P := P) C.w ⟨b, off + j, none⟩ k (fun l => val (j + l)) (fun l hlt => by
      have h1 : ((⟨b, off + j, none⟩ : Addr).add l) = ⟨b, off + (j + l), none⟩ := by unfold Addr.add; split <;> simp_all <;> omega
      rw [h1]
      exact (hc (j + l) cs[j + l] (List.getElem?_eq_getElem (by omega))).1)
    refine ⟨.agg ((List.range k).map fun l => val (j + l)).toArray, by simp [loadVar, aggB_run ha, szB_run hs, hl], ?_⟩
    refine .agg (by simp; omega) ?_ ?_
    · intro c hcm
      obtain ⟨l, hl', he⟩ := List.mem_iff_getElem.1 hcm
      simp only [List.length_take, List.length_drop] at hl'
      exact (hc (j + l) c (by rw [← he]; simp)).2
    · intro l c v hlc hlv
      rw [List.getElem?_take] at hlc
      split at hlc
      · rename_i hlk
        rw [List.getElem?_drop] at hlc
        have : v = val (j + l) := by simp [hlk] at hlv; exact hlv.symm
        subst this
        exact hr _ _ hlc
      · simp at hlc
  | false =>
    simp only [Bool.false_eq_true, if_false] at hp
    split at hp
    · exact ⟨val j, by simp [loadVar, aggB_run ha, (hc _ _ hp).1], hr _ _ hp⟩
    · simp at hp

/-- A part of a value. -/
theorem part_part {C : Cx} {cs : List X} {vs : Array Value} {t : TypeId} {j k : Nat} {ag : Bool} {x : X} (h : Rep C (.agg cs) (.agg vs))
    (hs : szB P t k = true) (ha : aggB P t ag = true) (hp : partX cs j k ag = some x) (w : World) : ∃ v, (part t vs j).run P w = .ok v w ∧ Rep C x v := by
  cases h with
  | agg hl hone hr =>
    unfold partX at hp
    split at hp
    case isFalse => simp at hp
    rename_i hle
    cases ag with
    | true =>
      simp only [if_true, Option.some.injEq] at hp
      subst hp
      refine ⟨.agg (vs.extract j (j + k)), by simp [part, aggB_run ha, szB_run hs], .agg (by simp; omega) ?_ ?_⟩
      · intro c hcm
        exact hone c (List.mem_of_mem_drop (List.mem_of_mem_take hcm))
      · intro l c v hlc hlv
        rw [List.getElem?_take] at hlc
        split at hlc
        · rw [List.getElem?_drop] at hlc
          refine hr _ _ _ hlc ?_
          rw [Array.getElem?_extract] at hlv
          split at hlv
          · exact hlv
          · simp at hlv
        · simp at hlc
    | false =>
      simp only [Bool.false_eq_true, if_false] at hp
      split at hp
      · have hj : j < vs.size := by omega
        exact ⟨vs[j], by simp [part, aggB_run ha, Array.getElem?_eq_getElem hj], hr _ _ _ hp (Array.getElem?_eq_getElem hj)⟩
      · simp at hp

end Go.Proofs.YtoodknhlnifnlaaGreatDoor
