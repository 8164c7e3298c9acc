/- The engine, part E: operations on numbers, texts and truth values; those that only read. -/
import Derived.Test.YtoodknhlnifnlaaGreatDoorD
set_option linter.all false
set_option linter.unusedVariables false
set_option linter.unusedSimpArgs false
namespace Go.Proofs.YtoodknhlnifnlaaGreatDoor
open Go.RowKit
variable {P : Program}

theorem eqGuard_int (op : BinOp) (t : TypeId) (x y : Operand) (k k' : IntKind) (a b : Int) (w : World) : (eqGuard op t x y (.int k a) (.int k' b)).run P w = .ok () w := by
  cases op <;> rfl
theorem eqGuard_str (op : BinOp) (t : TypeId) (x y : Operand) (a b : ByteArray) (w : World) : (eqGuard op t x y (.string a) (.string b)).run P w = .ok () w := by
  cases op <;> rfl
theorem eqGuard_bool (op : BinOp) (t : TypeId) (x y : Operand) (a b : Bool) (w : World) : (eqGuard op t x y (.bool a) (.bool b)).run P w = .ok () w := by
  cases op <;> rfl
theorem boolT_spec {t : TypeId} (h : boolT P t = true) : P.underlying t = some .bool := by
  unfold boolT at h; split at h <;> first | assumption | simp at h
theorem eqb_run {t : TypeId} (h : boolT P t = true) (xo yo : Operand) (a b : Bool) (w : World) :
    (do eqGuard .eql t xo yo (.bool a) (.bool b); binOp .eql t (.bool a) (.bool b) : Sem Value).run P w = .ok (.bool (a == b)) w ∧
    (do eqGuard .neq t xo yo (.bool a) (.bool b); binOp .neq t (.bool a) (.bool b) : Sem Value).run P w = .ok (.bool (!(a == b))) w := by
  have hu := boolT_spec h
  have he : (Op.equal t (.bool a) (.bool b)).run P w = .ok (a == b) w := by
    rw [Op.equal, show Op.maxDepth = 9999 + 1 from rfl, Op.equalIn]
    simp [run_underlying hu]
  constructor
  · rw [Sem.run_bind, eqGuard_bool]; simp [binOp, he]
  · rw [Sem.run_bind, eqGuard_bool]; simp [binOp, he]

theorem bitsV_run {op : BinOp} {k : IntKind} {a b : Int} {z : Value} (h : bitsV op k a b = some z) (w : World) : (Op.intBits op k a b).run P w = .ok z w ∧ plain z = true := by
  unfold bitsV at h
  cases op <;> simp only [Option.some.injEq, reduceCtorEq] at h <;> subst h <;> exact ⟨rfl, rfl⟩

theorem binV_run {op : BinOp} {x y z : Value} {t : TypeId} (h : binV op x y = some z) (hs : scalT P t = true) (xo yo : Operand) (w : World) :
    (do eqGuard op t xo yo x y; binOp op t x y : Sem Value).run P w = .ok z w ∧ plain z = true := by
  cases x <;> cases y <;> first | (simp [binV] at h; done) | skip
  · rename_i k a k' b
    rw [Sem.run_bind, eqGuard_int]
    simp only [Result.andThen_ok]
    cases op
    case shl =>
      simp only [binV] at h
      split at h
      · simp at h
      · rename_i hb; simp at h; subst h; exact ⟨by simp [binOp, Op.shift, hb], rfl⟩
    case shr =>
      simp only [binV] at h
      split at h
      · simp at h
      · rename_i hb; simp at h; subst h; exact ⟨by simp [binOp, Op.shift, hb], rfl⟩
    all_goals
      simp only [binV] at h
      split at h
      · simp at h
      rename_i hk
      have hk : k = k' := by simpa using hk
      subst hk
    case int.int.and.isFalse => simpa [binOp] using bitsV_run h w
    case int.int.or.isFalse => simpa [binOp] using bitsV_run h w
    case int.int.xor.isFalse => simpa [binOp] using bitsV_run h w
    case int.int.andNot.isFalse => simpa [binOp] using bitsV_run h w
    case int.int.quo.isFalse =>
      split at h
      · simp at h
      · rename_i hb; simp at h; subst h; exact ⟨by simp [binOp, Op.intDiv, hb], rfl⟩
    case int.int.rem.isFalse =>
      split at h
      · simp at h
      · rename_i hb; simp at h; subst h; exact ⟨by simp [binOp, Op.intDiv, hb], rfl⟩
    all_goals
      simp only [Option.some.injEq] at h
      subst h
      exact ⟨by simp [binOp, Op.intArith, Op.intCmp], rfl⟩
  · rename_i a b
    rw [Sem.run_bind, eqGuard_str]
    simp only [Result.andThen_ok]
    cases op <;> simp only [binV] at h <;> first
      | (simp at h; done)
      | (simp only [Option.some.injEq] at h; subst h; exact ⟨by simp [binOp, Op.stringOp], rfl⟩)
      | skip
    split at h
    · simp at h
    · rename_i hb; simp only [Option.some.injEq] at h; subst h; exact ⟨by simp only [binOp, Op.stringOp]; rw [if_neg hb]; rfl, rfl⟩


theorem unV_run {op : UnOp} {x z : Value} (h : unV op x = some z) (w : World) : (Op.unary op x).run P w = .ok z w ∧ plain z = true := by
  cases x <;> cases op <;> simp [unV] at h
  case int.neg => subst h; exact ⟨by simp [Op.unary, Op.intArith], rfl⟩
  case int.xor => simpa [Op.unary] using bitsV_run h w
  case bool.not => subst h; exact ⟨by simp [Op.unary], rfl⟩
theorem mnx_run {mx : Bool} {x y z : Value} (h : mnx mx x y = some z) (w : World) : (if mx then (Builtin.max2 x y).run P w else (Builtin.min2 x y).run P w) = .ok z w ∧ plain z = true := by
  cases x <;> cases y <;> simp [mnx] at h
  obtain ⟨rfl, rfl⟩ := h
  cases mx <;> exact ⟨by simp [Builtin.max2, Builtin.min2], rfl⟩

/-! ### what is read -/
theorem rep_v {C : Cx} {u v : Value} (h : Rep C (.v u) v) : v = u ∧ plain u = true := by
  cases h with
  | v hp => exact ⟨rfl, hp⟩
theorem asI_rep {C : Cx} {x : X} {i : Int} {v : Value} (h : Rep C x v) (hi : asI x = some i) : ∃ k, v = .int k i := by
  unfold asI at hi
  split at hi
  · injection hi with hi; subst hi; exact ⟨_, (rep_v h).1⟩
  · simp at hi
theorem add_off (b off n : Nat) : (⟨b, off, none⟩ : Addr).add n = ⟨b, off + n, none⟩ := by
  unfold Addr.add; split <;> simp_all
end Go.Proofs.YtoodknhlnifnlaaGreatDoor
