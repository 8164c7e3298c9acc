/- The engine, part P: structs compared. -/
import Derived.Test.YtoodknhlnifnlaaGreatDoorE
import Derived.Laws.StructEq
import Derived.ChangeKeysEq
import Derived.MapKept
import Derived.WideKeyRuns
set_option linter.all false
set_option linter.unusedVariables false
set_option linter.unusedSimpArgs false
namespace Go.Proofs.YtoodknhlnifnlaaGreatDoor
open Go.RowKit
variable {P : Program}

def fEqF (P : Program) (g : TypeId → Option (List LK)) : List Field → Nat → Option (List LK)
  | [], _ => some []
  | f :: fs, off =>
    if f.name = "_" then none else if f.offset = off then
      match g f.type with
      | some k => if szB P f.type k.length = true then
          match fEqF P g fs (off + k.length) with
          | some l => some (k ++ l)
          | none => none
        else none
      | none => none
    else none
/-- The cells of a type that is compared cell by cell. -/
def fEq (P : Program) : Nat → TypeId → Option (List LK)
  | 0, _ => none
  | d + 1, t =>
    match P.underlying t with
    | some (.int _) => some [.i]
    | some .string => some [.s]
    | some .bool => some [.b]
    | some (.struct fs) => if P.stoodInHeld t = false then fEqF P (fEq P d) fs.toList 0 else none
    | some (.array n e) => match fEq P d e with
      | some k => if szB P e k.length = true then some (List.replicate n k).flatten else none
      | none => none
    | _ => none

def eqW : List LK → List Value → List Value → Option Bool
  | [], [], [] => some true
  | k :: ks, a :: l, b :: m => match eqV k a b, eqW ks l m with
    | some p, some q => some (p && q)
    | _, _ => none
  | _, _, _ => none
theorem eqW_len : ∀ {ks : List LK} {l m : List Value} {b : Bool}, eqW ks l m = some b → l.length = ks.length ∧ m.length = ks.length := by
  intro ks
  induction ks with
  | nil => intro l m b h; cases l <;> cases m <;> simp [eqW] at h ⊢
  | cons k ks ih => intro l m b h; cases l <;> cases m <;> simp [eqW] at h ⊢
                    split at h
                    · rename_i h2; exact ih h2
                    · simp at h
theorem eqW_split : ∀ {ks ks' : List LK} {l m : List Value} {b : Bool}, eqW (ks ++ ks') l m = some b → ∃ p q, eqW ks (l.take ks.length) (m.take ks.length) = some p ∧ eqW ks' (l.drop ks.length) (m.drop ks.length) = some q ∧ b = (p && q) := by
  intro ks
  induction ks with
  | nil => intro ks' l m b h; exact ⟨true, b, by simp [eqW], by simpa using h, by simp⟩
  | cons k ks ih =>
    intro ks' l m b h
    cases l with
    | nil => simp [eqW] at h
    | cons x l => cases m with
      | nil => simp [eqW] at h
      | cons y m =>
        simp only [List.cons_append, eqW] at h
        split at h
        case h_2 => simp at h
        rename_i p q hp hq
        injection h with h
        obtain ⟨p', q', h1, h2, h3⟩ := ih hq
        exact ⟨p && p', q', by simp [eqW, hp, h1], by simpa using h2, by rw [← h, h3, Bool.and_assoc]⟩

/-- The value of a type at a place among cells. -/
def Seg (xs : Array Value) (off : Nat) (l : List Value) : Prop := off + l.length ≤ xs.size ∧ ∀ j u, l[j]? = some u → xs[off + j]? = some u
theorem Seg.extract {xs : Array Value} {off : Nat} {l : List Value} (h : Seg xs off l) : Seg (xs.extract off (off + l.length)) 0 l := by
  refine ⟨by simp; have := h.1; omega, fun j u hu => ?_⟩
  have hj := (List.getElem?_eq_some_iff.1 hu).1
  rw [Array.getElem?_extract, if_pos (by have := h.1; omega), Nat.zero_add]
  exact h.2 j u hu
theorem Seg.take {xs : Array Value} {off k : Nat} {l : List Value} (h : Seg xs off l) (hk : k ≤ l.length) : Seg xs off (l.take k) :=
  ⟨by have := h.1; simp; omega, fun j u hu => h.2 j u (by rw [List.getElem?_take] at hu; split at hu <;> simp_all)⟩
theorem Seg.drop {xs : Array Value} {off k : Nat} {l : List Value} (h : Seg xs off l) (hk : k ≤ l.length) : Seg xs (off + k) (l.drop k) :=
  ⟨by have := h.1; simp; omega, fun j u hu => by rw [List.getElem?_drop] at hu; rw [Nat.add_assoc]; exact h.2 _ u hu⟩

theorem aggF {t : TypeId} {d : TypeDesc} (hu : P.underlying t = some d) (hd : (∀ fs, d ≠ .struct fs) ∧ ∀ n e, d ≠ .array n e) (w : World) : (isAgg t).run P w = .ok false w := by
  refine aggB_run (b := false) ?_ w
  unfold aggB
  rw [hu]
  cases d <;> first | rfl | (exact absurd rfl (hd.1 _)) | (exact absurd rfl (hd.2 _ _))

theorem fEq_run (w : World) : ∀ (d : Nat) (t : TypeId) (ks : List LK), fEq P d t = some ks → ∀ {xs ys : Array Value} {off : Nat} {l m : List Value} {b : Bool}, Seg xs off l → Seg ys off m → szB P t ks.length = true → eqW ks l m = some b →
    ∃ x y, (part t xs off).run P w = .ok x w ∧ (part t ys off).run P w = .ok y w ∧ ∀ d', d ≤ d' → (Op.equalIn d' t x y).run P w = .ok b w := by
  intro d
  induction d with
  | zero => intro t k h; simp [fEq] at h
  | succ d ih =>
    intro t ks h xs ys off l m b hx hy hs he
    obtain ⟨hl, hm⟩ := eqW_len he
    have one : ∀ (de : TypeDesc) (lk : LK), P.underlying t = some de → (∀ fs, de ≠ .struct fs) ∧ (∀ n e, de ≠ .array n e) → ks = [lk] →
        (∀ u v d', eqV lk u v = some b → (Op.equalIn (d' + 1) t u v).run P w = .ok b w) →
        ∃ x y, (part t xs off).run P w = .ok x w ∧ (part t ys off).run P w = .ok y w ∧ ∀ d', d + 1 ≤ d' → (Op.equalIn d' t x y).run P w = .ok b w := by
      intro de lk hu hd hk heq
      subst hk
      match l, m, hl, hm with
      | [u], [v], _, _ =>
        have h1 := hx.2 0 u rfl
        have h2 := hy.2 0 v rfl
        rw [Nat.add_zero] at h1 h2
        refine ⟨u, v, by simp [part, aggF hu hd, h1], by simp [part, aggF hu hd, h2], fun d' hd' => ?_⟩
        obtain ⟨d'', rfl⟩ : ∃ n, d' = n + 1 := ⟨d' - 1, by omega⟩
        refine heq u v d'' ?_
        simp only [eqW] at he
        split at he
        · rename_i p q hp hq
          simp only [Option.some.injEq] at hq he
          subst hq
          rw [hp]; simpa using he
        · simp at he
    simp only [fEq] at h
    split at h
    · rename_i kd hu
      simp only [Option.some.injEq] at h
      refine one _ _ hu ⟨by simp, by simp⟩ h.symm fun u v d' huv => ?_
      cases u <;> cases v <;> simp [eqV] at huv
      obtain ⟨rfl, rfl⟩ := huv; simp [Op.equalIn, run_underlying hu]
    · rename_i hu
      simp only [Option.some.injEq] at h
      refine one _ _ hu ⟨by simp, by simp⟩ h.symm fun u v d' huv => ?_
      cases u <;> cases v <;> simp only [eqV, reduceCtorEq, Option.some.injEq] at huv
      subst huv
      exact run_equalIn_string w d' t _ _ hu
    · rename_i hu
      simp only [Option.some.injEq] at h
      refine one _ _ hu ⟨by simp, by simp⟩ h.symm fun u v d' huv => ?_
      cases u <;> cases v <;> simp only [eqV, reduceCtorEq, Option.some.injEq] at huv
      subst huv
      exact run_equalIn_bool w d' t _ _ hu
    · rename_i fs hu
      split at h
      case isFalse => simp at h
      rename_i hst
      have hag : (isAgg t).run P w = .ok true w := aggB_run (by unfold aggB; rw [hu]) w
      refine ⟨.agg (xs.extract off (off + ks.length)), .agg (ys.extract off (off + ks.length)), by simp [part, hag, szB_run hs], by simp [part, hag, szB_run hs], fun d' hd' => ?_⟩
      obtain ⟨d'', rfl⟩ : ∃ n, d' = n + 1 := ⟨d' - 1, by omega⟩
      have hfo : P.fieldsOf t = fs := by unfold Program.fieldsOf; rw [hu]
      rw [run_equalIn_struct w d'' t _ _ (by rw [hfo]; exact hu) hst, hfo]
      have hx' := hx.extract
      have hy' := hy.extract
      rw [hl] at hx'
      rw [hm] at hy'
      have key : ∀ (fl : List Field) (o : Nat) (ks' : List LK) (l m : List Value) (b : Bool), fEqF P (fEq P d) fl o = some ks' → Seg (xs.extract off (off + ks.length)) o l → Seg (ys.extract off (off + ks.length)) o m → eqW ks' l m = some b →
          (Op.eqFields d'' (xs.extract off (off + ks.length)) (ys.extract off (off + ks.length)) fl).run P w = .ok b w := by
        intro fl
        induction fl with
        | nil =>
          intro o ks' l m b hf hx hy he
          simp only [fEqF, Option.some.injEq] at hf
          subst hf
          obtain ⟨h1, h2⟩ := eqW_len he
          have h1 : l = [] := List.eq_nil_of_length_eq_zero (by simpa using h1)
          have h2 : m = [] := List.eq_nil_of_length_eq_zero (by simpa using h2)
          subst h1; subst h2
          simp [eqW] at he
          subst he
          simp [Op.eqFields]
        | cons f fl ihf =>
          intro o ks' l m b hf hx hy he
          simp only [fEqF] at hf
          split at hf
          case isTrue => simp at hf
          rename_i hname
          split at hf
          case isFalse => simp at hf
          rename_i hoff
          split at hf
          case h_2 => simp at hf
          rename_i kf hkf
          split at hf
          case isFalse => simp at hf
          rename_i hsf
          split at hf
          case h_2 => simp at hf
          rename_i kr hkr
          simp only [Option.some.injEq] at hf
          subst hf
          obtain ⟨hl, hm⟩ := eqW_len he
          simp only [List.length_append] at hl hm
          obtain ⟨p, q, hp, hq, rfl⟩ := eqW_split he
          obtain ⟨x, y, h1, h2, h3⟩ := ih f.type kf hkf (l := l.take kf.length) (m := m.take kf.length) (hx.take (by omega)) (hy.take (by omega)) hsf hp
          have h4 := ihf (o + kf.length) kr (l.drop kf.length) (m.drop kf.length) q hkr (hx.drop (by omega)) (hy.drop (by omega)) hq
          simp only [Op.eqFields, ne_eq, hname, not_false_eq_true, if_true, hoff, Sem.run_bind, h1, h2, Result.andThen_ok, h3 d'' (by omega)]
          cases p
          · simp
          · simp [h4]
      exact key fs.toList 0 ks l m b h hx' hy' he
    · rename_i n te hu
      split at h
      case h_2 => simp at h
      rename_i k hk
      split at h
      case isFalse => simp at h
      rename_i hse
      injection h with h
      subst h
      have hag : (isAgg t).run P w = .ok true w := aggB_run (by unfold aggB; rw [hu]) w
      refine ⟨.agg (xs.extract off (off + (List.replicate n k).flatten.length)), .agg (ys.extract off (off + (List.replicate n k).flatten.length)), by simp only [part, Sem.run_bind, hag, szB_run hs, Result.andThen_ok, if_true]; rfl, by simp only [part, Sem.run_bind, hag, szB_run hs, Result.andThen_ok, if_true]; rfl, fun d' hd' => ?_⟩
      obtain ⟨d'', rfl⟩ : ∃ n, d' = n + 1 := ⟨d' - 1, by omega⟩
      have hinf : ∃ i, P.info? te = some i ∧ i.size = k.length := by
        unfold szB at hse
        split at hse
        · rename_i i hi; exact ⟨i, hi, by simpa using hse⟩
        · simp at hse
      obtain ⟨i, hi, hisz⟩ := hinf
      rw [run_equalIn_array w d'' _ _ hu hi, show P.cellsOf te = k.length by simp [Program.cellsOf, hi, hisz]]
      have hx' := hx.extract
      have hy' := hy.extract
      rw [hl] at hx'
      rw [hm] at hy'
      have key : ∀ (c o : Nat) (l m : List Value) (b : Bool), Seg (xs.extract off (off + (List.replicate n k).flatten.length)) (o * k.length) l → Seg (ys.extract off (off + (List.replicate n k).flatten.length)) (o * k.length) m → eqW (List.replicate c k).flatten l m = some b →
          (Op.eqItems d'' te k.length (xs.extract off (off + (List.replicate n k).flatten.length)) (ys.extract off (off + (List.replicate n k).flatten.length)) (List.range' o c)).run P w = .ok b w := by
        intro c
        induction c with
        | zero =>
          intro o l m b hx hy he
          obtain ⟨h1, h2⟩ := eqW_len he
          have h1 : l = [] := List.eq_nil_of_length_eq_zero (by simpa using h1)
          have h2 : m = [] := List.eq_nil_of_length_eq_zero (by simpa using h2)
          subst h1; subst h2
          simp [eqW] at he
          subst he
          simp [Op.eqItems]
        | succ c ihn =>
          intro o l m b hx hy he
          rw [List.replicate_succ, List.flatten_cons] at he
          obtain ⟨hl, hm⟩ := eqW_len he
          simp only [List.length_append] at hl hm
          obtain ⟨p, q, hp, hq, rfl⟩ := eqW_split he
          obtain ⟨x, y, h1, h2, h3⟩ := ih te k hk (l := l.take k.length) (m := m.take k.length) (hx.take (by omega)) (hy.take (by omega)) hse hp
          have hq' : (o + 1) * k.length = o * k.length + k.length := by rw [Nat.add_mul, Nat.one_mul]
          have h4 := ihn (o + 1) (l.drop k.length) (m.drop k.length) q (hq' ▸ hx.drop (by omega)) (hq' ▸ hy.drop (by omega)) hq
          rw [List.range'_succ]
          simp only [Op.eqItems, Sem.run_bind, h1, h2, Result.andThen_ok, h3 d'' (by omega)]
          cases p
          · simp
          · simp only [Bool.not_true, Bool.false_eq_true, if_false, Bool.true_and]; exact h4
      rw [List.range_eq_range']
      exact key n 0 l m b (by simpa using hx') (by simpa using hy') he
    · simp at h

/-- A key of such a type is one. -/
theorem fEq_key (w : World) (em : Bool) : ∀ (d : Nat) (t : TypeId) (ks : List LK), fEq P d t = some ks → ∀ {xs : Array Value} {off : Nat} {l : List Value}, Seg xs off l → l.length = ks.length → szB P t ks.length = true →
    ∃ x, (part t xs off).run P w = .ok x w ∧ ∀ d', d ≤ d' → (Instr.checkKey em d' t x).run P w = .ok () w := by
  intro d
  induction d with
  | zero => intro t k h; simp [fEq] at h
  | succ d ih =>
    intro t ks h xs off l hx hl hs
    have one : ∀ (de : TypeDesc) (lk : LK), P.underlying t = some de → (∀ fs, de ≠ .struct fs) ∧ (∀ n e, de ≠ .array n e) → ks = [lk] → (∀ u n, (Instr.checkKey em (n + 1) t u).run P w = .ok () w) →
        ∃ x, (part t xs off).run P w = .ok x w ∧ ∀ d', d + 1 ≤ d' → (Instr.checkKey em d' t x).run P w = .ok () w := by
      intro de lk hu hd hk heq
      subst hk
      match l, hl with
      | [u], _ =>
        have h1 := hx.2 0 u rfl
        rw [Nat.add_zero] at h1
        refine ⟨u, by simp [part, aggF hu hd, h1], fun d' hd' => ?_⟩
        obtain ⟨d'', rfl⟩ : ∃ n, d' = n + 1 := ⟨d' - 1, by omega⟩
        exact heq u d''
    simp only [fEq] at h
    split at h
    · rename_i kd hu
      simp only [Option.some.injEq] at h
      exact one _ _ hu ⟨by simp, by simp⟩ h.symm fun u n => by simp [Instr.checkKey, run_underlying hu]
    · rename_i hu
      simp only [Option.some.injEq] at h
      exact one _ _ hu ⟨by simp, by simp⟩ h.symm fun u n => by simp [Instr.checkKey, run_underlying hu]
    · rename_i hu
      simp only [Option.some.injEq] at h
      exact one _ _ hu ⟨by simp, by simp⟩ h.symm fun u n => by simp [Instr.checkKey, run_underlying hu]
    · rename_i fs hu
      split at h
      case isFalse => simp at h
      rename_i hst
      have hag : (isAgg t).run P w = .ok true w := aggB_run (by unfold aggB; rw [hu]) w
      refine ⟨.agg (xs.extract off (off + ks.length)), by simp [part, hag, szB_run hs], fun d' hd' => ?_⟩
      obtain ⟨d'', rfl⟩ : ∃ n, d' = n + 1 := ⟨d' - 1, by omega⟩
      have hx' := hx.extract
      rw [hl] at hx'
      simp only [Instr.checkKey, Sem.run_bind, run_underlying hu, Result.andThen_ok]
      rw [← Array.forIn_toList]
      have key : ∀ (fl : List Field) (o : Nat) (ks' : List LK) (l : List Value), fEqF P (fEq P d) fl o = some ks' → Seg (xs.extract off (off + ks.length)) o l → l.length = ks'.length →
          (forIn fl PUnit.unit fun f _ => (if f.name ≠ "_" then do
              let y ← part f.type (xs.extract off (off + ks.length)) f.offset
              Instr.checkKey em d'' f.type y
              pure (ForInStep.yield PUnit.unit) else pure (ForInStep.yield PUnit.unit) : Sem (ForInStep PUnit))).run P w = .ok PUnit.unit w := by
        intro fl
        induction fl with
        | nil => intro o ks' l hf hx hl; simp
        | cons f fl ihf =>
          intro o ks' l hf hx hl
          simp only [fEqF] at hf
          split at hf
          case isTrue => simp at hf
          rename_i hname
          split at hf
          case isFalse => simp at hf
          rename_i hoff
          split at hf
          case h_2 => simp at hf
          rename_i kf hkf
          split at hf
          case isFalse => simp at hf
          rename_i hsf
          split at hf
          case h_2 => simp at hf
          rename_i kr hkr
          simp only [Option.some.injEq] at hf
          subst hf
          simp only [List.length_append] at hl
          obtain ⟨x, h1, h3⟩ := ih f.type kf hkf (l := l.take kf.length) (hx.take (by omega)) (by simp; omega) hsf
          have h4 := ihf (o + kf.length) kr (l.drop kf.length) hkr (hx.drop (by omega)) (by simp; omega)
          simp only [List.forIn_cons, Sem.run_bind, ne_eq, hname, not_false_eq_true, if_true, hoff, h1, Result.andThen_ok, h3 d'' (by omega), Sem.run_pure]
          exact h4
      have := key fs.toList 0 ks l h hx' hl
      simp only [ne_eq, bind_pure_comp] at this ⊢
      rw [this]
      rfl
    · rename_i n te hu
      split at h
      case h_2 => simp at h
      rename_i k hk
      split at h
      case isFalse => simp at h
      rename_i hse
      injection h with h
      subst h
      have hag : (isAgg t).run P w = .ok true w := aggB_run (by unfold aggB; rw [hu]) w
      refine ⟨.agg (xs.extract off (off + (List.replicate n k).flatten.length)), by simp only [part, Sem.run_bind, hag, szB_run hs, Result.andThen_ok, if_true]; rfl, fun d' hd' => ?_⟩
      obtain ⟨d'', rfl⟩ : ∃ n, d' = n + 1 := ⟨d' - 1, by omega⟩
      have hx' := hx.extract
      rw [hl] at hx'
      simp only [Instr.checkKey, Sem.run_bind, run_underlying hu, Result.andThen_ok]
      simp only [Std.Legacy.Range.forIn_eq_forIn_range', Std.Legacy.Range.size, Nat.sub_zero, Nat.add_one_sub_one, Nat.div_one]
      have key : ∀ (c o : Nat) (l : List Value), Seg (xs.extract off (off + (List.replicate n k).flatten.length)) (o * k.length) l → l.length = (List.replicate c k).flatten.length →
          (forIn (List.range' o c) PUnit.unit fun i _ => (do
              let z ← sizeOf te
              let y ← part te (xs.extract off (off + (List.replicate n k).flatten.length)) (i * z)
              Instr.checkKey em d'' te y
              pure (ForInStep.yield PUnit.unit) : Sem (ForInStep PUnit))).run P w = .ok PUnit.unit w := by
        intro c
        induction c with
        | zero => intro o l hx hl; simp
        | succ c ihn =>
          intro o l hx hl
          rw [List.replicate_succ, List.flatten_cons, List.length_append] at hl
          obtain ⟨x, h1, h3⟩ := ih te k hk (l := l.take k.length) (hx.take (by omega)) (by simp; omega) hse
          have hq' : (o + 1) * k.length = o * k.length + k.length := by rw [Nat.add_mul, Nat.one_mul]
          have h4 := ihn (o + 1) (l.drop k.length) (hq' ▸ hx.drop (by omega)) (by simp only [List.length_drop]; omega)
          rw [List.range'_succ]
          simp only [List.forIn_cons, Sem.run_bind, szB_run hse, h1, Result.andThen_ok, h3 d'' (by omega), Sem.run_pure]
          exact h4
      have := key n 0 l (by simpa using hx') hl
      simp only [bind_pure_comp] at this ⊢
      rw [this]
      rfl
    · simp at h

/-- A struct type that is compared cell by cell. -/
def eqT (P : Program) (t : TypeId) (ks : List LK) : Bool :=
  szB P t ks.length && aggB P t true && decide (fEq P 9 t = some ks) && !(P.eqGuardType P.depth t)

theorem eqL_W {C : Cx} : ∀ {ks : List LK} {l m : List X} {us vs : List Value} {b : Bool}, eqL ks l m = some b → l.length = us.length → m.length = vs.length → (∀ (j : Nat) c u, l[j]? = some c → us[j]? = some u → Rep C c u) → (∀ (j : Nat) c u, m[j]? = some c → vs[j]? = some u → Rep C c u) → eqW ks us vs = some b := by
  intro ks
  induction ks with
  | nil => intro l m us vs b h h1 h2 _ _
           cases l <;> cases m <;> simp [eqL] at h
           subst h
           have : us = [] := List.eq_nil_of_length_eq_zero (by simpa using h1.symm)
           have : vs = [] := List.eq_nil_of_length_eq_zero (by simpa using h2.symm)
           subst us; subst vs; rfl
  | cons k ks ih =>
    intro l m us vs b h h1 h2 h3 h4
    cases l with
    | nil => simp [eqL] at h
    | cons x l => cases m with
      | nil => cases x <;> simp [eqL] at h
      | cons y m =>
        cases us with
        | nil => simp at h1
        | cons u us => cases vs with
          | nil => simp at h2
          | cons v vs =>
            cases x <;> cases y <;> simp only [eqL, reduceCtorEq] at h
            rename_i x y
            split at h
            case h_2 => simp at h
            rename_i p q hp hq
            have e1 := (rep_v (h3 0 _ u rfl rfl)).1
            have e2 := (rep_v (h4 0 _ v rfl rfl)).1
            subst e1; subst e2
            have := ih hq (by simpa using h1) (by simpa using h2) (fun j c u hj hu => h3 (j + 1) c u (by simpa using hj) (by simpa using hu)) (fun j c u hj hu => h4 (j + 1) c u (by simpa using hj) (by simpa using hu))
            simp [eqW, hp, this, h]

section
variable {w0 : Bs} {sh : Nat → Prop} {nt : Nat} {μ : Nat → Nat} {fr : Nat → Prop} {e : Env} {s : Sto} {a : Act} {w : World}
theorem snd_eqs (h : Inv w0 sh nt μ fr e s a w) {o : Oper} {neg : Bool} {ks : List LK} {t yt : TypeId} {x y : Operand} {r1 r2 : Ar} (ho : o.op = .binOp (if neg then .neq else .eql) t x y yt) (hx : okA x r1 = true) (hy : okA y r2 = true) (ht : eqT P t ks = true)
    {l m : List X} {b : Bool} (hl : r1.ev e = .agg l) (hm : r2.ev e = .agg m) (hb : eqL ks l m = some b) : OutS P w0 sh nt μ fr e s a w o (.v (.bool (if neg then !b else b))) := by
  have h1 := okA_rep h.env hx
  have h2 := okA_rep h.env hy
  rw [hl] at h1
  rw [hm] at h2
  simp only [eqT, Bool.and_eq_true, decide_eq_true_eq, Bool.not_eq_true'] at ht
  obtain ⟨⟨⟨hs, hag⟩, hf⟩, hgd⟩ := ht
  generalize hv1 : a.eval x = v1 at h1
  generalize hv2 : a.eval y = v2 at h2
  cases h1 with
  | @agg _ us hl1 _ hr1 =>
    cases h2 with
    | @agg _ vs hl2 _ hr2 =>
      have hw := eqL_W hb (us := us.toList) (vs := vs.toList) (by simpa using hl1) (by simpa using hl2) (by simpa using hr1) (by simpa using hr2)
      obtain ⟨n1, n2⟩ := eqW_len hw
      have sg : ∀ (z : Array Value), Seg z 0 z.toList := fun z => ⟨by simp, fun j u hu => by simpa using hu⟩
      obtain ⟨p, q, hp, hq, heq⟩ := fEq_run (P := P) w 9 t ks hf (sg us) (sg vs) hs hw
      have ep : (part t us 0).run P w = .ok (.agg us) w := by
        simp only [Array.length_toList] at n1
        simp [part, aggB_run hag, szB_run hs, ← n1]
      have eq' : (part t vs 0).run P w = .ok (.agg vs) w := by
        simp only [Array.length_toList] at n2
        simp [part, aggB_run hag, szB_run hs, ← n2]
      rw [ep] at hp
      rw [eq'] at hq
      injection hp with hp _
      injection hq with hq _
      subst hp; subst hq
      have he := heq 10000 (by omega)
      have hg := fun op => run_eqGuard_agg (P := P) w op t x y us vs hgd
      cases neg
      · have := run_eql_struct (P := P) w t us vs
        rw [he] at this
        exact outS_val h (v := .bool b) (by simp [execOp, ho, hv1, hv2, hg, this]) (.v rfl)
      · have := run_neq_struct (P := P) w t us vs
        rw [he] at this
        exact outS_val h (v := .bool (!b)) (by simp [execOp, ho, hv1, hv2, hg, this]) (.v rfl)
end
end Go.Proofs.YtoodknhlnifnlaaGreatDoor

/- The engine, part Pm: maps. -/
set_option linter.unusedVariables false
set_option linter.unusedSimpArgs false
namespace Go.Proofs.YtoodknhlnifnlaaGreatDoor
open Go.RowKit
variable {P : Program}

/-- A map type whose keys are compared cell by cell. -/
def mapB (P : Program) (t : TypeId) (ks : List LK) (ag : Bool) : Bool := match P.underlying t with
  | some (.map kt _) => szB P kt ks.length && aggB P kt ag && decide (fEq P 9 kt = some ks)
  | _ => false
def mapZ (P : Program) (t : TypeId) (z : X) : Bool := match P.underlying t with
  | some (.map _ et) => zeroB P et z
  | _ => false
def okMap (P : Program) : Op → IOp → Bool
  | .makeMap _ none, .mkm _ none => true
  | .makeMap t (some h), .mkm _ (some a) => okA h a && (match P.underlying t with
    | some (.map _ _) => true
    | _ => false)
  | .lookup t m k ok, .mlk ks ag m' k' z ok' => mapB P t ks ag && mapZ P t z && okA m m' && okA k k' && ok == ok'
  | .mapEntry t m k, .men ks ag m' k' z => mapB P t ks ag && mapZ P t z && okA m m' && okA k k'
  | .entryStore _ m st v, .mst m' st' v' => okA m m' && okA st st' && okA v v'
  | .mapUpdate t m k v, .mup ks ag m' k' v' => mapB P t ks ag && okA m m' && okA k k' && okA v v'
  | .call c, .mln a => (match c.callee with
    | .builtin .len => true
    | _ => false) && (match c.argTypes[0]? with
    | some t => match P.underlying t with
      | some (.map _ _) => true
      | _ => false
    | none => false) && okAL c.args.toList [a]
  | _, _ => false

theorem scalL_mem : ∀ {l : List X}, scalL l = true ↔ ∀ c ∈ l, c.scal = true := by
  intro l
  induction l with
  | nil => simp [scalL]
  | cons a l ih => simp [scalL, ih]
/-- Numbers, texts and the like stand for themselves anywhere. -/
theorem Rep.scal {C D : Cx} {x : X} {v : Value} (hx : Rep C x v) (hd : x.scal = true) : Rep D x v := by
  induction hx with
  | v hp => exact .v hp
  | agg hl ho hr ih => exact .agg hl ho fun j c v hj hv => ih j c v hj hv (scalL_mem.1 (by simpa [X.scal] using hd) c (List.mem_of_getElem? hj))
  | tup hl hr ih => exact .tup hl fun j c v hj hv => ih j c v hj hv (scalL_mem.1 (by simpa [X.scal] using hd) c (List.mem_of_getElem? hj))
  | _ => simp [X.scal] at hd

theorem eqV_same {k : LK} {a b : Value} (h : eqV k a b = some true) : a = b := by
  cases k <;> cases a <;> cases b <;> simp only [eqV, reduceCtorEq, Option.some.injEq] at h
  · split at h
    · rename_i hk; subst hk
      simp only [Option.some.injEq, beq_iff_eq] at h; rw [h]
    · simp at h
  · have : ∀ x y : ByteArray, x.toList = y.toList → x = y := by
      intro x y hxy
      rw [ByteArray.toList_eq, ByteArray.toList_eq] at hxy
      obtain ⟨⟨x⟩⟩ := x
      obtain ⟨⟨y⟩⟩ := y
      simp only at hxy
      rw [hxy]
    rename_i a b
    rw [this a b (by simpa using h)]
  · rw [beq_iff_eq.1 h]
theorem eqW_same : ∀ {ks : List LK} {l m : List Value}, eqW ks l m = some true → l = m := by
  intro ks
  induction ks with
  | nil => intro l m h; cases l <;> cases m <;> simp [eqW] at h ⊢
  | cons k ks ih =>
    intro l m h
    cases l with
    | nil => simp [eqW] at h
    | cons a l => cases m with
      | nil => simp [eqW] at h
      | cons b m =>
        simp only [eqW] at h
        split at h
        case h_2 => simp at h
        rename_i p q hp hq
        simp only [Option.some.injEq, Bool.and_eq_true] at h
        obtain ⟨rfl, rfl⟩ := h
        rw [eqV_same hp, ih hq]
theorem eqW_bits : ∀ {ks : List LK} {l m : List Value} {b : Bool}, eqW ks l m = some b → ∀ n, (l.zip l).all (fun p => Instr.sameBits n p.1 p.2) = true := by
  intro ks
  induction ks with
  | nil => intro l m b h n; cases l <;> cases m <;> simp [eqW] at h ⊢
  | cons k ks ih =>
    intro l m b h n
    cases l with
    | nil => simp
    | cons a l => cases m with
      | nil => simp [eqW] at h
      | cons c m =>
        simp only [eqW] at h
        split at h
        case h_2 => simp at h
        rename_i p q hp hq
        simp only [List.zip_cons_cons, List.all_cons, Bool.and_eq_true]
        refine ⟨?_, ih hq n⟩
        cases k <;> cases a <;> cases c <;> simp [eqV] at hp <;> cases n <;> simp [Instr.sameBits, beq_toListBytes]

/-- Keys compared. -/
theorem eqX_run (w : World) {C : Cx} {kt : TypeId} {ks : List LK} {ag : Bool} (hs : szB P kt ks.length = true) (ha : aggB P kt ag = true) (hf : fEq P 9 kt = some ks) {p q : X} {u v : Value} {b : Bool} (he : eqX ks ag p q = some b) (hp : Rep C p u) (hq : Rep C q v) :
    (Op.equal kt u v).run P w = .ok b w ∧ (b = true → u = v) ∧ (∀ em, (Instr.checkKey em 10000 kt u).run P w = .ok () w) ∧ Instr.sameBits 10000 u u = true ∧
    (ag = false → ∃ d, P.underlying kt = some d ∧ Instr.sameNow d u v = some b) := by
  have sg : ∀ (z : Array Value), Seg z 0 z.toList := fun z => ⟨by simp, fun j u hu => by simpa using hu⟩
  unfold eqX at he
  split at he
  · rename_i l m
    generalize hu : u = u' at hp
    generalize hv : v = v' at hq
    cases hp with
    | @agg _ us hl1 _ hr1 =>
      cases hq with
      | @agg _ vs hl2 _ hr2 =>
        have hw := eqL_W he (us := us.toList) (vs := vs.toList) (by simpa using hl1) (by simpa using hl2) (by simpa using hr1) (by simpa using hr2)
        obtain ⟨n1, n2⟩ := eqW_len hw
        obtain ⟨x, y, hx, hy, heq⟩ := fEq_run (P := P) w 9 kt ks hf (sg us) (sg vs) hs hw
        have ep : (part kt us 0).run P w = .ok (.agg us) w := by
          simp only [Array.length_toList] at n1
          simp [part, aggB_run ha, szB_run hs, ← n1]
        have eq' : (part kt vs 0).run P w = .ok (.agg vs) w := by
          simp only [Array.length_toList] at n2
          simp [part, aggB_run ha, szB_run hs, ← n2]
        rw [ep] at hx
        rw [eq'] at hy
        injection hx with hx _
        injection hy with hy _
        subst hx; subst hy; subst hu; subst hv
        refine ⟨heq 10000 (by omega), fun hb => ?_, fun em => ?_, ?_, by simp⟩
        · subst hb
          have := eqW_same hw
          rw [Array.ext' this]
        · obtain ⟨x, hx, hk⟩ := fEq_key (P := P) w em 9 kt ks hf (sg us) n1 hs
          rw [ep] at hx
          injection hx with hx _
          subst hx
          exact hk 10000 (by omega)
        · have := eqW_bits hw 9999
          simp only [Instr.sameBits, beq_self_eq_true, Bool.true_and]
          exact this
  · rename_i x y
    split at he
    case h_2 => simp at he
    rename_i k
    obtain ⟨rfl, _⟩ := rep_v hp
    obtain ⟨rfl, _⟩ := rep_v hq
    have hw : eqW [k] [u] [v] = some b := by simp [eqW, he]
    have ep : ∀ z, (part kt #[z] 0).run P w = .ok z w := by intro z; simp [part, aggB_run ha]
    obtain ⟨x, y, hx, hy, heq⟩ := fEq_run (P := P) w 9 kt [k] hf (sg #[u]) (sg #[v]) hs hw
    rw [ep] at hx
    rw [ep] at hy
    injection hx with hx _
    injection hy with hy _
    subst hx; subst hy
    refine ⟨heq 10000 (by omega), fun hb => ?_, fun em => ?_, ?_, fun _ => ?_⟩
    · subst hb; exact eqV_same he
    · obtain ⟨x, hx, hk⟩ := fEq_key (P := P) w em 9 kt [k] hf (sg #[u]) rfl hs
      rw [ep] at hx
      injection hx with hx _
      subst hx
      exact hk 10000 (by omega)
    · have := eqW_bits hw 10000
      simpa using this
    · simp only [fEq] at hf
      split at hf
      · rename_i kd hu
        simp only [Option.some.injEq, List.cons.injEq, and_true] at hf
        subst hf
        cases u <;> cases v <;> simp only [eqV, reduceCtorEq] at he
        exact ⟨_, hu, by simpa [Instr.sameNow] using he⟩
      · rename_i hu
        simp only [Option.some.injEq, List.cons.injEq, and_true] at hf
        subst hf
        cases u <;> cases v <;> simp only [eqV, reduceCtorEq] at he
        exact ⟨_, hu, by simpa [Instr.sameNow, beq_toListBytes] using he⟩
      · rename_i hu
        simp only [Option.some.injEq, List.cons.injEq, and_true] at hf
        subst hf
        cases u <;> cases v <;> simp only [eqV, reduceCtorEq] at he
        exact ⟨_, hu, by simpa [Instr.sameNow] using he⟩
      · rename_i hu
        unfold aggB at ha; rw [hu] at ha; simp at ha
      · rename_i hu
        unfold aggB at ha; rw [hu] at ha; simp at ha
      · simp at hf
  · simp at he

/-- A key alone. -/
theorem okKey_run (w : World) {C : Cx} {kt : TypeId} {ks : List LK} {ag : Bool} (hs : szB P kt ks.length = true) (ha : aggB P kt ag = true) (hf : fEq P 9 kt = some ks) {p : X} {u : Value} (he : okKey ks ag p = true) (hp : Rep C p u) (em : Bool) :
    (Instr.checkKey em 10000 kt u).run P w = .ok () w := by
  have sg : ∀ (z : Array Value), Seg z 0 z.toList := fun z => ⟨by simp, fun j u hu => by simpa using hu⟩
  unfold okKey at he
  split at he
  · simp only [beq_iff_eq] at he
    generalize hu : u = u' at hp
    cases hp with
    | @agg _ us hl1 _ hr1 =>
      have n1 : us.toList.length = ks.length := by simp; omega
      obtain ⟨x, hx, hk⟩ := fEq_key (P := P) w em 9 kt ks hf (sg us) n1 hs
      have ep : (part kt us 0).run P w = .ok (.agg us) w := by
        simp only [Array.length_toList] at n1
        simp [part, aggB_run ha, szB_run hs, ← n1]
      rw [ep] at hx
      injection hx with hx _
      subst hx; subst hu
      exact hk 10000 (by omega)
  · simp only [beq_iff_eq] at he
    obtain ⟨rfl, _⟩ := rep_v hp
    obtain ⟨x, hx, hk⟩ := fEq_key (P := P) w em 9 kt ks hf (sg #[u]) (by simp [he]) hs
    have ep : (part kt #[u] 0).run P w = .ok u w := by simp [part, aggB_run ha]
    rw [ep] at hx
    injection hx with hx _
    subst hx
    exact hk 10000 (by omega)
  · simp at he

theorem mfind_key {ks : List LK} {ag : Bool} {key : X} : ∀ {es : List (X × X)} {r : Option Nat}, mfind ks ag key es = some r → okKey ks ag key = true := by
  intro es
  induction es with
  | nil => intro r h; simp only [mfind] at h; split at h <;> simp_all
  | cons p es ih =>
    intro r h
    simp only [mfind] at h
    have len : ∀ {ks : List LK} {l m : List X} {b : Bool}, eqL ks l m = some b → l.length = ks.length := by
      intro ks
      induction ks with
      | nil => intro l m b h; cases l <;> cases m <;> simp [eqL] at h ⊢
      | cons k ks ih => intro l m b h
                        cases l with
                        | nil => simp [eqL] at h
                        | cons x l => cases m with
                          | nil => cases x <;> simp [eqL] at h
                          | cons y m =>
                            cases x <;> cases y <;> simp only [eqL, reduceCtorEq] at h
                            split at h
                            case h_2 => simp at h
                            rename_i hq
                            simp [ih hq]
    have ok : ∀ {b : Bool}, eqX ks ag key p.1 = some b → okKey ks ag key = true := by
      intro b hb
      unfold eqX at hb
      split at hb
      · simp [okKey, len hb]
      · split at hb
        · simp [okKey]
        · simp at hb
      · simp at hb
    split at h
    · exact ok (by assumption)
    · exact ok (by assumption)
    · simp at h

theorem mfind_lt {ks : List LK} {ag : Bool} {key : X} : ∀ {es : List (X × X)} {i : Nat}, mfind ks ag key es = some (some i) → i < es.length := by
  intro es
  induction es with
  | nil => intro r h; simp only [mfind] at h; split at h <;> simp at h
  | cons p es ih =>
    intro i h
    simp only [mfind] at h
    split at h
    · simp only [Option.some.injEq] at h; subst h; simp
    · split at h
      · rename_i r hr
        simp only [Option.some.injEq] at h
        cases r with
        | none => simp at h
        | some j => simp at h; subst h; have := ih hr; simp; omega
      · simp at h
    · simp at h

theorem mfind_eq {ks : List LK} {ag : Bool} {key : X} : ∀ {es : List (X × X)} {i : Nat}, mfind ks ag key es = some (some i) → ∃ p, es[i]? = some p ∧ eqX ks ag key p.1 = some true := by
  intro es
  induction es with
  | nil => intro r h; simp only [mfind] at h; split at h <;> simp at h
  | cons p es ih =>
    intro i h
    simp only [mfind] at h
    split at h
    · simp only [Option.some.injEq] at h; subst h; exact ⟨p, rfl, by assumption⟩
    · split at h
      · rename_i r hr
        simp only [Option.some.injEq] at h
        cases r with
        | none => simp at h
        | some j => simp at h; subst h; simpa using ih hr
      · simp at h
    · simp at h

theorem findAsking_run (w : World) {C : Cx} {kt : TypeId} {ks : List LK} {ag : Bool} (hs : szB P kt ks.length = true) (ha : aggB P kt ag = true) (hf : fEq P 9 kt = some ks) {key : X} {u : Value} (hp : Rep C key u) :
    ∀ {es : List (X × X)} {en : List MapEntry} {i : Nat} {r : Option Nat}, es.length = en.length → (∀ (j : Nat) p m, es[j]? = some p → en[j]? = some m → Rep C p.1 m.key) → mfind ks ag key es = some r →
    (Instr.findAsking kt u en i).run P w = .ok (r.map fun j => (i + j, ((en[j]?).map (·.val)).getD undef)) w ∧
    (ag = false → ∀ d, P.underlying kt = some d → Instr.findNow d u en i = some (r.map fun j => (i + j, ((en[j]?).map (·.val)).getD undef))) := by
  intro es
  induction es with
  | nil =>
    intro en i r hl _ h
    have : en = [] := List.eq_nil_of_length_eq_zero (by simpa using hl.symm)
    subst this
    simp only [mfind] at h
    split at h
    · simp only [Option.some.injEq] at h; subst h; exact ⟨by simp [Instr.findAsking], fun _ d _ => by simp [Instr.findNow]⟩
    · simp at h
  | cons p es ih =>
    intro en i r hl hr h
    cases en with
    | nil => simp at hl
    | cons m en =>
      simp only [mfind] at h
      have hpm := hr 0 p m rfl rfl
      split at h
      · rename_i he
        obtain ⟨h1, _, _, _, h5⟩ := eqX_run w hs ha hf he hp hpm
        simp only [Option.some.injEq] at h
        subst h
        refine ⟨by simp [Instr.findAsking, h1], fun hag d hd => ?_⟩
        obtain ⟨d', hd', hn⟩ := h5 hag
        rw [hd] at hd'
        injection hd' with hd'
        subst hd'
        simp [Instr.findNow, hn]
      · rename_i he
        obtain ⟨h1, _, _, _, h5⟩ := eqX_run w hs ha hf he hp hpm
        split at h
        case h_2 => simp at h
        rename_i r' hr'
        simp only [Option.some.injEq] at h
        subst h
        obtain ⟨i1, i2⟩ := ih (en := en) (i := i + 1) (by simpa using hl) (fun j p m hj hm => hr (j + 1) p m (by simpa using hj) (by simpa using hm)) hr'
        refine ⟨?_, fun hag d hd => ?_⟩
        · simp only [Instr.findAsking, Sem.run_bind, h1, Result.andThen_ok, Bool.false_eq_true, if_false, i1, Option.map_map]
          congr 2
          funext j
          simp [Nat.add_assoc, Nat.add_comm 1 j]
        · obtain ⟨d', hd', hn⟩ := h5 hag
          have hd2 := hd
          rw [hd] at hd'
          injection hd' with hd'
          subst hd'
          simp only [Instr.findNow, hn, i2 hag d hd2, Option.map_map]
          congr 2
          funext j
          simp [Nat.add_assoc, Nat.add_comm 1 j]
      · simp at h

theorem findKey_run (w : World) {C : Cx} {kt : TypeId} {ks : List LK} {ag : Bool} (hs : szB P kt ks.length = true) (ha : aggB P kt ag = true) (hf : fEq P 9 kt = some ks) {key : X} {u : Value} (hp : Rep C key u)
    {es : List (X × X)} {en : Array MapEntry} {r : Option Nat} (hl : es.length = en.size) (hr : ∀ (j : Nat) p m, es[j]? = some p → en[j]? = some m → Rep C p.1 m.key) (h : mfind ks ag key es = some r) :
    (Instr.findKey kt u en.toList).run P w = .ok (r.map fun j => (j, ((en[j]?).map (·.val)).getD undef)) w := by
  obtain ⟨h1, h2⟩ := findAsking_run (P := P) w hs ha hf hp (en := en.toList) (i := 0) (by simpa using hl) (by simpa using hr) h
  simp only [Nat.zero_add, Array.getElem?_toList] at h1 h2
  cases ag with
  | true =>
    rw [run_findKey_eq]
    · exact h1
    · unfold aggB at ha
      split at ha
      · rename_i hu; rw [hu]
      · rename_i hu; rw [hu]
      · simp at ha
      · simp at ha
  | false =>
    have hu : ∃ d, P.underlying kt = some d := by
      unfold aggB at ha
      split at ha
      · rename_i hu; exact ⟨_, hu⟩
      · rename_i hu; exact ⟨_, hu⟩
      · rename_i hu; exact ⟨_, hu⟩
      · simp at ha
    obtain ⟨d, hu⟩ := hu
    simp [Instr.findKey, run_underlying hu, h2 rfl d hu]

section
variable {w0 : Bs} {sh : Nat → Prop} {nt : Nat} {μ : Nat → Nat} {fr : Nat → Prop} {e : Env} {s : Sto} {a : Act} {w : World}

theorem mpX_spec (h : Inv w0 sh nt μ fr e s a w) {x : X} {o : Nat} {es : List (X × X)} (hm : mpX s x = some (o, es)) {v : Value} (hx : Rep (cxo μ s w sh fr) x v) :
    v = .map (some (μ o)) ∧ (s o).o = some (.map es) ∧ (s o).wr = true ∧ ∃ en, w.heap[μ o]? = some (.map en es.length) ∧ en.size = es.length ∧
      ∀ (i : Nat) p m, es[i]? = some p → en[i]? = some m → p.1.scal = true ∧ p.2.scal = true ∧ Rep (cxo μ s w sh fr) p.1 m.key ∧ Rep (cxo μ s w sh fr) p.2 m.val ∧ m.born = i := by
  unfold mpX at hm
  split at hm
  case h_2 => simp at hm
  rename_i o' g
  split at hm
  case h_2 => simp at hm
  rename_i es' ho
  split at hm
  case isFalse => simp at hm
  rename_i hg
  simp only [Option.some.injEq, Prod.mk.injEq] at hm
  obtain ⟨rfl, rfl⟩ := hm
  cases hx with
  | mp h1 h2 h3 h4 =>
    obtain ⟨hob, _⟩ := h.obj _ _ ho
    exact ⟨h3 hg.1.symm, ho, hg.2, hob⟩

theorem Inv.setMap (h : Inv w0 sh nt μ fr e s a w) {o : Nat} {es es' : List (X × X)} (ho : (s o).o = some (.map es)) (hwr : (s o).wr = true) {en : Array MapEntry} {c : Nat} (hh : w.heap[μ o]? = some (.map en c)) (ob : Obj)
    (hob : ∀ C', (cxo μ s w sh fr).Le C' → C'.w = { w with heap := w.heap.setIfInBounds (μ o) ob } → ObR C' (.map es') (μ o)) :
    Inv w0 sh nt μ fr e (setO s o (.map es')) a { w with heap := w.heap.setIfInBounds (μ o) ob } := by
  have hge := (h.obj o _ ho).2.1
  have hlt := heap_lt hh
  have hold : ∀ k, k ≠ μ o → (w.heap.setIfInBounds (μ o) ob)[k]? = w.heap[k]? := fun k hk => Array.getElem?_setIfInBounds_ne (Ne.symm hk)
  have := (h.change o (μ o) (s o).g ((s o).n + 1) (.map es') { w with heap := w.heap.setIfInBounds (μ o) ob } (Nat.le_refl _) (fun _ => rfl) ⟨rfl, rfl, rfl, by simp, fun k hk => hold k (by omega)⟩ (fun k _ hk => hold k hk)
    (.inr ⟨rfl, by simp [ho], hwr, fun cs t fz hcs => by rw [hh] at hcs; simp at hcs⟩) (fun hle => hob _ hle rfl)).1
  have hu : upd μ o (μ o) = μ := by funext n; unfold upd; split <;> simp_all
  rw [hu] at this
  exact this

theorem mapB_spec {t : TypeId} {ks : List LK} {ag : Bool} (h : mapB P t ks ag = true) : ∃ kt et, P.underlying t = some (.map kt et) ∧ szB P kt ks.length = true ∧ aggB P kt ag = true ∧ fEq P 9 kt = some ks := by
  unfold mapB at h
  split at h
  · rename_i kt et hu
    simp only [Bool.and_eq_true, decide_eq_true_eq] at h
    exact ⟨kt, et, hu, h.1.1, h.1.2, h.2⟩
  · simp at h

theorem snd_mlk (h : Inv w0 sh nt μ fr e s a w) {o : Oper} {t : TypeId} {m k : Operand} {ok ag : Bool} {ks : List LK} {rm rk : Ar} {z : X} (hop : o.op = .lookup t m k ok) (hB : mapB P t ks ag = true) (hZ : mapZ P t z = true) (hm : okA m rm = true) (hk : okA k rk = true)
    {x : X} {s' : Sto} (hs : stepO (.mlk ks ag rm rk z ok) e s = some (x, s')) : s' = s ∧ OutS P w0 sh nt μ fr e s a w o x := by
  obtain ⟨kt, et, hu, h1, h2, h3⟩ := mapB_spec hB
  simp only [mapZ, hu] at hZ
  simp only [stepO] at hs
  split at hs
  case h_2 => simp at hs
  rename_i q es hmp
  split at hs
  case h_2 => simp at hs
  rename_i r hr
  split at hs
  case h_2 => simp at hs
  rename_i v hv
  simp only [Option.some.injEq, Prod.mk.injEq] at hs
  obtain ⟨rfl, rfl⟩ := hs
  obtain ⟨e1, e2, e3, en, e4, e5, e6⟩ := mpX_spec h hmp (okA_rep h.env hm)
  have hkr := okA_rep h.env hk
  have hfk := findKey_run (P := P) w h1 h2 h3 hkr (en := en) e5.symm (fun j p m hj hm => (e6 j p m hj hm).2.2.1) hr
  have hck := okKey_run (P := P) w h1 h2 h3 (mfind_key hr) hkr
  obtain ⟨zv, hz1, hz2⟩ := zeroB_run hZ w
  have hval : ∃ u, Rep (cxo μ s w sh fr) v u ∧ (r = none → u = zv) ∧ ∀ i, r = some i → ((en[i]?).map fun m : MapEntry => m.val).getD undef = u := by
    cases r with
    | none =>
      simp only [Option.some.injEq] at hv
      subst hv
      exact ⟨zv, okZ_rep hz2 _, fun _ => rfl, by simp⟩
    | some i =>
      simp only [Option.map_eq_some_iff] at hv
      obtain ⟨p, hp, rfl⟩ := hv
      have hi : i < en.size := by have := (List.getElem?_eq_some_iff.1 hp).1; omega
      have hm := Array.getElem?_eq_getElem hi
      exact ⟨en[i].val, (e6 i p _ hp hm).2.2.2.1, by simp, fun j hj => by injection hj with hj; subst hj; simp [hm]⟩
  obtain ⟨u, hu1, hu2, hu3⟩ := hval
  refine ⟨rfl, outS_val h (v := if ok then .tuple #[u, .bool r.isSome] else u) ?_ ?_⟩
  · have hgo : (getObj (μ q)).run P w = .ok (.map en es.length) w := by simp [getObj, Sem.run, e4]
    simp only [execOp, hop, e1, Sem.run_bind, Instr.lookup, run_underlying hu, Result.andThen_ok, hgo, Sem.run_pure, hck, hfk]
    cases r with
    | none => rw [hu2 rfl]; simp [hz1]
    | some i => rw [← hu3 i rfl]; simp
  · cases ok
    · exact hu1
    · refine .tup rfl ?_
      intro j c v' hj hv'
      match j with
      | 0 => simp at hj hv'; subst hj; subst hv'; exact hu1
      | 1 => simp at hj hv'; subst hj; subst hv'; exact .v rfl
      | j + 2 => simp at hj

theorem snd_mkm (h : Inv w0 sh nt μ fr e s a w) {o : Oper} {t : TypeId} {hi : Option Operand} {n : Nat} {ha : Option Ar} (hop : o.op = .makeMap t hi) (hok : okMap P (.makeMap t hi) (.mkm n ha) = true)
    {x : X} {s' : Sto} (hs : stepO (.mkm n ha) e s = some (x, s')) : Out P w0 sh nt e a w o x s' := by
  simp only [stepO] at hs
  split at hs
  case isFalse => simp at hs
  rename_i hcond
  simp only [Option.some.injEq, Prod.mk.injEq] at hs
  obtain ⟨rfl, rfl⟩ := hs
  have hI : Inv w0 sh nt (upd μ n w.heap.size) fr e (newO s n (.map [])) a (w.alloc (.map #[] 0)) := by
    refine (h.change n w.heap.size ((s n).g + 1) ((s n).n + 1) (.map []) (w.alloc (.map #[] 0)) (by omega) (by omega) ?_ ?_ (.inl (Nat.le_refl _)) (fun hle => ?_)).1
    · exact (Below.refl _ _).alloc h.below.size _
    · intro k hk _; exact heap_alloc_old w _ k hk
    · exact ⟨#[], heap_alloc_new w _, rfl, by simp⟩
  have hrun : (execOp a.eval o).run P w = .ok (.value (.map (some w.heap.size))) (w.alloc (.map #[] 0)) := by
    cases hi with
    | none => simp [execOp, hop, Instr.makeMap]
    | some y =>
      cases ha with
      | none => simp [okMap] at hok
      | some r =>
        simp only [okMap, Bool.and_eq_true] at hok
        have hu : ∃ k e, P.underlying t = some (.map k e) := by
          have := hok.2
          split at this
          · rename_i k e hu; exact ⟨k, e, hu⟩
          · simp at this
        obtain ⟨k, e', hu⟩ := hu
        obtain ⟨i, hi⟩ := Option.isSome_iff_exists.1 (show (asI (r.ev e)).isSome = true from hcond)
        obtain ⟨q, hq⟩ := asI_rep (okA_rep h.env hok.1) hi
        simp [execOp, hop, Instr.makeMap, run_underlying hu, hq, asInt, asIntOf]
  refine ⟨_, _, _, _, _, hrun, .inl rfl, hI, ?_⟩
  exact .mp (by omega) (by simp [cxo, newO, upd_same]) (fun _ => by simp [cxo, upd_same]) rfl

theorem map_push {C : Cx} {es : List (X × X)} {en : Array MapEntry} (e5 : en.size = es.length) (e6 : ∀ (i : Nat) p m, es[i]? = some p → en[i]? = some m → p.1.scal = true ∧ p.2.scal = true ∧ Rep C p.1 m.key ∧ Rep C p.2 m.val ∧ m.born = i)
    {k v : X} {u z : Value} (hk : k.scal = true) (hv : v.scal = true) (hku : Rep C k u) (hvz : Rep C v z) :
    ∀ (i : Nat) p m, (es ++ [(k, v)])[i]? = some p → (en.push ⟨u, z, es.length⟩)[i]? = some m → p.1.scal = true ∧ p.2.scal = true ∧ Rep C p.1 m.key ∧ Rep C p.2 m.val ∧ m.born = i := by
  intro i p m hp hm
  by_cases hi : i < es.length
  · rw [List.getElem?_append_left hi] at hp
    rw [Array.getElem?_push, if_neg (by omega)] at hm
    exact e6 i p m hp hm
  · by_cases he : i = es.length
    · subst he
      rw [Array.getElem?_push, if_pos e5.symm] at hm
      simp at hp hm
      subst hp; subst hm
      exact ⟨hk, hv, hku, hvz, rfl⟩
    · rw [List.getElem?_append_right (by omega)] at hp
      have : i - es.length = (i - es.length - 1) + 1 := by omega
      rw [this] at hp
      simp at hp
theorem map_set {C : Cx} {es : List (X × X)} {en : Array MapEntry} (e6 : ∀ (i : Nat) p m, es[i]? = some p → en[i]? = some m → p.1.scal = true ∧ p.2.scal = true ∧ Rep C p.1 m.key ∧ Rep C p.2 m.val ∧ m.born = i)
    {j : Nat} {v : X} {u z : Value} (hv : v.scal = true) (hvz : Rep C v z) (f : MapEntry → MapEntry) (hf : ∀ m, en[j]? = some m → (f m).key = m.key ∧ (f m).val = z ∧ (f m).born = m.born) :
    ∀ (i : Nat) p m, (setV es j v)[i]? = some p → (en.modify j f)[i]? = some m → p.1.scal = true ∧ p.2.scal = true ∧ Rep C p.1 m.key ∧ Rep C p.2 m.val ∧ m.born = i := by
  intro i p m hp hm
  unfold setV at hp
  rw [List.getElem?_modify] at hp
  rw [Array.getElem?_modify] at hm
  by_cases hj : j = i
  · subst hj
    simp only [if_true] at hp hm
    cases hes : es[j]? with
    | none => simp [hes] at hp
    | some p0 => cases hen : en[j]? with
      | none => simp [hen] at hm
      | some m0 =>
        simp only [hes, hen, Option.map_some, Option.map_eq_map, Option.some.injEq] at hp hm
        subst hp; subst hm
        obtain ⟨a1, a2, a3, a4, a5⟩ := e6 j p0 m0 hes hen
        obtain ⟨b1, b2, b3⟩ := hf m0 hen
        exact ⟨a1, hv, b1 ▸ a3, b2 ▸ hvz, b3.trans a5⟩
  · simp only [hj, if_false] at hp hm
    cases hes : es[i]? with
    | none => simp [hes] at hp
    | some p0 => cases hen : en[i]? with
      | none => simp [hen] at hm
      | some m0 =>
        simp [hes, hen] at hp hm
        subst hp; subst hm
        exact e6 i p0 m0 hes hen

theorem find_born {es : List (X × X)} {en : Array MapEntry} (e5 : en.size = es.length) (hb : ∀ (i : Nat) m, en[i]? = some m → m.born = i) {i : Nat} (hi : i < en.size) (z : Int) (hz : z = i) : en.findIdx? (fun e => (e.born : Int) == z) = some i := by
  subst hz
  rw [Array.findIdx?_eq_some_iff_getElem]
  refine ⟨hi, ?_, fun j hj => ?_⟩
  · have := hb i _ (Array.getElem?_eq_getElem hi)
    simp [this]
  · have := hb j _ (Array.getElem?_eq_getElem (show j < en.size by omega))
    simp [this]
    omega

theorem set_go (w : World) {b : Nat} {en : Array MapEntry} {c : Nat} (hb : w.heap[b]? = some (.map en c)) (o : Obj) : (setObj b o).run P w = .ok () { w with heap := w.heap.setIfInBounds b o } := by
  simp [setObj, Sem.run, hb]
theorem set_at (w : World) {b : Nat} {o : Obj} {ob : Obj} (hb : w.heap[b]? = some o) : ({ w with heap := w.heap.setIfInBounds b ob } : World).heap[b]? = some ob := by
  have := heap_lt hb
  simp [this]

theorem snd_mst (h : Inv w0 sh nt μ fr e s a w) {o : Oper} {t : TypeId} {m st v : Operand} {rm rs rv : Ar} (hop : o.op = .entryStore t m st v) (hm : okA m rm = true) (hst : okA st rs = true) (hv : okA v rv = true)
    {x : X} {s' : Sto} (hs : stepO (.mst rm rs rv) e s = some (x, s')) : Out P w0 sh nt e a w o x s' := by
  simp only [stepO] at hs
  split at hs
  case h_2 => simp at hs
  rename_i q es i hmp hi
  split at hs
  case isFalse => simp at hs
  rename_i hcond
  obtain ⟨hi0, hi1, hsc⟩ := hcond
  simp only [Option.some.injEq, Prod.mk.injEq] at hs
  obtain ⟨rfl, rfl⟩ := hs
  obtain ⟨e1, e2, e3, en, e4, e5, e6⟩ := mpX_spec h hmp (okA_rep h.env hm)
  obtain ⟨ki, hsi⟩ := asI_rep (okA_rep h.env hst) hi
  have hvr := okA_rep h.env hv
  have hgo : (getObj (μ q)).run P w = .ok (.map en es.length) w := by simp [getObj, Sem.run, e4]
  have hfi := find_born e5 (fun i m hm => by
    have hlt : i < es.length := by have := (Array.getElem?_eq_some_iff.1 hm).1; omega
    exact (e6 i _ m (List.getElem?_eq_getElem hlt) hm).2.2.2.2) (i := i.toNat) (by omega) i (by omega)
  have hI := h.setMap e2 e3 e4 (es' := setV es i.toNat (rv.ev e)) (.map (en.modify i.toNat fun m => { m with val := a.eval v }) es.length) (by
    intro C' hle hw
    refine ⟨en.modify i.toNat fun m => { m with val := a.eval v }, ?_, ?_, ?_⟩
    · rw [hw, set_at w e4]; simp [setV]
    · simp [setV, e5]
    · exact map_set (fun i p m hp hm => by obtain ⟨a1, a2, a3, a4, a5⟩ := e6 i p m hp hm; exact ⟨a1, a2, a3.mono hle, a4.mono hle, a5⟩) hsc (hvr.mono hle) (u := undef) _ (fun m _ => ⟨rfl, rfl, rfl⟩))
  refine ⟨.skip, undef, _, _, _, ?_, .inr ⟨rfl, rfl⟩, hI, .junk⟩
  simp [execOp, hop, e1, hsi, Instr.entryStore, hgo, asInt, asIntOf, hfi, set_go w e4]

theorem snd_men (h : Inv w0 sh nt μ fr e s a w) {o : Oper} {t : TypeId} {m k : Operand} {ag : Bool} {ks : List LK} {rm rk : Ar} {z : X} (hop : o.op = .mapEntry t m k) (hB : mapB P t ks ag = true) (hZ : mapZ P t z = true) (hm : okA m rm = true) (hk : okA k rk = true)
    {x : X} {s' : Sto} (hs : stepO (.men ks ag rm rk z) e s = some (x, s')) : Out P w0 sh nt e a w o x s' := by
  obtain ⟨kt, et, hu, h1, h2, h3⟩ := mapB_spec hB
  simp only [mapZ, hu] at hZ
  simp only [stepO] at hs
  split at hs
  case h_2 => simp at hs
  rename_i q es hmp
  obtain ⟨e1, e2, e3, en, e4, e5, e6⟩ := mpX_spec h hmp (okA_rep h.env hm)
  have hkr := okA_rep h.env hk
  have hgo : (getObj (μ q)).run P w = .ok (.map en es.length) w := by simp [getObj, Sem.run, e4]
  obtain ⟨zv, hz1, hz2⟩ := zeroB_run hZ w
  split at hs
  · rename_i i hr
    split at hs
    case h_2 => simp at hs
    rename_i p hp
    simp only [Option.some.injEq, Prod.mk.injEq] at hs
    obtain ⟨rfl, rfl⟩ := hs
    have hfk := findKey_run (P := P) w h1 h2 h3 hkr (en := en) e5.symm (fun j p m hj hm => (e6 j p m hj hm).2.2.1) hr
    have hck := okKey_run (P := P) w h1 h2 h3 (mfind_key hr) hkr
    have hi : i < en.size := by have := (List.getElem?_eq_some_iff.1 hp).1; omega
    have hme := Array.getElem?_eq_getElem hi
    obtain ⟨a1, a2, a3, a4, a5⟩ := e6 i p _ hp hme
    obtain ⟨p', hp', heq⟩ := mfind_eq hr
    rw [hp] at hp'
    injection hp' with hp'
    subst hp'
    obtain ⟨_, hsame, _, hbits, _⟩ := eqX_run (P := P) w h1 h2 h3 heq hkr a3
    have hsame := hsame rfl
    have hI := h.setMap e2 e3 e4 (es' := es) (.map (en.modify i fun m => { m with key := a.eval k }) es.length) (by
      intro C' hle hw
      refine ⟨en.modify i fun m => { m with key := a.eval k }, ?_, by simp [e5], ?_⟩
      · rw [hw, set_at w e4]
      · intro j p m hj hm
        rw [Array.getElem?_modify] at hm
        split at hm
        · rename_i hij; subst hij
          rw [hme] at hm
          simp only [Option.map_some, Option.some.injEq] at hm
          subst hm
          obtain ⟨b1, b2, b3, b4, b5⟩ := e6 i p _ hj hme
          exact ⟨b1, b2, by simpa [hsame] using b3.mono hle, b4.mono hle, b5⟩
        · obtain ⟨b1, b2, b3, b4, b5⟩ := e6 j p m hj hm
          exact ⟨b1, b2, b3.mono hle, b4.mono hle, b5⟩)
    refine ⟨_, .tuple #[en[i].val, .int .i64 i], _, _, _, ?_, .inl rfl, hI, .tup rfl ?_⟩
    · simp [execOp, hop, e1, Instr.mapEntry, run_underlying hu, hgo, hck, hfk, Instr.keyThatStays, hme, ← hsame, hbits, set_go w e4, a5, goInt]
    · intro j c v' hj hv'
      match j with
      | 0 => simp at hj hv'; subst hj; subst hv'; exact a4.scal a2
      | 1 => simp at hj hv'; subst hj; subst hv'; exact .v rfl
      | j + 2 => simp at hj
  · rename_i hr
    split at hs
    case isFalse => simp at hs
    rename_i hcond
    simp only [Option.some.injEq, Prod.mk.injEq] at hs
    obtain ⟨rfl, rfl⟩ := hs
    have hfk := findKey_run (P := P) w h1 h2 h3 hkr (en := en) e5.symm (fun j p m hj hm => (e6 j p m hj hm).2.2.1) hr
    have hck := okKey_run (P := P) w h1 h2 h3 (mfind_key hr) hkr
    have hI := h.setMap e2 e3 e4 (es' := es ++ [(rk.ev e, z)]) (.map (en.push ⟨a.eval k, zv, es.length⟩) (es.length + 1)) (by
      intro C' hle hw
      refine ⟨en.push ⟨a.eval k, zv, es.length⟩, ?_, by simp [e5], ?_⟩
      · rw [hw, set_at w e4]; simp
      · exact map_push e5 (fun i p m hp hm => by obtain ⟨a1, a2, a3, a4, a5⟩ := e6 i p m hp hm; exact ⟨a1, a2, a3.mono hle, a4.mono hle, a5⟩) hcond.1 hcond.2 (hkr.mono hle) (okZ_rep hz2 _))
    refine ⟨_, .tuple #[zv, .int .i64 es.length], _, _, _, ?_, .inl rfl, hI, .tup rfl ?_⟩
    · simp [execOp, hop, e1, Instr.mapEntry, run_underlying hu, hgo, hck, hfk, hz1, set_go w e4, goInt]
    · intro j c v' hj hv'
      match j with
      | 0 => simp at hj hv'; subst hj; subst hv'; exact okZ_rep hz2 _
      | 1 => simp at hj hv'; subst hj; subst hv'; exact .v rfl
      | j + 2 => simp at hj
  · simp at hs

theorem snd_mup (h : Inv w0 sh nt μ fr e s a w) {o : Oper} {t : TypeId} {m k v : Operand} {ag : Bool} {ks : List LK} {rm rk rv : Ar} (hop : o.op = .mapUpdate t m k v) (hB : mapB P t ks ag = true) (hm : okA m rm = true) (hk : okA k rk = true) (hv : okA v rv = true)
    {x : X} {s' : Sto} (hs : stepO (.mup ks ag rm rk rv) e s = some (x, s')) : Out P w0 sh nt e a w o x s' := by
  obtain ⟨kt, et, hu, h1, h2, h3⟩ := mapB_spec hB
  simp only [stepO] at hs
  split at hs
  case h_2 => simp at hs
  rename_i q es hmp
  split at hs
  case isFalse => simp at hs
  rename_i hcond
  obtain ⟨e1, e2, e3, en, e4, e5, e6⟩ := mpX_spec h hmp (okA_rep h.env hm)
  have hkr := okA_rep h.env hk
  have hvr := okA_rep h.env hv
  have hgo : (getObj (μ q)).run P w = .ok (.map en es.length) w := by simp [getObj, Sem.run, e4]
  split at hs
  · rename_i i hr
    simp only [Option.some.injEq, Prod.mk.injEq] at hs
    obtain ⟨rfl, rfl⟩ := hs
    have hfk := findKey_run (P := P) w h1 h2 h3 hkr (en := en) e5.symm (fun j p m hj hm => (e6 j p m hj hm).2.2.1) hr
    have hck := okKey_run (P := P) w h1 h2 h3 (mfind_key hr) hkr
    obtain ⟨p, hp, heq⟩ := mfind_eq hr
    have hi : i < en.size := by have := (List.getElem?_eq_some_iff.1 hp).1; omega
    have hme := Array.getElem?_eq_getElem hi
    obtain ⟨a1, a2, a3, a4, a5⟩ := e6 i p _ hp hme
    obtain ⟨_, hsame, _, hbits, _⟩ := eqX_run (P := P) w h1 h2 h3 heq hkr a3
    have hsame := hsame rfl
    have hI := h.setMap e2 e3 e4 (es' := setV es i (rv.ev e)) (.map (en.modify i fun m => { m with key := a.eval k, val := a.eval v }) es.length) (by
      intro C' hle hw
      refine ⟨en.modify i fun m => { m with key := a.eval k, val := a.eval v }, ?_, by simp [setV, e5], ?_⟩
      · rw [hw, set_at w e4]; simp [setV]
      · exact map_set (fun i p m hp hm => by obtain ⟨a1, a2, a3, a4, a5⟩ := e6 i p m hp hm; exact ⟨a1, a2, a3.mono hle, a4.mono hle, a5⟩) hcond.2 (hvr.mono hle) (u := undef) _ (fun m hm => by
          rw [hme] at hm; injection hm with hm; subst hm; exact ⟨hsame, rfl, rfl⟩))
    refine ⟨.skip, undef, _, _, _, ?_, .inr ⟨rfl, rfl⟩, hI, .junk⟩
    simp [execOp, hop, e1, Instr.mapUpdate, run_underlying hu, hgo, hck, hfk, Instr.keyThatStays, hme, ← hsame, hbits, set_go w e4]
  · rename_i hr
    simp only [Option.some.injEq, Prod.mk.injEq] at hs
    obtain ⟨rfl, rfl⟩ := hs
    have hfk := findKey_run (P := P) w h1 h2 h3 hkr (en := en) e5.symm (fun j p m hj hm => (e6 j p m hj hm).2.2.1) hr
    have hck := okKey_run (P := P) w h1 h2 h3 (mfind_key hr) hkr
    have hI := h.setMap e2 e3 e4 (es' := es ++ [(rk.ev e, rv.ev e)]) (.map (en.push ⟨a.eval k, a.eval v, es.length⟩) (es.length + 1)) (by
      intro C' hle hw
      refine ⟨en.push ⟨a.eval k, a.eval v, es.length⟩, ?_, by simp [e5], ?_⟩
      · rw [hw, set_at w e4]; simp
      · exact map_push e5 (fun i p m hp hm => by obtain ⟨a1, a2, a3, a4, a5⟩ := e6 i p m hp hm; exact ⟨a1, a2, a3.mono hle, a4.mono hle, a5⟩) hcond.1 hcond.2 (hkr.mono hle) (hvr.mono hle))
    refine ⟨.skip, undef, _, _, _, ?_, .inr ⟨rfl, rfl⟩, hI, .junk⟩
    simp [execOp, hop, e1, Instr.mapUpdate, run_underlying hu, hgo, hck, hfk, set_go w e4]
  · simp at hs

theorem snd_mln (h : Inv w0 sh nt μ fr e s a w) {o : Oper} {c : Call} {rm : Ar} (hop : o.op = .call c) (hok : okMap P (.call c) (.mln rm) = true)
    {x : X} {s' : Sto} (hs : stepO (.mln rm) e s = some (x, s')) : s' = s ∧ OutS P w0 sh nt μ fr e s a w o x := by
  simp only [stepO] at hs
  split at hs
  case h_2 => simp at hs
  rename_i q es hmp
  simp only [Option.some.injEq, Prod.mk.injEq] at hs
  obtain ⟨rfl, rfl⟩ := hs
  simp only [okMap, Bool.and_eq_true] at hok
  obtain ⟨⟨hb, ht⟩, hl⟩ := hok
  have hc : c.callee = .builtin .len := by
    revert hb
    cases c.callee <;> simp
    rename_i b
    cases b <;> simp
  split at ht
  case h_2 => simp at ht
  rename_i t htt
  have hu : ∃ k e, P.underlying t = some (.map k e) := by
    split at ht
    · rename_i k e hu; exact ⟨k, e, hu⟩
    · simp at ht
  obtain ⟨k, e', hu⟩ := hu
  obtain ⟨h1, h2⟩ := okAL_rep h.env hl
  obtain ⟨y, hy⟩ := one_arg h1
  obtain ⟨e1, e2, e3, en, e4, e5, e6⟩ := mpX_spec h hmp (h2 0 rm y rfl (by simp [hy]))
  have hgo : (getObj (μ q)).run P w = .ok (.map en es.length) w := by simp [getObj, Sem.run, e4]
  exact ⟨rfl, outS_val h (v := .int .i64 es.length) (by simp [execOp, hop, resolve, hc, hy, invoke, builtin, e1, Builtin.len_, htt, run_underlying hu, hgo, goInt, e5]) (.v rfl)⟩

theorem snd_eqn (h : Inv w0 sh nt μ fr e s a w) {o : Oper} {t el yt : TypeId} {x y : Operand} {r : Ar} {neg : Bool} (hop : o.op = .binOp (if neg then .neq else .eql) t x y yt) (hy : a.eval y = .slice none 0 0) (hx : okA x r = true) (ht : P.underlying t = some (.slice el))
    {z : X} {s' : Sto} (hs : stepO (.eqn neg r) e s = some (z, s')) : s' = s ∧ OutS P w0 sh nt μ fr e s a w o z := by
  have hr := okA_rep h.env hx
  have fin : ∀ (ad : Option Addr) n c, a.eval x = .slice ad n c → OutS P w0 sh nt μ fr e s a w o (.v (.bool (if neg then !ad.isNone else ad.isNone))) := by
    intro ad n c hv
    have heq' : ∀ d, (Op.equalIn (d + 1) t (.slice ad n c) (.slice none 0 0)).run P w = .ok ad.isNone w := by
      intro d; cases ad <;> simp [Op.equalIn, run_underlying ht]
    have heq := heq' 9999
    have hg : ∀ op, (eqGuard op t x y (.slice ad n c) (.slice none 0 0)).run P w = .ok () w := by
      intro op; cases op <;> simp [eqGuard, run_program]
    have e1 : (binOp .eql t (.slice ad n c) (.slice none 0 0)).run P w = .ok (.bool ad.isNone) w := by
      simp only [binOp]
      simp only [Op.equal, Op.maxDepth, Sem.run_bind, heq, Result.andThen_ok, Sem.run_pure]
    have e2 : (binOp .neq t (.slice ad n c) (.slice none 0 0)).run P w = .ok (.bool !ad.isNone) w := by
      simp only [binOp]
      simp only [Op.equal, Op.maxDepth, Sem.run_bind, heq, Result.andThen_ok, Sem.run_pure]
    cases neg
    · refine outS_val h (v := .bool ad.isNone) ?_ (.v rfl)
      simp [execOp, hop, hv, hy, hg, e1]
    · refine outS_val h (v := .bool !ad.isNone) ?_ (.v rfl)
      simp [execOp, hop, hv, hy, hg, e2]
  simp only [stepO] at hs
  split at hs
  · rename_i f q es hx'
    simp only [Option.some.injEq, Prod.mk.injEq] at hs
    obtain ⟨rfl, rfl⟩ := hs
    rw [hx'] at hr
    generalize hv : a.eval x = v at hr
    cases hr with
    | sl => refine ⟨rfl, ?_⟩; have := fin _ _ _ hv; cases neg <;> simpa using this
  · rename_i q g k i n hx'
    split at hs
    case isFalse => simp at hs
    rename_i hg
    simp only [Option.some.injEq, Prod.mk.injEq] at hs
    obtain ⟨rfl, rfl⟩ := hs
    rw [hx'] at hr
    generalize hv : a.eval x = v at hr
    cases hr with
    | ref _ _ hv' _ =>
      obtain ⟨cap, rfl, _⟩ := hv' hg.symm
      refine ⟨rfl, ?_⟩; have := fin _ _ _ hv; cases neg <;> simpa using this
  · simp at hs
end
end Go.Proofs.YtoodknhlnifnlaaGreatDoor

/- The engine, part Q: every operation that is no call. -/
set_option linter.unusedVariables false
set_option linter.unusedSimpArgs false
namespace Go.Proofs.YtoodknhlnifnlaaGreatDoor
open Go.RowKit
variable {P : Program}

def okOq (P : Program) (op : Op) (io : IOp) : Bool :=
  match io with
  | .eqs neg ks a b => match op with
    | .binOp o t x y _ => (o == if neg then .neq else .eql) && okA x a && okA y b && eqT P t ks
    | _ => false
  | .eqn neg a => match op with
    | .binOp o t x (.const (.slice none 0 0)) _ => (o == if neg then .neq else .eql) && okA x a && (match P.underlying t with
      | some (.slice _) => true
      | _ => false)
    | _ => false
  | .mkm .. | .mlk .. | .men .. | .mst .. | .mup .. | .mln .. => okMap P op io
  | _ => okOp P op io
@[simp] def plainI : IOp → Bool
  | .eqs .. | .eqn .. | .mkm .. | .mlk .. | .men .. | .mst .. | .mup .. | .mln .. => false
  | _ => true

def stillI : IOp → Bool
  | .box .. | .bsl .. | .bsn .. | .st .. | .mks .. | .app .. | .call .. | .callv .. | .calli .. | .callb .. | .callo .. | .callw .. | .mkm .. | .men .. | .mst .. | .mup .. => false
  | _ => true

section
variable {w0 : Bs} {sh : Nat → Prop} {nt : Nat} {μ : Nat → Nat} {fr : Nat → Prop} {e : Env} {s : Sto} {a : Act} {w : World}

theorem okOq_okOp {op : Op} {io : IOp} (h : okOq P op io = true) (hn : plainI io = true) : okOp P op io = true := by
  cases io <;> first | exact h | (simp at hn; done)

theorem retS_some {x : Option X} {y : X} {s s' : Sto} (h : retS x s = some (y, s')) : x = some y ∧ s' = s := by
  unfold retS at h
  split at h
  · simp only [Option.some.injEq, Prod.mk.injEq] at h; obtain ⟨rfl, rfl⟩ := h; exact ⟨rfl, rfl⟩
  · simp at h

set_option maxHeartbeats 1000000 in
theorem still_sound (h : Inv w0 sh nt μ fr e s a w) {o : Oper} {io : IOp} (hok : okOq P o.op io = true) (hst : stillI io = true) {x : X} {s' : Sto} (hs : stepO io e s = some (x, s')) :
    s' = s ∧ OutS P w0 sh nt μ fr e s a w o x := by
  cases io
  case mov r =>
    have hok := okOq_okOp hok (by simp)
    simp only [stepO, Option.some.injEq, Prod.mk.injEq] at hs
    obtain ⟨rfl, rfl⟩ := hs
    refine ⟨rfl, ?_⟩
    cases hop : o.op <;> simp only [hop, okOp, Bool.false_eq_true] at hok
    · exact snd_mov h (.inl hop) hok
    · exact snd_mov h (.inr hop) hok
  case pick c r1 r2 =>
    have hok := okOq_okOp hok (by simp)
    simp only [stepO] at hs
    split at hs
    case h_2 => simp at hs
    rename_i t ht
    simp only [Option.some.injEq, Prod.mk.injEq] at hs
    obtain ⟨rfl, rfl⟩ := hs
    refine ⟨rfl, ?_⟩
    cases hop : o.op <;> simp only [hop, okOp, Bool.false_eq_true, Bool.and_eq_true] at hok
    exact snd_pick h hop hok.1.1 hok.1.2 hok.2 ht
  case boxI r =>
    have hok := okOq_okOp hok (by simp)
    simp only [stepO] at hs
    split at hs
    case isFalse => simp at hs
    rename_i hd
    simp only [Option.some.injEq, Prod.mk.injEq] at hs
    obtain ⟨rfl, rfl⟩ := hs
    refine ⟨rfl, ?_⟩
    cases hop : o.op <;> simp only [hop, okOp, Bool.false_eq_true] at hok
    case alloc t =>
      cases r <;> simp only [Bool.false_eq_true] at hok
      rename_i z
      obtain ⟨v, hv, hr⟩ := alloc_run (w := w) hok
      exact snd_boxI h (t := t) ⟨v, okZ_rep hv _, by simp [execOp, hop, hr]⟩ hd.2
    case box t y =>
      have : okA y r = true := by cases r <;> exact hok
      exact snd_boxI h (t := t) ⟨a.eval y, okA_rep h.env this, by simp [execOp, hop, box_run]⟩ hd.2
  case build z ps =>
    have hok := okOq_okOp hok (by simp)
    simp only [stepO] at hs
    split at hs
    case h_2 => simp at hs
    rename_i cs hc
    simp only [Option.some.injEq, Prod.mk.injEq] at hs
    obtain ⟨rfl, rfl⟩ := hs
    refine ⟨rfl, ?_⟩
    cases hop : o.op
    case build t qs => rw [hop] at hok; exact snd_build h hop hok hc
    all_goals (rw [hop] at hok; simp [okOp] at hok)
  case bslI k n z ps =>
    have hok := okOq_okOp hok (by simp)
    simp only [stepO] at hs
    split at hs
    case h_2 => simp at hs
    rename_i es hc
    simp only [Option.some.injEq, Prod.mk.injEq] at hs
    obtain ⟨rfl, rfl⟩ := hs
    refine ⟨rfl, ?_⟩
    cases hop : o.op
    case buildSlice t m qs =>
      rw [hop] at hok
      have hnm : m = n := by simp only [okOp, Bool.and_eq_true, beq_iff_eq] at hok; exact hok.1.1.1.1.2
      subst hnm
      exact snd_bslI h hop hok hc
    all_goals (rw [hop] at hok; simp [okOp] at hok)
  case ld r k ag =>
    have hok := okOq_okOp hok (by simp)
    simp only [stepO] at hs
    obtain ⟨hs2, rfl⟩ := retS_some hs
    refine ⟨rfl, ?_⟩
    cases hop : o.op <;> simp only [hop, okOp, Bool.false_eq_true, Bool.and_eq_true] at hok
    exact snd_ld h hop hok.1.1 hok.1.2 hok.2 hs2
  case nck r =>
    have hok := okOq_okOp hok (by simp)
    cases hop : o.op <;> simp only [hop, okOp, Bool.false_eq_true] at hok
    simp only [stepO] at hs
    split at hs
    · rename_i q g j hr
      split at hs
      case isFalse => simp at hs
      rename_i hg
      simp only [Option.some.injEq, Prod.mk.injEq] at hs
      obtain ⟨rfl, rfl⟩ := hs
      exact ⟨rfl, snd_nck h hop hok hr (.inl ⟨_, _, _, rfl, hg.symm⟩)⟩
    · rename_i q g k i j hr
      split at hs
      case isFalse => simp at hs
      rename_i hg
      simp only [Option.some.injEq, Prod.mk.injEq] at hs
      obtain ⟨rfl, rfl⟩ := hs
      exact ⟨rfl, snd_nck h hop hok hr (.inr (.inl ⟨_, _, _, _, _, rfl, hg.symm⟩))⟩
    · rename_i z j hr
      simp only [Option.some.injEq, Prod.mk.injEq] at hs
      obtain ⟨rfl, rfl⟩ := hs
      exact ⟨rfl, snd_nck h hop hok hr (.inr (.inr ⟨_, _, rfl⟩))⟩
    · simp at hs
  case bin op r1 r2 =>
    have hok := okOq_okOp hok (by simp)
    simp only [stepO] at hs
    split at hs
    case h_2 => simp at hs
    rename_i u v hu hv
    split at hs
    case h_2 => simp at hs
    rename_i z hz
    simp only [Option.some.injEq, Prod.mk.injEq] at hs
    obtain ⟨rfl, rfl⟩ := hs
    refine ⟨rfl, ?_⟩
    cases hop : o.op
    case binOp op' t y1 y2 yt =>
      rw [hop] at hok
      have hok' : ((op' == op && okA y1 r1) && okA y2 r2) && scalT P t = true := by cases op' <;> simpa [okOp] using hok
      simp only [Bool.and_eq_true, beq_iff_eq] at hok'
      obtain ⟨⟨⟨rfl, h1⟩, h2⟩, h3⟩ := hok'
      exact snd_bin h hop h1 h2 (by simpa using h3) hu hv hz
    all_goals (rw [hop] at hok; simp [okOp] at hok)
  case eqs neg ks r1 r2 =>
    simp only [stepO] at hs
    split at hs
    case h_2 => simp at hs
    rename_i l m hl hm
    split at hs
    case h_2 => simp at hs
    rename_i b hb
    simp only [Option.some.injEq, Prod.mk.injEq] at hs
    obtain ⟨rfl, rfl⟩ := hs
    refine ⟨rfl, ?_⟩
    simp only [okOq] at hok
    split at hok
    case h_2 => simp at hok
    rename_i o' t y1 y2 yt hop
    simp only [Bool.and_eq_true, beq_iff_eq] at hok
    obtain ⟨⟨⟨rfl, h1⟩, h2⟩, h3⟩ := hok
    exact snd_eqs h hop h1 h2 h3 hl hm hb
  case eqn neg r =>
    simp only [okOq] at hok
    split at hok
    case h_2 => simp at hok
    rename_i o' t y1 yt hop
    simp only [Bool.and_eq_true, beq_iff_eq] at hok
    obtain ⟨⟨rfl, h1⟩, h3⟩ := hok
    split at h3
    case h_2 => simp at h3
    rename_i el hel
    exact snd_eqn h hop rfl h1 hel hs
  case mlk ks ag rm rk z ok =>
    simp only [okOq] at hok
    cases hop : o.op <;> simp only [hop, okMap, Bool.false_eq_true, Bool.and_eq_true, beq_iff_eq] at hok
    obtain ⟨⟨⟨⟨h1, h2⟩, h3⟩, h4⟩, rfl⟩ := hok
    exact snd_mlk h hop h1 h2 h3 h4 hs
  case mln rm =>
    simp only [okOq] at hok
    cases hop : o.op
    case call c => rw [hop] at hok; exact snd_mln h hop hok hs
    all_goals (rw [hop] at hok; simp [okMap] at hok)
  case eqb neg r1 r2 =>
    have hok := okOq_okOp hok (by simp)
    simp only [stepO] at hs
    split at hs
    case h_2 => simp at hs
    rename_i u v hu hv
    simp only [Option.some.injEq, Prod.mk.injEq] at hs
    obtain ⟨rfl, rfl⟩ := hs
    refine ⟨rfl, ?_⟩
    cases hop : o.op
    case binOp op' t y1 y2 yt =>
      rw [hop] at hok
      cases op' <;> cases neg <;> simp only [okOp, Bool.false_eq_true, Bool.and_eq_true] at hok
      · exact snd_eqb (neg := false) h (by simpa using hop) hok.1.1 hok.1.2 hok.2 hu hv
      · exact snd_eqb (neg := true) h (by simpa using hop) hok.1.1 hok.1.2 hok.2 hu hv
    all_goals (rw [hop] at hok; simp [okOp] at hok)
  case un op r =>
    have hok := okOq_okOp hok (by simp)
    simp only [stepO] at hs
    split at hs
    case h_2 => simp at hs
    rename_i u hu
    split at hs
    case h_2 => simp at hs
    rename_i z hz
    simp only [Option.some.injEq, Prod.mk.injEq] at hs
    obtain ⟨rfl, rfl⟩ := hs
    refine ⟨rfl, ?_⟩
    cases hop : o.op <;> simp only [hop, okOp, Bool.false_eq_true, Bool.and_eq_true, beq_iff_eq] at hok
    obtain ⟨rfl, h1⟩ := hok
    exact snd_un h hop h1 hu hz
  case cvs r =>
    have hok := okOq_okOp hok (by simp)
    simp only [stepO] at hs
    split at hs
    case h_2 => simp at hs
    rename_i b hb
    simp only [Option.some.injEq, Prod.mk.injEq] at hs
    obtain ⟨rfl, rfl⟩ := hs
    refine ⟨rfl, ?_⟩
    cases hop : o.op <;> simp only [hop, okOp, Bool.false_eq_true, Bool.and_eq_true] at hok
    obtain ⟨hd, h1⟩ := hok
    split at hd
    case h_2 => simp at hd
    rename_i hd1 hd2
    exact snd_cvs h hop hd1 hd2 h1 hb
  case conv k r =>
    have hok := okOq_okOp hok (by simp)
    simp only [stepO] at hs
    split at hs
    case h_2 => simp at hs
    rename_i k' n hb
    simp only [Option.some.injEq, Prod.mk.injEq] at hs
    obtain ⟨rfl, rfl⟩ := hs
    refine ⟨rfl, ?_⟩
    cases hop : o.op <;> simp only [hop, okOp, Bool.false_eq_true, Bool.and_eq_true] at hok
    obtain ⟨⟨hs1, hd⟩, h1⟩ := hok
    split at hd
    case h_2 => simp at hd
    rename_i k2 hd2
    simp only [beq_iff_eq] at hd
    subst hd
    exact snd_conv h hop (Option.isSome_iff_exists.1 hs1) hd2 h1 hb
  case fa r j =>
    have hok := okOq_okOp hok (by simp)
    cases hop : o.op <;> simp only [hop, okOp, Bool.false_eq_true, Bool.and_eq_true] at hok
    obtain ⟨hd, h1⟩ := hok
    split at hd
    case h_2 => simp at hd
    rename_i fs ht
    split at hd
    case h_2 => simp at hd
    rename_i f hf
    simp only [Bool.and_eq_true, beq_iff_eq] at hd
    obtain ⟨rfl, hd⟩ := hd
    split at hd
    case h_2 => simp at hd
    rename_i i hi
    have hd : i.size ≠ 0 := by simpa using hd
    simp only [stepO] at hs
    split at hs
    · rename_i q g l hr
      split at hs
      case isFalse => simp at hs
      rename_i hg
      simp only [Option.some.injEq, Prod.mk.injEq] at hs
      obtain ⟨rfl, rfl⟩ := hs
      exact ⟨rfl, snd_fa h hop ht hf hi hd h1 hr (.inl ⟨_, _, _, rfl, rfl, hg.symm⟩)⟩
    · rename_i q g k i' l hr
      split at hs
      case isFalse => simp at hs
      rename_i hg
      simp only [Option.some.injEq, Prod.mk.injEq] at hs
      obtain ⟨rfl, rfl⟩ := hs
      exact ⟨rfl, snd_fa h hop ht hf hi hd h1 hr (.inr (.inl ⟨_, _, _, _, _, rfl, rfl, hg.symm⟩))⟩
    · rename_i z l hr
      simp only [Option.some.injEq, Prod.mk.injEq] at hs
      obtain ⟨rfl, rfl⟩ := hs
      exact ⟨rfl, snd_fa h hop ht hf hi hd h1 hr (.inr (.inr ⟨_, _, rfl, rfl⟩))⟩
    · simp at hs
  case fld r j k ag =>
    have hok := okOq_okOp hok (by simp)
    simp only [stepO] at hs
    split at hs
    case h_2 => simp at hs
    rename_i cs hr
    obtain ⟨hs2, rfl⟩ := retS_some hs
    refine ⟨rfl, ?_⟩
    cases hop : o.op <;> simp only [hop, okOp, Bool.false_eq_true, Bool.and_eq_true] at hok
    obtain ⟨hd, h1⟩ := hok
    split at hd
    case h_2 => simp at hd
    rename_i fs ht
    split at hd
    case h_2 => simp at hd
    rename_i f hf
    simp only [Bool.and_eq_true, beq_iff_eq] at hd
    obtain ⟨⟨rfl, hd1⟩, hd2⟩ := hd
    exact snd_fld h hop ht hf hd1 hd2 h1 hr hs2
  case ixa r1 r2 k =>
    have hok := okOq_okOp hok (by simp)
    cases hop : o.op <;> simp only [hop, okOp, Bool.false_eq_true, Bool.and_eq_true] at hok
    obtain ⟨⟨hd, h1⟩, h2⟩ := hok
    split at hd
    case h_2 => simp at hd
    rename_i el ht
    simp only [stepO] at hs
    split at hs
    case h_2 => simp at hs
    rename_i n hn
    split at hs
    · rename_i f es hr
      split at hs
      case isFalse => simp at hs
      rename_i hc
      split at hs
      case h_2 => simp at hs
      rename_i y hy
      split at hs
      case isFalse => simp at hs
      rename_i hw
      simp only [Option.some.injEq, Prod.mk.injEq] at hs
      obtain ⟨rfl, rfl⟩ := hs
      exact ⟨rfl, snd_ixa h hop ht hd h1 h2 hr hn hc.1 hc.2 hy hw⟩
    · rename_i q g k' j m hr
      split at hs
      case isFalse => simp at hs
      rename_i hc
      obtain ⟨hc1, hc2, rfl, hg⟩ := hc
      simp only [Option.some.injEq, Prod.mk.injEq] at hs
      obtain ⟨rfl, rfl⟩ := hs
      exact ⟨rfl, snd_ixr h hop ht hd h1 h2 hr hn hc1 hc2 hg.symm⟩
    · simp at hs
  case ixp r1 r2 k n =>
    have hok := okOq_okOp hok (by simp)
    cases hop : o.op <;> simp only [hop, okOp, Bool.false_eq_true, Bool.and_eq_true] at hok
    obtain ⟨⟨hd, h1⟩, h2⟩ := hok
    split at hd
    case h_2 => simp at hd
    rename_i m el ht
    simp only [Bool.and_eq_true, beq_iff_eq] at hd
    obtain ⟨hd, rfl⟩ := hd
    simp only [stepO] at hs
    split at hs
    case h_2 => simp at hs
    rename_i i hi
    split at hs
    case isFalse => simp at hs
    rename_i hc
    split at hs
    · rename_i q g j hr
      split at hs
      case isFalse => simp at hs
      rename_i hg
      simp only [Option.some.injEq, Prod.mk.injEq] at hs
      obtain ⟨rfl, rfl⟩ := hs
      exact ⟨rfl, snd_ixp h hop ht hd h1 h2 hi hc.1 hc.2 hr (.inl ⟨_, _, _, rfl, rfl, hg.symm⟩)⟩
    · rename_i z j hr
      simp only [Option.some.injEq, Prod.mk.injEq] at hs
      obtain ⟨rfl, rfl⟩ := hs
      exact ⟨rfl, snd_ixp h hop ht hd h1 h2 hi hc.1 hc.2 hr (.inr ⟨_, _, rfl, rfl⟩)⟩
    · simp at hs
  case ixs r1 r2 =>
    have hok := okOq_okOp hok (by simp)
    cases hop : o.op <;> simp only [hop, okOp, Bool.false_eq_true, Bool.and_eq_true] at hok
    obtain ⟨⟨hd, h1⟩, h2⟩ := hok
    split at hd
    case h_2 => simp at hd
    rename_i ht
    simp only [stepO] at hs
    split at hs
    case h_2 => simp at hs
    rename_i b n hb hn
    split at hs
    case h_2 => simp at hs
    rename_i c hc
    simp only [Option.some.injEq, Prod.mk.injEq] at hs
    obtain ⟨rfl, rfl⟩ := hs
    exact ⟨rfl, snd_ixs h hop ht h1 h2 hb hn hc⟩
  case ixv r1 r2 k n ag =>
    have hok := okOq_okOp hok (by simp)
    cases hop : o.op <;> simp only [hop, okOp, Bool.false_eq_true, Bool.and_eq_true] at hok
    obtain ⟨⟨hd, h1⟩, h2⟩ := hok
    split at hd
    case h_2 => simp at hd
    rename_i m el ht
    simp only [Bool.and_eq_true, beq_iff_eq] at hd
    obtain ⟨⟨hd1, hd2⟩, rfl⟩ := hd
    simp only [stepO] at hs
    split at hs
    case h_2 => simp at hs
    rename_i cs i hr hi
    split at hs
    case isFalse => simp at hs
    rename_i hc
    obtain ⟨hs2, rfl⟩ := retS_some hs
    exact ⟨rfl, snd_ixv h hop ht hd1 hd2 h1 h2 hr hi hc.1 hc.2 hs2⟩
  case sls r lo hi =>
    have hok := okOq_okOp hok (by simp)
    simp only [stepO] at hs
    split at hs
    case h_2 => simp at hs
    rename_i b hb
    split at hs
    case h_2 => simp at hs
    rename_i m hm
    split at hs
    case h_2 => simp at hs
    rename_i l hl
    simp only [Option.some.injEq, Prod.mk.injEq] at hs
    obtain ⟨rfl, rfl⟩ := hs
    refine ⟨rfl, ?_⟩
    cases hop : o.op
    case slice t x lo' hi' mx =>
      rw [hop] at hok
      cases mx
      case some => simp [okOp] at hok
      simp only [okOp, Bool.and_eq_true] at hok
      obtain ⟨⟨⟨hd, h1⟩, h2⟩, h3⟩ := hok
      split at hd
      case h_2 => simp at hd
      rename_i ht
      exact snd_sls h hop ht h1 h2 h3 hb hm hl
    all_goals (rw [hop] at hok; simp [okOp] at hok)
  case sli k r lo hi =>
    have hok := okOq_okOp hok (by simp)
    cases hop : o.op
    case slice t x' lo' hi' mx =>
      rw [hop] at hok
      cases mx
      case some => simp [okOp] at hok
      simp only [okOp, Bool.and_eq_true] at hok
      obtain ⟨⟨⟨hd, h1⟩, h2⟩, h3⟩ := hok
      split at hd
      case h_2 => simp at hd
      rename_i el ht
      simp only [stepO] at hs
      split at hs
      · rename_i f es hr
        split at hs
        case isTrue => simp at hs
        rename_i hw
        split at hs
        case h_2 => simp at hs
        rename_i m hm
        split at hs
        case h_2 => simp at hs
        rename_i l hl
        simp only [Option.some.injEq, Prod.mk.injEq] at hs
        obtain ⟨rfl, rfl⟩ := hs
        refine ⟨rfl, snd_sli h hop ht hd h1 h2 h3 hr hm hl ?_⟩
        have hw : es.all (fun y => y.cells.length == k) = true := by simpa using hw
        intro y hy
        simpa using (List.all_eq_true.1 hw) y hy
      · rename_i q g k' j n hr
        split at hs
        case isTrue => simp at hs
        rename_i hc
        obtain ⟨hg, rfl⟩ : g = (s q).g ∧ k' = k := by simpa using hc
        split at hs
        case h_2 => simp at hs
        rename_i m hm
        split at hs
        case h_2 => simp at hs
        rename_i l hl
        simp only [Option.some.injEq, Prod.mk.injEq] at hs
        obtain ⟨rfl, rfl⟩ := hs
        exact ⟨rfl, snd_slr h hop ht hd h1 h2 h3 hr hg.symm hm hl⟩
      · rename_i hr
        split at hs
        case h_2 => simp at hs
        rename_i m hm
        split at hs
        case h_2 => simp at hs
        rename_i l hl
        simp only [Option.some.injEq, Prod.mk.injEq] at hs
        obtain ⟨rfl, rfl⟩ := hs
        refine ⟨rfl, ?_⟩
        have hr1 := okA_rep h.env h1
        rw [hr] at hr1
        generalize hv : a.eval x' = v at hr1
        cases hr1 with
        | nil =>
          rename_i bb
          have hm0 : m = 0 := by
            unfold bnd at hm
            split at hm
            · simpa using hm.symm
            · split at hm
              · split at hm
                · simp at hm; omega
                · simp at hm
              · simp at hm
          subst hm0
          have hl0 : l = 0 := by
            unfold bnd at hl
            split at hl
            · simpa using hl.symm
            · split at hl
              · split at hl
                · simp at hl; omega
                · simp at hl
              · simp at hl
          subst hl0
          obtain ⟨h4, _⟩ := bounds_run (P := P) (isS := true) h.env h2 h3 hm hl (Nat.le_refl _)
          refine outS_val h (v := .slice bb 0 0) ?_ .nil
          simp only [execOp, hop, hv, Instr.sliceAt, Instr.slice, Sem.run_bind, run_underlying ht, Result.andThen_ok, Option.map_none, h4]
          simp [szB_run hd]
      · simp at hs
    all_goals (rw [hop] at hok; simp [okOp] at hok)
  case len r =>
    have hok := okOq_okOp hok (by simp)
    cases hop : o.op <;> simp only [hop, okOp, Bool.false_eq_true, Bool.and_eq_true] at hok
    rename_i c
    obtain ⟨⟨hc, hd⟩, h1⟩ := hok
    have hc : c.callee = .builtin .len := by
      revert hc
      cases c.callee <;> simp
      rename_i b
      cases b <;> simp
    split at hd
    case h_2 => simp at hd
    rename_i t ht
    split at hd
    case h_2 => simp at hd
    rename_i el hel
    simp only [stepO] at hs
    split at hs
    · rename_i f es hr
      simp only [Option.some.injEq, Prod.mk.injEq] at hs
      obtain ⟨rfl, rfl⟩ := hs
      exact ⟨rfl, snd_len h hop hc ht hel h1 hr (.inl ⟨_, _, rfl, rfl⟩)⟩
    · rename_i q g k i n hr
      split at hs
      case isFalse => simp at hs
      rename_i hg
      simp only [Option.some.injEq, Prod.mk.injEq] at hs
      obtain ⟨rfl, rfl⟩ := hs
      exact ⟨rfl, snd_len h hop hc ht hel h1 hr (.inr (.inl ⟨_, _, _, _, _, rfl, hg.symm, rfl⟩))⟩
    · rename_i hr
      simp only [Option.some.injEq, Prod.mk.injEq] at hs
      obtain ⟨rfl, rfl⟩ := hs
      exact ⟨rfl, snd_len h hop hc ht hel h1 hr (.inr (.inr ⟨rfl, rfl⟩))⟩
    · simp at hs
  case lens r =>
    have hok := okOq_okOp hok (by simp)
    cases hop : o.op <;> simp only [hop, okOp, Bool.false_eq_true, Bool.and_eq_true] at hok
    rename_i c
    obtain ⟨⟨hc, hd⟩, h1⟩ := hok
    have hc : c.callee = .builtin .len := by
      revert hc
      cases c.callee <;> simp
      rename_i b
      cases b <;> simp
    split at hd
    case h_2 => simp at hd
    rename_i t ht
    split at hd
    case h_2 => simp at hd
    rename_i hel
    simp only [stepO] at hs
    split at hs
    · rename_i b hr
      simp only [Option.some.injEq, Prod.mk.injEq] at hs
      obtain ⟨rfl, rfl⟩ := hs
      exact ⟨rfl, snd_lens h hop hc ht hel h1 hr⟩
    · simp at hs
  case mnmx mx r l =>
    have hok := okOq_okOp hok (by simp)
    cases hop : o.op <;> simp only [hop, okOp, Bool.false_eq_true, Bool.and_eq_true] at hok
    rename_i c
    obtain ⟨hc, h1⟩ := hok
    have hc : c.callee = .builtin (if mx then .max else .min) := by
      revert hc
      cases c.callee <;> cases mx <;> simp
      all_goals (rename_i b; cases b <;> simp)
    simp only [stepO] at hs
    split at hs
    case h_2 => simp at hs
    rename_i u hu
    split at hs
    case h_2 => simp at hs
    rename_i z hz
    simp only [Option.some.injEq, Prod.mk.injEq] at hs
    obtain ⟨rfl, rfl⟩ := hs
    exact ⟨rfl, snd_mnmx h hop hc h1 hu hz⟩
  case ext r i =>
    have hok := okOq_okOp hok (by simp)
    cases hop : o.op <;> simp only [hop, okOp, Bool.false_eq_true, Bool.and_eq_true, beq_iff_eq] at hok
    obtain ⟨h1, rfl⟩ := hok
    simp only [stepO] at hs
    split at hs
    case h_2 => simp at hs
    rename_i cs hr
    obtain ⟨hs2, rfl⟩ := retS_some hs
    exact ⟨rfl, snd_ext h hop h1 hr hs2⟩
  case mkf f l =>
    have hok := okOq_okOp hok (by simp)
    simp only [stepO] at hs
    split at hs
    case isFalse => simp at hs
    simp only [Option.some.injEq, Prod.mk.injEq] at hs
    obtain ⟨rfl, rfl⟩ := hs
    refine ⟨rfl, ?_⟩
    cases hop : o.op
    case makeFunc fn fst cap =>
      rw [hop] at hok
      cases fn <;> simp only [okOp, Bool.false_eq_true, Bool.and_eq_true, beq_iff_eq] at hok
      obtain ⟨⟨rfl, h1⟩, h2⟩ := hok
      exact snd_mkf h hop h1 h2
    all_goals (rw [hop] at hok; simp [okOp] at hok)
  all_goals (simp [stillI] at hst)

theorem step_sound (h : Inv w0 sh nt μ fr e s a w) {o : Oper} {io : IOp} (hok : okOq P o.op io = true) {x : X} {s' : Sto} (hs : stepO io e s = some (x, s')) : Out P w0 sh nt e a w o x s' := by
  cases hst : stillI io
  case true =>
    obtain ⟨rfl, h1⟩ := still_sound h hok hst hs
    exact h1.out
  cases io <;> simp only [stillI, reduceCtorEq] at hst
  case box n r =>
    have hok := okOq_okOp hok (by simp)
    simp only [stepO] at hs
    split at hs
    case isFalse => simp at hs
    rename_i hd
    simp only [Option.some.injEq, Prod.mk.injEq] at hs
    obtain ⟨rfl, rfl⟩ := hs
    cases hop : o.op <;> simp only [hop, okOp, Bool.false_eq_true] at hok
    case alloc t =>
      cases r <;> simp only [Bool.false_eq_true] at hok
      rename_i z
      obtain ⟨v, hv, hr⟩ := alloc_run (w := w) hok
      exact snd_box h (t := t) ⟨v, okZ_rep hv _, by simp [execOp, hop, hr]⟩ hd
    case box t y =>
      have : okA y r = true := by cases r <;> exact hok
      exact snd_box h (t := t) ⟨a.eval y, okA_rep h.env this, by simp [execOp, hop, box_run]⟩ hd
  case bsn q k z d ix r =>
    have hok := okOq_okOp hok (by simp)
    simp only [stepO] at hs
    split at hs
    case h_2 => simp at hs
    rename_i i cs hi hcs
    split at hs
    case isFalse => simp at hs
    rename_i hc
    split at hs
    case h_2 => simp at hs
    rename_i cs' s2 hr
    simp only [Option.some.injEq, Prod.mk.injEq] at hs
    obtain ⟨rfl, rfl⟩ := hs
    cases hop : o.op
    case buildSlice t m qs =>
      rw [hop] at hok
      exact snd_bsn h hop hok hcs hc.2.1 hr
    all_goals (rw [hop] at hok; simp [okOp] at hok)
  case bsl q k n z ps =>
    have hok := okOq_okOp hok (by simp)
    simp only [stepO] at hs
    split at hs
    case h_2 => simp at hs
    rename_i es nm hc
    split at hs
    case isTrue => simp at hs
    rename_i hq
    simp only [Option.some.injEq, Prod.mk.injEq] at hs
    obtain ⟨rfl, rfl⟩ := hs
    cases hop : o.op
    case buildSlice t m qs =>
      rw [hop] at hok
      have hnm : m = n := by simp only [okOp, Bool.and_eq_true, beq_iff_eq] at hok; exact hok.1.1.1.1.2
      subst hnm
      exact snd_bsl h hop (by simpa [okOp] using hok) hc hq
    all_goals (rw [hop] at hok; simp [okOp] at hok)
  case st r1 r2 k =>
    have hok := okOq_okOp hok (by simp)
    simp only [stepO] at hs
    split at hs
    case h_2 => simp at hs
    rename_i s2 hst
    simp only [Option.some.injEq, Prod.mk.injEq] at hs
    obtain ⟨rfl, rfl⟩ := hs
    cases hop : o.op <;> simp only [hop, okOp, Bool.false_eq_true, Bool.and_eq_true] at hok
    exact snd_st h hop hok.1.1 hok.1.2 hok.2 hst
  case mks q k z r1 r2 lim =>
    have hok := okOq_okOp hok (by simp)
    simp only [stepO] at hs
    split at hs
    case h_2 => simp at hs
    rename_i l c hl hc
    split at hs
    case isFalse => simp at hs
    rename_i hcond
    simp only [Option.some.injEq, Prod.mk.injEq] at hs
    obtain ⟨rfl, rfl⟩ := hs
    cases hop : o.op
    case makeSlice t x1 x2 =>
      rw [hop] at hok
      exact snd_mks h hop hok hl hc hcond.1 hcond.2.1 hcond.2.2.1 hcond.2.2.2.2.1 hcond.2.2.2.2.2
    all_goals (rw [hop] at hok; simp [okOp] at hok)
  case app q k lim r1 r2 =>
    have hok := okOq_okOp hok (by simp)
    cases hop : o.op
    case call c =>
      rw [hop] at hok
      have hc : c.callee = .builtin .append := by
        have hh := hok
        simp only [okOp, Bool.and_eq_true] at hh
        have := hh.1.1
        revert this
        cases c.callee <;> simp
        rename_i b
        cases b <;> simp
      exact snd_app h hop hc hok hs
    all_goals (rw [hop] at hok; simp [okOp] at hok)
  case call => simp [stepO] at hs
  case callv => simp [stepO] at hs
  case calli => simp [stepO] at hs
  case callb => simp [stepO] at hs
  case callo => simp [stepO] at hs
  case callw => simp [stepO] at hs
  case mkm n ha =>
    simp only [okOq] at hok
    cases hop : o.op
    case makeMap t hi => rw [hop] at hok; exact snd_mkm h hop hok hs
    all_goals (rw [hop] at hok; simp [okMap] at hok)
  case men ks ag rm rk z =>
    simp only [okOq] at hok
    cases hop : o.op <;> simp only [hop, okMap, Bool.false_eq_true, Bool.and_eq_true] at hok
    exact snd_men h hop hok.1.1.1 hok.1.1.2 hok.1.2 hok.2 hs
  case mst rm rs rv =>
    simp only [okOq] at hok
    cases hop : o.op <;> simp only [hop, okMap, Bool.false_eq_true, Bool.and_eq_true] at hok
    exact snd_mst h hop hok.1.1 hok.1.2 hok.2 hs
  case mup ks ag rm rk rv =>
    simp only [okOq] at hok
    cases hop : o.op <;> simp only [hop, okMap, Bool.false_eq_true, Bool.and_eq_true] at hok
    exact snd_mup h hop hok.1.1.1 hok.1.1.2 hok.1.2 hok.2 hs
end
end Go.Proofs.YtoodknhlnifnlaaGreatDoor
