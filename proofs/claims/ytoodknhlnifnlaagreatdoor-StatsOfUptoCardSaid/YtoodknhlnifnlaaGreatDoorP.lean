/- The engine, part P: structs compared. -/
import Derived.Test.YtoodknhlnifnlaaGreatDoorO
import Derived.Laws.StructEq
import Derived.ChangeKeysEq
set_option linter.all false
set_option linter.unusedVariables false
set_option linter.unusedSimpArgs false
namespace Go.Proofs.YtoodknhlnifnlaaGreatDoor
open Go.RowKit
variable {P : Program}

def fEqF (P : Program) (g : TypeId → Option (List LK)) : List Field → Nat → Option (List LK)
  | [], _ => some []
  | f :: fs, off =>
    if f.name = "_" then none else if f.offset = off then
      match g f.type with
      | some k => if szB P f.type k.length = true then
          match fEqF P g fs (off + k.length) with
          | some l => some (k ++ l)
          | none => none
        else none
      | none => none
    else none
/-- The cells of a type that is compared cell by cell. -/
def fEq (P : Program) : Nat → TypeId → Option (List LK)
  | 0, _ => none
  | d + 1, t =>
    match P.underlying t with
    | some (.int _) => some [.i]
    | some .string => some [.s]
    | some .bool => some [.b]
    | some (.struct fs) => if P.stoodInHeld t = false then fEqF P (fEq P d) fs.toList 0 else none
    | some (.array n e) => match fEq P d e with
      | some k => if szB P e k.length = true then some (List.replicate n k).flatten else none
      | none => none
    | _ => none

def eqW : List LK → List Value → List Value → Option Bool
  | [], [], [] => some true
  | k :: ks, a :: l, b :: m => match eqV k a b, eqW ks l m with
    | some p, some q => some (p && q)
    | _, _ => none
  | _, _, _ => none
theorem eqW_len : ∀ {ks : List LK} {l m : List Value} {b : Bool}, eqW ks l m = some b → l.length = ks.length ∧ m.length = ks.length := by
  intro ks
  induction ks with
  | nil => intro l m b h; cases l <;> cases m <;> simp [eqW] at h ⊢
  | cons k ks ih => intro l m b h; cases l <;> cases m <;> simp [eqW] at h ⊢
                    split at h
                    · rename_i h2; exact ih h2
                    · simp at h
theorem eqW_split : ∀ {ks ks' : List LK} {l m : List Value} {b : Bool}, eqW (ks ++ ks') l m = some b → ∃ p q, eqW ks (l.take ks.length) (m.take ks.length) = some p ∧ eqW ks' (l.drop ks.length) (m.drop ks.length) = some q ∧ b = (p && q) := by
  intro ks
  induction ks with
  | nil => intro ks' l m b h; exact ⟨true, b, by simp [eqW], by simpa using h, by simp⟩
  | cons k ks ih =>
    intro ks' l m b h
    cases l with
    | nil => simp [eqW] at h
    | cons x l => cases m with
      | nil => simp [eqW] at h
      | cons y m =>
        simp only [List.cons_append, eqW] at h
        split at h
        case h_2 => simp at h
        rename_i p q hp hq
        injection h with h
        obtain ⟨p', q', h1, h2, h3⟩ := ih hq
        exact ⟨p && p', q', by simp [eqW, hp, h1], by simpa using h2, by rw [← h, h3, Bool.and_assoc]⟩

/-- The value of a type at a place among cells. -/
def Seg (xs : Array Value) (off : Nat) (l : List Value) : Prop := off + l.length ≤ xs.size ∧ ∀ j u, l[j]? = some u → xs[off + j]? = some u
theorem Seg.extract {xs : Array Value} {off : Nat} {l : List Value} (h : Seg xs off l) : Seg (xs.extract off (off + l.length)) 0 l := by
  refine ⟨by simp; have := h.1; omega, fun j u hu => ?_⟩
  have hj := (List.getElem?_eq_some_iff.1 hu).1
  rw [Array.getElem?_extract, if_pos (by have := h.1; omega), Nat.zero_add]
  exact h.2 j u hu
theorem Seg.take {xs : Array Value} {off k : Nat} {l : List Value} (h : Seg xs off l) (hk : k ≤ l.length) : Seg xs off (l.take k) :=
  ⟨by have := h.1; simp; omega, fun j u hu => h.2 j u (by rw [List.getElem?_take] at hu; split at hu <;> simp_all)⟩
theorem Seg.drop {xs : Array Value} {off k : Nat} {l : List Value} (h : Seg xs off l) (hk : k ≤ l.length) : Seg xs (off + k) (l.drop k) :=
  ⟨by have := h.1; simp; omega, fun j u hu => by rw [List.getElem?_drop] at hu; rw [Nat.add_assoc]; exact h.2 _ u hu⟩

theorem aggF {t : TypeId} {d : TypeDesc} (hu : P.underlying t = some d) (hd : (∀ fs, d ≠ .struct fs) ∧ ∀ n e, d ≠ .array n e) (w : World) : (isAgg t).run P w = .ok false w := by
  refine aggB_run (b := false) ?_ w
  unfold aggB
  rw [hu]
  cases d <;> first | rfl | (exact absurd rfl (hd.1 _)) | (exact absurd rfl (hd.2 _ _))

theorem fEq_run (w : World) : ∀ (d : Nat) (t : TypeId) (ks : List LK), fEq P d t = some ks → ∀ {xs ys : Array Value} {off : Nat} {l m : List Value} {b : Bool}, Seg xs off l → Seg ys off m → szB P t ks.length = true → eqW ks l m = some b →
    ∃ x y, (part t xs off).run P w = .ok x w ∧ (part t ys off).run P w = .ok y w ∧ ∀ d', d ≤ d' → (Op.equalIn d' t x y).run P w = .ok b w := by
  intro d
  induction d with
  | zero => intro t k h; simp [fEq] at h
  | succ d ih =>
    intro t ks h xs ys off l m b hx hy hs he
    obtain ⟨hl, hm⟩ := eqW_len he
    have one : ∀ (de : TypeDesc) (lk : LK), P.underlying t = some de → (∀ fs, de ≠ .struct fs) ∧ (∀ n e, de ≠ .array n e) → ks = [lk] →
        (∀ u v d', eqV lk u v = some b → (Op.equalIn (d' + 1) t u v).run P w = .ok b w) →
        ∃ x y, (part t xs off).run P w = .ok x w ∧ (part t ys off).run P w = .ok y w ∧ ∀ d', d + 1 ≤ d' → (Op.equalIn d' t x y).run P w = .ok b w := by
      intro de lk hu hd hk heq
      subst hk
      match l, m, hl, hm with
      | [u], [v], _, _ =>
        have h1 := hx.2 0 u rfl
        have h2 := hy.2 0 v rfl
        rw [Nat.add_zero] at h1 h2
        refine ⟨u, v, by simp [part, aggF hu hd, h1], by simp [part, aggF hu hd, h2], fun d' hd' => ?_⟩
        obtain ⟨d'', rfl⟩ : ∃ n, d' = n + 1 := ⟨d' - 1, by omega⟩
        refine heq u v d'' ?_
        simp only [eqW] at he
        split at he
        · rename_i p q hp hq
          simp only [Option.some.injEq] at hq he
          subst hq
          rw [hp]; simpa using he
        · simp at he
    simp only [fEq] at h
    split at h
    · rename_i kd hu
      simp only [Option.some.injEq] at h
      refine one _ _ hu ⟨by simp, by simp⟩ h.symm fun u v d' huv => ?_
      cases u <;> cases v <;> simp [eqV] at huv
      obtain ⟨rfl, rfl⟩ := huv; simp [Op.equalIn, run_underlying hu]
    · rename_i hu
      simp only [Option.some.injEq] at h
      refine one _ _ hu ⟨by simp, by simp⟩ h.symm fun u v d' huv => ?_
      cases u <;> cases v <;> simp only [eqV, reduceCtorEq, Option.some.injEq] at huv
      subst huv
      exact run_equalIn_string w d' t _ _ hu
    · rename_i hu
      simp only [Option.some.injEq] at h
      refine one _ _ hu ⟨by simp, by simp⟩ h.symm fun u v d' huv => ?_
      cases u <;> cases v <;> simp only [eqV, reduceCtorEq, Option.some.injEq] at huv
      subst huv
      exact run_equalIn_bool w d' t _ _ hu
    · rename_i fs hu
      split at h
      case isFalse => simp at h
      rename_i hst
      have hag : (isAgg t).run P w = .ok true w := aggB_run (by unfold aggB; rw [hu]) w
      refine ⟨.agg (xs.extract off (off + ks.length)), .agg (ys.extract off (off + ks.length)), by simp [part, hag, szB_run hs], by simp [part, hag, szB_run hs], fun d' hd' => ?_⟩
      obtain ⟨d'', rfl⟩ : ∃ n, d' = n + 1 := ⟨d' - 1, by omega⟩
      have hfo : P.fieldsOf t = fs := by unfold Program.fieldsOf; rw [hu]
      rw [run_equalIn_struct w d'' t _ _ (by rw [hfo]; exact hu) hst, hfo]
      have hx' := hx.extract
      have hy' := hy.extract
      rw [hl] at hx'
      rw [hm] at hy'
      have key : ∀ (fl : List Field) (o : Nat) (ks' : List LK) (l m : List Value) (b : Bool), fEqF P (fEq P d) fl o = some ks' → Seg (xs.extract off (off + ks.length)) o l → Seg (ys.extract off (off + ks.length)) o m → eqW ks' l m = some b →
          (Op.eqFields d'' (xs.extract off (off + ks.length)) (ys.extract off (off + ks.length)) fl).run P w = .ok b w := by
        intro fl
        induction fl with
        | nil =>
          intro o ks' l m b hf hx hy he
          simp only [fEqF, Option.some.injEq] at hf
          subst hf
          obtain ⟨h1, h2⟩ := eqW_len he
          have h1 : l = [] := List.eq_nil_of_length_eq_zero (by simpa using h1)
          have h2 : m = [] := List.eq_nil_of_length_eq_zero (by simpa using h2)
          subst h1; subst h2
          simp [eqW] at he
          subst he
          simp [Op.eqFields]
        | cons f fl ihf =>
          intro o ks' l m b hf hx hy he
          simp only [fEqF] at hf
          split at hf
          case isTrue => simp at hf
          rename_i hname
          split at hf
          case isFalse => simp at hf
          rename_i hoff
          split at hf
          case h_2 => simp at hf
          rename_i kf hkf
          split at hf
          case isFalse => simp at hf
          rename_i hsf
          split at hf
          case h_2 => simp at hf
          rename_i kr hkr
          simp only [Option.some.injEq] at hf
          subst hf
          obtain ⟨hl, hm⟩ := eqW_len he
          simp only [List.length_append] at hl hm
          obtain ⟨p, q, hp, hq, rfl⟩ := eqW_split he
          obtain ⟨x, y, h1, h2, h3⟩ := ih f.type kf hkf (l := l.take kf.length) (m := m.take kf.length) (hx.take (by omega)) (hy.take (by omega)) hsf hp
          have h4 := ihf (o + kf.length) kr (l.drop kf.length) (m.drop kf.length) q hkr (hx.drop (by omega)) (hy.drop (by omega)) hq
          simp only [Op.eqFields, ne_eq, hname, not_false_eq_true, if_true, hoff, Sem.run_bind, h1, h2, Result.andThen_ok, h3 d'' (by omega)]
          cases p
          · simp
          · simp [h4]
      exact key fs.toList 0 ks l m b h hx' hy' he
    · rename_i n te hu
      split at h
      case h_2 => simp at h
      rename_i k hk
      split at h
      case isFalse => simp at h
      rename_i hse
      injection h with h
      subst h
      have hag : (isAgg t).run P w = .ok true w := aggB_run (by unfold aggB; rw [hu]) w
      refine ⟨.agg (xs.extract off (off + (List.replicate n k).flatten.length)), .agg (ys.extract off (off + (List.replicate n k).flatten.length)), by simp only [part, Sem.run_bind, hag, szB_run hs, Result.andThen_ok, if_true]; rfl, by simp only [part, Sem.run_bind, hag, szB_run hs, Result.andThen_ok, if_true]; rfl, fun d' hd' => ?_⟩
      obtain ⟨d'', rfl⟩ : ∃ n, d' = n + 1 := ⟨d' - 1, by omega⟩
      have hinf : ∃ i, P.info? te = some i ∧ i.size = k.length := by
        unfold szB at hse
        split at hse
        · rename_i i hi; exact ⟨i, hi, by simpa using hse⟩
        · simp at hse
      obtain ⟨i, hi, hisz⟩ := hinf
      rw [run_equalIn_array w d'' _ _ hu hi, show P.cellsOf te = k.length by simp [Program.cellsOf, hi, hisz]]
      have hx' := hx.extract
      have hy' := hy.extract
      rw [hl] at hx'
      rw [hm] at hy'
      have key : ∀ (c o : Nat) (l m : List Value) (b : Bool), Seg (xs.extract off (off + (List.replicate n k).flatten.length)) (o * k.length) l → Seg (ys.extract off (off + (List.replicate n k).flatten.length)) (o * k.length) m → eqW (List.replicate c k).flatten l m = some b →
          (Op.eqItems d'' te k.length (xs.extract off (off + (List.replicate n k).flatten.length)) (ys.extract off (off + (List.replicate n k).flatten.length)) (List.range' o c)).run P w = .ok b w := by
        intro c
        induction c with
        | zero =>
          intro o l m b hx hy he
          obtain ⟨h1, h2⟩ := eqW_len he
          have h1 : l = [] := List.eq_nil_of_length_eq_zero (by simpa using h1)
          have h2 : m = [] := List.eq_nil_of_length_eq_zero (by simpa using h2)
          subst h1; subst h2
          simp [eqW] at he
          subst he
          simp [Op.eqItems]
        | succ c ihn =>
          intro o l m b hx hy he
          rw [List.replicate_succ, List.flatten_cons] at he
          obtain ⟨hl, hm⟩ := eqW_len he
          simp only [List.length_append] at hl hm
          obtain ⟨p, q, hp, hq, rfl⟩ := eqW_split he
          obtain ⟨x, y, h1, h2, h3⟩ := ih te k hk (l := l.take k.length) (m := m.take k.length) (hx.take (by omega)) (hy.take (by omega)) hse hp
          have hq' : (o + 1) * k.length = o * k.length + k.length := by rw [Nat.add_mul, Nat.one_mul]
          have h4 := ihn (o + 1) (l.drop k.length) (m.drop k.length) q (hq' ▸ hx.drop (by omega)) (hq' ▸ hy.drop (by omega)) hq
          rw [List.range'_succ]
          simp only [Op.eqItems, Sem.run_bind, h1, h2, Result.andThen_ok, h3 d'' (by omega)]
          cases p
          · simp
          · simp only [Bool.not_true, Bool.false_eq_true, if_false, Bool.true_and]; exact h4
      rw [List.range_eq_range']
      exact key n 0 l m b (by simpa using hx') (by simpa using hy') he
    · simp at h

/-- A key of such a type is one. -/
theorem fEq_key (w : World) (em : Bool) : ∀ (d : Nat) (t : TypeId) (ks : List LK), fEq P d t = some ks → ∀ {xs : Array Value} {off : Nat} {l : List Value}, Seg xs off l → l.length = ks.length → szB P t ks.length = true →
    ∃ x, (part t xs off).run P w = .ok x w ∧ ∀ d', d ≤ d' → (Instr.checkKey em d' t x).run P w = .ok () w := by
  intro d
  induction d with
  | zero => intro t k h; simp [fEq] at h
  | succ d ih =>
    intro t ks h xs off l hx hl hs
    have one : ∀ (de : TypeDesc) (lk : LK), P.underlying t = some de → (∀ fs, de ≠ .struct fs) ∧ (∀ n e, de ≠ .array n e) → ks = [lk] → (∀ u n, (Instr.checkKey em (n + 1) t u).run P w = .ok () w) →
        ∃ x, (part t xs off).run P w = .ok x w ∧ ∀ d', d + 1 ≤ d' → (Instr.checkKey em d' t x).run P w = .ok () w := by
      intro de lk hu hd hk heq
      subst hk
      match l, hl with
      | [u], _ =>
        have h1 := hx.2 0 u rfl
        rw [Nat.add_zero] at h1
        refine ⟨u, by simp [part, aggF hu hd, h1], fun d' hd' => ?_⟩
        obtain ⟨d'', rfl⟩ : ∃ n, d' = n + 1 := ⟨d' - 1, by omega⟩
        exact heq u d''
    simp only [fEq] at h
    split at h
    · rename_i kd hu
      simp only [Option.some.injEq] at h
      exact one _ _ hu ⟨by simp, by simp⟩ h.symm fun u n => by simp [Instr.checkKey, run_underlying hu]
    · rename_i hu
      simp only [Option.some.injEq] at h
      exact one _ _ hu ⟨by simp, by simp⟩ h.symm fun u n => by simp [Instr.checkKey, run_underlying hu]
    · rename_i hu
      simp only [Option.some.injEq] at h
      exact one _ _ hu ⟨by simp, by simp⟩ h.symm fun u n => by simp [Instr.checkKey, run_underlying hu]
    · rename_i fs hu
      split at h
      case isFalse => simp at h
      rename_i hst
      have hag : (isAgg t).run P w = .ok true w := aggB_run (by unfold aggB; rw [hu]) w
      refine ⟨.agg (xs.extract off (off + ks.length)), by simp [part, hag, szB_run hs], fun d' hd' => ?_⟩
      obtain ⟨d'', rfl⟩ : ∃ n, d' = n + 1 := ⟨d' - 1, by omega⟩
      have hx' := hx.extract
      rw [hl] at hx'
      simp only [Instr.checkKey, Sem.run_bind, run_underlying hu, Result.andThen_ok]
      rw [← Array.forIn_toList]
      have key : ∀ (fl : List Field) (o : Nat) (ks' : List LK) (l : List Value), fEqF P (fEq P d) fl o = some ks' → Seg (xs.extract off (off + ks.length)) o l → l.length = ks'.length →
          (forIn fl PUnit.unit fun f _ => (if f.name ≠ "_" then do
              let y ← part f.type (xs.extract off (off + ks.length)) f.offset
              Instr.checkKey em d'' f.type y
              pure (ForInStep.yield PUnit.unit) else pure (ForInStep.yield PUnit.unit) : Sem (ForInStep PUnit))).run P w = .ok PUnit.unit w := by
        intro fl
        induction fl with
        | nil => intro o ks' l hf hx hl; simp
        | cons f fl ihf =>
          intro o ks' l hf hx hl
          simp only [fEqF] at hf
          split at hf
          case isTrue => simp at hf
          rename_i hname
          split at hf
          case isFalse => simp at hf
          rename_i hoff
          split at hf
          case h_2 => simp at hf
          rename_i kf hkf
          split at hf
          case isFalse => simp at hf
          rename_i hsf
          split at hf
          case h_2 => simp at hf
          rename_i kr hkr
          simp only [Option.some.injEq] at hf
          subst hf
          simp only [List.length_append] at hl
          obtain ⟨x, h1, h3⟩ := ih f.type kf hkf (l := l.take kf.length) (hx.take (by omega)) (by simp; omega) hsf
          have h4 := ihf (o + kf.length) kr (l.drop kf.length) hkr (hx.drop (by omega)) (by simp; omega)
          simp only [List.forIn_cons, Sem.run_bind, ne_eq, hname, not_false_eq_true, if_true, hoff, h1, Result.andThen_ok, h3 d'' (by omega), Sem.run_pure]
          exact h4
      have := key fs.toList 0 ks l h hx' hl
      simp only [ne_eq, bind_pure_comp] at this ⊢
      rw [this]
      rfl
    · rename_i n te hu
      split at h
      case h_2 => simp at h
      rename_i k hk
      split at h
      case isFalse => simp at h
      rename_i hse
      injection h with h
      subst h
      have hag : (isAgg t).run P w = .ok true w := aggB_run (by unfold aggB; rw [hu]) w
      refine ⟨.agg (xs.extract off (off + (List.replicate n k).flatten.length)), by simp only [part, Sem.run_bind, hag, szB_run hs, Result.andThen_ok, if_true]; rfl, fun d' hd' => ?_⟩
      obtain ⟨d'', rfl⟩ : ∃ n, d' = n + 1 := ⟨d' - 1, by omega⟩
      have hx' := hx.extract
      rw [hl] at hx'
      simp only [Instr.checkKey, Sem.run_bind, run_underlying hu, Result.andThen_ok]
      simp only [Std.Legacy.Range.forIn_eq_forIn_range', Std.Legacy.Range.size, Nat.sub_zero, Nat.add_one_sub_one, Nat.div_one]
      have key : ∀ (c o : Nat) (l : List Value), Seg (xs.extract off (off + (List.replicate n k).flatten.length)) (o * k.length) l → l.length = (List.replicate c k).flatten.length →
          (forIn (List.range' o c) PUnit.unit fun i _ => (do
              let z ← sizeOf te
              let y ← part te (xs.extract off (off + (List.replicate n k).flatten.length)) (i * z)
              Instr.checkKey em d'' te y
              pure (ForInStep.yield PUnit.unit) : Sem (ForInStep PUnit))).run P w = .ok PUnit.unit w := by
        intro c
        induction c with
        | zero => intro o l hx hl; simp
        | succ c ihn =>
          intro o l hx hl
          rw [List.replicate_succ, List.flatten_cons, List.length_append] at hl
          obtain ⟨x, h1, h3⟩ := ih te k hk (l := l.take k.length) (hx.take (by omega)) (by simp; omega) hse
          have hq' : (o + 1) * k.length = o * k.length + k.length := by rw [Nat.add_mul, Nat.one_mul]
          have h4 := ihn (o + 1) (l.drop k.length) (hq' ▸ hx.drop (by omega)) (by simp only [List.length_drop]; omega)
          rw [List.range'_succ]
          simp only [List.forIn_cons, Sem.run_bind, szB_run hse, h1, Result.andThen_ok, h3 d'' (by omega), Sem.run_pure]
          exact h4
      have := key n 0 l (by simpa using hx') hl
      simp only [bind_pure_comp] at this ⊢
      rw [this]
      rfl
    · simp at h

/-- A struct type that is compared cell by cell. -/
def eqT (P : Program) (t : TypeId) (ks : List LK) : Bool :=
  szB P t ks.length && aggB P t true && decide (fEq P 9 t = some ks) && !(P.eqGuardType P.depth t)

theorem eqL_W {C : Cx} : ∀ {ks : List LK} {l m : List X} {us vs : List Value} {b : Bool}, eqL ks l m = some b → l.length = us.length → m.length = vs.length → (∀ (j : Nat) c u, l[j]? = some c → us[j]? = some u → Rep C c u) → (∀ (j : Nat) c u, m[j]? = some c → vs[j]? = some u → Rep C c u) → eqW ks us vs = some b := by
  intro ks
  induction ks with
  | nil => intro l m us vs b h h1 h2 _ _
           cases l <;> cases m <;> simp [eqL] at h
           subst h
           have : us = [] := List.eq_nil_of_length_eq_zero (by simpa using h1.symm)
           have : vs = [] := List.eq_nil_of_length_eq_zero (by simpa using h2.symm)
           subst us; subst vs; rfl
  | cons k ks ih =>
    intro l m us vs b h h1 h2 h3 h4
    cases l with
    | nil => simp [eqL] at h
    | cons x l => cases m with
      | nil => cases x <;> simp [eqL] at h
      | cons y m =>
        cases us with
        | nil => simp at h1
        | cons u us => cases vs with
          | nil => simp at h2
          | cons v vs =>
            cases x <;> cases y <;> simp only [eqL, reduceCtorEq] at h
            rename_i x y
            split at h
            case h_2 => simp at h
            rename_i p q hp hq
            have e1 := (rep_v (h3 0 _ u rfl rfl)).1
            have e2 := (rep_v (h4 0 _ v rfl rfl)).1
            subst e1; subst e2
            have := ih hq (by simpa using h1) (by simpa using h2) (fun j c u hj hu => h3 (j + 1) c u (by simpa using hj) (by simpa using hu)) (fun j c u hj hu => h4 (j + 1) c u (by simpa using hj) (by simpa using hu))
            simp [eqW, hp, this, h]

section
variable {w0 : Bs} {sh : Nat → Prop} {nt : Nat} {μ : Nat → Nat} {fr : Nat → Prop} {e : Env} {s : Sto} {a : Act} {w : World}
theorem snd_eqs (h : Inv w0 sh nt μ fr e s a w) {o : Oper} {neg : Bool} {ks : List LK} {t yt : TypeId} {x y : Operand} {r1 r2 : Ar} (ho : o.op = .binOp (if neg then .neq else .eql) t x y yt) (hx : okA x r1 = true) (hy : okA y r2 = true) (ht : eqT P t ks = true)
    {l m : List X} {b : Bool} (hl : r1.ev e = .agg l) (hm : r2.ev e = .agg m) (hb : eqL ks l m = some b) : OutS P w0 sh nt μ fr e s a w o (.v (.bool (if neg then !b else b))) := by
  have h1 := okA_rep h.env hx
  have h2 := okA_rep h.env hy
  rw [hl] at h1
  rw [hm] at h2
  simp only [eqT, Bool.and_eq_true, decide_eq_true_eq, Bool.not_eq_true'] at ht
  obtain ⟨⟨⟨hs, hag⟩, hf⟩, hgd⟩ := ht
  generalize hv1 : a.eval x = v1 at h1
  generalize hv2 : a.eval y = v2 at h2
  cases h1 with
  | @agg _ us hl1 _ hr1 =>
    cases h2 with
    | @agg _ vs hl2 _ hr2 =>
      have hw := eqL_W hb (us := us.toList) (vs := vs.toList) (by simpa using hl1) (by simpa using hl2) (by simpa using hr1) (by simpa using hr2)
      obtain ⟨n1, n2⟩ := eqW_len hw
      have sg : ∀ (z : Array Value), Seg z 0 z.toList := fun z => ⟨by simp, fun j u hu => by simpa using hu⟩
      obtain ⟨p, q, hp, hq, heq⟩ := fEq_run (P := P) w 9 t ks hf (sg us) (sg vs) hs hw
      have ep : (part t us 0).run P w = .ok (.agg us) w := by
        simp only [Array.length_toList] at n1
        simp [part, aggB_run hag, szB_run hs, ← n1]
      have eq' : (part t vs 0).run P w = .ok (.agg vs) w := by
        simp only [Array.length_toList] at n2
        simp [part, aggB_run hag, szB_run hs, ← n2]
      rw [ep] at hp
      rw [eq'] at hq
      injection hp with hp _
      injection hq with hq _
      subst hp; subst hq
      have he := heq 10000 (by omega)
      have hg := fun op => run_eqGuard_agg (P := P) w op t x y us vs hgd
      cases neg
      · have := run_eql_struct (P := P) w t us vs
        rw [he] at this
        exact outS_val h (v := .bool b) (by simp [execOp, ho, hv1, hv2, hg, this]) (.v rfl)
      · have := run_neq_struct (P := P) w t us vs
        rw [he] at this
        exact outS_val h (v := .bool (!b)) (by simp [execOp, ho, hv1, hv2, hg, this]) (.v rfl)
end
end Go.Proofs.YtoodknhlnifnlaaGreatDoor
