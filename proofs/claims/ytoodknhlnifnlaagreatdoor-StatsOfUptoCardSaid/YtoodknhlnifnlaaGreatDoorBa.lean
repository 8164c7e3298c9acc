/- The bridge: a law's arguments in the engine's form. -/
import Derived.Test.YtoodknhlnifnlaaGreatDoorBp
set_option linter.all false
set_option linter.unusedVariables false
set_option linter.unusedSimpArgs false
namespace Go.Proofs.YtoodknhlnifnlaaGreatDoor
open Go.ChangeShapes Go.WideShapes Go.RowKit
/-- An argument of a type. -/
def IsTD (U : Nat) (td : TD) (x : X) : Prop := HasTD U td x.cells ∧ x = pk td.isSt x.cells
def AreTD (U : Nat) : List TD → List X → Prop
  | [], [] => True
  | td :: l, x :: xs => IsTD U td x ∧ AreTD U l xs
  | _, _ => False
def okTDL (P : Program) : List TD → List TypeId → Bool
  | [], [] => true
  | td :: l, t :: ts => okTD P td t && okTDL P l ts
  | _, _ => false
section
variable {H : Type} {enc : TypeId × Value → H} {P : Program} {W : World} {U : Nat} {B : DataW H → Prop}
theorem arg_good (hB : Bd B U) {td : TD} {t : TypeId} {v : Value} {d : DataW H} {ps : List MemPlace} {base : Nat} (hok : okTD P td t = true) (hval : Value.okWide P W .any base t v)
    (h : DataW.Trod enc P W 0 (fun _ => true) true t v d ps) (hw : wtB P t d) (hb : B d) : ∃ x, Rep (cx0 W (fun b => b < W.heap.size) fun _ => False) x v ∧ x.deep = true ∧ IsTD U td x := by
  obtain ⟨fuel, hf⟩ := h
  obtain ⟨xs, hg⟩ := good_of_trod (sh := fun b => b < W.heap.size) (fun b hb => hb) hB td _ _ _ _ _ hok hf hw hb
  cases hst : td.isSt with
  | true =>
    obtain ⟨cs, rfl⟩ : ∃ cs, v = .agg cs := by
      cases td <;> simp [TD.isSt] at hst
      simp only [okTD] at hok
      split at hok
      case h_2 => simp at hok
      rename_i fl hu
      obtain ⟨cs, rfl, _⟩ := okWide_struct hu hval
      exact ⟨cs, rfl⟩
    have e : (Value.agg cs).cells = cs := rfl
    refine ⟨.agg xs, .agg (by rw [hg.len]; rfl) hg.one (fun j c v hj hv => hg.rep j c v hj (by rw [e]; simpa using hv)), hg.deep, hg.has, ?_⟩
    rw [hst]; rfl
  | false =>
    have hone : v.cells = #[v] := by
      cases td with
      | int k =>
        simp only [okTD] at hok
        split at hok
        case h_2 => simp at hok
        rename_i hu
        obtain ⟨n, rfl⟩ := okWide_int hu hval; rfl
      | bool =>
        simp only [okTD] at hok
        split at hok
        case h_2 => simp at hok
        rename_i hu
        obtain ⟨b, rfl, _⟩ := open_bool hu hval ⟨fuel, hf⟩; rfl
      | str =>
        simp only [okTD] at hok
        split at hok
        case h_2 => simp at hok
        rename_i hu
        obtain ⟨s, rfl⟩ := okWide_string hu hval; rfl
      | sl b e =>
        simp only [okTD] at hok
        split at hok
        case h_2 => simp at hok
        rename_i hu
        obtain ⟨a, n, c, rfl⟩ := okWide_slice hu hval; rfl
      | st => simp [TD.isSt] at hst
    have hl : xs.length = 1 := by rw [hg.len, hone]; rfl
    obtain ⟨x, rfl⟩ := List.length_eq_one_iff.1 hl
    have ho := hg.one x (by simp)
    have hx : x.cells = [x] := by cases x <;> first | rfl | (simp [X.one] at ho)
    refine ⟨x, hg.rep 0 x v rfl (by rw [hone]; rfl), ?_, ?_, ?_⟩
    · exact deepL_mem.1 hg.deep x (by simp)
    · rw [hx]; exact hg.has
    · rw [hst, hx]; rfl
theorem args_good (hB : Bd B U) {base : Nat} : ∀ {tds : List TD} {ts : List TypeId} {vs : List Value} {ds : List (DataW H)} {ps : List MemPlace}, okTDL P tds ts = true →
    (∀ (j : Nat) t v, ts[j]? = some t → vs[j]? = some v → Value.okWide P W .any base t v) → DataW.TrodAll enc P W 0 (fun _ => true) true ts vs ds ps →
    (DataW.weightsEach P ts ds).all (· ≤ 140737488351232) = true → (∀ d ∈ ds, B d) →
    ∃ xs, xs.length = vs.length ∧ (∀ (j : Nat) x v, xs[j]? = some x → vs[j]? = some v → Rep (cx0 W (fun b => b < W.heap.size) fun _ => False) x v) ∧ AreTD U tds xs
  | [], [], _, _, _, _, _, h, _, _ => by
    obtain ⟨rfl, rfl, rfl⟩ := trodAll_nil h
    exact ⟨[], rfl, by simp, trivial⟩
  | td :: tds, t :: ts, _, _, _, hok, hval, h, hw, hb => by
    obtain ⟨v, vs1, d, ds1, a, b, rfl, rfl, rfl, h1, h2⟩ := trodAll_cons h
    simp only [okTDL, Bool.and_eq_true] at hok
    simp only [DataW.weightsEach, List.all_append, Bool.and_eq_true] at hw
    obtain ⟨x, hx1, hx2, hx3⟩ := arg_good hB hok.1 (hval 0 t v rfl rfl) h1 hw.1 (hb d (by simp))
    obtain ⟨xs, h3, h4, h5⟩ := args_good hB hok.2 (fun j t v hj hv => hval (j + 1) t v (by simpa using hj) (by simpa using hv)) h2 hw.2 (fun d hd => hb d (by simp [hd]))
    refine ⟨x :: xs, by simp [h3], ?_, hx3, h5⟩
    intro j x' v' hj hv
    cases j with
    | zero => simp at hj hv; subst hj; subst hv; exact hx1
    | succ j => exact h4 j x' v' (by simpa using hj) (by simpa using hv)

/-- A law that the engine says answers true. -/
theorem law_calls (hB : Bd B U) {f : Nat} {fn : Func} {s : ChangeSpec} {apart fresh handsOn again : Bool} {tds : List TD} {rt : TypeId} {base : Nat} {args : Array Value} {ds gs : List (DataW H)} {before : List MemPlace}
    (hl : laidOutB P = true) (hr : fn.params.toList.all (fun t => P.readableRec t && decide (t < P.types.size)) = true) (hrt : fn.resultTypes = #[rt]) (hbt : P.underlying rt = some .bool)
    (hvars : s.vars = []) (hfn : s.fn H ds = { results := [.lit (.bool true)], args := ds })
    (hok : okTDL P tds fn.params.toList = true)
    (hval : ∀ (j : Nat) t v, fn.params[j]? = some t → args[j]? = some v → Value.okWide P W .any base t v)
    (hW : DataW.Whole enc P fn.params.toList s.vars apart W args.toList ds gs before)
    (hw : (DataW.weightsEach P fn.params.toList ds).all (· ≤ 140737488351232) = true) (hb : ∀ d ∈ ds, B d) (hG : GOK W)
    (hP : ∀ xs, AreTD U tds xs → PureAt P f xs (.v (.bool true))) :
    Calls P f args W fun e W' => ∃ v, e = .returned v ∧ s.post enc P fn apart fresh handsOn again W args v W' := by
  have hA : DataW.TrodAll enc P W 0 (fun _ => true) true fn.params.toList args.toList ds (by
      exact (Classical.choose hW)) := (Classical.choose_spec (Classical.choose_spec hW)).1
  obtain ⟨xs, h1, h2, h3⟩ := args_good hB hok (fun j t v hj hv => hval j t v (by simpa using hj) (by simpa using hv)) hA hw hb
  refine (hP xs h3 W (fun b => b < W.heap.size) args hG (fun b hb => hb) (by rw [h1]; simp) (fun j x v hj hv => h2 j x v hj (by simpa using hv))).mono ?_
  rintro e W' ⟨v, fr', rfl, hbl, _, hrep, _⟩
  cases hrep with
  | v _ => exact ⟨_, rfl, law_post hl hr hrt hbt hvars hfn hW hbl⟩
end
end Go.Proofs.YtoodknhlnifnlaaGreatDoor
