/- PROVED: the law StatsTight (jointerlaw19), whatever the scheme and the statistics: it answers true and leaves its arguments as they were. Conditions: the package-level variables hold what the row lists (the card ties them to the text). -/
import Derived.Test.YtoodknhlnifnlaaGreatDoorLd
import Derived.Test.YtoodknhlnifnlaaGreatDoorTp
import Derived.Test.YtoodknhlnifnlaaGreatDoorTa
import Derived.Test.YtoodknhlnifnlaaGreatDoorXf
import Derived.Test.YtoodknhlnifnlaaGreatDoorTc
set_option linter.all false
set_option linter.unusedVariables false
set_option linter.unusedSimpArgs false
set_option maxRecDepth 100000
namespace Go.Proofs.YtoodknhlnifnlaaGreatDoor.lawTight
open Go.ChangeShapes Go.WideShapes Go.ChangeAt Go.RowKit
abbrev tds : List TD := [tdScheme, tdStats]
theorem law_pure (xs : List X) (h : AreTD 9223372036854775807 tds xs) : PureAt Tryz.prog n_jointerlaw19_StatsTight xs (.v (.bool true)) := by
  rcases xs with _ | ⟨a, _ | ⟨b, _ | ⟨c, xs⟩⟩⟩ <;> simp only [tds, AreTD, and_false] at h
  obtain ⟨h0, h1, _⟩ := h
  obtain ⟨s, rfl, _, hs, h6⟩ := is_scheme h0
  obtain ⟨st, rfl, hl, hc⟩ := is_stats h1
  exact call_ok (c_StatsTight s st hs h6 (fun t ht c hm => ⟨((hc t ht).2.2.2 c hm).2.2.2.1, ((hc t ht).2.2.2 c hm).2.2.2.2⟩) (by have := hl.2.1; omega) (fun t ht => by have := (hc t ht).2.2.1.2.1; omega))
theorem contract (H : Type) (enc : TypeId × Value → H) (W : World) (base : Nat) (args : Array Value) (ds gs : List (DataW H)) (before : List MemPlace)
    (hval : ∀ (j : Nat) t v, Tryz.f9.params[j]? = some t → args[j]? = some v → Value.okWide Tryz.prog W .any base t v)
    (hW : DataW.Whole enc Tryz.prog Tryz.f9.params.toList Rows.statsTightSpec.vars false W args.toList ds gs before)
    (hsz : (DataW.weightsEach Tryz.prog Tryz.f9.params.toList ds).all (· ≤ 140737488351232) = true) (hL : laidMetH Tryz.prog listed W) :
    Calls Tryz.prog 9 args W fun e W' => ∃ v, e = .returned v ∧ Rows.statsTightSpec.post enc Tryz.prog Tryz.f9 false true false false W args v W' := by
  have hn : ds.length = 2 := by obtain ⟨p, q, hA, _⟩ := hW; exact trod_len hA
  refine law_calls (tds := tds) bd_all laid_out (by kernel_rfl) rfl Tryz.underlying4 rfl ?_ (by kernel_rfl) hval hW hsz (fun _ _ => trivial) (gok_of_laid hL) law_pure
  rcases ds with _ | ⟨a, _ | ⟨b, _ | ⟨c, xs⟩⟩⟩ <;> simp at hn
  rfl
abbrev wargs : Array Value := #[.slice none 0 0, .slice none 0 0]
theorem reads (os : Os) {H : Type} (enc : TypeId × Value → H) : ∃ places, DataW.whole enc Tryz.prog ((w0 os).forCall (fun _ _ => 0) ⟨#[], wargs, []⟩).memory Tryz.f9.params.toList Rows.statsTightSpec.vars false wargs.toList 8 = some ([.nil, .nil], [], places) :=
  ⟨[], by kernel_rfl⟩
theorem lifted (os : Os) (started : os.Started) (H : Type) (enc : TypeId × Value → H) (F : Stop.Interp) :
    ReturnsInHanded {} Tryz.checked os 9 .any ((OpenSpec.ofChange Rows.statsTightSpec).preRow enc Tryz.prog Tryz.f9 Rows.statsTightRow.domain false Rows.statsTightRow.laid) (((OpenSpec.ofChange Rows.statsTightSpec).at F).post enc Tryz.prog Tryz.f9 false true false false) := by
  obtain ⟨places, hx⟩ := reads os enc
  refine returnsInHanded_of_row (C := Tryz.checked) (s := OpenSpec.ofChange Rows.statsTightSpec) own started (by kernel_rfl) Tryz.func9
    (wit os wargs (by kernel_rfl) (OpenSpec.preRow_of_cond 8 hx (by rfl) (fun k hk => by cases hk) (by kernel_rfl) (w0_met os _))) ?_
  intro W base args ds gs before hval hW _ _ hsz hL _ _
  obtain ⟨rfl, _⟩ : gs = [] ∧ True := by
    obtain ⟨p, q, hA, hV, _⟩ := hW
    obtain ⟨rfl, rfl⟩ := trodVars_none hV
    exact ⟨rfl, trivial⟩
  have hz : (DataW.weightsEach Tryz.prog (Tryz.f9.params.toList ++ []) (ds ++ [])).all (· ≤ reachBytes) = true := hsz
  rw [List.append_nil, List.append_nil] at hz
  exact contract H enc W base args ds [] before hval hW hz hL
theorem said : Rows.StatsTightSaid :=
  OpenClaim.holds_of_cond 9 Tryz.f9 rfl rfl rfl rfl rfl rfl rfl ⟨rfl, rfl, rfl, rfl, rfl⟩ rfl rfl rfl rfl rfl (by kernel_rfl) Tryz.func9 (by kernel_rfl)
    (of_decide_eq_true (by kernel_rfl)) (by unfold Func.isWrapper; first | (rw [if_pos (by decide +kernel)]; kernel_rfl) | (rw [if_neg (by decide +kernel)]; exact ⟨rfl, rfl⟩))
    (fun os started H enc _ F => by rw [OpenClaim.pre_eq_preRow]; exact lifted os started H enc F)
theorem plain (f : FuncId) (fn : Func) (hf : Tryz.pinned.checked.prog.funcNamed "jointer/jointerlaw19.StatsTight" = some f) (hfn : Tryz.pinned.checked.prog.funcs[f]? = some fn) :
    false = Tryz.pinned.checked.prog.looks [] ∧ ∀ (j : Nat) t, fn.params[j]? = some t → Tryz.pinned.checked.prog.wantsStandIn t = false := by
  obtain rfl : f = 9 := Option.some.inj ((show Tryz.prog.funcNamed "jointer/jointerlaw19.StatsTight" = some 9 by kernel_rfl).symm.trans hf) |>.symm
  obtain rfl : fn = Tryz.f9 := (Option.some.inj (Tryz.func9.symm.trans hfn)).symm
  refine ⟨by kernel_rfl, fun j t ht => ?_⟩
  have hall : (Tryz.f9.params.toList.all fun u => !Tryz.prog.wantsStandIn u) = true := by kernel_rfl
  have hm : t ∈ Tryz.f9.params.toList := by simpa using Array.mem_of_getElem? ht
  exact (show Tryz.prog.wantsStandIn t = false by simpa using List.all_eq_true.1 hall t hm)
/-- The card. -/
theorem card : Rows.StatsTightCardSaid :=
  Claim7.holds_tied_plain_at .later [] _ _ _ _ said (fun _ h => by cases h) (by kernel_rfl) (fun _ h => by cases h) statsTight_row_tie rfl ⟨rfl, rfl⟩ (by kernel_rfl) rfl plain (by kernel_rfl)
end Go.Proofs.YtoodknhlnifnlaaGreatDoor.lawTight
namespace Go.Proofs.YtoodknhlnifnlaaGreatDoor
/-- The statement. -/
theorem statsTight_holds : Rows.StatsTightCardSaid := lawTight.card
end Go.Proofs.YtoodknhlnifnlaaGreatDoor
