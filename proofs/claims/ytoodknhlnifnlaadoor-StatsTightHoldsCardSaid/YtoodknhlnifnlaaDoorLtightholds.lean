/- PROVED: the law StatsTightHolds (jointerlaw19), whatever the scheme, the statistics and the data: it answers true and leaves its arguments as they were. Conditions: the package-level variables hold what the row lists (the card ties them to the text). -/
import Derived.Test.YtoodknhlnifnlaaDoorLd
import Derived.Test.YtoodknhlnifnlaaDoorTp
import Derived.Test.YtoodknhlnifnlaaDoorTa
import Derived.Test.YtoodknhlnifnlaaDoorHn
import Derived.Test.YtoodknhlnifnlaaDoorTc
set_option linter.all false
set_option linter.unusedVariables false
set_option linter.unusedSimpArgs false
set_option maxRecDepth 100000
namespace Go.Proofs.YtoodknhlnifnlaaDoor.lawTightHolds
open Go.ChangeShapes Go.WideShapes Go.ChangeAt Go.RowKit
abbrev tds : List TD := [tdScheme, tdStats, tdData]
theorem law_pure (xs : List X) (h : AreTD 9223372036854775807 tds xs) : PureAt Tryd.prog n_jointerlaw19_StatsTightHolds xs (.v (.bool true)) := by
  rcases xs with _ | ⟨a, _ | ⟨b, _ | ⟨c, _ | ⟨d, xs⟩⟩⟩⟩ <;> simp only [tds, AreTD, and_false] at h
  obtain ⟨h0, h1, h2, _⟩ := h
  obtain ⟨s, rfl, _, hs, h6⟩ := is_scheme h0
  obtain ⟨st, rfl, hl, hc⟩ := is_stats h1
  obtain ⟨d, rfl, _, hd⟩ := is_data h2
  exact call_ok (c_StatsTightHolds s st d hs h6 (fun t ht c hm => ⟨((hc t ht).2.2.2 c hm).2.2.2.1, ((hc t ht).2.2.2 c hm).2.2.2.2⟩) hd)
theorem contract (H : Type) (enc : TypeId × Value → H) (W : World) (base : Nat) (args : Array Value) (ds gs : List (DataW H)) (before : List MemPlace)
    (hval : ∀ (j : Nat) t v, Tryd.f6.params[j]? = some t → args[j]? = some v → Value.okWide Tryd.prog W .any base t v)
    (hW : DataW.Whole enc Tryd.prog Tryd.f6.params.toList Rows.statsTightHoldsSpec.vars false W args.toList ds gs before)
    (hsz : (DataW.weightsEach Tryd.prog Tryd.f6.params.toList ds).all (· ≤ 140737488351232) = true) (hL : laidMetH Tryd.prog listed W) :
    Calls Tryd.prog 6 args W fun e W' => ∃ v, e = .returned v ∧ Rows.statsTightHoldsSpec.post enc Tryd.prog Tryd.f6 false true false false W args v W' := by
  have hn : ds.length = 3 := by obtain ⟨p, q, hA, _⟩ := hW; exact trod_len hA
  refine law_calls (tds := tds) bd_all laid_out (by kernel_rfl) rfl Tryd.underlying4 rfl ?_ (by kernel_rfl) hval hW hsz (fun _ _ => trivial) (gok_of_laid hL) law_pure
  rcases ds with _ | ⟨a, _ | ⟨b, _ | ⟨c, _ | ⟨d, xs⟩⟩⟩⟩ <;> simp at hn
  rfl
abbrev wargs : Array Value := #[.slice none 0 0, .slice none 0 0, .slice none 0 0]
theorem reads (os : Os) {H : Type} (enc : TypeId × Value → H) : ∃ places, DataW.whole enc Tryd.prog ((w0 os).forCall (fun _ _ => 0) ⟨#[], wargs, []⟩).memory Tryd.f6.params.toList Rows.statsTightHoldsSpec.vars false wargs.toList 8 = some ([.nil, .nil, .nil], [], places) :=
  ⟨[], by kernel_rfl⟩
theorem lifted (os : Os) (started : os.Started) (H : Type) (enc : TypeId × Value → H) (F : Stop.Interp) :
    ReturnsInHanded {} Tryd.checked os 6 .any ((OpenSpec.ofChange Rows.statsTightHoldsSpec).preRow enc Tryd.prog Tryd.f6 Rows.statsTightHoldsRow.domain false Rows.statsTightHoldsRow.laid) (((OpenSpec.ofChange Rows.statsTightHoldsSpec).at F).post enc Tryd.prog Tryd.f6 false true false false) := by
  obtain ⟨places, hx⟩ := reads os enc
  refine returnsInHanded_of_row (C := Tryd.checked) (s := OpenSpec.ofChange Rows.statsTightHoldsSpec) own started (by kernel_rfl) Tryd.func6
    (wit os wargs (by kernel_rfl) (OpenSpec.preRow_of_cond 8 hx (by rfl) (fun k hk => by cases hk) (by kernel_rfl) (w0_met os _))) ?_
  intro W base args ds gs before hval hW _ _ hsz hL _ _
  obtain ⟨rfl, _⟩ : gs = [] ∧ True := by
    obtain ⟨p, q, hA, hV, _⟩ := hW
    obtain ⟨rfl, rfl⟩ := trodVars_none hV
    exact ⟨rfl, trivial⟩
  have hz : (DataW.weightsEach Tryd.prog (Tryd.f6.params.toList ++ []) (ds ++ [])).all (· ≤ reachBytes) = true := hsz
  rw [List.append_nil, List.append_nil] at hz
  exact contract H enc W base args ds [] before hval hW hz hL
theorem said : Rows.StatsTightHoldsSaid :=
  OpenClaim.holds_of_cond 6 Tryd.f6 rfl rfl rfl rfl rfl rfl rfl ⟨rfl, rfl, rfl, rfl, rfl⟩ rfl rfl rfl rfl rfl (by kernel_rfl) Tryd.func6 (by kernel_rfl)
    (of_decide_eq_true (by kernel_rfl)) (by unfold Func.isWrapper; first | (rw [if_pos (by decide +kernel)]; kernel_rfl) | (rw [if_neg (by decide +kernel)]; exact ⟨rfl, rfl⟩))
    (fun os started H enc _ F => by rw [OpenClaim.pre_eq_preRow]; exact lifted os started H enc F)
theorem plain (f : FuncId) (fn : Func) (hf : Tryd.pinned.checked.prog.funcNamed "jointer/jointerlaw19.StatsTightHolds" = some f) (hfn : Tryd.pinned.checked.prog.funcs[f]? = some fn) :
    false = Tryd.pinned.checked.prog.looks [] ∧ ∀ (j : Nat) t, fn.params[j]? = some t → Tryd.pinned.checked.prog.wantsStandIn t = false := by
  obtain rfl : f = 6 := Option.some.inj ((show Tryd.prog.funcNamed "jointer/jointerlaw19.StatsTightHolds" = some 6 by kernel_rfl).symm.trans hf) |>.symm
  obtain rfl : fn = Tryd.f6 := (Option.some.inj (Tryd.func6.symm.trans hfn)).symm
  refine ⟨by kernel_rfl, fun j t ht => ?_⟩
  have hall : (Tryd.f6.params.toList.all fun u => !Tryd.prog.wantsStandIn u) = true := by kernel_rfl
  have hm : t ∈ Tryd.f6.params.toList := by simpa using Array.mem_of_getElem? ht
  exact (show Tryd.prog.wantsStandIn t = false by simpa using List.all_eq_true.1 hall t hm)
/-- The card. -/
theorem card : Rows.StatsTightHoldsCardSaid :=
  Claim7.holds_tied_plain_at .later [] _ _ _ _ said (fun _ h => by cases h) (by kernel_rfl) (fun _ h => by cases h) statsTightHolds_row_tie rfl ⟨rfl, rfl⟩ (by kernel_rfl) rfl plain (by kernel_rfl)
end Go.Proofs.YtoodknhlnifnlaaDoor.lawTightHolds
namespace Go.Proofs.YtoodknhlnifnlaaDoor
/-- The statement. -/
theorem statsTightHolds_holds : Rows.StatsTightHoldsCardSaid := lawTightHolds.card
end Go.Proofs.YtoodknhlnifnlaaDoor
