/- PROVED: the law StatsGather (jointerlaw19), whatever the scheme and the data: it answers true and leaves its arguments as they were. Conditions: the package-level variables hold what the row lists (the card ties them to the text). -/
import Derived.Test.YtoodknhlnifnlaaGreatDoorLd
import Derived.Test.YtoodknhlnifnlaaGreatDoorTp
import Derived.Test.YtoodknhlnifnlaaGreatDoorTa
import Derived.Test.YtoodknhlnifnlaaGreatDoorYb
import Derived.Test.YtoodknhlnifnlaaGreatDoorTd
set_option linter.all false
set_option linter.unusedVariables false
set_option linter.unusedSimpArgs false
set_option maxRecDepth 100000
namespace Go.Proofs.YtoodknhlnifnlaaGreatDoor.lawGather
open Go.ChangeShapes Go.WideShapes Go.ChangeAt Go.RowKit
abbrev tds : List TD := [tdScheme, tdData]
theorem law_pure (xs : List X) (h : AreTD 9223372036854775807 tds xs) : PureAt Tryz.prog n_jointerlaw19_StatsGather xs (.v (.bool true)) := by
  rcases xs with _ | ⟨a, _ | ⟨b, _ | ⟨c, xs⟩⟩⟩ <;> simp only [tds, AreTD, and_false] at h
  obtain ⟨h0, h1, _⟩ := h
  obtain ⟨s, rfl, _, hs, _⟩ := is_scheme h0
  obtain ⟨d, rfl, _, hd⟩ := is_data h1
  exact call_ok (c_StatsGather s d hs hd)
theorem contract (H : Type) (enc : TypeId × Value → H) (W : World) (base : Nat) (args : Array Value) (ds gs : List (DataW H)) (before : List MemPlace)
    (hval : ∀ (j : Nat) t v, Tryz.f8.params[j]? = some t → args[j]? = some v → Value.okWide Tryz.prog W .any base t v)
    (hW : DataW.Whole enc Tryz.prog Tryz.f8.params.toList Rows.statsGatherSpec.vars false W args.toList ds gs before)
    (hsz : (DataW.weightsEach Tryz.prog Tryz.f8.params.toList ds).all (· ≤ 140737488351232) = true) (hL : laidMetH Tryz.prog listed W) :
    Calls Tryz.prog 8 args W fun e W' => ∃ v, e = .returned v ∧ Rows.statsGatherSpec.post enc Tryz.prog Tryz.f8 false true false false W args v W' := by
  have hn : ds.length = 2 := by obtain ⟨p, q, hA, _⟩ := hW; exact trod_len hA
  refine law_calls (tds := tds) bd_all laid_out (by kernel_rfl) rfl Tryz.underlying4 rfl ?_ (by kernel_rfl) hval hW hsz (fun _ _ => trivial) (gok_of_laid hL) law_pure
  rcases ds with _ | ⟨a, _ | ⟨b, _ | ⟨c, xs⟩⟩⟩ <;> simp at hn
  rfl
abbrev wargs : Array Value := #[.slice none 0 0, .slice none 0 0]
theorem reads (os : Os) {H : Type} (enc : TypeId × Value → H) : ∃ places, DataW.whole enc Tryz.prog ((w0 os).forCall (fun _ _ => 0) ⟨#[], wargs, []⟩).memory Tryz.f8.params.toList Rows.statsGatherSpec.vars false wargs.toList 8 = some ([.nil, .nil], [], places) :=
  ⟨[], by kernel_rfl⟩
theorem lifted (os : Os) (started : os.Started) (H : Type) (enc : TypeId × Value → H) (F : Stop.Interp) :
    ReturnsInHanded {} Tryz.checked os 8 .any ((OpenSpec.ofChange Rows.statsGatherSpec).preRow enc Tryz.prog Tryz.f8 Rows.statsGatherRow.domain false Rows.statsGatherRow.laid) (((OpenSpec.ofChange Rows.statsGatherSpec).at F).post enc Tryz.prog Tryz.f8 false true false false) := by
  obtain ⟨places, hx⟩ := reads os enc
  refine returnsInHanded_of_row (C := Tryz.checked) (s := OpenSpec.ofChange Rows.statsGatherSpec) own started (by kernel_rfl) Tryz.func8
    (wit os wargs (by kernel_rfl) (OpenSpec.preRow_of_cond 8 hx (by rfl) (fun k hk => by cases hk) (by kernel_rfl) (w0_met os _))) ?_
  intro W base args ds gs before hval hW _ _ hsz hL _ _
  obtain ⟨rfl, _⟩ : gs = [] ∧ True := by
    obtain ⟨p, q, hA, hV, _⟩ := hW
    obtain ⟨rfl, rfl⟩ := trodVars_none hV
    exact ⟨rfl, trivial⟩
  have hz : (DataW.weightsEach Tryz.prog (Tryz.f8.params.toList ++ []) (ds ++ [])).all (· ≤ reachBytes) = true := hsz
  rw [List.append_nil, List.append_nil] at hz
  exact contract H enc W base args ds [] before hval hW hz hL
theorem said : Rows.StatsGatherSaid :=
  OpenClaim.holds_of_cond 8 Tryz.f8 rfl rfl rfl rfl rfl rfl rfl ⟨rfl, rfl, rfl, rfl, rfl⟩ rfl rfl rfl rfl rfl (by kernel_rfl) Tryz.func8 (by kernel_rfl)
    (of_decide_eq_true (by kernel_rfl)) (by unfold Func.isWrapper; first | (rw [if_pos (by decide +kernel)]; kernel_rfl) | (rw [if_neg (by decide +kernel)]; exact ⟨rfl, rfl⟩))
    (fun os started H enc _ F => by rw [OpenClaim.pre_eq_preRow]; exact lifted os started H enc F)
theorem plain (f : FuncId) (fn : Func) (hf : Tryz.pinned.checked.prog.funcNamed "jointer/jointerlaw19.StatsGather" = some f) (hfn : Tryz.pinned.checked.prog.funcs[f]? = some fn) :
    false = Tryz.pinned.checked.prog.looks [] ∧ ∀ (j : Nat) t, fn.params[j]? = some t → Tryz.pinned.checked.prog.wantsStandIn t = false := by
  obtain rfl : f = 8 := Option.some.inj ((show Tryz.prog.funcNamed "jointer/jointerlaw19.StatsGather" = some 8 by kernel_rfl).symm.trans hf) |>.symm
  obtain rfl : fn = Tryz.f8 := (Option.some.inj (Tryz.func8.symm.trans hfn)).symm
  refine ⟨by kernel_rfl, fun j t ht => ?_⟩
  have hall : (Tryz.f8.params.toList.all fun u => !Tryz.prog.wantsStandIn u) = true := by kernel_rfl
  have hm : t ∈ Tryz.f8.params.toList := by simpa using Array.mem_of_getElem? ht
  exact (show Tryz.prog.wantsStandIn t = false by simpa using List.all_eq_true.1 hall t hm)
/-- The card. -/
theorem card : Rows.StatsGatherCardSaid :=
  Claim7.holds_tied_plain_at .later [] _ _ _ _ said (fun _ h => by cases h) (by kernel_rfl) (fun _ h => by cases h) statsGather_row_tie rfl ⟨rfl, rfl⟩ (by kernel_rfl) rfl plain (by kernel_rfl)
end Go.Proofs.YtoodknhlnifnlaaGreatDoor.lawGather
namespace Go.Proofs.YtoodknhlnifnlaaGreatDoor
/-- The statement. -/
theorem statsGather_holds : Rows.StatsGatherCardSaid := lawGather.card
end Go.Proofs.YtoodknhlnifnlaaGreatDoor
