/- PROVED: the law StatsCheck (jointerlaw19), whatever the scheme, the statistics and the data: it answers true and leaves its arguments as they were. Conditions: the package-level variables hold what the row lists (the card ties them to the text). -/
import Derived.Test.YtoodknhlnifnlaaGreatDoorLd
import Derived.Test.YtoodknhlnifnlaaGreatDoorTp
import Derived.Test.YtoodknhlnifnlaaGreatDoorTa
import Derived.Test.YtoodknhlnifnlaaGreatDoorVi
import Derived.Test.YtoodknhlnifnlaaGreatDoorTc
set_option linter.all false
set_option linter.unusedVariables false
set_option linter.unusedSimpArgs false
set_option maxRecDepth 100000
namespace Go.Proofs.YtoodknhlnifnlaaGreatDoor.lawCheck
open Go.ChangeShapes Go.WideShapes Go.ChangeAt Go.RowKit
abbrev tds : List TD := [tdScheme, tdStats, tdData]
theorem law_pure (xs : List X) (h : AreTD 9223372036854775807 tds xs) : PureAt Tryz.prog n_jointerlaw19_StatsCheck xs (.v (.bool true)) := by
  rcases xs with _ | ⟨a, _ | ⟨b, _ | ⟨c, _ | ⟨d, xs⟩⟩⟩⟩ <;> simp only [tds, AreTD, and_false] at h
  obtain ⟨h0, h1, h2, _⟩ := h
  obtain ⟨s, rfl, _, hs⟩ := is_scheme h0
  obtain ⟨st, rfl, hl, hc⟩ := is_stats h1
  obtain ⟨d, rfl, _, hd⟩ := is_data h2
  exact call_ok (c_StatsCheck s st d hs hd (by have := hl.2.1; omega) (fun t ht => by have := (hc t ht).2.2.1.2.1; omega))
theorem contract (H : Type) (enc : TypeId × Value → H) (W : World) (base : Nat) (args : Array Value) (ds gs : List (DataW H)) (before : List MemPlace)
    (hval : ∀ (j : Nat) t v, Tryz.f7.params[j]? = some t → args[j]? = some v → Value.okWide Tryz.prog W .any base t v)
    (hW : DataW.Whole enc Tryz.prog Tryz.f7.params.toList Rows.statsCheckSpec.vars false W args.toList ds gs before)
    (hsz : (DataW.weightsEach Tryz.prog Tryz.f7.params.toList ds).all (· ≤ 140737488351232) = true) (hL : laidMetH Tryz.prog listed W) :
    Calls Tryz.prog 7 args W fun e W' => ∃ v, e = .returned v ∧ Rows.statsCheckSpec.post enc Tryz.prog Tryz.f7 false true false false W args v W' := by
  have hn : ds.length = 3 := by obtain ⟨p, q, hA, _⟩ := hW; exact trod_len hA
  refine law_calls (tds := tds) bd_all laid_out (by kernel_rfl) rfl Tryz.underlying4 rfl ?_ (by kernel_rfl) hval hW hsz (fun _ _ => trivial) (gok_of_laid hL) law_pure
  rcases ds with _ | ⟨a, _ | ⟨b, _ | ⟨c, _ | ⟨d, xs⟩⟩⟩⟩ <;> simp at hn
  rfl
abbrev wargs : Array Value := #[.slice none 0 0, .slice none 0 0, .slice none 0 0]
theorem reads (os : Os) {H : Type} (enc : TypeId × Value → H) : ∃ places, DataW.whole enc Tryz.prog ((w0 os).forCall (fun _ _ => 0) ⟨#[], wargs, []⟩).memory Tryz.f7.params.toList Rows.statsCheckSpec.vars false wargs.toList 8 = some ([.nil, .nil, .nil], [], places) :=
  ⟨[], by kernel_rfl⟩
theorem lifted (os : Os) (started : os.Started) (H : Type) (enc : TypeId × Value → H) (F : Stop.Interp) :
    ReturnsInHanded {} Tryz.checked os 7 .any ((OpenSpec.ofChange Rows.statsCheckSpec).preRow enc Tryz.prog Tryz.f7 Rows.statsCheckRow.domain false Rows.statsCheckRow.laid) (((OpenSpec.ofChange Rows.statsCheckSpec).at F).post enc Tryz.prog Tryz.f7 false true false false) := by
  obtain ⟨places, hx⟩ := reads os enc
  refine returnsInHanded_of_row (C := Tryz.checked) (s := OpenSpec.ofChange Rows.statsCheckSpec) own started (by kernel_rfl) Tryz.func7
    (wit os wargs (by kernel_rfl) (OpenSpec.preRow_of_cond 8 hx (by rfl) (fun k hk => by cases hk) (by kernel_rfl) (w0_met os _))) ?_
  intro W base args ds gs before hval hW _ _ hsz hL _ _
  obtain ⟨rfl, _⟩ : gs = [] ∧ True := by
    obtain ⟨p, q, hA, hV, _⟩ := hW
    obtain ⟨rfl, rfl⟩ := trodVars_none hV
    exact ⟨rfl, trivial⟩
  have hz : (DataW.weightsEach Tryz.prog (Tryz.f7.params.toList ++ []) (ds ++ [])).all (· ≤ reachBytes) = true := hsz
  rw [List.append_nil, List.append_nil] at hz
  exact contract H enc W base args ds [] before hval hW hz hL
theorem said : Rows.StatsCheckSaid :=
  OpenClaim.holds_of_cond 7 Tryz.f7 rfl rfl rfl rfl rfl rfl rfl ⟨rfl, rfl, rfl, rfl, rfl⟩ rfl rfl rfl rfl rfl (by kernel_rfl) Tryz.func7 (by kernel_rfl)
    (of_decide_eq_true (by kernel_rfl)) (by unfold Func.isWrapper; first | (rw [if_pos (by decide +kernel)]; kernel_rfl) | (rw [if_neg (by decide +kernel)]; exact ⟨rfl, rfl⟩))
    (fun os started H enc _ F => by rw [OpenClaim.pre_eq_preRow]; exact lifted os started H enc F)
theorem plain (f : FuncId) (fn : Func) (hf : Tryz.pinned.checked.prog.funcNamed "jointer/jointerlaw19.StatsCheck" = some f) (hfn : Tryz.pinned.checked.prog.funcs[f]? = some fn) :
    false = Tryz.pinned.checked.prog.looks [] ∧ ∀ (j : Nat) t, fn.params[j]? = some t → Tryz.pinned.checked.prog.wantsStandIn t = false := by
  obtain rfl : f = 7 := Option.some.inj ((show Tryz.prog.funcNamed "jointer/jointerlaw19.StatsCheck" = some 7 by kernel_rfl).symm.trans hf) |>.symm
  obtain rfl : fn = Tryz.f7 := (Option.some.inj (Tryz.func7.symm.trans hfn)).symm
  refine ⟨by kernel_rfl, fun j t ht => ?_⟩
  have hall : (Tryz.f7.params.toList.all fun u => !Tryz.prog.wantsStandIn u) = true := by kernel_rfl
  have hm : t ∈ Tryz.f7.params.toList := by simpa using Array.mem_of_getElem? ht
  exact (show Tryz.prog.wantsStandIn t = false by simpa using List.all_eq_true.1 hall t hm)
/-- The card. -/
theorem card : Rows.StatsCheckCardSaid :=
  Claim7.holds_tied_plain_at .later [] _ _ _ _ said (fun _ h => by cases h) (by kernel_rfl) (fun _ h => by cases h) statsCheck_row_tie rfl ⟨rfl, rfl⟩ (by kernel_rfl) rfl plain (by kernel_rfl)
end Go.Proofs.YtoodknhlnifnlaaGreatDoor.lawCheck
namespace Go.Proofs.YtoodknhlnifnlaaGreatDoor
/-- The statement. -/
theorem statsCheck_holds : Rows.StatsCheckCardSaid := lawCheck.card
end Go.Proofs.YtoodknhlnifnlaaGreatDoor
