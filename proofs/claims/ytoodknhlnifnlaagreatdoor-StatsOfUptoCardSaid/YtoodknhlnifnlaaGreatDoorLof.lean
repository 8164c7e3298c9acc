/- PROVED: the law StatsOf (jointerlaw19), whatever the kinds and the rows (of bulk at most 1048576): it answers true and leaves its arguments as they were. Conditions: the package-level variables hold what the row lists (the card ties them to the text). -/
import Derived.Test.YtoodknhlnifnlaaGreatDoorLd
import Derived.Test.YtoodknhlnifnlaaGreatDoorTp
import Derived.Test.YtoodknhlnifnlaaGreatDoorTa
import Derived.Test.YtoodknhlnifnlaaGreatDoorDc
import Derived.Test.YtoodknhlnifnlaaGreatDoorBu
set_option linter.all false
set_option linter.unusedVariables false
set_option linter.unusedSimpArgs false
set_option maxRecDepth 100000
namespace Go.Proofs.YtoodknhlnifnlaaGreatDoor.lawOfUpto
open Go.ChangeShapes Go.WideShapes Go.ChangeAt Go.RowKit
abbrev tds : List TD := [tdKinds, tdRows]
theorem law_pure (xs : List X) (h : AreTD 1048576 tds xs) : PureAt Tryz.prog n_jointerlaw19_StatsOf xs (.v (.bool true)) := by
  rcases xs with _ | ⟨a, _ | ⟨b, _ | ⟨c, xs⟩⟩⟩ <;> simp only [tds, AreTD, and_false] at h
  obtain ⟨h0, h1, _⟩ := h
  obtain ⟨ks, rfl, h1', _⟩ := is_kinds h0
  obtain ⟨rows, rfl, h3, h4⟩ := is_rows h1
  exact call_ok (c_StatsOf ks rows (by have := h1'.1; omega) (rows_ok h3 h4))
theorem contract (H : Type) (enc : TypeId × Value → H) (W : World) (base : Nat) (args : Array Value) (ds gs : List (DataW H)) (before : List MemPlace)
    (hval : ∀ (j : Nat) t v, Tryz.f4.params[j]? = some t → args[j]? = some v → Value.okWide Tryz.prog W .any base t v)
    (hW : DataW.Whole enc Tryz.prog Tryz.f4.params.toList Rows.statsOfSpec.vars false W args.toList ds gs before)
    (hsz : (DataW.weightsEach Tryz.prog Tryz.f4.params.toList ds).all (· ≤ 140737488351232) = true) (hL : laidMetH Tryz.prog listed W) (hk : Rows.uptoSmall H (ds ++ gs) = true) :
    Calls Tryz.prog 4 args W fun e W' => ∃ v, e = .returned v ∧ Rows.statsOfSpec.post enc Tryz.prog Tryz.f4 false true false false W args v W' := by
  have hn : ds.length = 2 := by obtain ⟨p, q, hA, _⟩ := hW; exact trod_len hA
  refine law_calls (tds := tds) bd_upto laid_out (by kernel_rfl) rfl Tryz.underlying4 rfl ?_ (by kernel_rfl) hval hW hsz (small_all hk) (gok_of_laid hL) law_pure
  rcases ds with _ | ⟨a, _ | ⟨b, _ | ⟨c, xs⟩⟩⟩ <;> simp at hn
  rfl
abbrev wargs : Array Value := #[.slice none 0 0, .slice none 0 0]
theorem reads (os : Os) {H : Type} (enc : TypeId × Value → H) : ∃ places, DataW.whole enc Tryz.prog ((w0 os).forCall (fun _ _ => 0) ⟨#[], wargs, []⟩).memory Tryz.f4.params.toList Rows.statsOfSpec.vars false wargs.toList 8 = some ([.nil, .nil], [], places) :=
  ⟨[], by kernel_rfl⟩
theorem lifted (os : Os) (started : os.Started) (H : Type) (enc : TypeId × Value → H) (F : Stop.Interp) :
    ReturnsInHanded {} Tryz.checked os 4 .any ((Rows.OpenSpec.upto Rows.statsOfSpec).preRow enc Tryz.prog Tryz.f4 Rows.statsOfUptoRow.domain false Rows.statsOfUptoRow.laid) (((Rows.OpenSpec.upto Rows.statsOfSpec).at F).post enc Tryz.prog Tryz.f4 false true false false) := by
  obtain ⟨places, hx⟩ := reads os enc
  refine returnsInHanded_of_row (C := Tryz.checked) (s := Rows.OpenSpec.upto Rows.statsOfSpec) own started (by kernel_rfl) Tryz.func4
    (wit os wargs (by kernel_rfl) (OpenSpec.preRow_of_cond 8 hx (by rfl) (fun k hk => by cases hk; kernel_rfl) (by kernel_rfl) (w0_met os _))) ?_
  intro W base args ds gs before hval hW _ hcond hsz hL _ _
  obtain ⟨rfl, _⟩ : gs = [] ∧ True := by
    obtain ⟨p, q, hA, hV, _⟩ := hW
    obtain ⟨rfl, rfl⟩ := trodVars_none hV
    exact ⟨rfl, trivial⟩
  have hz : (DataW.weightsEach Tryz.prog (Tryz.f4.params.toList ++ []) (ds ++ [])).all (· ≤ reachBytes) = true := hsz
  rw [List.append_nil, List.append_nil] at hz
  exact contract H enc W base args ds [] before hval hW hz hL (hcond _ rfl)
theorem said : Rows.StatsOfUptoSaid :=
  OpenClaim.holds_of_cond 4 Tryz.f4 rfl rfl rfl rfl rfl rfl rfl ⟨rfl, rfl, rfl, rfl, rfl⟩ rfl rfl rfl rfl rfl (by kernel_rfl) Tryz.func4 (by kernel_rfl)
    (of_decide_eq_true (by kernel_rfl)) (by unfold Func.isWrapper; first | (rw [if_pos (by decide +kernel)]; kernel_rfl) | (rw [if_neg (by decide +kernel)]; exact ⟨rfl, rfl⟩))
    (fun os started H enc _ F => by rw [OpenClaim.pre_eq_preRow]; exact lifted os started H enc F)
theorem plain (f : FuncId) (fn : Func) (hf : Tryz.pinned.checked.prog.funcNamed "jointer/jointerlaw19.StatsOf" = some f) (hfn : Tryz.pinned.checked.prog.funcs[f]? = some fn) :
    false = Tryz.pinned.checked.prog.looks [] ∧ ∀ (j : Nat) t, fn.params[j]? = some t → Tryz.pinned.checked.prog.wantsStandIn t = false := by
  obtain rfl : f = 4 := Option.some.inj ((show Tryz.prog.funcNamed "jointer/jointerlaw19.StatsOf" = some 4 by kernel_rfl).symm.trans hf) |>.symm
  obtain rfl : fn = Tryz.f4 := (Option.some.inj (Tryz.func4.symm.trans hfn)).symm
  refine ⟨by kernel_rfl, fun j t ht => ?_⟩
  have hall : (Tryz.f4.params.toList.all fun u => !Tryz.prog.wantsStandIn u) = true := by kernel_rfl
  have hm : t ∈ Tryz.f4.params.toList := by simpa using Array.mem_of_getElem? ht
  exact (show Tryz.prog.wantsStandIn t = false by simpa using List.all_eq_true.1 hall t hm)
/-- The card. -/
theorem card : Rows.StatsOfUptoCardSaid :=
  Claim7.holds_tied_plain_at .later [] _ _ _ _ said (fun _ h => by cases h) (by kernel_rfl) (fun _ h => by cases h) statsOfUpto_row_tie rfl ⟨rfl, rfl⟩ (by kernel_rfl) rfl plain (by kernel_rfl)
end Go.Proofs.YtoodknhlnifnlaaGreatDoor.lawOfUpto
namespace Go.Proofs.YtoodknhlnifnlaaGreatDoor
/-- The statement. -/
theorem statsOfUpto_holds : Rows.StatsOfUptoCardSaid := lawOfUpto.card
end Go.Proofs.YtoodknhlnifnlaaGreatDoor
