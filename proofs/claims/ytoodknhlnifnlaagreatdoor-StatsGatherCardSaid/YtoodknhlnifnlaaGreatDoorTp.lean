/- The table is right: each function, called as the table says, gives what the engine says. -/
import Derived.Test.YtoodknhlnifnlaaGreatDoorCk
import Derived.Test.YtoodknhlnifnlaaGreatDoorWk
import Derived.Test.YtoodknhlnifnlaaGreatDoorKw
import Derived.Test.YtoodknhlnifnlaaGreatDoorFo
import Derived.Test.YtoodknhlnifnlaaGreatDoorCn
import Derived.Test.YtoodknhlnifnlaaGreatDoorSh
set_option linter.all false
set_option linter.unusedVariables false
set_option linter.unusedSimpArgs false
set_option maxRecDepth 100000
namespace Go.Proofs.YtoodknhlnifnlaaGreatDoor
open Go.RowKit

theorem T_mem {f : Nat} {fe : Fe} (h : T f = some fe) : (f, fe) ∈ extL ++ codeL := by
  unfold T at h
  obtain ⟨p, hp, rfl⟩ := Option.map_eq_some_iff.1 h
  have h1 := List.find?_some hp
  have h2 := List.mem_of_find?_eq_some hp
  simp only [beq_iff_eq] at h1
  subst h1
  exact h2
theorem T_fn : ∀ f, (T f).isSome = true → okFn Tryz.prog f = true := by
  intro f h
  obtain ⟨fe, hfe⟩ := Option.isSome_iff_exists.1 h
  exact List.all_eq_true.1 ck_fn _ (T_mem hfe)
theorem not_code {p : Nat × Fe} (h : p ∈ extL) : (∃ F, p.2 = .ext F) ∨ ∃ F, p.2 = .extI F := by
  simp only [extL, List.mem_cons, List.not_mem_nil, or_false] at h
  rcases h with rfl | rfl | rfl | rfl | rfl
  · exact .inr ⟨_, rfl⟩
  all_goals exact .inl ⟨_, rfl⟩
theorem T_code : ∀ f nt res body, T f = some (.code nt res body) ∨ T f = some (.codez nt res body) → okBody Tryz.prog f nt res body = true := by
  intro f nt res body h
  rcases h with h | h
  · rcases List.mem_append.1 (T_mem h) with hm | hm
    · rcases not_code hm with ⟨F, hF⟩ | ⟨F, hF⟩ <;> cases hF
    · exact List.all_eq_true.1 ck_all _ hm
  · rcases List.mem_append.1 (T_mem h) with hm | hm
    · rcases not_code hm with ⟨F, hF⟩ | ⟨F, hF⟩ <;> cases hF
    · exact List.all_eq_true.1 ck_all _ hm
theorem pure_str {f : Nat} {b b' : ByteArray} (h : ∀ w, GOK w → Calls Tryz.prog f #[.string b] w fun e w' => e = .returned (.string b') ∧ Below w.heap.size w w') : PureAt Tryz.prog f [.v (.string b)] (.v (.string b')) := by
  intro w sh vs hg hsh hl hv
  obtain ⟨v, rfl⟩ : ∃ v, vs = #[v] := by
    rcases vs with ⟨l⟩
    rcases l with _ | ⟨v, _ | ⟨u, l⟩⟩ <;> simp at hl
    exact ⟨v, rfl⟩
  have := hv 0 _ v rfl rfl
  cases this with
  | v _ =>
    refine (h w hg).mono ?_
    rintro e w' ⟨rfl, hb⟩
    exact ⟨_, fun _ => False, rfl, hb, fun _ h => h.elim, .v rfl, rfl⟩
theorem pure_bool {f : Nat} {b : ByteArray} {r : Bool} (h : ∀ w, GOK w → Calls Tryz.prog f #[.string b] w fun e w' => e = .returned (.bool r) ∧ Below w.heap.size w w') : PureAt Tryz.prog f [.v (.string b)] (.v (.bool r)) := by
  intro w sh vs hg hsh hl hv
  obtain ⟨v, rfl⟩ : ∃ v, vs = #[v] := by
    rcases vs with ⟨l⟩
    rcases l with _ | ⟨v, _ | ⟨u, l⟩⟩ <;> simp at hl
    exact ⟨v, rfl⟩
  have := hv 0 _ v rfl rfl
  cases this with
  | v _ =>
    refine (h w hg).mono ?_
    rintro e w' ⟨rfl, hb⟩
    exact ⟨_, fun _ => False, rfl, hb, fun _ h => h.elim, .v rfl, rfl⟩
theorem pure_str2 {f : Nat} {b b' : ByteArray} {q : Bool} (h : ∀ w, GOK w → Calls Tryz.prog f #[.string b, .bool q] w fun e w' => e = .returned (.string b') ∧ Below w.heap.size w w') : PureAt Tryz.prog f [.v (.string b), .v (.bool q)] (.v (.string b')) := by
  intro w sh vs hg hsh hlen hv
  obtain ⟨v, u, rfl⟩ : ∃ v u, vs = #[v, u] := by
    rcases vs with ⟨l⟩
    have hl : l.length = 2 := by simpa using hlen.symm
    rcases l with _ | ⟨v, _ | ⟨u, _ | ⟨x, l⟩⟩⟩ <;> simp at hl
    exact ⟨v, u, rfl⟩
  have h1 := hv 0 _ v rfl rfl
  have h2 := hv 1 _ u rfl rfl
  cases h1 with
  | v _ =>
    cases h2 with
    | v _ =>
      refine (h w hg).mono ?_
      rintro e w' ⟨rfl, hb⟩
      exact ⟨_, fun _ => False, rfl, hb, fun _ h => h.elim, .v rfl, rfl⟩
theorem ascii_spec {b : ByteArray} (h : asciiB b = true) : b.size ≤ 140737488355328 ∧ ∀ (j : Nat) (c : UInt8), b.data.toList[j]? = some c → c.toNat < 128 := by
  simp only [asciiB, Bool.and_eq_true, decide_eq_true_eq] at h
  exact ⟨h.2, fun j c hj => of_decide_eq_true (List.all_eq_true.1 h.1 c (List.mem_of_getElem? hj))⟩
theorem kwL_eq : kwWords.map (·.toList) = kwL := by decide +kernel
theorem isKw_eq (b : ByteArray) : isKw b = kwL.any fun x => x == b.toList := by
  rw [← kwL_eq, List.any_map]; rfl
theorem T_ext : ∀ f F xs r, T f = some (.ext F) → F xs = some r → PureAt Tryz.prog f xs r := by
  intro f F xs r h hr
  rcases List.mem_append.1 (T_mem h) with hm | hm
  · simp only [extL, List.mem_cons, List.not_mem_nil, or_false] at hm
    rcases hm with hm | hm | hm | hm | hm
    · simp only [Prod.mk.injEq, reduceCtorEq, and_false] at hm
    · simp only [Prod.mk.injEq, Fe.ext.injEq] at hm
      obtain ⟨rfl, rfl⟩ := hm
      unfold upF at hr
      split at hr
      · split at hr
        · rename_i b ha
          simp only [Option.some.injEq] at hr; subst hr
          obtain ⟨h1, h2⟩ := ascii_spec ha
          exact pure_str fun w _ => Tryz.strings_ToUpper_ascii b w h1 h2
        · simp at hr
      · simp at hr
    · simp only [Prod.mk.injEq, Fe.ext.injEq] at hm
      obtain ⟨rfl, rfl⟩ := hm
      unfold loF at hr
      split at hr
      · split at hr
        · rename_i b ha
          simp only [Option.some.injEq] at hr; subst hr
          obtain ⟨h1, h2⟩ := ascii_spec ha
          exact pure_str fun w _ => Tryz.strings_ToLower_ascii b w h1 h2
        · simp at hr
      · simp at hr
    · simp only [Prod.mk.injEq, Fe.ext.injEq] at hm
      obtain ⟨rfl, rfl⟩ := hm
      unfold kwF at hr
      split at hr
      · rename_i b
        simp only [Option.some.injEq] at hr; subst hr
        rw [← isKw_eq]
        exact pure_bool fun w hg => kw_calls b w hg
      · simp at hr
    · simp only [Prod.mk.injEq, Fe.ext.injEq] at hm
      obtain ⟨rfl, rfl⟩ := hm
      unfold foF at hr
      split at hr
      · split at hr
        · rename_i b hb
          simp only [Option.some.injEq] at hr; subst hr
          exact pure_str2 fun w _ => fo_calls b hb w
        · simp at hr
      · simp at hr
  · have := List.all_eq_true.1 ck_all _ hm
    simp [okEnt] at this
theorem clone_cnt {xs : List X} {s s' : Sto} {r : X} (h : cloneF xs s = some (r, s')) : Cnt s s' := by
  unfold cloneF at h
  split at h
  · simp only [Option.some.injEq, Prod.mk.injEq] at h; obtain ⟨_, rfl⟩ := h; exact Cnt.refl _
  · split at h
    · simp only [Option.some.injEq, Prod.mk.injEq] at h; obtain ⟨_, rfl⟩ := h
      exact (Cnt.newO _ _ _).trans (Cnt.newO _ _ _)
    · simp at h
  · simp at h
theorem T_cnt : TC T := by
  intro f F h
  rcases List.mem_append.1 (T_mem h) with hm | hm
  · simp only [extL, List.mem_cons, List.not_mem_nil, or_false] at hm
    rcases hm with hm | hm | hm | hm | hm
    · simp only [Prod.mk.injEq, Fe.extI.injEq] at hm
      obtain ⟨_, rfl⟩ := hm
      exact fun xs s r s' h => clone_cnt h
    all_goals simp only [Prod.mk.injEq, reduceCtorEq, and_false] at hm
  · have := List.all_eq_true.1 ck_all _ hm
    simp [okEnt] at this

/-- slices.Clone alone, as code. -/
def T1 (f : Nat) : Option Fe := if f = n_slices_Clone__api_ColumnStat_api_ColumnStat then some I_slices_Clone__api_ColumnStat_api_ColumnStat else none
theorem T1_inl (n : Nat) : InlOK Tryz.prog T1 n := by
  refine (sound (T := T1) ck_mixed ?_ ?_ ?_ ?_ ?_ n).2
  · intro f h
    unfold T1 at h
    split at h
    · rename_i hf; subst hf; exact List.all_eq_true.1 ck_fn (n_slices_Clone__api_ColumnStat_api_ColumnStat, .extI cloneF) (by simp [extL])
    · simp at h
  · intro f nt res body h
    unfold T1 at h
    split at h
    · rename_i hf
      subst hf
      rcases h with h | h
      · simp only [Option.some.injEq, Fe.code.injEq] at h
        obtain ⟨rfl, rfl, rfl⟩ := h
        exact List.all_eq_true.1 ck_all (n_slices_Clone__api_ColumnStat_api_ColumnStat, I_slices_Clone__api_ColumnStat_api_ColumnStat) (by simp [codeL])
      · simp at h
    · simp at h
  · intro f F xs r h
    unfold T1 at h; split at h <;> simp at h
  · intro f F h
    unfold T1 at h; split at h <;> simp at h
  · intro f F xs s r s' h
    unfold T1 at h; split at h <;> simp at h
theorem clone_run (b : Bool) (x : X) (es : List X) (s : Sto) (h : (x :: es).all (fun y => y.cells.length == 5 && y.deep) = true) (hl : (x :: es).length ≤ 3518437208883) :
    callI (run T1) T1 n_slices_Clone__api_ColumnStat_api_ColumnStat [.sl b (x :: es)] s = some (.ref 4005 ((s 4005).g + 2) 5 0 (es.length + 1), newO (newO s 4005 (.row 5 [])) 4005 (.row 5 (x :: es))) := by
  have hk : okE 5 (x :: es) = true := by
    unfold okE
    rw [List.all_eq_true] at h ⊢
    intro y hy
    have := h y hy
    simp only [Bool.and_eq_true] at this ⊢
    exact ⟨this.1, by rw [this.2]; rfl⟩
  obtain ⟨r, hr, hp⟩ := callI_wp (T := T1) (f := n_slices_Clone__api_ColumnStat_api_ColumnStat) (nt := 8) (res := [.tmp 2]) (body := B_slices_Clone__api_ColumnStat_api_ColumnStat) (xs := [.sl b (x :: es)]) (s := s)
    (P := fun r => r = (.ref 4005 ((s 4005).g + 2) 5 0 (es.length + 1), newO (newO s 4005 (.row 5 [])) 4005 (.row 5 (x :: es)))) (by simp [T1]) (by simp) (by
      have hl' : es.length ≤ 3518437208882 := by simpa using hl
      simp [resI, resIX, -okE, hk, hl'])
  rw [hr, hp]
theorem T_inl : ∀ f F xs s r s', T f = some (.extI F) → F xs s = some (r, s') → InlAt Tryz.prog f xs s r s' := by
  intro f F xs s r s' h hr
  rcases List.mem_append.1 (T_mem h) with hm | hm
  · simp only [extL, List.mem_cons, List.not_mem_nil, or_false] at hm
    rcases hm with hm | hm | hm | hm | hm
    · simp only [Prod.mk.injEq, Fe.extI.injEq] at hm
      obtain ⟨rfl, rfl⟩ := hm
      unfold cloneF at hr
      split at hr
      · simp only [Option.some.injEq, Prod.mk.injEq] at hr
        obtain ⟨rfl, rfl⟩ := hr
        rename_i b
        intro w0 sh nt μ fr e a w hI vs hl hv
        obtain ⟨v, rfl⟩ : ∃ v, vs = #[v] := by
          rcases vs with ⟨l⟩
          rcases l with _ | ⟨v, _ | ⟨u, l⟩⟩ <;> simp at hl
          exact ⟨v, rfl⟩
        obtain ⟨ad, c, rfl⟩ : ∃ ad c, v = .slice ad 0 c := by
          have := hv 0 _ v rfl rfl
          cases this with
          | sl0 => exact ⟨_, _, rfl⟩
          | sl val hn hcap hl' hb hk hc hz hr =>
            simp only [List.length_nil] at hn
            subst hn
            exact ⟨_, _, rfl⟩
        have key : Calls Tryz.prog n_slices_Clone__api_ColumnStat_api_ColumnStat #[.slice ad 0 c] w fun e w' => (∃ b, e = .returned (.slice b 0 0)) ∧ Below w.heap.size w w' := by
          cases ad with
          | none => exact clone_nil c w
          | some a => exact clone_empty a c w
        refine key.mono ?_
        rintro e' w' ⟨⟨b', rfl⟩, hb⟩
        obtain ⟨hI', _⟩ := hI.news w' hb fr (fun _ h => h) (fun b hb => .inl hb)
        exact ⟨_, μ, fr, rfl, hI', .nil⟩
      · split at hr
        · rename_i ha
          simp only [Option.some.injEq, Prod.mk.injEq] at hr
          obtain ⟨rfl, rfl⟩ := hr
          obtain ⟨n, hn⟩ := callI_run.1 (clone_run _ _ _ s ha.1 ha.2)
          exact (T1_inl n).1 _ _ _ _ _ hn
        · simp at hr
      · simp at hr
    all_goals simp only [Prod.mk.injEq, reduceCtorEq, and_false] at hm
  · have := List.all_eq_true.1 ck_all _ hm
    simp [okEnt] at this

/-- What the engine says of a call is so. -/
theorem call_ok {f : Nat} {xs : List X} {r : X} (h : call T f xs = some r) : PureAt Tryz.prog f xs r := call_pure ck_mixed T_fn T_code T_ext T_cnt T_inl h
end Go.Proofs.YtoodknhlnifnlaaGreatDoor
