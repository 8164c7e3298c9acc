/- The engine, part V: regions whose order is drawn, carried out. -/
import Derived.Test.YtoodknhlnifnlaaGreatDoorU
set_option linter.all false
set_option linter.unusedVariables false
set_option linter.unusedSimpArgs false
namespace Go.Proofs.YtoodknhlnifnlaaGreatDoor
open Go.RowKit
variable {P : Program}

theorem okGL_get {nt : Nat} {ops : Array Oper} : ∀ {l : List Oper} {gl : List GOp}, okGL P nt ops l gl = true → ∀ (i : Nat) (o : Oper), l[i]? = some o → ∃ g, gl[i]? = some g ∧ okG P nt ops o g = true := by
  intro l
  induction l with
  | nil => intro gl _ i o h; simp at h
  | cons o l ih =>
    intro gl hok i o' h
    cases gl with
    | nil => simp [okGL] at hok
    | cons g gl =>
      simp only [okGL, Bool.and_eq_true] at hok
      cases i with
      | zero => simp at h; subst h; exact ⟨g, rfl, hok.1⟩
      | succ i => simpa using ih hok.2 i o' (by simpa using h)

section
variable {T : Nat → Option Fe} {w0 : Bs} {sh : Nat → Prop} {nt : Nat} {k : List It} {x : Env × Sto} {ops : Array Oper} {gl : List GOp} {p N : Nat} {ch js : List Nat}

/-- One operation that is in turn. -/
theorem op_any (hF : ∀ f, (T f).isSome = true → okFn P f = true) {μ : Nat → Nat} {fr : Nat → Prop} {e : Env} {s : Sto} {a : Act} {w : World} {i : Nat} {o : Oper} {g : GOp} (ho : ops[i]? = some o) (hok : okG P nt ops o g = true)
    (h : Inv w0 sh nt μ fr e s a w) {y : X} {s' : Sto} (hT : ∀ m, m < N → CallOK P T m ∧ InlOK P T m)
    (hs : Did T N g e s y s')
    {K : Act → World → Prop} {Q : Exit → Act → World → Prop} (hK : ∀ a' w' μ' fr', Inv w0 sh nt μ' fr' (put e g.d y) s' a' w' → K a' w') : wpOp P ops Q i K a w := by
  obtain ⟨hd, hdn⟩ := okG_dst hok
  have hop : (okOq P o.op g.op || okCall P o.op g.op) = true := by
    have := hok
    simp only [okG, Bool.and_eq_true] at this
    exact this.2
  unfold wpOp
  simp only [ho]
  rcases hs with ⟨hg, rfl, rfl⟩ | ⟨hg, m, hm, hr⟩
  · rw [if_neg (by rw [okG_guard h hok hg]; simp), hd]
    exact hK _ _ _ _ (h.put hdn (.tup rfl (by simp)))
  · rw [if_pos (okG_guard h hok hg)]
    refine .inl (opW h (hT m hm).1 (hT m hm).2 hF hop hr ?_)
    intro v w' μ' fr' hI hrep _
    rw [hd]
    exact hK _ _ _ _ (hI.put hdn hrep)

theorem d1_spec {i j : Nat} {l : Array Bool} (hi : i ∈ Region.ready .any ops l) (h : d1 ops i j = true) : l.getD j false = true := by
  obtain ⟨_, o, ho, he⟩ := mem_ready.1 hi
  simp only [d1, ho, List.any_eq_true, Bool.and_eq_true, beq_iff_eq] at h
  obtain ⟨e, h1, h2, rfl⟩ := h
  exact he e (by simpa using h1) h2
theorem dd_spec {l : Array Bool} (hdn : ∀ i j, l.getD i false = true → d1 ops i j = true → l.getD j false = true) : ∀ {n i j : Nat}, (∀ j, d1 ops i j = true → l.getD j false = true) → dd ops n i j = true → l.getD j false = true := by
  intro n
  induction n with
  | zero => intro i j hi h; exact hi j h
  | succ n ih =>
    intro i j hi h
    simp only [dd, Bool.or_eq_true] at h
    rcases h with h | h
    · exact hi j h
    · split at h
      case h_2 => simp at h
      rename_i o ho
      simp only [List.any_eq_true, Bool.and_eq_true] at h
      obtain ⟨e, h1, h2, h3⟩ := h
      have hle : l.getD e.on false = true := hi e.on (by
        simp only [d1, ho, List.any_eq_true, Bool.and_eq_true, beq_iff_eq]
        exact ⟨e, h1, h2, rfl⟩)
      exact ih (fun j hj => hdn _ j hle hj) h3
theorem d2_spec {i j : Nat} {l : Array Bool} (hdn : ∀ i j, l.getD i false = true → d1 ops i j = true → l.getD j false = true) (hi : i ∈ Region.ready .any ops l) (h : d2 ops i j = true) : l.getD j false = true :=
  dd_spec hdn (fun j hj => d1_spec hi hj) h
theorem d1_lt (hD : Drawn ops gl p ch js) {i j : Nat} (h : d1 ops i j = true) : j < i := by
  unfold d1 at h
  split at h
  case h_2 => simp at h
  rename_i o ho
  simp only [List.any_eq_true, Bool.and_eq_true, beq_iff_eq] at h
  obtain ⟨e, h1, h2, rfl⟩ := h
  exact hD.edge i o ho e (by simpa using h1) h2

theorem count_set_lt {l : Array Bool} {i F : Nat} (hi : l.getD i true = false) (h : l.count false ≤ F + 1) : (l.setIfInBounds i true).count false ≤ F := by
  have hlt : i < l.size := by
    by_cases hlt : i < l.size
    · exact hlt
    · simp [Array.getD_eq_getD_getElem?, Array.getElem?_eq_none (Nat.le_of_not_lt hlt)] at hi
  have hv : l[i] = false := by simpa [Array.getD_eq_getD_getElem?, Array.getElem?_eq_getElem hlt] using hi
  simp only [Array.setIfInBounds, hlt, dif_pos]
  rw [Array.count_set]
  simp [hv]
  omega
theorem count_pos {l : Array Bool} {i : Nat} (hi : l.getD i true = false) : 0 < l.count false := by
  have hlt : i < l.size := by
    by_cases hlt : i < l.size
    · exact hlt
    · simp [Array.getD_eq_getD_getElem?, Array.getElem?_eq_none (Nat.le_of_not_lt hlt)] at hi
  have hv : l[i] = false := by simpa [Array.getD_eq_getD_getElem?, Array.getElem?_eq_getElem hlt] using hi
  exact Array.count_pos_iff.2 (hv ▸ Array.getElem_mem hlt)
theorem getD_tf {l : Array Bool} {j : Nat} (h : j < l.size) : l.getD j true = l.getD j false := by
  simp [Array.getD_eq_getD_getElem?, Array.getElem?_eq_getElem h]
theorem getD_set {l : Array Bool} {i j : Nat} (hj : j < l.size) : (l.setIfInBounds i true).getD j true = (l.getD j true || decide (i = j)) := by
  by_cases h : i = j
  · subst h; simp [Array.getD_eq_getD_getElem?, hj]
  · simp [Array.getD_eq_getD_getElem?, Array.getElem?_setIfInBounds_ne h, h]

theorem tail_any (hF : ∀ f, (T f).isSome = true → okFn P f = true) (hT : ∀ m, m < N → CallOK P T m ∧ InlOK P T m) (hD : Drawn ops gl p ch js) (hok : okGL P nt ops ops.toList gl = true) : ∀ {F q n : Nat} {l : Array Bool} {μ : Nat → Nat} {fr : Nat → Prop} {e : Env} {s : Sto} {a : Act} {w : World},
    p ≤ q → q ≤ gl.length → l.size = ops.size → l.count false ≤ F → (∀ j, j < gl.length → l.getD j true = decide (j < q)) → n ≤ N → Inv w0 sh nt μ fr e s a w → runN T n (.ops (gl.drop q) :: k) e s = some x →
    wpAny P .any ops (Qk T w0 sh nt N k x) F l a w := by
  intro F
  induction F with
  | zero =>
    intro q n l μ fr e s a w hp hq hl hc hL hn h hr
    have hqe : q = gl.length := by
      by_cases hlt : q < gl.length
      · have := count_pos (l := l) (i := q) (by rw [hL q hlt]; simp)
        omega
      · omega
    subst hqe
    refine ⟨?_, ?_⟩
    · cases hrd : Region.ready .any ops l with
      | nil => rfl
      | cons i r =>
        have hi : i ∈ Region.ready .any ops l := by rw [hrd]; exact List.mem_cons_self
        have := count_pos (mem_ready.1 hi).1
        omega
    · rw [List.drop_length] at hr
      cases n with
      | zero => simp [runN] at hr
      | succ n => exact ⟨n, by omega, μ, fr, e, s, h, by simpa only [runN] using hr⟩
  | succ F ih =>
    intro q n l μ fr e s a w hp hq hl hc hL hn h hr
    by_cases hlt : q < gl.length
    · have hone : ∀ i ∈ Region.ready .any ops l, i = q := by
        intro i hi
        obtain ⟨h0, o, ho, he⟩ := mem_ready.1 hi
        have hil : i < gl.length := by have := (Array.getElem?_eq_some_iff.1 ho).1; have := hD.size; omega
        have hge : q ≤ i := by
          have := hL i hil
          rw [h0] at this
          have := of_decide_eq_false this.symm
          omega
        by_cases heq : i = q
        · exact heq
        · exfalso
          have hlq : l.getD q false = false := by
            rw [← getD_tf (by have := hD.size; omega), hL q hlt]; simp
          have h1 := d2_spec (fun m j h1 h2 => by
            have hm := d1_lt hD h2
            by_cases hml : m < gl.length
            · rw [← getD_tf (by have := hD.size; omega), hL m hml] at h1
              have := of_decide_eq_true h1
              rw [← getD_tf (by have := hD.size; omega), hL j (by omega)]
              simp; omega
            · have : l.size ≤ m := by have := hD.size; omega
              simp [Array.getD_eq_getD_getElem?, Array.getElem?_eq_none this] at h1) hi (hD.tail i q (by omega) hil (by omega))
          rw [hlq] at h1; simp at h1
      have hqr : q ∈ Region.ready .any ops l := by
        have hqs : q < ops.size := by have := hD.size; omega
        refine mem_ready.2 ⟨by rw [hL q hlt]; simp, ops[q], Array.getElem?_eq_getElem hqs, ?_⟩
        intro e he hb
        have := hD.edge q _ (Array.getElem?_eq_getElem hqs) e he hb
        rw [← getD_tf (by have := hD.size; omega), hL e.on (by omega)]
        simpa using this
      refine ⟨fun hnil => by rw [hnil] at hqr; simp at hqr, ?_⟩
      intro i hi
      obtain rfl := hone i hi
      have hqs : i < ops.size := by have := hD.size; omega
      obtain ⟨g, hg, hokg⟩ := okGL_get hok i ops[i] (by simp [hqs])
      rw [List.drop_eq_getElem_cons hlt] at hr
      have hge : gl[i] = g := by simpa [List.getElem?_eq_getElem hlt] using hg
      rw [hge] at hr
      cases n with
      | zero => simp [runN] at hr
      | succ n =>
        simp only [runN] at hr
        have next : ∀ {μ' fr' e' s' a' w'}, Inv w0 sh nt μ' fr' e' s' a' w' → runN T n (.ops (gl.drop (i + 1)) :: k) e' s' = some x → wpAny P .any ops (Qk T w0 sh nt N k x) F (l.setIfInBounds i true) a' w' := by
          intro μ' fr' e' s' a' w' h' hr'
          refine ih (q := i + 1) (by omega) hlt (by simpa using hl) (count_set_lt (by rw [hL i hlt]; simp) hc) ?_ (by omega) h' hr'
          intro j hj
          rw [getD_set (by have := hD.size; omega), hL j hj]
          rw [← Bool.decide_or]
          exact decide_eq_decide.2 (by omega)
        split at hr
        · rename_i hgd
          split at hr
          case h_2 => simp at hr
          rename_i y s' hy
          exact op_any hF (Array.getElem?_eq_getElem hqs) hokg h hT (.inr ⟨hgd, n, by omega, hy⟩) (fun a' w' μ' fr' hI => next hI hr)
        · rename_i hgd
          exact op_any hF (Array.getElem?_eq_getElem hqs) hokg h hT (.inl ⟨hgd, rfl, rfl⟩) (fun a' w' μ' fr' hI => next hI hr)
        · simp at hr
    · have hqe : q = gl.length := by omega
      subst hqe
      have hnone : Region.ready .any ops l = [] := by
        cases hrd : Region.ready .any ops l with
        | nil => rfl
        | cons i r =>
          exfalso
          have hi : i ∈ Region.ready .any ops l := by rw [hrd]; exact List.mem_cons_self
          obtain ⟨h0, o, ho, _⟩ := mem_ready.1 hi
          have hil : i < gl.length := by have := (Array.getElem?_eq_some_iff.1 ho).1; have := hD.size; omega
          rw [hL i hil] at h0
          exact (of_decide_eq_false h0) hil
      refine ⟨fun _ => ?_, fun i hi => by rw [hnone] at hi; simp at hi⟩
      rw [List.drop_length] at hr
      cases n with
      | zero => simp [runN] at hr
      | succ n => exact ⟨n, by omega, μ, fr, e, s, h, by simpa only [runN] using hr⟩

theorem exists_min {p : Nat → Prop} : ∀ {n : Nat}, p n → ∃ m, m ≤ n ∧ p m ∧ ∀ j, j < m → ¬ p j := by
  intro n
  induction n using Nat.strongRecOn with
  | _ n ih =>
    intro h
    by_cases hx : ∃ j, j < n ∧ p j
    · obtain ⟨j, h1, h2⟩ := hx
      obtain ⟨m, h3, h4⟩ := ih j h1 h2
      exact ⟨m, by omega, h4⟩
    · exact ⟨n, Nat.le_refl _, h, fun j hj hp => hx ⟨j, hj, hp⟩⟩

/-! ### the variables when some operations have been carried out -/
open Classical in
noncomputable def SL (ss : Nat → Sto) (L : Nat → Prop) : Nat → Sto
  | 0 => ss 0
  | i + 1 => fun o => if L i ∧ ss (i + 1) o ≠ ss i o then ss (i + 1) o else SL ss L i o
theorem SL_agree {ss : Nat → Sto} {L : Nat → Prop} {o i : Nat} : ∀ {q : Nat}, (∀ j, j < q → ss (j + 1) o ≠ ss j o → (L j ↔ j < i)) → SL ss L q o = ss (min q i) o := by
  intro q
  induction q with
  | zero => intro _; simp [SL]
  | succ q ih =>
    intro h
    have ih := ih (fun j hj => h j (by omega))
    simp only [SL]
    by_cases hc : L q ∧ ss (q + 1) o ≠ ss q o
    · rw [if_pos hc]
      have := (h q (by omega) hc.2).1 hc.1
      rw [show min (q + 1) i = q + 1 by omega]
    · rw [if_neg hc, ih]
      by_cases hqi : q < i
      · rw [show min q i = q by omega, show min (q + 1) i = q + 1 by omega]
        by_cases he : ss (q + 1) o = ss q o
        · exact he.symm
        · exact absurd ⟨(h q (by omega) he).2 hqi, he⟩ hc
      · rw [show min q i = i by omega, show min (q + 1) i = i by omega]
theorem SL_same {ss : Nat → Sto} {L L' : Nat → Prop} {o : Nat} : ∀ {q : Nat}, (∀ j, j < q → ss (j + 1) o ≠ ss j o → (L j ↔ L' j)) → SL ss L q o = SL ss L' q o := by
  intro q
  induction q with
  | zero => intro _; rfl
  | succ q ih =>
    intro h
    have ih := ih (fun j hj => h j (by omega))
    simp only [SL]
    by_cases he : ss (q + 1) o = ss q o
    · simp [he, ih]
    · have h1 := h q (by omega) he
      by_cases hL : L q
      · rw [if_pos ⟨hL, he⟩, if_pos ⟨h1.1 hL, he⟩]
      · rw [if_neg (fun h => hL h.1), if_neg (fun h => hL (h1.2 h.1)), ih]

theorem cnt_steps {ss : Nat → Sto} {p : Nat} (h : ∀ i, i < p → Cnt (ss i) (ss (i + 1))) {o : Nat} (he : (ss p o).n = (ss 0 o).n) : ∀ i, i ≤ p → ss i o = ss 0 o := by
  have mono : ∀ (i d : Nat), i + d ≤ p → (ss i o).n ≤ (ss (i + d) o).n := by
    intro i d
    induction d with
    | zero => intro _; exact Nat.le_refl _
    | succ d ih =>
      intro hd
      have h1 := ih (by omega)
      rcases h (i + d) (by omega) o with h2 | h2
      · rw [show i + (d + 1) = i + d + 1 by omega, h2]; exact h1
      · rw [show i + (d + 1) = i + d + 1 by omega]; omega
  intro i
  induction i with
  | zero => intro _; rfl
  | succ i ih =>
    intro hi
    have ih := ih (by omega)
    rcases h i (by omega) o with h2 | h2
    · rw [h2, ih]
    · exfalso
      have h3 := mono (i + 1) (p - (i + 1)) (by omega)
      rw [show i + 1 + (p - (i + 1)) = p by omega] at h3
      rw [ih] at h2
      omega

theorem sameV_eq {x y : X} (h : sameV x y = true) : x = y := by
  unfold sameV at h
  split at h
  · simp only [Bool.and_eq_true, beq_iff_eq] at h; obtain ⟨rfl, rfl⟩ := h; rfl
  · simp only [beq_iff_eq] at h; rw [h]
  · simp at h
theorem opR_noCall {r : List It → Env → Sto → Option (Env × Sto)} {op : IOp} {e : Env} {s : Sto} (h : noCall op = true) : opR r T op e s = stepO op e s := by
  cases op <;> first | rfl | (simp [noCall] at h; done)
theorem cls_still {op : IOp} (h : cls op = 0) : stillG op = true := by
  cases op <;> simp only [cls] at h <;> first | (simp at h; done) | (split at h <;> first | assumption | (simp at h; done))
theorem Did.cnt (hC : TC T) {g : GOp} {e : Env} {s s' : Sto} {y : X} (h : Did T N g e s y s') : Cnt s s' := by
  rcases h with ⟨_, _, rfl⟩ | ⟨_, m, _, h⟩
  · exact Cnt.refl _
  · exact opR_cnt (fun its e s x hx => runN_cnt T hC m its e s x hx) hC h
theorem Did.still {g : GOp} {e : Env} {s s' : Sto} {y : X} (h : Did T N g e s y s') (hc : cls g.op = 0) : s' = s := by
  rcases h with ⟨_, _, rfl⟩ | ⟨_, m, _, h⟩
  · rfl
  · exact stillG_same (cls_still hc) h
theorem Did.box {g : GOp} {e : Env} {s s' : Sto} {y : X} (h : Did T N g e s y s') (hc : cls g.op = 1) : ∃ q, boxN g.op = some q ∧ (∀ o, o ≠ q → s' o = s o) ∧
    ∀ s2 : Sto, s2 q = s q → Did T N g e s2 y (fun o => if o = q then s' q else s2 o) := by
  obtain ⟨d, gg, op⟩ := g
  cases op
  case box q a =>
    refine ⟨q, rfl, ?_, ?_⟩
    · intro o ho
      rcases h with ⟨_, _, rfl⟩ | ⟨_, m, _, h⟩
      · rfl
      · simp only [opR, stepO] at h
        split at h
        · simp only [Option.some.injEq, Prod.mk.injEq] at h
          obtain ⟨_, rfl⟩ := h
          simp [newO, upd, ho]
        · simp at h
    · intro s2 hs2
      rcases h with ⟨h1, h2, rfl⟩ | ⟨h1, m, hm, h⟩
      · refine .inl ⟨h1, h2, ?_⟩
        funext o
        by_cases ho : o = q
        · subst ho; simp [hs2]
        · simp [ho]
      · refine .inr ⟨h1, m, hm, ?_⟩
        simp only [opR, stepO] at h ⊢
        split at h
        · rename_i hc
          rw [if_pos hc]
          simp only [Option.some.injEq, Prod.mk.injEq] at h
          obtain ⟨rfl, rfl⟩ := h
          rw [hs2]
          simp only [Option.some.injEq, Prod.mk.injEq, true_and]
          funext o
          by_cases ho : o = q
          · subst ho; simp [newO, upd, hs2]
          · simp [newO, upd, ho]
        · simp at h
  all_goals (simp only [cls] at hc; split at hc <;> simp at hc)

theorem draw_any (hC : TC T) (hF : ∀ f, (T f).isSome = true → okFn P f = true) (hT : ∀ m, m < N → CallOK P T m ∧ InlOK P T m) (hD : Drawn ops gl p ch js) (hok : okGL P nt ops ops.toList gl = true) {e : Env} {xs : Nat → X} {ss : Nat → Sto}
    (hxs : ∀ i g, i < p → gl[i]? = some g → Did T N g (envL e gl xs (· < i)) (ss i) (xs i) (ss (i + 1)))
    (hch : ∀ t ∈ ch, ∀ o ∈ nmA (envL e gl xs (· < p) t), (ss p o).n = (ss 0 o).n)
    (hjs : ∀ j g d, j ∈ js → j < p → gl[j]? = some g → g.d = some d → ∃ x y s1 s2, stepO g.op (envL e gl xs (· < p)) (ss 0) = some (x, s1) ∧ stepO g.op (envL e gl xs (· < p)) (ss p) = some (y, s2) ∧ x = envL e gl xs (· < p) d ∧ y = envL e gl xs (· < p) d)
    {n : Nat} (hn : n ≤ N) (hr : runN T n (.ops (gl.drop p) :: k) (envL e gl xs (· < p)) (ss p) = some x) :
    ∀ {F : Nat} {l : Array Bool} {μ : Nat → Nat} {fr : Nat → Prop} {a : Act} {w : World}, l.size = ops.size → l.count false ≤ F → (∀ j, j < gl.length → l.getD j true = true → j < p) →
    (∀ i j, l.getD i false = true → d1 ops i j = true → l.getD j false = true) → Inv w0 sh nt μ fr (envL e gl xs (fun j => l.getD j true = true)) (SL ss (fun j => l.getD j true = true) p) a w → wpAny P .any ops (Qk T w0 sh nt N k x) F l a w := by
  have hple := hD.le
  have hsz := hD.size
  have hcnt : ∀ i, i < p → Cnt (ss i) (ss (i + 1)) := fun i hi => (hxs i gl[i] hi (List.getElem?_eq_getElem (by omega))).cnt hC
  have hall' : ∀ {L : Nat → Prop}, (∀ j, j < p → L j) → SL ss L p = ss p := by
    intro L hL
    funext o
    rw [SL_agree (i := p) (fun j hj _ => ⟨fun _ => hj, fun _ => hL j hj⟩), Nat.min_self]
  intro F
  induction F with
  | zero =>
    intro l μ fr a w hl hc hlt hdn h
    have hall : ∀ j, j < gl.length → l.getD j true = true := by
      intro j hj
      cases hq : l.getD j true with
      | true => rfl
      | false => have := count_pos hq; omega
    refine tail_any hF hT hD hok (μ := μ) (fr := fr) (q := p) (Nat.le_refl _) hD.le hl hc ?_ hn ?_ hr
    · intro j hj
      rw [hall j hj]
      exact (decide_eq_true (hlt j hj (hall j hj))).symm
    · rw [envL_ext (L' := fun j => l.getD j true = true) (fun j hj => by rw [hall j hj]; simp [hlt j hj (hall j hj)]) hD, ← hall' (L := fun j => l.getD j true = true) (fun j hj => hall j (by omega))]
      exact h
  | succ F ih =>
    intro l μ fr a w hl hc hlt hdn h
    by_cases hall : ∀ j, j < p → l.getD j true = true
    · refine tail_any hF hT hD hok (μ := μ) (fr := fr) (q := p) (Nat.le_refl _) hD.le hl hc ?_ hn ?_ hr
      · intro j hj
        by_cases hjp : j < p
        · rw [hall j hjp]; simp [hjp]
        · cases hq : l.getD j true with
          | true => exact absurd (hlt j hj hq) hjp
          | false => simp [hjp]
      · rw [envL_ext (L' := fun j => l.getD j true = true) (fun j hj => ⟨fun h1 => hall j h1, hlt j hj⟩) hD, ← hall' (L := fun j => l.getD j true = true) hall]
        exact h
    · obtain ⟨j0, hj0⟩ := Classical.not_forall.1 hall
      obtain ⟨hj0, hj0u⟩ := Classical.not_imp.1 hj0
      have hj0u : l.getD j0 true = false := by simpa using hj0u
      obtain ⟨j, hjle, hju, hjmin⟩ := exists_min (p := fun j => l.getD j true = false) hj0u
      have hjp : j < p := by omega
      have hready : j ∈ Region.ready .any ops l := by
        have hjs : j < ops.size := by omega
        refine mem_ready.2 ⟨hju, ops[j], Array.getElem?_eq_getElem hjs, ?_⟩
        intro e he hb
        have h1 := hD.edge j _ (Array.getElem?_eq_getElem hjs) e he hb
        rw [← getD_tf (by omega)]
        simpa using hjmin e.on h1
      refine ⟨fun hnil => by rw [hnil] at hready; simp at hready, ?_⟩
      intro i hi
      obtain ⟨h0, o, ho, he⟩ := mem_ready.1 hi
      have his := (Array.getElem?_eq_some_iff.1 ho).1
      have hd2 : ∀ j, d2 ops i j = true → l.getD j false = true := fun j hj => d2_spec hdn hi hj
      have hd2' : ∀ j, j < p → d2 ops i j = true → l.getD j true = true := fun j hj h => by rw [getD_tf (by omega)]; exact hd2 j h
      have hd3 : ∀ j, j < p → d2 ops j i = true → ¬ l.getD j true = true := by
        intro j hj h1 h2
        have h3 : l.getD i false = true := dd_spec hdn (fun q hq => hdn j q (by rw [← getD_tf (by omega)]; exact h2) hq) h1
        rw [← getD_tf (by omega), h0] at h3
        simp at h3
      have hip : i < p := by
        by_cases hip : i < p
        · exact hip
        · have := hd2 j (hD.tail i j (by omega) (by omega) (by omega))
          rw [← getD_tf (by omega), hju] at this
          simp at this
      obtain ⟨g, hg, hokg⟩ := okGL_get hok i o (by simpa using ho)
      have hrd : ∀ t ∈ g.rd, envL e gl xs (fun j => l.getD j true = true) t = envL e gl xs (· < i) t := by
        intro t ht
        refine envL_congr (fun j hj hjt => ?_) hD
        by_cases hji : j = i
        · subst hji; simp [h0]
        by_cases hjp' : j < p
        case neg => exact ⟨fun hq => absurd (hlt j hj hq) hjp', fun hq => by omega⟩
        · rcases hD.reads i g t j hip hg ht hjp' hji hjt with ⟨h1, h2⟩ | ⟨h1, h2⟩
          · have := hd2 j h2
            rw [← getD_tf (by omega)] at this
            simp [this, h1]
          · exact ⟨fun hq => absurd hq (hd3 j hjp' h2), fun hq => by omega⟩
      have hrdp : (∀ t ∈ g.rd, ∀ q, q < p → gdst gl q = some t → q < i) → ∀ t ∈ g.rd, envL e gl xs (· < p) t = envL e gl xs (· < i) t := by
        intro hlate t ht
        exact envL_congr (fun j hj hjt => ⟨fun hq => hlate t ht j hq hjt, fun hq => by omega⟩) hD
      have hsub : ∀ n ∈ g.op.rd, n ∈ g.rd := fun n hn => List.mem_append_left _ hn
      -- what the operation does now
      have hdid : Did T N g (envL e gl xs (fun j => l.getD j true = true)) (SL ss (fun j => l.getD j true = true) p) (xs i) (SL ss (fun j => l.getD j true = true ∨ j = i) p) := by
        have hx := hxs i g hip hg
        have tr : ∀ {s y s'}, Did T N g (envL e gl xs (· < i)) s y s' → Did T N g (envL e gl xs (fun j => l.getD j true = true)) s y s' := by
          intro s y s' hd
          rcases hd with ⟨h1, h2, h3⟩ | ⟨h1, m, hm, h2⟩
          · exact .inl ⟨by rw [gd_congr hrd]; exact h1, h2, h3⟩
          · exact .inr ⟨by rw [gd_congr hrd]; exact h1, m, hm, by rw [opR_congr (fun n hn => hrd n (hsub n hn))]; exact h2⟩
        refine tr ?_
        have wr : ∀ j o, j < p → ss (j + 1) o ≠ ss j o → ∃ gj, gl[j]? = some gj ∧ cls gj.op ≠ 0 := by
          intro j o hj hne
          have hgj : gl[j]? = some gl[j] := List.getElem?_eq_getElem (by omega)
          refine ⟨_, hgj, fun h0 => hne ?_⟩
          rw [(hxs j _ hj hgj).still h0]
        have ordL : ∀ j, j < p → j ≠ i → (j < i ∧ d2 ops i j = true) ∨ (i < j ∧ d2 ops j i = true) → (l.getD j true = true ↔ j < i) := by
          intro j hj hne ho
          rcases ho with ⟨h1, h2⟩ | ⟨h1, h2⟩
          · exact ⟨fun _ => h1, fun _ => hd2' j hj h2⟩
          · exact ⟨fun h => absurd h (hd3 j hj h2), fun h => by omega⟩
        by_cases c0 : cls g.op = 0
        · -- still: nothing changes
          have hs1 : ss (i + 1) = ss i := hx.still c0
          have hSL : SL ss (fun j => l.getD j true = true ∨ j = i) p = SL ss (fun j => l.getD j true = true) p := by
            funext o
            refine SL_same fun j hj hne => ⟨fun h => h.elim id fun h => ?_, .inl⟩
            subst h; exact absurd (by rw [hs1]) hne
          rw [hSL]
          rcases hx with ⟨h1, h2, h3⟩ | ⟨h1, m, hm, h2⟩
          · exact .inl ⟨h1, h2, rfl⟩
          refine .inr ⟨h1, m, hm, ?_⟩
          rw [hs1] at h2
          have hst := cls_still c0
          have loc : (∀ a ∈ g.op.ars, ∀ q ∈ nmA (a.ev (envL e gl xs (· < i))), SL ss (fun j => l.getD j true = true) p q = ss i q) → opR (runN T m) T g.op (envL e gl xs (· < i)) (SL ss (fun j => l.getD j true = true) p) = some (xs i, SL ss (fun j => l.getD j true = true) p) :=
            fun hl => opR_local hst hl h2
          by_cases hun : ∃ j gj, j < p ∧ j ≠ i ∧ gl[j]? = some gj ∧ cls gj.op ≠ 0 ∧ ¬ ((j < i ∧ d2 ops i j = true) ∨ (i < j ∧ d2 ops j i = true))
          · obtain ⟨j, gj, hj, hne, hgj, hcj, hno⟩ := hun
            rcases hD.sep j i gj g hj hip (Ne.symm hne) hgj hg hcj with h3 | h3 | ⟨_, h3⟩
            · exact absurd (h3.symm) hno
            · have := h3.1; omega
            rcases h3 with h3 | ⟨hlate, h3 | ⟨hjm, hgg, ⟨d, hd⟩, hnc, hone⟩⟩
            · have hnc : noCall g.op = true := by cases hgo : g.op <;> simp [hgo, freeI] at h3 <;> simp [noCall]
              rw [opR_noCall hnc] at h2 ⊢
              exact stepO_free h3 h2
            · refine loc fun a ha q hq => ?_
              cases a with
              | k y =>
                have := hD.kst i g hip hg _ ha
                simp only [arK, List.isEmpty_iff] at this
                simp only [Ar.ev] at hq
                rw [this] at hq
                simp at hq
              | t z =>
                have hz : z ∈ g.op.rd := List.mem_flatMap.2 ⟨_, ha, by simp [Ar.sl]⟩
                simp only [Ar.ev] at hq
                rw [← hrdp hlate z (hsub z hz)] at hq
                have hun := cnt_steps hcnt (hch z (h3 z hz) q hq)
                rw [SL_agree (i := i) (fun j hj hne => absurd ((hun (j + 1) (by omega)).trans (hun j (by omega)).symm) hne), show min p i = i by omega]
            · -- looked up again
              rw [opR_noCall hnc] at h2 ⊢
              obtain ⟨x1, x2, s1, s2, e1, e2, e3, e4⟩ := hjs i g d hjm hip hg hd
              have hxi : envL e gl xs (· < p) d = xs i := envL_at (L := (· < p)) hD hip (by omega) (by rw [gdst_get hg, hd])
              have hcg : ∀ s, stepO g.op (envL e gl xs (· < p)) s = stepO g.op (envL e gl xs (· < i)) s := fun s => stepO_congr (rd_ars fun n hn => hrdp hlate n (hsub n hn))
              have hsti : stillI g.op = true := by
                have := hst
                cases hgo : g.op <;> simp [hgo, noCall] at hnc <;> simpa [hgo, stillG] using this
              rw [hcg] at e1 e2
              rw [e3, hxi] at e1
              rw [e4, hxi] at e2
              have only : ∀ q o, q < p → ss (q + 1) o ≠ ss q o → q = j := by
                intro q o hq hne
                obtain ⟨gq, hgq, hcq⟩ := wr q o hq hne
                by_cases hqj : q = j
                · exact hqj
                · exact absurd (hone q gq hq hgq hqj) hcq
              by_cases hLj : l.getD j true = true
              · have : SL ss (fun j => l.getD j true = true) p = ss p := by
                  funext o
                  rw [SL_agree (i := p) (fun q hq hne => by rw [only q o hq hne]; simp [hLj, hj]), Nat.min_self]
                rw [this, e2, still_same hsti e2]
              · have : SL ss (fun j => l.getD j true = true) p = ss 0 := by
                  funext o
                  rw [SL_agree (i := 0) (fun q hq hne => by rw [only q o hq hne]; simp [hLj]), Nat.min_zero]
                rw [this, e1, still_same hsti e1]
          · have : SL ss (fun j => l.getD j true = true) p = ss i := by
              funext o
              rw [SL_agree (i := i) (fun j hj hne => ?_), show min p i = i by omega]
              obtain ⟨gj, hgj, hcj⟩ := wr j o hj hne
              by_cases hji : j = i
              · subst hji; exact absurd (by rw [hs1]) hne
              · refine ordL j hj hji ?_
                exact Classical.byContradiction fun hno => hun ⟨j, gj, hj, hji, hgj, hcj, hno⟩
            rw [this]
            exact h2
        · have sepW : ∀ j gj, j < p → j ≠ i → gl[j]? = some gj → cls gj.op ≠ 0 → ((j < i ∧ d2 ops i j = true) ∨ (i < j ∧ d2 ops j i = true)) ∨ (cls gj.op = 1 ∧ cls g.op = 1 ∧ boxN g.op ≠ boxN gj.op) := by
            intro j gj hj hne hgj hcj
            rcases hD.sep i j g gj hip hj hne hg hgj c0 with h3 | h3 | ⟨h3, _⟩
            · exact .inl h3
            · exact .inr h3
            · exact absurd h3 hcj
          by_cases c1 : cls g.op = 1
          · obtain ⟨q, hq, hkeep, hbox⟩ := hx.box c1
            have atq : ∀ j, j < p → ss (j + 1) q ≠ ss j q → j ≠ i → (l.getD j true = true ↔ j < i) := by
              intro j hj hne hji
              obtain ⟨gj, hgj, hcj⟩ := wr j q hj hne
              rcases sepW j gj hj hji hgj hcj with h3 | ⟨h3, _, h4⟩
              · exact ordL j hj hji h3
              · obtain ⟨q', hq', hk', _⟩ := (hxs j gj hj hgj).box h3
                by_cases hqq : q = q'
                · subst hqq; exact absurd (hq.trans hq'.symm) h4
                · exact absurd (hk' q hqq) hne
            have e1 : SL ss (fun j => l.getD j true = true) p q = ss i q := by
              rw [SL_agree (i := i) (fun j hj hne => ?_), show min p i = i by omega]
              by_cases hji : j = i
              · subst hji; simp [h0]
              · exact atq j hj hne hji
            have e2 : SL ss (fun j => l.getD j true = true ∨ j = i) p q = ss (i + 1) q := by
              rw [SL_agree (i := i + 1) (fun j hj hne => ?_), show min p (i + 1) = i + 1 by omega]
              by_cases hji : j = i
              · subst hji; exact ⟨fun _ => by omega, fun _ => .inr rfl⟩
              · have := atq j hj hne hji
                simp only [hji, or_false]
                rw [this]; omega
            have e3 : (fun o => if o = q then ss (i + 1) q else SL ss (fun j => l.getD j true = true) p o) = SL ss (fun j => l.getD j true = true ∨ j = i) p := by
              funext o
              by_cases hoq : o = q
              · subst hoq; simp only [if_true]; exact e2.symm
              · simp only [hoq, if_false]
                refine SL_same fun j hj hne => ⟨.inl, fun h => h.elim id fun h => ?_⟩
                subst h; exact absurd (hkeep o hoq) hne
            rw [← e3]
            exact hbox _ e1
          · have atA : ∀ o j, j < p → ss (j + 1) o ≠ ss j o → j ≠ i → (l.getD j true = true ↔ j < i) := by
              intro o j hj hne hji
              obtain ⟨gj, hgj, hcj⟩ := wr j o hj hne
              rcases sepW j gj hj hji hgj hcj with h3 | ⟨_, h4, _⟩
              · exact ordL j hj hji h3
              · exact absurd h4 c1
            have e1 : SL ss (fun j => l.getD j true = true) p = ss i := by
              funext o
              rw [SL_agree (i := i) (fun j hj hne => ?_), show min p i = i by omega]
              by_cases hji : j = i
              · subst hji; simp [h0]
              · exact atA o j hj hne hji
            have e2 : SL ss (fun j => l.getD j true = true ∨ j = i) p = ss (i + 1) := by
              funext o
              rw [SL_agree (i := i + 1) (fun j hj hne => ?_), show min p (i + 1) = i + 1 by omega]
              by_cases hji : j = i
              · subst hji; exact ⟨fun _ => by omega, fun _ => .inr rfl⟩
              · have := atA o j hj hne hji
                simp only [hji, or_false]
                rw [this]; omega
            rw [e1, e2]
            exact hx
      refine op_any hF ho hokg h hT hdid ?_
      intro a' w' μ' fr' hI
      have hLL : ∀ j, j < gl.length → ((l.setIfInBounds i true).getD j true = true ↔ (l.getD j true = true ∨ j = i)) := by
        intro j hj
        rw [getD_set (by omega)]
        simp only [Bool.or_eq_true, decide_eq_true_eq]
        exact or_congr Iff.rfl eq_comm
      refine ih (μ := μ') (fr := fr') (by simpa using hl) (count_set_lt h0 hc) ?_ ?_ ?_
      · intro j' hj' hq
        rcases (hLL j' hj').1 hq with hq | rfl
        · exact hlt j' hj' hq
        · exact hip
      · intro i' j' h1 h2
        have hj' : j' < i' := d1_lt hD h2
        have hi's : i' < l.size := by
          by_cases hq : i' < l.size
          · exact hq
          · have : (l.setIfInBounds i true).size ≤ i' := by rw [Array.size_setIfInBounds]; omega
            simp [Array.getD_eq_getD_getElem?, Array.getElem?_eq_none this] at h1
        rw [← getD_tf (by rw [Array.size_setIfInBounds]; omega), getD_set (by omega)] at h1
        rw [← getD_tf (by rw [Array.size_setIfInBounds]; omega), getD_set (by omega)]
        simp only [Bool.or_eq_true, decide_eq_true_eq] at h1 ⊢
        left
        rw [getD_tf (by omega)]
        rcases h1 with h1 | rfl
        · rw [getD_tf (by omega)] at h1
          exact hdn i' j' h1 h2
        · exact d1_spec hi h2
      · rw [envL_ext (L' := fun j => l.getD j true = true ∨ j = i) hLL hD]
        rw [← envL_put hD (by omega) (by simp [h0])]
        rw [gdst_get hg]
        have : SL ss (fun j => (l.setIfInBounds i true).getD j true = true) p = SL ss (fun j => l.getD j true = true ∨ j = i) p := by
          funext q
          exact SL_same fun j hj _ => hLL j (by omega)
        rw [this]
        exact hI
end
end Go.Proofs.YtoodknhlnifnlaaGreatDoor
