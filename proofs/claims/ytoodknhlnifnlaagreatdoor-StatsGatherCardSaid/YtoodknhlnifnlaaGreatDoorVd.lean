/- Data: references that hold, rows that fit. -/
import Derived.Test.YtoodknhlnifnlaaGreatDoorVc
set_option linter.all false
set_option linter.unusedVariables false
set_option linter.unusedSimpArgs false
set_option maxRecDepth 100000
namespace Go.Proofs.YtoodknhlnifnlaaGreatDoor
open Go.RowKit
theorem setV_same (z : X) (es : List Tup) (m : Nat) : setV (es.map (tupE z)) m z = es.map (tupE z) := by
  unfold setV
  apply List.ext_getElem (by simp)
  intro n h1 h2
  rw [List.getElem_modify]
  split
  · simp
  · rfl
/-- Each row without null in some columns has a row of the other table. -/
def RefHolds (rows : List (List Val)) (cols : List Int) (others : List (List Val)) (key : List Int) : Prop :=
  ∀ (i : Nat) (h : i < rows.length), FullR rows[i] cols → ∃ (j : Nat) (h' : j < others.length), (valsAt rows[i] cols).map Val.key = (valsAt others[j] key).map Val.key
theorem key_kind {a b : Val} (h : a.key = b.key) : a.kind = b.kind := by simp only [Val.key, Prod.mk.injEq] at h; exact h.1
theorem match_aux {row other : List Val} : ∀ {cols key : List Int} (p q : List Val), FullR row cols → cols.length = key.length → (valsAt row cols ++ p).map Val.key = (pickL other key ++ q).map Val.key → pickL other key = valsAt other key ∧ (valsAt row cols).map Val.key = (valsAt other key).map Val.key
  | [], [], p, q, _, _, _ => ⟨rfl, rfl⟩
  | c :: cols, k :: key, p, q, hf, hl, he => by
    have hc := hf c (by simp)
    have e2 : ∀ r x xs, valsAt r (x :: xs) = cellAt r x :: valsAt r xs := fun _ _ _ => rfl
    by_cases h0 : (cellAt other k).kind = 0
    · have e1 : pickL other (k :: key) = [cellAt other k] := by simp [pickL, h0]
      rw [e1, e2] at he
      simp only [List.cons_append, List.map_cons, List.cons.injEq] at he
      exact absurd ((key_kind he.1).trans h0) hc
    · have e1 : pickL other (k :: key) = cellAt other k :: pickL other key := by simp [pickL, h0]
      rw [e1, e2] at he
      simp only [List.cons_append, List.map_cons, List.cons.injEq] at he
      have := match_aux p q (fun x hx => hf x (by simp [hx])) (by simpa using hl) he.2
      rw [e1, e2, e2, this.1]
      exact ⟨rfl, by rw [List.map_cons, List.map_cons, he.1, this.2]⟩
  | [], _ :: _, _, _, _, hl, _ => by simp at hl
  | _ :: _, [], _, _, _, hl, _ => by simp at hl
theorem tup_match {row other : List Val} {cols key : List Int} (hf : FullR row cols) (hl : cols.length = key.length) :
    tupSame (pad8 (valsAt row cols)) (pad8 (pickL other key)) = true ↔ (valsAt row cols).map Val.key = (valsAt other key).map Val.key := by
  constructor
  · intro h
    simp only [tupSame, decide_eq_true_eq, pad8] at h
    exact (match_aux (List.replicate (8 - (valsAt row cols).length) v00) (List.replicate (8 - (pickL other key).length) v00) hf hl (of_decide_eq_true h)).2
  · intro h
    have hfo : FullR other key := by
      intro k hk
      obtain ⟨j, hj, rfl⟩ := List.getElem_of_mem hk
      have h1 := congrArg (fun l => l[j]?) h
      have hjc : j < cols.length := by omega
      simp [valsAt, hj, hjc] at h1
      rw [← key_kind h1]
      exact hf _ (List.getElem_mem hjc)
    rw [(pickL_full hfo).1]
    exact (pad8_inj (by simp [hl, valsAt])).2 h
/-- What is known of the other table's rows. -/
structure Known (others : List (List Val)) (k : List Int) (i : Nat) (es : List Tup) : Prop where
  all : ∀ (j : Nat) (h : j < others.length), j < i → ∃ b ∈ es, tupSame (pad8 (pickL others[j] k)) b.l = true
  only : ∀ b ∈ es, ∃ (j : Nat) (h : j < others.length), b.l = pad8 (pickL others[j] k)
theorem Known.nil (others : List (List Val)) (k : List Int) : Known others k 0 [] := ⟨fun j h h' => by omega, by simp⟩
theorem Known.add {others : List (List Val)} {k : List Int} {i : Nat} {es : List Tup} (h : Known others k i es) (hi : i < others.length) (b : Tup) (hb : b.l = pad8 (pickL others[i] k)) : Known others k (i + 1) (es ++ [b]) := by
  refine ⟨fun j hj hji => ?_, fun c hc => ?_⟩
  · rcases Nat.lt_or_eq_of_le (Nat.le_of_lt_succ hji) with h4 | h4
    · obtain ⟨c, hc, h5⟩ := h.all j hj h4
      exact ⟨c, by simp [hc], h5⟩
    · subst h4
      exact ⟨b, by simp, by rw [hb]; simp [tupSame]⟩
  · rcases List.mem_append.1 hc with hc | hc
    · exact h.only c hc
    · simp at hc; subst hc
      exact ⟨i, hi, hb⟩
theorem Known.old {others : List (List Val)} {k : List Int} {i : Nat} {es : List Tup} (h : Known others k i es) (hi : i < others.length) (c : Tup) (hc : c ∈ es) (hb : tupSame (pad8 (pickL others[i] k)) c.l = true) : Known others k (i + 1) es := by
  refine ⟨fun j hj hji => ?_, h.only⟩
  rcases Nat.lt_or_eq_of_le (Nat.le_of_lt_succ hji) with h4 | h4
  · exact h.all j hj h4
  · subst h4; exact ⟨c, hc, hb⟩
theorem tupSame_symm {a b c : List Val} (h : tupSame a b = true) (k : tupSame c b = true) : tupSame c a = true := by
  simp only [tupSame, decide_eq_true_eq] at *; rw [h, k]
theorem tupSame_trans {a b c : List Val} (h : tupSame a b = true) (k : tupSame b c = true) : tupSame a c = true := by
  simp only [tupSame, decide_eq_true_eq] at *; rw [h, k]
theorem Known.found {others : List (List Val)} {k cols : List Int} {es : List Tup} {row : List Val} (h : Known others k others.length es) (hf : FullR row cols) (hl : cols.length = k.length) (c : Tup) (hc : c ∈ es) (hb : tupSame (pad8 (valsAt row cols)) c.l = true) :
    ∃ (j : Nat) (h' : j < others.length), (valsAt row cols).map Val.key = (valsAt others[j] k).map Val.key := by
  obtain ⟨j, hj, h1⟩ := h.only c hc
  rw [h1] at hb
  exact ⟨j, hj, (tup_match hf hl).1 hb⟩
theorem Known.none {others : List (List Val)} {k cols : List Int} {es : List Tup} {row : List Val} (h : Known others k others.length es) (hf : FullR row cols) (hl : cols.length = k.length) (hb : ∀ c ∈ es, tupSame (pad8 (valsAt row cols)) c.l = false) :
    ¬ ∃ (j : Nat) (h' : j < others.length), (valsAt row cols).map Val.key = (valsAt others[j] k).map Val.key := by
  rintro ⟨j, hj, he⟩
  obtain ⟨c, hc, h1⟩ := h.all j hj hj
  have := tupSame_trans ((tup_match hf hl).2 he) h1
  rw [hb c hc] at this
  simp at this
def tab0 : TabD := ⟨⟨#[]⟩, [], [], [], []⟩
def rowsOf (d : List (List (List Val))) (j : Int) : List (List Val) := d.getD j.toNat []
def tabOf (s : List TabD) (j : Int) : TabD := s.getD j.toNat tab0
def keyOf (s : List TabD) (r : RefD) : List Int := (tabOf s r.table).keys.getD r.key.toNat []
def RefsHold (s : List TabD) (d : List (List (List Val))) (n : Nat) : Prop := ∀ r ∈ (tabOf s n).refs, RefHolds (rowsOf d n) r.cols (rowsOf d r.table) (keyOf s r)
abbrev dataX (rows : List (List Val)) : X := .sl false (rows.map rowX)
@[simp] theorem deepL_data (l : List (List (List Val))) : deepL (l.map dataX) = true := deepL_map (by simp) l
@[simp] theorem shrL_data (l : List (List (List Val))) : shrL (l.map dataX) = l.map dataX := shrL_map (by simp) l
/-- What must be known of a reference, so that it can be followed. -/
structure RefGo (s : List TabD) (d : List (List (List Val))) (n : Nat) (r : RefD) : Prop where
  tab : 0 ≤ r.table ∧ r.table < s.length ∧ r.table < d.length
  key : 0 ≤ r.key ∧ r.key < (tabOf s r.table).keys.length
  len : r.cols.length = (keyOf s r).length ∧ r.cols.length ≤ 8
  cols : ∀ row ∈ rowsOf d n, ∀ c ∈ r.cols, 0 ≤ c ∧ c < (row.length : Int)
  kcols : ∀ row ∈ rowsOf d r.table, ∀ c ∈ keyOf s r, 0 ≤ c ∧ c < (row.length : Int)
set_option maxHeartbeats 8000000 in
theorem c_scheme_refsHold (s : List TabD) (d : List (List (List Val))) (n : Nat) (hn : n < s.length) (hnd : n < d.length) (hg : ∀ r ∈ s[n].refs, RefGo s d n r) (hl : s[n].refs.length ≤ 9223372036854775807) (hd : ∀ rows ∈ d, rows.length ≤ 9223372036854775807) :
    call T n_scheme_refsHold [.sl false (s.map TabD.enc), .sl false (d.map dataX), i6 n] = some (.v (.bool (bP (RefsHold s d n)))) := by
  refine go_scheme_refsHold (by simp) ?_
  have et : tabOf s n = s[n] := by simp [tabOf, hn]
  have er : rowsOf d n = d[n] := by simp [rowsOf, hnd]
  unfold RefsHold
  rw [et, er]
  obtain ⟨R, hR, hF, hT⟩ := bP_spec (∀ r ∈ s[n].refs, RefHolds d[n] r.cols (rowsOf d r.table) (keyOf s r))
  rw [hR]; clear hR
  replace hg := Hd.mk hg
  replace hd := Hd.mk hd
  simp [hn]
  refine wp_rounds (σ := Nat) (fun i e w => e 0 = .sl false (s.map TabD.enc) ∧ e 1 = .sl false (d.map dataX) ∧ e 2 = i6 n ∧ e 22 = .sl false (s[n].refs.map RefD.enc) ∧ e 23 = i6 s[n].refs.length ∧ e 24 = i6 i ∧ i ≤ s[n].refs.length ∧
      Hd (∀ (j : Nat) (h : j < s[n].refs.length), j < i → RefHolds d[n] s[n].refs[j].cols (rowsOf d s[n].refs[j].table) (keyOf s s[n].refs[j]))) (fun i => s[n].refs.length - i) ?_ 0 _ _
    ⟨by simp, by simp, by simp, by simp, by simp, by simp, by omega, ⟨fun j h h' => by omega⟩⟩
  rintro i e w ⟨e0, e1, e2, e22, e23, e24, hi, hA⟩ ih
  simp [e0, e1, e2, e22, e23, e24]
  refine wpC_split (fun q => ?_) (fun q => ?_) <;> (have q' := q; try simp at q') <;> (try simp [*])
  · have hgr := hg.out _ (List.getElem_mem q')
    have bad : ¬ RefHolds d[n] s[n].refs[i].cols (rowsOf d s[n].refs[i].table) (keyOf s s[n].refs[i]) → R = false := fun h => hF.out (fun hh => h (hh _ (List.getElem_mem q')))
    replace bad := Hd.mk bad
    have step : RefHolds d[n] s[n].refs[i].cols (rowsOf d s[n].refs[i].table) (keyOf s s[n].refs[i]) → ∀ (e' : Env) w', e' 0 = .sl false (s.map TabD.enc) → e' 1 = .sl false (d.map dataX) → e' 2 = i6 n → e' 22 = .sl false (s[n].refs.map RefD.enc) → e' 23 = i6 s[n].refs.length → e' 24 = i6 ((i + 1 : Nat) : Int) →
        wp T [.lp scheme_refsHold_l1, .bl 0, .code ((IC.ops scheme_refsHold_r19).seq IC.ret)] e' w' (fun e s => dpC s (e 6) = some (.v (.bool R))) := by
      intro hc e' s' x0 x1 x2 x22 x23 x24
      refine ih.out (i + 1) _ _ ⟨x0, x1, x2, x22, x23, x24, q', ⟨fun j h hj => ?_⟩⟩ (by omega)
      rcases Nat.lt_or_eq_of_le (Nat.le_of_lt_succ hj) with h4 | h4
      · exact hA.out j h h4
      · subst h4; exact hc
    replace step := Hd.mk step
    clear hA ih
    generalize hgen : s[n].refs[i] = r at hgr bad step
    obtain ⟨⟨t1, t2, t3⟩, ⟨k1, k2⟩, ⟨l1, l2⟩, cc, kc⟩ := hgr
    obtain ⟨cs, tb, ky⟩ := r
    simp only at t1 t2 t3 k1 k2 l1 l2 cc kc bad step
    obtain ⟨a, rfl⟩ := Int.eq_ofNat_of_zero_le t1
    obtain ⟨b, rfl⟩ := Int.eq_ofNat_of_zero_le k1
    have ha : a < s.length := by omega
    have had : a < d.length := by omega
    have ea : tabOf s (a : Int) = s[a] := by simp [tabOf, ha]
    have era : rowsOf d (a : Int) = d[a] := by simp [rowsOf, had]
    rw [ea] at k2
    have hb : b < s[a].keys.length := by omega
    have eb : keyOf s ⟨cs, (a : Int), (b : Int)⟩ = s[a].keys[b] := by simp [keyOf, ea, hb]
    rw [eb] at l1
    rw [eb, era] at kc bad step
    rw [er] at cc
    have hgenX : (s[n].refs.map RefD.enc)[i]? = some (RefD.enc ⟨cs, (a : Int), (b : Int)⟩) := by rw [← hgen]; simp [q']
    replace cc := Hd.mk cc
    replace kc := Hd.mk kc
    have hda := hd.out d[a] (List.getElem_mem had)
    have hdn := hd.out d[n] (List.getElem_mem hnd)
    clear hgenX
    simp [had]
    generalize hg8 : (w 8).g + 1 = g8
    generalize hg28 : (w 28).g + 1 = g28
    refine wp_rounds (σ := Nat × List Tup) (fun x e w => e 0 = .sl false (s.map TabD.enc) ∧ e 1 = .sl false (d.map dataX) ∧ e 2 = i6 n ∧ e 22 = .sl false (s[n].refs.map RefD.enc) ∧ e 23 = i6 s[n].refs.length ∧ e 24 = i6 i ∧ e 8 = .ptr 8 g8 0 ∧ (∃ m, w 8 = ⟨g8, true, some (.box (RefD.enc ⟨cs, (a : Int), (b : Int)⟩)), m⟩) ∧ e 9 = .mp 28 g28 ∧
        (∃ m, w 28 = ⟨g28, true, some (.map (x.2.map (tupE (.v (.bool true))))), m⟩) ∧ e 33 = dataX d[a] ∧ e 34 = i6 d[a].length ∧ e 35 = i6 x.1 ∧ x.1 ≤ d[a].length ∧ Hd (Known d[a] s[a].keys[b] x.1 x.2)) (fun x => d[a].length - x.1) ?_ (0, []) _ _
      ⟨by simp [e0], by simp [e1], by simp [e2], by simp [e22], by simp [e23], by simp [e24], by simp [hg8], ⟨_, by simp [hg8]; rfl⟩, by simp [hg28], ⟨_, by simp [hg28]; rfl⟩, by simp, by simp, by simp, by simp, ⟨Known.nil _ _⟩⟩
    clear hg8 hg28 e0 e1 e2 e22 e23 e24
    rintro ⟨j, es⟩ e w ⟨e0, e1, e2, e22, e23, e24, e8, ⟨n8, w8⟩, e9, ⟨n28, w28⟩, e33, e34, e35, hj, hS⟩ jh
    simp only at w28 e35 hj hS
    simp [e0, e1, e2, e22, e23, e24, e8, w8, e9, w28, e33, e34, e35]
    refine wpC_split (fun v => ?_) (fun v => ?_) <;> (have v' := v; try simp at v') <;> (try simp [*])
    · have hlen8 : s[a].keys[b].length ≤ 8 := by omega
      have hp := c_scheme_pick d[a][j] s[a].keys[b] (kc.out _ (List.getElem_mem v')) hlen8
      have h8 : (pad8 (pickL d[a][j] s[a].keys[b])).length = 8 := pad8_len (by have := pickL_len d[a][j] s[a].keys[b]; omega)
      generalize hbb : (⟨pad8 (pickL d[a][j] s[a].keys[b]), h8⟩ : Tup) = u
      have hb1 : pad8 (pickL d[a][j] s[a].keys[b]) = u.l := by rw [← hbb]
      have hf := mfind_tup (.v (.bool true)) u es
      have hb2 := u.len
      have ws := wrap_succ v' hda
      rw [hb1] at hp
      generalize fullB d[a][j] s[a].keys[b] = fb at hp
      have ha' : a < s.length := ha
      have hbk : b < s[a].keys.length := hb
      cases hx : es.findIdx? fun c => tupSame u.l c.l with
      | none =>
        rw [hx] at hf
        simp [ha', hbk, hp, hf, w8, w28, e0, e1, e2, e8, e9, e22, e23, e24, e33, e34, e35, hb2, tupX_take hb2, tupX_ones]
        have hS2 := Hd.mk (hS.out.add v' u hb1.symm)
        refine jh.out (j + 1, es ++ [u]) _ _ ?_ (by simp only; omega)
        refine ⟨by simp [e0], by simp [e1], by simp [e2], by simp [e22], by simp [e23], by simp [e24], by simp [e8], ⟨n8, by simp [w8]⟩, by simp [e9], ?_, by simp [e33], by simp [e34], by simp [ws], v', hS2⟩
        exact so_mk (by simp [w28]) (by simp [w28]) (by simp [w28])
      | some m =>
        rw [hx] at hf
        obtain ⟨hm, h1, _⟩ := List.findIdx?_eq_some_iff_getElem.1 hx
        have hset := setV_same (.v (.bool true)) es m
        simp [ha', hbk, hp, hf, w8, w28, e0, e1, e2, e8, e9, e22, e23, e24, e33, e34, e35, hb2, tupX_take hb2, tupX_ones, hset]
        have hS2 := Hd.mk (hS.out.old v' es[m] (List.getElem_mem hm) (by rw [hb1]; exact h1))
        refine jh.out (j + 1, es) _ _ ?_ (by simp only; omega)
        refine ⟨by simp [e0], by simp [e1], by simp [e2], by simp [e22], by simp [e23], by simp [e24], by simp [e8], ⟨n8, by simp [w8]⟩, by simp [e9], ?_, by simp [e33], by simp [e34], by simp [ws], v', hS2⟩
        exact so_mk (by simp [w28]) (by simp [w28]) (by simp [w28])
    · have hje : j = d[a].length := by omega
      subst hje
      clear jh
      refine wp_rounds (σ := Nat) (fun j e w => e 0 = .sl false (s.map TabD.enc) ∧ e 1 = .sl false (d.map dataX) ∧ e 2 = i6 n ∧ e 22 = .sl false (s[n].refs.map RefD.enc) ∧ e 23 = i6 s[n].refs.length ∧ e 24 = i6 i ∧ e 8 = .ptr 8 g8 0 ∧ (∃ m, w 8 = ⟨g8, true, some (.box (RefD.enc ⟨cs, (a : Int), (b : Int)⟩)), m⟩) ∧ e 9 = .mp 28 g28 ∧
          (∃ m, w 28 = ⟨g28, true, some (.map (es.map (tupE (.v (.bool true))))), m⟩) ∧ e 60 = dataX d[n] ∧ e 61 = i6 d[n].length ∧ e 62 = i6 j ∧ j ≤ d[n].length ∧
          Hd (∀ (m : Nat) (h : m < d[n].length), m < j → FullR d[n][m] cs → ∃ (j : Nat) (h' : j < d[a].length), (valsAt d[n][m] cs).map Val.key = (valsAt d[a][j] s[a].keys[b]).map Val.key)) (fun j => d[n].length - j) ?_ 0 _ _
        ⟨by simp [e0], by simp [e1], by simp [e2], by simp [e22], by simp [e23], by simp [e24], by simp [e8], ⟨n8, by simp [w8]⟩, by simp [e9], ⟨n28, by simp [w28]⟩, by simp, by simp, by simp, by omega, ⟨fun m h h' => by omega⟩⟩
      clear e0 e1 e2 e22 e23 e24 e8 w8 e9 w28 e33 e34 e35
      rintro j e w ⟨e0, e1, e2, e22, e23, e24, e8, ⟨n8, w8⟩, e9, ⟨n28, w28⟩, e60, e61, e62, hj', hA⟩ jh
      simp [e0, e1, e2, e22, e23, e24, e8, w8, e9, w28, e60, e61, e62]
      refine wpC_split (fun v => ?_) (fun v => ?_) <;> (have v' := v; try simp at v') <;> (try simp [*])
      · have hp := c_scheme_pick d[n][j] cs (cc.out _ (List.getElem_mem v')) l2
        have h8 : (pad8 (pickL d[n][j] cs)).length = 8 := pad8_len (by have := pickL_len d[n][j] cs; omega)
        have hF1 : Hd (fullB d[n][j] cs = true → pickL d[n][j] cs = valsAt d[n][j] cs ∧ FullR d[n][j] cs) := ⟨fun h => ⟨(pickL_full (fullB_iff.1 h)).1, fullB_iff.1 h⟩⟩
        have hF2 : Hd (fullB d[n][j] cs = false → ¬ FullR d[n][j] cs) := ⟨fun h hf => by rw [fullB_iff.2 hf] at h; simp at h⟩
        generalize hbb : (⟨pad8 (pickL d[n][j] cs), h8⟩ : Tup) = u
        have hb1 : pad8 (pickL d[n][j] cs) = u.l := by rw [← hbb]
        have hf := mfind_tup (.v (.bool true)) u es
        have hb2 := u.len
        have ws := wrap_succ v' hdn
        rw [hb1] at hp
        have next : (FullR d[n][j] cs → ∃ (m : Nat) (h' : m < d[a].length), (valsAt d[n][j] cs).map Val.key = (valsAt d[a][m] s[a].keys[b]).map Val.key) → ∀ (e' : Env) w', e' 0 = .sl false (s.map TabD.enc) → e' 1 = .sl false (d.map dataX) → e' 2 = i6 n → e' 22 = .sl false (s[n].refs.map RefD.enc) → e' 23 = i6 s[n].refs.length → e' 24 = i6 i → e' 8 = .ptr 8 g8 0 → w' 8 = w 8 → e' 9 = .mp 28 g28 → w' 28 = w 28 → e' 60 = dataX d[n] → e' 61 = i6 d[n].length → e' 62 = i6 ((j + 1 : Nat) : Int) →
            wp T [.lp scheme_refsHold_l3, .bl 4, .bl 1, .code (IC.ops scheme_refsHold_r18), .lp scheme_refsHold_l1, .bl 0, .code ((IC.ops scheme_refsHold_r19).seq IC.ret)] e' w' (fun e s => dpC s (e 6) = some (.v (.bool R))) := by
          intro hc e' w' x0 x1 x2 x22 x23 x24 x8 y8 x9 y28 x60 x61 x62
          refine jh.out (j + 1) _ _ ⟨x0, x1, x2, x22, x23, x24, x8, ⟨n8, y8.trans w8⟩, x9, ⟨n28, y28.trans w28⟩, x60, x61, x62, v', ⟨fun m h hm => ?_⟩⟩ (by omega)
          rcases Nat.lt_or_eq_of_le (Nat.le_of_lt_succ hm) with h4 | h4
          · exact hA.out m h h4
          · subst h4; exact hc
        replace next := Hd.mk next
        cases hful : fullB d[n][j] cs
        · rw [hful] at hp
          have nf := Hd.mk (hF2.out hful)
          simp [hp, hf, w8, w28, e0, e1, e2, e8, e9, e22, e23, e24, e60, e61, e62, hb2, tupX_take hb2, tupX_ones]
          exact next.out (fun h => absurd h nf.out) _ _ (by simp [e0]) (by simp [e1]) (by simp [e2]) (by simp [e22]) (by simp [e23]) (by simp [e24]) (by simp [e8]) (by simp) (by simp [e9]) (by simp) (by simp [e60]) (by simp [e61]) (by simp [ws])
        · rw [hful] at hp
          obtain ⟨hv, hfl⟩ := hF1.out hful
          rw [hv] at hb1
          replace hfl := Hd.mk hfl
          cases hx : es.findIdx? fun c => tupSame u.l c.l with
          | none =>
            rw [hx] at hf
            have e0' : R = false := bad.out (fun hh => hS.out.none hfl.out l1 (by rw [hb1]; exact List.findIdx?_eq_none_iff.1 hx) (hh j v' hfl.out))
            simp [hp, hf, w8, w28, e0, e1, e2, e8, e9, e22, e23, e24, e60, e61, e62, hb2, tupX_take hb2, tupX_ones, e0']
          | some m =>
            rw [hx] at hf
            obtain ⟨hm, h1, _⟩ := List.findIdx?_eq_some_iff_getElem.1 hx
            have hfo := Hd.mk (hS.out.found hfl.out l1 es[m] (List.getElem_mem hm) (by rw [hb1]; exact h1))
            simp [hp, hf, w8, w28, e0, e1, e2, e8, e9, e22, e23, e24, e60, e61, e62, hb2, hm, tupX_take hb2, tupX_ones]
            exact next.out (fun _ => hfo.out) _ _ (by simp [e0]) (by simp [e1]) (by simp [e2]) (by simp [e22]) (by simp [e23]) (by simp [e24]) (by simp [e8]) (by simp) (by simp [e9]) (by simp) (by simp [e60]) (by simp [e61]) (by simp [ws])
      · exact step.out (fun m h hf => hA.out m h (by omega) hf) _ _ (by simp [e0]) (by simp [e1]) (by simp [e2]) (by simp [e22]) (by simp [e23]) (by simp [e24, wrap_succ q' hl])
  · exact hT.out (fun k hk => by
      obtain ⟨j, hj, rfl⟩ := List.getElem_of_mem hk
      exact hA.out j hj (by omega))
/-- The error of a value in a column. -/
def fitsE (c : ColD) (v : Val) : Int :=
  if v.valid = false ∨ (¬ v.kind = 0 ∧ ¬ v.kind = c.kind) then 79 else if v.kind = 0 ∧ c.nn = true then 74 else if (v.kind = 1 ∧ (v.int < c.lo ∨ c.hi < v.int)) ∨ (v.kind = 2 ∧ c.hi < v.text.size) then 75 else 0
theorem c_scheme_fits (c : ColD) (v : Val) (hv : v.ok) : call T n_scheme_fits [c.enc, v.enc] = some (i6 (fitsE c v)) := by
  refine go_scheme_fits (by simp) ?_
  generalize hR : fitsE c v = R; replace hR := Hd.mk hR
  simp [c_value_Valid v hv]
  refine wpC_split (fun a1 => ?_) (fun a1 => ?_) <;> (have a1' := a1; try simp at a1') <;> (try simp [*])
  · rw [← hR.out]; simp [fitsE, a1']
  refine wpG_split (fun a2 => ?_) (fun a2 => ?_) <;> (have a2' := a2; try simp at a2') <;> (try simp [*])
  · refine wpC_split (fun a3 => ?_) (fun a3 => ?_) <;> (have a3' := a3; try simp at a3') <;> (try simp [*])
    · rw [← hR.out]; simp [fitsE, a2', a3']
    have h2 : ¬ (v.valid = false ∨ (¬ v.kind = 0 ∧ ¬ v.kind = c.kind)) := by simp [a1', a3']
    replace hR : Hd (R = if (v.kind = 1 ∧ (v.int < c.lo ∨ c.hi < v.int)) ∨ (v.kind = 2 ∧ c.hi < v.text.size) then 75 else 0) := ⟨by
      rw [← hR.out]; unfold fitsE; rw [if_neg h2, if_neg (fun h => a2' h.1)]⟩
    have a2c : ¬ c.kind = 0 := by omega
    by_cases b1 : c.kind = 1
    · have b1' : v.kind = 1 := by omega
      simp [b1, b1']
      refine wpG_split (fun a4 => ?_) (fun a4 => ?_) <;> (have a4' := a4; try simp at a4') <;> (try simp [*])
      · rw [hR.out]; simp [b1', a4']
      refine wpC_split (fun a5 => ?_) (fun a5 => ?_) <;> (have a5' := a5; try simp at a5') <;> (try simp [*])
      · rw [hR.out]; simp [b1', a5']
      · rw [hR.out]; simp [b1', show ¬ v.int < c.lo by omega, show ¬ c.hi < v.int by omega]
    · have b1' : ¬ v.kind = 1 := by omega
      by_cases b2 : c.kind = 2
      · have b2' : v.kind = 2 := by omega
        simp [b2, b2', b1, b1']
        refine wpC_split (fun a6 => ?_) (fun a6 => ?_) <;> (have a6' := a6; try simp at a6') <;> (try simp [*])
        · rw [hR.out]; simp [b2', a6']
        · rw [hR.out]; simp [b2', show ¬ c.hi < (v.text.size : Int) by omega]
      · have b2' : ¬ v.kind = 2 := by omega
        simp [a2c, b1, b2, b1', b2']
        rw [hR.out]; simp [b1', b2']
  · cases hnn : c.nn
    · simp [a2', hnn]
      rw [← hR.out]; simp [fitsE, a1', a2', hnn]
    · simp [a2', hnn]
      rw [← hR.out]; simp [fitsE, a1', a2', hnn]
def fitsL : List ColD → List Val → Int
  | c :: cs, v :: vs => if fitsE c v = 0 then fitsL cs vs else fitsE c v
  | _, _ => 0
def fitsRowE (t : TabD) (r : List Val) : Int := if r.length = t.cols.length then fitsL t.cols r else 78
theorem fitsL_drop {cs : List ColD} {vs : List Val} {i : Nat} (h : i < cs.length) (h' : i < vs.length) : fitsL (cs.drop i) (vs.drop i) = if fitsE cs[i] vs[i] = 0 then fitsL (cs.drop (i + 1)) (vs.drop (i + 1)) else fitsE cs[i] vs[i] := by
  rw [List.drop_eq_getElem_cons h, List.drop_eq_getElem_cons h', fitsL]
theorem fitsL_end {cs : List ColD} {vs : List Val} {i : Nat} (h : vs.length ≤ i) : fitsL (cs.drop i) (vs.drop i) = 0 := by
  rw [List.drop_eq_nil_of_le h]; cases cs.drop i <;> rfl
theorem c_scheme_fitsRow (t : TabD) (r : List Val) (hl : r.length ≤ 9223372036854775807) (hv : ∀ v ∈ r, v.ok) : call T n_scheme_fitsRow [t.enc, rowX r] = some (i6 (fitsRowE t r)) := by
  refine go_scheme_fitsRow (by simp) ?_
  generalize hR : fitsRowE t r = R; replace hR := Hd.mk hR
  simp
  refine wpC_split (fun a1 => ?_) (fun a1 => ?_) <;> (have a1' := a1; try simp at a1') <;> (try simp [*])
  · rw [← hR.out]; simp [fitsRowE, a1']
  replace hR : Hd (R = fitsL (t.cols.drop 0) (r.drop 0)) := ⟨by rw [← hR.out]; simp [fitsRowE, a1']⟩
  replace hv := Hd.mk hv
  refine wp_rounds (σ := Nat) (fun i e s => e 2 = .ptr 2 1 0 ∧ (∃ n, s 2 = ⟨1, true, some (.box t.enc), n⟩) ∧ e 14 = rowX r ∧ e 15 = i6 r.length ∧ e 16 = i6 i ∧ i ≤ r.length ∧ Hd (R = fitsL (t.cols.drop i) (r.drop i))) (fun i => r.length - i) ?_ 0 _ _ ⟨by simp, ⟨_, by simp; rfl⟩, by simp, by simp [a1'], by simp, by omega, hR⟩
  clear hR
  rintro i e s ⟨e2, ⟨n2, s2⟩, e14, e15, e16, hi, hA⟩ ih
  simp [e2, s2, e14, e15, e16]
  refine wpC_split (fun q => ?_) (fun q => ?_) <;> (have q' := q; try simp at q') <;> (try simp [*])
  · have hic : i < t.cols.length := by omega
    have hir : i < r.length := by omega
    have hf := c_scheme_fits t.cols[i] r[i] (hv.out _ (List.getElem_mem hir))
    replace hA := Hd.mk (hA.out.trans (fitsL_drop hic hir))
    generalize fitsE t.cols[i] r[i] = E at hf hA
    simp [e2, s2, e14, e15, e16, hic, hir, hf]
    refine wpC_split (fun b => ?_) (fun b => ?_) <;> (have b' := b; try simp at b') <;> (try simp [*])
    · rw [hA.out]; simp [b']
    · refine ih.out (i + 1) _ _ ?_ (by omega)
      exact ⟨by simp [e2], ⟨n2, by simp [s2]⟩, by simp [e14], by simp [e15], by simp [e16, wrap_succ hir hl], hir, ⟨by rw [hA.out]; simp [b']⟩⟩
  · rw [hA.out]; exact (fitsL_end (by omega)).symm
/-- Data that are valid for a scheme. -/
structure DataOK (s : List TabD) (d : List (List (List Val))) : Prop where
  sch : SchemeOK s
  len : d.length = s.length
  rows : ∀ (n : Nat) (h : n < d.length), d[n].length ≤ 1000 ∧ ∀ r ∈ d[n], fitsRowE (tabOf s n) r = 0
  keys : ∀ (n : Nat) (h : n < d.length), ∀ k ∈ (tabOf s n).keys, KeyHolds d[n] k
  refs : ∀ (n : Nat) (h : n < d.length), RefsHold s d n
theorem fitsRow_len {t : TabD} {r : List Val} (h : fitsRowE t r = 0) : r.length = t.cols.length := by
  unfold fitsRowE at h
  split at h
  · assumption
  · omega
theorem refGo {s : List TabD} {d : List (List (List Val))} (hs : SchemeOK s) (hl : d.length = s.length) (hr : ∀ (n : Nat) (h : n < d.length), ∀ r ∈ d[n], r.length = (tabOf s n).cols.length) {n : Nat} (hn : n < s.length) : ∀ r ∈ s[n].refs, RefGo s d n r := by
  intro r hrr
  have hT := hs.2.2 n hn
  obtain ⟨h1, h2, h3⟩ := hT.2.2.2.2.2.2.2.2 r hrr
  have hlen : (s.take n).length = n := by simp; omega
  rw [hlen] at h2
  obtain ⟨cs, tb, ky⟩ := r
  simp only at h1 h2 h3
  obtain ⟨a, rfl⟩ := Int.eq_ofNat_of_zero_le h1
  have han : a < n := by omega
  have ha : a < s.length := by omega
  have hTa := hs.2.2 a ha
  have g1 : (s.take n)[Int.toNat (a : Int)]? = some s[a] := by simp [List.getElem?_take, han, ha]
  obtain ⟨h4, h5, h6, h7⟩ := h3 s[a] g1
  obtain ⟨b, rfl⟩ := Int.eq_ofNat_of_zero_le h4
  have hb : b < s[a].keys.length := by omega
  have g2 : s[a].keys[Int.toNat (b : Int)]? = some s[a].keys[b] := by simp [hb]
  obtain ⟨h8, h9⟩ := h7 _ g2
  have ea : tabOf s (a : Int) = s[a] := by simp [tabOf, ha]
  have en : tabOf s (n : Int) = s[n] := by simp [tabOf, hn]
  have eb : keyOf s ⟨cs, (a : Int), (b : Int)⟩ = s[a].keys[b] := by simp [keyOf, ea, hb]
  have hk8 : s[a].keys[b].length ≤ 8 := by
    have := (hTa.2.2.2.2.2.2.2.1 _ (List.getElem_mem hb)).2.len
    have := hTa.2.1
    omega
  refine ⟨⟨h1, by show (a : Int) < s.length; omega, by show (a : Int) < d.length; omega⟩, ⟨h4, by show (b : Int) < _; rw [ea]; exact h5⟩, ⟨by rw [eb]; exact h8.symm, by show cs.length ≤ 8; omega⟩, ?_, ?_⟩
  · intro row hrow c hc
    have hnd : n < d.length := by omega
    have er : rowsOf d n = d[n] := by simp [rowsOf, hnd]
    rw [er] at hrow
    rw [hr n hnd row hrow, en]
    obtain ⟨j, hj, rfl⟩ := List.getElem_of_mem hc
    have := h9 j hj
    exact ⟨this.1, this.2.1⟩
  · intro row hrow c hc
    have had : a < d.length := by omega
    have er : rowsOf d (a : Int) = d[a] := by simp [rowsOf, had]
    rw [eb] at hc
    have hrow : row ∈ d[a] := by rw [← er]; exact hrow
    rw [hr a had row hrow, ea]
    exact hTa.keys _ (List.getElem_mem hb) c hc
def dataSmall (d : List (List (List Val))) : Prop := d.length ≤ 9223372036854775807 ∧ ∀ rows ∈ d, rowsOk rows
set_option maxHeartbeats 8000000 in
theorem c_scheme_ValidData (s : List TabD) (d : List (List (List Val))) (hs : schemeSmall s) (hd : dataSmall d) :
    call T n_scheme_ValidData [.sl false (s.map TabD.enc), .sl false (d.map dataX)] = some (.v (.bool (bP (DataOK s d)))) := by
  refine go_scheme_ValidData (by simp) ?_
  obtain ⟨R, hR, hF, hT⟩ := bP_spec (DataOK s d)
  rw [hR]; clear hR
  have f1 := c_scheme_Valid s hs
  simp [f1]
  refine wpG_split (fun a1 => ?_) (fun a1 => ?_) <;> (have a1' := a1; try simp at a1') <;> (try simp [*])
  · exact hF.out (fun h => by rw [bP_false] at a1'; exact a1' h.sch)
  rw [bP_iff] at a1'
  refine wpC_split (fun a2 => ?_) (fun a2 => ?_) <;> (have a2' := a2; try simp at a2') <;> (try simp [*])
  · exact hF.out (fun h => a2' h.len)
  replace hs := Hd.mk hs
  replace a2' := Hd.mk a2'
  have hd1 := hd.1
  have hd2 : Hd (∀ rows ∈ d, rowsOk rows) := ⟨hd.2⟩
  replace a1' := Hd.mk a1'
  have hF1 : Hd (¬ (∀ (n : Nat) (h : n < d.length), d[n].length ≤ 1000 ∧ ∀ r ∈ d[n], fitsRowE (tabOf s n) r = 0) → R = false) := ⟨fun h => hF.out (fun hh => h hh.rows)⟩
  refine wp_rounds (σ := Nat) (fun i e w => e 0 = .sl false (s.map TabD.enc) ∧ e 1 = .sl false (d.map dataX) ∧ e 21 = .sl false (d.map dataX) ∧ e 22 = i6 d.length ∧ e 23 = i6 i ∧ i ≤ d.length ∧
      Hd (∀ (n : Nat) (h : n < d.length), n < i → d[n].length ≤ 1000 ∧ ∀ r ∈ d[n], fitsRowE (tabOf s n) r = 0)) (fun i => d.length - i) ?_ 0 _ _
    ⟨by simp, by simp, by simp, by simp [a2'.out], by simp, by omega, ⟨fun j h h' => by omega⟩⟩
  rintro i e w ⟨e0, e1, e21, e22, e23, hi, hA⟩ ih
  simp [e0, e1, e21, e22, e23]
  refine wpC_split (fun q => ?_) (fun q => ?_) <;> (have q' := q; try simp at q') <;> (try simp [*])
  · have hid : i < d.length := by omega
    have his : i < s.length := by rw [← a2'.out]; exact hid
    refine wpC_split (fun a3 => ?_) (fun a3 => ?_) <;> (have a3' := a3; try simp at a3') <;> (try simp [*])
    · exact hF1.out (fun h => by have := (h i hid).1; omega)
    have hro := hd2.out d[i] (List.getElem_mem hid)
    have et : tabOf s (i : Int) = s[i] := by simp [tabOf, his]
    refine wp_rounds (σ := Nat) (fun j e w => e 0 = .sl false (s.map TabD.enc) ∧ e 1 = .sl false (d.map dataX) ∧ e 21 = .sl false (d.map dataX) ∧ e 22 = i6 d.length ∧ e 23 = i6 i ∧ e 5 = i6 i ∧ e 31 = dataX d[i] ∧ e 32 = i6 d[i].length ∧ e 33 = i6 j ∧ j ≤ d[i].length ∧
        Hd (∀ (m : Nat) (h : m < d[i].length), m < j → fitsRowE (tabOf s i) d[i][m] = 0)) (fun j => d[i].length - j) ?_ 0 _ _
      ⟨by simp [e0], by simp [e1], by simp [e21], by simp [e22], by simp [e23], by simp, by simp, by simp, by simp, by omega, ⟨fun m h h' => by omega⟩⟩
    clear e0 e1 e21 e22 e23
    rintro j e w ⟨e0, e1, e21, e22, e23, e5, e31, e32, e33, hj, hB⟩ jh
    simp [e0, e1, e21, e22, e23, e5, e31, e32, e33]
    refine wpC_split (fun v => ?_) (fun v => ?_) <;> (have v' := v; try simp at v') <;> (try simp [*])
    · have hrj := hro.2 d[i][j] (List.getElem_mem v')
      have hf := c_scheme_fitsRow s[i] d[i][j] hrj.1 hrj.2
      have bad : ¬ fitsRowE s[i] d[i][j] = 0 → R = false := fun h => hF1.out (fun hh => h (by have := (hh i hid).2 _ (List.getElem_mem v'); rw [et] at this; exact this))
      replace bad := Hd.mk bad
      have good : fitsRowE s[i] d[i][j] = 0 → ∀ (m : Nat) (h : m < d[i].length), m < j + 1 → fitsRowE (tabOf s i) d[i][m] = 0 := fun hc m h hm => by
        rcases Nat.lt_or_eq_of_le (Nat.le_of_lt_succ hm) with h4 | h4
        · exact hB.out m h h4
        · subst h4; rw [et]; exact hc
      replace good := Hd.mk good
      generalize fitsRowE s[i] d[i][j] = E at hf bad good
      simp [his, hf, e0, e1, e21, e22, e23, e5, e31, e32, e33]
      refine wpC_split (fun b => ?_) (fun b => ?_) <;> (have b' := b; try simp at b') <;> (try simp [*])
      · exact bad.out b'
      · refine jh.out (j + 1) _ _ ?_ (by omega)
        exact ⟨by simp [e0], by simp [e1], by simp [e21], by simp [e22], by simp [e23], by simp [e5], by simp [e31], by simp [e32], by simp [e33, wrap_succ v' hro.1], v', ⟨good.out b'⟩⟩
    · refine ih.out (i + 1) _ _ ?_ (by omega)
      refine ⟨by simp [e0], by simp [e1], by simp [e21], by simp [e22], by simp [e23, wrap_succ hid hd1], hid, ⟨fun n h hn => ?_⟩⟩
      rcases Nat.lt_or_eq_of_le (Nat.le_of_lt_succ hn) with h4 | h4
      · exact hA.out n h h4
      · subst h4
        exact ⟨by omega, fun r hr => by
          obtain ⟨m, hm, rfl⟩ := List.getElem_of_mem hr
          exact hB.out m hm (by omega)⟩
  have hrows : Hd (∀ (n : Nat) (h : n < d.length), d[n].length ≤ 1000 ∧ ∀ r ∈ d[n], fitsRowE (tabOf s n) r = 0) := ⟨fun n h => hA.out n h (by omega)⟩
  have hrl : Hd (∀ (n : Nat) (h : n < d.length), ∀ r ∈ d[n], r.length = (tabOf s n).cols.length) := ⟨fun n h r hr => fitsRow_len ((hrows.out n h).2 r hr)⟩
  clear hA ih hF1
  have hF2 : Hd (∀ (n : Nat) (h : n < d.length), ¬ (∀ k ∈ (tabOf s n).keys, KeyHolds d[n] k) → R = false) := ⟨fun n h hc => hF.out (fun hh => hc (hh.keys n h))⟩
  have hF3 : Hd (∀ (n : Nat) (h : n < d.length), ¬ RefsHold s d n → R = false) := ⟨fun n h hc => hF.out (fun hh => hc (hh.refs n h))⟩
  refine wp_rounds (σ := Nat) (fun i e w => e 0 = .sl false (s.map TabD.enc) ∧ e 1 = .sl false (d.map dataX) ∧ e 46 = .sl false (d.map dataX) ∧ e 47 = i6 d.length ∧ e 48 = i6 i ∧ i ≤ d.length ∧
      Hd (∀ (n : Nat) (h : n < d.length), n < i → (∀ k ∈ (tabOf s n).keys, KeyHolds d[n] k) ∧ RefsHold s d n)) (fun i => d.length - i) ?_ 0 _ _
    ⟨by simp [e0], by simp [e1], by simp, by simp [a2'.out], by simp, by omega, ⟨fun j h h' => by omega⟩⟩
  clear e0 e1 e21 e22 e23
  rintro i e w ⟨e0, e1, e46, e47, e48, hi, hA⟩ ih
  simp [e0, e1, e46, e47, e48]
  refine wpC_split (fun q => ?_) (fun q => ?_) <;> (have q' := q; try simp at q') <;> (try simp [*])
  · have hid : i < d.length := by omega
    have his : i < s.length := by rw [← a2'.out]; exact hid
    have et : tabOf s (i : Int) = s[i] := by simp [tabOf, his]
    have hT2 := a1'.out.2.2 i his
    have hsm := hs.out.2 s[i] (List.getElem_mem his)
    have f2 := c_scheme_keysHold s[i] d[i] (fun k hk => (hT2.2.2.2.2.2.2.2.1 k hk).2) hT2.2.1 (fun r hr => by have := hrl.out i hid r hr; rw [et] at this; exact this) (hd2.out _ (List.getElem_mem hid)).1 hsm.keys.1
    have f3 := c_scheme_refsHold s d i his hid (refGo a1'.out a2'.out hrl.out his) hsm.refs.1 (fun rows hr => (hd2.out rows hr).1)
    have b2 := hF2.out i hid
    have b3 := hF3.out i hid
    rw [et] at b2
    have good : (∀ k ∈ s[i].keys, KeyHolds d[i] k) → RefsHold s d i → ∀ (n : Nat) (h : n < d.length), n < i + 1 → (∀ k ∈ (tabOf s n).keys, KeyHolds d[n] k) ∧ RefsHold s d n := fun c1 c2 n h hn => by
      rcases Nat.lt_or_eq_of_le (Nat.le_of_lt_succ hn) with h4 | h4
      · exact hA.out n h h4
      · subst h4; rw [et]; exact ⟨c1, c2⟩
    replace good := Hd.mk good
    replace b2 := Hd.mk b2
    replace b3 := Hd.mk b3
    simp [hid, his, f2, f3, e0, e1, e46, e47, e48]
    refine wpG_split (fun c1 => ?_) (fun c1 => ?_) <;> (have c1' := c1; try simp at c1') <;> (try simp [*])
    · exact b2.out (bP_false.1 c1')
    rw [bP_iff] at c1'
    refine wpC_split (fun c2 => ?_) (fun c2 => ?_) <;> (have c2' := c2; try simp at c2') <;> (try simp [*])
    · exact b3.out (bP_false.1 c2')
    rw [bP_iff] at c2'
    refine ih.out (i + 1) _ _ ?_ (by omega)
    exact ⟨by simp [e0], by simp [e1], by simp [e46], by simp [e47], by simp [e48, wrap_succ hid hd1], hid, ⟨good.out c1' c2'⟩⟩
  · exact hT.out ⟨a1'.out, a2'.out, hrows.out, fun n h => (hA.out n h (by omega)).1, fun n h => (hA.out n h (by omega)).2⟩
end Go.Proofs.YtoodknhlnifnlaaGreatDoor
