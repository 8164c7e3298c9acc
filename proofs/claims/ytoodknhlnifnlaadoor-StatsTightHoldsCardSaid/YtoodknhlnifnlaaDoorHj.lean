/- Default, Tight, Gather: contracts (seat D's table). -/
import Derived.Test.YtoodknhlnifnlaaDoorHi
import Derived.Test.YtoodknhlnifnlaaDoorHh
import Derived.Test.YtoodknhlnifnlaaDoorHe
set_option linter.all false
set_option linter.unusedVariables false
set_option linter.unusedSimpArgs false
set_option maxRecDepth 100000
namespace Go.Proofs.YtoodknhlnifnlaaDoor
open Go.RowKit
theorem callI_wpz {f nt : Nat} {res : List Res} {body : IC} {xs : List X} {s : Sto} {P : X × Sto → Prop} (hT : T f = some (.codez nt res body)) (hn : xs.length ≤ nt)
    (h : wp T [.code body] (ini xs) s (fun e s' => ∃ x, resT e s' res = some x ∧ P (x, frz s' (resN e s' res)))) : ∃ r, callI (run T) T f xs s = some r ∧ P r := by
  obtain ⟨e', s', hr, x, hx, hp⟩ := h
  exact ⟨(x, frz s' (resN e' s' res)), by simp only [callI, hT, if_pos hn, hr, hx], hp⟩
theorem pureC {e : Env} {s : Sto} {p lo hi : Nat} {a b : Int} {x : X} {es : List X} (h : resI e s [.cell p 3 true] = some (.agg [i6 a, i6 b, x])) (hx : SlAt s lo hi 5 x es) :
    resT e s [.cell p 3 true] = some (.agg [i6 a, i6 b, .sl true es]) ∧ ∀ q ∈ resN e s [.cell p 3 true], lo ≤ q ∧ q < hi := by
  have h1 : ldX s (e p) 3 true = some (.agg [i6 a, i6 b, x]) := by
    simp only [resI, resIL, resIX] at h
    cases hl : ldX s (e p) 3 true with
    | none => simp [hl] at h
    | some y => simp [hl] at h; rw [h]
  have d1 : ∀ n, dpn s (i6 n) = some (i6 n) := fun _ => rfl
  refine ⟨by simp only [resT, resL, resX, h1, dpC, dpL, hx.dpn, d1], ?_⟩
  simp only [resN, h1, nmC, List.flatMap_cons, List.flatMap_nil, nmX, List.append_nil, List.nil_append]
  rcases hx with ⟨_, rfl⟩ | ⟨_, o, g, n, rfl, _, h1, h2⟩
  · simp [nmX]
  · intro q hq
    simp [nmX] at hq
    subst hq; exact ⟨h1, h2⟩
/-- Where a call of tight leaves the store alone. -/
def FrT (lo hi : Nat) (s s' : Sto) : Prop := ∀ q, (q < 2000 ∨ 4000 ≤ q) → ¬ q = 4005 → (q < lo ∨ hi ≤ q) → s' q = s q
theorem i_stats_tight (t : TabD) (d : TS) (hld : d.cols.length = t.cols.length) (hl : t.cols.length ≤ 8) (hk : KeysIn t) (hkl : t.keys.length ≤ 9223372036854775807) (hok : okT (kindsT t) (tightU t d)) {lo hi : Nat} {x : X} {s : Sto}
    (hx : SlAt s lo hi 5 x (d.cols.map Col.enc)) (hd : hi ≤ 2000 ∨ 4000 ≤ lo) :
    ∃ r, callI (run T) T n_stats_tight [t.enc, .agg [i6 d.low, i6 d.rows, x]] s = some r ∧ r.1 = (tightT t d).enc true ∧ FrT lo hi s r.2 := by
  refine callI_wpz (nt := 103) (res := [.cell 4 3 true]) (body := B_stats_tight) (P := fun r => r.1 = (tightT t d).enc true ∧ FrT lo hi s r.2) (by kernel_rfl) (by simp) ?_
  have key : ∀ o, (lo ≤ o ∧ o < hi ∨ o = 4005) → wp T [.code B_stats_tight] (ini [t.enc, .agg [i6 d.low, i6 d.rows, x]]) s (OutT o s (tightT t d)) →
      wp T [.code B_stats_tight] (ini [t.enc, .agg [i6 d.low, i6 d.rows, x]]) s (fun e s' => ∃ x, resT e s' [.cell 4 3 true] = some x ∧ ((x, frz s' (resN e s' [.cell 4 3 true])).1 = (tightT t d).enc true ∧ FrT lo hi s (x, frz s' (resN e s' [.cell 4 3 true])).2)) := by
    intro o ho h
    refine wp_mono h ?_
    rintro e s' ⟨r, hr, hF, y, rfl, hy⟩
    obtain ⟨h1, h2⟩ := pureC hr hy
    refine ⟨_, h1, rfl, ?_⟩
    intro q q1 q2 q3
    have q4 : ¬ q ∈ resN e s' [.cell 4 3 true] := fun hm => by have := h2 q hm; omega
    show frz s' _ q = s q
    rw [frz_app, if_neg q4]
    exact hF q (by omega) (by omega)
  rcases hx with ⟨h0, rfl⟩ | ⟨h0, o, g, n, rfl, hs, h1, h2⟩
  · have hc : d.cols = [] := by simpa using h0
    have hct : t.cols = [] := List.eq_nil_of_length_eq_zero (by rw [← hld, hc]; rfl)
    exact key 4005 (.inr rfl) (w_stats_tight0 t d hct hc hk hkl hok s)
  · have hp : 0 < t.cols.length := by
      rw [← hld]
      rcases Nat.eq_zero_or_pos d.cols.length with h | h
      · exact absurd (by rw [List.eq_nil_of_length_eq_zero h]; rfl) h0
      · exact h
    rw [List.length_map] at *
    exact key o (.inl ⟨h1, h2⟩) (w_stats_tight t d hld hl hk hkl hp hok o g n (by omega) s hs)
theorem tight_okC {a : ColD} {c : Col} (h : cok c) (ha : a.in64) : cok (tightC a c) := by
  obtain ⟨h1, h2, h3, ⟨h4, h5⟩, h6, h7⟩ := h
  obtain ⟨⟨a1, a2⟩, a3, a4⟩ := ha
  refine ⟨?_, ?_, h3, ⟨?_, ?_⟩, ?_, ?_⟩ <;> simp only [tightC] <;> split <;> omega
theorem key_okC {cols : List Col} (h : ∀ c ∈ cols, cok c) (key : List Int) : ∀ c ∈ keyC cols key, cok c := by
  unfold keyC
  split
  · intro c hc
    obtain ⟨i, hi, rfl⟩ := List.getElem_of_mem hc
    rw [List.getElem_modify]
    rw [List.length_modify] at hi
    have hb := h _ (List.getElem_mem hi)
    split
    · obtain ⟨h1, h2, h3, h4⟩ := hb
      refine ⟨h1, h2, ?_, h4⟩
      show 0 ≤ min cols[i].degree 1
      omega
    · exact hb
  · exact h
theorem keys_okC : ∀ (keys : List (List Int)) {cols : List Col}, (∀ c ∈ cols, cok c) → ∀ c ∈ keys.foldl keyC cols, cok c
  | [], _, h => h
  | k :: keys, _, h => keys_okC keys (key_okC h k)
theorem tightU_len (t : TabD) (d : TS) (h : d.cols.length = t.cols.length) : (tightU t d).cols.length = t.cols.length := by
  show (t.keys.foldl keyC (List.zipWith tightC t.cols d.cols)).length = _
  rw [keysC_len, List.length_zipWith]; omega
theorem tightU_ok {t : TabD} {d : TS} (hld : d.cols.length = t.cols.length) (hd : ∀ c ∈ d.cols, cok c) (hr : 0 ≤ d.rows) (h6 : ∀ c ∈ t.cols, c.in64) : okT (kindsT t) (tightU t d) := by
  refine ⟨by rw [tightU_len t d hld]; simp, by show 0 ≤ min d.rows 1000; omega, keys_okC _ ?_⟩
  intro c hc
  obtain ⟨i, hi, rfl⟩ := List.getElem_of_mem hc
  rw [List.getElem_zipWith]
  rw [List.length_zipWith] at hi
  exact tight_okC (hd _ (List.getElem_mem (by omega))) (h6 _ (List.getElem_mem (by omega)))
noncomputable def tightR (s : List TabD) (st : List TS) : List TS := if checkE s st = 0 then List.zipWith tightT s st else []
@[simp] theorem okE_ts' (f : Bool) (l : List TS) : okE 3 (l.map (TS.enc f)) = true := by simp [okE]
set_option maxHeartbeats 2000000 in
theorem c_stats_Tight (s : List TabD) (st : List TS) (hs : schemeSmall s) (h6 : ∀ t ∈ s, ∀ c ∈ t.cols, c.in64) (hst : ∀ d ∈ st, ∀ c ∈ d.cols, loOk c) :
    call T n_stats_Tight [.sl false (s.map TabD.enc), .sl false (st.map (TS.enc false))] = some (.tup [.sl true ((tightR s st).map (TS.enc true)), i6 (checkE s st)]) := by
  refine go_stats_Tight (by simp) ?_
  have f1 := c_stats_Check s st hs
  have hs1 := hs.1
  have hC := checkE_ok (s := s) (st := st)
  have hR0 : ¬ checkE s st = 0 → tightR s st = [] := fun h => if_neg h
  have hR1 : checkE s st = 0 → tightR s st = List.zipWith tightT s st := fun h => if_pos h
  generalize tightR s st = R at *
  generalize checkE s st = c at *
  replace hR0 := Hd.mk hR0
  replace hR1 := Hd.mk hR1
  replace hC := Hd.mk hC
  replace hst := Hd.mk hst
  replace h6 := Hd.mk h6
  replace hs := Hd.mk hs
  simp [f1]
  refine wpC_split (fun a1 => ?_) (fun a1 => ?_) <;> (have a1' := a1; try simp at a1') <;> (try simp [*])
  · rw [hR0.out a1']
  subst a1'
  replace hC := Hd.mk (hC.out rfl)
  obtain rfl := hR1.out rfl
  clear hR0 hR1
  have hl : st.length = s.length := hC.out.2.1
  replace hl := Hd.mk hl
  have hzl : Hd ((List.zipWith tightT s st).length = s.length) := ⟨by rw [List.length_zipWith, hl.out]; omega⟩
  have hzg : Hd (∀ (i : Nat) (h : i < s.length) (h' : i < st.length) (h'' : i < (List.zipWith tightT s st).length), (List.zipWith tightT s st)[i] = tightT s[i] st[i]) := ⟨fun i h h' h'' => by simp⟩
  generalize List.zipWith tightT s st = Z at *
  refine wp_rounds (σ := Nat) (fun i e w => ((i = 0 ∧ e 7 = .nil) ∨ (0 < i ∧ ∃ g, e 7 = .ref 32 g 3 0 i ∧ ∃ n, w 32 = ⟨g, true, some (.row 3 ((Z.take i).map (TS.enc true))), n⟩)) ∧ e 0 = .sl false (s.map TabD.enc) ∧ e 1 = .sl false (st.map (TS.enc false)) ∧ e 16 = .sl false (s.map TabD.enc) ∧ e 17 = i6 s.length ∧ e 18 = i6 i ∧ i ≤ s.length) (fun i => s.length - i) ?_ 0 _ _
    ⟨.inl ⟨rfl, by simp⟩, by simp, by simp, by simp, by simp, by simp, by omega⟩
  rintro i e w ⟨e7, e0, e1, e16, e17, e18, hi⟩ ih
  have hlen : (Z.take i).length = i := by rw [List.length_take, hzl.out]; omega
  generalize hes : Z.take i = es at e7 hlen
  replace hes := Hd.mk hes
  simp [e0, e1, e16, e17, e18]
  refine wpC_split (fun q => ?_) (fun q => ?_) <;> (have q' := q; try simp at q') <;> (try simp [*])
  · have hs16 : s.length ≤ 16 := hC.out.1.1
    have hit : i < st.length := by rw [hl.out]; exact q'
    have hfit := hC.out.2.2 i q' hit
    have hT2 := hC.out.1.2.2 i q'
    have h8 := hC.out.1.len q'
    have hld : st[i].cols.length = s[i].cols.length := (fits_len hfit).trans (kindsT_len _)
    have hok := okT_of hfit (hst.out _ (List.getElem_mem hit))
    have hu := tightU_ok hld hok.cols hok.rows (h6.out _ (List.getElem_mem q'))
    have hki := hT2.keys
    have hkl := (hs.out.2 _ (List.getElem_mem q')).keys.1
    have hz := hzg.out i q' hit (by rw [hzl.out]; exact q')
    have hcl := fun w => i_stats_clone st[i] (by omega) w
    have hti := fun {w : Sto} {x : X} (hx : SlAt w 4005 4006 5 x (st[i].cols.map Col.enc)) => i_stats_tight s[i] st[i] hld h8 hki hkl hu hx (by omega)
    replace hcl := Hd.mk hcl
    replace hti : Hd (∀ {w : Sto} {x : X} (hx : SlAt w 4005 4006 5 x (st[i].cols.map Col.enc)), ∃ r, callI (run T) T n_stats_tight [s[i].enc, .agg [i6 st[i].low, i6 st[i].rows, x]] w = some r ∧ r.1 = (tightT s[i] st[i]).enc true ∧ FrT 4005 4006 w r.2) := ⟨hti⟩
    clear hT2 hfit hld hok hu hki hkl h8 hC hs
    rcases e7 with ⟨h0, e7⟩ | ⟨h0, g, e7, n, s32⟩
    · subst h0
      simp [e0, e1, e7, e16, e17, e18, hit]
      refine wpR_ex1 (hcl.out _) ?_
      rintro ⟨r, w1⟩ ⟨hF1, x, rfl, hx⟩
      have k1 : w1 9 = _ := hF1 9 (by omega) (by omega)
      simp at k1
      have k2 : w1 32 = _ := hF1 32 (by omega) (by omega)
      simp at k2
      simp [e0, e1, e7, e16, e17, e18, k1]
      refine wpR_ex1 (hti.out hx) ?_
      rintro ⟨r, w2⟩ ⟨hr, hF2⟩
      simp only at hr
      subst hr
      have k3 : w2 9 = _ := hF2 9 (by omega) (by omega) (by omega)
      rw [k1] at k3
      have k4 : w2 32 = _ := hF2 32 (by omega) (by omega) (by omega)
      rw [k2] at k4
      simp [e0, e1, e7, e16, e17, e18, k3, k4]
      refine ih.out 1 _ _ ⟨.inr ⟨by omega, (w 32).g + 1, by simp [k4], ?_⟩, by simp [e0], by simp [e1], by simp [e16], by simp [e17], by simp [show IntKind.i64.wrap 1 = 1 by rw [wrap_in] <;> omega], q'⟩ (by omega)
      rw [List.take_succ_eq_append_getElem (by rw [hzl.out]; exact q'), hz]
      exact so_mk (by simp [k4]) (by simp) (by simp)
    · simp [e0, e1, e7, e16, e17, e18, hit, s32]
      refine wpR_ex1 (hcl.out _) ?_
      rintro ⟨r, w1⟩ ⟨hF1, x, rfl, hx⟩
      have k1 : w1 9 = _ := hF1 9 (by omega) (by omega)
      simp at k1
      have k2 : w1 32 = _ := hF1 32 (by omega) (by omega)
      simp [s32] at k2
      simp [e0, e1, e7, e16, e17, e18, k1]
      refine wpR_ex1 (hti.out hx) ?_
      rintro ⟨r, w2⟩ ⟨hr, hF2⟩
      simp only at hr
      subst hr
      have k3 : w2 9 = _ := hF2 9 (by omega) (by omega) (by omega)
      rw [k1] at k3
      have k4 : w2 32 = _ := hF2 32 (by omega) (by omega) (by omega)
      rw [k2] at k4
      simp [e0, e1, e7, e16, e17, e18, k3, k4, hlen, show i ≤ 3518437208882 by omega]
      refine ih.out (i + 1) _ _ ⟨.inr ⟨by omega, g + 1, by simp, ?_⟩, by simp [e0], by simp [e1], by simp [e16], by simp [e17], by simp [wrap_succ q' hs1], q'⟩ (by omega)
      rw [List.take_succ_eq_append_getElem (by rw [hzl.out]; exact q'), hz, hes.out]
      exact so_mk (by simp [k4]) (by simp) (by simp)
  · have hie : i = s.length := by omega
    have he := hes.out
    rw [List.take_of_length_le (by rw [hzl.out]; omega)] at he
    subst he
    rcases e7 with ⟨h0, e7⟩ | ⟨h0, g, e7, n, s32⟩
    · have hz0 : Z = [] := List.eq_nil_of_length_eq_zero (by omega)
      simp [e7, hz0]
    · simp [e7, s32, hlen]
      try (rw [← hlen]; simp)
end Go.Proofs.YtoodknhlnifnlaaDoor
