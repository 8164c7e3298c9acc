/- Two descriptions together: contracts. -/
import Derived.Test.YtoodknhlnifnlaaDoorDb
set_option linter.all false
set_option linter.unusedVariables false
set_option linter.unusedSimpArgs false
set_option maxRecDepth 100000
namespace Go.Proofs.YtoodknhlnifnlaaDoor
open Go.RowKit
/-- The error of two descriptions. -/
def faultE (ks : List Int) (ts : List TS) : Int := if kindsB ks then (if ts.all (fitsB ks) then 0 else 190) else 1
abbrev pairE (ks : List Int) (a b : TS) : Int := faultE ks [a, b]
def mixC (lo hi : Int → Int → Int) (x y : Col) : Col := ⟨hi x.nulls y.nulls, hi x.distinct y.distinct, hi x.degree y.degree, lo x.lo y.lo, hi x.hi y.hi⟩
def mixT (lo hi : Int → Int → Int) (a b : TS) : TS := ⟨lo a.low b.low, hi a.rows b.rows, List.zipWith (mixC lo hi) a.cols b.cols⟩
def pairT (lo hi : Int → Int → Int) (ks : List Int) (a b : TS) : TS := if pairE ks a b = 0 then mixT lo hi a b else ⟨0, 0, []⟩
theorem mix_take {α : Type} (f : α → α → α) {l m : List α} {i : Nat} (h : i < l.length) (h' : i < m.length) : (List.zipWith f l m).take (i + 1) = (List.zipWith f l m).take i ++ [f l[i] m[i]] := by
  rw [List.take_add_one]; simp [List.getElem?_zipWith, h, h']
theorem c_lesser_int (a b : Int) : call T n_stats_lesser_int [i6 a, i6 b] = some (i6 (min a b)) := by
  refine go_stats_lesser_int (by simp) ?_
  simp
theorem c_greater_int (a b : Int) : call T n_stats_greater_int [i6 a, i6 b] = some (i6 (max a b)) := by
  refine go_stats_greater_int (by simp) ?_
  simp
theorem c_lesser_int64 (a b : Int) : call T n_stats_lesser_int64 [i6 a, i6 b] = some (i6 (min a b)) := by
  refine go_stats_lesser_int64 (by simp) ?_
  simp
theorem c_greater_int64 (a b : Int) : call T n_stats_greater_int64 [i6 a, i6 b] = some (i6 (max a b)) := by
  refine go_stats_greater_int64 (by simp) ?_
  simp
theorem c_stats_fault (ks : List Int) (ts : List TS) (hl : ks.length ≤ 9223372036854775807) (ht : ts.length ≤ 9223372036854775807) : call T n_stats_fault [.sl false (ks.map u8), .sl false (ts.map (TS.enc false))] = some (i6 (faultE ks ts)) := by
  refine go_stats_fault (by simp) ?_
  generalize hR : faultE ks ts = R; replace hR := Hd.mk hR
  simp [c_stats_listed ks hl]
  refine wpC_split (fun h => ?_) (fun h => ?_) <;> (try simp [*])
  · simp at h
    have e : R = 1 := by rw [← hR.out]; simp [faultE, h]
    simp [e]
  simp at h
  refine wp_rounds (σ := Nat) (fun i e s => e 0 = .sl false (ks.map u8) ∧ e 10 = .sl false (ts.map (TS.enc false)) ∧ e 11 = i6 ts.length ∧ e 12 = i6 i ∧ i ≤ ts.length ∧ Hd (R = if (ts.drop i).all (fitsB ks) then 0 else 190)) (fun i => ts.length - i) ?_ 0 _ _
    ⟨by simp, by simp, by simp, by simp, by omega, Hd.mk (by rw [← hR.out]; simp only [faultE, h, if_true, List.drop_zero])⟩
  rintro i e s ⟨e0, e10, e11, e12, hi, hr⟩ ih
  simp [e0, e10, e11, e12]
  refine wpC_split (fun q => ?_) (fun q => ?_) <;> (have q' := q; try simp at q') <;> (try simp [*])
  · replace hr := Hd.mk (hr.out.trans (by rw [all_drop q']))
    have hf : call T n_stats_Fits [.sl false (ks.map u8), .agg [i6 ts[i].low, i6 ts[i].rows, .sl false (ts[i].cols.map Col.enc)]] = _ := c_stats_Fits ks ts[i] hl
    simp [hf]
    cases hc : fitsB ks ts[i]
    · have e : R = 190 := by rw [hr.out]; simp [hc]
      simp [e]
    · simp [e12]
      refine ih.out (i + 1) _ _ ?_ (by omega)
      exact ⟨by simp [e0], by simp [e10], by simp [e11], by simp [wrap_succ q' ht], q', Hd.mk (by rw [hr.out]; simp [hc])⟩
  · have e : R = 0 := by rw [hr.out, List.drop_eq_nil_of_le q']; rfl
    simp [e]
theorem c_stats_fault2 (ks : List Int) (a b : TS) (hl : ks.length ≤ 9223372036854775807) : call T n_stats_fault [.sl false (ks.map u8), .sl false [a.enc false, b.enc false]] = some (i6 (pairE ks a b)) := c_stats_fault ks [a, b] hl (by simp)
theorem c_stats_fault1 (ks : List Int) (a : TS) (hl : ks.length ≤ 9223372036854775807) : call T n_stats_fault [.sl false (ks.map u8), .sl false [a.enc false]] = some (i6 (faultE ks [a])) := c_stats_fault ks [a] hl (by simp)
/-- The way out of a function that hands back a description. -/
def OutT1 (lo hi : Nat) (s : Sto) (t : TS) (p : Nat) (e' : Env) (s' : Sto) : Prop :=
  Fr lo hi s s' ∧ ∃ o g n x, e' p = .ptr o g 0 ∧ s' o = ⟨g, true, some (.box (.agg [i6 t.low, i6 t.rows, x])), n⟩ ∧ SlAt s' lo hi 5 x (t.cols.map Col.enc)
theorem OutT1.pure {lo hi : Nat} {s : Sto} {t : TS} {p : Nat} {e : Env} {s' : Sto} (h : OutT1 lo hi s t p e s') : resT e s' [.cell p 3 true] = some (t.enc true) := by
  obtain ⟨_, o, g, n, x, h1, h2, h3⟩ := h
  simp [h1, h2, h3.dpn]
theorem OutT1.inl {lo hi : Nat} {s : Sto} {t : TS} {p : Nat} {e : Env} {s' : Sto} (h : OutT1 lo hi s t p e s') : ∃ r, resI e s' [.cell p 3 true] = some r ∧ Fr lo hi s s' ∧ ∃ x, r = .agg [i6 t.low, i6 t.rows, x] ∧ SlAt s' lo hi 5 x (t.cols.map Col.enc) := by
  obtain ⟨h0, o, g, n, x, h1, h2, h3⟩ := h
  exact ⟨.agg [i6 t.low, i6 t.rows, x], by simp [resI, resIL, resIX, h1, h2], h0, x, rfl, h3⟩
theorem nmA_fn (g : Nat) : nmA (.fn g []) = [] := by first | rfl | simp [nmA]
set_option maxHeartbeats 2000000 in
theorem w_stats_together (f1 f2 f3 f4 : Nat) (lo hi : Int → Int → Int) (q1 : ∀ x y, call T f1 [i6 x, i6 y] = some (i6 (lo x y))) (q2 : ∀ x y, call T f2 [i6 x, i6 y] = some (i6 (hi x y))) (q3 : ∀ x y, call T f3 [i6 x, i6 y] = some (i6 (lo x y))) (q4 : ∀ x y, call T f4 [i6 x, i6 y] = some (i6 (hi x y)))
    (a b : TS) (hl : a.cols.length ≤ 3518437208883) (hb : b.cols.length = a.cols.length) (s : Sto) :
    wp T [.code B_stats_together] (ini [a.enc false, b.enc false, .fn f1 [], .fn f2 [], .fn f3 [], .fn f4 []]) s (OutT1 9000 10000 s (mixT lo hi a b) 12) := by
  have hl' : a.cols.length ≤ 9223372036854775807 := by omega
  generalize hC : List.zipWith (mixC lo hi) a.cols b.cols = C
  have hCl : C.length = a.cols.length := by rw [← hC, List.length_zipWith]; omega
  simp [q1, q2, nmA_fn]
  refine wp_rounds (σ := Nat) (fun i e s' => (e 3 = .fn f2 [] ∧ e 4 = .fn f3 [] ∧ e 5 = .fn f4 []) ∧ e 7 = .ptr 9007 ((s 9007).g + 1) 0 ∧ e 12 = .ptr 9012 ((s 9012).g + 1) 0 ∧ (∃ g n x, e 13 = .ptr 9013 g 0 ∧ s' 9013 = ⟨g, true, some (.box (.agg [i6 (lo a.low b.low), i6 (hi a.rows b.rows), x])), n⟩ ∧
      ((i = 0 ∧ x = .nil) ∨ (0 < i ∧ ∃ g' n', x = .ref 9077 g' 5 0 i ∧ s' 9077 = ⟨g', true, some (.row 5 ((C.take i).map Col.enc)), n'⟩))) ∧
      (∃ n, s' 9007 = ⟨(s 9007).g + 1, true, some (.box (b.enc false)), n⟩) ∧ (∃ n, s' 9012 = ⟨(s 9012).g + 1, true, some (.box (.agg [i6 0, i6 0, .nil])), n⟩) ∧ e 31 = .sl false (a.cols.map Col.enc) ∧ e 32 = i6 a.cols.length ∧ e 33 = i6 i ∧ i ≤ a.cols.length ∧ Fr 9000 10000 s s') (fun i => a.cols.length - i) ?_ 0 _ _
    ⟨⟨by simp, by simp, by simp⟩, by simp, by simp, ⟨(s 9013).g + 1, _, .nil, by simp, by simp; rfl, .inl ⟨rfl, rfl⟩⟩, ⟨_, by simp; rfl⟩, ⟨_, by simp; rfl⟩, by simp, by simp, by simp, by omega, (((((Fr.refl _ _ s).newO _ (by omega)).newO _ (by omega)).newO _ (by omega)).newO _ (by omega)).setO _ (by omega)⟩
  rintro i e s' ⟨⟨e3, e4, e5⟩, e7, e12, ⟨g13, n13, x, e13, s13, hx⟩, ⟨n7, s7⟩, ⟨n12, s12⟩, e31, e32, e33, hi', hF⟩ ih
  simp [e31, e32, e33]
  refine wpC_split (fun h => ?_) (fun h => ?_) <;> (have h' := h; try simp at h') <;> (try simp [*])
  · have hb' : i < b.cols.length := by omega
    have hmc : C.take (i + 1) = C.take i ++ [mixC lo hi a.cols[i] b.cols[i]] := by rw [← hC]; exact mix_take _ h' hb'

    have fin : ∀ e' s2, (e' 3 = .fn f2 [] ∧ e' 4 = .fn f3 [] ∧ e' 5 = .fn f4 []) → e' 7 = .ptr 9007 ((s 9007).g + 1) 0 → e' 12 = .ptr 9012 ((s 9012).g + 1) 0 → e' 13 = .ptr 9013 g13 0 →
        (∃ n, s2 9013 = ⟨g13, true, some (.box (.agg [i6 (lo a.low b.low), i6 (hi a.rows b.rows), .ref 9077 (s2 9077).g 5 0 (i + 1)])), n⟩) →
        (∃ n, s2 9077 = ⟨(s2 9077).g, true, some (.row 5 ((C.take i).map Col.enc ++ [(mixC lo hi a.cols[i] b.cols[i]).enc])), n⟩) → (∃ n, s2 9007 = ⟨(s 9007).g + 1, true, some (.box (b.enc false)), n⟩) →
        (∃ n, s2 9012 = ⟨(s 9012).g + 1, true, some (.box (.agg [i6 0, i6 0, .nil])), n⟩) → e' 31 = .sl false (a.cols.map Col.enc) → e' 32 = i6 a.cols.length → e' 33 = i6 ((i + 1 : Nat) : Int) → Fr 9000 10000 s s2 →
        wp T [.lp stats_together_l1, .bl 0, .code ((IC.ops stats_together_r8).seq IC.ret)] e' s2 (OutT1 9000 10000 s (mixT lo hi a b) 12) := by
      intro e' s2 y3 y7 y12 y13 ⟨n, z13⟩ ⟨m, z77⟩ z7 z12 y31 y32 y33 hF2
      refine ih.out (i + 1) _ _ ⟨y3, y7, y12, ⟨g13, n, _, y13, z13, .inr ⟨by omega, _, m, rfl, ?_⟩⟩, z7, z12, y31, y32, y33, h', hF2⟩ (by omega)
      rw [hmc, List.map_append, List.map_cons, List.map_nil]; exact z77
    replace fin := Hd.mk fin
    rcases hx with ⟨hi0, rfl⟩ | ⟨hi0, g', n', rfl, s77⟩
    · have ht0 : C.take i = [] := by rw [hi0]; rfl
      simp [e13, e33, s13]
      refine fin.out _ _ (by simp [e3, e4, e5]) (by simp [e7]) (by simp [e12]) (by simp [e13]) (so_mk (by simp [s13]) (by simp [s13]) (by simp [s13, hi0])) (so_mk (by simp) (by simp) (by simp [ht0, mixC])) (so_mk (by simp [s7]) (by simp [s7]) (by simp [s7])) (so_mk (by simp [s12]) (by simp [s12]) (by simp [s12])) (by simp [e31]) (by simp [e32]) (by simp [wrap_succ h' hl']) ?_
      exact (((((hF.newO _ (by omega)).setO _ (by omega)).newO _ (by omega)).setO _ (by omega)).newO _ (by omega)).setO _ (by omega)
    · simp [e13, e33, s13, s77]
      rw [if_pos ⟨by omega, by omega⟩]
      simp [e13, e33, s13, s77]
      refine fin.out _ _ (by simp [e3, e4, e5]) (by simp [e7]) (by simp [e12]) (by simp [e13]) (so_mk (by simp [s13]) (by simp [s13]) (by simp [s13, s77])) (so_mk (by simp) (by simp) (by simp [mixC, List.map_take])) (so_mk (by simp [s7]) (by simp [s7]) (by simp [s7])) (so_mk (by simp [s12]) (by simp [s12]) (by simp [s12])) (by simp [e31]) (by simp [e32]) (by simp [wrap_succ h' hl']) ?_
      exact (((((hF.newO _ (by omega)).setO _ (by omega)).newO _ (by omega)).setO _ (by omega)).newO _ (by omega)).setO _ (by omega)
  · have hie : i = a.cols.length := by omega
    subst hie
    have htk : C.take a.cols.length = C := List.take_of_length_le (by omega)
    rw [htk] at hx
    have hone : x.one = true := by rcases hx with ⟨_, rfl⟩ | ⟨_, g', n', rfl, _⟩ <;> rfl
    simp [hone, e12, e13, s13, s12]
    refine ⟨hF.setO _ (by omega), 9012, (s 9012).g + 1, n12 + 1, x, by simp [e12], by simp [s12, mixT], ?_⟩
    have hC' : (mixT lo hi a b).cols = C := hC
    rw [hC']
    rcases hx with ⟨h0, rfl⟩ | ⟨h0, g', n', rfl, s77⟩
    · exact .inl ⟨by rw [List.eq_nil_of_length_eq_zero (hCl.trans h0)]; rfl, rfl⟩
    · refine .inr ⟨?_, 9077, g', n', by simp [hCl], by simp [s77], by omega, by omega⟩
      intro hc
      have := congrArg List.length hc
      simp only [List.length_map, List.length_nil] at this
      omega
theorem wpR_ex1 {oc : Option (X × Sto)} {P : X × Sto → Prop} {d : Option Nat} {l : List GOp} {its : List It} {e : Env} {Q : Env → Sto → Prop} (h : ∃ r, oc = some r ∧ P r)
    (k : ∀ r, P r → wpR T (some r) d l its e Q) : wpR T oc d l its e Q := by
  obtain ⟨r, rfl, hr⟩ := h
  exact k r hr
theorem i_stats_together (f1 f2 f3 f4 : Nat) (lo hi : Int → Int → Int) (q1 : ∀ x y, call T f1 [i6 x, i6 y] = some (i6 (lo x y))) (q2 : ∀ x y, call T f2 [i6 x, i6 y] = some (i6 (hi x y))) (q3 : ∀ x y, call T f3 [i6 x, i6 y] = some (i6 (lo x y))) (q4 : ∀ x y, call T f4 [i6 x, i6 y] = some (i6 (hi x y)))
    (a b : TS) (hl : a.cols.length ≤ 3518437208883) (hb : b.cols.length = a.cols.length) (s : Sto) :
    ∃ r, callI (run T) T n_stats_together [.agg [i6 a.low, i6 a.rows, .sl false (a.cols.map Col.enc)], .agg [i6 b.low, i6 b.rows, .sl false (b.cols.map Col.enc)], .fn f1 [], .fn f2 [], .fn f3 [], .fn f4 []] s = some r ∧ Fr 9000 10000 s r.2 ∧ ∃ x, r.1 = .agg [i6 (mixT lo hi a b).low, i6 (mixT lo hi a b).rows, x] ∧ SlAt r.2 9000 10000 5 x ((mixT lo hi a b).cols.map Col.enc) :=
  callI_wp (nt := 81) (res := [.cell 12 3 true]) (body := B_stats_together) (P := fun r => Fr 9000 10000 s r.2 ∧ ∃ x, r.1 = .agg [i6 (mixT lo hi a b).low, i6 (mixT lo hi a b).rows, x] ∧ SlAt r.2 9000 10000 5 x ((mixT lo hi a b).cols.map Col.enc)) (by kernel_rfl) (by simp) (wp_mono (w_stats_together f1 f2 f3 f4 lo hi q1 q2 q3 q4 a b hl hb s) (fun e s' h => h.inl))
theorem Fr.wide {lo hi lo' hi' : Nat} {s s' : Sto} (h : Fr lo hi s s') (h1 : lo' ≤ lo) (h2 : hi ≤ hi') : Fr lo' hi' s s' := ⟨fun o ho => h.out o (by omega)⟩
theorem SlAt.wide {s : Sto} {lo hi lo' hi' k : Nat} {x : X} {es : List X} (h : SlAt s lo hi k x es) (h1 : lo' ≤ lo) (h2 : hi ≤ hi') : SlAt s lo' hi' k x es := by
  rcases h with h | ⟨h0, o, g, n, rfl, h, h3, h4⟩
  · exact .inl h
  · exact .inr ⟨h0, o, g, n, rfl, h, by omega, by omega⟩
theorem w_stats_Either (ks : List Int) (a b : TS) (hl : ks.length ≤ 9223372036854775807) (ha : a.cols.length ≤ 3518437208883) (s : Sto) :
    wp T [.code B_stats_Either] (ini [.sl false (ks.map u8), a.enc false, b.enc false]) s (OutTS 7000 10000 s (pairT min max ks a b) (pairE ks a b) 6 7) := by
  have f1 : call T n_stats_fault [.sl false (ks.map u8), .sl false [.agg [i6 a.low, i6 a.rows, .sl false (a.cols.map Col.enc)], .agg [i6 b.low, i6 b.rows, .sl false (b.cols.map Col.enc)]]] = some (i6 (pairE ks a b)) := c_stats_fault2 ks a b hl
  have hlen : pairE ks a b = 0 → b.cols.length = a.cols.length := by
    intro h
    have h' : fitsB ks a = true ∧ fitsB ks b = true := by
      cases hk : kindsB ks <;> cases ha : fitsB ks a <;> cases hb : fitsB ks b <;> simp [faultE, hk, ha, hb] at h <;> simp
    exact (fits_len h'.2).trans (fits_len h'.1).symm
  generalize hr : pairE ks a b = R at *
  generalize ht : pairT min max ks a b = t at *
  have ht0 : ¬ R = 0 → t = ⟨0, 0, []⟩ := by intro h; rw [← ht]; simp only [pairT, hr, if_neg h]
  have ht1 : R = 0 → t = mixT min max a b := by intro h; rw [← ht]; simp only [pairT, hr, if_pos h]
  clear ht hr
  simp [f1]
  refine wpC_split (fun h => ?_) (fun h => ?_) <;> (try simp [*])
  · simp at h
    obtain rfl := ht0 h
    refine ⟨((((((Fr.refl _ _ s).newO _ (by omega)).newO _ (by omega)).newO _ (by omega)).newO _ (by omega))).setO _ (by omega), 7006, (s 7006).g + 1, _, .nil, by simp, by simp; rfl, .inl ⟨rfl, rfl⟩, by simp⟩
  · simp at h
    obtain rfl := ht1 h
    refine wpR_ex1 (i_stats_together _ _ _ _ min max c_lesser_int c_greater_int c_lesser_int64 c_greater_int64 a b ha (hlen h) _) ?_
    rintro ⟨r, s1⟩ ⟨hF, x, rfl, hx⟩
    have h6 : s1 7006 = _ := hF.out 7006 (by omega)
    simp at h6
    simp [h6, hx.one.1, hx.one.2]
    refine ⟨((((((Fr.refl 7000 10000 s).newO _ (by omega)).newO _ (by omega)).newO _ (by omega)).newO _ (by omega)).trans (hF.wide (by omega) (by omega))).setO _ (by omega), 7006, (s 7006).g + 1, _, x, by simp, by simp [h6]; rfl,
      (hx.fr ((Fr.refl 7006 7007 s1).setO _ (by omega)) (by omega)).wide (by omega) (by omega), by simp [h]⟩
theorem i_stats_Either (ks : List Int) (a b : TS) (hl : ks.length ≤ 9223372036854775807) (ha : a.cols.length ≤ 3518437208883) (s : Sto) :
    ∃ r, callI (run T) T n_stats_Either [.sl false (ks.map u8), .agg [i6 a.low, i6 a.rows, .sl false (a.cols.map Col.enc)], .agg [i6 b.low, i6 b.rows, .sl false (b.cols.map Col.enc)]] s = some r ∧ Fr 7000 10000 s r.2 ∧ ∃ x, r.1 = .tup [.agg [i6 (pairT min max ks a b).low, i6 (pairT min max ks a b).rows, x], i6 (pairE ks a b)] ∧ SlAt r.2 7000 10000 5 x ((pairT min max ks a b).cols.map Col.enc) :=
  callI_wp (nt := 21) (res := [.cell 6 3 true, .tmp 7]) (body := B_stats_Either) (P := fun r => Fr 7000 10000 s r.2 ∧ ∃ x, r.1 = .tup [.agg [i6 (pairT min max ks a b).low, i6 (pairT min max ks a b).rows, x], i6 (pairE ks a b)] ∧ SlAt r.2 7000 10000 5 x ((pairT min max ks a b).cols.map Col.enc)) (by kernel_rfl) (by simp) (wp_mono (w_stats_Either ks a b hl ha s) (fun e s' h => h.inl))
theorem w_stats_Both (ks : List Int) (a b : TS) (hl : ks.length ≤ 9223372036854775807) (ha : a.cols.length ≤ 3518437208883) (s : Sto) :
    wp T [.code B_stats_Both] (ini [.sl false (ks.map u8), a.enc false, b.enc false]) s (OutTS 7000 10000 s (pairT max min ks a b) (pairE ks a b) 6 7) := by
  have f1 : call T n_stats_fault [.sl false (ks.map u8), .sl false [.agg [i6 a.low, i6 a.rows, .sl false (a.cols.map Col.enc)], .agg [i6 b.low, i6 b.rows, .sl false (b.cols.map Col.enc)]]] = some (i6 (pairE ks a b)) := c_stats_fault2 ks a b hl
  have hlen : pairE ks a b = 0 → b.cols.length = a.cols.length := by
    intro h
    have h' : fitsB ks a = true ∧ fitsB ks b = true := by
      cases hk : kindsB ks <;> cases ha : fitsB ks a <;> cases hb : fitsB ks b <;> simp [faultE, hk, ha, hb] at h <;> simp
    exact (fits_len h'.2).trans (fits_len h'.1).symm
  generalize hr : pairE ks a b = R at *
  generalize ht : pairT max min ks a b = t at *
  have ht0 : ¬ R = 0 → t = ⟨0, 0, []⟩ := by intro h; rw [← ht]; simp only [pairT, hr, if_neg h]
  have ht1 : R = 0 → t = mixT max min a b := by intro h; rw [← ht]; simp only [pairT, hr, if_pos h]
  clear ht hr
  simp [f1]
  refine wpC_split (fun h => ?_) (fun h => ?_) <;> (try simp [*])
  · simp at h
    obtain rfl := ht0 h
    refine ⟨((((((Fr.refl _ _ s).newO _ (by omega)).newO _ (by omega)).newO _ (by omega)).newO _ (by omega))).setO _ (by omega), 8006, (s 8006).g + 1, _, .nil, by simp, by simp; rfl, .inl ⟨rfl, rfl⟩, by simp⟩
  · simp at h
    obtain rfl := ht1 h
    refine wpR_ex1 (i_stats_together _ _ _ _ max min c_greater_int c_lesser_int c_greater_int64 c_lesser_int64 a b ha (hlen h) _) ?_
    rintro ⟨r, s1⟩ ⟨hF, x, rfl, hx⟩
    have h6 : s1 8006 = _ := hF.out 8006 (by omega)
    simp at h6
    simp [h6, hx.one.1, hx.one.2]
    refine ⟨((((((Fr.refl 7000 10000 s).newO _ (by omega)).newO _ (by omega)).newO _ (by omega)).newO _ (by omega)).trans (hF.wide (by omega) (by omega))).setO _ (by omega), 8006, (s 8006).g + 1, _, x, by simp, by simp [h6]; rfl,
      (hx.fr ((Fr.refl 8006 8007 s1).setO _ (by omega)) (by omega)).wide (by omega) (by omega), by simp [h]⟩
theorem i_stats_Both (ks : List Int) (a b : TS) (hl : ks.length ≤ 9223372036854775807) (ha : a.cols.length ≤ 3518437208883) (s : Sto) :
    ∃ r, callI (run T) T n_stats_Both [.sl false (ks.map u8), .agg [i6 a.low, i6 a.rows, .sl false (a.cols.map Col.enc)], .agg [i6 b.low, i6 b.rows, .sl false (b.cols.map Col.enc)]] s = some r ∧ Fr 7000 10000 s r.2 ∧ ∃ x, r.1 = .tup [.agg [i6 (pairT max min ks a b).low, i6 (pairT max min ks a b).rows, x], i6 (pairE ks a b)] ∧ SlAt r.2 7000 10000 5 x ((pairT max min ks a b).cols.map Col.enc) :=
  callI_wp (nt := 21) (res := [.cell 6 3 true, .tmp 7]) (body := B_stats_Both) (P := fun r => Fr 7000 10000 s r.2 ∧ ∃ x, r.1 = .tup [.agg [i6 (pairT max min ks a b).low, i6 (pairT max min ks a b).rows, x], i6 (pairE ks a b)] ∧ SlAt r.2 7000 10000 5 x ((pairT max min ks a b).cols.map Col.enc)) (by kernel_rfl) (by simp) (wp_mono (w_stats_Both ks a b hl ha s) (fun e s' h => h.inl))
end Go.Proofs.YtoodknhlnifnlaaDoor

/- The reference's Either and Both: contracts. -/
set_option linter.unusedVariables false
set_option linter.unusedSimpArgs false
set_option maxRecDepth 100000
namespace Go.Proofs.YtoodknhlnifnlaaDoor
open Go.RowKit
end Go.Proofs.YtoodknhlnifnlaaDoor
