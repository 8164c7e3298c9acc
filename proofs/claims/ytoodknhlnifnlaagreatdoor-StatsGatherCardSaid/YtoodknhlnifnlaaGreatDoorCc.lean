/- Plain laws: the description of a column. -/
import Derived.Test.YtoodknhlnifnlaaGreatDoorCb
set_option linter.all false
set_option linter.unusedVariables false
set_option linter.unusedSimpArgs false
namespace Go.Proofs.YtoodknhlnifnlaaGreatDoor
abbrev Key := Int × Int × List UInt8
def Val.key (v : Val) : Key := (v.kind, v.int, v.text.toList)
theorem same_key (a b : Val) : a.same b = decide (a.key = b.key) := by
  simp only [Val.same, Val.key, Prod.mk.injEq]
  by_cases h1 : a.kind = b.kind <;> by_cases h2 : a.int = b.int <;> by_cases h3 : a.text.toList = b.text.toList <;> simp [h1, h2, h3]
/-- The values that are not null. -/
def nz (vs : List Val) : List Val := vs.filter fun v => !decide (v.kind = 0)
def keys (vs : List Val) : List Key := (nz vs).map Val.key
def addK (a : List Key) (k : Key) : List Key := if k ∈ a then a else a ++ [k]
def firsts (l : List Key) : List Key := l.foldl addK []
theorem firsts_snoc' (l : List Key) (k : Key) : firsts (l ++ [k]) = addK (firsts l) k := by
  simp only [firsts, List.foldl_append, List.foldl_cons, List.foldl_nil]
theorem firsts_in {l : List Key} {k : Key} (h : k ∈ firsts l) : firsts (l ++ [k]) = firsts l := by
  rw [firsts_snoc']; unfold addK; rw [if_pos h]
theorem firsts_new {l : List Key} {k : Key} (h : ¬ k ∈ firsts l) : firsts (l ++ [k]) = firsts l ++ [k] := by
  rw [firsts_snoc']; unfold addK; rw [if_neg h]
theorem mem_addK (a : List Key) (x k : Key) : k ∈ addK a x ↔ k ∈ a ∨ k = x := by
  unfold addK
  split
  · rename_i h
    constructor
    · exact .inl
    · rintro (h' | rfl)
      · exact h'
      · exact h
  · simp
theorem mem_firsts (l : List Key) (k : Key) : k ∈ firsts l ↔ k ∈ l := by
  have : ∀ (l a : List Key), k ∈ l.foldl addK a ↔ k ∈ a ∨ k ∈ l := by
    intro l
    induction l with
    | nil => simp
    | cons x l ih =>
      intro a
      rw [List.foldl_cons, ih, mem_addK, List.mem_cons, or_assoc]
  have h := this l []
  rw [show (k ∈ ([] : List Key)) = False by simp, false_or] at h
  exact h
def maxL (l : List Nat) : Nat := l.foldl max 0
theorem foldl_max (l : List Nat) : ∀ a, l.foldl max a = max a (maxL l) := by
  induction l with
  | nil => intro a; simp [maxL]
  | cons x l ih =>
    intro a
    simp only [maxL, List.foldl_cons]
    rw [ih, ih (max 0 x)]
    omega
theorem maxL_snoc (l : List Nat) (x : Nat) : maxL (l ++ [x]) = max (maxL l) x := by
  simp [maxL, List.foldl_append]
theorem maxL_le {l : List Nat} {b : Nat} : maxL l ≤ b ↔ ∀ x ∈ l, x ≤ b := by
  induction l with
  | nil => simp [maxL]
  | cons x l ih =>
    have : maxL (x :: l) = max x (maxL l) := by
      simp only [maxL, List.foldl_cons]; rw [foldl_max]; simp [maxL]
    rw [this]
    simp only [List.mem_cons, forall_eq_or_imp]
    rw [← ih]
    omega
/-- How often the most frequent one comes. -/
def deg (l : List Key) : Nat := maxL (l.map fun k => l.count k)
theorem deg_snoc (l : List Key) (k : Key) : deg (l ++ [k]) = max (deg l) ((l ++ [k]).count k) := by
  apply Nat.le_antisymm
  · rw [deg, maxL_le]
    intro x hx
    obtain ⟨u, hu, rfl⟩ := List.mem_map.1 hx
    by_cases h : u = k
    · subst h; omega
    · have h1 : (l ++ [k]).count u = l.count u := by
        rw [List.count_append]
        have : [k].count u = 0 := by
          rw [List.count_eq_zero]; simp [h]
        omega
      have h2 : u ∈ l := by
        rcases List.mem_append.1 hu with h' | h'
        · exact h'
        · exact absurd (List.mem_singleton.1 h') h
      have h3 : l.count u ≤ deg l := (maxL_le (b := deg l)).1 (Nat.le_refl _) _ (List.mem_map.2 ⟨u, h2, rfl⟩)
      omega
  · have h1 : (l ++ [k]).count k ≤ deg (l ++ [k]) := (maxL_le (b := deg (l ++ [k]))).1 (Nat.le_refl _) _ (List.mem_map.2 ⟨k, by simp, rfl⟩)
    have h2 : deg l ≤ deg (l ++ [k]) := by
      rw [deg, maxL_le]
      intro x hx
      obtain ⟨u, hu, rfl⟩ := List.mem_map.1 hx
      have h3 : (l ++ [k]).count u ≤ deg (l ++ [k]) := (maxL_le (b := deg (l ++ [k]))).1 (Nat.le_refl _) _ (List.mem_map.2 ⟨u, by simp [hu], rfl⟩)
      have : l.count u ≤ (l ++ [k]).count u := by rw [List.count_append]; omega
      omega
    omega
def loV (vs : List Val) : Int := (vs.map Val.int).foldl min 9223372036854775807
def hiV (vs : List Val) : Int := (vs.map Val.int).foldl max (-9223372036854775808)
/-- The exact description of a column. -/
def colS (kind : Int) (vs : List Val) : Col where
  nulls := (vs.countP fun v => decide (v.kind = 0) : Nat)
  distinct := (firsts (keys vs)).length
  degree := deg (keys vs)
  lo := if kind = 1 then (if nz vs = [] then 1 else loV (nz vs)) else 0
  hi := if kind = 1 then (if nz vs = [] then 0 else hiV (nz vs)) else 0
theorem nz_snoc (l : List Val) (v : Val) : nz (l ++ [v]) = if v.kind = 0 then nz l else nz l ++ [v] := by
  by_cases h : v.kind = 0 <;> simp [nz, List.filter_append, h]
theorem keys_snoc (l : List Val) (v : Val) : keys (l ++ [v]) = if v.kind = 0 then keys l else keys l ++ [v.key] := by
  unfold keys; rw [nz_snoc]; split <;> simp
theorem countP_snoc (l : List Val) (p : Val → Bool) (v : Val) : (l ++ [v]).countP p = l.countP p + if p v then 1 else 0 := by
  rw [List.countP_append, List.countP_singleton]
theorem loV_snoc (l : List Val) (v : Val) : loV (l ++ [v]) = min (loV l) v.int := by simp [loV, List.foldl_append]
theorem hiV_snoc (l : List Val) (v : Val) : hiV (l ++ [v]) = max (hiV l) v.int := by simp [hiV, List.foldl_append]
theorem addK_len (a : List Key) (k : Key) : (addK a k).length ≤ a.length + 1 := by
  unfold addK; split <;> simp
theorem firsts_len (l : List Key) : (firsts l).length ≤ l.length := by
  have : ∀ (l a : List Key), (l.foldl addK a).length ≤ a.length + l.length := by
    intro l
    induction l with
    | nil => simp
    | cons x l ih =>
      intro a
      rw [List.foldl_cons]
      refine Nat.le_trans (ih _) ?_
      have := addK_len a x
      simp only [List.length_cons]
      omega
  have h := this l []
  rw [List.length_nil, Nat.zero_add] at h
  exact h
theorem firsts_nodup (ks : List Key) : (firsts ks).Nodup := by
  have : ∀ (l a : List Key), a.Nodup → (l.foldl addK a).Nodup := by
    intro l
    induction l with
    | nil => intro a ha; exact ha
    | cons x l ih =>
      intro a ha
      rw [List.foldl_cons]
      apply ih
      unfold addK
      split
      · exact ha
      · rename_i hx
        rw [List.nodup_append]
        refine ⟨ha, by simp, ?_⟩
        intro y hy z hz
        simp only [List.mem_singleton] at hz; subst hz
        rintro rfl; exact hx hy
  exact this ks [] List.nodup_nil
theorem keys_len (vs : List Val) : (keys vs).length ≤ vs.length := by
  simp only [keys, nz, List.length_map]; exact List.length_filter_le _ _
theorem deg_le (l : List Key) : deg l ≤ l.length := by
  rw [deg, maxL_le]; intro x hx; obtain ⟨u, _, rfl⟩ := List.mem_map.1 hx; exact List.count_le_length
/-- The entries of a map that counts. -/
abbrev entX (p : Val × Int) : X × X := (p.1.enc, i6 p.2)
theorem mfind_enc (es : List (Val × Int)) (v : Val) : mfind [.i, .i, .s] true v.enc (es.map entX) = some (es.findIdx? fun p => v.same p.1) := by
  induction es with
  | nil => rfl
  | cons p es ih =>
    have h : eqX [.i, .i, .s] true v.enc p.1.enc = some (v.same p.1) := by
      simp [eqX, Val.same, Bool.and_assoc]
    simp only [List.map_cons, mfind, entX, h, List.findIdx?_cons]
    cases hs : v.same p.1
    · simp only [Bool.false_eq_true, if_false]; rw [ih]
    · simp
def bump (es : List (Val × Int)) (v : Val) : List (Val × Int) := match es.findIdx? fun p => v.same p.1 with
  | some i => es.modify i fun p => (p.1, p.2 + 1)
  | none => es ++ [(v, 1)]
/-- What the map holds behind some values. -/
structure Counts (es : List (Val × Int)) (ks : List Key) : Prop where
  keys : es.map (fun p => p.1.key) = firsts ks
  counts : ∀ p ∈ es, p.2 = (ks.count p.1.key : Nat)
theorem Counts.nil : Counts [] [] := ⟨rfl, by simp⟩
theorem Counts.find_none {es : List (Val × Int)} {ks : List Key} (h : Counts es ks) {v : Val} (hf : es.findIdx? (fun p => v.same p.1) = none) : ¬ v.key ∈ ks := by
  rw [← mem_firsts, ← h.keys]
  intro hm
  obtain ⟨p, hp, hk⟩ := List.mem_map.1 hm
  have := List.findIdx?_eq_none_iff.1 hf p hp
  rw [same_key] at this
  simp [hk] at this
theorem Counts.find_some {es : List (Val × Int)} {ks : List Key} (h : Counts es ks) {v : Val} {i : Nat} (hf : es.findIdx? (fun p => v.same p.1) = some i) : ∃ p, es[i]? = some p ∧ p.1.key = v.key ∧ p.2 = (ks.count v.key : Nat) ∧ v.key ∈ ks ∧ i < es.length := by
  obtain ⟨hi, h1, h2⟩ := List.findIdx?_eq_some_iff_getElem.1 hf
  rw [same_key] at h1
  have hk : es[i].1.key = v.key := (of_decide_eq_true h1).symm
  refine ⟨es[i], by simp [hi], hk, ?_, ?_, hi⟩
  · rw [h.counts es[i] (List.getElem_mem hi), hk]
  · rw [← mem_firsts, ← h.keys, ← hk]
    exact List.mem_map.2 ⟨es[i], List.getElem_mem hi, rfl⟩
theorem Counts.bump {es : List (Val × Int)} {ks : List Key} (h : Counts es ks) (v : Val) : Counts (bump es v) (ks ++ [v.key]) := by
  unfold Go.Proofs.YtoodknhlnifnlaaGreatDoor.bump
  split
  · rename_i i hf
    obtain ⟨p, hp, hk, hc, hm, hi⟩ := h.find_some hf
    have hfm : v.key ∈ firsts ks := (mem_firsts _ _).2 hm
    refine ⟨?_, ?_⟩
    · rw [firsts_in hfm, ← h.keys]
      apply List.ext_getElem (by simp)
      intro n h1 h2
      simp only [List.getElem_map, List.getElem_modify]
      split <;> rfl
    · intro q hq
      obtain ⟨n, hn, rfl⟩ := List.mem_iff_getElem.1 hq
      have hnl : n < es.length := by simpa using hn
      rw [List.getElem_modify]
      have hnd := firsts_nodup ks
      by_cases hin : i = n
      · subst hin
        have he : es[i] = p := by simpa [hi] using hp
        simp only [if_true, he]
        rw [hc, hk, List.count_append]
        simp
      · simp only [hin, if_false]
        have hne : es[n].1.key ≠ v.key := by
          intro he
          rw [← h.keys] at hnd
          have h1 : (es.map fun p => p.1.key)[n]'(by simpa using hnl) = (es.map fun p => p.1.key)[i]'(by simpa using hi) := by
            simp only [List.getElem_map]
            rw [he, ← hk]
            have : es[i] = p := by simpa [hi] using hp
            rw [this]
          exact hin ((List.getElem_inj hnd).1 h1).symm
        rw [h.counts es[n] (List.getElem_mem hnl), List.count_append]
        have : [v.key].count es[n].1.key = 0 := by rw [List.count_eq_zero]; simp [hne]
        omega
  · rename_i hf
    have hm := h.find_none hf
    have hfm : ¬ v.key ∈ firsts ks := fun x => hm ((mem_firsts _ _).1 x)
    refine ⟨?_, ?_⟩
    · rw [firsts_new hfm, ← h.keys]; simp
    · intro q hq
      rcases List.mem_append.1 hq with hq | hq
      · have hqk : q.1.key ∈ ks := by
          rw [← mem_firsts, ← h.keys]; exact List.mem_map.2 ⟨q, hq, rfl⟩
        have hne : q.1.key ≠ v.key := fun e => hm (e ▸ hqk)
        rw [h.counts q hq, List.count_append]
        have : [v.key].count q.1.key = 0 := by rw [List.count_eq_zero]; simp [hne]
        omega
      · simp only [List.mem_singleton] at hq
        subst hq
        rw [List.count_append, List.count_eq_zero.2 hm]
        simp
end Go.Proofs.YtoodknhlnifnlaaGreatDoor

/- Contracts: the description of a column. -/
set_option linter.unusedVariables false
set_option linter.unusedSimpArgs false
set_option maxRecDepth 100000
namespace Go.Proofs.YtoodknhlnifnlaaGreatDoor
open Go.RowKit
def v0 : Val := ⟨0, 0, ⟨#[]⟩⟩
def colV (rows : List (List Val)) (j : Nat) : List Val := rows.map fun r => r.getD j v0
theorem colV_get {rows : List (List Val)} {j i : Nat} (h : i < rows.length) (hj : j < rows[i].length) : (colV rows j)[i]? = some rows[i][j] := by
  simp [colV, h, hj]
theorem colV_take {rows : List (List Val)} {j i : Nat} (h : i < rows.length) (hj : j < rows[i].length) : (colV rows j).take (i + 1) = (colV rows j).take i ++ [rows[i][j]] := by
  rw [List.take_add_one, colV_get h hj]; rfl
theorem colV_len (rows : List (List Val)) (j : Nat) : (colV rows j).length = rows.length := by simp [colV]
theorem c_jointerref19_often (rows : List (List Val)) (j : Nat) (v : Val) (hl : rows.length ≤ 9223372036854775807) (hj : ∀ r ∈ rows, j < r.length) :
    call T n_jointerref19_often [.sl false (rows.map rowX), i6 j, v.enc] = some (i6 ((colV rows j).countP (fun u => u.same v) : Nat)) := by
  refine go_jointerref19_often (by simp) ?_
  generalize hR : (((colV rows j).countP (fun u => u.same v) : Nat) : Int) = R; replace hR := Hd.mk hR
  simp
  refine wp_rounds (σ := Nat) (fun i e s => e 0 = .sl false (rows.map rowX) ∧ e 1 = i6 j ∧ e 5 = .ptr 5 1 0 ∧ (∃ n, s 5 = ⟨1, true, some (.box v.enc), n⟩) ∧ e 7 = i6 (((colV rows j).take i).countP (fun u => u.same v) : Nat) ∧ e 8 = i6 i ∧ i ≤ rows.length) (fun i => rows.length - i) ?_ 0 _ _ ⟨rfl, rfl, rfl, ⟨_, rfl⟩, by simp, rfl, by omega⟩
  rintro i e s ⟨e0, e1, e5, ⟨n, s5⟩, e7, e8, hi⟩ ih
  simp [e0, e1, e5, s5, e7, e8]
  refine wpC_split (fun h => ?_) (fun h => ?_) <;> (have h' := h; try simp at h') <;> (try simp [*])
  · have hjr : j < rows[i].length := hj _ (List.getElem_mem h')
    have hc : ((colV rows j).take i).countP (fun u => u.same v) ≤ i := by
      refine Nat.le_trans List.countP_le_length ?_
      rw [List.length_take]; omega
    simp [hjr, c_jointerref01_Same]
    refine wpC_split (fun g => ?_) (fun g => ?_) <;> (have g' := g; try simp at g') <;> (try simp [*])
    · refine ih.out (i + 1) _ _ ?_ (by omega)
      refine ⟨by simp [e0], by simp [e1], by simp [e5], ⟨n, s5⟩, ?_, by simp [e8, wrap_succ h' hl], h'⟩
      rw [colV_take h' hjr, countP_snoc, g]
      have := wrap_succ (i := ((colV rows j).take i).countP (fun u => u.same v)) (n := rows.length) (by omega) hl
      simp [e7, this]
    · refine ih.out (i + 1) _ _ ?_ (by omega)
      refine ⟨by simp [e0], by simp [e1], by simp [e5], ⟨n, s5⟩, ?_, by simp [e8, wrap_succ h' hl], h'⟩
      rw [colV_take h' hjr, countP_snoc, g]
      simp [e7]
  · rw [← hR.out, List.take_of_length_le (by rw [colV_len]; omega)]
theorem colV_take' (rows : List (List Val)) (j i : Nat) : colV (rows.take i) j = (colV rows j).take i := by simp [colV]
theorem c_often_take (rows : List (List Val)) (j i : Nat) (v : Val) (hl : rows.length ≤ 9223372036854775807) (hj : ∀ r ∈ rows, j < r.length) :
    call T n_jointerref19_often [.sl false ((rows.map rowX).take i), i6 j, v.enc] = some (i6 (((colV rows j).take i).countP (fun u => u.same v) : Nat)) := by
  rw [← List.map_take, ← colV_take']
  exact c_jointerref19_often _ j v (by rw [List.length_take]; omega) fun r hr => hj r (List.mem_of_mem_take hr)
theorem valid_null {v : Val} (h : v.valid = true) : v.same v0 = decide (v.kind = 0) := by
  have e : v0.text.toList = [] := by decide +kernel
  by_cases hk : v.kind = 0
  · simp only [Val.valid, hk, if_true, Bool.and_eq_true, decide_eq_true_eq, List.isEmpty_iff] at h
    simp only [Val.same, v0, hk, h.1, decide_true, Bool.true_and] at e ⊢
    rw [h.2, e]; rfl
  · simp [Val.same, v0, hk]
theorem count_key {l : List Val} {v : Val} (hk : ¬ v.kind = 0) : l.countP (fun u => u.same v) = (keys l).count v.key := by
  induction l with
  | nil => rfl
  | cons u l ih =>
    rw [List.countP_cons, ih, same_key]
    by_cases hu : u.kind = 0
    · have : ¬ u.key = v.key := fun h => hk (by have := congrArg Prod.fst h; simp only [Val.key] at this; omega)
      simp [keys, nz, hu, this]
    · by_cases he : u.key = v.key <;> simp [keys, nz, hu, he, List.count_cons]
theorem keys_empty (l : List Val) : (firsts (keys l)).length = 0 ↔ nz l = [] := by
  constructor
  · intro h
    cases hn : nz l with
    | nil => rfl
    | cons v r =>
      have : v.key ∈ firsts (keys l) := by rw [mem_firsts, keys, hn]; simp
      rw [List.length_eq_zero_iff.1 h] at this
      cases this
  · intro h; simp [keys, h, firsts]
/-- The description of a column as the reference makes it, some rows done. -/
def colR (kind : Int) (all l : List Val) : Col where
  nulls := (all.countP fun v => decide (v.kind = 0) : Nat)
  distinct := (firsts (keys l)).length
  degree := maxL ((keys l).map fun k => (keys all).count k)
  lo := if kind = 1 then (if nz l = [] then 1 else loV (nz l)) else 0
  hi := if kind = 1 then (if nz l = [] then 0 else hiV (nz l)) else 0
theorem colR_all (kind : Int) (l : List Val) : colR kind l l = colS kind l := rfl
theorem firsts_add (l : List Key) (k : Key) : (firsts (l ++ [k])).length = (firsts l).length + if k ∈ l then 0 else 1 := by
  by_cases h : k ∈ firsts l
  · rw [firsts_in h, if_pos ((mem_firsts _ _).1 h)]; rfl
  · rw [firsts_new h, if_neg (fun x => h ((mem_firsts _ _).2 x))]; simp
theorem loV_one (v : Val) (h : v.ok) : loV [v] = v.int := by
  simp only [loV, List.map_cons, List.map_nil, List.foldl_cons, List.foldl_nil]; have := h.2; omega
theorem hiV_one (v : Val) (h : v.ok) : hiV [v] = v.int := by
  simp only [hiV, List.map_cons, List.map_nil, List.foldl_cons, List.foldl_nil]; have := h.1; omega
theorem colR_snoc (kind : Int) (all l : List Val) (v : Val) (hk : ¬ v.kind = 0) (hok : v.ok) : colR kind all (l ++ [v]) =
    ⟨(colR kind all l).nulls, (colR kind all l).distinct + (if v.key ∈ keys l then 0 else 1), max (colR kind all l).degree ((keys all).count v.key : Nat),
      if kind = 1 then (if nz l = [] then v.int else min (colR kind all l).lo v.int) else 0, if kind = 1 then (if nz l = [] then v.int else max (colR kind all l).hi v.int) else 0⟩ := by
  have h1 := loV_one v hok
  have h2 := hiV_one v hok
  simp only [colR, keys_snoc, nz_snoc, hk, if_false, firsts_add, List.map_append, List.map_cons, List.map_nil, maxL_snoc, loV_snoc, hiV_snoc]
  simp only [Col.mk.injEq, true_and]
  refine ⟨by split <;> simp, by omega, ?_, ?_⟩
  · by_cases h : kind = 1 <;> by_cases hn : nz l = []
    · simp [h, hn, loV] at h1 ⊢; exact h1
    · simp [h, hn]
    · simp [h]
    · simp [h]
  · by_cases h : kind = 1 <;> by_cases hn : nz l = []
    · simp [h, hn, hiV] at h2 ⊢; exact h2
    · simp [h, hn]
    · simp [h]
    · simp [h]
theorem colR_distinct (kind : Int) (all l : List Val) : (colR kind all l).distinct = 0 ↔ nz l = [] := by
  rw [← keys_empty]; simp [colR]
theorem colR_bound (kind : Int) (all l : List Val) : 0 ≤ (colR kind all l).distinct ∧ (colR kind all l).distinct ≤ l.length := by
  have h1 := firsts_len (keys l)
  have h2 := keys_len l
  simp only [colR]; omega
theorem colR_no (kind : Int) (all l : List Val) (h : ¬ kind = 1) : (colR kind all l).lo = 0 ∧ (colR kind all l).hi = 0 := by simp [colR, h]
set_option maxHeartbeats 2000000 in
theorem c_jointerref19_Column (kind : Int) (rows : List (List Val)) (j : Nat) (ho : rowsOk rows) (hj : ∀ r ∈ rows, j < r.length) (hv : ∀ r ∈ rows, ∀ v ∈ r, v.valid = true) :
    call T n_jointerref19_Column [u8 kind, .sl false (rows.map rowX), i6 j] = some (colS kind (colV rows j)).enc := by
  have hl := ho.1
  refine go_jointerref19_Column (by simp) ?_
  have hn0 : (colV rows j).countP (fun u => u.same v0) = (colV rows j).countP fun v => decide (v.kind = 0) := by
    apply List.countP_congr
    intro v hm
    obtain ⟨r, hr, rfl⟩ := List.mem_map.1 hm
    have hjr := hj r hr
    rw [show r.getD j v0 = r[j] by simp [hjr], valid_null (hv r hr _ (List.getElem_mem hjr))]
  have o0 := c_jointerref19_often rows j v0 hl hj
  rw [hn0] at o0
  simp only [v0] at o0
  generalize hR : colS kind (colV rows j) = R; replace hR := Hd.mk hR
  simp [o0]
  have main : ∀ e s, e 0 = u8 kind → e 1 = .sl false (rows.map rowX) → e 2 = i6 j → e 6 = .ptr 6 1 0 → e 7 = .ptr 7 1 0 → e 8 = i6 0 → (∃ n, s 6 = ⟨1, true, some (.box (Col.enc ⟨0, 0, 0, 0, 0⟩)), n⟩) → (∃ n, s 7 = ⟨1, true, some (.box (colR kind (colV rows j) []).enc), n⟩) →
      wp T [.lp jointerref19_Column_l1, .bl 0, .code ((IC.ops jointerref19_Column_r18).seq IC.ret)] e s (fun e s => resX e s (.cell 6 5 true) = some R.enc) := by
    intro e s e0 e1 e2 e6 e7 e8 s6 s7
    refine wp_rounds (σ := Nat) (fun i e s => e 0 = u8 kind ∧ e 1 = .sl false (rows.map rowX) ∧ e 2 = i6 j ∧ e 6 = .ptr 6 1 0 ∧ e 7 = .ptr 7 1 0 ∧ e 8 = i6 i ∧ (∃ n, s 6 = ⟨1, true, some (.box (Col.enc ⟨0, 0, 0, 0, 0⟩)), n⟩) ∧ (∃ n, s 7 = ⟨1, true, some (.box (colR kind (colV rows j) ((colV rows j).take i)).enc), n⟩) ∧ i ≤ rows.length) (fun i => rows.length - i) ?_ 0 _ _ ⟨e0, e1, e2, e6, e7, e8, s6, s7, by omega⟩
    clear e0 e1 e2 e6 e7 e8 s6 s7 e s
    rintro i e s ⟨e0, e1, e2, e6, e7, e8, ⟨n6, s6⟩, ⟨n7, s7⟩, hi⟩ ih
    simp [e0, e1, e2, e6, e7, e8, s6, s7]
    refine wpC_split (fun h => ?_) (fun h => ?_) <;> (have h' := h; try simp at h') <;> (try simp [*])
    · have hjr : j < rows[i].length := hj _ (List.getElem_mem h')
      have hval : (rows[i][j]).valid = true := hv _ (List.getElem_mem h') _ (List.getElem_mem hjr)
      have hok : (rows[i][j]).ok := (ho.2 _ (List.getElem_mem h')).2 _ (List.getElem_mem hjr)
      refine wpC_split (fun g => ?_) (fun g => ?_) <;> (have g' := g; try simp at g') <;> (try simp [*])
      · refine ih.out (i + 1) _ _ ?_ (by omega)
        refine ⟨by simp [e0], by simp [e1], by simp [e2], by simp [e6], by simp [e7], by simp [e8, wrap_succ h' hl], ⟨n6, by simp [s6]⟩, ⟨n7, ?_⟩, h'⟩
        simp [s7, colV_take h' hjr, colR, keys_snoc, nz_snoc, g']
      · have ot := c_often_take rows j i rows[i][j] hl hj
        have oa := c_jointerref19_often rows j rows[i][j] hl hj
        rw [count_key g'] at ot oa
        have hb := colR_bound kind (colV rows j) ((colV rows j).take i)
        have hll : ((colV rows j).take i).length ≤ i := by rw [List.length_take]; omega
        have hw : IntKind.i64.wrap ((colR kind (colV rows j) ((colV rows j).take i)).distinct + 1) = (colR kind (colV rows j) ((colV rows j).take i)).distinct + 1 := by rw [wrap_in] <;> omega
        have hin : ∀ b, decide (List.count rows[i][j].key (keys (List.take i (colV rows j))) = 0) = b → (rows[i][j].key ∈ keys (List.take i (colV rows j)) ↔ b = false) := by
          intro b hb
          by_cases hc : List.count rows[i][j].key (keys (List.take i (colV rows j))) = 0
          · simp only [hc, decide_true] at hb; subst hb; simp [List.count_eq_zero.1 hc]
          · simp only [hc, decide_false] at hb; subst hb; simp [List.count_pos_iff.1 (Nat.pos_of_ne_zero hc)]
        refine wpG_split (fun k => ?_) (fun k => ?_) <;> (try simp [*])
        · have k' := Hd.mk (of_decide_eq_true k)
          refine wpC_split (fun d => ?_) (fun d => ?_) <;> (try simp [*])
          · have hnz := (colR_distinct kind (colV rows j) _).1 (of_decide_eq_true d)
            refine wpC_split (fun m => ?_) (fun m => ?_) <;> (try simp [*])
            · refine ih.out (i + 1) _ _ ?_ (by omega)
              refine ⟨by simp [e0], by simp [e1], by simp [e2], by simp [e6], by simp [e7], by simp [e8, wrap_succ h' hl], ⟨n6, by simp [s6]⟩, so_mk (by simp [s7]) (by simp [s7]) ?_, h'⟩
              rw [colV_take h' hjr, colR_snoc _ _ _ _ g' hok]
              rw [if_pos k'.out, if_pos k'.out]
              simp [s7, hw, hnz, (hin _ m)]
            · refine ih.out (i + 1) _ _ ?_ (by omega)
              refine ⟨by simp [e0], by simp [e1], by simp [e2], by simp [e6], by simp [e7], by simp [e8, wrap_succ h' hl], ⟨n6, by simp [s6]⟩, so_mk (by simp [s7]) (by simp [s7]) ?_, h'⟩
              rw [colV_take h' hjr, colR_snoc _ _ _ _ g' hok]
              rw [if_pos k'.out, if_pos k'.out]
              simp [s7, hw, hnz, (hin _ m)]
          · have hnz : ¬ nz (List.take i (colV rows j)) = [] := fun x => of_decide_eq_false d ((colR_distinct kind (colV rows j) _).2 x)
            refine wpC_split (fun m => ?_) (fun m => ?_) <;> (try simp [*])
            · refine ih.out (i + 1) _ _ ?_ (by omega)
              refine ⟨by simp [e0], by simp [e1], by simp [e2], by simp [e6], by simp [e7], by simp [e8, wrap_succ h' hl], ⟨n6, by simp [s6]⟩, so_mk (by simp [s7]) (by simp [s7]) ?_, h'⟩
              rw [colV_take h' hjr, colR_snoc _ _ _ _ g' hok]
              rw [if_pos k'.out, if_pos k'.out]
              simp [s7, hw, hnz, (hin _ m)]
            · refine ih.out (i + 1) _ _ ?_ (by omega)
              refine ⟨by simp [e0], by simp [e1], by simp [e2], by simp [e6], by simp [e7], by simp [e8, wrap_succ h' hl], ⟨n6, by simp [s6]⟩, so_mk (by simp [s7]) (by simp [s7]) ?_, h'⟩
              rw [colV_take h' hjr, colR_snoc _ _ _ _ g' hok]
              rw [if_pos k'.out, if_pos k'.out]
              simp [s7, hw, hnz, (hin _ m)]
        · have k' := Hd.mk (of_decide_eq_false k)
          have hz := colR_no kind (colV rows j) (List.take i (colV rows j)) k'.out
          refine wpC_split (fun m => ?_) (fun m => ?_) <;> (try simp [*])
          · refine ih.out (i + 1) _ _ ?_ (by omega)
            refine ⟨by simp [e0], by simp [e1], by simp [e2], by simp [e6], by simp [e7], by simp [e8, wrap_succ h' hl], ⟨n6, by simp [s6]⟩, so_mk (by simp [s7]) (by simp [s7]) ?_, h'⟩
            rw [colV_take h' hjr, colR_snoc _ _ _ _ g' hok]
            rw [if_neg k'.out, if_neg k'.out]
            simp [s7, hw, hz.1, hz.2, (hin _ m)]
          · refine ih.out (i + 1) _ _ ?_ (by omega)
            refine ⟨by simp [e0], by simp [e1], by simp [e2], by simp [e6], by simp [e7], by simp [e8, wrap_succ h' hl], ⟨n6, by simp [s6]⟩, so_mk (by simp [s7]) (by simp [s7]) ?_, h'⟩
            rw [colV_take h' hjr, colR_snoc _ _ _ _ g' hok]
            rw [if_neg k'.out, if_neg k'.out]
            simp [s7, hw, hz.1, hz.2, (hin _ m)]
    · rw [← hR.out, ← colR_all, List.take_of_length_le (by rw [colV_len]; omega)]
      exact ⟨rfl, rfl, rfl, rfl, rfl⟩
  refine wpC_split (fun k => ?_) (fun k => ?_) <;> (try simp [*])
  · have k' := Hd.mk (of_decide_eq_true k)
    refine main _ _ (by simp) (by simp) (by simp) (by simp) (by simp) (by simp) (so_mk (by simp) (by simp) (by simp)) (so_mk (by simp) (by simp) ?_)
    simp [colR, keys, nz, firsts, maxL, k'.out]
  · have k' := Hd.mk (of_decide_eq_false k)
    refine main _ _ (by simp) (by simp) (by simp) (by simp) (by simp) (by simp) (so_mk (by simp) (by simp) (by simp)) (so_mk (by simp) (by simp) ?_)
    simp [colR, keys, nz, firsts, maxL, k'.out]
end Go.Proofs.YtoodknhlnifnlaaGreatDoor

/- Contracts: the program's description of a column. -/
set_option linter.unusedVariables false
set_option linter.unusedSimpArgs false
set_option maxRecDepth 100000
namespace Go.Proofs.YtoodknhlnifnlaaGreatDoor
open Go.RowKit
def colP (p : List Val) : Col := ⟨(p.countP fun v => decide (v.kind = 0) : Nat), 0, deg (keys p), 0, 0⟩
theorem mfind_new (es : List (Val × Int)) (v : Val) (n : Int) (hf : es.findIdx? (fun p => v.same p.1) = none) : mfind [.i, .i, .s] true v.enc (es.map entX ++ [(v.enc, i6 n)]) = some (some es.length) := by
  have h := mfind_enc (es ++ [(v, n)]) v
  have hs : v.same v = true := by simp [same_key]
  rw [List.map_append, List.map_cons, List.map_nil, List.findIdx?_append, hf] at h
  rw [h]; simp [hs, List.findIdx?_cons]
theorem setV_new (es : List (Val × Int)) (v : Val) (n : Int) (x : X) : setV (es.map entX ++ [(v.enc, i6 n)]) es.length x = es.map entX ++ [(v.enc, x)] := by
  apply List.ext_getElem (by simp [setV])
  intro k h1 h2
  simp only [setV, List.getElem_modify]
  simp only [setV, List.length_modify, List.length_append, List.length_map, List.length_cons, List.length_nil] at h1
  by_cases hk : k < es.length
  · rw [List.getElem_append_left (by simpa using hk), List.getElem_append_left (by simpa using hk), if_neg (by omega)]
  · have : k = es.length := by omega
    subst this
    simp
theorem get_new (es : List (Val × Int)) (v : Val) (n : Int) : (es.map entX ++ [(v.enc, i6 n)])[es.length]? = some (v.enc, i6 n) := by
  have := List.getElem?_concat_length (l := es.map entX) (a := (v.enc, i6 n))
  simpa using this
theorem setV_old (es : List (Val × Int)) (v : Val) (a : Nat) (p : Val × Int) (hp : es[a]? = some p) : setV (es.map entX) a (i6 (p.2 + 1)) = (es.modify a fun p => (p.1, p.2 + 1)).map entX := by
  apply List.ext_getElem (by simp [setV])
  intro k h1 h2
  simp only [setV, List.getElem_modify, List.getElem_map]
  by_cases hk : a = k
  · subst hk
    have hl : a < es.length := by simpa [setV] using h1
    have : es[a] = p := by simpa [hl] using hp
    simp [this]
  · simp [hk]
theorem mfind_old (es : List (Val × Int)) (v : Val) (a : Nat) (hf : es.findIdx? (fun p => v.same p.1) = some a) : mfind [.i, .i, .s] true v.enc ((es.modify a fun p => (p.1, p.2 + 1)).map entX) = some (some a) := by
  rw [mfind_enc]
  congr 1
  obtain ⟨h1, h2, h3⟩ := List.findIdx?_eq_some_iff_getElem.1 hf
  refine List.findIdx?_eq_some_iff_getElem.2 ⟨by simpa using h1, ?_, ?_⟩
  · simp [h2]
  · intro j hj
    have := h3 j hj
    simp only [List.getElem_modify]
    split <;> simpa using this
set_option maxHeartbeats 2000000 in
theorem c_stats_column (kind : Int) (rows : List (List Val)) (j : Nat) (ho : rowsOk rows) (hj : ∀ r ∈ rows, j < r.length) :
    call T n_stats_column [u8 kind, .sl false (rows.map rowX), i6 j] = some (colS kind (colV rows j)).enc := by
  have hl := ho.1
  refine go_stats_column (by simp) ?_
  generalize hR : colS kind (colV rows j) = R; replace hR := Hd.mk hR
  simp
  refine wp_rounds (σ := Nat) (fun i e s => e 0 = u8 kind ∧ e 2 = i6 j ∧ e 6 = .ptr 6 1 0 ∧ e 7 = .ptr 7 1 0 ∧ e 8 = .mp 14 1 ∧ e 9 = i6 (loV (nz ((colV rows j).take i))) ∧ e 10 = i6 (hiV (nz ((colV rows j).take i))) ∧ e 15 = .sl false (rows.map rowX) ∧ e 16 = i6 rows.length ∧ e 17 = i6 i ∧
    (∃ n, s 6 = ⟨1, true, some (.box (Col.enc ⟨0, 0, 0, 0, 0⟩)), n⟩) ∧ (∃ n, s 7 = ⟨1, true, some (.box (colP ((colV rows j).take i)).enc), n⟩) ∧ (∃ n es, s 14 = ⟨1, true, some (.map (es.map entX)), n⟩ ∧ Hd (Counts es (keys ((colV rows j).take i)))) ∧ i ≤ rows.length) (fun i => rows.length - i) ?_ 0 _ _
    ⟨rfl, rfl, rfl, rfl, rfl, rfl, rfl, rfl, by simp, rfl, so_mk (by simp) (by simp) (by simp), so_mk (by simp) (by simp) (by simp [colP, keys, nz, deg, maxL]), ⟨_, [], rfl, ⟨Counts.nil⟩⟩, by omega⟩
  rintro i e s ⟨e0, e2, e6, e7, e8, e9, e10, e15, e16, e17, ⟨n6, s6⟩, ⟨n7, s7⟩, ⟨n14, es, s14, hC⟩, hi⟩ ih
  simp [e0, e2, e6, e7, e8, e9, e10, e15, e16, e17, s6, s7, s14]
  refine wpC_split (fun h => ?_) (fun h => ?_) <;> (have h' := h; try simp at h') <;> (try simp [*])
  · have hjr : j < rows[i].length := hj _ (List.getElem_mem h')
    have hok : (rows[i][j]).ok := (ho.2 _ (List.getElem_mem h')).2 _ (List.getElem_mem hjr)
    refine wpC_split (fun g => ?_) (fun g => ?_) <;> (have g' := g; try simp at g') <;> (try simp [*])
    · refine ih.out (i + 1) _ _ ?_ (by omega)
      have hcn : List.countP (fun v => decide (v.kind = 0)) ((colV rows j).take i) ≤ i := by
        refine Nat.le_trans List.countP_le_length ?_
        rw [List.length_take]; omega
      have hw := wrap_succ (i := List.countP (fun v => decide (v.kind = 0)) ((colV rows j).take i)) (n := rows.length) (by omega) hl
      refine ⟨by simp [e0], by simp [e2], by simp [e6], by simp [e7], by simp [e8], ?_, ?_, by simp [e15], by simp [e16], by simp [wrap_succ h' hl], ⟨n6, by simp [s6]⟩, so_mk (by simp [s7]) (by simp [s7]) ?_, ⟨n14, es, by simp [s14], ?_⟩, h'⟩
      · simp [e9, colV_take h' hjr, nz_snoc, g']
      · simp [e10, colV_take h' hjr, nz_snoc, g']
      · simp [s7, colV_take h' hjr, colP, keys_snoc, countP_snoc, g', hw]
      · simpa [colV_take h' hjr, keys_snoc, g'] using hC
    · have hcc : ∀ k, (keys ((colV rows j).take i)).count k ≤ i := by
        intro k
        refine Nat.le_trans List.count_le_length (Nat.le_trans (keys_len _) ?_)
        rw [List.length_take]; omega
      have fin : ∀ e' s', e' 0 = u8 kind → e' 2 = i6 j → e' 6 = .ptr 6 1 0 → e' 7 = .ptr 7 1 0 → e' 8 = .mp 14 1 → e' 9 = i6 (min (loV (nz ((colV rows j).take i))) rows[i][j].int) → e' 10 = i6 (max (hiV (nz ((colV rows j).take i))) rows[i][j].int) → e' 15 = .sl false (rows.map rowX) → e' 16 = i6 rows.length → e' 17 = i6 ((i + 1 : Nat) : Int) →
          (∃ n, s' 6 = ⟨1, true, some (.box (Col.enc ⟨0, 0, 0, 0, 0⟩)), n⟩) → (∃ n, s' 7 = ⟨1, true, some (.box (Col.enc ⟨(colP ((colV rows j).take i)).nulls, 0, max (colP ((colV rows j).take i)).degree (((keys ((colV rows j).take i)).count rows[i][j].key : Nat) + 1), 0, 0⟩)), n⟩) → (∃ n, s' 14 = ⟨1, true, some (.map ((bump es rows[i][j]).map entX)), n⟩) →
          wp T [.lp stats_column_l1, .bl 0, .code ((IC.ops stats_column_r14).seq ((((IC.ops stats_column_r15).seq (IC.cond (.t 58) ((IC.ops stats_column_r16).seq ((IC.ops stats_column_r17).seq (IC.cond (.t 65) (IC.ops stats_column_r18) IC.skip))) IC.skip))).seq ((IC.ops stats_column_r19).seq IC.ret)))] e' s' (fun e s => (match ldX s (e 6) 5 true with
            | some x => dpC s x
            | none => none) = some R.enc) := by
        intro e' s' x0 x2 x6 x7 x8 x9 x10 x15 x16 x17 y6 y7 y14
        obtain ⟨n, y14⟩ := y14
        refine ih.out (i + 1) _ _ ⟨x0, x2, x6, x7, x8, ?_, ?_, x15, x16, x17, y6, ?_, ⟨n, _, y14, ⟨?_⟩⟩, h'⟩ (by omega)
        · rw [x9, colV_take h' hjr, nz_snoc, if_neg g', loV_snoc]
        · rw [x10, colV_take h' hjr, nz_snoc, if_neg g', hiV_snoc]
        · obtain ⟨m, y7⟩ := y7
          refine ⟨m, ?_⟩
          rw [y7, colV_take h' hjr]
          simp [colP, keys_snoc, countP_snoc, g', deg_snoc, List.count_append]
          omega
        · rw [colV_take h' hjr, keys_snoc, if_neg g']; exact hC.out.bump _
      have hm := mfind_enc es rows[i][j]
      have hk := hcc rows[i][j].key
      cases hf : es.findIdx? fun p => rows[i][j].same p.1 with
      | none =>
        rw [hf] at hm
        have hm2 := fun n => mfind_new es rows[i][j] n hf
        have hg2 := fun n => get_new es rows[i][j] n
        have hs2 := fun n x => setV_new es rows[i][j] n x
        have hc0 : (keys ((colV rows j).take i)).count rows[i][j].key = 0 := List.count_eq_zero.2 (hC.out.find_none hf)
        have hb : (bump es rows[i][j]).map entX = es.map entX ++ [(rows[i][j].enc, i6 1)] := by simp [bump, hf]
        have hw : IntKind.i64.wrap 1 = 1 := by decide
        have hlt : (es.length : Int) < (es.length : Int) + 1 := by omega
        simp [hm, hm2, hg2, hs2, hw, hlt, e0, e2, e6, e7, e8, e9, e10, e15, e16, e17, s6, s7, s14]
        refine fin _ _ (by simp [e0]) (by simp [e2]) (by simp [e6]) (by simp [e7]) (by simp [e8]) (by simp [e9]) (by simp [e10]) (by simp [e15]) (by simp [e16]) (by simp [e17, wrap_succ h' hl]) (so_mk (by simp [s6]) (by simp [s6]) (by simp [s6])) (so_mk (by simp [s7]) (by simp [s7]) ?_) (so_mk (by simp [s14]) (by simp [s14]) ?_)
        · simp [s7, hc0, colP]
        · simp [s14, hb]
      | some a =>
        rw [hf] at hm
        obtain ⟨p, hp, hpk, hpc, hpm, hpl⟩ := hC.out.find_some hf
        have hm2 := mfind_old es rows[i][j] a hf
        have hs2 := setV_old es rows[i][j] a p hp
        have hb : bump es rows[i][j] = es.modify a fun p => (p.1, p.2 + 1) := by simp [bump, hf]
        have hg2 : (es.modify a fun p => (p.1, p.2 + 1))[a]? = some (p.1, p.2 + 1) := by
          simp [List.getElem?_modify, hp]
        have hw : IntKind.i64.wrap (p.2 + 1) = p.2 + 1 := by rw [wrap_in] <;> omega
        have hlt : (a : Int) < (es.length : Int) := by omega
        simp [hm, hm2, hg2, hp, hw, hlt, hs2, e0, e2, e6, e7, e8, e9, e10, e15, e16, e17, s6, s7, s14]
        refine fin _ _ (by simp [e0]) (by simp [e2]) (by simp [e6]) (by simp [e7]) (by simp [e8]) (by simp [e9]) (by simp [e10]) (by simp [e15]) (by simp [e16]) (by simp [e17, wrap_succ h' hl]) (so_mk (by simp [s6]) (by simp [s6]) (by simp [s6])) (so_mk (by simp [s7]) (by simp [s7]) ?_) (so_mk (by simp [s14]) (by simp [s14]) ?_)
        · simp [s7, hpc, colP]
        · simp [s14, hb]
  · have hlen : es.length = (firsts (keys (colV rows j))).length := by
      have := congrArg List.length hC.out.keys
      rw [List.length_map, List.take_of_length_le (by rw [colV_len]; omega)] at this
      exact this
    have htk : List.take i (colV rows j) = colV rows j := List.take_of_length_le (by rw [colV_len]; omega)
    rw [htk] at e9 e10 s7 ⊢
    refine wpC_split (fun k => ?_) (fun k => ?_) <;> (try simp [*])
    · have k' := Hd.mk (of_decide_eq_true k)
      refine wpC_split (fun d => ?_) (fun d => ?_) <;> (try simp [*])
      · have hnz : nz (colV rows j) = [] := (keys_empty _).1 (by simp [of_decide_eq_true d])
        rw [← hR.out]
        simp [colS, k'.out, hnz, hlen, colP]
      · have hnz : ¬ nz (colV rows j) = [] := fun x => of_decide_eq_false d (by have := (keys_empty _).2 x; simpa using this)
        rw [← hR.out]
        simp [colS, k'.out, hnz, hlen, colP]
    · have k' := Hd.mk (of_decide_eq_false k)
      rw [← hR.out]
      simp [colS, k'.out, hlen, colP]
end Go.Proofs.YtoodknhlnifnlaaGreatDoor
