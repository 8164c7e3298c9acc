/- Plain laws: the description of a column. -/
import Derived.Test.YtoodknhlnifnlaaGreatDoorCb
set_option linter.all false
set_option linter.unusedVariables false
set_option linter.unusedSimpArgs false
namespace Go.Proofs.YtoodknhlnifnlaaGreatDoor
abbrev Key := Int × Int × List UInt8
def Val.key (v : Val) : Key := (v.kind, v.int, v.text.toList)
theorem same_key (a b : Val) : a.same b = decide (a.key = b.key) := by
  simp only [Val.same, Val.key, Prod.mk.injEq]
  by_cases h1 : a.kind = b.kind <;> by_cases h2 : a.int = b.int <;> by_cases h3 : a.text.toList = b.text.toList <;> simp [h1, h2, h3]
/-- The values that are not null. -/
def nz (vs : List Val) : List Val := vs.filter fun v => !decide (v.kind = 0)
def keys (vs : List Val) : List Key := (nz vs).map Val.key
def addK (a : List Key) (k : Key) : List Key := if k ∈ a then a else a ++ [k]
def firsts (l : List Key) : List Key := l.foldl addK []
theorem firsts_snoc' (l : List Key) (k : Key) : firsts (l ++ [k]) = addK (firsts l) k := by
  simp only [firsts, List.foldl_append, List.foldl_cons, List.foldl_nil]
theorem firsts_in {l : List Key} {k : Key} (h : k ∈ firsts l) : firsts (l ++ [k]) = firsts l := by
  rw [firsts_snoc']; unfold addK; rw [if_pos h]
theorem firsts_new {l : List Key} {k : Key} (h : ¬ k ∈ firsts l) : firsts (l ++ [k]) = firsts l ++ [k] := by
  rw [firsts_snoc']; unfold addK; rw [if_neg h]
theorem mem_addK (a : List Key) (x k : Key) : k ∈ addK a x ↔ k ∈ a ∨ k = x := by
  unfold addK
  split
  · rename_i h
    constructor
    · exact .inl
    · rintro (h' | rfl)
      · exact h'
      · exact h
  · simp
theorem mem_firsts (l : List Key) (k : Key) : k ∈ firsts l ↔ k ∈ l := by
  have : ∀ (l a : List Key), k ∈ l.foldl addK a ↔ k ∈ a ∨ k ∈ l := by
    intro l
    induction l with
    | nil => simp
    | cons x l ih =>
      intro a
      rw [List.foldl_cons, ih, mem_addK, List.mem_cons, or_assoc]
  have h := this l []
  rw [show (k ∈ ([] : List Key)) = False by simp, false_or] at h
  exact h
def maxL (l : List Nat) : Nat := l.foldl max 0
theorem foldl_max (l : List Nat) : ∀ a, l.foldl max a = max a (maxL l) := by
  induction l with
  | nil => intro a; simp [maxL]
  | cons x l ih =>
    intro a
    simp only [maxL, List.foldl_cons]
    rw [ih, ih (max 0 x)]
    omega
theorem maxL_snoc (l : List Nat) (x : Nat) : maxL (l ++ [x]) = max (maxL l) x := by
  simp [maxL, List.foldl_append]
theorem maxL_le {l : List Nat} {b : Nat} : maxL l ≤ b ↔ ∀ x ∈ l, x ≤ b := by
  induction l with
  | nil => simp [maxL]
  | cons x l ih =>
    have : maxL (x :: l) = max x (maxL l) := by
      simp only [maxL, List.foldl_cons]; rw [foldl_max]; simp [maxL]
    rw [this]
    simp only [List.mem_cons, forall_eq_or_imp]
    rw [← ih]
    omega
/-- How often the most frequent one comes. -/
def deg (l : List Key) : Nat := maxL (l.map fun k => l.count k)
theorem deg_snoc (l : List Key) (k : Key) : deg (l ++ [k]) = max (deg l) ((l ++ [k]).count k) := by
  apply Nat.le_antisymm
  · rw [deg, maxL_le]
    intro x hx
    obtain ⟨u, hu, rfl⟩ := List.mem_map.1 hx
    by_cases h : u = k
    · subst h; omega
    · have h1 : (l ++ [k]).count u = l.count u := by
        rw [List.count_append]
        have : [k].count u = 0 := by
          rw [List.count_eq_zero]; simp [h]
        omega
      have h2 : u ∈ l := by
        rcases List.mem_append.1 hu with h' | h'
        · exact h'
        · exact absurd (List.mem_singleton.1 h') h
      have h3 : l.count u ≤ deg l := (maxL_le (b := deg l)).1 (Nat.le_refl _) _ (List.mem_map.2 ⟨u, h2, rfl⟩)
      omega
  · have h1 : (l ++ [k]).count k ≤ deg (l ++ [k]) := (maxL_le (b := deg (l ++ [k]))).1 (Nat.le_refl _) _ (List.mem_map.2 ⟨k, by simp, rfl⟩)
    have h2 : deg l ≤ deg (l ++ [k]) := by
      rw [deg, maxL_le]
      intro x hx
      obtain ⟨u, hu, rfl⟩ := List.mem_map.1 hx
      have h3 : (l ++ [k]).count u ≤ deg (l ++ [k]) := (maxL_le (b := deg (l ++ [k]))).1 (Nat.le_refl _) _ (List.mem_map.2 ⟨u, by simp [hu], rfl⟩)
      have : l.count u ≤ (l ++ [k]).count u := by rw [List.count_append]; omega
      omega
    omega
def loV (vs : List Val) : Int := (vs.map Val.int).foldl min 9223372036854775807
def hiV (vs : List Val) : Int := (vs.map Val.int).foldl max (-9223372036854775808)
/-- The exact description of a column. -/
def colS (kind : Int) (vs : List Val) : Col where
  nulls := (vs.countP fun v => decide (v.kind = 0) : Nat)
  distinct := (firsts (keys vs)).length
  degree := deg (keys vs)
  lo := if kind = 1 then (if nz vs = [] then 1 else loV (nz vs)) else 0
  hi := if kind = 1 then (if nz vs = [] then 0 else hiV (nz vs)) else 0
theorem nz_snoc (l : List Val) (v : Val) : nz (l ++ [v]) = if v.kind = 0 then nz l else nz l ++ [v] := by
  by_cases h : v.kind = 0 <;> simp [nz, List.filter_append, h]
theorem keys_snoc (l : List Val) (v : Val) : keys (l ++ [v]) = if v.kind = 0 then keys l else keys l ++ [v.key] := by
  unfold keys; rw [nz_snoc]; split <;> simp
theorem countP_snoc (l : List Val) (p : Val → Bool) (v : Val) : (l ++ [v]).countP p = l.countP p + if p v then 1 else 0 := by
  rw [List.countP_append, List.countP_singleton]
theorem loV_snoc (l : List Val) (v : Val) : loV (l ++ [v]) = min (loV l) v.int := by simp [loV, List.foldl_append]
theorem hiV_snoc (l : List Val) (v : Val) : hiV (l ++ [v]) = max (hiV l) v.int := by simp [hiV, List.foldl_append]
theorem addK_len (a : List Key) (k : Key) : (addK a k).length ≤ a.length + 1 := by
  unfold addK; split <;> simp
theorem firsts_len (l : List Key) : (firsts l).length ≤ l.length := by
  have : ∀ (l a : List Key), (l.foldl addK a).length ≤ a.length + l.length := by
    intro l
    induction l with
    | nil => simp
    | cons x l ih =>
      intro a
      rw [List.foldl_cons]
      refine Nat.le_trans (ih _) ?_
      have := addK_len a x
      simp only [List.length_cons]
      omega
  have h := this l []
  rw [List.length_nil, Nat.zero_add] at h
  exact h
theorem firsts_nodup (ks : List Key) : (firsts ks).Nodup := by
  have : ∀ (l a : List Key), a.Nodup → (l.foldl addK a).Nodup := by
    intro l
    induction l with
    | nil => intro a ha; exact ha
    | cons x l ih =>
      intro a ha
      rw [List.foldl_cons]
      apply ih
      unfold addK
      split
      · exact ha
      · rename_i hx
        rw [List.nodup_append]
        refine ⟨ha, by simp, ?_⟩
        intro y hy z hz
        simp only [List.mem_singleton] at hz; subst hz
        rintro rfl; exact hx hy
  exact this ks [] List.nodup_nil
theorem keys_len (vs : List Val) : (keys vs).length ≤ vs.length := by
  simp only [keys, nz, List.length_map]; exact List.length_filter_le _ _
theorem deg_le (l : List Key) : deg l ≤ l.length := by
  rw [deg, maxL_le]; intro x hx; obtain ⟨u, _, rfl⟩ := List.mem_map.1 hx; exact List.count_le_length
/-- The entries of a map that counts. -/
abbrev entX (p : Val × Int) : X × X := (p.1.enc, i6 p.2)
theorem mfind_enc (es : List (Val × Int)) (v : Val) : mfind [.i, .i, .s] true v.enc (es.map entX) = some (es.findIdx? fun p => v.same p.1) := by
  induction es with
  | nil => rfl
  | cons p es ih =>
    have h : eqX [.i, .i, .s] true v.enc p.1.enc = some (v.same p.1) := by
      simp [eqX, Val.same, Bool.and_assoc]
    simp only [List.map_cons, mfind, entX, h, List.findIdx?_cons]
    cases hs : v.same p.1
    · simp only [Bool.false_eq_true, if_false]; rw [ih]
    · simp
def bump (es : List (Val × Int)) (v : Val) : List (Val × Int) := match es.findIdx? fun p => v.same p.1 with
  | some i => es.modify i fun p => (p.1, p.2 + 1)
  | none => es ++ [(v, 1)]
/-- What the map holds behind some values. -/
structure Counts (es : List (Val × Int)) (ks : List Key) : Prop where
  keys : es.map (fun p => p.1.key) = firsts ks
  counts : ∀ p ∈ es, p.2 = (ks.count p.1.key : Nat)
theorem Counts.nil : Counts [] [] := ⟨rfl, by simp⟩
theorem Counts.find_none {es : List (Val × Int)} {ks : List Key} (h : Counts es ks) {v : Val} (hf : es.findIdx? (fun p => v.same p.1) = none) : ¬ v.key ∈ ks := by
  rw [← mem_firsts, ← h.keys]
  intro hm
  obtain ⟨p, hp, hk⟩ := List.mem_map.1 hm
  have := List.findIdx?_eq_none_iff.1 hf p hp
  rw [same_key] at this
  simp [hk] at this
theorem Counts.find_some {es : List (Val × Int)} {ks : List Key} (h : Counts es ks) {v : Val} {i : Nat} (hf : es.findIdx? (fun p => v.same p.1) = some i) : ∃ p, es[i]? = some p ∧ p.1.key = v.key ∧ p.2 = (ks.count v.key : Nat) ∧ v.key ∈ ks ∧ i < es.length := by
  obtain ⟨hi, h1, h2⟩ := List.findIdx?_eq_some_iff_getElem.1 hf
  rw [same_key] at h1
  have hk : es[i].1.key = v.key := (of_decide_eq_true h1).symm
  refine ⟨es[i], by simp [hi], hk, ?_, ?_, hi⟩
  · rw [h.counts es[i] (List.getElem_mem hi), hk]
  · rw [← mem_firsts, ← h.keys, ← hk]
    exact List.mem_map.2 ⟨es[i], List.getElem_mem hi, rfl⟩
theorem Counts.bump {es : List (Val × Int)} {ks : List Key} (h : Counts es ks) (v : Val) : Counts (bump es v) (ks ++ [v.key]) := by
  unfold Go.Proofs.YtoodknhlnifnlaaGreatDoor.bump
  split
  · rename_i i hf
    obtain ⟨p, hp, hk, hc, hm, hi⟩ := h.find_some hf
    have hfm : v.key ∈ firsts ks := (mem_firsts _ _).2 hm
    refine ⟨?_, ?_⟩
    · rw [firsts_in hfm, ← h.keys]
      apply List.ext_getElem (by simp)
      intro n h1 h2
      simp only [List.getElem_map, List.getElem_modify]
      split <;> rfl
    · intro q hq
      obtain ⟨n, hn, rfl⟩ := List.mem_iff_getElem.1 hq
      have hnl : n < es.length := by simpa using hn
      rw [List.getElem_modify]
      have hnd := firsts_nodup ks
      by_cases hin : i = n
      · subst hin
        have he : es[i] = p := by simpa [hi] using hp
        simp only [if_true, he]
        rw [hc, hk, List.count_append]
        simp
      · simp only [hin, if_false]
        have hne : es[n].1.key ≠ v.key := by
          intro he
          rw [← h.keys] at hnd
          have h1 : (es.map fun p => p.1.key)[n]'(by simpa using hnl) = (es.map fun p => p.1.key)[i]'(by simpa using hi) := by
            simp only [List.getElem_map]
            rw [he, ← hk]
            have : es[i] = p := by simpa [hi] using hp
            rw [this]
          exact hin ((List.getElem_inj hnd).1 h1).symm
        rw [h.counts es[n] (List.getElem_mem hnl), List.count_append]
        have : [v.key].count es[n].1.key = 0 := by rw [List.count_eq_zero]; simp [hne]
        omega
  · rename_i hf
    have hm := h.find_none hf
    have hfm : ¬ v.key ∈ firsts ks := fun x => hm ((mem_firsts _ _).1 x)
    refine ⟨?_, ?_⟩
    · rw [firsts_new hfm, ← h.keys]; simp
    · intro q hq
      rcases List.mem_append.1 hq with hq | hq
      · have hqk : q.1.key ∈ ks := by
          rw [← mem_firsts, ← h.keys]; exact List.mem_map.2 ⟨q, hq, rfl⟩
        have hne : q.1.key ≠ v.key := fun e => hm (e ▸ hqk)
        rw [h.counts q hq, List.count_append]
        have : [v.key].count q.1.key = 0 := by rw [List.count_eq_zero]; simp [hne]
        omega
      · simp only [List.mem_singleton] at hq
        subst hq
        rw [List.count_append, List.count_eq_zero.2 hm]
        simp
end Go.Proofs.YtoodknhlnifnlaaGreatDoor
