/- The engine, part N: what is appended. -/
import Derived.Test.YtoodknhlnifnlaaGreatDoorM
set_option linter.all false
set_option linter.unusedVariables false
set_option linter.unusedSimpArgs false
namespace Go.Proofs.YtoodknhlnifnlaaGreatDoor
open Go.RowKit
variable {P : Program}

/-- append onto a row in which there is room. -/
theorem run_append_room' (w : World) (t ty e tb : TypeId) (i : TypeInfo) (ht : P.underlying t = some (.slice e)) (hi : P.info? e = some i)
    (g sLen sCap : Nat) (cur : Array Value) (hg : w.heap[g]? = some (.cells cur tb (0, 0)))
    (a : Addr) (m c : Nat) (news : List Value) (hl : news.length = m * i.size) (hnews : ∀ j u, news[j]? = some u → w.cell? (a.add j) = some u) (h1 : ∀ u ∈ news, u.oneCell' = true)
    (hroom : sLen + m ≤ sCap) (hfit : sLen * i.size + news.length ≤ cur.size) :
    (Builtin.append_ #[t, t] ty #[.slice (some ⟨g, 0, none⟩) sLen sCap, .slice (some a) m c]).run P w =
      .ok (.slice (some ⟨g, 0, none⟩) (sLen + m) sCap) (w.setRow g (spl cur.toList (sLen * i.size) news).toArray) := by
  have hf := run_firstCells_some (P := P) w i.size m a m c news hl hnews
  have hst := run_storeCells_at P g (sLen * i.size) tb news 0 cur w hg (by simpa using hfit) h1
  simp only [Nat.add_zero] at hst
  simp [Builtin.append_, run_underlying ht, sizeOf, typeInfo, hi, Builtin.lenOf, hroom, hf, Addr.add_lit, hst, spl]
/-- Nothing is appended. -/
theorem run_append_zero (w : World) (t ty e : TypeId) (i : TypeInfo) (ht : P.underlying t = some (.slice e)) (hi : P.info? e = some i) (base ad : Option Addr) (n cap c : Nat) (hn : n ≤ cap) :
    (Builtin.append_ #[t, t] ty #[.slice base n cap, .slice ad 0 c]).run P w = .ok (.slice base n cap) w := by
  cases base <;> cases ad <;> simp [Builtin.append_, run_underlying ht, sizeOf, typeInfo, hi, Builtin.lenOf, hn, Builtin.firstCells, loadCells, loadCellsFrom, storeCells]

section
variable {w0 : Bs} {sh : Nat → Prop} {nt : Nat} {μ : Nat → Nat} {fr : Nat → Prop} {e : Env} {s : Sto} {a : Act} {w : World}

theorem okE_spec {k : Nat} {ys : List X} (h : okE k ys = true) : (∀ y ∈ ys, y.cells.length = k) ∧ ∀ y ∈ ys, y.deep = true := by
  unfold okE at h
  rw [List.all_eq_true] at h
  exact ⟨fun y hy => by have := h y hy; simp only [Bool.and_eq_true, beq_iff_eq] at this; exact this.1, fun y hy => by have := h y hy; simp only [Bool.and_eq_true, beq_iff_eq] at this; exact this.2⟩

/-- The cells that are appended. -/
theorem elems_run (h : Inv w0 sh nt μ fr e s a w) {x : X} {v : Value} (hx : Rep (cxo μ s w sh fr) x v) {ys : List X} (hy : elems s x = some ys) {k : Nat} (hk : 0 < k) (hok : okE k ys = true) :
    ∃ ad m c, v = .slice ad m c ∧ m = ys.length ∧ (m = 0 ∨ ∃ (a0 : Addr) (news : List Value), ad = some a0 ∧ news.length = m * k ∧ (∀ j u, news[j]? = some u → w.cell? (a0.add j) = some u) ∧ (∀ u ∈ news, u.oneCell' = true) ∧
      Rep (cxo μ s w sh fr) (.agg (flat ys)) (.agg news.toArray)) := by
  obtain ⟨hw, hd⟩ := okE_spec hok
  have mk : ∀ (b off : Nat) (f : Nat → Nat → Value), (∀ i y j c, ys[i]? = some y → y.cells[j]? = some c → w.cell? ⟨b, off + i * k + j, none⟩ = some (f i j) ∧ c.one = true) →
      (∀ i y j c, ys[i]? = some y → y.cells[j]? = some c → Rep (cxo μ s w sh fr) c (f i j)) →
      ∃ news : List Value, news.length = ys.length * k ∧ (∀ j u, news[j]? = some u → w.cell? ((⟨b, off, none⟩ : Addr).add j) = some u) ∧ (∀ u ∈ news, u.oneCell' = true) ∧ Rep (cxo μ s w sh fr) (.agg (flat ys)) (.agg news.toArray) := by
    intro b off f hc hr
    have idx : ∀ q, q < ys.length * k → ∃ y c, ys[q / k]? = some y ∧ y.cells[q % k]? = some c ∧ (flat ys)[q]? = some c := by
      intro q hq
      have hi : q / k < ys.length := (Nat.div_lt_iff_lt_mul hk).2 hq
      have hm : q % k < k := Nat.mod_lt _ hk
      have hy := hw ys[q / k] (List.getElem_mem hi)
      have h3 := flat_get hw (List.getElem?_eq_getElem hi) hm
      rw [show q / k * k + q % k = q by rw [Nat.mul_comm]; exact Nat.div_add_mod q k] at h3
      refine ⟨ys[q / k], ys[q / k].cells[q % k]'(by omega), List.getElem?_eq_getElem hi, List.getElem?_eq_getElem (by omega), ?_⟩
      rw [h3]
      exact List.getElem?_eq_getElem (by omega)
    have hget : ∀ q u, ((List.range (ys.length * k)).map fun q => f (q / k) (q % k))[q]? = some u → q < ys.length * k ∧ u = f (q / k) (q % k) := by
      intro q u hu
      rw [List.getElem?_map, Option.map_eq_some_iff] at hu
      obtain ⟨q', hq', rfl⟩ := hu
      have hq2 := List.getElem?_eq_some_iff.1 hq'
      obtain ⟨hq3, hq4⟩ := hq2
      simp only [List.length_range] at hq3
      rw [List.getElem_range] at hq4
      subst hq4
      exact ⟨hq3, rfl⟩
    refine ⟨(List.range (ys.length * k)).map fun q => f (q / k) (q % k), by simp, ?_, ?_, ?_⟩
    · intro q u hu
      obtain ⟨hq, rfl⟩ := hget q u hu
      obtain ⟨y, c, h1, h2, _⟩ := idx q hq
      rw [add_off]
      have := (hc _ y _ c h1 h2).1
      rw [Nat.add_assoc, show q / k * k + q % k = q by rw [Nat.mul_comm]; exact Nat.div_add_mod q k] at this
      exact this
    · intro u hu
      obtain ⟨q, hq⟩ := List.getElem?_of_mem hu
      obtain ⟨hq', rfl⟩ := hget q u hq
      obtain ⟨y, c, h1, h2, _⟩ := idx q hq'
      exact (hr _ y _ c h1 h2).one (hc _ y _ c h1 h2).2
    · refine .agg (by rw [flat_len hw]; simp) ?_ ?_
      · intro c hcm
        obtain ⟨q, hq⟩ := List.getElem?_of_mem hcm
        have hql : q < ys.length * k := by have := (List.getElem?_eq_some_iff.1 hq).1; rwa [flat_len hw] at this
        obtain ⟨y, c', h1, h2, h3⟩ := idx q hql
        rw [h3] at hq
        injection hq with hq
        subst hq
        exact (hc _ y _ c' h1 h2).2
      · intro q c u hq hu
        have hql : q < ys.length * k := by have := (List.getElem?_eq_some_iff.1 hq).1; rwa [flat_len hw] at this
        obtain ⟨y, c', h1, h2, h3⟩ := idx q hql
        rw [h3] at hq
        injection hq with hq
        subst hq
        obtain ⟨_, rfl⟩ := hget q u (by simpa using hu)
        exact hr _ y _ c' h1 h2
  unfold elems at hy
  split at hy
  · simp only [Option.some.injEq] at hy; subst hy
    cases hx with
    | nil => exact ⟨_, _, _, rfl, rfl, .inl rfl⟩
  · simp only [Option.some.injEq] at hy; subst hy
    cases hx with
    | sl0 => exact ⟨_, _, _, rfl, rfl, .inl rfl⟩
    | @sl f es b off cap k1 n val hnl hcap hle hb hw' hcell hz hr =>
      refine ⟨_, _, _, rfl, hnl, ?_⟩
      by_cases hn : n = 0
      · exact .inl hn
      · have hk1 : k1 = k := by
          obtain ⟨y, hy⟩ := List.exists_mem_of_length_pos (show 0 < List.length _ from hnl ▸ Nat.pos_of_ne_zero hn)
          rw [← hw' y hy, hw y hy]
        subst hk1
        obtain ⟨news, n1, n2, n3, n4⟩ := mk b off val hcell hr
        exact .inr ⟨_, news, rfl, by rw [n1, hnl], n2, n3, n4⟩
  · rename_i o g k' i n
    split at hy
    case h_2 => simp at hy
    rename_i k2 es ho
    split at hy
    case isFalse => simp at hy
    rename_i hc
    obtain ⟨hg, rfl, hn⟩ := hc
    simp only [Option.some.injEq] at hy; subst hy
    cases hx with
    | ref h1 hg' hv _ =>
      obtain ⟨cap, rfl, hcap, _⟩ := hv hg.symm
      refine ⟨_, _, _, rfl, by simp; omega, ?_⟩
      by_cases hn0 : n = 0
      · exact .inl hn0
      · obtain ⟨⟨cs, t, hh, hsz, hlen, hk0, hww, hrr⟩, _⟩ := h.obj o _ ho
        have hk1 : k' = k := by
          have hlt : i < es.length := by omega
          have hm : es[i] ∈ (es.drop i).take n := by
            refine List.mem_of_getElem? (i := 0) ?_
            rw [List.getElem?_take, if_pos (by omega), List.getElem?_drop, Nat.add_zero]
            exact List.getElem?_eq_getElem hlt
          rw [← (hww es[i] (List.getElem_mem hlt)).1, hw es[i] hm]
        subst hk1
        have hidx : ∀ {l x}, ((es.drop i).take n)[l]? = some x → es[i + l]? = some x := by
          intro l x hx
          rw [List.getElem?_take] at hx
          split at hx
          · rwa [List.getElem?_drop] at hx
          · simp at hx
        obtain ⟨news, n1, n2, n3, n4⟩ := mk (μ o) (i * k') (fun l j => cs.getD ((i + l) * k' + j) undef) (by
          intro l x j c hx hc
          have hx' := hidx hx
          have hxm := hww x (List.mem_of_getElem? hx')
          have hj : j < k' := by have := (List.getElem?_eq_some_iff.1 hc).1; omega
          have hb : (i + l) * k' + j < cs.size := idx_lt ((List.getElem?_eq_some_iff.1 hx').1) hj hsz
          refine ⟨?_, hxm.2.2 c (List.mem_of_getElem? hc)⟩
          simp only [cxo] at hh
          rw [show i * k' + l * k' + j = (i + l) * k' + j by rw [Nat.add_mul], cell_of_row w _ _ cs t (0, 0) hh]
          simp [Array.getD_eq_getD_getElem?, Array.getElem?_eq_getElem hb]) (by
          intro l x j c hx hc
          have hx' := hidx hx
          have hxm := hww x (List.mem_of_getElem? hx')
          have hj : j < k' := by have := (List.getElem?_eq_some_iff.1 hc).1; omega
          have hb : (i + l) * k' + j < cs.size := idx_lt ((List.getElem?_eq_some_iff.1 hx').1) hj hsz
          exact hrr (i + l) x j c _ hx' hc (by simp [Array.getD_eq_getD_getElem?, Array.getElem?_eq_getElem hb]))
        refine .inr ⟨_, news, rfl, ?_, n2, n3, n4⟩
        rw [n1]; congr 1; simp; omega
  · simp at hy

/-- A row behind an append. -/
theorem row_append {C : Cx} {k : Nat} {es ys : List X} {cs cs' : Array Value} {news : List Value} {t : TypeId} {b : Nat} (hk : 0 < k) (hh : C.w.heap[b]? = some (.cells cs' t (0, 0)))
    (hes : ∀ y ∈ es, y.cells.length = k ∧ y.deep = true ∧ ∀ c ∈ y.cells, c.one = true) (her : ∀ (i : Nat) e (j : Nat) c v, es[i]? = some e → e.cells[j]? = some c → cs[i * k + j]? = some v → Rep C c v) (hsz : es.length * k ≤ cs.size)
    (hys : ∀ y ∈ ys, y.cells.length = k ∧ y.deep = true) (hn : Rep C (.agg (flat ys)) (.agg news.toArray)) (hlen : es.length + ys.length ≤ 9223372036854775807) (hsz' : (es.length + ys.length) * k ≤ cs'.size)
    (h1 : ∀ q, q < es.length * k → cs'[q]? = cs[q]?) (h2 : ∀ q, q < ys.length * k → cs'[es.length * k + q]? = news[q]?) : ObR C (.row k (es ++ ys)) b := by
  have hyw : ∀ y ∈ ys, y.cells.length = k := fun y hy => (hys y hy).1
  cases hn with
  | agg hl hone hr =>
    refine ⟨cs', t, hh, by simpa using hsz', by simpa using hlen, hk, ?_, ?_⟩
    · intro y hy
      rcases List.mem_append.1 hy with hy | hy
      · exact hes y hy
      · exact ⟨(hys y hy).1, (hys y hy).2, fun c hc => hone c (List.mem_flatMap.2 ⟨y, hy, hc⟩)⟩
    · intro i y j c v hi hj hv
      by_cases hlt : i < es.length
      · rw [List.getElem?_append_left hlt] at hi
        have hjk : j < k := by have := (List.getElem?_eq_some_iff.1 hj).1; have := (hes y (List.mem_of_getElem? hi)).1; omega
        rw [h1 _ (idx_lt hlt hjk (Nat.le_refl _))] at hv
        exact her i y j c v hi hj hv
      · rw [List.getElem?_append_right (by omega)] at hi
        have hjk : j < k := by have := (List.getElem?_eq_some_iff.1 hj).1; have := hyw y (List.mem_of_getElem? hi); omega
        have hq : (i - es.length) * k + j < ys.length * k := idx_lt ((List.getElem?_eq_some_iff.1 hi).1) hjk (Nat.le_refl _)
        have hidx : i * k + j = es.length * k + ((i - es.length) * k + j) := by
          rw [← Nat.add_assoc, ← Nat.add_mul]; congr 2; omega
        rw [hidx, h2 _ hq] at hv
        exact hr _ c v (by rw [flat_get hyw hi hjk]; exact hj) (by simpa using hv)
end
end Go.Proofs.YtoodknhlnifnlaaGreatDoor
