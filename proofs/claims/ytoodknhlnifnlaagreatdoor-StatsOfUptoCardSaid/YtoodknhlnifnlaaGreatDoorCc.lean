/- Contracts: the description of a column. -/
import Derived.Test.YtoodknhlnifnlaaGreatDoorPc
set_option linter.all false
set_option linter.unusedVariables false
set_option linter.unusedSimpArgs false
set_option maxRecDepth 100000
namespace Go.Proofs.YtoodknhlnifnlaaGreatDoor
open Go.RowKit
def v0 : Val := ⟨0, 0, ⟨#[]⟩⟩
def colV (rows : List (List Val)) (j : Nat) : List Val := rows.map fun r => r.getD j v0
theorem colV_get {rows : List (List Val)} {j i : Nat} (h : i < rows.length) (hj : j < rows[i].length) : (colV rows j)[i]? = some rows[i][j] := by
  simp [colV, h, hj]
theorem colV_take {rows : List (List Val)} {j i : Nat} (h : i < rows.length) (hj : j < rows[i].length) : (colV rows j).take (i + 1) = (colV rows j).take i ++ [rows[i][j]] := by
  rw [List.take_add_one, colV_get h hj]; rfl
theorem colV_len (rows : List (List Val)) (j : Nat) : (colV rows j).length = rows.length := by simp [colV]
theorem c_jointerref19_often (rows : List (List Val)) (j : Nat) (v : Val) (hl : rows.length ≤ 9223372036854775807) (hj : ∀ r ∈ rows, j < r.length) :
    call T n_jointerref19_often [.sl false (rows.map rowX), i6 j, v.enc] = some (i6 ((colV rows j).countP (fun u => u.same v) : Nat)) := by
  refine go_jointerref19_often (by simp) ?_
  generalize hR : (((colV rows j).countP (fun u => u.same v) : Nat) : Int) = R; replace hR := Hd.mk hR
  simp
  refine wp_rounds (σ := Nat) (fun i e s => e 0 = .sl false (rows.map rowX) ∧ e 1 = i6 j ∧ e 5 = .ptr 5 1 0 ∧ (∃ n, s 5 = ⟨1, true, some (.box v.enc), n⟩) ∧ e 7 = i6 (((colV rows j).take i).countP (fun u => u.same v) : Nat) ∧ e 8 = i6 i ∧ i ≤ rows.length) (fun i => rows.length - i) ?_ 0 _ _ ⟨rfl, rfl, rfl, ⟨_, rfl⟩, by simp, rfl, by omega⟩
  rintro i e s ⟨e0, e1, e5, ⟨n, s5⟩, e7, e8, hi⟩ ih
  simp [e0, e1, e5, s5, e7, e8]
  refine wpC_split (fun h => ?_) (fun h => ?_) <;> (have h' := h; try simp at h') <;> (try simp [*])
  · have hjr : j < rows[i].length := hj _ (List.getElem_mem h')
    have hc : ((colV rows j).take i).countP (fun u => u.same v) ≤ i := by
      refine Nat.le_trans List.countP_le_length ?_
      rw [List.length_take]; omega
    simp [hjr, c_jointerref01_Same]
    refine wpC_split (fun g => ?_) (fun g => ?_) <;> (have g' := g; try simp at g') <;> (try simp [*])
    · refine ih.out (i + 1) _ _ ?_ (by omega)
      refine ⟨by simp [e0], by simp [e1], by simp [e5], ⟨n, s5⟩, ?_, by simp [e8, wrap_succ h' hl], h'⟩
      rw [colV_take h' hjr, countP_snoc, g]
      have := wrap_succ (i := ((colV rows j).take i).countP (fun u => u.same v)) (n := rows.length) (by omega) hl
      simp [e7, this]
    · refine ih.out (i + 1) _ _ ?_ (by omega)
      refine ⟨by simp [e0], by simp [e1], by simp [e5], ⟨n, s5⟩, ?_, by simp [e8, wrap_succ h' hl], h'⟩
      rw [colV_take h' hjr, countP_snoc, g]
      simp [e7]
  · rw [← hR.out, List.take_of_length_le (by rw [colV_len]; omega)]
theorem colV_take' (rows : List (List Val)) (j i : Nat) : colV (rows.take i) j = (colV rows j).take i := by simp [colV]
theorem c_often_take (rows : List (List Val)) (j i : Nat) (v : Val) (hl : rows.length ≤ 9223372036854775807) (hj : ∀ r ∈ rows, j < r.length) :
    call T n_jointerref19_often [.sl false ((rows.map rowX).take i), i6 j, v.enc] = some (i6 (((colV rows j).take i).countP (fun u => u.same v) : Nat)) := by
  rw [← List.map_take, ← colV_take']
  exact c_jointerref19_often _ j v (by rw [List.length_take]; omega) fun r hr => hj r (List.mem_of_mem_take hr)
theorem valid_null {v : Val} (h : v.valid = true) : v.same v0 = decide (v.kind = 0) := by
  have e : v0.text.toList = [] := by decide +kernel
  by_cases hk : v.kind = 0
  · simp only [Val.valid, hk, if_true, Bool.and_eq_true, decide_eq_true_eq, List.isEmpty_iff] at h
    simp only [Val.same, v0, hk, h.1, decide_true, Bool.true_and] at e ⊢
    rw [h.2, e]; rfl
  · simp [Val.same, v0, hk]
theorem count_key {l : List Val} {v : Val} (hk : ¬ v.kind = 0) : l.countP (fun u => u.same v) = (keys l).count v.key := by
  induction l with
  | nil => rfl
  | cons u l ih =>
    rw [List.countP_cons, ih, same_key]
    by_cases hu : u.kind = 0
    · have : ¬ u.key = v.key := fun h => hk (by have := congrArg Prod.fst h; simp only [Val.key] at this; omega)
      simp [keys, nz, hu, this]
    · by_cases he : u.key = v.key <;> simp [keys, nz, hu, he, List.count_cons]
theorem keys_empty (l : List Val) : (firsts (keys l)).length = 0 ↔ nz l = [] := by
  constructor
  · intro h
    cases hn : nz l with
    | nil => rfl
    | cons v r =>
      have : v.key ∈ firsts (keys l) := by rw [mem_firsts, keys, hn]; simp
      rw [List.length_eq_zero_iff.1 h] at this
      cases this
  · intro h; simp [keys, h, firsts]
/-- The description of a column as the reference makes it, some rows done. -/
def colR (kind : Int) (all l : List Val) : Col where
  nulls := (all.countP fun v => decide (v.kind = 0) : Nat)
  distinct := (firsts (keys l)).length
  degree := maxL ((keys l).map fun k => (keys all).count k)
  lo := if kind = 1 then (if nz l = [] then 1 else loV (nz l)) else 0
  hi := if kind = 1 then (if nz l = [] then 0 else hiV (nz l)) else 0
theorem colR_all (kind : Int) (l : List Val) : colR kind l l = colS kind l := rfl
theorem firsts_add (l : List Key) (k : Key) : (firsts (l ++ [k])).length = (firsts l).length + if k ∈ l then 0 else 1 := by
  by_cases h : k ∈ firsts l
  · rw [firsts_in h, if_pos ((mem_firsts _ _).1 h)]; rfl
  · rw [firsts_new h, if_neg (fun x => h ((mem_firsts _ _).2 x))]; simp
theorem loV_one (v : Val) (h : v.ok) : loV [v] = v.int := by
  simp only [loV, List.map_cons, List.map_nil, List.foldl_cons, List.foldl_nil]; have := h.2; omega
theorem hiV_one (v : Val) (h : v.ok) : hiV [v] = v.int := by
  simp only [hiV, List.map_cons, List.map_nil, List.foldl_cons, List.foldl_nil]; have := h.1; omega
theorem colR_snoc (kind : Int) (all l : List Val) (v : Val) (hk : ¬ v.kind = 0) (hok : v.ok) : colR kind all (l ++ [v]) =
    ⟨(colR kind all l).nulls, (colR kind all l).distinct + (if v.key ∈ keys l then 0 else 1), max (colR kind all l).degree ((keys all).count v.key : Nat),
      if kind = 1 then (if nz l = [] then v.int else min (colR kind all l).lo v.int) else 0, if kind = 1 then (if nz l = [] then v.int else max (colR kind all l).hi v.int) else 0⟩ := by
  have h1 := loV_one v hok
  have h2 := hiV_one v hok
  simp only [colR, keys_snoc, nz_snoc, hk, if_false, firsts_add, List.map_append, List.map_cons, List.map_nil, maxL_snoc, loV_snoc, hiV_snoc]
  simp only [Col.mk.injEq, true_and]
  refine ⟨by split <;> simp, by omega, ?_, ?_⟩
  · by_cases h : kind = 1 <;> by_cases hn : nz l = []
    · simp [h, hn, loV] at h1 ⊢; exact h1
    · simp [h, hn]
    · simp [h]
    · simp [h]
  · by_cases h : kind = 1 <;> by_cases hn : nz l = []
    · simp [h, hn, hiV] at h2 ⊢; exact h2
    · simp [h, hn]
    · simp [h]
    · simp [h]
theorem colR_distinct (kind : Int) (all l : List Val) : (colR kind all l).distinct = 0 ↔ nz l = [] := by
  rw [← keys_empty]; simp [colR]
theorem colR_bound (kind : Int) (all l : List Val) : 0 ≤ (colR kind all l).distinct ∧ (colR kind all l).distinct ≤ l.length := by
  have h1 := firsts_len (keys l)
  have h2 := keys_len l
  simp only [colR]; omega
theorem colR_no (kind : Int) (all l : List Val) (h : ¬ kind = 1) : (colR kind all l).lo = 0 ∧ (colR kind all l).hi = 0 := by simp [colR, h]
set_option maxHeartbeats 2000000 in
theorem c_jointerref19_Column (kind : Int) (rows : List (List Val)) (j : Nat) (ho : rowsOk rows) (hj : ∀ r ∈ rows, j < r.length) (hv : ∀ r ∈ rows, ∀ v ∈ r, v.valid = true) :
    call T n_jointerref19_Column [u8 kind, .sl false (rows.map rowX), i6 j] = some (colS kind (colV rows j)).enc := by
  have hl := ho.1
  refine go_jointerref19_Column (by simp) ?_
  have hn0 : (colV rows j).countP (fun u => u.same v0) = (colV rows j).countP fun v => decide (v.kind = 0) := by
    apply List.countP_congr
    intro v hm
    obtain ⟨r, hr, rfl⟩ := List.mem_map.1 hm
    have hjr := hj r hr
    rw [show r.getD j v0 = r[j] by simp [hjr], valid_null (hv r hr _ (List.getElem_mem hjr))]
  have o0 := c_jointerref19_often rows j v0 hl hj
  rw [hn0] at o0
  simp only [v0] at o0
  generalize hR : colS kind (colV rows j) = R; replace hR := Hd.mk hR
  simp [o0]
  have main : ∀ e s, e 0 = u8 kind → e 1 = .sl false (rows.map rowX) → e 2 = i6 j → e 6 = .ptr 6 1 0 → e 7 = .ptr 7 1 0 → e 8 = i6 0 → (∃ n, s 6 = ⟨1, true, some (.box (Col.enc ⟨0, 0, 0, 0, 0⟩)), n⟩) → (∃ n, s 7 = ⟨1, true, some (.box (colR kind (colV rows j) []).enc), n⟩) →
      wp T [.lp jointerref19_Column_l1, .bl 0, .code ((IC.ops jointerref19_Column_r18).seq IC.ret)] e s (fun e s => resX e s (.cell 6 5 true) = some R.enc) := by
    intro e s e0 e1 e2 e6 e7 e8 s6 s7
    refine wp_rounds (σ := Nat) (fun i e s => e 0 = u8 kind ∧ e 1 = .sl false (rows.map rowX) ∧ e 2 = i6 j ∧ e 6 = .ptr 6 1 0 ∧ e 7 = .ptr 7 1 0 ∧ e 8 = i6 i ∧ (∃ n, s 6 = ⟨1, true, some (.box (Col.enc ⟨0, 0, 0, 0, 0⟩)), n⟩) ∧ (∃ n, s 7 = ⟨1, true, some (.box (colR kind (colV rows j) ((colV rows j).take i)).enc), n⟩) ∧ i ≤ rows.length) (fun i => rows.length - i) ?_ 0 _ _ ⟨e0, e1, e2, e6, e7, e8, s6, s7, by omega⟩
    clear e0 e1 e2 e6 e7 e8 s6 s7 e s
    rintro i e s ⟨e0, e1, e2, e6, e7, e8, ⟨n6, s6⟩, ⟨n7, s7⟩, hi⟩ ih
    simp [e0, e1, e2, e6, e7, e8, s6, s7]
    refine wpC_split (fun h => ?_) (fun h => ?_) <;> (have h' := h; try simp at h') <;> (try simp [*])
    · have hjr : j < rows[i].length := hj _ (List.getElem_mem h')
      have hval : (rows[i][j]).valid = true := hv _ (List.getElem_mem h') _ (List.getElem_mem hjr)
      have hok : (rows[i][j]).ok := (ho.2 _ (List.getElem_mem h')).2 _ (List.getElem_mem hjr)
      refine wpC_split (fun g => ?_) (fun g => ?_) <;> (have g' := g; try simp at g') <;> (try simp [*])
      · refine ih.out (i + 1) _ _ ?_ (by omega)
        refine ⟨by simp [e0], by simp [e1], by simp [e2], by simp [e6], by simp [e7], by simp [e8, wrap_succ h' hl], ⟨n6, by simp [s6]⟩, ⟨n7, ?_⟩, h'⟩
        simp [s7, colV_take h' hjr, colR, keys_snoc, nz_snoc, g']
      · have ot := c_often_take rows j i rows[i][j] hl hj
        have oa := c_jointerref19_often rows j rows[i][j] hl hj
        rw [count_key g'] at ot oa
        have hb := colR_bound kind (colV rows j) ((colV rows j).take i)
        have hll : ((colV rows j).take i).length ≤ i := by rw [List.length_take]; omega
        have hw : IntKind.i64.wrap ((colR kind (colV rows j) ((colV rows j).take i)).distinct + 1) = (colR kind (colV rows j) ((colV rows j).take i)).distinct + 1 := by rw [wrap_in] <;> omega
        have hin : ∀ b, decide (List.count rows[i][j].key (keys (List.take i (colV rows j))) = 0) = b → (rows[i][j].key ∈ keys (List.take i (colV rows j)) ↔ b = false) := by
          intro b hb
          by_cases hc : List.count rows[i][j].key (keys (List.take i (colV rows j))) = 0
          · simp only [hc, decide_true] at hb; subst hb; simp [List.count_eq_zero.1 hc]
          · simp only [hc, decide_false] at hb; subst hb; simp [List.count_pos_iff.1 (Nat.pos_of_ne_zero hc)]
        refine wpG_split (fun k => ?_) (fun k => ?_) <;> (try simp [*])
        · have k' := Hd.mk (of_decide_eq_true k)
          refine wpC_split (fun d => ?_) (fun d => ?_) <;> (try simp [*])
          · have hnz := (colR_distinct kind (colV rows j) _).1 (of_decide_eq_true d)
            refine wpC_split (fun m => ?_) (fun m => ?_) <;> (try simp [*])
            · refine ih.out (i + 1) _ _ ?_ (by omega)
              refine ⟨by simp [e0], by simp [e1], by simp [e2], by simp [e6], by simp [e7], by simp [e8, wrap_succ h' hl], ⟨n6, by simp [s6]⟩, so_mk (by simp [s7]) (by simp [s7]) ?_, h'⟩
              rw [colV_take h' hjr, colR_snoc _ _ _ _ g' hok]
              rw [if_pos k'.out, if_pos k'.out]
              simp [s7, hw, hnz, (hin _ m)]
            · refine ih.out (i + 1) _ _ ?_ (by omega)
              refine ⟨by simp [e0], by simp [e1], by simp [e2], by simp [e6], by simp [e7], by simp [e8, wrap_succ h' hl], ⟨n6, by simp [s6]⟩, so_mk (by simp [s7]) (by simp [s7]) ?_, h'⟩
              rw [colV_take h' hjr, colR_snoc _ _ _ _ g' hok]
              rw [if_pos k'.out, if_pos k'.out]
              simp [s7, hw, hnz, (hin _ m)]
          · have hnz : ¬ nz (List.take i (colV rows j)) = [] := fun x => of_decide_eq_false d ((colR_distinct kind (colV rows j) _).2 x)
            refine wpC_split (fun m => ?_) (fun m => ?_) <;> (try simp [*])
            · refine ih.out (i + 1) _ _ ?_ (by omega)
              refine ⟨by simp [e0], by simp [e1], by simp [e2], by simp [e6], by simp [e7], by simp [e8, wrap_succ h' hl], ⟨n6, by simp [s6]⟩, so_mk (by simp [s7]) (by simp [s7]) ?_, h'⟩
              rw [colV_take h' hjr, colR_snoc _ _ _ _ g' hok]
              rw [if_pos k'.out, if_pos k'.out]
              simp [s7, hw, hnz, (hin _ m)]
            · refine ih.out (i + 1) _ _ ?_ (by omega)
              refine ⟨by simp [e0], by simp [e1], by simp [e2], by simp [e6], by simp [e7], by simp [e8, wrap_succ h' hl], ⟨n6, by simp [s6]⟩, so_mk (by simp [s7]) (by simp [s7]) ?_, h'⟩
              rw [colV_take h' hjr, colR_snoc _ _ _ _ g' hok]
              rw [if_pos k'.out, if_pos k'.out]
              simp [s7, hw, hnz, (hin _ m)]
        · have k' := Hd.mk (of_decide_eq_false k)
          have hz := colR_no kind (colV rows j) (List.take i (colV rows j)) k'.out
          refine wpC_split (fun m => ?_) (fun m => ?_) <;> (try simp [*])
          · refine ih.out (i + 1) _ _ ?_ (by omega)
            refine ⟨by simp [e0], by simp [e1], by simp [e2], by simp [e6], by simp [e7], by simp [e8, wrap_succ h' hl], ⟨n6, by simp [s6]⟩, so_mk (by simp [s7]) (by simp [s7]) ?_, h'⟩
            rw [colV_take h' hjr, colR_snoc _ _ _ _ g' hok]
            rw [if_neg k'.out, if_neg k'.out]
            simp [s7, hw, hz.1, hz.2, (hin _ m)]
          · refine ih.out (i + 1) _ _ ?_ (by omega)
            refine ⟨by simp [e0], by simp [e1], by simp [e2], by simp [e6], by simp [e7], by simp [e8, wrap_succ h' hl], ⟨n6, by simp [s6]⟩, so_mk (by simp [s7]) (by simp [s7]) ?_, h'⟩
            rw [colV_take h' hjr, colR_snoc _ _ _ _ g' hok]
            rw [if_neg k'.out, if_neg k'.out]
            simp [s7, hw, hz.1, hz.2, (hin _ m)]
    · rw [← hR.out, ← colR_all, List.take_of_length_le (by rw [colV_len]; omega)]
      exact ⟨rfl, rfl, rfl, rfl, rfl⟩
  refine wpC_split (fun k => ?_) (fun k => ?_) <;> (try simp [*])
  · have k' := Hd.mk (of_decide_eq_true k)
    refine main _ _ (by simp) (by simp) (by simp) (by simp) (by simp) (by simp) (so_mk (by simp) (by simp) (by simp)) (so_mk (by simp) (by simp) ?_)
    simp [colR, keys, nz, firsts, maxL, k'.out]
  · have k' := Hd.mk (of_decide_eq_false k)
    refine main _ _ (by simp) (by simp) (by simp) (by simp) (by simp) (by simp) (so_mk (by simp) (by simp) (by simp)) (so_mk (by simp) (by simp) ?_)
    simp [colR, keys, nz, firsts, maxL, k'.out]
end Go.Proofs.YtoodknhlnifnlaaGreatDoor
