/- Contracts: the program's description of a column. -/
import Derived.Test.YtoodknhlnifnlaaGreatDoorCc
set_option linter.all false
set_option linter.unusedVariables false
set_option linter.unusedSimpArgs false
set_option maxRecDepth 100000
namespace Go.Proofs.YtoodknhlnifnlaaGreatDoor
open Go.RowKit
def colP (p : List Val) : Col := ⟨(p.countP fun v => decide (v.kind = 0) : Nat), 0, deg (keys p), 0, 0⟩
theorem mfind_new (es : List (Val × Int)) (v : Val) (n : Int) (hf : es.findIdx? (fun p => v.same p.1) = none) : mfind [.i, .i, .s] true v.enc (es.map entX ++ [(v.enc, i6 n)]) = some (some es.length) := by
  have h := mfind_enc (es ++ [(v, n)]) v
  have hs : v.same v = true := by simp [same_key]
  rw [List.map_append, List.map_cons, List.map_nil, List.findIdx?_append, hf] at h
  rw [h]; simp [hs, List.findIdx?_cons]
theorem setV_new (es : List (Val × Int)) (v : Val) (n : Int) (x : X) : setV (es.map entX ++ [(v.enc, i6 n)]) es.length x = es.map entX ++ [(v.enc, x)] := by
  apply List.ext_getElem (by simp [setV])
  intro k h1 h2
  simp only [setV, List.getElem_modify]
  simp only [setV, List.length_modify, List.length_append, List.length_map, List.length_cons, List.length_nil] at h1
  by_cases hk : k < es.length
  · rw [List.getElem_append_left (by simpa using hk), List.getElem_append_left (by simpa using hk), if_neg (by omega)]
  · have : k = es.length := by omega
    subst this
    simp
theorem get_new (es : List (Val × Int)) (v : Val) (n : Int) : (es.map entX ++ [(v.enc, i6 n)])[es.length]? = some (v.enc, i6 n) := by
  have := List.getElem?_concat_length (l := es.map entX) (a := (v.enc, i6 n))
  simpa using this
theorem setV_old (es : List (Val × Int)) (v : Val) (a : Nat) (p : Val × Int) (hp : es[a]? = some p) : setV (es.map entX) a (i6 (p.2 + 1)) = (es.modify a fun p => (p.1, p.2 + 1)).map entX := by
  apply List.ext_getElem (by simp [setV])
  intro k h1 h2
  simp only [setV, List.getElem_modify, List.getElem_map]
  by_cases hk : a = k
  · subst hk
    have hl : a < es.length := by simpa [setV] using h1
    have : es[a] = p := by simpa [hl] using hp
    simp [this]
  · simp [hk]
theorem mfind_old (es : List (Val × Int)) (v : Val) (a : Nat) (hf : es.findIdx? (fun p => v.same p.1) = some a) : mfind [.i, .i, .s] true v.enc ((es.modify a fun p => (p.1, p.2 + 1)).map entX) = some (some a) := by
  rw [mfind_enc]
  congr 1
  obtain ⟨h1, h2, h3⟩ := List.findIdx?_eq_some_iff_getElem.1 hf
  refine List.findIdx?_eq_some_iff_getElem.2 ⟨by simpa using h1, ?_, ?_⟩
  · simp [h2]
  · intro j hj
    have := h3 j hj
    simp only [List.getElem_modify]
    split <;> simpa using this
set_option maxHeartbeats 2000000 in
theorem c_stats_column (kind : Int) (rows : List (List Val)) (j : Nat) (ho : rowsOk rows) (hj : ∀ r ∈ rows, j < r.length) :
    call T n_stats_column [u8 kind, .sl false (rows.map rowX), i6 j] = some (colS kind (colV rows j)).enc := by
  have hl := ho.1
  refine go_stats_column (by simp) ?_
  generalize hR : colS kind (colV rows j) = R; replace hR := Hd.mk hR
  simp
  refine wp_rounds (σ := Nat) (fun i e s => e 0 = u8 kind ∧ e 2 = i6 j ∧ e 6 = .ptr 6 1 0 ∧ e 7 = .ptr 7 1 0 ∧ e 8 = .mp 14 1 ∧ e 9 = i6 (loV (nz ((colV rows j).take i))) ∧ e 10 = i6 (hiV (nz ((colV rows j).take i))) ∧ e 15 = .sl false (rows.map rowX) ∧ e 16 = i6 rows.length ∧ e 17 = i6 i ∧
    (∃ n, s 6 = ⟨1, true, some (.box (Col.enc ⟨0, 0, 0, 0, 0⟩)), n⟩) ∧ (∃ n, s 7 = ⟨1, true, some (.box (colP ((colV rows j).take i)).enc), n⟩) ∧ (∃ n es, s 14 = ⟨1, true, some (.map (es.map entX)), n⟩ ∧ Hd (Counts es (keys ((colV rows j).take i)))) ∧ i ≤ rows.length) (fun i => rows.length - i) ?_ 0 _ _
    ⟨rfl, rfl, rfl, rfl, rfl, rfl, rfl, rfl, by simp, rfl, so_mk (by simp) (by simp) (by simp), so_mk (by simp) (by simp) (by simp [colP, keys, nz, deg, maxL]), ⟨_, [], rfl, ⟨Counts.nil⟩⟩, by omega⟩
  rintro i e s ⟨e0, e2, e6, e7, e8, e9, e10, e15, e16, e17, ⟨n6, s6⟩, ⟨n7, s7⟩, ⟨n14, es, s14, hC⟩, hi⟩ ih
  simp [e0, e2, e6, e7, e8, e9, e10, e15, e16, e17, s6, s7, s14]
  refine wpC_split (fun h => ?_) (fun h => ?_) <;> (have h' := h; try simp at h') <;> (try simp [*])
  · have hjr : j < rows[i].length := hj _ (List.getElem_mem h')
    have hok : (rows[i][j]).ok := (ho.2 _ (List.getElem_mem h')).2 _ (List.getElem_mem hjr)
    refine wpC_split (fun g => ?_) (fun g => ?_) <;> (have g' := g; try simp at g') <;> (try simp [*])
    · refine ih.out (i + 1) _ _ ?_ (by omega)
      have hcn : List.countP (fun v => decide (v.kind = 0)) ((colV rows j).take i) ≤ i := by
        refine Nat.le_trans List.countP_le_length ?_
        rw [List.length_take]; omega
      have hw := wrap_succ (i := List.countP (fun v => decide (v.kind = 0)) ((colV rows j).take i)) (n := rows.length) (by omega) hl
      refine ⟨by simp [e0], by simp [e2], by simp [e6], by simp [e7], by simp [e8], ?_, ?_, by simp [e15], by simp [e16], by simp [wrap_succ h' hl], ⟨n6, by simp [s6]⟩, so_mk (by simp [s7]) (by simp [s7]) ?_, ⟨n14, es, by simp [s14], ?_⟩, h'⟩
      · simp [e9, colV_take h' hjr, nz_snoc, g']
      · simp [e10, colV_take h' hjr, nz_snoc, g']
      · simp [s7, colV_take h' hjr, colP, keys_snoc, countP_snoc, g', hw]
      · simpa [colV_take h' hjr, keys_snoc, g'] using hC
    · have hcc : ∀ k, (keys ((colV rows j).take i)).count k ≤ i := by
        intro k
        refine Nat.le_trans List.count_le_length (Nat.le_trans (keys_len _) ?_)
        rw [List.length_take]; omega
      have fin : ∀ e' s', e' 0 = u8 kind → e' 2 = i6 j → e' 6 = .ptr 6 1 0 → e' 7 = .ptr 7 1 0 → e' 8 = .mp 14 1 → e' 9 = i6 (min (loV (nz ((colV rows j).take i))) rows[i][j].int) → e' 10 = i6 (max (hiV (nz ((colV rows j).take i))) rows[i][j].int) → e' 15 = .sl false (rows.map rowX) → e' 16 = i6 rows.length → e' 17 = i6 ((i + 1 : Nat) : Int) →
          (∃ n, s' 6 = ⟨1, true, some (.box (Col.enc ⟨0, 0, 0, 0, 0⟩)), n⟩) → (∃ n, s' 7 = ⟨1, true, some (.box (Col.enc ⟨(colP ((colV rows j).take i)).nulls, 0, max (colP ((colV rows j).take i)).degree (((keys ((colV rows j).take i)).count rows[i][j].key : Nat) + 1), 0, 0⟩)), n⟩) → (∃ n, s' 14 = ⟨1, true, some (.map ((bump es rows[i][j]).map entX)), n⟩) →
          wp T [.lp stats_column_l1, .bl 0, .code ((IC.ops stats_column_r14).seq ((((IC.ops stats_column_r15).seq (IC.cond (.t 58) ((IC.ops stats_column_r16).seq ((IC.ops stats_column_r17).seq (IC.cond (.t 65) (IC.ops stats_column_r18) IC.skip))) IC.skip))).seq ((IC.ops stats_column_r19).seq IC.ret)))] e' s' (fun e s => (match ldX s (e 6) 5 true with
            | some x => dpC s x
            | none => none) = some R.enc) := by
        intro e' s' x0 x2 x6 x7 x8 x9 x10 x15 x16 x17 y6 y7 y14
        obtain ⟨n, y14⟩ := y14
        refine ih.out (i + 1) _ _ ⟨x0, x2, x6, x7, x8, ?_, ?_, x15, x16, x17, y6, ?_, ⟨n, _, y14, ⟨?_⟩⟩, h'⟩ (by omega)
        · rw [x9, colV_take h' hjr, nz_snoc, if_neg g', loV_snoc]
        · rw [x10, colV_take h' hjr, nz_snoc, if_neg g', hiV_snoc]
        · obtain ⟨m, y7⟩ := y7
          refine ⟨m, ?_⟩
          rw [y7, colV_take h' hjr]
          simp [colP, keys_snoc, countP_snoc, g', deg_snoc, List.count_append]
          omega
        · rw [colV_take h' hjr, keys_snoc, if_neg g']; exact hC.out.bump _
      have hm := mfind_enc es rows[i][j]
      have hk := hcc rows[i][j].key
      cases hf : es.findIdx? fun p => rows[i][j].same p.1 with
      | none =>
        rw [hf] at hm
        have hm2 := fun n => mfind_new es rows[i][j] n hf
        have hg2 := fun n => get_new es rows[i][j] n
        have hs2 := fun n x => setV_new es rows[i][j] n x
        have hc0 : (keys ((colV rows j).take i)).count rows[i][j].key = 0 := List.count_eq_zero.2 (hC.out.find_none hf)
        have hb : (bump es rows[i][j]).map entX = es.map entX ++ [(rows[i][j].enc, i6 1)] := by simp [bump, hf]
        have hw : IntKind.i64.wrap 1 = 1 := by decide
        have hlt : (es.length : Int) < (es.length : Int) + 1 := by omega
        simp [hm, hm2, hg2, hs2, hw, hlt, e0, e2, e6, e7, e8, e9, e10, e15, e16, e17, s6, s7, s14]
        refine fin _ _ (by simp [e0]) (by simp [e2]) (by simp [e6]) (by simp [e7]) (by simp [e8]) (by simp [e9]) (by simp [e10]) (by simp [e15]) (by simp [e16]) (by simp [e17, wrap_succ h' hl]) (so_mk (by simp [s6]) (by simp [s6]) (by simp [s6])) (so_mk (by simp [s7]) (by simp [s7]) ?_) (so_mk (by simp [s14]) (by simp [s14]) ?_)
        · simp [s7, hc0, colP]
        · simp [s14, hb]
      | some a =>
        rw [hf] at hm
        obtain ⟨p, hp, hpk, hpc, hpm, hpl⟩ := hC.out.find_some hf
        have hm2 := mfind_old es rows[i][j] a hf
        have hs2 := setV_old es rows[i][j] a p hp
        have hb : bump es rows[i][j] = es.modify a fun p => (p.1, p.2 + 1) := by simp [bump, hf]
        have hg2 : (es.modify a fun p => (p.1, p.2 + 1))[a]? = some (p.1, p.2 + 1) := by
          simp [List.getElem?_modify, hp]
        have hw : IntKind.i64.wrap (p.2 + 1) = p.2 + 1 := by rw [wrap_in] <;> omega
        have hlt : (a : Int) < (es.length : Int) := by omega
        simp [hm, hm2, hg2, hp, hw, hlt, hs2, e0, e2, e6, e7, e8, e9, e10, e15, e16, e17, s6, s7, s14]
        refine fin _ _ (by simp [e0]) (by simp [e2]) (by simp [e6]) (by simp [e7]) (by simp [e8]) (by simp [e9]) (by simp [e10]) (by simp [e15]) (by simp [e16]) (by simp [e17, wrap_succ h' hl]) (so_mk (by simp [s6]) (by simp [s6]) (by simp [s6])) (so_mk (by simp [s7]) (by simp [s7]) ?_) (so_mk (by simp [s14]) (by simp [s14]) ?_)
        · simp [s7, hpc, colP]
        · simp [s14, hb]
  · have hlen : es.length = (firsts (keys (colV rows j))).length := by
      have := congrArg List.length hC.out.keys
      rw [List.length_map, List.take_of_length_le (by rw [colV_len]; omega)] at this
      exact this
    have htk : List.take i (colV rows j) = colV rows j := List.take_of_length_le (by rw [colV_len]; omega)
    rw [htk] at e9 e10 s7 ⊢
    refine wpC_split (fun k => ?_) (fun k => ?_) <;> (try simp [*])
    · have k' := Hd.mk (of_decide_eq_true k)
      refine wpC_split (fun d => ?_) (fun d => ?_) <;> (try simp [*])
      · have hnz : nz (colV rows j) = [] := (keys_empty _).1 (by simp [of_decide_eq_true d])
        rw [← hR.out]
        simp [colS, k'.out, hnz, hlen, colP]
      · have hnz : ¬ nz (colV rows j) = [] := fun x => of_decide_eq_false d (by have := (keys_empty _).2 x; simpa using this)
        rw [← hR.out]
        simp [colS, k'.out, hnz, hlen, colP]
    · have k' := Hd.mk (of_decide_eq_false k)
      rw [← hR.out]
      simp [colS, k'.out, hlen, colP]
end Go.Proofs.YtoodknhlnifnlaaGreatDoor
