/- The engine, part O: append; every operation that is no call. -/
import Derived.Test.YtoodknhlnifnlaaGreatDoorN
set_option linter.all false
set_option linter.unusedVariables false
set_option linter.unusedSimpArgs false
namespace Go.Proofs.YtoodknhlnifnlaaGreatDoor
open Go.RowKit
variable {P : Program}
section
variable {w0 : Bs} {sh : Nat → Prop} {nt : Nat} {μ : Nat → Nat} {fr : Nat → Prop} {e : Env} {s : Sto} {a : Act} {w : World}

theorem two_args {c : Call} {r1 r2 : Ar} (h : okAL c.args.toList [r1, r2] = true) : ∃ x y, c.args = #[x, y] ∧ okA x r1 = true ∧ okA y r2 = true := by
  obtain ⟨callee, args, tys⟩ := c
  obtain ⟨l⟩ := args
  match l, h with
  | [x, y], h => simp only [okAL, Bool.and_eq_true, and_true] at h; exact ⟨x, y, rfl, h.1, h.2⟩
  | [], h => simp [okAL] at h
  | [x], h => simp [okAL] at h
  | _ :: _ :: _ :: _, h => simp [okAL] at h

theorem snd_app (h : Inv w0 sh nt μ fr e s a w) {o : Oper} {c : Call} {q k lim : Nat} {r1 r2 : Ar} (ho : o.op = .call c) (hc : c.callee = .builtin .append)
    (hok : okOp P (.call c) (.app q k lim r1 r2) = true) {x : X} {s' : Sto} (hs : stepO (.app q k lim r1 r2) e s = some (x, s')) : Out P w0 sh nt e a w o x s' := by
  simp only [okOp, hc, Bool.and_eq_true] at hok
  obtain ⟨⟨_, hd⟩, hargs⟩ := hok
  obtain ⟨x1, x2, hxa, hx1, hx2⟩ := two_args hargs
  split at hd
  case h_2 => simp at hd
  rename_i t u hty
  simp only [Bool.and_eq_true, beq_iff_eq] at hd
  obtain ⟨rfl, hd⟩ := hd
  split at hd
  case h_2 => simp at hd
  rename_i el ht
  simp only [Bool.and_eq_true, decide_eq_true_eq] at hd
  obtain ⟨⟨⟨hsz, hby⟩, hk⟩, hzz⟩ := hd
  split at hzz
  case h_2 => simp at hzz
  rename_i i hi
  obtain ⟨z, hz, hzk⟩ : ∃ z, i.zero = some z ∧ z.cells.size = k := by
    cases hzi : i.zero with
    | none => simp [hzi] at hzz
    | some z => exact ⟨z, rfl, by simpa [hzi] using hzz⟩
  have hik : i.size = k := by
    unfold szB at hsz; rw [hi] at hsz; simpa using hsz
  have hby2 : 0 < i.bytes ∧ lim * i.bytes ≤ 140737488355328 := by
    unfold byB at hby; rw [hi] at hby; simpa using hby
  have hat : c.argTypes = #[t, t] := by
    obtain ⟨callee, args, ⟨l⟩⟩ := c
    simp only at hty
    simp only [Array.mk.injEq]
    exact hty
  have hr1 := okA_rep h.env hx1
  have hr2 := okA_rep h.env hx2
  have go : ∀ v w', (Builtin.append_ #[t, t] o.type #[a.eval x1, a.eval x2]).run P w = .ok v w' → (execOp a.eval o).run P w = .ok (.value v) w' := by
    intro v w' hv
    simp [execOp, ho, resolve, hc, hxa, hat, invoke, builtin, hv]
  simp only [stepO] at hs
  split at hs
  case h_2 => simp at hs
  rename_i ys hys
  split at hs
  case isTrue => simp at hs
  rename_i hokE
  have hokE : okE k ys = true := by simpa using hokE
  obtain ⟨hyw, hyd⟩ := okE_spec hokE
  obtain ⟨ad, m, cp, hv2, hm, hnews⟩ := elems_run h hr2 hys hk hokE
  split at hs
  · rename_i hnil
    rw [hnil] at hr1
    generalize hv1 : a.eval x1 = v1 at hr1 go
    cases hr1 with
    | nil =>
      rw [hv2] at go
      split at hs
      · rename_i hy0
        subst hy0
        simp only [Option.some.injEq, Prod.mk.injEq] at hs
        obtain ⟨rfl, rfl⟩ := hs
        simp at hm; subst hm
        exact ⟨_, _, _, _, _, go _ _ (run_append_zero w t o.type el i ht hi none ad 0 0 cp (Nat.le_refl _)), .inl rfl, h, .nil⟩
      · rename_i hy0
        split at hs
        case isFalse => simp at hs
        rename_i hlim
        simp only [Option.some.injEq, Prod.mk.injEq] at hs
        obtain ⟨rfl, rfl⟩ := hs
        have hm0 : 0 < m := by
          cases ys with
          | nil => exact absurd rfl hy0
          | cons => simp at hm; omega
        obtain ⟨a0, news, rfl, n1, n2, n3, n4⟩ := hnews.resolve_left (by omega)
        have hmb : m * i.bytes ≤ 140737488355328 := Nat.le_trans (Nat.mul_le_mul_right _ (by omega)) hby2.2
        have hm47 : m ≤ 140737488355328 := by
          have : m * 1 ≤ m * i.bytes := Nat.mul_le_mul_left m hby2.1
          omega
        have hrun := run_append_nil (P := P) w t o.type el i z ht hi hz a0 m cp news (by rw [n1, hik]) n2 hm0 (by omega) (by omega)
        have hge := grownCap_ge w m 0 el
        have hI := h.drew.allocO q (.row k ys) (news.toArray ++ Builtin.zeroCells z.cells (grownCap w m 0 el - m)) el (by
          intro C' hle hw'
          have hn4 : Rep C' (.agg (flat ys)) (.agg news.toArray) := (n4.mono (by
            exact ⟨fun b hb off v hv => hle.cell b hb off v hv, fun b hb off hv => hle.frozen b hb off hv, hle.sh, hle.fr, hle.γ, hle.μ⟩))
          have := row_append (C := C') (es := []) (ys := ys) (cs := #[]) (cs' := news.toArray ++ Builtin.zeroCells z.cells (grownCap w m 0 el - m)) (news := news) (t := el) (b := w.drew.heap.size) hk (by rw [hw']; exact heap_new w.drew _ _) (by simp) (by simp) (by simp)
            (fun y hy => ⟨hyw y hy, hyd y hy⟩) hn4 (by simp; omega) (by simp [n1, hm]) (by simp) (by
              intro q hq
              simp only [List.length_nil, Nat.zero_mul, Nat.zero_add]
              rw [Array.getElem?_append_left (by simp [n1, hm]; exact hq)]
              simp)
          simpa using this)
        refine ⟨_, _, _, _, _, go _ _ hrun, .inl rfl, hI, ?_⟩
        rw [← hm]
        refine .ref (by omega) (by simp [cxo, newO, upd_same]) (fun _ => ⟨grownCap w m 0 el, by simp [cxo, upd_same], hge, _, el, (0, 0), by simp only [cxo, upd_same]; exact heap_new w.drew _ _, ?_⟩) rfl
        simp only [Array.size_append, List.size_toArray, size_zeroCells, hzk, n1, Nat.zero_add]
        rw [← Nat.add_mul]; congr 1; omega
  · rename_i q' g k' j n href
    split at hs
    case h_2 => simp at hs
    rename_i k2 es hobj
    split at hs
    case isFalse => simp at hs
    rename_i hcond
    obtain ⟨hg, rfl, rfl, hwr, rfl, hn, hlim, hnm⟩ := hcond
    simp only [Option.some.injEq, Prod.mk.injEq] at hs
    obtain ⟨rfl, rfl⟩ := hs
    rw [href] at hr1
    generalize hv1 : a.eval x1 = v1 at hr1 go
    cases hr1 with
    | ref hg1 hg' hv _ =>
      obtain ⟨cap, rfl, hcap, cs0, t0, fz0, hh0, hsz0⟩ := hv hg.symm
      obtain ⟨⟨cs, tb, hh, hcs, hlen, _, hww, hrr⟩, hbase, _⟩ := h.obj q' _ hobj
      simp only [cxo] at hh hh0 hrr
      rw [hh] at hh0
      injection hh0 with hh0
      injection hh0 with hh0 _ _
      subst hh0
      rw [hv2] at go
      simp only [Nat.zero_mul, Nat.zero_add] at go hsz0
      have hgq : (newO s q' (.row k2 (es ++ ys)) q').g = g + 1 := by simp [newO, upd_same, hg]
      have hnewO : newO s q' (.row k2 (es ++ ys)) = upd s q' ⟨(s q').g + 1, true, some (.row k2 (es ++ ys)), (s q').n + 1⟩ := rfl
      by_cases hm0 : m = 0
      · have hy0 : ys = [] := List.eq_nil_of_length_eq_zero (by omega)
        subst hy0
        subst hm0
        have hrun := run_append_zero (P := P) w t o.type el i ht hi (some ⟨μ q', 0, none⟩) ad n cap cp hcap
        have hself : w.setRow (μ q') cs = w := setRow_self w _ _ tb (0, 0) hh
        obtain ⟨hI, hle⟩ := h.setRow hobj hwr (ob' := .row k2 (es ++ [])) hh (cs' := cs) rfl ((s q').g + 1) ((s q').n + 1) (by omega) (by
          intro C' hle hw'
          rw [hself] at hw'
          rw [List.append_nil]
          exact (h.obj q' _ hobj).1.mono hle (by rw [hw']; rfl))
        rw [hself] at hI
        refine ⟨_, _, _, _, _, go _ _ hrun, .inl rfl, hI, ?_⟩
        refine .ref (by omega) (by simp [cxo, newO, upd_same, hg]) (fun _ => ⟨cap, by simp [cxo, upd_same], by simpa using hcap, cs, tb, (0, 0), by simp only [cxo, upd_same]; exact hh, by simpa using hsz0⟩) rfl
      · obtain ⟨a0, news, rfl, n1, n2, n3, n4⟩ := hnews.resolve_left hm0
        have hmb : (n + m) * i.bytes ≤ 140737488355328 := Nat.le_trans (Nat.mul_le_mul_right _ (by omega)) hby2.2
        have hm47 : n + m ≤ 140737488355328 := by
          have : (n + m) * 1 ≤ (n + m) * i.bytes := Nat.mul_le_mul_left _ hby2.1
          omega
        have hnk : n * k2 + m * k2 = (n + m) * k2 := by rw [Nat.add_mul]
        by_cases hroom : n + m ≤ cap
        · have hfit : n * k2 + m * k2 ≤ cs.size := by
            rw [hnk, ← hsz0]
            exact Nat.mul_le_mul_right _ hroom
          have hrun := run_append_room' (P := P) w t o.type el tb i ht hi (μ q') n cap cs hh a0 m cp news (by rw [n1, hik]) n2 n3 hroom (by rw [n1, hik]; exact hfit)
          have hlen2 : (spl cs.toList (n * i.size) news).length = cs.size := by rw [spl_len _ _ _ (by rw [n1, hik]; simpa using hfit)]; simp
          obtain ⟨hI, hle⟩ := h.setRow hobj hwr (ob' := .row k2 (es ++ ys)) hh (cs' := (spl cs.toList (n * i.size) news).toArray) (by simpa using hlen2) ((s q').g + 1) ((s q').n + 1) (by omega) (by
            intro C' hle hw'
            refine row_append (C := C') (cs := cs) (news := news) (t := tb) hk (by rw [hw']; exact setRow_heap w _ _ _ tb _ hh) hww (fun i e j c v h1 h2 h3 => (hrr i e j c v h1 h2 h3).mono hle) hcs (fun y hy => ⟨hyw y hy, hyd y hy⟩) (n4.mono hle) (by omega) ?_ ?_ ?_
            · simp only [List.size_toArray, hlen2]
              rw [← hn, ← hm, Nat.add_mul]; omega
            · intro r hr
              simp only [List.getElem?_toArray]
              rw [spl_get _ _ _ _ (by rw [n1, hik]; simpa using hfit), if_neg (by rw [hik, hn]; omega)]
              simp
            · intro r hr
              simp only [List.getElem?_toArray]
              rw [spl_get _ _ _ _ (by rw [n1, hik]; simpa using hfit), if_pos (by rw [hik, hn, n1, hm]; omega)]
              congr 1
              rw [hik, hn]; omega)
          rw [← hnewO] at hI
          refine ⟨_, _, _, _, _, go _ _ hrun, .inl rfl, hI, ?_⟩
          rw [← hm]
          refine .ref (by omega) (by simp [cxo, hgq]) (fun _ => ⟨cap, by simp [cxo, upd_same], hroom, (spl cs.toList (n * i.size) news).toArray, tb, (0, 0), by simp only [cxo, upd_same]; exact setRow_heap w _ _ _ tb _ hh, ?_⟩) rfl
          simp only [List.size_toArray, hlen2, Nat.zero_add]
          exact hsz0
        · have hgrow : cap < n + m := by omega
          have holds : (cs.toList.take (n * k2)).length = n * i.size := by
            rw [List.length_take, hik]
            have : n * k2 ≤ cs.size := by rw [hn]; exact hcs
            simp; omega
          have hrun := run_append_grow (P := P) w t o.type el i z ht hi hz ⟨μ q', 0, none⟩ n cap (cs.toList.take (n * k2)) holds (by
            intro j v hv
            rw [add_off, Nat.zero_add, cell_of_row w _ _ cs tb (0, 0) hh]
            rw [List.getElem?_take] at hv
            split at hv
            · simpa using hv
            · simp at hv) a0 m cp news (by rw [n1, hik]) n2 hgrow (by omega) (growslice_fits hgrow hmb)
          have hge := grownCap_ge w (n + m) cap el
          have hI := h.drew.allocO q' (.row k2 (es ++ ys)) ((cs.toList.take (n * k2)).toArray ++ news.toArray ++ Builtin.zeroCells z.cells (grownCap w (n + m) cap el - (n + m))) el (by
            intro C' hle hw'
            have hle' : (cxo μ s w sh fr).Le C' := ⟨fun b hb off v hv => hle.cell b hb off v hv, fun b hb off hv => hle.frozen b hb off hv, hle.sh, hle.fr, hle.γ, hle.μ⟩
            have hcl : (cs.toList.take (n * k2)).length = n * k2 := by rw [holds, hik]
            refine row_append (C := C') (cs := cs) (news := news) (t := el) hk (by rw [hw']; exact heap_new w.drew _ _) hww (fun i e j c v h1 h2 h3 => (hrr i e j c v h1 h2 h3).mono hle') hcs (fun y hy => ⟨hyw y hy, hyd y hy⟩) (n4.mono hle') (by omega) ?_ ?_ ?_
            · simp only [Array.size_append, List.size_toArray, hcl, n1]
              rw [← hn, ← hm, Nat.add_mul]; omega
            · intro r hr
              rw [← hn] at hr
              rw [Array.append_assoc, Array.getElem?_append_left (by simp only [List.size_toArray, hcl]; exact hr)]
              simp only [List.getElem?_toArray]
              rw [List.getElem?_take, if_pos hr]
              simp
            · intro r hr
              rw [← hm] at hr
              rw [Array.getElem?_append_left (by simp only [Array.size_append, List.size_toArray, hcl, n1, ← hn]; omega)]
              rw [Array.getElem?_append_right (by simp only [List.size_toArray, hcl, ← hn]; omega)]
              simp only [List.size_toArray, hcl, List.getElem?_toArray]
              congr 1
              rw [← hn]; omega)
          refine ⟨_, _, _, _, _, go _ _ hrun, .inl rfl, hI, ?_⟩
          rw [← hm]
          refine .ref (by omega) (by simp [cxo, hgq]) (fun _ => ⟨grownCap w (n + m) cap el, by simp [cxo, upd_same], hge, _, el, (0, 0), by simp only [cxo, upd_same]; exact heap_new w.drew _ _, ?_⟩) rfl
          have hcl : (cs.toList.take (n * k2)).length = n * k2 := by rw [holds, hik]
          simp only [Array.size_append, List.size_toArray, size_zeroCells, hzk, n1, hcl, Nat.zero_add]
          rw [hnk, ← Nat.add_mul]; congr 1; omega
  · simp at hs
end
end Go.Proofs.YtoodknhlnifnlaaGreatDoor
