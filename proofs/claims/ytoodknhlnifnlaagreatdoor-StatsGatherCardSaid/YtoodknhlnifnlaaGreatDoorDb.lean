/- The contract of spoil: what it writes is in the description that it is handed, or its own. -/
import Derived.Test.YtoodknhlnifnlaaGreatDoorDz
set_option linter.all false
set_option linter.unusedVariables false
set_option linter.unusedSimpArgs false
set_option maxRecDepth 100000
namespace Go.Proofs.YtoodknhlnifnlaaGreatDoor
open Go.RowKit
/-- Variables with names outside two regions are as they were. -/
def Fr2 (lo hi lo' hi' : Nat) (s s' : Sto) : Prop := ∀ o, (o < lo ∨ hi ≤ o) → (o < lo' ∨ hi' ≤ o) → s' o = s o
theorem Fr2.newO {lo hi lo' hi' : Nat} {s s' : Sto} (h : Fr2 lo hi lo' hi' s s') {o : Nat} (b : Ob) (ho : (lo ≤ o ∧ o < hi) ∨ (lo' ≤ o ∧ o < hi')) : Fr2 lo hi lo' hi' s (newO s' o b) :=
  fun q h1 h2 => by rw [newO_app, if_neg (by omega)]; exact h q h1 h2
theorem Fr2.setO {lo hi lo' hi' : Nat} {s s' : Sto} (h : Fr2 lo hi lo' hi' s s') {o : Nat} (b : Ob) (ho : (lo ≤ o ∧ o < hi) ∨ (lo' ≤ o ∧ o < hi')) : Fr2 lo hi lo' hi' s (setO s' o b) :=
  fun q h1 h2 => by rw [setO_app, if_neg (by omega)]; exact h q h1 h2
theorem wrap0 : IntKind.i64.wrap 0 = 0 := by decide
set_option maxHeartbeats 1000000 in
theorem w_spoil (lo hi : Nat) (a b : Int) (x : X) (cs : List Col) (hl : cs.length ≤ 3518437208882) (s : Sto) (h : SlAt s lo hi 5 x (cs.map Col.enc)) (hd : hi ≤ 10000 ∨ 11000 ≤ lo) :
    wp T [.code B_jointerlaw19_spoil] (ini [.agg [i6 a, i6 b, x]]) s (fun e s' => Fr2 lo hi 10000 11000 s s') := by
  have hl' : cs.length ≤ 9223372036854775807 := by omega
  have hone := h.one.1
  have hcl := h.one.2
  simp [hone]
  refine wp_rounds (σ := Nat) (fun i e s' => (∃ g n, e 1 = .ptr 10001 g 0 ∧ s' 10001 = ⟨g, true, some (.box (.agg [i6 a, i6 b, x])), n⟩) ∧ e 2 = i6 i ∧ i ≤ cs.length ∧
      Hd ((cs = [] ∧ x = .nil) ∨ (∃ (o g n : Nat) (cs' : List Col), x = .ref o g 5 0 cs.length ∧ s' o = ⟨g, true, some (.row 5 (cs'.map Col.enc)), n⟩ ∧ cs'.length = cs.length ∧ lo ≤ o ∧ o < hi)) ∧ Fr2 lo hi 10000 11000 s s') (fun i => cs.length - i) ?_ 0 _ _
    ⟨⟨(s 10001).g + 1, _, by simp, by simp; rfl⟩, by simp, by omega, Hd.mk ?_, ?_⟩
  · rintro i e s' ⟨⟨g, n, e1, s1⟩, e2, hi', ⟨hx⟩, hF⟩ ih
    rcases hx with ⟨rfl, rfl⟩ | ⟨o, g', n', cs', rfl, so, hlen, h1, h2⟩
    · have hi0 : i = 0 := by simpa using hi'
      subst hi0
      simp [e1, e2, s1, wrap0]
      exact ((((hF.newO _ (by omega)).newO _ (by omega)).setO _ (by omega)).setO _ (by omega))
    · have q1 : ¬ o = 10001 := by omega
      have q2 : ¬ 10001 = o := by omega
      have q3 : ¬ o = 10033 := by omega
      have q4 : ¬ 10033 = o := by omega
      simp [e1, e2, s1, so, q1, q2, q3, q4]
      refine wpC_split (fun h => ?_) (fun h => ?_) <;> (have h' := h; try simp at h') <;> (try simp [*])
      · refine ih.out (i + 1) _ _ ⟨⟨g, n, by simp [e1], by simp [s1, q1, q2]⟩, by simp [wrap_succ h' hl'], h', Hd.mk (.inr ⟨o, g', _, (cs'.set i ⟨IntKind.i64.wrap (cs'[i].nulls + IntKind.i64.wrap (1000 + ↑i)), cs'[i].distinct, cs'[i].degree, IntKind.i64.wrap (cs'[i].lo - 7), cs'[i].hi⟩), rfl, by simp [so]; rfl, by simp [hlen], h1, h2⟩), ?_⟩ (by omega)
        exact (hF.setO _ (by omega)).setO _ (by omega)
      · have hie : i = cs.length := by omega
        have hwl : IntKind.i64.wrap (cs.length : Int) = cs.length := wrap_in (by omega) (by omega)
        have hel : ∀ z, (cs'.map Col.enc ++ [z])[cs.length]? = some z := by intro z; rw [← hlen]; simp
        rw [hwl, if_pos (by omega)]
        simp [hel, q1, q2, q3, q4, so]
        exact (((hF.newO _ (by omega)).newO _ (by omega)).setO _ (by omega)).setO _ (by omega)
  · rcases h with ⟨h0, rfl⟩ | ⟨h0, o, g, n, rfl, so, h1, h2⟩
    · exact .inl ⟨by simpa using h0, rfl⟩
    · exact .inr ⟨o, g, n, cs, by simp, by rw [newO_app, if_neg (by omega)]; exact so, rfl, h1, h2⟩
  · exact Fr2.newO (fun _ _ _ => rfl) _ (by omega)
/-- What spoil leaves to its caller. -/
theorem i_spoil (lo hi : Nat) (a b : Int) (x : X) (cs : List Col) (hl : cs.length ≤ 3518437208882) (s : Sto) (h : SlAt s lo hi 5 x (cs.map Col.enc)) (hd : hi ≤ 10000 ∨ 11000 ≤ lo) :
    ∃ r, callI (run T) T n_jointerlaw19_spoil [.agg [i6 a, i6 b, x]] s = some r ∧ r.1 = .tup [] ∧ Fr2 lo hi 10000 11000 s r.2 := by
  exact callI_wp (nt := 44) (res := []) (body := B_jointerlaw19_spoil) (P := fun r => r.1 = .tup [] ∧ Fr2 lo hi 10000 11000 s r.2) (by kernel_rfl) (by simp) (wp_mono (w_spoil lo hi a b x cs hl s h hd) (fun e s' hF => ⟨.tup [], rfl, rfl, hF⟩))
end Go.Proofs.YtoodknhlnifnlaaGreatDoor
