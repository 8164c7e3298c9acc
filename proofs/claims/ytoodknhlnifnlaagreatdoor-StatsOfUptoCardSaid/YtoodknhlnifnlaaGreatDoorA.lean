/- The engine, part A: abstract values without a heap, and what it means that one stands for a value of the machine. -/
import Derived.Tactics
import Derived.Below
import Derived.Laws.Rows
import Derived.Laws.CopyRow
import Derived.Orders
import Derived.Test.YtoodknhlnifnlaaGreatDoorGl
set_option linter.all false
set_option linter.unusedVariables false
set_option linter.unusedSimpArgs false
namespace Go.Proofs.YtoodknhlnifnlaaGreatDoor
open Go.RowKit

/-- An abstract value. 'sl': an immutable slice with what it leads to (true: made by this call); 'ref', 'ptr', 'ep', 'mp': into variables that this call has made, by name and stamp; 'ip': a pointer into immutable memory. -/
inductive X where
  | v (u : Value)
  | nil
  | sl (f : Bool) (es : List X)
  | agg (cs : List X)
  | tup (cs : List X)
  | ref (o g k i n : Nat)
  | ptr (o g j : Nat)
  | ep (o g k i j : Nat)
  | ip (x : X) (j : Nat)
  | fn (f : Nat) (cs : List X)
  | mp (o g : Nat)
  | junk
  deriving Inhabited

def X.cells : X → List X
  | .agg cs => cs
  | x => [x]

/-- Values that hold no address. -/
def plain : Value → Bool
  | .int _ _ | .bool _ | .string _ | .nilFunc | .nilIface | .pointer none | .map none => true
  | _ => false

/-- What fills one cell. -/
def X.one : X → Bool
  | .agg _ | .tup _ | .junk => false
  | _ => true

/-- A variable in memory. -/
inductive Ob where
  | box (x : X)
  | row (k : Nat) (es : List X)
  | map (es : List (X × X))
  deriving Inhabited

structure SO where
  g : Nat
  wr : Bool
  o : Option Ob
  n : Nat
  deriving Inhabited

abbrev Env := Nat → X
abbrev Sto := Nat → SO
@[inline] def upd {α : Type} (f : Nat → α) (d : Nat) (x : α) : Nat → α := fun n => if n = d then x else f n
theorem upd_same {α : Type} (f : Nat → α) (d : Nat) (x : α) : upd f d x d = x := by simp [upd]
theorem upd_ne {α : Type} (f : Nat → α) {d n : Nat} (x : α) (h : n ≠ d) : upd f d x n = f n := by simp [upd, h]

mutual
def X.deep : X → Bool
  | .v _ => true
  | .sl _ es => deepL es
  | .agg cs => deepL cs
  | .tup cs => deepL cs
  | .fn _ cs => deepL cs
  | _ => false
def deepL : List X → Bool
  | [] => true
  | x :: l => x.deep && deepL l
end

mutual
/-- As an argument: nothing of it was made by the call that is handed it. -/
def X.shr : X → X
  | .sl _ es => .sl false (shrL es)
  | .agg cs => .agg (shrL cs)
  | .tup cs => .tup (shrL cs)
  | .fn f cs => .fn f (shrL cs)
  | .nil => .sl false []
  | .ip x j => .ip x.shr j
  | x => x
def shrL : List X → List X
  | [] => []
  | x :: l => x.shr :: shrL l
end

structure Cx where
  μ : Nat → Nat
  γ : Nat → Nat
  w : World
  sh : Nat → Prop
  fr : Nat → Prop

def Cx.blk (C : Cx) (f : Bool) (b : Nat) : Prop := C.fr b ∨ (f = false ∧ C.sh b)

inductive Rep (C : Cx) : X → Value → Prop
  | v {u : Value} : plain u = true → Rep C (.v u) u
  | nil : Rep C .nil (.slice none 0 0)
  | sl0 {f : Bool} {a : Option Addr} {cap : Nat} : Rep C (.sl f []) (.slice a 0 cap)
  | sl {f : Bool} {es : List X} {b off cap k n : Nat} (val : Nat → Nat → Value) : n = es.length → n ≤ cap →
      es.length ≤ 9223372036854775807 → C.blk f b → (∀ e ∈ es, e.cells.length = k) →
      (∀ i e j c, es[i]? = some e → e.cells[j]? = some c → C.w.cell? ⟨b, off + i * k + j, none⟩ = some (val i j) ∧ c.one = true) →
      (f = true → ∀ j, C.w.frozen? ⟨b, j, none⟩ = false) →
      (∀ i e j c, es[i]? = some e → e.cells[j]? = some c → Rep C c (val i j)) →
      Rep C (.sl f es) (.slice (some ⟨b, off, none⟩) n cap)
  | agg {cs : List X} {vs : Array Value} : cs.length = vs.size → (∀ c ∈ cs, c.one = true) →
      (∀ (j : Nat) c v, cs[j]? = some c → vs[j]? = some v → Rep C c v) → Rep C (.agg cs) (.agg vs)
  | tup {cs : List X} {vs : Array Value} : cs.length = vs.size →
      (∀ (j : Nat) c v, cs[j]? = some c → vs[j]? = some v → Rep C c v) → Rep C (.tup cs) (.tuple vs)
  | fn {f : Nat} {cs : List X} {vs : Array Value} : cs.length = vs.size →
      (∀ (j : Nat) c v, cs[j]? = some c → vs[j]? = some v → Rep C c v) → Rep C (.fn f cs) (.func (.func f) #[] vs)
  | ref {o g k i n : Nat} {v : Value} : 1 ≤ g → g ≤ C.γ o → (C.γ o = g → ∃ cap, v = .slice (some ⟨C.μ o, i * k, none⟩) n cap ∧ n ≤ cap ∧
        ∃ cs t fz, C.w.heap[C.μ o]? = some (.cells cs t fz) ∧ (i + cap) * k = cs.size) → v.oneCell' = true → Rep C (.ref o g k i n) v
  | ptr {o g j : Nat} {v : Value} : 1 ≤ g → g ≤ C.γ o → (C.γ o = g → v = .pointer (some ⟨C.μ o, j, none⟩)) → v.oneCell' = true → Rep C (.ptr o g j) v
  | ep {o g k i j : Nat} {v : Value} : 1 ≤ g → g ≤ C.γ o → (C.γ o = g → v = .pointer (some ⟨C.μ o, i * k + j, none⟩)) → v.oneCell' = true → Rep C (.ep o g k i j) v
  | ip {x : X} {j b off : Nat} (val : Nat → Value) : (C.fr b ∨ C.sh b) →
      (∀ l c, x.cells[l]? = some c → C.w.cell? ⟨b, off + l, none⟩ = some (val l) ∧ c.one = true) →
      (∀ l c, x.cells[l]? = some c → Rep C c (val l)) → Rep C (.ip x j) (.pointer (some ⟨b, off + j, none⟩))
  | mp {o g : Nat} {v : Value} : 1 ≤ g → g ≤ C.γ o → (C.γ o = g → v = .map (some (C.μ o))) → v.oneCell' = true → Rep C (.mp o g) v
  | junk {v : Value} : Rep C .junk v

theorem Rep.one {C : Cx} {x : X} {v : Value} (h : Rep C x v) (ho : x.one = true) : v.oneCell' = true := by
  cases h <;> first | assumption | rfl | (simp [X.one] at ho; done) | skip
  rename_i hp
  cases v <;> first | rfl | (simp [plain] at hp; done)

/-- What lets a standing go over from one context to another. -/
structure Cx.Le (C D : Cx) : Prop where
  cell : ∀ b, C.fr b ∨ C.sh b → ∀ o v, C.w.cell? ⟨b, o, none⟩ = some v → D.w.cell? ⟨b, o, none⟩ = some v
  frozen : ∀ b, C.fr b → ∀ o, C.w.frozen? ⟨b, o, none⟩ = false → D.w.frozen? ⟨b, o, none⟩ = false
  sh : ∀ b, C.sh b → D.sh b ∨ D.fr b
  fr : ∀ b, C.fr b → D.fr b
  γ : ∀ o, C.γ o ≤ D.γ o
  μ : ∀ o, 1 ≤ C.γ o → D.γ o = C.γ o → D.μ o = C.μ o ∧ ∀ cs t fz, C.w.heap[C.μ o]? = some (.cells cs t fz) → ∃ cs' t' fz', D.w.heap[C.μ o]? = some (.cells cs' t' fz') ∧ cs.size = cs'.size

theorem Cx.Le.trans {C D E : Cx} (h : C.Le D) (k : D.Le E) : C.Le E := by
  refine ⟨?_, ?_, ?_, fun b hb => k.fr b (h.fr b hb), fun o => Nat.le_trans (h.γ o) (k.γ o), ?_⟩
  · intro b hb o v hv
    refine k.cell b ?_ o v (h.cell b hb o v hv)
    rcases hb with hb | hb
    · exact .inl (h.fr b hb)
    · rcases h.sh b hb with h1 | h1
      · exact .inr h1
      · exact .inl h1
  · intro b hb o hv
    exact k.frozen b (h.fr b hb) o (h.frozen b hb o hv)
  · intro b hb
    rcases h.sh b hb with h1 | h1
    · exact k.sh b h1
    · exact .inr (k.fr b h1)
  · intro o h1 h2
    have a1 := h.γ o
    have a2 := k.γ o
    obtain ⟨b1, b2⟩ := h.μ o h1 (by omega)
    obtain ⟨c1, c2⟩ := k.μ o (by omega) (by omega)
    refine ⟨c1.trans b1, fun cs t fz hcs => ?_⟩
    obtain ⟨cs', t', fz', d1, d2⟩ := b2 cs t fz hcs
    obtain ⟨cs2, t2, fz2, e1, e2⟩ := c2 cs' t' fz' (b1 ▸ d1)
    exact ⟨cs2, t2, fz2, b1 ▸ e1, d2.trans e2⟩
/-- The world at a call, and what is known there. -/
structure Bs extends World where
  base : Cx
  gok : GOK toWorld
instance : Coe Bs World := ⟨Bs.toWorld⟩

theorem Cx.Le.refl (C : Cx) : C.Le C := ⟨fun _ _ _ _ h => h, fun _ _ _ h => h, fun _ h => .inl h, fun _ h => h, fun _ => Nat.le_refl _, fun _ _ _ => ⟨rfl, fun cs t fz h => ⟨cs, t, fz, h, rfl⟩⟩⟩

theorem Rep.mono {C D : Cx} (h : C.Le D) {x : X} {v : Value} (hx : Rep C x v) : Rep D x v := by
  induction hx with
  | v hp => exact .v hp
  | nil => exact .nil
  | sl0 => exact .sl0
  | @sl f es b off cap k n val hn hcap hl hb hk hc hz _ ih =>
    refine .sl val hn hcap hl ?_ hk (fun i e j c hi hj => ⟨h.cell b ?_ _ _ (hc i e j c hi hj).1, (hc i e j c hi hj).2⟩) (fun hf j => h.frozen b ?_ _ (hz hf j)) ih
    · rcases hb with hb | ⟨hf, hb⟩
      · exact .inl (h.fr b hb)
      · rcases h.sh b hb with hb' | hb'
        · exact .inr ⟨hf, hb'⟩
        · exact .inl hb'
    · exact hb.imp id And.right
    · rcases hb with hb | ⟨hf', _⟩
      · exact hb
      · simp [hf] at hf'
  | agg hl ho _ ih => exact .agg hl ho ih
  | tup hl _ ih => exact .tup hl ih
  | fn hl _ ih => exact .fn hl ih
  | @ref o g k i n v h1 hg hv ho =>
    refine .ref h1 (Nat.le_trans hg (h.γ o)) (fun he => ?_) ho
    have hg' : C.γ o = g := by have := h.γ o; omega
    obtain ⟨cap, rfl, hn, cs, t, fz, hh, hs⟩ := hv hg'
    obtain ⟨hm, hm'⟩ := h.μ o (by omega) (by omega)
    obtain ⟨cs', t', fz', hh', hs'⟩ := hm' cs t fz hh
    exact ⟨cap, by rw [hm], hn, cs', t', fz', by rw [hm]; exact hh', by omega⟩
  | @ptr o g j v h1 hg hv ho =>
    refine .ptr h1 (Nat.le_trans hg (h.γ o)) (fun he => ?_) ho
    have hg' : C.γ o = g := by have := h.γ o; omega
    rw [hv hg', (h.μ o (by omega) (by omega)).1]
  | @ep o g k i j v h1 hg hv ho =>
    refine .ep h1 (Nat.le_trans hg (h.γ o)) (fun he => ?_) ho
    have hg' : C.γ o = g := by have := h.γ o; omega
    rw [hv hg', (h.μ o (by omega) (by omega)).1]
  | @ip x j b off val hb hc _ ih =>
    exact .ip val ((hb.symm.imp (h.sh b) (h.fr b)).elim (fun h => h.symm) .inl) (fun l c hl => ⟨h.cell b hb _ _ (hc l c hl).1, (hc l c hl).2⟩) ih
  | @mp o g v h1 hg hv ho =>
    refine .mp h1 (Nat.le_trans hg (h.γ o)) (fun he => ?_) ho
    have hg' : C.γ o = g := by have := h.γ o; omega
    rw [hv hg', (h.μ o (by omega) (by omega)).1]
  | junk => exact .junk

/-- What holds no address of this call's own asks nothing of names. -/
theorem Rep.deep_mono {C D : Cx} {x : X} {v : Value} (hx : Rep C x v) (hd : x.deep = true)
    (cell : ∀ b, C.fr b ∨ C.sh b → ∀ o v, C.w.cell? ⟨b, o, none⟩ = some v → D.w.cell? ⟨b, o, none⟩ = some v)
    (frozen : ∀ b, C.fr b → ∀ o, C.w.frozen? ⟨b, o, none⟩ = false → D.w.frozen? ⟨b, o, none⟩ = false)
    (sh : ∀ b, C.sh b → D.sh b ∨ D.fr b) (fr : ∀ b, C.fr b → D.fr b) : Rep D x v := by
  have mem : ∀ {l : List X}, deepL l = true → ∀ c ∈ l, c.deep = true := by
    intro l
    induction l with
    | nil => intro _ c hc; cases hc
    | cons a l ih =>
      intro h c hc
      simp only [deepL, Bool.and_eq_true] at h
      cases hc with
      | head => exact h.1
      | tail _ hc => exact ih h.2 c hc
  have cm : ∀ {e : X}, e.deep = true → ∀ c ∈ e.cells, c.deep = true := by
    intro e he c hc
    cases e
    case agg cs => exact mem (l := cs) (by simpa [X.deep] using he) c hc
    all_goals (simp only [X.cells, List.mem_singleton] at hc; subst hc; exact he)
  induction hx with
  | v hp => exact .v hp
  | nil => exact .nil
  | sl0 => exact .sl0
  | @sl f es b off cap k n val hn hcap hl hb hk hc hz _ ih =>
    have hes := mem (show deepL es = true by simpa [X.deep] using hd)
    refine .sl val hn hcap hl ?_ hk (fun i e j c hi hj => ⟨cell b ?_ _ _ (hc i e j c hi hj).1, (hc i e j c hi hj).2⟩) (fun hf j => frozen b ?_ _ (hz hf j)) (fun i e j c hi hj => ih i e j c hi hj (cm (hes e (List.mem_of_getElem? hi)) c (List.mem_of_getElem? hj)))
    · rcases hb with hb | ⟨hf, hb⟩
      · exact .inl (fr b hb)
      · rcases sh b hb with hb' | hb'
        · exact .inr ⟨hf, hb'⟩
        · exact .inl hb'
    · exact hb.imp id And.right
    · rcases hb with hb | ⟨hf', _⟩
      · exact hb
      · simp [hf] at hf'
  | agg hl ho _ ih =>
    have hes := mem (by simpa [X.deep] using hd)
    exact .agg hl ho fun j c v hj hv => ih j c v hj hv (hes c (List.mem_of_getElem? hj))
  | tup hl _ ih =>
    have hes := mem (by simpa [X.deep] using hd)
    exact .tup hl fun j c v hj hv => ih j c v hj hv (hes c (List.mem_of_getElem? hj))
  | fn hl _ ih =>
    have hes := mem (by simpa [X.deep] using hd)
    exact .fn hl fun j c v hj hv => ih j c v hj hv (hes c (List.mem_of_getElem? hj))
  | _ => simp [X.deep] at hd

end Go.Proofs.YtoodknhlnifnlaaGreatDoor
