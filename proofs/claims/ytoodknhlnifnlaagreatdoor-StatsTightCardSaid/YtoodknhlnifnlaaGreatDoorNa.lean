/- Numbers: contracts of the arithmetic under normalising. -/
import Derived.Test.YtoodknhlnifnlaaGreatDoorDb
import Derived.Lib.Mul64
import Derived.Laws.Bits64b
set_option linter.all false
set_option linter.unusedVariables false
set_option linter.unusedSimpArgs false
set_option maxRecDepth 100000
namespace Go.Proofs.YtoodknhlnifnlaaGreatDoor
open Go.RowKit
def capN : Int := 4611686018427387904
def clampN (n : Int) : Int := min (max n 0) 4611686018427387904
def timesN (a b : Int) : Int := min (clampN a * clampN b) 4611686018427387904
def plusN (a b : Int) : Int := min (clampN a + clampN b) 4611686018427387904
theorem clampN_range (n : Int) : 0 ≤ clampN n ∧ clampN n ≤ 4611686018427387904 := by unfold clampN; omega
theorem c_value_clamp (n : Int) : call T n_value_clamp [i6 n] = some (i6 (clampN n)) := by
  refine go_value_clamp (by simp) ?_
  simp [clampN]
theorem c_jointerref01_Number (n : Int) : call T n_jointerref01_Number [i6 n] = some (i6 (clampN n)) := by
  refine go_jointerref01_Number (by simp) ?_
  generalize hR : clampN n = R; replace hR := Hd.mk hR
  simp
  refine wpC_split (fun h => ?_) (fun h => ?_) <;> (have h' := h; try simp at h') <;> (try simp [*])
  · rw [← hR.out]; unfold clampN; omega
  refine wpC_split (fun h => ?_) (fun h => ?_) <;> (have h' := h; try simp at h') <;> (try simp [*])
  · rw [← hR.out]; unfold clampN; omega
  · rw [← hR.out]; unfold clampN; omega
theorem u64_in {n : Int} (h : 0 ≤ n) (h' : n < 18446744073709551616) : IntKind.u64.wrap n = n := by rw [IntKind.wrap_u64]; omega
theorem i64_in' {n : Int} (h : -9223372036854775808 ≤ n) (h' : n ≤ 9223372036854775807) : IntKind.i64.wrap n = n := wrap_in h h'
theorem c_value_Plus (a b : Int) : call T n_value_Plus [i6 a, i6 b] = some (i6 (plusN a b)) := by
  refine go_value_Plus (by simp) ?_
  have ha := clampN_range a
  have hb := clampN_range b
  simp [c_value_clamp]
  unfold plusN
  rw [u64_in (n := clampN a) (by omega) (by omega), u64_in (n := clampN b) (by omega) (by omega), u64_in (by omega) (by omega), i64_in' (by omega) (by omega)]
theorem c_jointerref01_Plus (a b : Int) : call T n_jointerref01_Plus [i6 a, i6 b] = some (i6 (plusN a b)) := by
  refine go_jointerref01_Plus (by simp) ?_
  have ha := clampN_range a
  have hb := clampN_range b
  have hw : IntKind.i64.wrap (4611686018427387904 - clampN b) = 4611686018427387904 - clampN b := i64_in' (by omega) (by omega)
  generalize hR : plusN a b = R; replace hR := Hd.mk hR
  simp [c_jointerref01_Number]
  refine wpC_split (fun h => ?_) (fun h => ?_) <;> (have h' := h; try simp at h') <;> (try simp [*])
  · rw [← hR.out]; unfold plusN; omega
  · rw [i64_in' (by omega) (by omega), ← hR.out]; unfold plusN; omega
theorem quo_lt {x y : Int} (hx : 0 ≤ x) (hy : 0 < y) : ((4611686018427387904 : Int).tdiv y < x) = (4611686018427387904 < x * y) := by
  rw [Int.tdiv_eq_ediv_of_nonneg (by omega)]
  rw [Int.ediv_lt_iff_lt_mul hy]
theorem binR_quo {s : Sto} (a b : Int) (h : ¬ b = 0) : binR .quo (.v (.int .i64 a)) (.v (.int .i64 b)) s = some (.v (.int .i64 (IntKind.i64.wrap (a.tdiv b))), s) := by simp [binR, binV, h]
theorem c_jointerref01_Times (a b : Int) : call T n_jointerref01_Times [i6 a, i6 b] = some (i6 (timesN a b)) := by
  refine go_jointerref01_Times (by simp) ?_
  have ha := clampN_range a
  have hb := clampN_range b
  generalize hR : timesN a b = R; replace hR := Hd.mk hR
  simp [c_jointerref01_Number]
  refine wpG_split (fun h => ?_) (fun h => ?_) <;> (have h' := h; try simp at h') <;> (try simp [*])
  · rw [← hR.out]; unfold timesN; rw [h', Int.zero_mul]; omega
  refine wpC_split (fun k => ?_) (fun k => ?_) <;> (have k' := k; try simp at k') <;> (try simp [*])
  · rw [← hR.out]; unfold timesN; rw [k', Int.mul_zero]; omega
  have hq := binR_quo (s := s0) 4611686018427387904 (clampN b) k'
  have h0 := Int.tdiv_nonneg (a := 4611686018427387904) (b := clampN b) (by omega) hb.1
  have h1 : (4611686018427387904 : Int).tdiv (clampN b) ≤ 4611686018427387904 := by
    rw [Int.tdiv_eq_ediv_of_nonneg (by omega)]; exact Int.ediv_le_self _ (by omega)
  rw [i64_in' (by omega) (by omega)] at hq
  simp [hq, quo_lt ha.1 (show 0 < clampN b by omega)]
  refine wpC_split (fun l => ?_) (fun l => ?_) <;> (have l' := l; try simp at l') <;> (try simp [*])
  · rw [← hR.out]; unfold timesN; omega
  · have := Int.mul_nonneg ha.1 hb.1
    rw [i64_in' (by omega) (by omega), ← hR.out]; unfold timesN; omega
theorem maskN (a : Nat) (ha : a < 18446744073709551616) {s : Sto} : binR .and (.v (.int .u64 (a : Int))) (.v (.int .u64 4294967295)) s = some (.v (.int .u64 ((a % 4294967296 : Nat) : Int)), s) := by
  have h := bits_and_u64_nat a 4294967295 ha (by omega)
  have e : a &&& 4294967295 = a % 4294967296 := Nat.and_two_pow_sub_one_eq_mod a 32
  rw [e] at h
  simp [binR, binV, bitsV]
  exact h
theorem shrN (a : Nat) {s : Sto} : binR .shr (.v (.int .u64 (a : Int))) (.v (.int .u64 32)) s = some (.v (.int .u64 ((a / 4294967296 : Nat) : Int)), s) := by
  have e : (a : Int).fdiv 4294967296 = ((a / 4294967296 : Nat) : Int) := by rw [Int.fdiv_eq_ediv_of_nonneg _ (by omega)]; omega
  simp [binR, binV, IntKind.bits, e]
theorem mulW (a b : Nat) (h : a * b < 18446744073709551616) {s : Sto} : binR .mul (.v (.int .u64 (a : Int))) (.v (.int .u64 (b : Int))) s = some (.v (.int .u64 ((a * b : Nat) : Int)), s) := by
  simp only [binR, binV]; rw [← Int.natCast_mul, u64_in (by omega) (by omega)]; rfl
theorem addW (a b : Nat) (h : a + b < 18446744073709551616) {s : Sto} : binR .add (.v (.int .u64 (a : Int))) (.v (.int .u64 (b : Int))) s = some (.v (.int .u64 ((a + b : Nat) : Int)), s) := by
  simp only [binR, binV]; rw [← Int.natCast_add, u64_in (by omega) (by omega)]; rfl
theorem mulM (a b : Nat) {s : Sto} : binR .mul (.v (.int .u64 (a : Int))) (.v (.int .u64 (b : Int))) s = some (.v (.int .u64 ((a * b % 18446744073709551616 : Nat) : Int)), s) := by
  simp only [binR, binV]; rw [← Int.natCast_mul, IntKind.wrap_u64]; rfl
theorem c_math_bits_Mul64 (x y : Nat) (hx : x < 18446744073709551616) (hy : y < 18446744073709551616) : call T n_math_bits_Mul64 [.v (.int .u64 x), .v (.int .u64 y)] = some (.tup [.v (.int .u64 ((x * y / 18446744073709551616 : Nat) : Int)), .v (.int .u64 ((x * y % 18446744073709551616 : Nat) : Int))]) := by
  refine go_math_bits_Mul64 (by simp) ?_
  obtain ⟨bd, bt, bw, hhi⟩ := Lib.mul64_hi x y hx hy
  have ba := Lib.half_mul_le (a := x / 4294967296) (b := y / 4294967296) (by omega) (by omega)
  have bb := Lib.half_mul_le (a := x / 4294967296) (b := y % 4294967296) (by omega) (by omega)
  have bc := Lib.half_mul_le (a := x % 4294967296) (b := y / 4294967296) (by omega) (by omega)
  have lo := mulM x y (s := s0)
  generalize hA : x * y / 18446744073709551616 = A at *
  generalize hB : x * y % 18446744073709551616 = B at *
  have hA' : x * y / 18446744073709551616 < 18446744073709551616 := by
    rw [Nat.div_lt_iff_lt_mul (by omega)]
    exact Nat.mul_lt_mul_of_lt_of_lt hx hy
  rw [hA] at hA'
  have m1 := maskN x hx (s := s0)
  have m2 := maskN y hy (s := s0)
  have d1 := shrN x (s := s0)
  have d2 := shrN y (s := s0)
  generalize x / 4294967296 = x1 at *
  generalize x % 4294967296 = x0 at *
  generalize y / 4294967296 = y1 at *
  generalize y % 4294967296 = y0 at *
  have p00 := mulW x0 y0 bd (s := s0)
  have p10 := mulW x1 y0 (by omega) (s := s0)
  have p01 := mulW x0 y1 (by omega) (s := s0)
  have p11 := mulW x1 y1 (by omega) (s := s0)
  generalize x0 * y0 = w0 at *
  generalize x1 * y0 = q10 at *
  generalize x0 * y1 = q01 at *
  generalize x1 * y1 = q11 at *
  have e1 := shrN w0 (s := s0)
  generalize w0 / 4294967296 = z at *
  have e2 := addW q10 z bt (s := s0)
  generalize q10 + z = t at *
  have e3 := maskN t bt (s := s0)
  have e4 := shrN t (s := s0)
  generalize ht1 : t % 4294967296 = t1 at *
  generalize ht2 : t / 4294967296 = t2 at *
  have e5 := addW t1 q01 bw (s := s0)
  generalize t1 + q01 = v at *
  have e6 := shrN v (s := s0)
  generalize v / 4294967296 = v1 at *
  have e7 := addW q11 t2 (by omega) (s := s0)
  have e8 := addW (q11 + t2) v1 (by omega) (s := s0)
  rw [hhi] at e8
  generalize q11 + t2 = u at *
  simp [m1, m2, d1, d2, p00, p10, p01, p11, e1, e2, e3, e4, e5, e6, e7, e8, lo, -binR_mul, -binR_add]
theorem c_value_Times (a b : Int) : call T n_value_Times [i6 a, i6 b] = some (i6 (timesN a b)) := by
  refine go_value_Times (by simp) ?_
  have ha := clampN_range a
  have hb := clampN_range b
  obtain ⟨x, hx⟩ := Int.eq_ofNat_of_zero_le ha.1
  obtain ⟨y, hy⟩ := Int.eq_ofNat_of_zero_le hb.1
  have hm := c_math_bits_Mul64 x y (by omega) (by omega)
  have ha' := ha
  have hb' := hb
  generalize hR : timesN a b = R; replace hR := Hd.mk hR
  simp [c_value_clamp]
  rw [u64_in ha.1 (by omega), u64_in hb.1 (by omega), hx, hy]
  simp [hm]
  have e1 : (x : Int) * y = ((x * y : Nat) : Int) := (Int.natCast_mul x y).symm
  rw [e1]
  have hP : R = min ((x * y : Nat) : Int) 4611686018427387904 := by rw [← hR.out]; unfold timesN; rw [hx, hy, e1]
  generalize x * y = p at *
  refine wpC_split (fun h => ?_) (fun h => ?_) <;> (have h' := h; try simp at h') <;> (try simp [*])
  · omega
  · rw [i64_in' (by omega) (by omega)]; omega
/-- How many values a column may have. -/
def countN (kind : Int) (c : Col) : Int := if kind = 0 then 0 else if kind = 3 then 2 else if kind = 2 then 4611686018427387904 else if c.hi < c.lo then 0 else min (c.hi - c.lo) 4611686018427387903 + 1
def i64r (n : Int) : Prop := -9223372036854775808 ≤ n ∧ n ≤ 9223372036854775807
def loOk (c : Col) : Prop := i64r c.lo ∧ i64r c.hi
theorem c_stats_count (kind : Int) (c : Col) (h : loOk c) : call T n_stats_count [u8 kind, .agg [i6 c.nulls, i6 c.distinct, i6 c.degree, i6 c.lo, i6 c.hi]] = some (i6 (countN kind c)) := by
  refine go_stats_count (by simp) ?_
  obtain ⟨⟨l1, l2⟩, h1, h2⟩ := h
  generalize hR : countN kind c = R; replace hR := Hd.mk hR
  have hw : ¬ c.hi < c.lo → IntKind.u64.wrap (IntKind.u64.wrap c.hi - IntKind.u64.wrap c.lo) = c.hi - c.lo := by
    intro h; simp only [IntKind.wrap_u64]; omega
  simp
  refine wpC_split (fun k0 => ?_) (fun k0 => ?_) <;> (have k0' := k0; try simp at k0') <;> (try simp [*])
  · rw [← hR.out]; simp [countN, k0']
  refine wpC_split (fun k3 => ?_) (fun k3 => ?_) <;> (have k3' := k3; try simp at k3') <;> (try simp [*])
  · rw [← hR.out]; simp [countN, k3']
  refine wpC_split (fun k2 => ?_) (fun k2 => ?_) <;> (have k2' := k2; try simp at k2') <;> (try simp [*])
  · rw [← hR.out]; simp [countN, k2']
  refine wpC_split (fun k1 => ?_) (fun k1 => ?_) <;> (have k1' := k1; try simp at k1') <;> (try simp [*])
  · rw [← hR.out]; simp [countN, k0', k3', k2', k1']
  · rw [← hR.out, i64_in' (n := min _ _) (by omega) (by omega), i64_in' (by omega) (by omega)]; simp [countN, k0', k3', k2', k1']; omega
theorem c_jointerref19_Count (kind : Int) (c : Col) (h : loOk c) : call T n_jointerref19_Count [u8 kind, .agg [i6 c.nulls, i6 c.distinct, i6 c.degree, i6 c.lo, i6 c.hi]] = some (i6 (countN kind c)) := by
  refine go_jointerref19_Count (by simp) ?_
  obtain ⟨⟨l1, l2⟩, h1, h2⟩ := h
  generalize hR : countN kind c = R; replace hR := Hd.mk hR
  have hw : ¬ c.hi < c.lo → IntKind.u64.wrap (IntKind.u64.wrap c.hi - IntKind.u64.wrap c.lo) = c.hi - c.lo := by
    intro h; simp only [IntKind.wrap_u64]; omega
  simp
  refine wpC_split (fun k0 => ?_) (fun k0 => ?_) <;> (have k0' := k0; try simp at k0') <;> (try simp [*])
  · rw [← hR.out]; simp [countN, k0']
  refine wpC_split (fun k3 => ?_) (fun k3 => ?_) <;> (have k3' := k3; try simp at k3') <;> (try simp [*])
  · rw [← hR.out]; simp [countN, k3']
  refine wpC_split (fun k2 => ?_) (fun k2 => ?_) <;> (have k2' := k2; try simp at k2') <;> (try simp [*])
  · rw [← hR.out]; simp [countN, k2']
  refine wpC_split (fun k1 => ?_) (fun k1 => ?_) <;> (have k1' := k1; try simp at k1') <;> (try simp [*])
  · rw [← hR.out]; simp [countN, k0', k3', k2', k1']
  refine wpC_split (fun k4 => ?_) (fun k4 => ?_) <;> (have k4' := k4; try simp at k4') <;> (try simp [*])
  · rw [← hR.out]; simp [countN, k0', k3', k2', k1']; omega
  · rw [← hR.out, i64_in' (n := c.hi - c.lo) (by omega) (by omega), i64_in' (by omega) (by omega)]; simp [countN, k0', k3', k2', k1']; omega
/-- A column normalised in a bag with so many rows. -/
def ncol (kind : Int) (c : Col) (r : Int) : Col :=
  if min c.distinct (min r (countN kind c)) = 0 ∨ min c.degree r = 0 then ⟨min c.nulls r, 0, 0, if kind = 1 then 1 else c.lo, if kind = 1 then 0 else c.hi⟩
  else ⟨min c.nulls r, min c.distinct (min r (countN kind c)), min c.degree r, c.lo, c.hi⟩
theorem ncol_z {kind : Int} {c : Col} {r : Int} (h : min c.distinct (min r (countN kind c)) = 0 ∨ min c.degree r = 0) : ncol kind c r = ⟨min c.nulls r, 0, 0, if kind = 1 then 1 else c.lo, if kind = 1 then 0 else c.hi⟩ := if_pos h
theorem ncol_n {kind : Int} {c : Col} {r : Int} (h : ¬ min c.distinct (min r (countN kind c)) = 0) (h' : ¬ min c.degree r = 0) : ncol kind c r = ⟨min c.nulls r, min c.distinct (min r (countN kind c)), min c.degree r, c.lo, c.hi⟩ := if_neg (fun q => q.elim h h')
def valC (c : Col) : Int := plusN (timesN c.distinct c.degree) c.nulls
def cok (c : Col) : Prop := 0 ≤ c.nulls ∧ 0 ≤ c.distinct ∧ 0 ≤ c.degree ∧ loOk c
theorem countN_nonneg (kind : Int) (c : Col) : 0 ≤ countN kind c := by
  unfold countN; split
  · omega
  split
  · omega
  split
  · omega
  split
  · omega
  · omega
theorem c_jointerref19_normalColumn (kind : Int) (c : Col) (r : Int) (h : cok c) (hr : 0 ≤ r) : call T n_jointerref19_normalColumn [u8 kind, .agg [i6 c.nulls, i6 c.distinct, i6 c.degree, i6 c.lo, i6 c.hi], i6 r] = some ((ncol kind c r).enc) := by
  refine go_jointerref19_normalColumn (by simp) ?_
  obtain ⟨o1, o2, o3, o4⟩ := h
  have hct : ∀ a b d : Int, call T n_jointerref19_Count [u8 kind, .agg [i6 a, i6 b, i6 d, i6 c.lo, i6 c.hi]] = some (i6 (countN kind c)) := fun a b d => c_jointerref19_Count kind ⟨a, b, d, c.lo, c.hi⟩ o4
  have hc0 := countN_nonneg kind c
  generalize hR : ncol kind c r = R; replace hR := Hd.mk hR
  simp [hct]
  refine wpG_split (fun h1 => ?_) (fun h1 => ?_) <;> (have h1' := h1; try simp at h1') <;> (try simp [*])
  · refine wpC_split (fun k => ?_) (fun k => ?_) <;> (have k' := k; try simp at k') <;> (try simp [*])
    · rw [← hR.out, ncol_z (.inl h1'), if_pos k', if_pos k']; simp
    · rw [← hR.out, ncol_z (.inl h1'), if_neg k', if_neg k']; simp
  refine wpG_split (fun h2 => ?_) (fun h2 => ?_) <;> (have h2' := h2; try simp at h2') <;> (try simp [*])
  · refine wpC_split (fun k => ?_) (fun k => ?_) <;> (have k' := k; try simp at k') <;> (try simp [*])
    · rw [← hR.out, ncol_z (.inr h2'), if_pos k', if_pos k']; simp
    · rw [← hR.out, ncol_z (.inr h2'), if_neg k', if_neg k']; simp
  refine wpC_split (fun h3 => ?_) (fun h3 => ?_) <;> (have h3' := h3; try simp at h3') <;> (try simp [*])
  · exfalso; omega
  · rw [← hR.out, ncol_n h1' h2']; simp
end Go.Proofs.YtoodknhlnifnlaaGreatDoor
