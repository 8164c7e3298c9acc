/- The engine, part Q: every operation that is no call. -/
import Derived.Test.YtoodknhlnifnlaaGreatDoorPm
set_option linter.all false
set_option linter.unusedVariables false
set_option linter.unusedSimpArgs false
namespace Go.Proofs.YtoodknhlnifnlaaGreatDoor
open Go.RowKit
variable {P : Program}

def okOq (P : Program) (op : Op) (io : IOp) : Bool :=
  match io with
  | .eqs neg ks a b => match op with
    | .binOp o t x y _ => (o == if neg then .neq else .eql) && okA x a && okA y b && eqT P t ks
    | _ => false
  | .eqn neg a => match op with
    | .binOp o t x (.const (.slice none 0 0)) _ => (o == if neg then .neq else .eql) && okA x a && (match P.underlying t with
      | some (.slice _) => true
      | _ => false)
    | _ => false
  | .mkm .. | .mlk .. | .men .. | .mst .. | .mup .. | .mln .. => okMap P op io
  | _ => okOp P op io
@[simp] def plainI : IOp → Bool
  | .eqs .. | .eqn .. | .mkm .. | .mlk .. | .men .. | .mst .. | .mup .. | .mln .. => false
  | _ => true

def stillI : IOp → Bool
  | .box .. | .bsl .. | .st .. | .mks .. | .app .. | .call .. | .callv .. | .calli .. | .mkm .. | .men .. | .mst .. | .mup .. => false
  | _ => true

section
variable {w0 : Bs} {sh : Nat → Prop} {nt : Nat} {μ : Nat → Nat} {fr : Nat → Prop} {e : Env} {s : Sto} {a : Act} {w : World}

theorem okOq_okOp {op : Op} {io : IOp} (h : okOq P op io = true) (hn : plainI io = true) : okOp P op io = true := by
  cases io <;> first | exact h | (simp at hn; done)

theorem retS_some {x : Option X} {y : X} {s s' : Sto} (h : retS x s = some (y, s')) : x = some y ∧ s' = s := by
  unfold retS at h
  split at h
  · simp only [Option.some.injEq, Prod.mk.injEq] at h; obtain ⟨rfl, rfl⟩ := h; exact ⟨rfl, rfl⟩
  · simp at h

set_option maxHeartbeats 1000000 in
theorem still_sound (h : Inv w0 sh nt μ fr e s a w) {o : Oper} {io : IOp} (hok : okOq P o.op io = true) (hst : stillI io = true) {x : X} {s' : Sto} (hs : stepO io e s = some (x, s')) :
    s' = s ∧ OutS P w0 sh nt μ fr e s a w o x := by
  cases io
  case mov r =>
    have hok := okOq_okOp hok (by simp)
    simp only [stepO, Option.some.injEq, Prod.mk.injEq] at hs
    obtain ⟨rfl, rfl⟩ := hs
    refine ⟨rfl, ?_⟩
    cases hop : o.op <;> simp only [hop, okOp, Bool.false_eq_true] at hok
    · exact snd_mov h (.inl hop) hok
    · exact snd_mov h (.inr hop) hok
  case pick c r1 r2 =>
    have hok := okOq_okOp hok (by simp)
    simp only [stepO] at hs
    split at hs
    case h_2 => simp at hs
    rename_i t ht
    simp only [Option.some.injEq, Prod.mk.injEq] at hs
    obtain ⟨rfl, rfl⟩ := hs
    refine ⟨rfl, ?_⟩
    cases hop : o.op <;> simp only [hop, okOp, Bool.false_eq_true, Bool.and_eq_true] at hok
    exact snd_pick h hop hok.1.1 hok.1.2 hok.2 ht
  case boxI r =>
    have hok := okOq_okOp hok (by simp)
    simp only [stepO] at hs
    split at hs
    case isFalse => simp at hs
    rename_i hd
    simp only [Option.some.injEq, Prod.mk.injEq] at hs
    obtain ⟨rfl, rfl⟩ := hs
    refine ⟨rfl, ?_⟩
    cases hop : o.op <;> simp only [hop, okOp, Bool.false_eq_true] at hok
    case alloc t =>
      cases r <;> simp only [Bool.false_eq_true] at hok
      rename_i z
      obtain ⟨v, hv, hr⟩ := alloc_run (w := w) hok
      exact snd_boxI h (t := t) ⟨v, okZ_rep hv _, by simp [execOp, hop, hr]⟩ hd.2
    case box t y =>
      have : okA y r = true := by cases r <;> exact hok
      exact snd_boxI h (t := t) ⟨a.eval y, okA_rep h.env this, by simp [execOp, hop, box_run]⟩ hd.2
  case build z ps =>
    have hok := okOq_okOp hok (by simp)
    simp only [stepO] at hs
    split at hs
    case h_2 => simp at hs
    rename_i cs hc
    simp only [Option.some.injEq, Prod.mk.injEq] at hs
    obtain ⟨rfl, rfl⟩ := hs
    refine ⟨rfl, ?_⟩
    cases hop : o.op
    case build t qs => rw [hop] at hok; exact snd_build h hop hok hc
    all_goals (rw [hop] at hok; simp [okOp] at hok)
  case bslI k n z ps =>
    have hok := okOq_okOp hok (by simp)
    simp only [stepO] at hs
    split at hs
    case h_2 => simp at hs
    rename_i es hc
    simp only [Option.some.injEq, Prod.mk.injEq] at hs
    obtain ⟨rfl, rfl⟩ := hs
    refine ⟨rfl, ?_⟩
    cases hop : o.op
    case buildSlice t m qs =>
      rw [hop] at hok
      have hnm : m = n := by simp only [okOp, Bool.and_eq_true, beq_iff_eq] at hok; exact hok.1.1.1.1.2
      subst hnm
      exact snd_bslI h hop hok hc
    all_goals (rw [hop] at hok; simp [okOp] at hok)
  case ld r k ag =>
    have hok := okOq_okOp hok (by simp)
    simp only [stepO] at hs
    obtain ⟨hs2, rfl⟩ := retS_some hs
    refine ⟨rfl, ?_⟩
    cases hop : o.op <;> simp only [hop, okOp, Bool.false_eq_true, Bool.and_eq_true] at hok
    exact snd_ld h hop hok.1.1 hok.1.2 hok.2 hs2
  case nck r =>
    have hok := okOq_okOp hok (by simp)
    cases hop : o.op <;> simp only [hop, okOp, Bool.false_eq_true] at hok
    simp only [stepO] at hs
    split at hs
    · rename_i q g j hr
      split at hs
      case isFalse => simp at hs
      rename_i hg
      simp only [Option.some.injEq, Prod.mk.injEq] at hs
      obtain ⟨rfl, rfl⟩ := hs
      exact ⟨rfl, snd_nck h hop hok hr (.inl ⟨_, _, _, rfl, hg.symm⟩)⟩
    · rename_i q g k i j hr
      split at hs
      case isFalse => simp at hs
      rename_i hg
      simp only [Option.some.injEq, Prod.mk.injEq] at hs
      obtain ⟨rfl, rfl⟩ := hs
      exact ⟨rfl, snd_nck h hop hok hr (.inr (.inl ⟨_, _, _, _, _, rfl, hg.symm⟩))⟩
    · rename_i z j hr
      simp only [Option.some.injEq, Prod.mk.injEq] at hs
      obtain ⟨rfl, rfl⟩ := hs
      exact ⟨rfl, snd_nck h hop hok hr (.inr (.inr ⟨_, _, rfl⟩))⟩
    · simp at hs
  case bin op r1 r2 =>
    have hok := okOq_okOp hok (by simp)
    simp only [stepO] at hs
    split at hs
    case h_2 => simp at hs
    rename_i u v hu hv
    split at hs
    case h_2 => simp at hs
    rename_i z hz
    simp only [Option.some.injEq, Prod.mk.injEq] at hs
    obtain ⟨rfl, rfl⟩ := hs
    refine ⟨rfl, ?_⟩
    cases hop : o.op
    case binOp op' t y1 y2 yt =>
      rw [hop] at hok
      have hok' : ((op' == op && okA y1 r1) && okA y2 r2) && scalT P t = true := by cases op' <;> simpa [okOp] using hok
      simp only [Bool.and_eq_true, beq_iff_eq] at hok'
      obtain ⟨⟨⟨rfl, h1⟩, h2⟩, h3⟩ := hok'
      exact snd_bin h hop h1 h2 (by simpa using h3) hu hv hz
    all_goals (rw [hop] at hok; simp [okOp] at hok)
  case eqs neg ks r1 r2 =>
    simp only [stepO] at hs
    split at hs
    case h_2 => simp at hs
    rename_i l m hl hm
    split at hs
    case h_2 => simp at hs
    rename_i b hb
    simp only [Option.some.injEq, Prod.mk.injEq] at hs
    obtain ⟨rfl, rfl⟩ := hs
    refine ⟨rfl, ?_⟩
    simp only [okOq] at hok
    split at hok
    case h_2 => simp at hok
    rename_i o' t y1 y2 yt hop
    simp only [Bool.and_eq_true, beq_iff_eq] at hok
    obtain ⟨⟨⟨rfl, h1⟩, h2⟩, h3⟩ := hok
    exact snd_eqs h hop h1 h2 h3 hl hm hb
  case eqn neg r =>
    simp only [okOq] at hok
    split at hok
    case h_2 => simp at hok
    rename_i o' t y1 yt hop
    simp only [Bool.and_eq_true, beq_iff_eq] at hok
    obtain ⟨⟨rfl, h1⟩, h3⟩ := hok
    split at h3
    case h_2 => simp at h3
    rename_i el hel
    exact snd_eqn h hop rfl h1 hel hs
  case mlk ks ag rm rk z ok =>
    simp only [okOq] at hok
    cases hop : o.op <;> simp only [hop, okMap, Bool.false_eq_true, Bool.and_eq_true, beq_iff_eq] at hok
    obtain ⟨⟨⟨⟨h1, h2⟩, h3⟩, h4⟩, rfl⟩ := hok
    exact snd_mlk h hop h1 h2 h3 h4 hs
  case mln rm =>
    simp only [okOq] at hok
    cases hop : o.op
    case call c => rw [hop] at hok; exact snd_mln h hop hok hs
    all_goals (rw [hop] at hok; simp [okMap] at hok)
  case eqb neg r1 r2 =>
    have hok := okOq_okOp hok (by simp)
    simp only [stepO] at hs
    split at hs
    case h_2 => simp at hs
    rename_i u v hu hv
    simp only [Option.some.injEq, Prod.mk.injEq] at hs
    obtain ⟨rfl, rfl⟩ := hs
    refine ⟨rfl, ?_⟩
    cases hop : o.op
    case binOp op' t y1 y2 yt =>
      rw [hop] at hok
      cases op' <;> cases neg <;> simp only [okOp, Bool.false_eq_true, Bool.and_eq_true] at hok
      · exact snd_eqb (neg := false) h (by simpa using hop) hok.1.1 hok.1.2 hok.2 hu hv
      · exact snd_eqb (neg := true) h (by simpa using hop) hok.1.1 hok.1.2 hok.2 hu hv
    all_goals (rw [hop] at hok; simp [okOp] at hok)
  case un op r =>
    have hok := okOq_okOp hok (by simp)
    simp only [stepO] at hs
    split at hs
    case h_2 => simp at hs
    rename_i u hu
    split at hs
    case h_2 => simp at hs
    rename_i z hz
    simp only [Option.some.injEq, Prod.mk.injEq] at hs
    obtain ⟨rfl, rfl⟩ := hs
    refine ⟨rfl, ?_⟩
    cases hop : o.op <;> simp only [hop, okOp, Bool.false_eq_true, Bool.and_eq_true, beq_iff_eq] at hok
    obtain ⟨rfl, h1⟩ := hok
    exact snd_un h hop h1 hu hz
  case cvs r =>
    have hok := okOq_okOp hok (by simp)
    simp only [stepO] at hs
    split at hs
    case h_2 => simp at hs
    rename_i b hb
    simp only [Option.some.injEq, Prod.mk.injEq] at hs
    obtain ⟨rfl, rfl⟩ := hs
    refine ⟨rfl, ?_⟩
    cases hop : o.op <;> simp only [hop, okOp, Bool.false_eq_true, Bool.and_eq_true] at hok
    obtain ⟨hd, h1⟩ := hok
    split at hd
    case h_2 => simp at hd
    rename_i hd1 hd2
    exact snd_cvs h hop hd1 hd2 h1 hb
  case conv k r =>
    have hok := okOq_okOp hok (by simp)
    simp only [stepO] at hs
    split at hs
    case h_2 => simp at hs
    rename_i k' n hb
    simp only [Option.some.injEq, Prod.mk.injEq] at hs
    obtain ⟨rfl, rfl⟩ := hs
    refine ⟨rfl, ?_⟩
    cases hop : o.op <;> simp only [hop, okOp, Bool.false_eq_true, Bool.and_eq_true] at hok
    obtain ⟨⟨hs1, hd⟩, h1⟩ := hok
    split at hd
    case h_2 => simp at hd
    rename_i k2 hd2
    simp only [beq_iff_eq] at hd
    subst hd
    exact snd_conv h hop (Option.isSome_iff_exists.1 hs1) hd2 h1 hb
  case fa r j =>
    have hok := okOq_okOp hok (by simp)
    cases hop : o.op <;> simp only [hop, okOp, Bool.false_eq_true, Bool.and_eq_true] at hok
    obtain ⟨hd, h1⟩ := hok
    split at hd
    case h_2 => simp at hd
    rename_i fs ht
    split at hd
    case h_2 => simp at hd
    rename_i f hf
    simp only [Bool.and_eq_true, beq_iff_eq] at hd
    obtain ⟨rfl, hd⟩ := hd
    split at hd
    case h_2 => simp at hd
    rename_i i hi
    have hd : i.size ≠ 0 := by simpa using hd
    simp only [stepO] at hs
    split at hs
    · rename_i q g l hr
      split at hs
      case isFalse => simp at hs
      rename_i hg
      simp only [Option.some.injEq, Prod.mk.injEq] at hs
      obtain ⟨rfl, rfl⟩ := hs
      exact ⟨rfl, snd_fa h hop ht hf hi hd h1 hr (.inl ⟨_, _, _, rfl, rfl, hg.symm⟩)⟩
    · rename_i q g k i' l hr
      split at hs
      case isFalse => simp at hs
      rename_i hg
      simp only [Option.some.injEq, Prod.mk.injEq] at hs
      obtain ⟨rfl, rfl⟩ := hs
      exact ⟨rfl, snd_fa h hop ht hf hi hd h1 hr (.inr (.inl ⟨_, _, _, _, _, rfl, rfl, hg.symm⟩))⟩
    · rename_i z l hr
      simp only [Option.some.injEq, Prod.mk.injEq] at hs
      obtain ⟨rfl, rfl⟩ := hs
      exact ⟨rfl, snd_fa h hop ht hf hi hd h1 hr (.inr (.inr ⟨_, _, rfl, rfl⟩))⟩
    · simp at hs
  case fld r j k ag =>
    have hok := okOq_okOp hok (by simp)
    simp only [stepO] at hs
    split at hs
    case h_2 => simp at hs
    rename_i cs hr
    obtain ⟨hs2, rfl⟩ := retS_some hs
    refine ⟨rfl, ?_⟩
    cases hop : o.op <;> simp only [hop, okOp, Bool.false_eq_true, Bool.and_eq_true] at hok
    obtain ⟨hd, h1⟩ := hok
    split at hd
    case h_2 => simp at hd
    rename_i fs ht
    split at hd
    case h_2 => simp at hd
    rename_i f hf
    simp only [Bool.and_eq_true, beq_iff_eq] at hd
    obtain ⟨⟨rfl, hd1⟩, hd2⟩ := hd
    exact snd_fld h hop ht hf hd1 hd2 h1 hr hs2
  case ixa r1 r2 k =>
    have hok := okOq_okOp hok (by simp)
    cases hop : o.op <;> simp only [hop, okOp, Bool.false_eq_true, Bool.and_eq_true] at hok
    obtain ⟨⟨hd, h1⟩, h2⟩ := hok
    split at hd
    case h_2 => simp at hd
    rename_i el ht
    simp only [stepO] at hs
    split at hs
    case h_2 => simp at hs
    rename_i n hn
    split at hs
    · rename_i f es hr
      split at hs
      case isFalse => simp at hs
      rename_i hc
      split at hs
      case h_2 => simp at hs
      rename_i y hy
      split at hs
      case isFalse => simp at hs
      rename_i hw
      simp only [Option.some.injEq, Prod.mk.injEq] at hs
      obtain ⟨rfl, rfl⟩ := hs
      exact ⟨rfl, snd_ixa h hop ht hd h1 h2 hr hn hc.1 hc.2 hy hw⟩
    · rename_i q g k' j m hr
      split at hs
      case isFalse => simp at hs
      rename_i hc
      obtain ⟨hc1, hc2, rfl, hg⟩ := hc
      simp only [Option.some.injEq, Prod.mk.injEq] at hs
      obtain ⟨rfl, rfl⟩ := hs
      exact ⟨rfl, snd_ixr h hop ht hd h1 h2 hr hn hc1 hc2 hg.symm⟩
    · simp at hs
  case ixp r1 r2 k n =>
    have hok := okOq_okOp hok (by simp)
    cases hop : o.op <;> simp only [hop, okOp, Bool.false_eq_true, Bool.and_eq_true] at hok
    obtain ⟨⟨hd, h1⟩, h2⟩ := hok
    split at hd
    case h_2 => simp at hd
    rename_i m el ht
    simp only [Bool.and_eq_true, beq_iff_eq] at hd
    obtain ⟨hd, rfl⟩ := hd
    simp only [stepO] at hs
    split at hs
    case h_2 => simp at hs
    rename_i i hi
    split at hs
    case isFalse => simp at hs
    rename_i hc
    split at hs
    · rename_i q g j hr
      split at hs
      case isFalse => simp at hs
      rename_i hg
      simp only [Option.some.injEq, Prod.mk.injEq] at hs
      obtain ⟨rfl, rfl⟩ := hs
      exact ⟨rfl, snd_ixp h hop ht hd h1 h2 hi hc.1 hc.2 hr (.inl ⟨_, _, _, rfl, rfl, hg.symm⟩)⟩
    · rename_i z j hr
      simp only [Option.some.injEq, Prod.mk.injEq] at hs
      obtain ⟨rfl, rfl⟩ := hs
      exact ⟨rfl, snd_ixp h hop ht hd h1 h2 hi hc.1 hc.2 hr (.inr ⟨_, _, rfl, rfl⟩)⟩
    · simp at hs
  case ixs r1 r2 =>
    have hok := okOq_okOp hok (by simp)
    cases hop : o.op <;> simp only [hop, okOp, Bool.false_eq_true, Bool.and_eq_true] at hok
    obtain ⟨⟨hd, h1⟩, h2⟩ := hok
    split at hd
    case h_2 => simp at hd
    rename_i ht
    simp only [stepO] at hs
    split at hs
    case h_2 => simp at hs
    rename_i b n hb hn
    split at hs
    case h_2 => simp at hs
    rename_i c hc
    simp only [Option.some.injEq, Prod.mk.injEq] at hs
    obtain ⟨rfl, rfl⟩ := hs
    exact ⟨rfl, snd_ixs h hop ht h1 h2 hb hn hc⟩
  case ixv r1 r2 k n ag =>
    have hok := okOq_okOp hok (by simp)
    cases hop : o.op <;> simp only [hop, okOp, Bool.false_eq_true, Bool.and_eq_true] at hok
    obtain ⟨⟨hd, h1⟩, h2⟩ := hok
    split at hd
    case h_2 => simp at hd
    rename_i m el ht
    simp only [Bool.and_eq_true, beq_iff_eq] at hd
    obtain ⟨⟨hd1, hd2⟩, rfl⟩ := hd
    simp only [stepO] at hs
    split at hs
    case h_2 => simp at hs
    rename_i cs i hr hi
    split at hs
    case isFalse => simp at hs
    rename_i hc
    obtain ⟨hs2, rfl⟩ := retS_some hs
    exact ⟨rfl, snd_ixv h hop ht hd1 hd2 h1 h2 hr hi hc.1 hc.2 hs2⟩
  case sls r lo hi =>
    have hok := okOq_okOp hok (by simp)
    simp only [stepO] at hs
    split at hs
    case h_2 => simp at hs
    rename_i b hb
    split at hs
    case h_2 => simp at hs
    rename_i m hm
    split at hs
    case h_2 => simp at hs
    rename_i l hl
    simp only [Option.some.injEq, Prod.mk.injEq] at hs
    obtain ⟨rfl, rfl⟩ := hs
    refine ⟨rfl, ?_⟩
    cases hop : o.op
    case slice t x lo' hi' mx =>
      rw [hop] at hok
      cases mx
      case some => simp [okOp] at hok
      simp only [okOp, Bool.and_eq_true] at hok
      obtain ⟨⟨⟨hd, h1⟩, h2⟩, h3⟩ := hok
      split at hd
      case h_2 => simp at hd
      rename_i ht
      exact snd_sls h hop ht h1 h2 h3 hb hm hl
    all_goals (rw [hop] at hok; simp [okOp] at hok)
  case sli k r lo hi =>
    have hok := okOq_okOp hok (by simp)
    cases hop : o.op
    case slice t x' lo' hi' mx =>
      rw [hop] at hok
      cases mx
      case some => simp [okOp] at hok
      simp only [okOp, Bool.and_eq_true] at hok
      obtain ⟨⟨⟨hd, h1⟩, h2⟩, h3⟩ := hok
      split at hd
      case h_2 => simp at hd
      rename_i el ht
      simp only [stepO] at hs
      split at hs
      · rename_i f es hr
        split at hs
        case isTrue => simp at hs
        rename_i hw
        split at hs
        case h_2 => simp at hs
        rename_i m hm
        split at hs
        case h_2 => simp at hs
        rename_i l hl
        simp only [Option.some.injEq, Prod.mk.injEq] at hs
        obtain ⟨rfl, rfl⟩ := hs
        refine ⟨rfl, snd_sli h hop ht hd h1 h2 h3 hr hm hl ?_⟩
        have hw : es.all (fun y => y.cells.length == k) = true := by simpa using hw
        intro y hy
        simpa using (List.all_eq_true.1 hw) y hy
      · rename_i q g k' j n hr
        split at hs
        case isTrue => simp at hs
        rename_i hc
        obtain ⟨hg, rfl⟩ : g = (s q).g ∧ k' = k := by simpa using hc
        split at hs
        case h_2 => simp at hs
        rename_i m hm
        split at hs
        case h_2 => simp at hs
        rename_i l hl
        simp only [Option.some.injEq, Prod.mk.injEq] at hs
        obtain ⟨rfl, rfl⟩ := hs
        exact ⟨rfl, snd_slr h hop ht hd h1 h2 h3 hr hg.symm hm hl⟩
      · rename_i hr
        split at hs
        case h_2 => simp at hs
        rename_i m hm
        split at hs
        case h_2 => simp at hs
        rename_i l hl
        simp only [Option.some.injEq, Prod.mk.injEq] at hs
        obtain ⟨rfl, rfl⟩ := hs
        refine ⟨rfl, ?_⟩
        have hr1 := okA_rep h.env h1
        rw [hr] at hr1
        generalize hv : a.eval x' = v at hr1
        cases hr1 with
        | nil =>
          have hm0 : m = 0 := by
            unfold bnd at hm
            split at hm
            · simpa using hm.symm
            · split at hm
              · split at hm
                · simp at hm; omega
                · simp at hm
              · simp at hm
          subst hm0
          have hl0 : l = 0 := by
            unfold bnd at hl
            split at hl
            · simpa using hl.symm
            · split at hl
              · split at hl
                · simp at hl; omega
                · simp at hl
              · simp at hl
          subst hl0
          obtain ⟨h4, _⟩ := bounds_run (P := P) (isS := true) h.env h2 h3 hm hl (Nat.le_refl _)
          refine outS_val h (v := .slice none 0 0) ?_ .nil
          simp only [execOp, hop, hv, Instr.sliceAt, Instr.slice, Sem.run_bind, run_underlying ht, Result.andThen_ok, Option.map_none, h4]
          simp [szB_run hd]
      · simp at hs
    all_goals (rw [hop] at hok; simp [okOp] at hok)
  case len r =>
    have hok := okOq_okOp hok (by simp)
    cases hop : o.op <;> simp only [hop, okOp, Bool.false_eq_true, Bool.and_eq_true] at hok
    rename_i c
    obtain ⟨⟨hc, hd⟩, h1⟩ := hok
    have hc : c.callee = .builtin .len := by
      revert hc
      cases c.callee <;> simp
      rename_i b
      cases b <;> simp
    split at hd
    case h_2 => simp at hd
    rename_i t ht
    split at hd
    case h_2 => simp at hd
    rename_i el hel
    simp only [stepO] at hs
    split at hs
    · rename_i f es hr
      simp only [Option.some.injEq, Prod.mk.injEq] at hs
      obtain ⟨rfl, rfl⟩ := hs
      exact ⟨rfl, snd_len h hop hc ht hel h1 hr (.inl ⟨_, _, rfl, rfl⟩)⟩
    · rename_i q g k i n hr
      split at hs
      case isFalse => simp at hs
      rename_i hg
      simp only [Option.some.injEq, Prod.mk.injEq] at hs
      obtain ⟨rfl, rfl⟩ := hs
      exact ⟨rfl, snd_len h hop hc ht hel h1 hr (.inr (.inl ⟨_, _, _, _, _, rfl, hg.symm, rfl⟩))⟩
    · rename_i hr
      simp only [Option.some.injEq, Prod.mk.injEq] at hs
      obtain ⟨rfl, rfl⟩ := hs
      exact ⟨rfl, snd_len h hop hc ht hel h1 hr (.inr (.inr ⟨rfl, rfl⟩))⟩
    · simp at hs
  case lens r =>
    have hok := okOq_okOp hok (by simp)
    cases hop : o.op <;> simp only [hop, okOp, Bool.false_eq_true, Bool.and_eq_true] at hok
    rename_i c
    obtain ⟨⟨hc, hd⟩, h1⟩ := hok
    have hc : c.callee = .builtin .len := by
      revert hc
      cases c.callee <;> simp
      rename_i b
      cases b <;> simp
    split at hd
    case h_2 => simp at hd
    rename_i t ht
    split at hd
    case h_2 => simp at hd
    rename_i hel
    simp only [stepO] at hs
    split at hs
    · rename_i b hr
      simp only [Option.some.injEq, Prod.mk.injEq] at hs
      obtain ⟨rfl, rfl⟩ := hs
      exact ⟨rfl, snd_lens h hop hc ht hel h1 hr⟩
    · simp at hs
  case mnmx mx r l =>
    have hok := okOq_okOp hok (by simp)
    cases hop : o.op <;> simp only [hop, okOp, Bool.false_eq_true, Bool.and_eq_true] at hok
    rename_i c
    obtain ⟨hc, h1⟩ := hok
    have hc : c.callee = .builtin (if mx then .max else .min) := by
      revert hc
      cases c.callee <;> cases mx <;> simp
      all_goals (rename_i b; cases b <;> simp)
    simp only [stepO] at hs
    split at hs
    case h_2 => simp at hs
    rename_i u hu
    split at hs
    case h_2 => simp at hs
    rename_i z hz
    simp only [Option.some.injEq, Prod.mk.injEq] at hs
    obtain ⟨rfl, rfl⟩ := hs
    exact ⟨rfl, snd_mnmx h hop hc h1 hu hz⟩
  case ext r i =>
    have hok := okOq_okOp hok (by simp)
    cases hop : o.op <;> simp only [hop, okOp, Bool.false_eq_true, Bool.and_eq_true, beq_iff_eq] at hok
    obtain ⟨h1, rfl⟩ := hok
    simp only [stepO] at hs
    split at hs
    case h_2 => simp at hs
    rename_i cs hr
    obtain ⟨hs2, rfl⟩ := retS_some hs
    exact ⟨rfl, snd_ext h hop h1 hr hs2⟩
  case mkf f l =>
    have hok := okOq_okOp hok (by simp)
    simp only [stepO] at hs
    split at hs
    case isFalse => simp at hs
    simp only [Option.some.injEq, Prod.mk.injEq] at hs
    obtain ⟨rfl, rfl⟩ := hs
    refine ⟨rfl, ?_⟩
    cases hop : o.op
    case makeFunc fn fst cap =>
      rw [hop] at hok
      cases fn <;> simp only [okOp, Bool.false_eq_true, Bool.and_eq_true, beq_iff_eq] at hok
      obtain ⟨⟨rfl, h1⟩, h2⟩ := hok
      exact snd_mkf h hop h1 h2
    all_goals (rw [hop] at hok; simp [okOp] at hok)
  all_goals (simp [stillI] at hst)

theorem step_sound (h : Inv w0 sh nt μ fr e s a w) {o : Oper} {io : IOp} (hok : okOq P o.op io = true) {x : X} {s' : Sto} (hs : stepO io e s = some (x, s')) : Out P w0 sh nt e a w o x s' := by
  cases hst : stillI io
  case true =>
    obtain ⟨rfl, h1⟩ := still_sound h hok hst hs
    exact h1.out
  cases io <;> simp only [stillI, reduceCtorEq] at hst
  case box n r =>
    have hok := okOq_okOp hok (by simp)
    simp only [stepO] at hs
    split at hs
    case isFalse => simp at hs
    rename_i hd
    simp only [Option.some.injEq, Prod.mk.injEq] at hs
    obtain ⟨rfl, rfl⟩ := hs
    cases hop : o.op <;> simp only [hop, okOp, Bool.false_eq_true] at hok
    case alloc t =>
      cases r <;> simp only [Bool.false_eq_true] at hok
      rename_i z
      obtain ⟨v, hv, hr⟩ := alloc_run (w := w) hok
      exact snd_box h (t := t) ⟨v, okZ_rep hv _, by simp [execOp, hop, hr]⟩ hd
    case box t y =>
      have : okA y r = true := by cases r <;> exact hok
      exact snd_box h (t := t) ⟨a.eval y, okA_rep h.env this, by simp [execOp, hop, box_run]⟩ hd
  case bsl q k n z ps =>
    have hok := okOq_okOp hok (by simp)
    simp only [stepO] at hs
    split at hs
    case h_2 => simp at hs
    rename_i es nm hc
    split at hs
    case isTrue => simp at hs
    rename_i hq
    simp only [Option.some.injEq, Prod.mk.injEq] at hs
    obtain ⟨rfl, rfl⟩ := hs
    cases hop : o.op
    case buildSlice t m qs =>
      rw [hop] at hok
      have hnm : m = n := by simp only [okOp, Bool.and_eq_true, beq_iff_eq] at hok; exact hok.1.1.1.1.2
      subst hnm
      exact snd_bsl h hop (by simpa [okOp] using hok) hc hq
    all_goals (rw [hop] at hok; simp [okOp] at hok)
  case st r1 r2 k =>
    have hok := okOq_okOp hok (by simp)
    simp only [stepO] at hs
    split at hs
    case h_2 => simp at hs
    rename_i s2 hst
    simp only [Option.some.injEq, Prod.mk.injEq] at hs
    obtain ⟨rfl, rfl⟩ := hs
    cases hop : o.op <;> simp only [hop, okOp, Bool.false_eq_true, Bool.and_eq_true] at hok
    exact snd_st h hop hok.1.1 hok.1.2 hok.2 hst
  case mks q k z r1 r2 lim =>
    have hok := okOq_okOp hok (by simp)
    simp only [stepO] at hs
    split at hs
    case h_2 => simp at hs
    rename_i l c hl hc
    split at hs
    case isFalse => simp at hs
    rename_i hcond
    simp only [Option.some.injEq, Prod.mk.injEq] at hs
    obtain ⟨rfl, rfl⟩ := hs
    cases hop : o.op
    case makeSlice t x1 x2 =>
      rw [hop] at hok
      exact snd_mks h hop hok hl hc hcond.1 hcond.2.1 hcond.2.2.1 hcond.2.2.2.2.1 hcond.2.2.2.2.2
    all_goals (rw [hop] at hok; simp [okOp] at hok)
  case app q k lim r1 r2 =>
    have hok := okOq_okOp hok (by simp)
    cases hop : o.op
    case call c =>
      rw [hop] at hok
      have hc : c.callee = .builtin .append := by
        have hh := hok
        simp only [okOp, Bool.and_eq_true] at hh
        have := hh.1.1
        revert this
        cases c.callee <;> simp
        rename_i b
        cases b <;> simp
      exact snd_app h hop hc hok hs
    all_goals (rw [hop] at hok; simp [okOp] at hok)
  case call => simp [stepO] at hs
  case callv => simp [stepO] at hs
  case calli => simp [stepO] at hs
  case mkm n ha =>
    simp only [okOq] at hok
    cases hop : o.op
    case makeMap t hi => rw [hop] at hok; exact snd_mkm h hop hok hs
    all_goals (rw [hop] at hok; simp [okMap] at hok)
  case men ks ag rm rk z =>
    simp only [okOq] at hok
    cases hop : o.op <;> simp only [hop, okMap, Bool.false_eq_true, Bool.and_eq_true] at hok
    exact snd_men h hop hok.1.1.1 hok.1.1.2 hok.1.2 hok.2 hs
  case mst rm rs rv =>
    simp only [okOq] at hok
    cases hop : o.op <;> simp only [hop, okMap, Bool.false_eq_true, Bool.and_eq_true] at hok
    exact snd_mst h hop hok.1.1 hok.1.2 hok.2 hs
  case mup ks ag rm rk rv =>
    simp only [okOq] at hok
    cases hop : o.op <;> simp only [hop, okMap, Bool.false_eq_true, Bool.and_eq_true] at hok
    exact snd_mup h hop hok.1.1.1 hok.1.1.2 hok.1.2 hok.2 hs
end
end Go.Proofs.YtoodknhlnifnlaaGreatDoor
