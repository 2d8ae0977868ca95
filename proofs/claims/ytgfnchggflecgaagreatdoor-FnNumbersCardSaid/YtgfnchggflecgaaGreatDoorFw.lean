/-
  IEEE WORDS: a word rounds to itself; widening and narrowing; coarse bounds on the results of '+', '-', '*', '/', roots and conversions.
  Own work; plain Lean, no program in sight; no condition beyond what each lemma names.
-/
import Derived.Test.YtgfnchggflecgaaGreatDoorFv
namespace Go.Proofs.YtgfnchggflecgaaGreatDoor
open Ieee

def bias : FloatKind → Nat
  | .f32 => 127
  | .f64 => 1023

theorem lp_bias (k : FloatKind) : k.format.leastPlace = 1 - (bias k : Int) - (k.format.fractionBits : Int) := by cases k <;> decide
theorem inf_bias (k : FloatKind) : k.format.infRung = (2 * bias k + 1) * k.format.binade := by cases k <;> decide

theorem sig_pos {k : FloatKind} {r : Nat} (h : r ≠ 0) : sig k r ≠ 0 := by
  have := binade_pos k
  unfold sig; split <;> omega

theorem log2_sig_big {k : FloatKind} {r : Nat} (h : ¬ r < k.format.binade) : (sig k r).log2 = k.format.fractionBits := by
  have hb := binade_pos k
  have hm := Nat.mod_lt r hb
  unfold sig
  rw [if_neg h, Nat.log2_eq_iff (by omega), ← binade_eq, Nat.pow_succ, ← binade_eq]
  omega

theorem log2_sig_small {k : FloatKind} {r : Nat} (h0 : r ≠ 0) (h : r < k.format.binade) : (sig k r).log2 < k.format.fractionBits := by
  unfold sig
  rw [if_pos h, Nat.log2_lt h0, ← binade_eq]
  exact h

/-- A WORD ROUNDS TO ITSELF. -/
theorem nearest_rung {k : FloatKind} (s : Bool) {r : Nat} (h : r < k.format.infRung) : k.format.nearest s (sig k r) (k.format.leastPlace + (pl k r : Int)) = k.format.word s r := by
  have hb := binade_pos k
  by_cases h0 : r = 0
  · subst h0
    have : sig k 0 = 0 := by unfold sig; rw [if_pos hb]
    rw [this]; simp [Format.nearest]
  unfold Format.nearest
  rw [if_neg (sig_pos h0)]
  dsimp only
  by_cases h1 : r < k.format.binade
  · have hl := log2_sig_small h0 h1
    have e0 : pl k r = 0 := by unfold pl; rw [if_pos h1]
    have e1 : sig k r = r := by unfold sig; rw [if_pos h1]
    rw [e0]
    have e2 : max (k.format.leastPlace + ((0 : Nat) : Int) + ((sig k r).log2 : Int) - (k.format.fractionBits : Int)) k.format.leastPlace = k.format.leastPlace := by omega
    rw [e2]
    have e3 : (k.format.leastPlace + ((0 : Nat) : Int) - k.format.leastPlace).toNat = 0 := by omega
    have e4 : (k.format.leastPlace - (k.format.leastPlace + ((0 : Nat) : Int))).toNat = 0 := by omega
    have e5 : (k.format.leastPlace - k.format.leastPlace).toNat = 0 := by omega
    rw [e3, e4, e5, cut_even, rne_zero, Nat.shiftLeft_zero, Nat.zero_mul, Nat.zero_add, e1, Nat.min_eq_left (Nat.le_of_lt h)]
  · have hl := log2_sig_big h1
    have hq : 1 ≤ r / k.format.binade := (Nat.le_div_iff_mul_le hb).2 (by omega)
    have e0 : pl k r = r / k.format.binade - 1 := by unfold pl; rw [if_neg h1]
    have e1 : sig k r = k.format.binade + r % k.format.binade := by unfold sig; rw [if_neg h1]
    have hd := Nat.div_add_mod r k.format.binade
    rw [hl]
    have e2 : max (k.format.leastPlace + (pl k r : Int) + (k.format.fractionBits : Int) - (k.format.fractionBits : Int)) k.format.leastPlace = k.format.leastPlace + (pl k r : Int) := by omega
    rw [e2]
    have e3 : (k.format.leastPlace + (pl k r : Int) - (k.format.leastPlace + (pl k r : Int))).toNat = 0 := by omega
    have e5 : (k.format.leastPlace + (pl k r : Int) - k.format.leastPlace).toNat = pl k r := by omega
    rw [e3, e5, cut_even, rne_zero, Nat.shiftLeft_zero]
    have e6 : pl k r * k.format.binade + sig k r = r := by
      rw [e0, e1]
      generalize r / k.format.binade = q at *
      obtain ⟨p, rfl⟩ : ∃ p, q = p + 1 := ⟨q - 1, by omega⟩
      rw [Nat.mul_add, Nat.mul_comm] at hd
      rw [Nat.add_sub_cancel]
      omega
    rw [e6, Nat.min_eq_left (Nat.le_of_lt h)]

theorem write_read {k : FloatKind} {u : Nat} (hu : u < 2 ^ k.format.width) (hn : isN k u = false) : k.format.write (k.format.read u) = u := by
  have hw := word_of hu
  rcases Nat.lt_or_eq_of_le (notN hn) with h | h
  · rw [read_fin h]
    show k.format.nearest _ _ _ = u
    rw [nearest_rung _ h]
    exact hw.symm
  · rw [read_inf h]
    show k.format.word _ _ = u
    rw [← h]
    exact hw.symm

/-- What has a word's value rounds to that word. -/
theorem nearest_val {k : FloatKind} (s : Bool) {r : Nat} (h : r < k.format.infRung) {m a b : Nat} {place : Int} (hm : m * 2 ^ a = sig k r * 2 ^ b) (hp : place - a + b = k.format.leastPlace + (pl k r : Int)) :
    k.format.nearest s m place = k.format.word s r := by
  have h1 := nearest_scale k.format s m a (place - a)
  rw [show place - (a : Int) + a = place by omega] at h1
  rw [← h1, hm, nearest_scale, hp, nearest_rung s h]

/-! ### Widening -/

/-- The 64-bit rung of a finite 32-bit rung. -/
def wr (r : Nat) : Nat :=
  if r = 0 then 0
  else if r < 8388608 then (874 + r.log2) * 4503599627370496 + (r * 2 ^ (52 - r.log2) - 4503599627370496)
  else r * 536870912 + 4035225266123964416

theorem wr_sig {r : Nat} (h : r < 2139095040) (h0 : r ≠ 0) : ∃ a b : Nat, sig .f32 r * 2 ^ a = sig .f64 (wr r) * 2 ^ b ∧ (-149 + (pl .f32 r : Int)) - a + b = -1074 + (pl .f64 (wr r) : Int) ∧ wr r < 9218868437227405312 ∧ 0 < wr r ∧ (r < 8388608 → wr r < 4039728865751334912) := by
  unfold sig pl
  rw [bin32, bin64]
  by_cases h1 : r < 8388608
  · have hl : r.log2 < 23 := (Nat.log2_lt h0).2 h1
    have a1 : 2 ^ r.log2 ≤ r := Nat.log2_self_le h0
    have a2 : r < 2 ^ (r.log2 + 1) := Nat.lt_log2_self
    have hw : wr r = (874 + r.log2) * 4503599627370496 + (r * 2 ^ (52 - r.log2) - 4503599627370496) := by
      unfold wr; rw [if_neg h0, if_pos h1]
    have b1 : 4503599627370496 ≤ r * 2 ^ (52 - r.log2) := by
      have : 2 ^ r.log2 * 2 ^ (52 - r.log2) = 4503599627370496 := by rw [← Nat.pow_add, show r.log2 + (52 - r.log2) = 52 by omega]
      rw [← this]; exact Nat.mul_le_mul_right _ a1
    have b2 : r * 2 ^ (52 - r.log2) < 9007199254740992 := by
      have : 2 ^ (r.log2 + 1) * 2 ^ (52 - r.log2) = 9007199254740992 := by rw [← Nat.pow_add, show r.log2 + 1 + (52 - r.log2) = 53 by omega]
      rw [← this]; exact Nat.mul_lt_mul_of_pos_right a2 (Nat.two_pow_pos _)
    refine ⟨52 - r.log2, 0, ?_⟩
    rw [hw]
    generalize hz : r * 2 ^ (52 - r.log2) = z at *
    generalize hL : r.log2 = L at *
    rw [if_pos h1, if_pos h1, if_neg (by omega), if_neg (by omega)]
    refine ⟨?_, ?_, ?_, ?_, ?_⟩
    · rw [Nat.pow_zero, Nat.mul_one]
      omega
    · omega
    · omega
    · omega
    · intro _; omega
  · have hw : wr r = r * 536870912 + 4035225266123964416 := by
      unfold wr; rw [if_neg h0, if_neg h1]
    refine ⟨29, 0, ?_⟩
    rw [hw]
    rw [if_neg h1, if_neg h1, if_neg (by omega), if_neg (by omega)]
    refine ⟨?_, ?_, ?_, ?_, ?_⟩ <;> omega

theorem wr_zero : wr 0 = 0 := by unfold wr; rw [if_pos rfl]

theorem wr_lt {r : Nat} (h : r < 2139095040) : wr r < 9218868437227405312 := by
  by_cases h0 : r = 0
  · subst h0; rw [wr_zero]; decide
  · obtain ⟨_, _, _, _, h1, _⟩ := wr_sig h h0
    exact h1

theorem wr_pos {r : Nat} (h : r < 2139095040) : wr r = 0 ↔ r = 0 := by
  constructor
  · intro h1
    by_cases h0 : r = 0
    · exact h0
    · obtain ⟨_, _, _, _, _, h2, _⟩ := wr_sig h h0
      omega
  · intro h0; subst h0; exact wr_zero

/-- FINITE: widened. -/
theorem fwide_fin {u : Nat} (h : rung .f32 u < 2139095040) : fwide u = FloatKind.f64.format.word (sgn .f32 u) (wr (rung .f32 u)) := by
  have hn : isN .f32 u = false := by
    cases hc : isN .f32 u with
    | false => rfl
    | true => have := (isN_iff .f32 u).1 hc; rw [inf32] at this; omega
  unfold fwide
  rw [if_neg (by simp [hn]), read_fin (by rw [inf32]; exact h)]
  show FloatKind.f64.format.nearest _ _ _ = _
  by_cases h0 : rung .f32 u = 0
  · rw [h0, wr_zero]
    have : sig .f32 0 = 0 := by unfold sig; rw [if_pos (binade_pos _)]
    rw [this]; simp [Format.nearest]
  · obtain ⟨a, b, e1, e2, e3, _⟩ := wr_sig h h0
    exact nearest_val (k := .f64) _ (by rw [inf64]; exact e3) e1 (by rw [lp32, lp64]; omega)

theorem fwide_inf {u : Nat} (h : rung .f32 u = 2139095040) : fwide u = FloatKind.f64.format.word (sgn .f32 u) 9218868437227405312 := by
  have hn : isN .f32 u = false := by
    cases hc : isN .f32 u with
    | false => rfl
    | true => have := (isN_iff .f32 u).1 hc; rw [inf32] at this; omega
  unfold fwide
  rw [if_neg (by simp [hn]), read_inf (by rw [inf32]; exact h)]
  show FloatKind.f64.format.word _ _ = _
  rw [inf64]

theorem fwide_nan {u : Nat} (h : isN .f32 u = true) : fwide u = 9221120237041090560 := by
  unfold fwide; rw [if_pos h]; rfl

theorem fwide_parts {u : Nat} (h : isN .f32 u = false) : sgn .f64 (fwide u) = sgn .f32 u ∧ isN .f64 (fwide u) = false ∧
    rung .f64 (fwide u) = (if rung .f32 u = 2139095040 then 9218868437227405312 else wr (rung .f32 u)) ∧ fwide u < 2 ^ 64 := by
  have hr := notN h
  rw [inf32] at hr
  by_cases h1 : rung .f32 u = 2139095040
  · rw [fwide_inf h1, if_pos h1]
    refine ⟨sgn_word .f64 _ (by decide), isN_word .f64 _ (by decide), rung_word .f64 _ (by decide), ?_⟩
    exact FloatKind.f64.format.word_lt _ (by decide)
  · have h2 : rung .f32 u < 2139095040 := by omega
    have h3 := wr_lt h2
    have h4 : wr (rung .f32 u) < FloatKind.f64.format.signWeight := by rw [sw64]; omega
    rw [fwide_fin h2, if_neg h1]
    refine ⟨sgn_word .f64 _ h4, isN_word .f64 _ (by rw [inf64]; omega), rung_word .f64 _ h4, ?_⟩
    exact FloatKind.f64.format.word_lt _ h4

theorem fwide_lt (u : Nat) : fwide u < 2 ^ FloatKind.f64.format.width := by
  cases h : isN .f32 u
  · exact (fwide_parts h).2.2.2
  · rw [fwide_nan h]; decide

/-- NARROWED AGAIN: the word itself. -/
theorem fnarrow_fwide {u : Nat} (hu : u < 2 ^ FloatKind.f32.format.width) : fnarrow (fwide u) = nf .f32 u := by
  cases h : isN .f32 u
  · have hp := fwide_parts h
    unfold fnarrow
    rw [if_neg (by simp [hp.2.1]), nf_not h]
    have hr := notN h
    rw [inf32] at hr
    by_cases h1 : rung .f32 u = 2139095040
    · rw [if_pos h1] at hp
      rw [read_inf (by rw [hp.2.2.1, inf64]), hp.1]
      show FloatKind.f32.format.word _ _ = _
      rw [inf32, ← h1]
      exact (word_of hu).symm
    · rw [if_neg h1] at hp
      have h2 : rung .f32 u < 2139095040 := by omega
      rw [read_fin (by rw [hp.2.2.1, inf64]; exact wr_lt h2), hp.1, hp.2.2.1]
      show FloatKind.f32.format.nearest _ _ _ = _
      by_cases h0 : rung .f32 u = 0
      · rw [h0, wr_zero]
        have : sig .f64 0 = 0 := by unfold sig; rw [if_pos (binade_pos _)]
        rw [this]
        have e := word_of hu
        rw [h0] at e
        rw [e]
        simp [Format.nearest, ← e]
      · obtain ⟨a, b, e1, e2, _⟩ := wr_sig h2 h0
        rw [nearest_val (k := .f32) (r := rung .f32 u) _ (by rw [inf32]; exact h2) e1.symm (by rw [lp32, lp64]; omega)]
        exact (word_of hu).symm
  · rw [fwide_nan h, nf_nan h]; decide

theorem narrowOk_fwide {u : Nat} (hu : u < 2 ^ FloatKind.f32.format.width) : NarrowOk (fwide u) := by
  intro s m e hr
  cases h : isN .f32 u
  · have h1 := fnarrow_fwide hu
    have hp := fwide_parts h
    rw [nf_not h] at h1
    unfold fnarrow at h1
    rw [if_neg (by simp [hp.2.1]), hr] at h1
    rw [h1]
    have hr' := notN h
    rw [inf32] at hr'
    by_cases h2 : rung .f32 u = 2139095040
    · rw [if_pos h2] at hp
      rw [read_inf (by rw [hp.2.2.1, inf64])] at hr
      cases hr
    · rw [read_fin (by rw [inf32]; omega)]; rfl
  · rw [fwide_nan h] at hr
    have : FloatKind.f64.format.read 9221120237041090560 = .nan false 2251799813685248 := by decide
    rw [this] at hr; cases hr
end Go.Proofs.YtgfnchggflecgaaGreatDoor
