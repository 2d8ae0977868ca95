/-
  FLOATS, PLAIN: cutting to whole numbers. Own work.
-/
import Derived.Test.YtgfnchggflecgaaGreatDoorFg
namespace Go.Proofs.YtgfnchggflecgaaGreatDoor
open Ieee
set_option exponentiation.threshold 2000

theorem cut_low (n d : Nat) : n / (1 <<< min d (n.log2 + 2)) = n / 2 ^ d ∧ (n % (1 <<< min d (n.log2 + 2)) = 0 ↔ n % 2 ^ d = 0) := by
  rw [Nat.shiftLeft_eq, Nat.one_mul]
  by_cases h : d ≤ n.log2 + 2
  · rw [Nat.min_eq_left h]; exact ⟨rfl, Iff.rfl⟩
  · rw [Nat.min_eq_right (by omega)]
    have h1 : n < 2 ^ (n.log2 + 2) := Nat.lt_trans Nat.lt_log2_self (Nat.pow_lt_pow_right (by decide) (by omega))
    have h2 : n < 2 ^ d := Nat.lt_of_lt_of_le h1 (Nat.pow_le_pow_right (by decide) (by omega))
    rw [Nat.div_eq_of_lt h1, Nat.div_eq_of_lt h2, Nat.mod_eq_of_lt h1, Nat.mod_eq_of_lt h2]; exact ⟨rfl, Iff.rfl⟩

theorem cut_zero (s : Bool) (n d : Nat) : Toward.zero.cut s n d = n / 2 ^ d := by
  have h := cut_low n d
  unfold Toward.cut
  dsimp only
  rw [h.1]; rfl
theorem cut_down_le (s : Bool) (n d : Nat) : Toward.down.cut s n d ≤ n / 2 ^ d + 1 := by
  have h := cut_low n d
  unfold Toward.cut
  dsimp only
  rw [h.1]
  exact Nat.add_le_add_left (Bool.toNat_le _) _

theorem whole_part {m p : Nat} : (m <<< (-1074 + (p : Int)).toNat) / 2 ^ (-(-1074 + (p : Int))).toNat = m * 2 ^ p / 2 ^ 1074 := by
  rw [Nat.shiftLeft_eq]
  generalize he : (-1074 + (p : Int)).toNat = e
  generalize hd : (-(-1074 + (p : Int))).toNat = d
  have h1 : e + 1074 = p + d := by omega
  have h2 : m * 2 ^ e * 2 ^ 1074 = m * 2 ^ p * 2 ^ d := by
    rw [Nat.mul_assoc, ← Nat.pow_add, h1, Nat.pow_add, Nat.mul_assoc]
  have h0 : 0 < 2 ^ 1074 := Nat.two_pow_pos 1074
  have hD : 0 < 2 ^ d := Nat.two_pow_pos d
  generalize (2 : Nat) ^ 1074 = D at *
  generalize m * 2 ^ e = x at *
  generalize m * 2 ^ p = y at *
  generalize 2 ^ d = z at *
  rw [← Nat.mul_div_mul_right x z h0, h2, Nat.mul_comm z D, Nat.mul_div_mul_right y D hD]

/-- The whole number towards zero. -/
def trI (u : Nat) : Int := sm (sgn .f64 u) (mag .f64 (rung .f64 u) / 2 ^ 1074)
theorem toInt_zero {u : Nat} (h : Fin .f64 u) : (FloatKind.f64.decode u).toInt .zero = some (trI u) := by
  unfold FloatKind.decode
  rw [h.read]
  unfold Datum.toInt Datum.integral
  dsimp only
  rw [signed_sm, Nat.pow_zero, Nat.mul_one, cut_zero, lp64, whole_part]
  rfl
theorem one_mag : mag .f64 4607182418800017408 = 2 ^ 1074 := by decide +kernel
theorem tr_bound {u c : Nat} (h : Up .f64 c u) {B : Nat} (hB : mag .f64 c / 2 ^ 1074 ≤ B) : (trI u).natAbs ≤ B := by
  unfold trI
  have h1 := mag_le (k := .f64) h.2
  have h2 := Nat.div_le_div_right (c := 2 ^ 1074) h1
  generalize mag .f64 (rung .f64 u) / 2 ^ 1074 = a at *
  unfold sm
  split <;> omega
theorem toIntVal {u c : Nat} (h : Up .f64 c u) (hc : c < 9218868437227405312) (hB : mag .f64 c / 2 ^ 1074 ≤ 9007199254740991) : floatToIntVal .f64 u .i64 = some (trI u) := by
  have hb := tr_bound h hB
  unfold floatToIntVal
  rw [toInt_zero (h.fin (by rw [inf64]; exact hc))]
  dsimp only
  rw [if_pos]
  have e1 : IntKind.i64.min = -9223372036854775808 := by decide
  have e2 : IntKind.i64.max = 9223372036854775807 := by decide
  rw [e1, e2]
  omega

theorem mag_whole {m : Nat} (h : m < 9007199254740992) : ∃ r, r < 9218868437227405312 ∧ mag .f64 r = m * 2 ^ 1074 := by
  by_cases h0 : m = 0
  · subst h0; exact ⟨0, by decide, by rw [mag_zero, Nat.zero_mul]⟩
  have hL : m.log2 < 53 := (Nat.log2_lt h0).2 (by omega)
  have h1 : 2 ^ m.log2 ≤ m := Nat.log2_self_le h0
  have h2 : m < 2 ^ (m.log2 + 1) := Nat.lt_log2_self
  generalize m.log2 = L at *
  obtain ⟨j, hj⟩ : ∃ j, L + j = 52 := ⟨52 - L, by omega⟩
  have a1 : 4503599627370496 ≤ m * 2 ^ j := by
    have := Nat.mul_le_mul_right (2 ^ j) h1
    rwa [← Nat.pow_add, hj] at this
  have a2 : m * 2 ^ j < 9007199254740992 := by
    have := Nat.mul_lt_mul_of_pos_right h2 (Nat.two_pow_pos j)
    rwa [← Nat.pow_add, show L + 1 + j = 53 by omega] at this
  generalize hs : m * 2 ^ j = s at *
  refine ⟨(1074 - j + 1) * 4503599627370496 + (s - 4503599627370496), by omega, ?_⟩
  have hb : FloatKind.f64.format.binade ≤ (1074 - j + 1) * 4503599627370496 + (s - 4503599627370496) := by rw [bin64]; omega
  unfold mag
  rw [sig_big hb, pl_big hb, bin64]
  have e1 : 4503599627370496 + ((1074 - j + 1) * 4503599627370496 + (s - 4503599627370496)) % 4503599627370496 = s := by omega
  have e2 : ((1074 - j + 1) * 4503599627370496 + (s - 4503599627370496)) / 4503599627370496 - 1 = 1074 - j := by omega
  rw [e1, e2, ← hs, Nat.mul_assoc, ← Nat.pow_add, show j + (1074 - j) = 1074 by omega]

/-- A whole number is its own value. -/
theorem vi_ofInt {n : Int} (h : n.natAbs < 9007199254740992) : Fin .f64 (ef n) ∧ vi .f64 (ef n) = n * ((2 ^ 1074 : Nat) : Int) := by
  obtain ⟨r, hr, hm⟩ := mag_whole h
  have e : ef n = FloatKind.f64.format.word (decide (n < 0)) r := by
    unfold ef floatOfInt FloatKind.nearest FloatKind.encode
    show FloatKind.f64.format.nearest (decide (n < 0)) n.natAbs 0 = _
    rw [nearest_rg, show (0 : Int) = FloatKind.f64.format.leastPlace + ((1074 : Nat) : Int) by rw [lp64]; decide, ← rg_scale, ← hm, rg_mag .f64 (by rw [inf64]; exact hr)]
  have hs : r < FloatKind.f64.format.signWeight := by rw [sw64]; omega
  rw [e]
  refine ⟨⟨FloatKind.f64.format.word_lt _ hs, by rw [rung_word .f64 _ hs, inf64]; exact hr⟩, ?_⟩
  unfold vi
  rw [sgn_word .f64 _ hs, rung_word .f64 _ hs, hm]
  generalize (2 : Nat) ^ 1074 = D
  unfold sm
  by_cases hn : n < 0
  · rw [if_pos (decide_eq_true hn), show n = -(n.natAbs : Int) by omega, Int.natAbs_neg, Int.natAbs_natCast, Int.neg_mul]; simp
  · rw [if_neg (by simp; omega), show n = (n.natAbs : Int) by omega, Int.natAbs_natCast]; simp

/-- What is left of a number without its whole part is at most one. -/
theorem frac_up {u c : Nat} (h : Up .f64 c u) (hc : c < 9218868437227405312) (hB : mag .f64 c / 2 ^ 1074 ≤ 9007199254740991) : Up .f64 4607182418800017408 (fbin .sub .f64 u (ef (trI u))) := by
  have hf := h.fin (by rw [inf64]; exact hc)
  obtain ⟨h1, h2⟩ := vi_ofInt (n := trI u) (Nat.lt_of_le_of_lt (tr_bound h hB) (by omega))
  rw [fsub_fin hf h1]
  refine up_word _ ?_
  have hle : (vi .f64 u - vi .f64 (ef (trI u))).natAbs ≤ mag .f64 4607182418800017408 := by
    rw [h2, one_mag]
    unfold vi trI
    have hp : 0 < 2 ^ 1074 := Nat.two_pow_pos 1074
    generalize mag .f64 (rung .f64 u) = M
    generalize (2 : Nat) ^ 1074 = D at *
    have e := Nat.div_add_mod M D
    have hl := Nat.mod_lt M hp
    have e3 : sm (sgn .f64 u) (M / D) * (D : Int) = sm (sgn .f64 u) (D * (M / D)) := by
      unfold sm; split
      · rw [Int.neg_mul, Nat.mul_comm]; simp
      · rw [Nat.mul_comm]; simp
    rw [e3]
    generalize D * (M / D) = a at *
    unfold sm; split <;> omega
  have h3 := rg_mono .f64 hle FloatKind.f64.format.leastPlace
  rwa [rg_mag .f64 (by rw [inf64]; decide)] at h3

/-! ### The floor -/
/-- What math.Floor gives of a finite number. -/
def floorV (u : Nat) : Nat := FloatKind.f64.encode ((FloatKind.f64.decode u).integral .down)
theorem floor_up {u c d : Nat} (h : Up .f64 c u) (hc : c < 9218868437227405312) (hd : rg .f64 (mag .f64 c / 2 ^ 1074 + 1) 0 ≤ d) : Up .f64 d (floorV u) := by
  have hf := h.fin (by rw [inf64]; exact hc)
  unfold floorV FloatKind.decode FloatKind.encode
  rw [hf.read]
  unfold Datum.integral
  dsimp only
  show Up .f64 d (FloatKind.f64.format.nearest _ _ _)
  rw [nearest_rg]
  refine up_word _ (Nat.le_trans (rg_mono .f64 ?_ _) hd)
  refine Nat.le_trans (cut_down_le _ _ _) ?_
  rw [lp64, whole_part]
  have h1 := mag_le (k := .f64) h.2
  exact Nat.add_le_add_right (Nat.div_le_div_right (c := 2 ^ 1074) h1) 1
end Go.Proofs.YtgfnchggflecgaaGreatDoor
