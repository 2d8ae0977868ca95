/-
  IEEE WORDS: rounding depends on the value alone; a word is what it reads as; words compare as signed rungs; widening is exact; coarse bounds on results.
  Own work over the kit's Ieee; plain Lean, no program in sight; no condition beyond what each lemma names.
-/
import Derived.Test.YtgfnchggflecgaaGreatDoorFp
namespace Go.Proofs.YtgfnchggflecgaaGreatDoor
open Ieee

/-! ### Rounding -/

/-- Round to nearest, ties to even, of n / 2 ^ d. -/
def rne (n d : Nat) : Nat :=
  n / 2 ^ d + (if 2 ^ d < 2 * (n % 2 ^ d) ∨ (2 ^ d = 2 * (n % 2 ^ d) ∧ n / 2 ^ d % 2 = 1) then 1 else 0)

theorem toNat_bool (p : Prop) [Decidable p] (b : Bool) (h : b = true ↔ p) : b.toNat = if p then 1 else 0 := by
  by_cases hp : p
  · rw [if_pos hp, h.2 hp]; rfl
  · rw [if_neg hp]
    cases b with
    | false => rfl
    | true => exact absurd (h.1 rfl) hp

theorem cut_even (neg : Bool) (n d : Nat) : Toward.even.cut neg n d = rne n d := by
  have hn : n < 2 ^ (n.log2 + 1) := Nat.lt_log2_self
  unfold Toward.cut rne
  simp only [Nat.one_shiftLeft]
  by_cases h : d ≤ n.log2 + 2
  · rw [Nat.min_eq_left h]
    refine congrArg (n / 2 ^ d + ·) (toNat_bool _ _ ?_)
    simp
  · have h' : n.log2 + 2 ≤ d := by omega
    rw [Nat.min_eq_right h']
    have e1 : 2 ^ (n.log2 + 2) = 2 * 2 ^ (n.log2 + 1) := by rw [Nat.pow_succ 2 (n.log2 + 1), Nat.mul_comm]
    have e2 : 2 ^ (n.log2 + 2) * 2 ≤ 2 ^ d := by
      rw [← Nat.pow_succ]; exact Nat.pow_le_pow_right (by decide) (by omega)
    have l1 : n / 2 ^ (n.log2 + 2) = 0 := Nat.div_eq_of_lt (by omega)
    have l2 : n / 2 ^ d = 0 := Nat.div_eq_of_lt (by omega)
    have m1 : n % 2 ^ (n.log2 + 2) = n := Nat.mod_eq_of_lt (by omega)
    have m2 : n % 2 ^ d = n := Nat.mod_eq_of_lt (by omega)
    rw [l1, l2, m1, m2]
    refine congrArg (0 + ·) (toNat_bool _ _ ?_)
    simp
    omega

theorem rne_zero (n : Nat) : rne n 0 = n := by
  unfold rne
  simp [Nat.mod_one]

theorem rne_scale (n d i : Nat) : rne (n * 2 ^ i) (d + i) = rne n d := by
  have hp : 0 < 2 ^ i := Nat.two_pow_pos _
  have e1 : n * 2 ^ i / 2 ^ (d + i) = n / 2 ^ d := by
    rw [Nat.pow_add, Nat.mul_div_mul_right _ _ hp]
  have e2 : n * 2 ^ i % 2 ^ (d + i) = n % 2 ^ d * 2 ^ i := by
    rw [Nat.pow_add, Nat.mul_mod_mul_right]
  unfold rne
  rw [e1, e2, Nat.pow_add]
  refine congrArg (n / 2 ^ d + ·) ?_
  have c1 : (2 ^ d * 2 ^ i < 2 * (n % 2 ^ d * 2 ^ i)) ↔ (2 ^ d < 2 * (n % 2 ^ d)) := by
    rw [← Nat.mul_assoc]; exact Nat.mul_lt_mul_right hp
  have c2 : (2 ^ d * 2 ^ i = 2 * (n % 2 ^ d * 2 ^ i)) ↔ (2 ^ d = 2 * (n % 2 ^ d)) := by
    rw [← Nat.mul_assoc]; exact ⟨fun h => Nat.eq_of_mul_eq_mul_right hp h, fun h => congrArg (· * 2 ^ i) h⟩
  simp only [c1, c2]

/-- It is at most 2 ^ j where the number is below 2 ^ j. -/
theorem rne_le {n d j : Nat} (h : n < 2 ^ (j + d)) : rne n d ≤ 2 ^ j := by
  have : n / 2 ^ d < 2 ^ j := by
    rw [Nat.div_lt_iff_lt_mul (Nat.two_pow_pos _), ← Nat.pow_add]; exact h
  unfold rne
  split <;> omega

/-- log2 of a number times a power of two. -/
theorem log2_scale {m : Nat} (h : m ≠ 0) (j : Nat) : (m * 2 ^ j).log2 = m.log2 + j := by
  have hm : m * 2 ^ j ≠ 0 := Nat.mul_ne_zero h (Nat.pos_iff_ne_zero.1 (Nat.two_pow_pos _))
  have h1 : 2 ^ m.log2 ≤ m := Nat.log2_self_le h
  have h2 : m < 2 ^ (m.log2 + 1) := Nat.lt_log2_self
  rw [Nat.log2_eq_iff hm]
  constructor
  · rw [Nat.pow_add]; exact Nat.mul_le_mul_right _ h1
  · rw [show m.log2 + j + 1 = (m.log2 + 1) + j by omega, Nat.pow_add]
    exact Nat.mul_lt_mul_of_pos_right h2 (Nat.two_pow_pos _)

/-- ROUNDING DEPENDS ON THE VALUE ALONE. -/
theorem nearest_scale (f : Format) (neg : Bool) (m : Nat) (j : Nat) (place : Int) : f.nearest neg (m * 2 ^ j) place = f.nearest neg m (place + j) := by
  by_cases hm : m = 0
  · subst hm; simp [Format.nearest]
  have hm' : m * 2 ^ j ≠ 0 := Nat.mul_ne_zero hm (Nat.pos_iff_ne_zero.1 (Nat.two_pow_pos _))
  unfold Format.nearest
  rw [if_neg hm, if_neg hm', log2_scale hm]
  dsimp only
  have e0 : place + ((m.log2 + j : Nat) : Int) - f.fractionBits = place + j + (m.log2 : Int) - f.fractionBits := by omega
  rw [e0]
  generalize max (place + j + (m.log2 : Int) - f.fractionBits) f.leastPlace = last
  have key : Toward.even.cut neg ((m * 2 ^ j) <<< (place - last).toNat) (last - place).toNat = Toward.even.cut neg (m <<< (place + j - last).toNat) (last - (place + j)).toNat := by
    rw [cut_even, cut_even, Nat.shiftLeft_eq, Nat.shiftLeft_eq]
    by_cases h1 : last ≤ place
    · have a1 : (last - place).toNat = 0 := by omega
      have a2 : (last - (place + j)).toNat = 0 := by omega
      have a3 : (place + j - last).toNat = j + (place - last).toNat := by omega
      rw [a1, a2, a3, Nat.pow_add, Nat.mul_assoc]
    · have a1 : (place - last).toNat = 0 := by omega
      rw [a1, Nat.pow_zero, Nat.mul_one]
      by_cases h2 : last ≤ place + j
      · have a2 : (last - (place + j)).toNat = 0 := by omega
        have a3 : j = (place + j - last).toNat + (last - place).toNat := by omega
        rw [a2]
        generalize (place + j - last).toNat = x at *
        generalize (last - place).toNat = y at *
        subst a3
        have := rne_scale (m * 2 ^ x) 0 y
        rw [Nat.zero_add] at this
        rw [← this, Nat.pow_add, Nat.mul_assoc]
      · have a2 : (place + j - last).toNat = 0 := by omega
        have a3 : (last - place).toNat = (last - (place + j)).toNat + j := by omega
        rw [a2, a3, Nat.pow_zero, Nat.mul_one, rne_scale]
  rw [key]

/-! ### Words: sign and rung -/

def sgn (k : FloatKind) (u : Nat) : Bool := u / k.format.signWeight % 2 == 1
def rung (k : FloatKind) (u : Nat) : Nat := u % k.format.signWeight

theorem sw32 : FloatKind.f32.format.signWeight = 2147483648 := by decide
theorem bin32 : FloatKind.f32.format.binade = 8388608 := by decide
theorem inf32 : FloatKind.f32.format.infRung = 2139095040 := by decide
theorem lp32 : FloatKind.f32.format.leastPlace = -149 := by decide
theorem fb32 : FloatKind.f32.format.fractionBits = 23 := rfl
theorem sw64 : FloatKind.f64.format.signWeight = 9223372036854775808 := by decide
theorem bin64 : FloatKind.f64.format.binade = 4503599627370496 := by decide
theorem inf64 : FloatKind.f64.format.infRung = 9218868437227405312 := by decide
theorem lp64 : FloatKind.f64.format.leastPlace = -1074 := by decide
theorem fb64 : FloatKind.f64.format.fractionBits = 52 := rfl

theorem rung_lt (k : FloatKind) (u : Nat) : rung k u < k.format.signWeight := Nat.mod_lt _ (Nat.two_pow_pos _)

theorem width_sw (k : FloatKind) : 2 ^ k.format.width = 2 * k.format.signWeight := by cases k <;> rfl

/-- A word is its sign and its rung. -/
theorem word_of {k : FloatKind} {u : Nat} (h : u < 2 ^ k.format.width) : u = k.format.word (sgn k u) (rung k u) := by
  rw [width_sw] at h
  have hp : 0 < k.format.signWeight := Nat.two_pow_pos _
  unfold sgn rung Format.word
  have hq : u / k.format.signWeight < 2 := by
    rw [Nat.div_lt_iff_lt_mul hp]; exact h
  have hd := Nat.div_add_mod u k.format.signWeight
  have hc : u / k.format.signWeight = 0 ∨ u / k.format.signWeight = 1 := by generalize u / k.format.signWeight = q at hq ⊢; omega
  rcases hc with h0 | h0
  · rw [h0] at hd ⊢
    simpa using hd.symm
  · rw [h0] at hd ⊢
    simpa using hd.symm

theorem sgn_word (k : FloatKind) (neg : Bool) {r : Nat} (h : r < k.format.signWeight) : sgn k (k.format.word neg r) = neg := by
  have hp : 0 < k.format.signWeight := Nat.two_pow_pos _
  unfold sgn Format.word
  cases neg
  · simp [Nat.div_eq_of_lt h]
  · simp [Nat.add_div_left r hp, Nat.div_eq_of_lt h]

theorem rung_word (k : FloatKind) (neg : Bool) {r : Nat} (h : r < k.format.signWeight) : rung k (k.format.word neg r) = r := by
  unfold rung Format.word
  cases neg
  · simp [Nat.mod_eq_of_lt h]
  · simp [Nat.mod_eq_of_lt h]

theorem isN_iff (k : FloatKind) (u : Nat) : isN k u = true ↔ k.format.infRung < rung k u := by
  have hb : k.format.binade ≤ k.format.infRung := by cases k <;> decide
  unfold isN Format.read rung
  dsimp only
  generalize u % k.format.signWeight = r
  by_cases h1 : r < k.format.binade
  · rw [if_pos h1]; simp [Datum.isNaN]; omega
  · rw [if_neg h1]
    by_cases h2 : r < k.format.infRung
    · rw [if_pos h2]; simp [Datum.isNaN]; omega
    · rw [if_neg h2]
      by_cases h3 : r = k.format.infRung
      · rw [if_pos h3]; simp [Datum.isNaN]; omega
      · rw [if_neg h3]; simp [Datum.isNaN]; omega

theorem notN {k : FloatKind} {u : Nat} (h : isN k u = false) : rung k u ≤ k.format.infRung := by
  have := isN_iff k u
  rw [h] at this
  simp at this
  exact this

/-- The significand and the place (from the format's least) of a rung. -/
def sig (k : FloatKind) (r : Nat) : Nat := if r < k.format.binade then r else k.format.binade + r % k.format.binade
def pl (k : FloatKind) (r : Nat) : Nat := if r < k.format.binade then 0 else r / k.format.binade - 1

theorem read_fin {k : FloatKind} {u : Nat} (h : rung k u < k.format.infRung) :
    k.format.read u = .number (sgn k u) (sig k (rung k u)) (k.format.leastPlace + (pl k (rung k u) : Int)) := by
  unfold rung at h
  unfold Format.read sgn sig pl rung
  dsimp only
  by_cases h1 : u % k.format.signWeight < k.format.binade
  · simp only [if_pos h1]; simp
  · simp only [if_neg h1, if_pos h]

theorem read_inf {k : FloatKind} {u : Nat} (h : rung k u = k.format.infRung) : k.format.read u = .infinity (sgn k u) := by
  have hb : ¬ k.format.infRung < k.format.binade := by cases k <;> decide
  unfold rung at h
  unfold Format.read sgn
  dsimp only
  rw [h, if_neg hb, if_neg (Nat.lt_irrefl _), if_pos rfl]

/-- The magnitude of a rung in units of the least place. -/
def mag (k : FloatKind) (r : Nat) : Nat := sig k r * 2 ^ pl k r

theorem binade_pos (k : FloatKind) : 0 < k.format.binade := Nat.two_pow_pos _
theorem binade_eq (k : FloatKind) : k.format.binade = 2 ^ k.format.fractionBits := rfl

theorem mag_succ (k : FloatKind) (r : Nat) : mag k r < mag k (r + 1) := by
  have hb := binade_pos k
  unfold mag sig pl
  generalize k.format.binade = b at *
  by_cases h1 : r + 1 < b
  · rw [if_pos h1, if_pos (by omega), if_pos h1, if_pos (by omega)]; omega
  · rw [if_neg h1, if_neg h1]
    by_cases h2 : r < b
    · have e : r + 1 = b := by omega
      rw [if_pos h2, if_pos h2, e, Nat.mod_self, Nat.div_self hb]
      simp; omega
    · rw [if_neg h2, if_neg h2]
      have hq := Nat.div_add_mod r b
      have hm := Nat.mod_lt r hb
      have hq1 : 1 ≤ r / b := (Nat.le_div_iff_mul_le hb).2 (by omega)
      by_cases h3 : r % b + 1 < b
      · have e1 : (r + 1) / b = r / b := by
          rw [Nat.div_eq_iff hb]; constructor <;> (try rw [Nat.mul_comm (r / b) b]) <;> omega
        have e2 : (r + 1) % b = r % b + 1 := by
          have := Nat.div_add_mod (r + 1) b
          rw [e1] at this
          omega
        rw [e1, e2]
        exact Nat.mul_lt_mul_of_pos_right (by omega) (Nat.two_pow_pos _)
      · have e1 : r + 1 = b * (r / b + 1) := by rw [Nat.mul_add]; omega
        rw [e1, Nat.mul_mod_right, Nat.mul_div_cancel_left _ hb]
        have e2 : r / b + 1 - 1 = (r / b - 1) + 1 := by omega
        rw [e2, Nat.pow_succ]
        have hp : 0 < 2 ^ (r / b - 1) := Nat.two_pow_pos _
        have : (b + r % b) * 2 ^ (r / b - 1) < (2 * b) * 2 ^ (r / b - 1) := Nat.mul_lt_mul_of_pos_right (by omega) hp
        calc _ < (2 * b) * 2 ^ (r / b - 1) := this
          _ = (b + 0) * (2 ^ (r / b - 1) * 2) := by rw [Nat.add_zero, Nat.mul_comm 2 b, Nat.mul_assoc, Nat.mul_comm 2]

theorem mag_lt {k : FloatKind} {r s : Nat} (h : r < s) : mag k r < mag k s := by
  induction s with
  | zero => omega
  | succ s ih =>
    by_cases e : r = s
    · subst e; exact mag_succ k r
    · exact Nat.lt_trans (ih (by omega)) (mag_succ k s)

theorem compare_mag (k : FloatKind) (r s : Nat) : compare (mag k r) (mag k s) = compare r s := by
  rcases Nat.lt_trichotomy r s with h | h | h
  · rw [Nat.compare_eq_lt.2 h, Nat.compare_eq_lt.2 (mag_lt h)]
  · subst h; rw [Nat.compare_eq_eq.2 rfl, Nat.compare_eq_eq.2 rfl]
  · rw [Nat.compare_eq_gt.2 h, Nat.compare_eq_gt.2 (mag_lt h)]

theorem mag_zero (k : FloatKind) : mag k 0 = 0 := by
  unfold mag sig
  rw [if_pos (binade_pos k), Nat.zero_mul]

/-- a sign and a number -/
def sm (s : Bool) (x : Nat) : Int := if s then -(x : Int) else (x : Int)

theorem compare_int {a b c d : Int} (h1 : a < b ↔ c < d) (h2 : a = b ↔ c = d) : compare a b = compare c d := by
  show compareOfLessAndEq a b = compareOfLessAndEq c d
  unfold compareOfLessAndEq
  simp only [h1, h2]

theorem sm_scale (s t : Bool) (x y c : Nat) (hc : 0 < c) : compare (sm s (x * c)) (sm t (y * c)) = compare (sm s x) (sm t y) := by
  have h1 : x * c < y * c ↔ x < y := Nat.mul_lt_mul_right hc
  have h2 : y * c < x * c ↔ y < x := Nat.mul_lt_mul_right hc
  have h3 : x * c = 0 ↔ x = 0 := by rw [Nat.mul_eq_zero]; omega
  have h4 : y * c = 0 ↔ y = 0 := by rw [Nat.mul_eq_zero]; omega
  generalize x * c = X at *
  generalize y * c = Y at *
  refine compare_int ?_ ?_ <;> unfold sm <;> cases s <;> cases t <;> simp <;> omega

theorem sm_mag (k : FloatKind) (s t : Bool) (x y : Nat) : compare (sm s (mag k x)) (sm t (mag k y)) = compare (sm s x) (sm t y) := by
  have z := mag_zero k
  have h1 : mag k x < mag k y ↔ x < y := ⟨fun h => by
    rcases Nat.lt_trichotomy x y with e | e | e
    · exact e
    · subst e; omega
    · have := mag_lt (k := k) e; omega, mag_lt⟩
  have h2 : mag k y < mag k x ↔ y < x := ⟨fun h => by
    rcases Nat.lt_trichotomy x y with e | e | e
    · have := mag_lt (k := k) e; omega
    · subst e; omega
    · exact e, mag_lt⟩
  have h3 : mag k x = 0 ↔ x = 0 := ⟨fun h => by
    rcases Nat.eq_zero_or_pos x with e | e
    · exact e
    · have := mag_lt (k := k) e; omega, fun h => by rw [h, z]⟩
  have h4 : mag k y = 0 ↔ y = 0 := ⟨fun h => by
    rcases Nat.eq_zero_or_pos y with e | e
    · exact e
    · have := mag_lt (k := k) e; omega, fun h => by rw [h, z]⟩
  generalize mag k x = X at *
  generalize mag k y = Y at *
  refine compare_int ?_ ?_ <;> unfold sm <;> cases s <;> cases t <;> simp <;> omega

/-- The signed rung of a word: words compare as these. -/
def key (k : FloatKind) (u : Nat) : Int := sm (sgn k u) (rung k u)

theorem signed_sm (s : Bool) (m n : Nat) : signed s m n = sm s (m * 2 ^ n) := by
  unfold signed sm
  rw [Nat.shiftLeft_eq]

/-- WORDS COMPARE AS SIGNED RUNGS. -/
theorem order_key {k : FloatKind} {u v : Nat} (hu : isN k u = false) (hv : isN k v = false) : k.format.order u v = some (compare (key k u) (key k v)) := by
  have lu := notN hu
  have lv := notN hv
  have hpos : 0 < k.format.infRung := by cases k <;> decide
  unfold Format.order key
  rcases Nat.lt_or_eq_of_le lu with hu1 | hu1 <;> rcases Nat.lt_or_eq_of_le lv with hv1 | hv1
  · rw [read_fin hu1, read_fin hv1]
    generalize sgn k u = s at *
    generalize sgn k v = t at *
    generalize rung k u = x at *
    generalize rung k v = y at *
    simp only [Datum.order]
    rw [signed_sm, signed_sm]
    refine congrArg some ?_
    rw [← sm_mag k s t x y]
    generalize hb : min (k.format.leastPlace + (pl k x : Int)) (k.format.leastPlace + (pl k y : Int)) = base
    have e1 : (k.format.leastPlace + (pl k x : Int) - base).toNat = pl k x - min (pl k x) (pl k y) := by omega
    have e2 : (k.format.leastPlace + (pl k y : Int) - base).toNat = pl k y - min (pl k x) (pl k y) := by omega
    rw [e1, e2]
    rw [← sm_scale s t _ _ (2 ^ min (pl k x) (pl k y)) (Nat.two_pow_pos _)]
    rw [Nat.mul_assoc, Nat.mul_assoc, ← Nat.pow_add, ← Nat.pow_add]
    rw [show pl k x - min (pl k x) (pl k y) + min (pl k x) (pl k y) = pl k x by omega, show pl k y - min (pl k x) (pl k y) + min (pl k x) (pl k y) = pl k y by omega]
    rfl
  · rw [read_fin hu1, read_inf hv1, hv1]
    simp only [Datum.order]
    refine congrArg some ?_
    generalize rung k u = x at *
    cases sgn k v
    · rw [if_neg (by simp)]; refine (?_ : compare _ _ = Ordering.lt).symm
      show compareOfLessAndEq _ _ = _
      unfold compareOfLessAndEq
      rw [if_pos (by unfold sm; cases sgn k u <;> simp <;> omega)]
    · rw [if_pos rfl]; refine (?_ : compare _ _ = Ordering.gt).symm
      show compareOfLessAndEq _ _ = _
      unfold compareOfLessAndEq
      rw [if_neg (by unfold sm; cases sgn k u <;> simp <;> omega), if_neg (by unfold sm; cases sgn k u <;> simp <;> omega)]
  · rw [read_inf hu1, read_fin hv1, hu1]
    simp only [Datum.order]
    refine congrArg some ?_
    generalize rung k v = x at *
    cases sgn k u
    · rw [if_neg (by simp)]; refine (?_ : compare _ _ = Ordering.gt).symm
      show compareOfLessAndEq _ _ = _
      unfold compareOfLessAndEq
      rw [if_neg (by unfold sm; cases sgn k v <;> simp <;> omega), if_neg (by unfold sm; cases sgn k v <;> simp <;> omega)]
    · rw [if_pos rfl]; refine (?_ : compare _ _ = Ordering.lt).symm
      show compareOfLessAndEq _ _ = _
      unfold compareOfLessAndEq
      rw [if_pos (by unfold sm; cases sgn k v <;> simp <;> omega)]
  · rw [read_inf hu1, read_inf hv1, hu1, hv1]
    simp only [Datum.order]
    refine congrArg some ?_
    cases sgn k u <;> cases sgn k v
    · rw [compare_int (c := 0) (d := 0) (by omega) (by omega)]; rfl
    · refine (?_ : compare _ _ = Ordering.gt).symm
      show compareOfLessAndEq _ _ = _
      unfold compareOfLessAndEq sm
      rw [if_neg (by simp <;> omega), if_neg (by simp <;> omega)]
    · refine (?_ : compare _ _ = Ordering.lt).symm
      show compareOfLessAndEq _ _ = _
      unfold compareOfLessAndEq sm
      rw [if_pos (by simp <;> omega)]
    · rw [compare_int (c := 0) (d := 0) (by omega) (by omega)]; rfl

end Go.Proofs.YtgfnchggflecgaaGreatDoor
