/-
  FLOATS, PLAIN: rounding does not turn the order round; sums, products, quotients of finite numbers as exact values, rounded. Own work.
-/
import Derived.Test.YtgfnchggflecgaaGreatDoorFe
namespace Go.Proofs.YtgfnchggflecgaaGreatDoor
open Ieee

/-- The rung of the nearest number. -/
def rg (k : FloatKind) (m : Nat) (place : Int) : Nat := rung k (k.format.nearest false m place)

theorem nearest_lt_inf (k : FloatKind) (s : Bool) (m : Nat) (place : Int) : ∃ r, k.format.nearest s m place = k.format.word s r ∧ r ≤ k.format.infRung ∧ k.format.nearest false m place = k.format.word false r := by
  unfold Format.nearest
  by_cases hm : m = 0
  · rw [if_pos hm, if_pos hm]; exact ⟨0, rfl, Nat.zero_le _, rfl⟩
  · rw [if_neg hm, if_neg hm]
    dsimp only
    refine ⟨_, rfl, Nat.min_le_right .., ?_⟩
    rw [cut_even, cut_even]

theorem nearest_rg (k : FloatKind) (s : Bool) (m : Nat) (place : Int) : k.format.nearest s m place = k.format.word s (rg k m place) := by
  obtain ⟨r, h1, h2, h3⟩ := nearest_lt_inf k s m place
  unfold rg
  rw [h3, rung_word k false (Nat.lt_of_le_of_lt h2 k.format.infRung_lt), h1]

theorem rg_le_inf (k : FloatKind) (m : Nat) (place : Int) : rg k m place ≤ k.format.infRung := by
  obtain ⟨r, h1, h2, h3⟩ := nearest_lt_inf k false m place
  unfold rg
  rw [h3, rung_word k false (Nat.lt_of_le_of_lt h2 k.format.infRung_lt)]; exact h2

theorem rg_scale (k : FloatKind) (m j : Nat) (place : Int) : rg k (m * 2 ^ j) place = rg k m (place + j) := by
  unfold rg; rw [nearest_scale]

theorem rg_zero (k : FloatKind) (place : Int) : rg k 0 place = 0 := by
  unfold rg
  have : k.format.nearest false 0 place = k.format.word false 0 := by simp [Format.nearest]
  rw [this, rung_word k false (Nat.two_pow_pos _)]

theorem rne_mono {m n d : Nat} (h : m ≤ n) : rne m d ≤ rne n d := by
  have hp : 0 < 2 ^ d := Nat.two_pow_pos d
  unfold rne
  have e1 := Nat.div_add_mod m (2 ^ d)
  have e2 := Nat.div_add_mod n (2 ^ d)
  have h1 := Nat.mod_lt m hp
  have h2 := Nat.mod_lt n hp
  have h3 : m / 2 ^ d ≤ n / 2 ^ d := Nat.div_le_div_right h
  generalize m / 2 ^ d = a at *
  generalize n / 2 ^ d = b at *
  generalize m % 2 ^ d = x at *
  generalize n % 2 ^ d = y at *
  generalize 2 ^ d = D at *
  rcases Nat.lt_or_eq_of_le h3 with h4 | h4
  · split <;> split <;> omega
  · subst h4
    have : x ≤ y := by omega
    split <;> split <;> omega

/-- ROUNDING DOES NOT TURN THE ORDER ROUND. -/
theorem rg_mono (k : FloatKind) {m n : Nat} (h : m ≤ n) (place : Int) : rg k m place ≤ rg k n place := by
  by_cases hm : m = 0
  · subst hm; rw [rg_zero]; exact Nat.zero_le _
  have hn : n ≠ 0 := by omega
  have hlog : m.log2 ≤ n.log2 := by
    rw [Nat.le_log2 hn]; exact Nat.le_trans (Nat.log2_self_le hm) h
  have hi := k.format.infRung_lt
  unfold rg Format.nearest
  rw [if_neg hm, if_neg hn]
  dsimp only
  rw [rung_word k false (Nat.lt_of_le_of_lt (Nat.min_le_right ..) hi), rung_word k false (Nat.lt_of_le_of_lt (Nat.min_le_right ..) hi)]
  have hlp := lp_bias k
  have hfb := fb_pos k
  generalize h1 : max (place + (m.log2 : Int) - (k.format.fractionBits : Int)) k.format.leastPlace = l1
  generalize h2 : max (place + (n.log2 : Int) - (k.format.fractionBits : Int)) k.format.leastPlace = l2
  have hl : l1 ≤ l2 := by omega
  rw [cut_even, cut_even, Nat.shiftLeft_eq, Nat.shiftLeft_eq]
  refine Nat.le_min.2 ⟨Nat.le_trans (Nat.min_le_left ..) ?_, Nat.min_le_right ..⟩
  rcases Int.lt_or_eq_of_le hl with hlt | rfl
  · have a1 : rne (m * 2 ^ (place - l1).toNat) (l1 - place).toNat ≤ 2 * k.format.binade := by
      have : 2 * k.format.binade = 2 ^ (k.format.fractionBits + 1) := by rw [Nat.pow_succ, ← binade_eq, Nat.mul_comm]
      rw [this]
      refine rne_le ?_
      have hm2 : m < 2 ^ (m.log2 + 1) := Nat.lt_log2_self
      have : m * 2 ^ (place - l1).toNat < 2 ^ (m.log2 + 1) * 2 ^ (place - l1).toNat := Nat.mul_lt_mul_of_pos_right hm2 (Nat.two_pow_pos _)
      refine Nat.lt_of_lt_of_le this ?_
      rw [← Nat.pow_add]
      exact Nat.pow_le_pow_right (by decide) (by omega)
    have a2 : k.format.binade ≤ rne (n * 2 ^ (place - l2).toNat) (l2 - place).toNat := by
      rw [binade_eq]
      refine rne_ge ?_
      have hm2 : 2 ^ n.log2 ≤ n := Nat.log2_self_le hn
      refine Nat.le_trans ?_ (Nat.mul_le_mul_right _ hm2)
      rw [← Nat.pow_add]
      exact Nat.pow_le_pow_right (by decide) (by omega)
    have a3 : ((l1 - k.format.leastPlace).toNat + 1) * k.format.binade ≤ (l2 - k.format.leastPlace).toNat * k.format.binade := Nat.mul_le_mul_right _ (by omega)
    rw [Nat.succ_mul] at a3
    omega
  · exact Nat.add_le_add_left (rne_mono (Nat.mul_le_mul_right _ h)) _

/-- A number that is there is its own nearest one. -/
theorem rg_mag (k : FloatKind) {r : Nat} (h : r < k.format.infRung) : rg k (mag k r) k.format.leastPlace = r := by
  unfold mag
  rw [rg_scale]
  unfold rg
  rw [nearest_rung false h, rung_word k false (Nat.lt_trans h k.format.infRung_lt)]

/-- finite -/
def Fin (k : FloatKind) (u : Nat) : Prop := u < 2 ^ k.format.width ∧ rung k u < k.format.infRung
theorem Fin.notN {k : FloatKind} {u : Nat} (h : Fin k u) : isN k u = false := notN_of_fin h.2
theorem Fin.read {k : FloatKind} {u : Nat} (h : Fin k u) : k.format.read u = .number (sgn k u) (sig k (rung k u)) (k.format.leastPlace + (pl k (rung k u) : Int)) := read_fin h.2

/-- The exact value of a finite number, counted in the least step. -/
def vi (k : FloatKind) (u : Nat) : Int := sm (sgn k u) (mag k (rung k u))
theorem vi_abs (k : FloatKind) (u : Nat) : (vi k u).natAbs = mag k (rung k u) := by
  unfold vi sm; split <;> simp

/-- A sum of numbers, from exact values. -/
theorem sum_parts (k : FloatKind) (s t : Bool) (m n a b : Nat) :
    ((Datum.sum (.number s m (k.format.leastPlace + (a : Int))) (.number t n (k.format.leastPlace + (b : Int)))).map k.format.write).getD (nanW k) =
      k.format.word (if sm s (m * 2 ^ a) + sm t (n * 2 ^ b) = 0 then s && t else decide (sm s (m * 2 ^ a) + sm t (n * 2 ^ b) < 0)) (rg k (sm s (m * 2 ^ a) + sm t (n * 2 ^ b)).natAbs k.format.leastPlace) := by
  simp only [Datum.sum, Option.map_some, Option.getD_some]
  show k.format.nearest _ _ _ = _
  rw [nearest_rg]
  obtain ⟨c, hc⟩ : ∃ c : Nat, min (k.format.leastPlace + (a : Int)) (k.format.leastPlace + (b : Int)) = k.format.leastPlace + (c : Int) ∧ c ≤ a ∧ c ≤ b := ⟨min a b, by omega, Nat.min_le_left .., Nat.min_le_right ..⟩
  obtain ⟨hc, ha, hb⟩ := hc
  rw [hc, show (k.format.leastPlace + (a : Int) - (k.format.leastPlace + (c : Int))).toNat = a - c by omega, show (k.format.leastPlace + (b : Int) - (k.format.leastPlace + (c : Int))).toNat = b - c by omega, signed_sm, signed_sm]
  have hp : 0 < 2 ^ c := Nat.two_pow_pos c
  have e1 : m * 2 ^ a = m * 2 ^ (a - c) * 2 ^ c := by rw [Nat.mul_assoc, ← Nat.pow_add, show a - c + c = a by omega]
  have e2 : n * 2 ^ b = n * 2 ^ (b - c) * 2 ^ c := by rw [Nat.mul_assoc, ← Nat.pow_add, show b - c + c = b by omega]
  have e3 : ∀ (s : Bool) (x : Nat), sm s (x * 2 ^ c) = sm s x * (2 ^ c : Nat) := by
    intro s x; unfold sm; cases s <;> simp [Int.neg_mul]
  rw [e1, e2, e3, e3, ← Int.add_mul]
  generalize sm s (m * 2 ^ (a - c)) + sm t (n * 2 ^ (b - c)) = T
  have hp' : (0 : Int) < ((2 ^ c : Nat) : Int) := by omega
  have z1 : (T * ((2 ^ c : Nat) : Int) = 0) = (T = 0) := by
    apply propext; constructor
    · intro h; rcases Int.mul_eq_zero.1 h with h | h
      · exact h
      · omega
    · rintro rfl; simp
  have z2 : (T * ((2 ^ c : Nat) : Int) < 0) = (T < 0) := by
    apply propext; constructor
    · intro h
      by_cases h' : T < 0
      · exact h'
      · have := Int.mul_nonneg (show 0 ≤ T by omega) (Int.le_of_lt hp'); omega
    · intro h; exact Int.mul_neg_of_neg_of_pos h hp'
  simp only [z1, z2]
  rw [Int.natAbs_mul, Int.natAbs_natCast, rg_scale]

theorem fadd_fin {k : FloatKind} {u v : Nat} (hu : Fin k u) (hv : Fin k v) : fbin .add k u v =
    k.format.word (if vi k u + vi k v = 0 then sgn k u && sgn k v else decide (vi k u + vi k v < 0)) (rg k (vi k u + vi k v).natAbs k.format.leastPlace) := by
  unfold fbin floatBits Format.add
  simp only [hu.read, hv.read]
  exact sum_parts k _ _ _ _ _ _
theorem sm_not (s : Bool) (x : Nat) : sm (!s) x = -sm s x := by unfold sm; cases s <;> simp
theorem fsub_fin {k : FloatKind} {u v : Nat} (hu : Fin k u) (hv : Fin k v) : fbin .sub k u v =
    k.format.word (if vi k u - vi k v = 0 then sgn k u && !sgn k v else decide (vi k u - vi k v < 0)) (rg k (vi k u - vi k v).natAbs k.format.leastPlace) := by
  unfold fbin floatBits Format.sub
  simp only [hu.read, hv.read, Datum.opposite]
  have h := sum_parts k (sgn k u) (!sgn k v) (sig k (rung k u)) (sig k (rung k v)) (pl k (rung k u)) (pl k (rung k v))
  rw [sm_not] at h
  exact h
theorem fmul_fin {k : FloatKind} {u v : Nat} (hu : Fin k u) (hv : Fin k v) : fbin .mul k u v =
    k.format.word (sgn k u ^^ sgn k v) (rg k (mag k (rung k u) * mag k (rung k v)) (k.format.leastPlace + k.format.leastPlace)) := by
  unfold fbin floatBits Format.mul
  simp only [hu.read, hv.read, Datum.product, Option.map_some, Option.getD_some]
  show k.format.nearest _ _ _ = _
  rw [nearest_rg]
  unfold mag
  rw [show sig k (rung k u) * 2 ^ pl k (rung k u) * (sig k (rung k v) * 2 ^ pl k (rung k v)) = sig k (rung k u) * sig k (rung k v) * 2 ^ (pl k (rung k u) + pl k (rung k v)) by rw [Nat.pow_add]; ac_rfl, rg_scale]
  congr 2
  omega

/-! ### Bounds by words -/

/-- |u| is at most the number of rung c. -/
def Up (k : FloatKind) (c u : Nat) : Prop := u < 2 ^ k.format.width ∧ rung k u ≤ c
theorem Up.fin {k : FloatKind} {c u : Nat} (h : Up k c u) (hc : c < k.format.infRung) : Fin k u := ⟨h.1, Nat.lt_of_le_of_lt h.2 hc⟩
theorem Up.mono {k : FloatKind} {c d u : Nat} (h : Up k c u) (hc : c ≤ d) : Up k d u := ⟨h.1, Nat.le_trans h.2 hc⟩
theorem rg_sw (k : FloatKind) (m : Nat) (p : Int) : rg k m p < k.format.signWeight := Nat.lt_of_le_of_lt (rg_le_inf k m p) k.format.infRung_lt
theorem mag_le {k : FloatKind} {r s : Nat} (h : r ≤ s) : mag k r ≤ mag k s := by
  rcases Nat.lt_or_eq_of_le h with h | h
  · exact Nat.le_of_lt (mag_lt h)
  · subst h; exact Nat.le_refl _
theorem up_word {k : FloatKind} (s : Bool) {m c : Nat} {p : Int} (h : rg k m p ≤ c) : Up k c (k.format.word s (rg k m p)) :=
  ⟨k.format.word_lt _ (rg_sw k m p), by rw [rung_word k _ (rg_sw k m p)]; exact h⟩

theorem Up.add {k : FloatKind} {cu cv u v : Nat} (hu : Up k cu u) (hv : Up k cv v) (h1 : cu < k.format.infRung) (h2 : cv < k.format.infRung) {c : Nat} (hc : rg k (mag k cu + mag k cv) k.format.leastPlace ≤ c) : Up k c (fbin .add k u v) := by
  rw [fadd_fin (hu.fin h1) (hv.fin h2)]
  refine up_word _ (Nat.le_trans (rg_mono k ?_ _) hc)
  have e1 := vi_abs k u
  have e2 := vi_abs k v
  have e3 := mag_le (k := k) hu.2
  have e4 := mag_le (k := k) hv.2
  omega
theorem Up.sub {k : FloatKind} {cu cv u v : Nat} (hu : Up k cu u) (hv : Up k cv v) (h1 : cu < k.format.infRung) (h2 : cv < k.format.infRung) {c : Nat} (hc : rg k (mag k cu + mag k cv) k.format.leastPlace ≤ c) : Up k c (fbin .sub k u v) := by
  rw [fsub_fin (hu.fin h1) (hv.fin h2)]
  refine up_word _ (Nat.le_trans (rg_mono k ?_ _) hc)
  have e1 := vi_abs k u
  have e2 := vi_abs k v
  have e3 := mag_le (k := k) hu.2
  have e4 := mag_le (k := k) hv.2
  omega
theorem Up.mul {k : FloatKind} {cu cv u v : Nat} (hu : Up k cu u) (hv : Up k cv v) (h1 : cu < k.format.infRung) (h2 : cv < k.format.infRung) {c : Nat} (hc : rg k (mag k cu * mag k cv) (k.format.leastPlace + k.format.leastPlace) ≤ c) : Up k c (fbin .mul k u v) := by
  rw [fmul_fin (hu.fin h1) (hv.fin h2)]
  exact up_word _ (Nat.le_trans (rg_mono k (Nat.mul_le_mul (mag_le hu.2) (mag_le hv.2)) _) hc)

theorem vi_pos {k : FloatKind} {u : Nat} (h : sgn k u = false) : vi k u = (mag k (rung k u) : Nat) := by unfold vi sm; rw [h]; rfl

/-- The difference of two numbers that are not negative. -/
theorem Up.sub_pos {k : FloatKind} {c u v : Nat} (hu : Up k c u) (hv : Up k c v) (h1 : c < k.format.infRung) (su : sgn k u = false) (sv : sgn k v = false) : Up k c (fbin .sub k u v) := by
  rw [fsub_fin (hu.fin h1) (hv.fin h1)]
  refine up_word _ ?_
  have e3 := mag_le (k := k) hu.2
  have e4 := mag_le (k := k) hv.2
  rw [vi_pos su, vi_pos sv]
  have : ((mag k (rung k u) : Int) - (mag k (rung k v) : Int)).natAbs ≤ mag k c := by omega
  have h2 := rg_mono k this k.format.leastPlace
  rwa [rg_mag k h1] at h2

/-- A sum of two numbers that are not negative. -/
theorem add_ge {k : FloatKind} {u v : Nat} (hu : Fin k u) (hv : Fin k v) (su : sgn k u = false) (sv : sgn k v = false) :
    sgn k (fbin .add k u v) = false ∧ rung k u ≤ rung k (fbin .add k u v) ∧ rung k v ≤ rung k (fbin .add k u v) ∧ rung k (fbin .add k u v) = rg k (mag k (rung k u) + mag k (rung k v)) k.format.leastPlace ∧ fbin .add k u v < 2 ^ k.format.width ∧ isN k (fbin .add k u v) = false := by
  rw [fadd_fin hu hv, vi_pos su, vi_pos sv]
  have e : ((mag k (rung k u) : Int) + (mag k (rung k v) : Int)).natAbs = mag k (rung k u) + mag k (rung k v) := by omega
  rw [e, sgn_word k _ (rg_sw ..), rung_word k _ (rg_sw ..), su, sv]
  refine ⟨?_, ?_, ?_, rfl, k.format.word_lt _ (rg_sw ..), ?_⟩
  · split
    · rfl
    · exact decide_eq_false (by omega)
  · have h := rg_mono k (Nat.le_add_right (mag k (rung k u)) (mag k (rung k v))) k.format.leastPlace
    rwa [rg_mag k hu.2] at h
  · have h := rg_mono k (Nat.le_add_left (mag k (rung k v)) (mag k (rung k u))) k.format.leastPlace
    rwa [rg_mag k hv.2] at h
  · have h := isN_iff k (k.format.word (if (↑(mag k (rung k u)) : Int) + ↑(mag k (rung k v)) = 0 then false && false else decide ((↑(mag k (rung k u)) : Int) + ↑(mag k (rung k v)) < 0)) (rg k (mag k (rung k u) + mag k (rung k v)) k.format.leastPlace))
    rw [rung_word k _ (rg_sw ..)] at h
    have h2 := rg_le_inf k (mag k (rung k u) + mag k (rung k v)) k.format.leastPlace
    cases hc : isN k (k.format.word (if (↑(mag k (rung k u)) : Int) + ↑(mag k (rung k v)) = 0 then false && false else decide ((↑(mag k (rung k u)) : Int) + ↑(mag k (rung k v)) < 0)) (rg k (mag k (rung k u) + mag k (rung k v)) k.format.leastPlace)) with
    | false => rfl
    | true => have := h.1 hc; omega

/-- A QUOTIENT IS AT MOST w WHERE |u| ≤ w·|v|. -/
theorem Up.div {k : FloatKind} {u v r : Nat} (hu : Fin k u) (hv : Fin k v) (hv0 : rung k v ≠ 0) (hr : r < k.format.infRung) (L : Nat) (hL : k.format.leastPlace = -(L : Int))
    (h : mag k (rung k u) * 2 ^ L ≤ mag k r * mag k (rung k v)) : Up k r (fbin .quo k u v) := by
  have hfb := fb_pos k
  unfold fbin floatBits Format.div
  simp only [hu.read, hv.read, Datum.quotient]
  have hn0 : sig k (rung k v) ≠ 0 := sig_pos hv0
  rw [if_neg hn0]
  dsimp only [Option.map_some, Option.getD_some]
  show Up k r (k.format.nearest _ _ _)
  rw [nearest_rg]
  refine up_word _ ?_
  by_cases hm0 : sig k (rung k u) = 0
  · rw [hm0]
    simp [rg_zero]
  have hsl : (sig k r).log2 ≤ k.format.fractionBits := by
    by_cases h0 : r = 0
    · subst h0; unfold sig; rw [if_pos (binade_pos k)]; simp [Nat.log2_zero]
    · by_cases h1 : r < k.format.binade
      · exact Nat.le_of_lt (log2_sig_small h0 h1)
      · exact Nat.le_of_eq (log2_sig_big h1)
  have hml : (sig k (rung k u)).log2 ≤ k.format.fractionBits := by
    have h0 := sig_ne hm0
    by_cases h1 : rung k u < k.format.binade
    · exact Nat.le_of_lt (log2_sig_small h0 h1)
    · exact Nat.le_of_eq (log2_sig_big h1)
  have hrm := rg_mag k hr
  unfold mag at h hrm
  generalize sig k (rung k u) = m at *
  generalize sig k (rung k v) = n at *
  generalize sig k r = s at *
  generalize pl k (rung k u) = a at *
  generalize pl k (rung k v) = b at *
  generalize pl k r = c at *
  generalize hmore : k.format.fractionBits + 2 + n.log2 - m.log2 = more at *
  rw [Nat.shiftLeft_eq]
  have hn2 : n < 2 ^ (n.log2 + 1) := Nat.lt_log2_self
  have hm2 : 2 ^ m.log2 ≤ m := Nat.log2_self_le hm0
  have hnp : 0 < n := Nat.pos_of_ne_zero hn0
  by_cases hcase : L + a + 1 ≤ c + b + more + 0
  · -- the bound lies on the grid
    obtain ⟨d, hd⟩ : ∃ d : Nat, c + b + more = L + a + d := ⟨c + b + more - (L + a), by omega⟩
    have key : m * 2 ^ more ≤ s * 2 ^ d * n := by
      have h1 := Nat.mul_le_mul_right (2 ^ more) h
      have e1 : m * 2 ^ a * 2 ^ L * 2 ^ more = m * 2 ^ more * 2 ^ (a + L) := by rw [Nat.pow_add]; ac_rfl
      have e2 : s * 2 ^ c * (n * 2 ^ b) * 2 ^ more = s * 2 ^ d * n * 2 ^ (a + L) := by
        have : 2 ^ c * 2 ^ b * 2 ^ more = 2 ^ d * 2 ^ (a + L) := by rw [← Nat.pow_add, ← Nat.pow_add, ← Nat.pow_add]; congr 1; omega
        calc s * 2 ^ c * (n * 2 ^ b) * 2 ^ more = s * n * (2 ^ c * 2 ^ b * 2 ^ more) := by ac_rfl
          _ = s * n * (2 ^ d * 2 ^ (a + L)) := by rw [this]
          _ = _ := by ac_rfl
      rw [e1, e2] at h1
      exact Nat.le_of_mul_le_mul_right h1 (Nat.two_pow_pos _)
    have hq : 2 * (m * 2 ^ more / n) + (m * 2 ^ more % n != 0).toNat ≤ s * 2 ^ (d + 1) := by
      have e := Nat.div_add_mod (m * 2 ^ more) n
      have hlt := Nat.mod_lt (m * 2 ^ more) hnp
      have hle : m * 2 ^ more / n ≤ s * 2 ^ d := by
        rw [Nat.div_le_iff_le_mul_add_pred hnp, Nat.mul_comm n]; omega
      rw [Nat.pow_succ, ← Nat.mul_assoc]
      rcases Nat.lt_or_eq_of_le hle with h1 | h1
      · have : (m * 2 ^ more % n != 0).toNat ≤ 1 := by cases (m * 2 ^ more % n != 0) <;> decide
        omega
      · have e3 : n * (m * 2 ^ more / n) = s * 2 ^ d * n := by rw [h1, Nat.mul_comm]
        have : m * 2 ^ more % n = 0 := by omega
        rw [this]; simp; omega
    have h3 := rg_mono k hq (k.format.leastPlace + (a : Int) - (k.format.leastPlace + (b : Int)) - (more : Int) - 1)
    refine Nat.le_trans h3 ?_
    rw [rg_scale]
    rw [rg_scale] at hrm
    rw [← hrm]
    apply Nat.le_of_eq
    congr 1
    omega
  · exfalso
    have h1 : 2 ^ (m.log2 + a + L) ≤ m * 2 ^ a * 2 ^ L := by
      rw [Nat.pow_add, Nat.pow_add]
      exact Nat.mul_le_mul_right _ (Nat.mul_le_mul_right _ hm2)
    have hs2 : s < 2 ^ (k.format.fractionBits + 1) := Nat.lt_of_lt_of_le Nat.lt_log2_self (Nat.pow_le_pow_right (by decide) (by omega))
    have h2 : s * 2 ^ c * (n * 2 ^ b) < 2 ^ (k.format.fractionBits + 1 + c + (n.log2 + 1 + b)) := by
      rw [Nat.pow_add, Nat.pow_add, Nat.pow_add (n := b)]
      exact Nat.mul_lt_mul'' (Nat.mul_lt_mul_of_pos_right hs2 (Nat.two_pow_pos _)) (Nat.mul_lt_mul_of_pos_right hn2 (Nat.two_pow_pos _))
    have h3 : 2 ^ (m.log2 + a + L) < 2 ^ (k.format.fractionBits + 1 + c + (n.log2 + 1 + b)) := by omega
    have h4 := (Nat.pow_lt_pow_iff_right (by decide : 1 < 2)).1 h3
    omega
/-! ### Signs and keys -/

theorem key_word (k : FloatKind) (s : Bool) {r : Nat} (h : r < k.format.signWeight) : key k (k.format.word s r) = sm s r := by
  unfold key; rw [sgn_word k s h, rung_word k s h]
theorem isN_rg (k : FloatKind) (s : Bool) (m : Nat) (p : Int) : isN k (k.format.word s (rg k m p)) = false := isN_word k s (rg_le_inf k m p)

theorem fneg_key {k : FloatKind} {u : Nat} (hu : u < 2 ^ k.format.width) (hn : isN k u = false) : key k (fneg k u) = -key k u ∧ isN k (fneg k u) = false ∧ fneg k u = k.format.word (!sgn k u) (rung k u) := by
  have h1 : isN k (Op.negFloat k u) = false := by rw [isN_negFloat hu]; exact hn
  have e : fneg k u = k.format.word (!sgn k u) (rung k u) := by unfold fneg; rw [nf_not h1, negFloat_parts hu]
  have e2 : isN k (fneg k u) = false := by unfold fneg; rw [nf_not h1]; exact h1
  refine ⟨?_, e2, e⟩
  rw [e, key_word k _ (rung_lt k u), sm_not]; rfl

theorem fneg_nan {k : FloatKind} {u : Nat} (hu : u < 2 ^ k.format.width) (hn : isN k u = true) : fneg k u = nanW k := by
  unfold fneg; rw [nf_nan (by rw [isN_negFloat hu]; exact hn)]

/-- 'v - u' is the opposite of 'u - v', but for the sign of a zero. -/
theorem sub_swap {k : FloatKind} {u v : Nat} (hu : isN k u = false) (hv : Fin k v) (hul : u < 2 ^ k.format.width) :
    isN k (fbin .sub k u v) = false ∧ isN k (fbin .sub k v u) = false ∧ key k (fbin .sub k v u) = -key k (fbin .sub k u v) := by
  have lu := notN hu
  rcases Nat.lt_or_eq_of_le lu with h | h
  · have hf : Fin k u := ⟨hul, h⟩
    rw [fsub_fin hf hv, fsub_fin hv hf]
    refine ⟨isN_rg .., isN_rg .., ?_⟩
    rw [key_word k _ (rg_sw ..), key_word k _ (rg_sw ..)]
    have e : (vi k v - vi k u).natAbs = (vi k u - vi k v).natAbs := by omega
    rw [e]
    by_cases h0 : vi k u - vi k v = 0
    · have h0' : vi k v - vi k u = 0 := by omega
      rw [h0]
      simp only [Int.natAbs_zero, rg_zero]
      unfold sm; simp
    · rw [if_neg h0, if_neg (by omega)]
      by_cases h1 : vi k u - vi k v < 0
      · rw [decide_eq_true h1, decide_eq_false (by omega)]; unfold sm; simp
      · rw [decide_eq_false h1, decide_eq_true (by omega)]; unfold sm; simp
  · have hr := read_inf h
    have hi := k.format.infRung_lt
    have e1 : fbin .sub k u v = k.format.word (sgn k u) k.format.infRung := by
      unfold fbin floatBits Format.sub
      simp only [hr, hv.read, Datum.opposite, Datum.sum, Option.map_some, Option.getD_some]; rfl
    have e2 : fbin .sub k v u = k.format.word (!sgn k u) k.format.infRung := by
      unfold fbin floatBits Format.sub
      simp only [hr, hv.read, Datum.opposite, Datum.sum, Option.map_some, Option.getD_some]; rfl
    rw [e1, e2]
    refine ⟨isN_word k _ (Nat.le_refl _), isN_word k _ (Nat.le_refl _), ?_⟩
    rw [key_word k _ hi, key_word k _ hi, sm_not]

theorem fbin_nan_left {op : BinOp} {k : FloatKind} {u : Nat} (h : isN k u = true) (v : Nat) : fbin op k u v = nanW k := by
  unfold fbin; rw [floatBits_nan_left h]; rfl
theorem fbin_nan_right {op : BinOp} {k : FloatKind} {v : Nat} (h : isN k v = true) (u : Nat) : fbin op k u v = nanW k := by
  unfold fbin; rw [floatBits_nan_right h]; rfl
theorem fbin_lt (op : BinOp) (k : FloatKind) (u v : Nat) : fbin op k u v < 2 ^ k.format.width := by
  unfold fbin
  cases h : floatBits op k u v with
  | none => exact nanW_lt k
  | some r => exact floatBits_lt h

/-- The absolute value by a comparison. -/
def fabsC (u : Nat) : Nat := if fcmp .lss .f32 u 0 then fneg .f32 u else u

theorem fin_lit {k : FloatKind} {u : Nat} (h : decide (u < 2 ^ k.format.width) = true) (h2 : decide (rung k u < k.format.infRung) = true) : Fin k u := ⟨of_decide_eq_true h, of_decide_eq_true h2⟩

/-- NEARLY ONE, said in two ways. -/
theorem near_one (s c : Nat) (hs : s < 2 ^ FloatKind.f32.format.width) (hc : isN .f32 c = false) (hc2 : 0 ≤ key .f32 c) :
    fcmp .leq .f32 (fabsC (fbin .sub .f32 s 1065353216)) c = (fcmp .leq .f32 (fbin .sub .f32 s 1065353216) c && fcmp .leq .f32 (fbin .sub .f32 1065353216 s) c) := by
  cases hn : isN .f32 s
  · have h1 : Fin .f32 1065353216 := fin_lit (by decide) (by decide)
    obtain ⟨a1, a2, a3⟩ := sub_swap hn h1 hs
    have hl := fbin_lt .sub .f32 s 1065353216
    generalize fbin .sub .f32 s 1065353216 = x at *
    generalize fbin .sub .f32 1065353216 s = y at *
    have hz : isN .f32 0 = false := by decide
    have hk0 : key .f32 0 = 0 := by decide
    unfold fabsC
    rw [flt_key a1 hz, hk0, fle_key a1 hc, fle_key a2 hc, a3]
    by_cases h : key .f32 x < 0
    · rw [if_pos (decide_eq_true h)]
      have hk := fneg_key hl a1
      rw [fle_key hk.2.1 hc, hk.1, decide_eq_true (show key .f32 x ≤ key .f32 c by omega), Bool.true_and]
    · rw [if_neg (by rw [decide_eq_false h]; decide), fle_key a1 hc, decide_eq_true (show -key .f32 x ≤ key .f32 c by omega), Bool.and_true]
  · rw [fbin_nan_left hn, fbin_nan_right hn]
    have hN := isN_nanW .f32
    have e : fabsC (nanW .f32) = nanW .f32 := by
      unfold fabsC; rw [fcmp_nan_left (by decide) hN]; rfl
    rw [e, fcmp_nan_left (by decide) hN]; rfl
end Go.Proofs.YtgfnchggflecgaaGreatDoor
