/-
  ROWS, PLAIN: what the numbers of a row are at most; distances and roots stay finite. Own work.
-/
import Derived.Test.YtgfnchggflecgaaGreatDoorEa
namespace Go.Proofs.YtgfnchggflecgaaGreatDoor
open Ieee
set_option exponentiation.threshold 2000

theorem finB_Fin {u : Nat} (hu : u < 4294967296) (h : finB u = true) : Fin .f32 u := by
  refine ⟨hu, ?_⟩
  cases hn : isN .f32 u
  · have hl := notN hn
    rw [inf32] at hl ⊢
    rcases Nat.lt_or_eq_of_le hl with h1 | h1
    · exact h1
    · exfalso
      rw [rung32] at h1
      have : u = 2139095040 ∨ u = 4286578688 := by omega
      rcases this with rfl | rfl
      · exact absurd h (by decide)
      · exact absurd h (by decide)
  · exfalso
    unfold finB at h
    rw [fbin_nan_left hn, fcmp_nan_left (by decide) (isN_nanW .f32)] at h
    exact absurd h (by decide)

/-- finite and not below zero -/
def NonNeg (k : FloatKind) (u : Nat) : Prop := Fin k u ∧ (sgn k u = false ∨ rung k u = 0)
theorem good_nonneg {u : Nat} (hu : u < 4294967296) (h : goodU u = true) : NonNeg .f32 u := by
  obtain ⟨h1, h2⟩ := goodU_parts h
  have hf := finB_Fin hu h1
  refine ⟨hf, ?_⟩
  rw [fge_key hf.notN (by decide), key_zero] at h2
  have h2 := of_decide_eq_true h2
  unfold key sm at h2
  cases hs : sgn .f32 u
  · exact Or.inl rfl
  · rw [hs] at h2
    simp at h2
    exact Or.inr (by omega)

/-- Nothing is added by a zero. -/
theorem add_zero_right {k : FloatKind} {s x : Nat} (hs : Fin k s) (hx : Fin k x) (h0 : rung k x = 0) (ss : sgn k s = false) : fbin .add k s x = s := by
  rw [fadd_fin hs hx]
  have e : vi k x = 0 := by unfold vi; rw [h0, mag_zero]; unfold sm; simp
  rw [e, Int.add_zero, vi_pos ss, ss, Int.natAbs_natCast, rg_mag k hs.2]
  have hw := word_of hs.1
  rw [ss] at hw
  rw [decide_eq_false (show ¬ ((mag k (rung k s) : Nat) : Int) < 0 by omega)]
  simp only [Bool.false_and, ite_self]
  exact hw.symm

/-- A sum does not fall. -/
theorem sum_step {s x : Nat} (hs : s < 4294967296) (hn : isN .f32 s = false) (ss : sgn .f32 s = false) (hx : NonNeg .f32 x) :
    isN .f32 (fbin .add .f32 s x) = false ∧ sgn .f32 (fbin .add .f32 s x) = false ∧ rung .f32 s ≤ rung .f32 (fbin .add .f32 s x) ∧ rung .f32 x ≤ rung .f32 (fbin .add .f32 s x) := by
  have hl := notN hn
  rcases Nat.lt_or_eq_of_le hl with h | h
  · have hf : Fin .f32 s := ⟨hs, h⟩
    rcases hx.2 with h1 | h1
    · have g := add_ge hf hx.1 ss h1
      exact ⟨g.2.2.2.2.2, g.1, g.2.1, g.2.2.1⟩
    · rw [add_zero_right hf hx.1 h1 ss]
      exact ⟨hn, ss, Nat.le_refl _, by rw [h1]; exact Nat.zero_le _⟩
  · have hr := read_inf h
    have hi := FloatKind.f32.format.infRung_lt
    have e1 : fbin .add .f32 s x = FloatKind.f32.format.word (sgn .f32 s) FloatKind.f32.format.infRung := by
      unfold fbin floatBits Format.add
      simp only [hr, hx.1.read, Datum.sum, Option.map_some, Option.getD_some]; rfl
    rw [e1, ss]
    refine ⟨isN_word .f32 _ (Nat.le_refl _), sgn_word .f32 _ hi, ?_, ?_⟩
    · rw [rung_word .f32 _ hi]; exact hl
    · rw [rung_word .f32 _ hi]; exact Nat.le_of_lt hx.1.2

theorem sums_rise {l : List Nat} (hl : ∀ j, j < l.length → NonNeg .f32 (l.getD j 0)) : ∀ k, k ≤ l.length →
    sumF (l.take k) < 4294967296 ∧ isN .f32 (sumF (l.take k)) = false ∧ sgn .f32 (sumF (l.take k)) = false ∧ ∀ j, j < k → rung .f32 (l.getD j 0) ≤ rung .f32 (sumF (l.take k))
  | 0, _ => by
    rw [List.take_zero]
    exact ⟨by decide, by decide, by decide, fun j hj => absurd hj (Nat.not_lt_zero _)⟩
  | k + 1, h => by
    obtain ⟨i1, i2, i3, i4⟩ := sums_rise hl k (by omega)
    have g := sum_step i1 i2 i3 (hl k (by omega))
    rw [sumF_succ l k (by omega)]
    refine ⟨fbin_lt .add .f32 _ _, g.1, g.2.1, fun j hj => ?_⟩
    by_cases e : j = k
    · subst e; exact g.2.2.2
    · exact Nat.le_trans (i4 j (by omega)) g.2.2.1

theorem mag_twoone : mag .f32 1073741824 = mag .f32 1065353216 + mag .f32 1065353216 := by decide +kernel
theorem near_two {s : Nat} (hs : s < 4294967296) (hn : isN .f32 s = false) (ss : sgn .f32 s = false) (h : nearU s = true) : rung .f32 s ≤ 1073741824 := by
  refine Nat.le_of_not_lt fun hgt => ?_
  have hl := notN hn
  rw [inf32] at hl
  have hone : Fin .f32 1065353216 := fin_lit (by decide) (by decide)
  rcases Nat.lt_or_eq_of_le hl with h1 | h1
  · have hf : Fin .f32 s := ⟨hs, by rw [inf32]; exact h1⟩
    have hm := mag_lt (k := .f32) hgt
    have hv1 : vi .f32 1065353216 = ((mag .f32 1065353216 : Nat) : Int) := by
      rw [vi_pos (show sgn .f32 1065353216 = false by decide), show rung .f32 1065353216 = 1065353216 by decide]
    have e := fsub_fin hf hone
    rw [vi_pos ss, hv1] at e
    rw [mag_twoone] at hm
    have hd : (((mag .f32 (rung .f32 s) : Nat) : Int) - ((mag .f32 1065353216 : Nat) : Int)).natAbs = mag .f32 (rung .f32 s) - mag .f32 1065353216 := by omega
    have hp : 0 < mag .f32 1065353216 := by decide +kernel
    rw [if_neg (by omega), hd, decide_eq_false (by omega)] at e
    have hge := rg_mono .f32 (show mag .f32 1065353216 ≤ mag .f32 (rung .f32 s) - mag .f32 1065353216 by omega) FloatKind.f32.format.leastPlace
    rw [rg_mag .f32 (by rw [inf32]; decide)] at hge
    unfold nearU fabsC at h
    have hnn := isN_rg .f32 false (mag .f32 (rung .f32 s) - mag .f32 1065353216) FloatKind.f32.format.leastPlace
    have hkw := key_word .f32 false (rg_sw .f32 (mag .f32 (rung .f32 s) - mag .f32 1065353216) FloatKind.f32.format.leastPlace)
    rw [← e] at hnn hkw
    rw [flt_key hnn (by decide), hkw, key_zero] at h
    unfold sm at h
    rw [if_neg (by simp)] at h
    rw [fle_key hnn (by decide), hkw] at h
    have h := of_decide_eq_true h
    have e2 : key .f32 981668463 = 981668463 := by decide
    rw [e2] at h
    unfold sm at h
    simp at h
    omega
  · have : s = 2139095040 := by
      have hw := word_of (k := .f32) hs
      rw [ss, h1] at hw
      exact hw
    subst this
    exact absurd h (by decide)

/-- The numbers of a row are from 0 to 2. -/
theorem row_up {l : List Nat} (hlt : ∀ j, j < l.length → l.getD j 0 < 4294967296) (h : isRowB l = true) {j : Nat} (hj : j < l.length) : NonNeg .f32 (l.getD j 0) ∧ Up .f32 1073741824 (l.getD j 0) := by
  have hg : ∀ j, j < l.length → NonNeg .f32 (l.getD j 0) := fun j hj => good_nonneg (hlt j hj) (row_good h hj)
  obtain ⟨i1, i2, i3, i4⟩ := sums_rise hg l.length (Nat.le_refl _)
  rw [List.take_length] at i1 i2 i3 i4
  have hn : nearU (sumF l) = true := by
    have hr := rowC_all (l := l) (fun j hj => row_good h hj)
    unfold isRowB at h
    rw [← hr]
    exact (Bool.and_eq_true_iff.1 h).2
  exact ⟨hg j hj, (hg j hj).1.1, Nat.le_trans (i4 j hj) (near_two i1 i2 i3 hn)⟩

/-! ### Distances -/
def sizeV (u : Nat) : Nat := if fcmp .leq .f32 u 0 then fbin .sub .f32 0 u else u
def farS (s a b : Nat) : Nat := fbin .add .f32 s (fabsC (fbin .sub .f32 a b))
def farT (s a b : Nat) : Nat := fbin .add .f32 s (sizeV (fbin .sub .f32 a b))
theorem key_eq_of_rung {u : Nat} (h : rung .f32 u = 0) : key .f32 u = 0 := (key_eq_zero .f32 u).2 h
theorem size_same {d : Nat} (hd : Fin .f32 d) : (rung .f32 d ≠ 0 → fabsC d = FloatKind.f32.format.word false (rung .f32 d) ∧ sizeV d = FloatKind.f32.format.word false (rung .f32 d)) ∧
    (rung .f32 d = 0 → Fin .f32 (fabsC d) ∧ rung .f32 (fabsC d) = 0 ∧ Fin .f32 (sizeV d) ∧ rung .f32 (sizeV d) = 0) := by
  have hn := hd.notN
  have hz : isN .f32 0 = false := by decide
  have fz : Fin .f32 0 := fin_lit (by decide) (by decide)
  have v0 : vi .f32 0 = 0 := by unfold vi; rw [show rung .f32 0 = 0 by decide, mag_zero]; unfold sm; simp
  have hw := word_of hd.1
  have hk : key .f32 d = sm (sgn .f32 d) (rung .f32 d) := rfl
  unfold fabsC sizeV
  rw [flt_key hn hz, fle_key hn hz, key_zero, hk]
  refine ⟨fun h0 => ?_, fun h0 => ?_⟩
  · cases hs : sgn .f32 d
    · rw [hs] at hw
      unfold sm
      simp only [if_neg (show ¬ (false = true) by decide)]
      rw [if_neg (by simp), if_neg (by simp; omega)]
      exact ⟨hw, hw⟩
    · unfold sm
      simp only [if_true]
      rw [if_pos (decide_eq_true (by omega)), if_pos (decide_eq_true (by omega)), (fneg_key hd.1 hn).2.2, hs]
      refine ⟨rfl, ?_⟩
      rw [fsub_fin fz hd, v0]
      have hv : vi .f32 d = -((mag .f32 (rung .f32 d) : Nat) : Int) := by unfold vi sm; rw [hs]; rfl
      have hp : 0 < mag .f32 (rung .f32 d) := by
        have := mag_lt (k := .f32) (Nat.pos_of_ne_zero h0); omega
      rw [hv, show (0 - -((mag .f32 (rung .f32 d) : Nat) : Int)).natAbs = mag .f32 (rung .f32 d) by omega, rg_mag .f32 hd.2, if_neg (by omega), decide_eq_false (by omega)]
  · rw [h0]
    have e : ∀ b, sm b 0 = 0 := by intro b; unfold sm; simp
    rw [e, if_neg (by simp), if_pos (by simp), fsub_fin fz hd, v0]
    have hv : vi .f32 d = 0 := by unfold vi; rw [h0, mag_zero, e]
    rw [hv, if_pos (by omega), show ((0 : Int) - 0).natAbs = 0 by omega, rg_zero, show sgn .f32 0 = false by decide, Bool.false_and]
    exact ⟨hd, h0, fz, by decide⟩

/-- 4k -/
def c4 (k : Nat) : Nat := floatOfInt .f32 (4 * (k : Int))
theorem c4_all : ∀ k : _root_.Fin 32, rg .f32 (mag .f32 (c4 k.val) + mag .f32 1082130432) FloatKind.f32.format.leastPlace ≤ c4 (k.val + 1) := by decide +kernel
theorem c4_inf : ∀ k : _root_.Fin 33, c4 k.val < 2139095040 := by decide +kernel
theorem sub_four {a b : Nat} (ha : Up .f32 1073741824 a) (hb : Up .f32 1073741824 b) : Up .f32 1082130432 (fbin .sub .f32 a b) :=
  Up.sub ha hb (by rw [inf32]; decide) (by rw [inf32]; decide) (by decide +kernel)
theorem far_step {s a b k : Nat} (hk : k < 32) (hs : Up .f32 (c4 k) s) (ss : sgn .f32 s = false) (ha : Up .f32 1073741824 a) (hb : Up .f32 1073741824 b) :
    farS s a b = farT s a b ∧ Up .f32 (c4 (k + 1)) (farS s a b) ∧ sgn .f32 (farS s a b) = false := by
  have hd := sub_four ha hb
  have hdf : Fin .f32 (fbin .sub .f32 a b) := hd.fin (by rw [inf32]; decide)
  have i1 := c4_inf ⟨k, by omega⟩
  have hsf : Fin .f32 s := hs.fin (by rw [inf32]; exact i1)
  obtain ⟨h1, h2⟩ := size_same hdf
  unfold farS farT
  generalize fbin .sub .f32 a b = d at *
  by_cases h0 : rung .f32 d = 0
  · obtain ⟨g1, g2, g3, g4⟩ := h2 h0
    rw [add_zero_right hsf g1 g2 ss, add_zero_right hsf g3 g4 ss]
    refine ⟨rfl, hs.mono ?_, ss⟩
    have := c4_all ⟨k, hk⟩
    refine Nat.le_trans ?_ this
    have hr := rg_mono .f32 (Nat.le_add_right (mag .f32 (c4 k)) (mag .f32 1082130432)) FloatKind.f32.format.leastPlace
    rwa [rg_mag .f32 (by rw [inf32]; exact i1)] at hr
  · obtain ⟨g1, g2⟩ := h1 h0
    rw [g1, g2]
    have hw : Up .f32 1082130432 (FloatKind.f32.format.word false (rung .f32 d)) := ⟨FloatKind.f32.format.word_lt _ (rung_lt ..), by rw [rung_word .f32 _ (rung_lt ..)]; exact hd.2⟩
    have hws : sgn .f32 (FloatKind.f32.format.word false (rung .f32 d)) = false := sgn_word .f32 _ (rung_lt ..)
    exact ⟨rfl, Up.add hs hw (by rw [inf32]; exact i1) (by rw [inf32]; decide) (c4_all ⟨k, hk⟩), (add_ge hsf (hw.fin (by rw [inf32]; decide)) ss hws).1⟩

theorem far_folds {a b : List Nat} (hl : a.length = b.length) (hm : a.length ≤ 32) (ha : ∀ j, j < a.length → Up .f32 1073741824 (a.getD j 0)) (hb : ∀ j, j < b.length → Up .f32 1073741824 (b.getD j 0)) : ∀ k, k ≤ a.length →
    fold2 farS (a.take k) (b.take k) = fold2 farT (a.take k) (b.take k) ∧ Up .f32 (c4 k) (fold2 farS (a.take k) (b.take k)) ∧ sgn .f32 (fold2 farS (a.take k) (b.take k)) = false
  | 0, _ => by
    rw [List.take_zero, List.take_zero]
    exact ⟨rfl, show Up .f32 (c4 0) 0 from ⟨by decide, by decide⟩, show sgn .f32 0 = false by decide⟩
  | k + 1, h => by
    obtain ⟨i1, i2, i3⟩ := far_folds hl hm ha hb k (by omega)
    rw [fold2_succ farS a b k (by omega) hl, fold2_succ farT a b k (by omega) hl, ← i1]
    exact far_step (by omega) i2 i3 (ha k (by omega)) (hb k (by omega))

/-- Half of it, said in two ways. -/
theorem half_mul {u : Nat} (hu : Fin .f32 u) (hs : sgn .f32 u = false) : fbin .quo .f32 u 1073741824 = fbin .mul .f32 1056964608 u := by
  have h2 : Fin .f32 1073741824 := fin_lit (by decide) (by decide)
  have hh : Fin .f32 1056964608 := fin_lit (by decide) (by decide)
  have e2 := h2.read
  have eh := hh.read
  have s2 : sgn .f32 1073741824 = false := by decide
  have g2 : sig .f32 (rung .f32 1073741824) = 8388608 := by decide
  have p2 : pl .f32 (rung .f32 1073741824) = 127 := by decide
  have sh : sgn .f32 1056964608 = false := by decide
  have gh : sig .f32 (rung .f32 1056964608) = 8388608 := by decide
  have ph : pl .f32 (rung .f32 1056964608) = 125 := by decide
  rw [s2, g2, p2] at e2
  rw [sh, gh, ph] at eh
  unfold fbin floatBits Format.div Format.mul
  simp only [hu.read, e2, eh, Datum.quotient, Datum.product, hs]
  rw [if_neg (by decide)]
  dsimp only [Option.map_some, Option.getD_some]
  show FloatKind.f32.format.nearest _ _ _ = FloatKind.f32.format.nearest _ _ _
  have hml : (sig .f32 (rung .f32 u)).log2 ≤ 23 := by
    by_cases h0 : rung .f32 u = 0
    · rw [h0]; unfold sig; rw [if_pos (binade_pos .f32)]; decide
    · by_cases h1 : rung .f32 u < FloatKind.f32.format.binade
      · exact Nat.le_of_lt (log2_sig_small h0 h1)
      · exact Nat.le_of_eq (log2_sig_big h1)
  generalize sig .f32 (rung .f32 u) = m at *
  generalize pl .f32 (rung .f32 u) = p at *
  rw [show (8388608 : Nat).log2 = 23 by decide, fb32, lp32, Nat.shiftLeft_eq]
  obtain ⟨e, he⟩ : ∃ e, 23 + 2 + 23 - m.log2 = 23 + e := ⟨25 - m.log2, by omega⟩
  rw [he, Nat.pow_add]
  have d1 : m * (2 ^ 23 * 2 ^ e) / 8388608 = m * 2 ^ e := by
    rw [show (2 : Nat) ^ 23 = 8388608 by decide, show m * (8388608 * 2 ^ e) = m * 2 ^ e * 8388608 by ac_rfl, Nat.mul_div_cancel _ (by decide)]
  have d2 : m * (2 ^ 23 * 2 ^ e) % 8388608 = 0 := by
    rw [show (2 : Nat) ^ 23 = 8388608 by decide, show m * (8388608 * 2 ^ e) = m * 2 ^ e * 8388608 by ac_rfl, Nat.mul_mod_left]
  rw [d1, d2]
  have z : 2 * (m * 2 ^ e) + ((0 : Nat) != 0 : Bool).toNat = m * 2 ^ (e + 1) := by
    rw [Nat.pow_succ]; simp; ac_rfl
  rw [z, nearest_scale, show 8388608 * m = m * 2 ^ 23 by rw [show (2 : Nat) ^ 23 = 8388608 by decide]; ac_rfl, nearest_scale]
  congr 1
  omega
theorem half_up {u : Nat} (hu : Fin .f32 u) : Fin .f32 (fbin .quo .f32 u 1073741824) := by
  refine (Up.div (r := rung .f32 u) hu (fin_lit (by decide) (by decide)) (by decide) hu.2 149 lp32 ?_).fin hu.2
  exact Nat.mul_le_mul_left _ (show 2 ^ 149 ≤ mag .f32 (rung .f32 1073741824) by decide +kernel)

/-- FarOfRows, plainly. -/
def farV (a b : List Nat) : Nat := fbin .quo .f32 (fold2 farS a b) 1073741824
theorem far_plain {a b : List Nat} (hl : a.length = b.length) (hm : a.length ≤ 32) (ha : ∀ j, j < a.length → Up .f32 1073741824 (a.getD j 0)) (hb : ∀ j, j < b.length → Up .f32 1073741824 (b.getD j 0)) :
    finB (farV a b) = true ∧ farV a b = fbin .mul .f32 1056964608 (fold2 farT a b) := by
  obtain ⟨h1, h2, h3⟩ := far_folds hl hm ha hb a.length (Nat.le_refl _)
  have e2 : b.take a.length = b := by rw [hl, List.take_length]
  rw [List.take_length, e2] at h1 h2 h3
  have hf : Fin .f32 (fold2 farS a b) := h2.fin (by rw [inf32]; exact c4_inf ⟨a.length, by omega⟩)
  refine ⟨finB_fin (half_up hf), ?_⟩
  unfold farV
  rw [← h1]
  exact half_mul hf h3
end Go.Proofs.YtgfnchggflecgaaGreatDoor
