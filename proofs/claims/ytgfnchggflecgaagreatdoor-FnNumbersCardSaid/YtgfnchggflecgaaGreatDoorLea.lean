/-
  ANGLES of points. Printed by wip/tools/gen_angle.py. Own work; no condition beyond what each theorem names.
-/
import Derived.Test.YtgfnchggflecgaaGreatDoorLc
namespace Go.Proofs.YtgfnchggflecgaaGreatDoor
open Go.RowKit
set_option exponentiation.threshold 2000

/-! ### The plain part -/
def tI (t : Nat) : Nat := fbin .quo .f64 t (fbin .add .f64 4607182418800017408 (fsqrt (fbin .add .f64 4607182418800017408 (fbin .mul .f64 t t))))
def tK (t : Nat) : Nat → Nat
  | 0 => t
  | k + 1 => tI (tK t k)
def aP (u : Nat) : Nat → Nat
  | 0 => 0
  | j + 1 => fbin .sub .f64 (fbin .quo .f64 4607182418800017408 (ef (15 - 2 * (j : Int)))) (fbin .mul .f64 u (aP u j))
def aQ (t : Nat) : Nat := fbin .quo .f64 (fbin .mul .f64 4620693217682128896 (fbin .mul .f64 t (aP (fbin .mul .f64 t t) 8))) 4618760256179416344
def aOver (v : Nat) : Nat := fbin .sub .f64 4598175219545276416 v
def aHalf (v : Nat) : Nat := fbin .sub .f64 4602678819172646912 v
/-- The angle out of the quotient and three tests. -/
def aF (t : Nat) (over xl yl : Bool) : Nat :=
  let v := if over then aOver (aQ t) else aQ t
  let v := if xl then aHalf v else v
  if yl then fneg .f64 v else v

theorem ak_geq_all : ∀ j : _root_.Fin 9, fcmp .geq .f64 (ef (15 - 2 * (j.val : Int))) 4607182418800017408 = decide (j.val < 8) := by decide +kernel
theorem ak_sub_all : ∀ j : _root_.Fin 8, fbin .sub .f64 (ef (15 - 2 * (j.val : Int))) 4611686018427387904 = ef (15 - 2 * ((j.val : Int) + 1)) := by decide +kernel
theorem ak_quo_all : ∀ j : _root_.Fin 8, rung .f64 (fbin .quo .f64 4607182418800017408 (ef (15 - 2 * (j.val : Int)))) ≤ 4607182418800017408 := by decide +kernel
theorem ak_mk_all : ∀ j : _root_.Fin 8, mk (ef (15 - 2 * ((j.val : Int) + 1))) < mk (ef (15 - 2 * (j.val : Int))) ∧ isN .f64 (ef (15 - 2 * (j.val : Int))) = false ∧ isN .f64 (ef (15 - 2 * ((j.val : Int) + 1))) = false := by decide +kernel
theorem a_mul_all : ∀ j : _root_.Fin 9, rg .f64 (mag .f64 4607182418800017408 * mag .f64 (pw j.val)) (FloatKind.f64.format.leastPlace + FloatKind.f64.format.leastPlace) ≤ pw j.val := by decide +kernel
theorem a_sub_all : ∀ j : _root_.Fin 9, rg .f64 (mag .f64 4607182418800017408 + mag .f64 (pw j.val)) FloatKind.f64.format.leastPlace ≤ pw (j.val + 1) := by decide +kernel
theorem aP_up {u : Nat} (hu : Up .f64 4607182418800017408 u) : ∀ j : Nat, j ≤ 8 → Up .f64 (pw j) (aP u j)
  | 0, _ => show Up .f64 (pw 0) 0 from ⟨by decide, by decide⟩
  | j + 1, h => by
    have ih := aP_up hu j (by omega)
    have i2 := pw_inf_all ⟨j, by omega⟩
    have h1 := Up.mul hu ih (by rw [inf64]; decide) (by rw [inf64]; exact i2) (a_mul_all ⟨j, by omega⟩)
    have hq : Up .f64 4607182418800017408 (fbin .quo .f64 4607182418800017408 (ef (15 - 2 * (j : Int)))) := ⟨fbin_lt ..,  ak_quo_all ⟨j, by omega⟩⟩
    exact Up.sub hq h1 (by rw [inf64]; decide) (by rw [inf64]; exact i2) (a_sub_all ⟨j, by omega⟩)
/-- at most one, and not below zero -/
def One (t : Nat) : Prop := Up .f64 4607182418800017408 t
theorem mul_self_sgn {t : Nat} (h : Fin .f64 t) : sgn .f64 (fbin .mul .f64 t t) = false := by
  rw [fmul_fin h h, sgn_word .f64 _ (rg_sw ..)]; simp
theorem tI_up {t : Nat} (h : Up .f64 4607182418800017408 t) : Up .f64 4607182418800017408 (tI t) := by
  have hone : Fin .f64 4607182418800017408 := fin_lit (by decide) (by decide)
  have sone : sgn .f64 4607182418800017408 = false := by decide
  have uone : Up .f64 4607182418800017408 4607182418800017408 := ⟨by decide, by decide⟩
  have hf := h.fin (by rw [inf64]; decide)
  have h1 : Up .f64 4607182418800017408 (fbin .mul .f64 t t) := Up.mul h h (by rw [inf64]; decide) (by rw [inf64]; decide) (by decide +kernel)
  have s1 := mul_self_sgn hf
  have g2 := add_ge hone (h1.fin (by rw [inf64]; decide)) sone s1
  have h2 : Up .f64 (pw 1) (fbin .add .f64 4607182418800017408 (fbin .mul .f64 t t)) := Up.add uone h1 (by rw [inf64]; decide) (by rw [inf64]; decide) (by decide +kernel)
  have b2 : Bd .f64 1025 (fbin .add .f64 4607182418800017408 (fbin .mul .f64 t t)) := ⟨h2.1, Nat.lt_of_le_of_lt h2.2 (by rw [bin64]; decide)⟩
  obtain ⟨b3, s3⟩ := Bd.sqrt b2 (by decide) g2.1 1027 (by decide) (by decide)
  have h3 : Up .f64 (pw 5) (fsqrt (fbin .add .f64 4607182418800017408 (fbin .mul .f64 t t))) := ⟨b3.1, Nat.le_of_lt (by have := b3.2; rw [bin64] at this; exact Nat.lt_of_lt_of_le this (by decide))⟩
  have f3 := h3.fin (by rw [inf64]; exact pw_inf_all ⟨5, by decide⟩)
  have g4 := add_ge hone f3 sone s3
  have h4 : Up .f64 (pw 6) (fbin .add .f64 4607182418800017408 (fsqrt (fbin .add .f64 4607182418800017408 (fbin .mul .f64 t t)))) := Up.add uone h3 (by rw [inf64]; decide) (by rw [inf64]; exact pw_inf_all ⟨5, by decide⟩) (by decide +kernel)
  have f4 := h4.fin (by rw [inf64]; exact pw_inf_all ⟨6, by decide⟩)
  have hr : 4607182418800017408 ≤ rung .f64 (fbin .add .f64 4607182418800017408 (fsqrt (fbin .add .f64 4607182418800017408 (fbin .mul .f64 t t)))) := by
    have := g4.2.1
    rwa [show rung .f64 4607182418800017408 = 4607182418800017408 by decide] at this
  unfold tI
  refine Up.div hf f4 (by omega) (by rw [inf64]; decide) 1074 lp64 ?_
  have m1 := mag_le (k := .f64) h.2
  have m2 := mag_le (k := .f64) hr
  rw [one_mag] at m1 m2 ⊢
  exact Nat.mul_le_mul m1 m2
theorem tK_up {t : Nat} (h : Up .f64 4607182418800017408 t) : ∀ k, Up .f64 4607182418800017408 (tK t k)
  | 0 => h
  | k + 1 => tI_up (tK_up h k)
theorem aQ_up {t : Nat} (h : Up .f64 4607182418800017408 t) : Up .f64 (pw 11) (aQ t) := by
  have h1 : Up .f64 4607182418800017408 (fbin .mul .f64 t t) := Up.mul h h (by rw [inf64]; decide) (by rw [inf64]; decide) (by decide +kernel)
  have h2 := aP_up h1 8 (Nat.le_refl 8)
  have h3 : Up .f64 (pw 8) (fbin .mul .f64 t (aP (fbin .mul .f64 t t) 8)) := Up.mul h h2 (by rw [inf64]; decide) (by rw [inf64]; exact pw_inf_all ⟨8, by decide⟩) (by decide +kernel)
  have h4 : Up .f64 (pw 11) (fbin .mul .f64 4620693217682128896 (fbin .mul .f64 t (aP (fbin .mul .f64 t t) 8))) := Up.mul (cu := 4620693217682128896) ⟨by decide, by decide⟩ h3 (by rw [inf64]; decide) (by rw [inf64]; exact pw_inf_all ⟨8, by decide⟩) (by decide +kernel)
  unfold aQ
  refine Up.div (h4.fin (by rw [inf64]; exact pw_inf_all ⟨11, by decide⟩)) (fin_lit (by decide) (by decide)) (by decide) (by rw [inf64]; exact pw_inf_all ⟨11, by decide⟩) 1074 lp64 ?_
  exact Nat.mul_le_mul (mag_le h4.2) (show 2 ^ 1074 ≤ mag .f64 (rung .f64 4618760256179416344) by decide +kernel)
theorem aF_ok {t : Nat} (h : Up .f64 4607182418800017408 t) (o x y : Bool) : NarrowOk (aF t o x y) := by
  have h1 := aQ_up h
  have h2 : Up .f64 (pw 12) (if o then aOver (aQ t) else aQ t) := by
    split
    · exact Up.sub (cu := 4598175219545276416) ⟨by decide, by decide⟩ h1 (by rw [inf64]; decide) (by rw [inf64]; exact pw_inf_all ⟨11, by decide⟩) (by decide +kernel)
    · exact h1.mono (by decide)
  have h3 : Up .f64 (pw 13) (if x then aHalf (if o then aOver (aQ t) else aQ t) else (if o then aOver (aQ t) else aQ t)) := by
    split
    · exact Up.sub (cu := 4602678819172646912) ⟨by decide, by decide⟩ h2 (by rw [inf64]; decide) (by rw [inf64]; exact pw_inf_all ⟨12, by decide⟩) (by decide +kernel)
    · exact h2.mono (by decide)
  have h4 : Up .f64 (pw 13) (aF t o x y) := by
    unfold aF
    dsimp only
    split
    · exact fneg_up h3 (pw_inf_all ⟨13, by decide⟩)
    · exact h3
  exact up_bd h4 (by decide)
/-- A quotient of absolute values, the less by the greater. -/
theorem quo_one {a b : Nat} (ha : Fin .f64 a) (hb : Fin .f64 b) (hab : rung .f64 a ≤ rung .f64 b) (h0 : rung .f64 b ≠ 0) : Up .f64 4607182418800017408 (fbin .quo .f64 a b) := by
  refine Up.div ha hb h0 (by rw [inf64]; decide) 1074 lp64 ?_
  rw [one_mag, Nat.mul_comm]
  exact Nat.mul_le_mul_left _ (mag_le hab)
/-- What AngleTurns gives of two finite numbers that are not both zero. -/
def qt (y x : Nat) : Nat := if fcmp .gtr .f64 (fabs (fwide y)) (fabs (fwide x)) then fbin .quo .f64 (fabs (fwide x)) (fabs (fwide y)) else fbin .quo .f64 (fabs (fwide y)) (fabs (fwide x))
def angW (y x : Nat) : Nat := aF (tK (qt y x) 3) (fcmp .gtr .f64 (fabs (fwide y)) (fabs (fwide x))) (fcmp .lss .f32 x 0) (fcmp .lss .f32 y 0)
theorem fabs_parts {u : Nat} (h : Fin .f32 u) : Fin .f64 (fabs (fwide u)) ∧ sgn .f64 (fabs (fwide u)) = false ∧ rung .f64 (fabs (fwide u)) = rung .f64 (fwide u) ∧ (rung .f64 (fwide u) = 0 ↔ rung .f32 u = 0) := by
  have hW := wide_Fin h
  have e := (fabs_fin hW).1
  have hr := hW.2
  rw [inf64] at hr
  obtain ⟨h1, h2, h3⟩ := fin_small hr
  refine ⟨by rw [e]; exact h1, by rw [e]; exact h3, by rw [e]; exact h2, ?_⟩
  have hu := h.2
  rw [inf32] at hu
  rw [fwide_fin hu, rung_word .f64 _ (Nat.lt_trans (wr_lt hu) (by decide))]
  exact wr_pos hu
theorem qt_up {y x : Nat} (hy : Fin .f32 y) (hx : Fin .f32 x) (h : ¬ (rung .f32 x = 0 ∧ rung .f32 y = 0)) : Up .f64 4607182418800017408 (qt y x) := by
  obtain ⟨a1, a2, a3, a4⟩ := fabs_parts hy
  obtain ⟨b1, b2, b3, b4⟩ := fabs_parts hx
  have hc : fcmp .gtr .f64 (fabs (fwide y)) (fabs (fwide x)) = decide (rung .f64 (fabs (fwide x)) < rung .f64 (fabs (fwide y))) := by
    rw [fgt_key a1.notN b1.notN]
    unfold key sm
    rw [a2, b2]
    exact decide_eq_decide.2 (by simp)
  unfold qt
  rw [hc]
  by_cases hlt : rung .f64 (fabs (fwide x)) < rung .f64 (fabs (fwide y))
  · rw [if_pos (decide_eq_true hlt)]
    exact quo_one b1 a1 (Nat.le_of_lt hlt) (by omega)
  · rw [if_neg (by rw [decide_eq_false hlt]; decide)]
    refine quo_one a1 b1 (by omega) ?_
    rw [b3]
    intro h0
    rw [a3, b3, h0] at hlt
    exact h ⟨b4.1 h0, a4.1 (by omega)⟩
theorem eql_zero {u : Nat} (h : Fin .f32 u) : fcmp .eql .f32 u 0 = decide (rung .f32 u = 0) := by
  rw [feq_key h.notN (by decide), key_zero]
  exact decide_eq_decide.2 (key_eq_zero .f32 u)
theorem wide_zero_eq {u : Nat} (h : Fin .f32 u) : fcmp .eql .f64 (fwide u) 0 = decide (rung .f32 u = 0) ∧ fcmp .lss .f64 (fwide u) 0 = fcmp .lss .f32 u 0 := by
  have hW := wide_Fin h
  obtain ⟨p1, p2, p3⟩ := fwide_parts h.notN
  have hz := (fabs_parts h).2.2.2
  have hz32 : isN .f32 0 = false := by decide
  have hz64 : isN .f64 0 = false := by decide
  refine ⟨?_, ?_⟩
  · rw [feq_key hW.notN hz64, key_zero]
    exact decide_eq_decide.2 (Iff.trans (key_eq_zero .f64 _) hz)
  · rw [flt_key hW.notN hz64, flt_key h.notN hz32, key_zero, key_zero]
    refine decide_eq_decide.2 ?_
    unfold key sm
    rw [p1]
    cases sgn .f32 u <;> simp <;> omega

end Go.Proofs.YtgfnchggflecgaaGreatDoor
