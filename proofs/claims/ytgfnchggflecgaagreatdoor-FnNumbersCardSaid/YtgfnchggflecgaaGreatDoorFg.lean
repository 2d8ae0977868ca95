/-
  FLOATS, PLAIN: halves and doubles, small whole numbers, the polynomial of the logarithm. Own work.
-/
import Derived.Test.YtgfnchggflecgaaGreatDoorFm
namespace Go.Proofs.YtgfnchggflecgaaGreatDoor
open Ieee
set_option exponentiation.threshold 2000

theorem sig_big {k : FloatKind} {r : Nat} (h : k.format.binade ≤ r) : sig k r = k.format.binade + r % k.format.binade := by
  unfold sig; rw [if_neg (by omega)]
theorem pl_big {k : FloatKind} {r : Nat} (h : k.format.binade ≤ r) : pl k r = r / k.format.binade - 1 := by
  unfold pl; rw [if_neg (by omega)]

theorem fin_small {r : Nat} (h : r < 9218868437227405312) : Fin .f64 r ∧ rung .f64 r = r ∧ sgn .f64 r = false := by
  have e : rung .f64 r = r := by unfold rung; rw [sw64]; exact Nat.mod_eq_of_lt (by omega)
  refine ⟨⟨?_, by rw [e, inf64]; exact h⟩, e, ?_⟩
  · show r < 2 ^ 64; omega
  · unfold sgn; rw [sw64, Nat.div_eq_of_lt (by omega)]; rfl

theorem word_false (k : FloatKind) (r : Nat) : k.format.word false r = r := by unfold Format.word; simp

/-- half of it -/
theorem half_eq {R : Nat} (h : 9007199254740992 ≤ R) (h2 : R < 9218868437227405312) : fbin .quo .f64 R 4611686018427387904 = R - 4503599627370496 := by
  obtain ⟨hf, hr, hs⟩ := fin_small h2
  have h2f : Fin .f64 4611686018427387904 := fin_lit (by decide) (by decide)
  have e2 := h2f.read
  have s2 : sgn .f64 4611686018427387904 = false := by decide
  have g2 : sig .f64 (rung .f64 4611686018427387904) = 4503599627370496 := by decide
  have p2 : pl .f64 (rung .f64 4611686018427387904) = 1023 := by decide
  rw [s2, g2, p2] at e2
  unfold fbin floatBits Format.div
  simp only [hf.read, e2, Datum.quotient, hr, hs]
  rw [if_neg (by decide)]
  dsimp only [Option.map_some, Option.getD_some]
  show FloatKind.f64.format.nearest _ _ _ = _
  have b1 : FloatKind.f64.format.binade ≤ R := by rw [bin64]; omega
  have b2 : FloatKind.f64.format.binade ≤ R - 4503599627370496 := by rw [bin64]; omega
  have hl := log2_sig_big (k := .f64) (r := R) (by rw [bin64]; omega)
  have e52 : (4503599627370496 : Nat).log2 = 52 := by decide
  rw [hl, e52, fb64, lp64, Nat.shiftLeft_eq]
  have e1 : sig .f64 R * 2 ^ (52 + 2 + 52 - 52) / 4503599627370496 = sig .f64 R * 4 := by
    rw [show (2 : Nat) ^ (52 + 2 + 52 - 52) = 4 * 4503599627370496 by decide, ← Nat.mul_assoc, Nat.mul_div_cancel _ (by decide)]
  have e3 : sig .f64 R * 2 ^ (52 + 2 + 52 - 52) % 4503599627370496 = 0 := by
    rw [show (2 : Nat) ^ (52 + 2 + 52 - 52) = 4 * 4503599627370496 by decide, ← Nat.mul_assoc, Nat.mul_mod_left]
  rw [e1, e3]
  have hsig : sig .f64 (R - 4503599627370496) = sig .f64 R := by
    rw [sig_big b1, sig_big b2, bin64]; omega
  have hpl : pl .f64 R = pl .f64 (R - 4503599627370496) + 1 := by
    rw [pl_big b1, pl_big b2, bin64]; omega
  have hh := nearest_val (k := .f64) false (r := R - 4503599627370496) (by rw [inf64]; omega) (m := 2 * (sig .f64 R * 4) + (0 != 0 : Bool).toNat) (a := 0) (b := 3)
    (place := -1074 + (pl .f64 R : Int) - (-1074 + ((1023 : Nat) : Int)) - ((52 + 2 + 52 - 52 : Nat) : Int) - 1) (by rw [hsig]; simp; omega) (by rw [lp64, hpl]; omega)
  rw [word_false] at hh
  exact hh

theorem mag_two : mag .f64 (rung .f64 4611686018427387904) = 2 ^ 1075 := by decide +kernel
theorem mag_step {R : Nat} (h : FloatKind.f64.format.binade ≤ R) : mag .f64 (R + FloatKind.f64.format.binade) = mag .f64 R * 2 := by
  have hb := binade_pos .f64
  unfold mag
  rw [sig_big h, sig_big (show FloatKind.f64.format.binade ≤ R + FloatKind.f64.format.binade by omega), pl_big h, pl_big (show FloatKind.f64.format.binade ≤ R + FloatKind.f64.format.binade by omega), Nat.add_mod_right, Nat.add_div_right _ hb]
  have h1 : 1 ≤ R / FloatKind.f64.format.binade := (Nat.le_div_iff_mul_le hb).2 (by omega)
  rw [show (R / FloatKind.f64.format.binade).succ - 1 = (R / FloatKind.f64.format.binade - 1) + 1 by omega, Nat.pow_succ, Nat.mul_assoc]
/-- twice it -/
theorem double_eq0 {R two : Nat} (h : FloatKind.f64.format.binade ≤ R) (h2 : R + FloatKind.f64.format.binade < FloatKind.f64.format.infRung) (hf : Fin .f64 R) (hr : rung .f64 R = R) (hs : sgn .f64 R = false)
    (tf : Fin .f64 two) (ts : sgn .f64 two = false) (tm : mag .f64 (rung .f64 two) = 2 ^ 1075) : fbin .mul .f64 R two = R + FloatKind.f64.format.binade := by
  rw [fmul_fin hf tf, hs, ts, tm, hr, rg_scale]
  have e : FloatKind.f64.format.leastPlace + FloatKind.f64.format.leastPlace + ((1075 : Nat) : Int) = FloatKind.f64.format.leastPlace + ((1 : Nat) : Int) := by rw [lp64]; decide
  rw [e, ← rg_scale, Nat.pow_one, ← mag_step h, rg_mag .f64 h2]
  exact word_false _ _
theorem double_eq {R : Nat} (h : 4503599627370496 ≤ R) (h2 : R < 9214364837600034816) : fbin .mul .f64 R 4611686018427387904 = R + 4503599627370496 := by
  obtain ⟨hf, hr, hs⟩ := fin_small (r := R) (by omega)
  have hh := double_eq0 (R := R) (two := 4611686018427387904) (by rw [bin64]; exact h) (by rw [bin64, inf64]; omega) hf hr hs (fin_lit (by decide) (by decide)) (by decide) mag_two
  rwa [bin64] at hh

/-! ### Whole numbers -/
/-- The word of a whole number. -/
def ef (n : Int) : Nat := floatOfInt .f64 n
theorem ef_up_all : ∀ n : _root_.Fin 400, fbin .add .f64 (ef ((n.val : Int) - 200)) 4607182418800017408 = ef ((n.val : Int) - 199) := by decide +kernel
theorem ef_down_all : ∀ n : _root_.Fin 400, fbin .sub .f64 (ef ((n.val : Int) - 200)) 4607182418800017408 = ef ((n.val : Int) - 201) := by decide +kernel
theorem ef_lt_all : ∀ n : _root_.Fin 400, rung .f64 (ef ((n.val : Int) - 200)) ≤ 4641240890982006784 ∧ ef ((n.val : Int) - 200) < 2 ^ 64 := by decide +kernel
theorem ef_up {n : Int} (h : -200 ≤ n ∧ n < 200) : fbin .add .f64 (ef n) 4607182418800017408 = ef (n + 1) := by
  have := ef_up_all ⟨(n + 200).toNat, by omega⟩
  rwa [show (((⟨(n + 200).toNat, by omega⟩ : _root_.Fin 400).val : Int) - 200) = n by simp; omega, show (((⟨(n + 200).toNat, by omega⟩ : _root_.Fin 400).val : Int) - 199) = n + 1 by simp; omega] at this
theorem ef_down {n : Int} (h : -200 ≤ n ∧ n < 200) : fbin .sub .f64 (ef n) 4607182418800017408 = ef (n - 1) := by
  have := ef_down_all ⟨(n + 200).toNat, by omega⟩
  rwa [show (((⟨(n + 200).toNat, by omega⟩ : _root_.Fin 400).val : Int) - 200) = n by simp; omega, show (((⟨(n + 200).toNat, by omega⟩ : _root_.Fin 400).val : Int) - 201) = n - 1 by simp; omega] at this
/-- rung of 200 -/
theorem ef_up200 {n : Int} (h : -200 ≤ n ∧ n < 200) : Up .f64 4641240890982006784 (ef n) := by
  have := ef_lt_all ⟨(n + 200).toNat, by omega⟩
  rw [show (((⟨(n + 200).toNat, by omega⟩ : _root_.Fin 400).val : Int) - 200) = n by simp; omega] at this
  exact ⟨this.2, this.1⟩
theorem fl_ef (n : Int) : Fl .f64 (ef n) (ef n) := by
  unfold ef floatOfInt FloatKind.nearest FloatKind.encode
  exact fl_of_write rfl

/-! ### The logarithm -/
def onE : Nat := 4607182418800017408
/-- The rounds of the polynomial. -/
def qF (u : Nat) : Nat → Nat
  | 0 => 0
  | j + 1 => fbin .add .f64 (fbin .quo .f64 4607182418800017408 (ef (25 - 2 * (j : Int)))) (fbin .mul .f64 u (qF u j))
def sF (R : Nat) : Nat := fbin .quo .f64 (fbin .sub .f64 R 4607182418800017408) (fbin .add .f64 R 4607182418800017408)
/-- The logarithm of the reduced number, and of the power of two. -/
def lnF (R : Nat) (n : Int) : Nat :=
  fbin .add .f64 (fbin .mul .f64 4611686018427387904 (fbin .mul .f64 (sF R) (qF (fbin .mul .f64 (sF R) (sF R)) 13))) (fbin .mul .f64 (ef n) 4604418534313441775)

theorem k_geq_all : ∀ j : _root_.Fin 14, fcmp .geq .f64 (ef (25 - 2 * (j.val : Int))) 4607182418800017408 = decide (j.val < 13) := by decide +kernel
theorem k_sub_all : ∀ j : _root_.Fin 13, fbin .sub .f64 (ef (25 - 2 * (j.val : Int))) 4611686018427387904 = ef (25 - 2 * ((j.val : Int) + 1)) := by decide +kernel
theorem k_quo_all : ∀ j : _root_.Fin 13, rung .f64 (fbin .quo .f64 4607182418800017408 (ef (25 - 2 * (j.val : Int)))) ≤ 4607182418800017408 := by decide +kernel
theorem q_mul_all : ∀ j : _root_.Fin 14, rg .f64 (mag .f64 4607182418800017408 * mag .f64 (ef j.val)) (FloatKind.f64.format.leastPlace + FloatKind.f64.format.leastPlace) ≤ ef j.val := by decide +kernel
theorem q_add_all : ∀ j : _root_.Fin 14, rg .f64 (mag .f64 4607182418800017408 + mag .f64 (ef j.val)) FloatKind.f64.format.leastPlace ≤ ef ((j.val : Int) + 1) := by decide +kernel
theorem ef_inf_all : ∀ j : _root_.Fin 14, ef j.val < 9218868437227405312 := by decide +kernel

theorem qF_up {u : Nat} (hu : Up .f64 4607182418800017408 u) : ∀ j : Nat, j ≤ 13 → Up .f64 (ef (j : Int)) (qF u j)
  | 0, _ => (⟨by decide, by rw [show rung .f64 0 = 0 by decide]; exact Nat.zero_le _⟩ : Up .f64 _ 0)
  | j + 1, h => by
    have ih := qF_up hu j (by omega)
    have hi := ef_inf_all ⟨j, by omega⟩
    have h1 : Up .f64 (ef (j : Int)) (fbin .mul .f64 u (qF u j)) := Up.mul hu ih (by decide) (by rw [inf64]; exact hi) (q_mul_all ⟨j, by omega⟩)
    have h2 : Up .f64 4607182418800017408 (fbin .quo .f64 4607182418800017408 (ef (25 - 2 * (j : Int)))) := ⟨fbin_lt _ _ _ _, k_quo_all ⟨j, by omega⟩⟩
    exact Up.add h2 h1 (by decide) (by rw [inf64]; exact hi) (q_add_all ⟨j, by omega⟩)

theorem sF_up {R : Nat} (h : R < 4611686018427387904) (h1 : 4503599627370496 ≤ R) : Up .f64 4607182418800017408 (sF R) := by
  obtain ⟨hf, hr, hs⟩ := fin_small (r := R) (by omega)
  have f1 : Fin .f64 4607182418800017408 := fin_lit (by decide) (by decide)
  have s1 : sgn .f64 4607182418800017408 = false := by decide
  have r1 : rung .f64 4607182418800017408 = 4607182418800017408 := by decide
  obtain ⟨a1, a2, a3, a4, a5, a6⟩ := add_ge hf f1 hs s1
  have hup : Up .f64 4611686018427387904 R := ⟨by show R < 2 ^ 64; omega, by rw [hr]; omega⟩
  have hu1 : Up .f64 4607182418800017408 4607182418800017408 := ⟨by decide, by decide⟩
  have hb : Up .f64 4616189618054758400 (fbin .add .f64 R 4607182418800017408) := Up.add (c := 4616189618054758400) hup hu1 (by decide) (by decide) (by decide +kernel)
  have hm : Up .f64 (max R 4607182418800017408) (fbin .sub .f64 R 4607182418800017408) :=
    Up.sub_pos ((⟨hup.1, by rw [hr]; exact Nat.le_max_left ..⟩)) ⟨by decide, by rw [r1]; exact Nat.le_max_right ..⟩ (by rw [inf64, Nat.max_lt]; omega) hs s1
  unfold sF
  refine Up.div (hm.fin (by rw [inf64, Nat.max_lt]; omega)) (hb.fin (by decide)) (by rw [r1] at a3; omega) (by decide) 1074 (by decide) ?_
  have e1 : mag .f64 4607182418800017408 = 2 ^ 1074 := by decide +kernel
  rw [e1, Nat.mul_comm]
  refine Nat.mul_le_mul_left _ (mag_le ?_)
  refine Nat.le_trans hm.2 ?_
  rw [hr] at a2; rw [r1] at a3
  exact Nat.max_le.2 ⟨a2, a3⟩

theorem lnF_up {R : Nat} {n : Int} (h : R < 4611686018427387904) (h1 : 4503599627370496 ≤ R) (hn : -200 ≤ n ∧ n < 200) : Up .f64 4645744490609377280 (lnF R n) := by
  have hs := sF_up h h1
  have hu : Up .f64 4607182418800017408 (fbin .mul .f64 (sF R) (sF R)) := Up.mul (c := 4607182418800017408) hs hs (by decide) (by decide) (by decide +kernel)
  have hq := (qF_up hu 13 (by decide)).mono (show ef ((13 : Nat) : Int) ≤ 4623507967449235456 by decide +kernel)
  unfold lnF
  have h2 : Up .f64 4611686018427387904 4611686018427387904 := ⟨by decide, by decide⟩
  have hsq : Up .f64 4623507967449235456 (fbin .mul .f64 (sF R) (qF (fbin .mul .f64 (sF R) (sF R)) 13)) := Up.mul (c := 4623507967449235456) hs hq (by decide) (by decide) (by decide +kernel)
  have h3 : Up .f64 4628011567076605952 (fbin .mul .f64 4611686018427387904 (fbin .mul .f64 (sF R) (qF (fbin .mul .f64 (sF R) (sF R)) 13))) := Up.mul (c := 4628011567076605952) h2 hsq (by decide) (by decide) (by decide +kernel)
  have h4 : Up .f64 4641240890982006784 (fbin .mul .f64 (ef n) 4604418534313441775) := Up.mul (c := 4641240890982006784) (ef_up200 hn) (⟨by decide, Nat.le_refl _⟩ : Up .f64 (rung .f64 4604418534313441775) 4604418534313441775) (by decide) (by decide) (by decide +kernel)
  exact Up.add (c := 4645744490609377280) h3 h4 (by decide) (by decide) (by decide +kernel)

/-! ### The reduction -/
theorem fl_small {r : Nat} (h : r < 9218868437227405312) : Fl .f64 r r := by
  obtain ⟨hf, _, _⟩ := fin_small h
  exact ⟨hf.1, nf_not hf.notN⟩
theorem key_small {r : Nat} (h : r < 9218868437227405312) : key .f64 r = r := by
  obtain ⟨_, h1, h2⟩ := fin_small h
  unfold key; rw [h1, h2]; rfl
theorem geq_small {r s : Nat} (h : r < 9218868437227405312) (h2 : s < 9218868437227405312) : fcmp .geq .f64 r s = decide (s ≤ r) := by
  rw [fge_key (fin_small h).1.notN (fin_small h2).1.notN, key_small h, key_small h2]
  exact decide_eq_decide.2 (by omega)
theorem lss_small {r s : Nat} (h : r < 9218868437227405312) (h2 : s < 9218868437227405312) : fcmp .lss .f64 r s = decide (r < s) := by
  rw [flt_key (fin_small h).1.notN (fin_small h2).1.notN, key_small h, key_small h2]
  exact decide_eq_decide.2 (by omega)

/-- how often it is halved until it is below 1.5 -/
def halfN (R : Nat) : Nat := if R < 4609434218613702656 then 0 else (R - 4609434218613702656) / 4503599627370496 + 1
/-- how often it is doubled until it is at least 0.75 -/
def dblN (R : Nat) : Nat := if 4604930618986332160 ≤ R then 0 else (4604930618986332160 - R + 4503599627370495) / 4503599627370496
def lowR (R : Nat) : Nat := R - halfN R * 4503599627370496
def redR (R : Nat) : Nat := lowR R + dblN (lowR R) * 4503599627370496
def lnV (R : Nat) : Nat := lnF (redR R) ((halfN R : Int) - dblN (lowR R))
theorem lowR_eq (R : Nat) : R - halfN R * 4503599627370496 = lowR R := (lowR.eq_1 R).symm
theorem redR_eq (R : Nat) : lowR R + dblN (lowR R) * 4503599627370496 = redR R := (redR.eq_1 R).symm
theorem red_bounds {R : Nat} (h : 3936146074321813504 ≤ R) (h2 : R < 5183643171103440896) : halfN R ≤ 128 ∧ dblN (lowR R) ≤ 150 ∧ redR R < 4611686018427387904 ∧ 4503599627370496 ≤ redR R ∧ 3936146074321813504 ≤ lowR R ∧ lowR R < 4609434218613702656 ∧ 4604930618986332160 ≤ redR R := by
  unfold redR lowR halfN dblN
  split <;> split <;> omega
theorem lnV_up {R : Nat} (h : 3936146074321813504 ≤ R) (h2 : R < 5183643171103440896) : Up .f64 4645744490609377280 (lnV R) := by
  obtain ⟨a1, a2, a3, a4, _, _, _⟩ := red_bounds h h2
  exact lnF_up a3 a4 (by omega)
/-- what falls from round to round -/
def mk (b : Nat) : Nat := if b < 9223372036854775808 then b else 0
theorem mk_all : ∀ j : _root_.Fin 13, mk (ef (25 - 2 * ((j.val : Int) + 1))) < mk (ef (25 - 2 * (j.val : Int))) ∧ isN .f64 (ef (25 - 2 * (j.val : Int))) = false ∧ isN .f64 (ef (25 - 2 * ((j.val : Int) + 1))) = false := by decide +kernel
end Go.Proofs.YtgfnchggflecgaaGreatDoor
