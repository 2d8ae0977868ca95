/-
  PHASORS. Own work; no condition beyond what each theorem names.
-/
import Derived.Test.YthlocjkmbmniaaaLea
import Derived.Test.YthlocjkmbmniaaaFr
import Derived.Laws.Cover3
namespace Go.Proofs.Ythlocjkmbmniaaa
open Go.RowKit
set_option exponentiation.threshold 2000

/-! ### A complex number, widened -/
section
variable {P : Program} {w : World} {ops : Array Oper} {rest : List Oper} {o : Oper} {a : Act} {Q : Exit → Act → World → Prop}
theorem run_ftf (w : World) (t : TypeId) (ht : P.underlying t = some (.float .f64)) {x u : Nat} (hx : Fl .f32 x u) : ∃ r n, (Conv.floatToFloat .f32 x .f64).run P w = .ok (.float .f64 r) (w.drewN n) ∧ Fl .f64 r (fwide u) := by
  obtain ⟨r, n, h1, h2⟩ := run_fwide (P := P) w t t (by rw [ht]; rfl) ht hx (fun s m e h => wide_ok s m e h)
  refine ⟨r, n, ?_, h2⟩
  have e : (convert t t (.float .f32 x)).run P w = (Conv.floatToFloat .f32 x .f64).run P w := by
    simp [convert, run_underlying ht]
  rw [← e]; exact h1
theorem wpList_cwide (hw : Region.wanted o (yielded ops a.tmps) = true) (t : TypeId) (ht : P.underlying t = some (.float .f64)) (ts td : TypeId) (x : Operand) (hop : o.op = .convert ts td x) (ra rb : Nat) (hx : a.eval x = .complex .f32 ra rb)
    (hs : (P.underlying ts).isSome = true) (hd : P.underlying td = some (.complex .f64)) {ua ub : Nat} (fa : Fl .f32 ra ua) (fb : Fl .f32 rb ub)
    (hK : ∀ r s n, Fl .f64 r (fwide ua) → Fl .f64 s (fwide ub) → wpList P ops Q rest (a.put o.dst (.complex .f64 r s)) (w.drewN n)) : wpList P ops Q (o :: rest) a w := by
  obtain ⟨S, hs⟩ := Option.isSome_iff_exists.1 hs
  obtain ⟨r, n, h1, h2⟩ := run_ftf (P := P) w t ht fa
  obtain ⟨s, m, h3, h4⟩ := run_ftf (P := P) (w.drewN n) t ht fb
  refine wpList_of_run hw (fun z w' => z = .complex .f64 r s ∧ w' = w.drewN (n + m)) ?_ ?_
  · refine ⟨_, _, ?_, rfl, rfl⟩
    have e : execOp a.eval o = (do pure (.value (← convert ts td (a.eval x)))) := by unfold execOp; rw [hop]
    rw [e, hx]
    cases S <;> simp [convert, run_underlying hs, run_underlying hd, Conv.complexToComplex, h1, h3, World.drewN_drewN]
  · rintro z w' ⟨rfl, rfl⟩
    exact hK r s _ h2 h4
end
theorem sameComplex_true (a b c d u v : Nat) (h1 : Fl .f64 a u) (h2 : Fl .f64 c u) (h3 : Fl .f64 b v) (h4 : Fl .f64 d v) (w : World) :
    Calls Try.prog 36 #[.complex .f64 a b, .complex .f64 c d] w fun e w' => e = .returned (.bool true) ∧ Dr w w' := by
  go_enter Try.func36, Try.ntmps36
  go_wp2_with (fail)
  refine (sameFloat_true _ _ _ h1 h2 _).mono ?_
  rintro e w' ⟨rfl, n1, rfl⟩
  go_wp2_with (fail)
  refine (sameFloat_true _ _ _ h3 h4 _).mono ?_
  rintro e w' ⟨rfl, n2, rfl⟩
  go_wp2_with (fail)
  go_ret
  exact ⟨rfl, _, rfl⟩
/-! ### Quarters of a turn -/
def sq (f : Nat) : Nat → Nat
  | 0 => f
  | k + 1 => fbin .sub .f64 (sq f k) 4598175219545276416
def gq (f k : Nat) : Bool := fcmp .geq .f64 (sq f k) 4598175219545276416
def phN (f : Nat) : Nat := if gq f 0 then (if gq f 1 then (if gq f 2 then (if gq f 3 then 4 else 3) else 2) else 1) else 0
theorem phN_le (f : Nat) : phN f ≤ 4 := by
  unfold phN
  cases gq f 0 <;> cases gq f 1 <;> cases gq f 2 <;> cases gq f 3 <;> decide
theorem phN_before {f k : Nat} (h : k < phN f) : gq f k = true := by
  unfold phN at h
  have : k = 0 ∨ k = 1 ∨ k = 2 ∨ k = 3 := by
    have := phN_le f
    unfold phN at this
    omega
  rcases this with rfl | rfl | rfl | rfl <;> cases h0 : gq f 0 <;> cases h1 : gq f 1 <;> cases h2 : gq f 2 <;> cases h3 : gq f 3 <;> simp_all
/-- from zero on, at most c -/
def Zc (c f : Nat) : Prop := NonNeg .f64 f ∧ rung .f64 f ≤ c
theorem gq_pos {c f : Nat} (h : Zc c f) (g : fcmp .geq .f64 f 4598175219545276416 = true) : sgn .f64 f = false ∧ 4598175219545276416 ≤ rung .f64 f := by
  rw [fge_key h.1.1.notN (by decide), show key .f64 4598175219545276416 = 4598175219545276416 by decide] at g
  have g := of_decide_eq_true g
  unfold key sm at g
  cases hs : sgn .f64 f
  · rw [hs] at g
    simp at g
    exact ⟨rfl, by omega⟩
  · rw [hs] at g
    simp at g
    omega
theorem sq_step {c d f : Nat} (hc : c < 9218868437227405312) (h : Zc c f) (g : fcmp .geq .f64 f 4598175219545276416 = true) (hd : rg .f64 (mag .f64 c - mag .f64 4598175219545276416) FloatKind.f64.format.leastPlace ≤ d) : Zc d (fbin .sub .f64 f 4598175219545276416) := by
  obtain ⟨hs, hr⟩ := gq_pos h g
  have hq : Fin .f64 4598175219545276416 := fin_lit (by decide) (by decide)
  have m1 := mag_le (k := .f64) hr
  have m2 := mag_le (k := .f64) h.2
  have e := fsub_fin h.1.1 hq
  rw [vi_pos hs, vi_pos (show sgn .f64 4598175219545276416 = false by decide), show rung .f64 4598175219545276416 = 4598175219545276416 by decide] at e
  rw [show ((mag .f64 (rung .f64 f) : Int) - (mag .f64 4598175219545276416 : Int)).natAbs = mag .f64 (rung .f64 f) - mag .f64 4598175219545276416 by omega, hs] at e
  have e2 : (if ((mag .f64 (rung .f64 f) : Nat) : Int) - ((mag .f64 4598175219545276416 : Nat) : Int) = 0 then false && !false else decide (((mag .f64 (rung .f64 f) : Nat) : Int) - ((mag .f64 4598175219545276416 : Nat) : Int) < 0)) = false := by
    split
    · rfl
    · exact decide_eq_false (by omega)
  rw [show sgn .f64 4598175219545276416 = false by decide, e2] at e
  have hle := Nat.le_trans (rg_mono .f64 (show mag .f64 (rung .f64 f) - mag .f64 4598175219545276416 ≤ mag .f64 c - mag .f64 4598175219545276416 by omega) FloatKind.f64.format.leastPlace) hd
  have hlt : rg .f64 (mag .f64 (rung .f64 f) - mag .f64 4598175219545276416) FloatKind.f64.format.leastPlace ≤ c := by
    refine Nat.le_trans (rg_mono .f64 (show mag .f64 (rung .f64 f) - mag .f64 4598175219545276416 ≤ mag .f64 c by omega) FloatKind.f64.format.leastPlace) ?_
    rw [rg_mag .f64 (by rw [inf64]; exact hc)]
    exact Nat.le_refl _
  rw [e]
  refine ⟨⟨(up_word (k := .f64) false hlt).fin (by rw [inf64]; exact hc), Or.inl (sgn_word .f64 _ (rg_sw ..))⟩, ?_⟩
  rw [rung_word .f64 _ (rg_sw ..)]
  exact hle
theorem phN_after {f : Nat} (h : Zc 4607182418800017408 f) : gq f (phN f) = false := by
  cases g0 : gq f 0
  · unfold phN; rw [g0]; exact g0
  have z1 : Zc 4604930618986332160 (sq f 1) := sq_step (by decide) h g0 (by decide +kernel)
  cases g1 : gq f 1
  · unfold phN; rw [g0, g1]; exact g1
  have z2 : Zc 4602678819172646912 (sq f 2) := sq_step (by decide) z1 g1 (by decide +kernel)
  cases g2 : gq f 2
  · unfold phN; rw [g0, g1, g2]; exact g2
  have z3 : Zc 4598175219545276416 (sq f 3) := sq_step (by decide) z2 g2 (by decide +kernel)
  cases g3 : gq f 3
  · unfold phN; rw [g0, g1, g2, g3]; exact g3
  have z4 : Zc 0 (sq f 4) := sq_step (by decide) z3 g3 (by decide +kernel)
  unfold phN
  rw [g0, g1, g2, g3]
  show gq f 4 = false
  cases g4 : gq f 4
  · rfl
  · have := (gq_pos z4 g4).2
    have := z4.2
    omega
theorem sq_zc {f : Nat} (h : Zc 4607182418800017408 f) : ∀ k, k ≤ phN f → Zc 4607182418800017408 (sq f k)
  | 0, _ => h
  | k + 1, hk => sq_step (by decide) (sq_zc h k (by omega)) (phN_before (by omega)) (by decide +kernel)
theorem frV_zc {y : Nat} (h : Up .f64 4841369599423283200 y) : Zc 4607182418800017408 (frV y) := by
  have h1 := frac_up h (by decide) w52_mag
  have hf : Fin .f64 (fbin .sub .f64 y (ef (trI y))) := h1.fin (by rw [inf64]; decide)
  unfold frV
  cases hb : fcmp .lss .f64 (fbin .sub .f64 y (ef (trI y))) 0
  · rw [if_neg (by decide)]
    refine ⟨⟨hf, ?_⟩, h1.2⟩
    rw [flt_key hf.notN (by decide), key_zero] at hb
    have hb := of_decide_eq_false hb
    unfold key sm at hb
    cases hs : sgn .f64 (fbin .sub .f64 y (ef (trI y)))
    · exact Or.inl rfl
    · rw [hs] at hb
      simp at hb
      exact Or.inr (by omega)
  · rw [if_pos rfl]
    rw [flt_key hf.notN (by decide), key_zero] at hb
    have hb := of_decide_eq_true hb
    generalize fbin .sub .f64 y (ef (trI y)) = g at *
    have hs : sgn .f64 g = true := by
      unfold key sm at hb
      cases hs : sgn .f64 g
      · rw [hs] at hb
        simp at hb
        omega
      · rfl
    have hone : Fin .f64 4607182418800017408 := fin_lit (by decide) (by decide)
    have hv : vi .f64 g = -((mag .f64 (rung .f64 g) : Nat) : Int) := by unfold vi sm; rw [hs]; rfl
    have m1 := mag_le (k := .f64) h1.2
    rw [fadd_fin hf hone, hv, vi_pos (show sgn .f64 4607182418800017408 = false by decide), show rung .f64 4607182418800017408 = 4607182418800017408 by decide]
    have hle : rg .f64 (-((mag .f64 (rung .f64 g) : Nat) : Int) + ((mag .f64 4607182418800017408 : Nat) : Int)).natAbs FloatKind.f64.format.leastPlace ≤ 4607182418800017408 := by
      refine Nat.le_trans (rg_mono .f64 (show (-((mag .f64 (rung .f64 g) : Nat) : Int) + ((mag .f64 4607182418800017408 : Nat) : Int)).natAbs ≤ mag .f64 4607182418800017408 by omega) _) ?_
      rw [rg_mag .f64 (by rw [inf64]; decide)]
      exact Nat.le_refl _
    refine ⟨⟨(up_word (k := .f64) _ hle).fin (by rw [inf64]; decide), ?_⟩, by rw [rung_word .f64 _ (rg_sw ..)]; exact hle⟩
    refine Or.inl ?_
    rw [sgn_word .f64 _ (rg_sw ..)]
    split
    · rw [show sgn .f64 4607182418800017408 = false by decide, Bool.and_false]
    · exact decide_eq_false (by omega)

/-! ### What PhasorOf gives -/
def cosV (f : Nat) : Nat := sinF (frV (fbin .sub .f64 4598175219545276416 f))
def sinV (f : Nat) : Nat := sinF (frV f)
def neV (v : Nat) : Nat := fbin .sub .f64 0 v
def phRe (f q : Nat) : Nat := if q = 1 then neV (sinV f) else if q = 2 then neV (cosV f) else if q = 3 then sinV f else cosV f
def phIm (f q : Nat) : Nat := if q = 1 then cosV f else if q = 2 then neV (sinV f) else if q = 3 then neV (cosV f) else sinV f
theorem zc_up {f : Nat} (h : Zc 4607182418800017408 f) : Up .f64 4841369599423283200 f ∧ Up .f64 4841369599423283200 (fbin .sub .f64 4598175219545276416 f) := by
  have h1 : Up .f64 4607182418800017408 f := ⟨h.1.1.1, h.2⟩
  exact ⟨h1.mono (by decide), (Up.sub (cu := 4598175219545276416) ⟨by decide, by decide⟩ h1 (by rw [inf64]; decide) (by rw [inf64]; decide) (by decide +kernel))⟩
theorem sc_up {f : Nat} (h : Zc 4607182418800017408 f) : Up .f64 (pw 110) (cosV f) ∧ Up .f64 (pw 110) (sinV f) := by
  obtain ⟨a, b⟩ := zc_up h
  exact ⟨sinF_up _ (frV_up b), sinF_up _ (frV_up a)⟩
theorem ne_up {v : Nat} (h : Up .f64 (pw 110) v) : Up .f64 (pw 111) (neV v) := Up.sub (cu := 0) ⟨by decide, by decide⟩ h (by rw [inf64]; decide) (by rw [inf64]; exact pw_inf_all ⟨110, by decide⟩) (by decide +kernel)

end Go.Proofs.Ythlocjkmbmniaaa
