/-
  LIBRARY FUNCTIONS of float64 (roots, NaN, infinities), the narrowing function, RootNumber. Own work; no condition beyond what each theorem names.
-/
import Derived.Test.YtgfnchggflecgaaGreatDoorWc
import Derived.Test.YtgfnchggflecgaaGreatDoorFm
namespace Go.Proofs.YtgfnchggflecgaaGreatDoor
open Go.RowKit

/-! ### Roots -/
def sqR (w : World) (x : Nat) : Nat := match FloatKind.f64.format.sqrt x with | some r => r | none => (Question.nanBits .f64 x x).cut (w.tape w.drawn (.nanBits .f64 x x))
def sqN (x : Nat) : Nat := match FloatKind.f64.format.sqrt x with | some _ => 0 | none => 1
theorem sqrt_nan {x : Nat} (h : isN .f64 x = true) : FloatKind.f64.format.sqrt x = none := by
  obtain ⟨s, t, hr⟩ := read_nan h
  unfold Ieee.Format.sqrt
  rw [hr]; rfl
theorem fl_sqR {x u : Nat} (hx : Fl .f64 x u) (w : World) : Fl .f64 (sqR w x) (fsqrt u) := by
  have e : FloatKind.f64.format.sqrt u = FloatKind.f64.format.sqrt x := by
    cases hn : isN .f64 u
    · rw [hx.word hn]
    · rw [sqrt_nan hn, sqrt_nan (by rw [← hx.nanEq]; exact hn)]
  unfold sqR fsqrt
  rw [e]
  cases h : FloatKind.f64.format.sqrt x with
  | some r => exact ⟨FloatKind.f64.format.map_write_lt h, nf_not (isN_sqrt h)⟩
  | none => exact ⟨(isN_cut_bits ..).2, nf_nan (isN_cut_bits ..).1⟩
@[go_sem] theorem callFunc_sqrt (x : Nat) (w : World) : (callFunc 51 #[.float .f64 x]).run Tryz.prog w = .ok (.value (.float .f64 (sqR w x))) (w.drewN (sqN x)) := by
  rw [run_callFunc_extern Tryz.func51 (by kernel_rfl) (by kernel_rfl) (by kernel_rfl) (e := Extern.MathSqrt.sqrt) (by kernel_rfl)]
  have e : Extern.MathSqrt.sqrt #[.float .f64 x] = (match FloatKind.f64.format.sqrt x with
    | some r => pure (.float .f64 r)
    | none => do pure (.float .f64 (← choose (.nanBits .f64 x x)))) := rfl
  rw [e]
  unfold sqR sqN
  cases h : FloatKind.f64.format.sqrt x with
  | some r => rfl
  | none => simp only [Sem.run_bind, run_choose_ask (q := .nanBits .f64 x x) rfl, Result.andThen, Sem.run_pure]
theorem Sqrt_any (x u : Nat) (hx : Fl .f64 x u) (w : World) :
    Calls Tryz.prog 38 #[.float .f64 x] w fun e w' => (∃ r, e = .returned (.float .f64 r) ∧ Fl .f64 r (fsqrt u)) ∧ Dr w w' := by
  have h := fl_sqR hx w
  go_enter Tryz.func38, Tryz.ntmps38
  go_wp2
  go_ret
  exact ⟨⟨_, rfl, h⟩, _, rfl⟩
theorem NaN_any (w : World) : Calls Tryz.prog 37 #[] w fun e w' => e = .returned (.float .f64 9221120237041090561) ∧ w = w' := by
  go_enter Tryz.func37, Tryz.ntmps37
  go_wp2
  go_ret
  exact ⟨rfl, rfl⟩

/-! ### RootNumber -/
theorem narrowOk_nan {u : Nat} (h : isN .f64 u = true) : NarrowOk u := by
  intro s m e hr
  unfold isN at h; rw [hr] at h; cases h
theorem narrowOk_inf {u : Nat} (h : rung .f64 u = FloatKind.f64.format.infRung) : NarrowOk u := by
  intro s m e hr
  rw [read_inf h] at hr; cases hr
theorem nan_nanW : NarrowOk (nanW .f64) := narrowOk_nan (isN_nanW .f64)

def rootV (u : Nat) : Nat := fnarrow (fsqrt (fwide u))
theorem rootOk (u : Nat) (_hu : u < 2 ^ FloatKind.f32.format.width) : NarrowOk (fsqrt (fwide u)) := by
  cases hn : isN .f32 u
  · rcases Nat.lt_or_eq_of_le (notN hn) with h | h
    · rw [inf32] at h
      have hb := bd_fwide h
      by_cases hs : sgn .f64 (fwide u) = false
      · exact narrowOk_bd (Bd.sqrt hb (by decide) hs 1090 (by decide) (by decide)).1 (by decide)
      · have hs' : sgn .f64 (fwide u) = true := by cases h2 : sgn .f64 (fwide u) <;> simp_all
        have hr := read_bd (k := .f64) hb (by decide)
        unfold fsqrt Ieee.Format.sqrt
        rw [hr, hs']
        simp only [Ieee.Datum.root]
        by_cases h0 : sig .f64 (rung .f64 (fwide u)) = 0
        · rw [if_pos h0, h0]
          simp only [Option.map_some, Option.getD_some]
          refine narrowOk_bd (N := 3) ?_ (by decide)
          show Bd .f64 3 (FloatKind.f64.format.nearest _ _ _)
          exact bd_nearest (N := 2) _ (fun h => absurd rfl h) (by decide)
        · rw [if_neg h0]
          exact nan_nanW
    · rw [inf32] at h
      have e := fwide_inf h
      have hr : rung .f64 (fwide u) = FloatKind.f64.format.infRung := by
        rw [e, rung_word _ _ (by decide)]; rfl
      have hs := read_inf hr
      unfold fsqrt Ieee.Format.sqrt
      rw [hs]
      simp only [Ieee.Datum.root]
      split
      · exact nan_nanW
      · exact narrowOk_inf (rung_word .f64 _ (by decide))
  · rw [fwide_nan hn]
    unfold fsqrt
    rw [sqrt_nan (by decide)]
    exact nan_nanW

end Go.Proofs.YtgfnchggflecgaaGreatDoor
