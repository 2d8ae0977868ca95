/-
  TENTHS of decibels. Own work; no condition beyond what each theorem names.
-/
import Derived.Test.YthlocjkmbmniaaaLc
import Derived.Test.YthlocjkmbmniaaaFr
namespace Go.Proofs.Ythlocjkmbmniaaa
open Go.RowKit
set_option exponentiation.threshold 2000

def flR (w : World) (x : Nat) : Nat := match FloatKind.f64.decode x with
  | .nan s t => if FloatKind.f64.format.quiet t = t then x else if (Question.extern "math.Floor,Ceil,Trunc,RoundToEven.signallingNaN kept" 2).cut (w.tape w.drawn (.extern "math.Floor,Ceil,Trunc,RoundToEven.signallingNaN kept" 2)) == 1 then x else FloatKind.f64.encode (.nan s (FloatKind.f64.format.quiet t))
  | d => FloatKind.f64.encode (d.integral .down)
def flN (x : Nat) : Nat := match FloatKind.f64.decode x with
  | .nan _ t => if FloatKind.f64.format.quiet t = t then 0 else 1
  | _ => 0
theorem flR_fin {x : Nat} (h : Fin .f64 x) (w : World) : flR w x = floorV x := by
  unfold flR floorV FloatKind.decode
  rw [h.read]
@[go_sem] theorem callFunc_archFloor (x : Nat) (w : World) : (callFunc 83 #[.float .f64 x]).run Try.prog w = .ok (.value (.float .f64 (flR w x))) (w.drewN (flN x)) := by
  rw [run_callFunc_extern Try.func83 (by kernel_rfl) (by kernel_rfl) (by kernel_rfl) (e := Extern.MathFloor.toIntegral "math.archFloor" .down) (by kernel_rfl)]
  have e : Extern.MathFloor.toIntegral "math.archFloor" .down #[.float .f64 x] = (match FloatKind.f64.decode x with
    | .nan s t =>
      if FloatKind.f64.format.quiet t = t then pure (.float .f64 x) else do
      let kept ← choose (.extern "math.Floor,Ceil,Trunc,RoundToEven.signallingNaN kept" 2)
      pure (.float .f64 (if kept == 1 then x else FloatKind.f64.encode (.nan s (FloatKind.f64.format.quiet t))))
    | d => pure (.float .f64 (FloatKind.f64.encode (d.integral .down)))) := rfl
  rw [e]
  unfold flR flN
  generalize FloatKind.f64.decode x = d
  cases d with
  | nan s t =>
    dsimp only
    by_cases hq : FloatKind.f64.format.quiet t = t
    · rw [if_pos hq, if_pos hq, if_pos hq]; rfl
    · rw [if_neg hq, if_neg hq, if_neg hq]
      simp only [Sem.run_bind, run_choose_ask (q := .extern "math.Floor,Ceil,Trunc,RoundToEven.signallingNaN kept" 2) rfl, Result.andThen, Sem.run_pure]
  | number s m i => rfl
  | infinity s => rfl
theorem Floor_any (x u : Nat) (hx : Fl .f64 x u) (hF : Fin .f64 u) (w : World) :
    Calls Try.prog 72 #[.float .f64 x] w fun e w' => (∃ r, e = .returned (.float .f64 r) ∧ Fl .f64 r (floorV u)) ∧ Dr w w' := by
  have hw := hx.word hF.notN
  subst hw
  have e := flR_fin hF
  have hfl : Fl .f64 (floorV x) (floorV x) := by
    unfold floorV FloatKind.decode FloatKind.encode
    rw [hF.read]
    exact fl_of_write (d := (Ieee.Datum.number _ _ _).integral .down) rfl
  clear hF hx
  go_enter Try.func72, Try.ntmps72
  go_wp2
  go_ret
  exact ⟨⟨_, rfl, by first | exact hfl | (rw [e]; exact hfl)⟩, _, rfl⟩
/-- The tenths, before the floor. -/
def teX (R : Nat) : Nat := fbin .add .f64 (fbin .mul .f64 (lnV R) 4631308968768463603) 4602678819172646912
def teV (u : Nat) : Int := trI (floorV (teX (fwide u)))
theorem teX_up {R : Nat} (h : 3936146074321813504 ≤ R) (h2 : R < 5183643171103440896) : Up .f64 (pw 16) (teX R) := by
  have h1 : Up .f64 (pw 15) (fbin .mul .f64 (lnV R) 4631308968768463603) := Up.mul (lnV_up h h2) (cv := 4631308968768463603) ⟨by decide, by decide⟩ (by rw [inf64]; decide) (by rw [inf64]; decide) (by decide +kernel)
  exact Up.add h1 (cv := 4602678819172646912) ⟨by decide, by decide⟩ (by rw [inf64]; exact pw_inf_all ⟨15, by decide⟩) (by rw [inf64]; decide) (by decide +kernel)
theorem teI {R : Nat} (h : 3936146074321813504 ≤ R) (h2 : R < 5183643171103440896) : Fin .f64 (teX R) ∧ floatToIntVal .f64 (floorV (teX R)) .i64 = some (trI (floorV (teX R))) := by
  have h1 := teX_up h h2
  have h3 : Up .f64 (pw 18) (floorV (teX R)) := floor_up h1 (pw_inf_all ⟨16, by decide⟩) (by decide +kernel)
  exact ⟨h1.fin (by rw [inf64]; exact pw_inf_all ⟨16, by decide⟩), toIntVal h3 (pw_inf_all ⟨18, by decide⟩) (by decide +kernel)⟩
/-- a power -/
def teB (u : Nat) : Bool := finB u && !fcmp .leq .f32 u 0
def teW (u : Nat) : Int := if teB u then teV u else 0
theorem teB_pos {u : Nat} (hu : u < 2 ^ FloatKind.f32.format.width) (h1 : finB u = true) (h2 : fcmp .leq .f32 u 0 = false) : 3936146074321813504 ≤ fwide u ∧ fwide u < 5183643171103440896 := by
  have hf := finB_Fin hu h1
  rw [fle_key hf.notN (by decide), key_zero] at h2
  have h2 := of_decide_eq_false h2
  have hr := hf.2
  rw [inf32] at hr
  unfold key sm at h2
  cases hs : sgn .f32 u
  · rw [hs] at h2
    simp at h2
    have hb := fwide_fin hr
    rw [hs, word_false] at hb
    rw [hb]
    exact ⟨wr_lo (by omega), wr_hi hr⟩
  · rw [hs] at h2
    simp at h2
set_option maxHeartbeats 400000 in
theorem TenthsOf_any (x u : Nat) (hx : Fl .f32 x u) (w : World) :
    Calls Try.prog 38 #[.float .f32 x] w fun e w' => e = .returned (.tuple #[.int .i64 (teW u), .bool (teB u)]) ∧ Dr w w' := by
  have h0 := fz32
  have HB : Hid (teB u = (finB u && !fcmp .leq .f32 u 0)) := rfl
  have HV : Hid (teW u = if teB u then teV u else 0) := rfl
  cases c1 : finB u
  · have hB := HB.out
    rw [c1] at hB
    rw [hB] at HV
    have HBB := hid hB
    clear hB HB
    go_enter Try.func38, Try.ntmps38
    go_wp2_with (first | (refine wpList_farith rfl _ _ _ _ _ rfl _ _ _ rfl rfl (by decide) (by assumption) (by assumption) ?_; intro _ _ _) | (refine wpList_fcmp rfl _ _ _ _ _ rfl _ _ _ rfl rfl (by decide) (by assumption) (by assumption) (by first | assumption | rfl) ?_) | (go_at_call 49; refine (IsFinite_any _ _ hx _).mono ?_; rw [c1]; rintro e w' ⟨rfl, n2, rfl⟩))
    go_ret2
    exact ⟨by rw [HV.out, HBB.out]; rfl, _, rfl⟩
  · cases c2 : fcmp .leq .f32 u 0
    · have hB := HB.out
      rw [c1, c2] at hB
      rw [hB] at HV
      have HBB := hid hB
      obtain ⟨lo, hi⟩ := teB_pos hx.vlt c1 c2
      obtain ⟨hF, hI⟩ := teI lo hi
      have HX : Hid (teX (fwide u) = fbin .add .f64 (fbin .mul .f64 (lnV (fwide u)) 4631308968768463603) 4602678819172646912) := rfl
      have HVV : Hid (teV u = trI (floorV (teX (fwide u)))) := rfl
      have hnn : isN .f64 (fwide u) = false := (fin_small (Nat.lt_trans hi (by decide))).1.notN
      have HN : Hid (∀ x' w, Fl .f64 x' (fwide u) → Calls Try.prog 57 #[.float .f64 x'] w fun e w' => (∃ r, e = .returned (.float .f64 r) ∧ Fl .f64 r (lnV (fwide u))) ∧ Dr w w') := fun x' w hx' => by
        rw [hx'.word hnn]; exact naturalLog_any (fwide u) lo hi w
      obtain ⟨v, hv⟩ : ∃ v, lnV (fwide u) = v := ⟨_, rfl⟩
      obtain ⟨tv, htv⟩ : ∃ tv, teX (fwide u) = tv := ⟨_, rfl⟩
      obtain ⟨T, hT⟩ : ∃ T, trI (floorV tv) = T := ⟨_, rfl⟩
      rw [hv] at HN HX
      rw [htv] at HX HVV hF hI
      rw [hT] at HVV hI
      have HX2 := hid (fun r (h : Fl .f64 r (fbin .add .f64 (fbin .mul .f64 v 4631308968768463603) 4602678819172646912)) => show Fl .f64 r tv by rw [HX.out]; exact h)
      clear hB HB hv htv hT HX lo hi hnn
      have k1 : Fl .f64 4631308968768463603 4631308968768463603 := Fl.lit (by decide) (by decide)
      have k2 : Fl .f64 4602678819172646912 4602678819172646912 := Fl.lit (by decide) (by decide)
      go_enter Try.func38, Try.ntmps38
      go_wp2_with (first | (refine wpList_farith rfl _ _ _ _ _ rfl _ _ _ rfl rfl (by decide) (by assumption) (by assumption) ?_; intro _ _ _) | (refine wpList_fcmp rfl _ _ _ _ _ rfl _ _ _ rfl rfl (by decide) (by assumption) (by assumption) (by first | assumption | rfl) ?_) | (refine wpList_fwide rfl _ _ _ rfl _ rfl (Option.isSome_iff_exists.2 ⟨_, (by with_reducible exact Try.underlying23)⟩) (by with_reducible exact Try.underlying28) (by assumption) ?_; intro _ _ _) | (refine wpList_ftoint rfl _ _ _ rfl _ rfl (Option.isSome_iff_exists.2 ⟨_, (by with_reducible exact Try.underlying28)⟩) (by with_reducible exact Try.underlying2) (by assumption) (by assumption) ?_) | (go_at_call 49; refine (IsFinite_any _ _ hx _).mono ?_; rw [c1]; rintro e w' ⟨rfl, n2, rfl⟩) | (go_at_call 57; refine (HN.out _ _ (by assumption)).mono ?_; rintro e w' ⟨⟨r3, rfl, hr3⟩, n3, rfl⟩) | (go_at_call 72; refine (Floor_any _ tv (HX2.out _ (by assumption)) hF _).mono ?_; rintro e w' ⟨⟨r4, rfl, hr4⟩, n4, rfl⟩))
      go_ret2
      exact ⟨by rw [HV.out, HBB.out]; simp only [if_true, Bool.not_false, Bool.and_self]; rw [HVV.out]; rfl, _, rfl⟩
    · have hB := HB.out
      rw [c1, c2] at hB
      rw [hB] at HV
      have HBB := hid hB
      clear hB HB
      go_enter Try.func38, Try.ntmps38
      go_wp2_with (first | (refine wpList_farith rfl _ _ _ _ _ rfl _ _ _ rfl rfl (by decide) (by assumption) (by assumption) ?_; intro _ _ _) | (refine wpList_fcmp rfl _ _ _ _ _ rfl _ _ _ rfl rfl (by decide) (by assumption) (by assumption) (by first | assumption | rfl) ?_) | (go_at_call 49; refine (IsFinite_any _ _ hx _).mono ?_; rw [c1]; rintro e w' ⟨rfl, n2, rfl⟩))
      go_ret2
      exact ⟨by rw [HV.out, HBB.out]; rfl, _, rfl⟩
theorem l01Tenths_any (x u : Nat) (hx : Fl .f32 x u) (c1 : finB u = true) (c2 : fcmp .leq .f32 u 0 = false) (w : World) :
    Calls Try.prog 71 #[.float .f32 x] w fun e w' => e = .returned (.int .i64 (teV u)) ∧ Dr w w' := by
  obtain ⟨lo, hi⟩ := teB_pos hx.vlt c1 c2
  obtain ⟨hF, hI⟩ := teI lo hi
  have HX : Hid (teX (fwide u) = fbin .add .f64 (fbin .mul .f64 (lnV (fwide u)) 4631308968768463603) 4602678819172646912) := rfl
  have HVV : Hid (teV u = trI (floorV (teX (fwide u)))) := rfl
  have hnn : isN .f64 (fwide u) = false := (fin_small (Nat.lt_trans hi (by decide))).1.notN
  have HN : Hid (∀ x' w, Fl .f64 x' (fwide u) → Calls Try.prog 81 #[.float .f64 x'] w fun e w' => (∃ r, e = .returned (.float .f64 r) ∧ Fl .f64 r (lnV (fwide u))) ∧ Dr w w') := fun x' w hx' => by
    rw [hx'.word hnn]; exact l01LogWide_any (fwide u) lo hi w
  obtain ⟨v, hv⟩ : ∃ v, lnV (fwide u) = v := ⟨_, rfl⟩
  obtain ⟨tv, htv⟩ : ∃ tv, teX (fwide u) = tv := ⟨_, rfl⟩
  obtain ⟨T, hT⟩ : ∃ T, trI (floorV tv) = T := ⟨_, rfl⟩
  rw [hv] at HN HX
  rw [htv] at HX HVV hF hI
  rw [hT] at HVV hI
  have HX2 := hid (fun r (h : Fl .f64 r (fbin .add .f64 (fbin .mul .f64 v 4631308968768463603) 4602678819172646912)) => show Fl .f64 r tv by rw [HX.out]; exact h)
  clear hv htv hT HX lo hi hnn c1 c2
  have k1 : Fl .f64 4631308968768463603 4631308968768463603 := Fl.lit (by decide) (by decide)
  have k2 : Fl .f64 4602678819172646912 4602678819172646912 := Fl.lit (by decide) (by decide)
  go_enter Try.func71, Try.ntmps71
  go_wp2_with (first | (refine wpList_farith rfl _ _ _ _ _ rfl _ _ _ rfl rfl (by decide) (by assumption) (by assumption) ?_; intro _ _ _) | (refine wpList_fcmp rfl _ _ _ _ _ rfl _ _ _ rfl rfl (by decide) (by assumption) (by assumption) (by first | assumption | rfl) ?_) | (refine wpList_fwide rfl _ _ _ rfl _ rfl (Option.isSome_iff_exists.2 ⟨_, (by with_reducible exact Try.underlying23)⟩) (by with_reducible exact Try.underlying28) (by assumption) ?_; intro _ _ _) | (refine wpList_ftoint rfl _ _ _ rfl _ rfl (Option.isSome_iff_exists.2 ⟨_, (by with_reducible exact Try.underlying28)⟩) (by with_reducible exact Try.underlying2) (by assumption) (by assumption) ?_) | (go_at_call 81; refine (HN.out _ _ (by assumption)).mono ?_; rintro e w' ⟨⟨r3, rfl, hr3⟩, n3, rfl⟩) | (go_at_call 72; refine (Floor_any _ tv (HX2.out _ (by assumption)) hF _).mono ?_; rintro e w' ⟨⟨r4, rfl, hr4⟩, n4, rfl⟩))
  go_ret
  exact ⟨by rw [HVV.out]; rfl, _, rfl⟩
theorem sTenthsOf_any (x u : Nat) (hx : Fl .f32 x u) (w : World) :
    Calls Try.prog 37 #[.float .f32 x] w fun e w' => e = .returned (.tuple #[.int .i64 (teW u), .bool (teB u)]) ∧ Dr w w' := by
  have h0 := fz32
  have HB : Hid (teB u = (finB u && !fcmp .leq .f32 u 0)) := rfl
  have HV : Hid (teW u = if teB u then teV u else 0) := rfl
  have HC := hid (fun c1 c2 w => l01Tenths_any x u hx c1 c2 w)
  obtain ⟨T, hT⟩ : ∃ T, teV u = T := ⟨_, rfl⟩
  obtain ⟨W, hW⟩ : ∃ W, teW u = W := ⟨_, rfl⟩
  rw [hT] at HV HC
  rw [hW] at HV
  rw [hW]
  clear hT hW
  cases c1 : finB u <;> cases c2 : fcmp .leq .f32 u 0
  all_goals
    have hB := HB.out
    rw [c1, c2] at hB
    rw [hB] at HV
    have HBB := hid hB
    clear hB HB
    go_enter Try.func37, Try.ntmps37
    go_wp2_with (first | (refine wpList_farith rfl _ _ _ _ _ rfl _ _ _ rfl rfl (by decide) (by assumption) (by assumption) ?_; intro _ _ _) | (refine wpList_fcmp rfl _ _ _ _ _ rfl _ _ _ rfl rfl (by decide) (by assumption) (by assumption) (by first | assumption | rfl) ?_) | (go_at_call 70; refine (l01Finite_any _ _ hx _).mono ?_; rw [c1]; rintro e w' ⟨rfl, n2, rfl⟩) | (go_at_call 71; refine (HC.out c1 c2 _).mono ?_; rintro e w' ⟨rfl, n3, rfl⟩))
    go_ret2
    exact ⟨by rw [HV.out, HBB.out]; rfl, _, rfl⟩
theorem FnExactTenthsOf_walk (a0 : Nat) (w : World) (w0 : (Lit.float .f32 a0).wf = true) :
    Calls Try.prog 12 #[.float .f32 a0] w fun e w' => e = .returned (.bool true) ∧ Below w.heap.size w w' := by
  have hx := fl_of_wf w0
  generalize nf .f32 a0 = u at hx
  have HB := hid (show ∀ w : World, _ from fun w => sTenthsOf_any _ _ hx w)
  have HC := hid (show ∀ w : World, _ from fun w => TenthsOf_any _ _ hx w)
  generalize teW u = v at HB HC
  generalize teB u = b at HB HC
  go_enter Try.func12, Try.ntmps12
  cases b
  all_goals
    go_wp2_with (first | (go_at_call 37; refine (HB.out _).mono ?_; rintro e w' ⟨rfl, n, rfl⟩) | (go_at_call 38; refine (HC.out _).mono ?_; rintro e w' ⟨rfl, n2, rfl⟩))
    go_ret
    exact ⟨rfl, below_drewN (Below.refl _ _) _⟩
end Go.Proofs.Ythlocjkmbmniaaa
