/-
  POWERS: the walk of the law. Own work; no condition beyond what each theorem names.
-/
import Derived.Test.YtfcmbmlhfejigaaPa
import Derived.Test.YtfcmbmlhfejigaaSa
namespace Go.Proofs.Ytfcmbmlhfejigaa
open Go.RowKit
set_option exponentiation.threshold 2000

theorem b10At_any (p : Option Addr) (cap : Nat) (zs : List Int) (w : World) (hs : SL (.int .u8) 0 w p zs) (hz : ∀ z ∈ zs, (Lit.int .u8 z).wf = true) (hm : zs.length ≤ 1048576) :
    ∃ m : Nat, m < 65 ∧ ∀ k, Calls Try.prog 5 #[.slice p zs.length cap, .int .i64 0, .int .i64 65] (w.drewN k) fun e w' => e = .returned (.int .i64 m) ∧ Dr (w.drewN k) w' := by
  by_cases h : 0 < zs.length
  · obtain ⟨b, off, rfl, hc⟩ := hs 0 h
    have hmem : zs.getD 0 0 ∈ zs := by
      rw [show zs.getD 0 0 = zs[0] by simp [List.getD, h]]
      exact List.getElem_mem h
    have hw := hz _ hmem
    have hb : 0 ≤ zs.getD 0 0 ∧ zs.getD 0 0 ≤ 255 := by
      simp [Lit.wf] at hw
      exact hw
    generalize zs.getD 0 0 = z at *
    obtain ⟨n, rfl⟩ : ∃ n : Nat, z = n := ⟨z.toNat, by omega⟩
    obtain ⟨hb0, hb1⟩ := hb
    refine ⟨n % 65, Nat.mod_lt _ (by decide), fun k => ?_⟩
    have hI : (0 : Int) < (zs.length : Int) := by omega
    have hc' : (w.drewN k).cell? ⟨b, off, none⟩ = some (.int .u8 n) := by simpa using hc
    clear hw hmem hz hs hc
    go_enter Try.func5, Try.ntmps5
    go_wp2
    go_ret
    exact ⟨by simp, 0, rfl⟩
  · refine ⟨11, by decide, fun k => ?_⟩
    have h0 : zs.length = 0 := by omega
    have hI : ¬ ((0 : Int) < (zs.length : Int)) := by omega
    clear hs hz
    go_enter Try.func5, Try.ntmps5
    go_wp2
    go_ret
    exact ⟨rfl, 0, rfl⟩
theorem mul_ok {i j : Nat} (hi : i < 65) (hj : j < 65) : fcmp .lss .f64 (gapV (fbin .mul .f64 (fwide (tabV.getD (i + 32) 0)) (fwide (tabV.getD (j + 32) 0))) (fwide (tabV.getD (i + j) 0))) (fbin .mul .f64 4562254508917369340 (fwide (tabV.getD (i + j) 0))) = true := mul_tab hi hj
theorem g8_of {i : Nat} (hi : i < 65) : fbin .quo .f32 (floatOfInt .f32 ((i : Int) - 32)) 1090519040 = tabG.getD (i + 32) 0 := by
  have h := g8_tab ⟨i + 32, by omega⟩
  rw [← h]
  unfold g8
  rw [show (((⟨i + 32, by omega⟩ : _root_.Fin 129).val : Nat) : Int) - 64 = (i : Int) - 32 by simp; omega]
set_option maxHeartbeats 1600000 in
theorem FnPowers_walk (a0 : Option Addr) (len0 cap0 : Nat) (z0 : List Int) (a1 : Option Addr) (len1 cap1 : Nat) (z1 : List Int) (w : World) (w0 : z0.length = len0 ∧ len0 ≤ maxLen ∧ SL (.int .u8) 0 w a0 z0 ∧ ∀ z ∈ z0, (Lit.int .u8 z).wf = true) (w1 : z1.length = len1 ∧ len1 ≤ maxLen ∧ SL (.int .u8) 0 w a1 z1 ∧ ∀ z ∈ z1, (Lit.int .u8 z).wf = true) :
    Calls Try.prog 3 #[.slice a0 len0 cap0, .slice a1 len1 cap1] w fun e w' => e = .returned (.bool true) ∧ Below w.heap.size w w' := by
  obtain ⟨rfl, hm0, hs0, hz0⟩ := w0
  obtain ⟨rfl, hm1, hs1, hz1⟩ := w1
  unfold maxLen at hm0 hm1
  have HL : Hid (∀ w : World, Calls Try.prog 4 #[.slice a0 z0.length cap0, .slice a1 z1.length cap1] w fun e w' => e = .returned (.bool (decide (1048576 < z0.length) || decide (1048576 < z1.length))) ∧ w = w') := by
    intro w
    clear hs0 hs1 hz0 hz1
    by_cases h0 : 1048576 < z0.length
    · have b0 : decide ((1048576 : Int) < z0.length) = true := decide_eq_true (by omega)
      rw [decide_eq_true h0]
      go_enter Try.func4, Try.ntmps4
      go_wp2
      go_ret
      exact ⟨by simp, rfl⟩
    · have b0 : decide ((1048576 : Int) < z0.length) = false := decide_eq_false (by omega)
      rw [decide_eq_false h0]
      by_cases h1 : 1048576 < z1.length
      · have b1 : decide ((1048576 : Int) < z1.length) = true := decide_eq_true (by omega)
        rw [decide_eq_true h1]
        go_enter Try.func4, Try.ntmps4
        go_wp2
        go_ret
        exact ⟨by simp, rfl⟩
      · have b1 : decide ((1048576 : Int) < z1.length) = false := decide_eq_false (by omega)
        rw [decide_eq_false h1]
        go_enter Try.func4, Try.ntmps4
        go_wp2
        go_ret
        exact ⟨by simp, rfl⟩
  cases hb : (decide (1048576 < z0.length) || decide (1048576 < z1.length))
  · rw [hb] at HL
    have hl : z0.length ≤ 1048576 ∧ z1.length ≤ 1048576 := by simp at hb; omega
    obtain ⟨i, hi, HI⟩ := b10At_any a0 cap0 z0 w hs0 hz0 hl.1
    obtain ⟨j, hj, HJ⟩ := b10At_any a1 cap1 z1 w hs1 hz1 hl.2
    have HI := hid HI
    have HJ := hid HJ
    have hx := hid (fun r (h : Fl .f32 r (fbin .quo .f32 (floatOfInt .f32 ((i : Int) - 32)) 1090519040)) => show Fl .f32 r (tabG.getD (i + 32) 0) by rw [← g8_of hi]; exact h)
    have hy := hid (fun r (h : Fl .f32 r (fbin .quo .f32 (floatOfInt .f32 ((j : Int) - 32)) 1090519040)) => show Fl .f32 r (tabG.getD (j + 32) 0) by rw [← g8_of hj]; exact h)
    have hxy := hid (fun r (h : Fl .f32 r (fbin .add .f32 (tabG.getD (i + 32) 0) (tabG.getD (j + 32) 0))) => show Fl .f32 r (tabG.getD (i + j) 0) by rw [← add_tab ⟨i, hi⟩ ⟨j, hj⟩]; exact h)
    have HEX := hid (fun x w (h : Fl .f32 x (tabG.getD (i + 32) 0)) => Exp_tab x (i + 32) (by omega) h w)
    have HEY := hid (fun x w (h : Fl .f32 x (tabG.getD (j + 32) 0)) => Exp_tab x (j + 32) (by omega) h w)
    have HEZ := hid (fun x w (h : Fl .f32 x (tabG.getD (i + j) 0)) => Exp_tab x (i + j) (by omega) h w)
    have HE0 : Hid (∀ w, Calls Try.prog 6 #[.float .f32 0] w fun e w' => (∃ r, e = .returned (.float .f32 r) ∧ Fl .f32 r 1065353216) ∧ Dr w w') := fun w => by
      have h := Exp_tab 0 64 (by decide) (by rw [one_tab.2.1]; exact fz32) w
      rw [one_tab.1] at h
      exact h
    have c1 := log_tab ⟨i, hi⟩
    have c2 := mul_ok hi hj
    have c3 := pos_tab ⟨i, hi⟩
    have c5 := one_tab.2.2
    dsimp only at c1 c3
    have c4 : fcmp .eql .f32 1065353216 1065353216 = true := by decide
    have f0 := fz32
    have f1 : Fl .f32 1065353216 1065353216 := Fl.lit (by decide) (by decide)
    have f8 : Fl .f32 1090519040 1090519040 := Fl.lit (by decide) (by decide)
    have fm : Fl .f64 4562254508917369340 4562254508917369340 := Fl.lit (by decide) (by decide)
    have HL1 := hid (fun w => LogNumber_any 1065353216 1065353216 f1 w)
    obtain ⟨lv, hlv⟩ : ∃ lv, logV 1065353216 = lv := ⟨_, rfl⟩
    rw [hlv] at HL1 c5
    clear hlv
    generalize tabG.getD (i + 32) 0 = gx at *
    generalize tabG.getD (j + 32) 0 = gy at *
    generalize tabG.getD (i + j) 0 = gz at *
    generalize tabV.getD (i + 32) 0 = ex at *
    generalize tabV.getD (j + 32) 0 = ey at *
    generalize tabV.getD (i + j) 0 = ez at *
    clear hs0 hs1 hz0 hz1 hl hb
    go_enter Try.func3, Try.ntmps3
    go_wp2_with (fail)
    refine (HL.out _).mono ?_
    rintro e w' ⟨rfl, rfl⟩
    go_wp2_with (fail)
    refine (HI.out 0).mono ?_
    rintro e w' ⟨rfl, n1, rfl⟩
    go_wp2_with (first | (refine wpList_fofint rfl _ _ _ rfl _ _ rfl (Option.isSome_iff_exists.2 ⟨_, (by with_reducible exact Try.underlying2)⟩) (by with_reducible exact Try.underlying27) ?_; intro _) | (refine wpList_fofint rfl _ _ _ rfl _ _ rfl (Option.isSome_iff_exists.2 ⟨_, (by with_reducible exact Try.underlying2)⟩) (by with_reducible exact Try.underlying24) ?_; intro _) | (refine wpList_fofint rfl _ _ _ rfl _ _ rfl (Option.isSome_iff_exists.2 ⟨_, (by with_reducible exact Try.underlying3)⟩) (by with_reducible exact Try.underlying27) ?_; intro _) | (refine wpList_fofint rfl _ _ _ rfl _ _ rfl (Option.isSome_iff_exists.2 ⟨_, (by with_reducible exact Try.underlying3)⟩) (by with_reducible exact Try.underlying24) ?_; intro _) | (refine wpList_farith rfl _ _ _ _ _ rfl _ _ _ rfl rfl (by decide) (by assumption) (by assumption) ?_; intro _ _ _))
    have fx := hx.out _ (by assumption)
    refine (HJ.out _).mono ?_
    rintro e w' ⟨rfl, n2, rfl⟩
    go_wp2_with (first | (refine wpList_fofint rfl _ _ _ rfl _ _ rfl (Option.isSome_iff_exists.2 ⟨_, (by with_reducible exact Try.underlying2)⟩) (by with_reducible exact Try.underlying27) ?_; intro _) | (refine wpList_fofint rfl _ _ _ rfl _ _ rfl (Option.isSome_iff_exists.2 ⟨_, (by with_reducible exact Try.underlying2)⟩) (by with_reducible exact Try.underlying24) ?_; intro _) | (refine wpList_fofint rfl _ _ _ rfl _ _ rfl (Option.isSome_iff_exists.2 ⟨_, (by with_reducible exact Try.underlying3)⟩) (by with_reducible exact Try.underlying27) ?_; intro _) | (refine wpList_fofint rfl _ _ _ rfl _ _ rfl (Option.isSome_iff_exists.2 ⟨_, (by with_reducible exact Try.underlying3)⟩) (by with_reducible exact Try.underlying24) ?_; intro _) | (refine wpList_farith rfl _ _ _ _ _ rfl _ _ _ rfl rfl (by decide) (by assumption) (by assumption) ?_; intro _ _ _))
    have fy := hy.out _ (by assumption)
    refine (HEX.out _ _ fx).mono ?_
    rintro e w' ⟨⟨ra, rfl, fa⟩, n3, rfl⟩
    go_wp2_with (fail)
    refine (HEY.out _ _ fy).mono ?_
    rintro e w' ⟨⟨rb, rfl, fb⟩, n4, rfl⟩
    go_wp2_with (first | (refine wpList_farith rfl _ _ _ _ _ rfl _ _ _ rfl rfl (by decide) (by assumption) (by assumption) ?_; intro _ _ _))
    refine (HEZ.out _ _ (hxy.out _ (by assumption))).mono ?_
    rintro e w' ⟨⟨rc, rfl, fc⟩, n5, rfl⟩
    go_wp2_with (fail)
    refine (LogNumber_any _ _ fa _).mono ?_
    rintro e w' ⟨⟨rl, rfl, fl⟩, n6, rfl⟩
    go_wp2_with (first | (refine wpList_fwide rfl _ _ _ rfl _ rfl (Option.isSome_iff_exists.2 ⟨_, (by with_reducible exact Try.underlying24)⟩) (by with_reducible exact Try.underlying27) (by assumption) ?_; intro _ _ _))
    refine (b10Gap_any _ _ _ _ (by assumption) (by assumption) _).mono ?_
    rintro e w' ⟨⟨rg1, rfl, fg1⟩, n7, rfl⟩
    go_wp2_with (first | (refine wpList_fwide rfl _ _ _ rfl _ rfl (Option.isSome_iff_exists.2 ⟨_, (by with_reducible exact Try.underlying24)⟩) (by with_reducible exact Try.underlying27) (by assumption) ?_; intro _ _ _) | (refine wpList_farith rfl _ _ _ _ _ rfl _ _ _ rfl rfl (by decide) (by assumption) (by assumption) ?_; intro _ _ _) | (refine wpList_fcmp rfl _ _ _ _ _ rfl _ _ _ rfl rfl (by decide) (by assumption) (by assumption) (by first | assumption | rfl) ?_))
    refine (b10Gap_any _ _ _ _ (by assumption) (by assumption) _).mono ?_
    rintro e w' ⟨⟨rg2, rfl, fg2⟩, n8, rfl⟩
    go_wp2_with (first | (refine wpList_fwide rfl _ _ _ rfl _ rfl (Option.isSome_iff_exists.2 ⟨_, (by with_reducible exact Try.underlying24)⟩) (by with_reducible exact Try.underlying27) (by assumption) ?_; intro _ _ _) | (refine wpList_farith rfl _ _ _ _ _ rfl _ _ _ rfl rfl (by decide) (by assumption) (by assumption) ?_; intro _ _ _) | (refine wpList_fcmp rfl _ _ _ _ _ rfl _ _ _ rfl rfl (by decide) (by assumption) (by assumption) (by first | assumption | rfl) ?_))
    refine (HE0.out _).mono ?_
    rintro e w' ⟨⟨re, rfl, fe⟩, n9, rfl⟩
    go_wp2_with (first | (refine wpList_fwide rfl _ _ _ rfl _ rfl (Option.isSome_iff_exists.2 ⟨_, (by with_reducible exact Try.underlying24)⟩) (by with_reducible exact Try.underlying27) (by assumption) ?_; intro _ _ _) | (refine wpList_farith rfl _ _ _ _ _ rfl _ _ _ rfl rfl (by decide) (by assumption) (by assumption) ?_; intro _ _ _) | (refine wpList_fcmp rfl _ _ _ _ _ rfl _ _ _ rfl rfl (by decide) (by assumption) (by assumption) (by first | assumption | rfl) ?_))
    refine (HL1.out _).mono ?_
    rintro e w' ⟨⟨ro, rfl, fo⟩, n10, rfl⟩
    go_wp2_with (first | (refine wpList_fwide rfl _ _ _ rfl _ rfl (Option.isSome_iff_exists.2 ⟨_, (by with_reducible exact Try.underlying24)⟩) (by with_reducible exact Try.underlying27) (by assumption) ?_; intro _ _ _) | (refine wpList_farith rfl _ _ _ _ _ rfl _ _ _ rfl rfl (by decide) (by assumption) (by assumption) ?_; intro _ _ _) | (refine wpList_fcmp rfl _ _ _ _ _ rfl _ _ _ rfl rfl (by decide) (by assumption) (by assumption) (by first | assumption | rfl) ?_))
    go_ret
    exact ⟨rfl, below_drewN (Below.refl _ _) _⟩
  · rw [hb] at HL
    go_enter Try.func3, Try.ntmps3
    go_wp2_with (fail)
    refine (HL.out _).mono ?_
    rintro e w' ⟨rfl, rfl⟩
    go_wp2_with (fail)
    go_ret
    exact ⟨rfl, Below.refl _ _⟩
end Go.Proofs.Ytfcmbmlhfejigaa
