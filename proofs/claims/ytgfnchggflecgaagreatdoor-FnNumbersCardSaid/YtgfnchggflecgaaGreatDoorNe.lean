/-
  WHAT THE LAW ON NUMBERS CALLS BESIDES. Own work; no condition beyond what each theorem names.
-/
import Derived.Test.YtgfnchggflecgaaGreatDoorNd
import Derived.Test.YtgfnchggflecgaaGreatDoorLg
import Derived.Test.YtgfnchggflecgaaGreatDoorNa
import Derived.Laws.Cover3
namespace Go.Proofs.YtgfnchggflecgaaGreatDoor
open Go.RowKit
set_option linter.unusedVariables false

theorem B10Numbers_any (p : Option Addr) (cap : Nat) (cs : List Int) (m : Nat) (hm : m ≤ 11) (w : World) (hS : SL (.int .u8) 0 w p cs) (hz : ∀ z ∈ cs, 0 ≤ z ∧ z ≤ 255) (hl : cs.length ≤ 1048576) :
    Calls Tryz.prog 9 #[.slice p cs.length cap, .int .i64 (m : Int)] w fun e w' => (∃ v zs, e = .returned v ∧ OF w' w.heap.size v zs ∧ zs.length = m) ∧ Below w.heap.size w w' := by
  have HF := hid (l00From_any p cap cs w hS hz hl)
  clear hS hz
  go_enter Tryz.func9, Tryz.ntmps9
  go_wp2_with (fail)
  refine HF.out.mono ?_
  rintro e w0 ⟨⟨b, rfl, hs0⟩, hb0⟩
  have HB0 := hid hb0
  have hws : w.heap.size ≤ w0.heap.size := hb0.size
  have HC := hid (l01DrawFloats_any w.heap.size b p cap cs m hm w0 hs0 hws)
  clear hs0 hb0
  go_wp2_with (fail)
  refine HC.out.mono ?_
  rintro e w1 ⟨⟨v, zs, rfl, ho, hzl⟩, hb1⟩
  obtain ⟨q, c, rfl⟩ := ho.form
  have HO := hid ho
  have HB1 := hid (HB0.out.trans hb1)
  have HZ := hid hzl
  clear ho hb1 hzl
  go_wp2_with (fail)
  go_ret
  refine ⟨⟨_, zs, rfl, ⟨?_, HO.out.2⟩, HZ.out⟩, HB1.out⟩
  refine ⟨HO.out.1.1, ?_⟩
  rcases HO.out.1.2 with h1 | ⟨g, cap, cur, h1, h2, h3⟩
  · exact Or.inl h1
  · exact Or.inr ⟨g, cap, cur, h1, Nat.le_trans hws h2, h3⟩
set_option maxHeartbeats 400000 in
theorem b10At_any (p : Option Addr) (cap : Nat) (cs : List Int) (w : World) (hS : SL (.int .u8) 0 w p cs) (hz : ∀ z ∈ cs, 0 ≤ z ∧ z ≤ 255) (hl : cs.length ≤ 1048576) :
    Calls Tryz.prog 10 #[.slice p cs.length cap, .int .i64 0, .int .i64 12] w fun e w' => (∃ m : Nat, m ≤ 11 ∧ e = .returned (.int .i64 (m : Int))) ∧ w = w' := by
  have HS := hid hS
  have HZ := hid hz
  clear hS hz
  by_cases h0 : 0 < cs.length
  · obtain ⟨b, off, rfl, hc⟩ := HS.out 0 h0
    rw [Nat.add_zero] at hc
    have hI : (0 : Int) < (cs.length : Int) := by omega
    have hzb := HZ.out (cs.getD 0 0) (by simp [List.getD, h0])
    generalize cs.getD 0 0 = z at *
    have HM : Hid (z % 12 = ((z % 12).toNat : Int) ∧ (z % 12).toNat ≤ 11) := ⟨by omega, by omega⟩
    go_enter Tryz.func10, Tryz.ntmps10
    go_wp2
    go_ret
    exact ⟨⟨(z % 12).toNat, HM.out.2, by rw [← HM.out.1]; rfl⟩, rfl⟩
  · have hI : ¬ (0 : Int) < (cs.length : Int) := by omega
    go_enter Tryz.func10, Tryz.ntmps10
    go_wp2
    go_ret
    exact ⟨⟨11, by omega, rfl⟩, rfl⟩
theorem b10Long_any (p q : Option Addr) (n m c1 c2 : Nat) (w : World) (hn : n ≤ maxLen) (hm : m ≤ maxLen) :
    Calls Tryz.prog 4 #[.slice p n c1, .slice q m c2] w fun e w' => e = .returned (.bool (decide (1048576 < n) || decide (1048576 < m))) ∧ w = w' := by
  by_cases h1 : 1048576 < n
  · rw [decide_eq_true h1]
    go_enter Tryz.func4, Tryz.ntmps4
    go_wp2
    go_ret
    exact ⟨rfl, rfl⟩
  · rw [decide_eq_false h1]
    have hd1 : decide ((1048576 : Int) < (n : Int)) = false := decide_eq_false (by omega)
    by_cases h2 : 1048576 < m
    · rw [decide_eq_true h2]
      have hd2 : decide ((1048576 : Int) < (m : Int)) = true := decide_eq_true (by omega)
      go_enter Tryz.func4, Tryz.ntmps4
      go_wp2
      go_ret
      exact ⟨rfl, rfl⟩
    · rw [decide_eq_false h2]
      have hd2 : decide ((1048576 : Int) < (m : Int)) = false := decide_eq_false (by omega)
      go_enter Tryz.func4, Tryz.ntmps4
      go_wp2
      go_ret
      exact ⟨rfl, rfl⟩
theorem NarrowNumber_any (x u : Nat) (hx : Fl .f64 x u) (hok : NarrowOk u) (w : World) :
    Calls Tryz.prog 18 #[.float .f64 x] w fun e w' => (∃ r, e = .returned (.float .f32 r) ∧ Fl .f32 r (fnarrow u)) ∧ Dr w w' := by
  go_enter Tryz.func18, Tryz.ntmps18
  go_wp2_with (first | (refine wpList_fnarrow rfl _ _ _ rfl _ rfl (Option.isSome_iff_exists.2 ⟨_, (by with_reducible exact Tryz.underlying44)⟩) (by with_reducible exact Tryz.underlying24) (by assumption) (by assumption) ?_; intro _ _ _))
  go_ret
  exact ⟨⟨_, rfl, by assumption⟩, _, rfl⟩
theorem AngleOf_any (a b x y : Nat) (fx : Fl .f32 a x) (fy : Fl .f32 b y) (w : World) :
    Calls Tryz.prog 17 #[.complex .f32 a b] w fun e w' => (∃ r, e = .returned (.float .f32 r) ∧ Fl .f32 r (angT y x)) ∧ Dr w w' := by
  have HC := hid (AngleTurns_any b a y x fy fx w)
  go_enter Tryz.func17, Tryz.ntmps17
  go_wp2_with (fail)
  refine HC.out.mono ?_
  rintro e w1 ⟨⟨r, rfl, hr⟩, n, rfl⟩
  go_wp2_with (fail)
  go_ret
  exact ⟨⟨r, rfl, hr⟩, n, rfl⟩
end Go.Proofs.YtgfnchggflecgaaGreatDoor
