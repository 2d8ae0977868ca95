/-
  THE REFERENCE's DRAWN NUMBERS. Own work; no condition beyond what each theorem names.
-/
import Derived.Test.YtgfnchggflecgaaGreatDoorNb
namespace Go.Proofs.YtgfnchggflecgaaGreatDoor
open Go.RowKit
set_option linter.unusedVariables false

theorem sl_new (w : World) (t : TypeId) (ys : List Int) : SL (.int .i64) 0 (w.alloc (.cells (ys.map (Value.int .i64)).toArray t)) (some ⟨w.heap.size, 0, none⟩) ys := by
  intro i hi
  refine ⟨w.heap.size, 0, rfl, ?_⟩
  rw [Nat.zero_add, World.cell?_alloc_new]
  simp [List.getD, hi]
def ten : List Int := [0, 2147483648, 2139095040, 4286578688, 2143289344, 1, 2139095039, 8388608, 8388607, 2147483649]
def four : List Int := [8388608, 2130706432, 1610612736, 536870912]
set_option maxHeartbeats 1600000 in
theorem l01DrawFloat_any (base b : Nat) (p : Option Addr) (cap : Nat) (zs : List Int) (N : Nat) (hN : N ≤ 100000) (w : World) (h : SR base w b p cap zs N) :
    Calls Tryz.prog 24 #[.pointer (some ⟨b, 0, none⟩)] w fun e w' => (∃ r : Nat, e = .returned (.float .f32 r) ∧ r < 4294967296) ∧ SK base w w' b p cap zs (N + 12) := by
  have HO := hid (one_any base b p cap zs N (by omega) 12 (by omega) (by omega) w h)
  have HP2 := hid (fun w (h : SR base w b p cap zs (N + 2)) => l01DrawPlain_any base b p cap zs (N + 2) (by omega) w h)
  have HK2 := hid (fun n (h1 : (2 : Int) ≤ n) (h2 : n ≤ 65536) w (h : SR base w b p cap zs (N + 2)) => pick_any base b p cap zs (N + 2) (by omega) n h1 h2 w h)
  have HK4 := hid (fun n (h1 : (2 : Int) ≤ n) (h2 : n ≤ 65536) w (h : SR base w b p cap zs (N + 4)) => pick_any base b p cap zs (N + 4) (by omega) n h1 h2 w h)
  have HK6 := hid (fun n (h1 : (2 : Int) ≤ n) (h2 : n ≤ 65536) w (h : SR base w b p cap zs (N + 6)) => pick_any base b p cap zs (N + 6) (by omega) n h1 h2 w h)
  have HA4 := hid (fun q ys (hl : 2 ≤ ys.length) (hm : ys.length ≤ 100) (hr : ∀ y ∈ ys, (0 : Int) ≤ y ∧ y ≤ 4294967295) w (h : SR base w b p cap zs (N + 4)) (hy : SL (.int .i64) 0 w q ys) (hq : ∀ a, q = some a → a.block ≠ b) c2 => among_any base b p cap zs (N + 4) (by omega) q c2 ys w h hy hl hm hq hr)
  have HP4 := hid (fun w (h : SR base w b p cap zs (N + 4)) => l01DrawPlain_any base b p cap zs (N + 4) (by omega) w h)
  have HA8 := hid (fun q ys (hl : 2 ≤ ys.length) (hm : ys.length ≤ 100) (hr : ∀ y ∈ ys, (0 : Int) ≤ y ∧ y ≤ 4294967295) w (h : SR base w b p cap zs (N + 8)) (hy : SL (.int .i64) 0 w q ys) (hq : ∀ a, q = some a → a.block ≠ b) c2 => among_any base b p cap zs (N + 8) (by omega) q c2 ys w h hy hl hm hq hr)
  have HFR := hid (fun n (h0 : (0 : Int) ≤ n) (h1 : n ≤ 4294967295) w => l01From_any n h0 h1 w)
  clear h
  go_enter Tryz.func24, Tryz.ntmps24
  go_wp2_with (fail)
  refine HO.out.mono ?_
  rintro e w1 ⟨⟨bb, rfl⟩, hs1, hg1⟩
  have HS1 := hid hs1
  have HG1 := hid hg1
  clear hs1 hg1
  cases bb
  · go_wp2_with (fail)
    refine (HP2.out _ HS1.out).mono ?_
    rintro e w2 ⟨⟨r, rfl, hr⟩, hs2, hg2⟩
    have HS2 := hid hs2
    have HG2 := hid (HG1.out.trans hg2)
    clear hs2 hg2
    go_wp2_with (fail)
    go_ret
    exact ⟨⟨r, rfl, hr⟩, HS2.out.mono (by omega), HG2.out⟩
  · go_wp2_with (fail)
    refine (HK2.out 4 (by omega) (by omega) _ HS1.out).mono ?_
    rintro e w2 ⟨⟨d, hd, rfl⟩, hs2, hg2⟩
    have HS2 := hid hs2
    have HG2 := hid (HG1.out.trans hg2)
    clear hs2 hg2
    have hd4 : d = 0 ∨ d = 1 ∨ d = 2 ∨ d = 3 := by omega
    rcases hd4 with rfl | rfl | rfl | rfl
    · have HSA := hid (HS2.out.below ((Below.refl w2.heap.size w2).alloc (Nat.le_refl _) (.cells (ten.map (Value.int .i64)).toArray 2)))
      have HY := hid (sl_new w2 2 ten)
      have hbl : w2.heap.size ≠ b := by have := HS2.out.2.2.2.2.2.2.1; omega
      have HA := hid (HA4.out _ ten (by decide) (by decide) (by decide) _ HSA.out HY.out (fun a ha => by cases ha; exact hbl) 10)
      have HGA := hid (HG2.out.trans (World.grownBy_alloc w2 (.cells (ten.map (Value.int .i64)).toArray 2) (some b)))
      go_wp2_with (fail)
      refine HA.out.mono ?_
      rintro e w3 ⟨⟨r, hr, rfl⟩, hs3, hg3⟩
      have HS3 := hid hs3
      have HG3 := hid (HGA.out.trans hg3)
      clear hs3 hg3
      go_wp2_with (fail)
      refine (HFR.out _ (by omega) (by omega) _).mono ?_
      rintro e w4 ⟨rfl, rfl⟩
      go_wp2_with (fail)
      go_ret
      exact ⟨⟨r, rfl, by omega⟩, HS3.out.mono (by omega), HG3.out⟩
    · go_wp2_with (fail)
      refine (HK4.out 65536 (by omega) (by omega) _ HS2.out).mono ?_
      rintro e w3 ⟨⟨r, hr, rfl⟩, hs3, hg3⟩
      have HS3 := hid hs3
      have HG3 := hid (HG2.out.trans hg3)
      clear hs3 hg3
      go_wp2_with (fail)
      refine (HK6.out 65536 (by omega) (by omega) _ HS3.out).mono ?_
      rintro e w4 ⟨⟨r2, hr2, rfl⟩, hs4, hg4⟩
      have HS4 := hid hs4
      have HG4 := hid (HG3.out.trans hg4)
      clear hs4 hg4
      go_wp2_with (fail)
      refine (HFR.out _ (by omega) (by omega) _).mono ?_
      rintro e w5 ⟨rfl, rfl⟩
      go_wp2_with (fail)
      go_ret
      exact ⟨⟨_, rfl, by omega⟩, HS4.out.mono (by omega), HG4.out⟩
    · go_wp2_with (fail)
      refine (HK4.out 65536 (by omega) (by omega) _ HS2.out).mono ?_
      rintro e w3 ⟨⟨r, hr, rfl⟩, hs3, hg3⟩
      have HS3 := hid hs3
      have HG3 := hid (HG2.out.trans hg3)
      clear hs3 hg3
      go_wp2_with (fail)
      refine (HFR.out _ (by omega) (by omega) _).mono ?_
      rintro e w5 ⟨rfl, rfl⟩
      go_wp2_with (fail)
      go_ret
      exact ⟨⟨_, rfl, by omega⟩, HS3.out.mono (by omega), HG3.out⟩
    · go_wp2_with (fail)
      refine (HP4.out _ HS2.out).mono ?_
      rintro e w3 ⟨⟨r, rfl, hr⟩, hs3, hg3⟩
      have HS3 := hid hs3
      have HG3 := hid (HG2.out.trans hg3)
      have f1 : Fl .f32 r (nf .f32 r) := Fl.self (k := .f32) hr
      clear hs3 hg3
      have HSA := hid (HS3.out.below ((Below.refl w3.heap.size w3).alloc (Nat.le_refl _) (.cells (four.map (Value.int .i64)).toArray 2)))
      have HY := hid (sl_new w3 2 four)
      have hbl : w3.heap.size ≠ b := by have := HS3.out.2.2.2.2.2.2.1; omega
      have HA := hid (HA8.out _ four (by decide) (by decide) (by decide) _ HSA.out HY.out (fun a ha => by cases ha; exact hbl) 4)
      have HGA := hid (HG3.out.trans (World.grownBy_alloc w3 (.cells (four.map (Value.int .i64)).toArray 2) (some b)))
      go_wp2_with (fail)
      refine HA.out.mono ?_
      rintro e w4 ⟨⟨r2, hr2, rfl⟩, hs4, hg4⟩
      have HS4 := hid hs4
      have HG4 := hid (HGA.out.trans hg4)
      have f2 : Fl .f32 r2 (nf .f32 r2) := Fl.self (k := .f32) (show r2 < 4294967296 by omega)
      clear hs4 hg4
      go_wp2_with (fail)
      refine (HFR.out _ (by omega) (by omega) _).mono ?_
      rintro e w5 ⟨rfl, rfl⟩
      rw [Int.toNat_natCast]
      go_wp2_with (first | (refine wpList_farith rfl _ _ _ _ _ rfl _ _ _ rfl rfl (by decide) (by assumption) (by assumption) ?_; intro _ _ _))
      go_ret
      exact ⟨⟨_, rfl, Fl.lt (by assumption)⟩, (HS4.out.drewN _).mono (by omega), HG4.out.trans (grown_drewN _ _ _)⟩
set_option maxHeartbeats 1600000 in
theorem B10Number_any (p : Option Addr) (cap : Nat) (zs : List Int) (w : World) (hS : SL (.int .u8) 0 w p zs) (hz : ∀ z ∈ zs, 0 ≤ z ∧ z ≤ 255) (hm : zs.length ≤ 1048576) :
    Calls Tryz.prog 5 #[.slice p zs.length cap] w fun e w' => (∃ r : Nat, e = .returned (.float .f32 r) ∧ r < 4294967296) ∧ Below w.heap.size w w' := by
  have HF := hid (l00From_any p cap zs w hS hz hm)
  clear hS hz
  go_enter Tryz.func5, Tryz.ntmps5
  go_wp2_with (fail)
  refine HF.out.mono ?_
  rintro e w0 ⟨⟨b, rfl, hs0⟩, hb0⟩
  have HS0 := hid hs0
  have HB0 := hid hb0
  have hbb : w.heap.size ≤ b := hs0.2.2.2.2.2.1
  have hws : w.heap.size ≤ w0.heap.size := hb0.size
  have HO := hid (one_any w.heap.size b p cap zs 0 (by omega) 2 (by omega) (by omega) w0 hs0)
  clear hs0 hb0
  go_wp2_with (fail)
  refine HO.out.mono ?_
  rintro e w1 ⟨⟨bb, rfl⟩, hs1, hg1⟩
  have HS1 := hid hs1
  have HG1 := hid hg1
  have HFR := hid (fun n (h0 : (0 : Int) ≤ n) (h1 : n ≤ 4294967295) w => l01From_any n h0 h1 w)
  have fin : ∀ w', w0.grownBy w' (some b) → Below w.heap.size w w' := fun w' h => HB0.out.grown h hws (fun k hk => by cases hk; exact hbb)
  have FIN := hid fin
  clear hs1 hg1 fin
  cases bb
  · have HD := hid (l01DrawFloat_any w.heap.size b p cap zs 2 (by omega) w1 HS1.out)
    go_wp2_with (fail)
    refine HD.out.mono ?_
    rintro e w2 ⟨⟨r, rfl, hr⟩, hs2, hg2⟩
    have HX := hid (FIN.out _ (HG1.out.trans hg2))
    clear hs2 hg2
    go_wp2_with (fail)
    go_ret
    exact ⟨⟨r, rfl, hr⟩, HX.out⟩
  · have HK := hid (pick_any w.heap.size b p cap zs 2 (by omega) 65536 (by omega) (by omega) w1 HS1.out)
    have HK2 := hid (fun w2 (h : SR w.heap.size w2 b p cap zs 4) => pick_any w.heap.size b p cap zs 4 (by omega) 65536 (by omega) (by omega) w2 h)
    go_wp2_with (fail)
    refine HK.out.mono ?_
    rintro e w3 ⟨⟨r, hr, rfl⟩, hs3, hg3⟩
    have HS3 := hid hs3
    have HG3 := hid (HG1.out.trans hg3)
    clear hs3 hg3
    go_wp2_with (fail)
    refine (HK2.out _ HS3.out).mono ?_
    rintro e w4 ⟨⟨r2, hr2, rfl⟩, hs4, hg4⟩
    have HX := hid (FIN.out _ (HG3.out.trans hg4))
    clear hs4 hg4
    go_wp2_with (fail)
    refine (HFR.out _ (by omega) (by omega) _).mono ?_
    rintro e w5 ⟨rfl, rfl⟩
    go_wp2_with (fail)
    go_ret
    exact ⟨⟨_, rfl, by omega⟩, HX.out⟩
end Go.Proofs.YtgfnchggflecgaaGreatDoor
