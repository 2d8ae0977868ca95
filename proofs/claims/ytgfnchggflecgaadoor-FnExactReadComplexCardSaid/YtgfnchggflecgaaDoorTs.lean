/-
  LISTS OF NUMBERS AS TEXTS: the law. Own work; no condition beyond what each theorem names.
-/
import Derived.Test.YtgfnchggflecgaaDoorTr
import Derived.Test.YtgfnchggflecgaaDoorTc
import Derived.Test.YtgfnchggflecgaaDoorOa
import Derived.Test.YtgfnchggflecgaaDoorTf
namespace Go.Proofs.YtgfnchggflecgaaDoor
open Go.RowKit
set_option linter.unusedVariables false

def db64 : List Int := [0, 1, 56, 2, 57, 49, 28, 3, 61, 58, 42, 50, 38, 29, 17, 4, 62, 47, 59, 36, 45, 43, 51, 22, 53, 39, 33, 30, 24, 18, 12, 5, 63, 55, 48, 27, 60, 41, 37, 16, 46, 35, 44, 21, 52, 32, 23, 11, 54, 26, 40, 15, 34, 20, 31, 10, 25, 14, 19, 9, 13, 8, 7, 6]
theorem gDb : Tryd.prog.globalNamed "math/bits.deBruijn64tab" = some 6 := by kernel_rfl
theorem d15_of_laid {x : String × DataW Unit} {l : List (String × DataW Unit)} {W : World} (h : laidMet Tryd.prog (x :: ("math/bits.deBruijn64tab", Lib.tabData .u8 db64) :: l) W) : D15 W.heap.size W := by
  have h2 := laidMet_tail h
  have ht := Lib.tabIs_of_head (t := 131) (e := 5) gDb (by kernel_rfl) Tryd.underlying131 Tryd.underlying5 (by kernel_rfl) (by kernel_rfl) h2
  have hc := ht.cell gDb 15 (by decide)
  exact ⟨hc, World.block_lt_of_cell? W _ hc⟩
set_option maxHeartbeats 800000 in
theorem FnExactNumbersText_walk (a0 : Option Addr) (len0 cap0 : Nat) (z0 : List Nat) (w : World) (w0 : z0.length = len0 ∧ len0 ≤ maxLen ∧ SL (.float .f32) 0 w a0 z0 ∧ ∀ z ∈ z0, z < 4294967296) (ht : D15 w.heap.size w) :
    Calls Tryd.prog 7 #[.slice a0 len0 cap0] w fun e w' => e = .returned (.bool true) ∧ Below w.heap.size w w' := by
  obtain ⟨rfl, hm0, hs0, hz0⟩ := w0
  unfold maxLen at hm0
  have A_0 := hid hs0
  have HZ := hid hz0
  have HT := hid ht
  clear hs0 ht hz0
  by_cases hbig : z0.length ≤ 1048576
  · have HCS := hid (fun (p : Option Addr) cap w (hs : SL (.float .f32) 0 w p z0) => sNumbersText_any p cap z0 w hs HZ.out hbig)
    have HCI := hid (fun B (p : Option Addr) cap w (hs : SL (.float .f32) 0 w p z0) (hT : D15 B w) (hB : B ≤ w.heap.size) => NumbersText_any B p cap z0 w hs HZ.out hbig hT hB)
    obtain ⟨S, hS⟩ : ∃ S, strOf (ntL (us z0)) = S := ⟨_, rfl⟩
    obtain ⟨vb, hvb⟩ : ∃ v, decide (z0.length ≤ 256) = v := ⟨_, rfl⟩
    rw [hS, hvb] at HCS HCI
    clear hS hvb
    have hbx : (vb != vb) = false := bne_eq_false_iff_eq.2 rfl
    go_enter Tryd.func7, Tryd.ntmps7
    go_wp2_with (fail)
    refine (toFloat32S_any _ _ _ _ A_0.out hbig).mono ?_
    rintro e v1 ⟨⟨g1, rfl, hg1, ho1⟩, hb1⟩
    have B1 := hid hb1
    have F1 : Hid (OF v1 w.heap.size (.slice (some ⟨g1, 0, none⟩) z0.length z0.length) z0) := ⟨ho1, HZ.out⟩
    clear ho1 hb1 hg1
    go_wp2_with (fail)
    refine (HCS.out _ _ _ (OF.sl F1.out).1).mono ?_
    rintro e v2 ⟨rfl, hb2⟩
    have B2 := hid (below_stepT B1.out hb2 (Nat.le_refl _))
    clear hb2 F1 B1
    go_wp2_with (fail)
    refine (toFloat32S_any _ _ _ _ (SL.below_all A_0.out B2.out) hbig).mono ?_
    rintro e v3 ⟨⟨g3, rfl, hg3, ho3⟩, hb3⟩
    have B3 := hid (below_stepT B2.out hb3 (Nat.le_refl _))
    have F3 : Hid (OF v3 v2.heap.size (.slice (some ⟨g3, 0, none⟩) z0.length z0.length) z0) := ⟨ho3, HZ.out⟩
    clear ho3 hb3 hg3 B2
    go_wp2_with (fail)
    refine (HCI.out w.heap.size _ _ _ (OF.sl F3.out).1 (HT.out.on B3.out) B3.out.size).mono ?_
    rintro e v4 ⟨rfl, hb4⟩
    have B4 := hid (below_stepT B3.out hb4 (Nat.le_refl _))
    have F4 := hid (OF.below F3.out hb4)
    clear hb4 F3 B3
    go_wp2_with (fail)
    refine (toFloat32S_any _ _ _ _ (SL.below_all A_0.out B4.out) hbig).mono ?_
    rintro e v5 ⟨⟨g5, rfl, hg5, ho5⟩, hb5⟩
    have B5 := hid (below_stepT B4.out hb5 (Nat.le_refl _))
    have F5 : Hid (OF v5 v4.heap.size (.slice (some ⟨g5, 0, none⟩) z0.length z0.length) z0) := ⟨ho5, HZ.out⟩
    have F6 := hid (OF.below F4.out hb5)
    clear ho5 hb5 hg5 F4 B4
    go_wp2_with (fail)
    refine (eqFloat32S_same _ _ _ _ _ _ _ (OF.sl F6.out).1 (OF.sl F5.out).1 HZ.out HZ.out rfl (by omega) _ rfl).mono ?_
    rintro e w' ⟨rfl, n1, rfl⟩
    go_wp2_with (fail)
    go_ret
    exact ⟨rfl, below_drewN B5.out _⟩
  · go_enter Tryd.func7, Tryd.ntmps7
    go_wp2_with (fail)
    go_ret
    exact ⟨rfl, Below.refl _ _⟩
end Go.Proofs.YtgfnchggflecgaaDoor
