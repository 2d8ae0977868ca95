/-
  LISTS OF INTEGERS AS TEXTS: the law. Own work; no condition beyond what each theorem names.
-/
import Derived.Test.YtgfnchggflecgaaDoorTe
import Derived.Test.YtgfnchggflecgaaDoorOa
namespace Go.Proofs.YtgfnchggflecgaaDoor
open Go.RowKit
set_option linter.unusedVariables false

theorem ListText_any (B : Nat) (p : Option Addr) (cap : Nat) (zs : List Int) (w : World) (hs : SL (.int .i64) 0 w p zs) (hm : zs.length ≤ 1048576) (hT : T10 B w) (hB : B ≤ w.heap.size) :
    Calls Tryd.prog 22 #[.slice p zs.length cap] w fun e w' => e = .returned (.tuple #[.string (strOf (ltV zs)), .bool (valB zs)]) ∧ Below w.heap.size w w' := by
  have HA := hid (areValues_any p cap zs w hs hm)
  have HV : Hid (ltV zs = if valB zs then jn (txs zs zs.length) else []) := rfl
  cases hv : valB zs
  · rw [hv] at HA HV
    clear hs hT
    go_enter Tryd.func22, Tryd.ntmps22
    go_wp2_with (fail)
    refine HA.out.mono ?_
    rintro e w' ⟨rfl, rfl⟩
    go_wp2_with (fail)
    go_ret2
    exact ⟨by rw [HV.out]; rfl, Below.refl _ _⟩
  · have HC := hid (listText_any B p cap zs w hs hv hT hB)
    rw [hv] at HA HV
    clear hs hT hv
    go_enter Tryd.func22, Tryd.ntmps22
    go_wp2_with (fail)
    refine HA.out.mono ?_
    rintro e w' ⟨rfl, rfl⟩
    go_wp2_with (fail)
    refine HC.out.mono ?_
    rintro e w' ⟨rfl, hb⟩
    have HBB := hid hb
    clear hb
    go_wp2_with (fail)
    go_ret2
    exact ⟨by rw [HV.out]; rfl, HBB.out⟩
theorem sListText_any (p : Option Addr) (cap : Nat) (zs : List Int) (w : World) (hs : SL (.int .i64) 0 w p zs) (hm : zs.length ≤ 1048576) :
    Calls Tryd.prog 20 #[.slice p zs.length cap] w fun e w' => e = .returned (.tuple #[.string (strOf (ltV zs)), .bool (valB zs)]) ∧ Below w.heap.size w w' := by
  have HA := hid (l01List_any p cap zs w hs hm)
  have HV : Hid (ltV zs = if valB zs then jn (txs zs zs.length) else []) := rfl
  cases hv : valB zs
  · rw [hv] at HA HV
    clear hs
    go_enter Tryd.func20, Tryd.ntmps20
    go_wp2_with (fail)
    refine HA.out.mono ?_
    rintro e w' ⟨rfl, rfl⟩
    go_wp2_with (fail)
    go_ret2
    exact ⟨by rw [HV.out]; rfl, Below.refl _ _⟩
  · have HC := hid (l01Text_any p cap zs w hs hv)
    rw [hv] at HA HV
    clear hs hv
    go_enter Tryd.func20, Tryd.ntmps20
    go_wp2_with (fail)
    refine HA.out.mono ?_
    rintro e w' ⟨rfl, rfl⟩
    go_wp2_with (fail)
    refine HC.out.mono ?_
    rintro e w' ⟨rfl, hb⟩
    have HBB := hid hb
    clear hb
    go_wp2_with (fail)
    go_ret2
    exact ⟨by rw [HV.out]; rfl, HBB.out⟩
theorem below_stepT {B : Nat} {w a b : World} (h : Below B w a) (hb : Below a.heap.size a b) (hB : B ≤ w.heap.size) : Below B w b := h.trans (hb.mono (by have := h.size; omega))
set_option maxHeartbeats 800000 in
theorem FnExactListText_walk (a0 : Option Addr) (len0 cap0 : Nat) (z0 : List Int) (w : World) (w0 : z0.length = len0 ∧ len0 ≤ maxLen ∧ SL (.int .i64) 0 w a0 z0 ∧ ∀ z ∈ z0, (Lit.int .i64 z).wf = true) (ht : T10 w.heap.size w) :
    Calls Tryd.prog 6 #[.slice a0 len0 cap0] w fun e w' => e = .returned (.bool true) ∧ Below w.heap.size w w' := by
  obtain ⟨rfl, hm0, hs0, -⟩ := w0
  unfold maxLen at hm0
  have A_0 := hid hs0
  have HT := hid ht
  clear hs0 ht
  by_cases hbig : z0.length ≤ 1048576
  · have HCS := hid (fun (p : Option Addr) cap w (hs : SL (.int .i64) 0 w p z0) => sListText_any p cap z0 w hs hbig)
    have HCI := hid (fun B (p : Option Addr) cap w (hs : SL (.int .i64) 0 w p z0) (hT : T10 B w) (hB : B ≤ w.heap.size) => ListText_any B p cap z0 w hs hbig hT hB)
    obtain ⟨S, hS⟩ : ∃ S, strOf (ltV z0) = S := ⟨_, rfl⟩
    obtain ⟨vb, hvb⟩ : ∃ v, valB z0 = v := ⟨_, rfl⟩
    rw [hS, hvb] at HCS HCI
    clear hS hvb
    have hbx : (vb != vb) = false := bne_eq_false_iff_eq.2 rfl
    go_enter Tryd.func6, Tryd.ntmps6
    go_wp2_with (fail)
    refine (toInt64S_any _ _ _ _ A_0.out hbig).mono ?_
    rintro e v1 ⟨⟨g1, rfl, hg1, ho1⟩, hb1⟩
    have B1 := hid hb1
    have F1 : Hid (OI v1 w.heap.size (.slice (some ⟨g1, 0, none⟩) z0.length z0.length) z0) := ho1
    clear ho1 hb1 hg1
    go_wp2_with (fail)
    refine (HCS.out _ _ _ (OI.sl F1.out).1).mono ?_
    rintro e v2 ⟨rfl, hb2⟩
    have B2 := hid (below_stepT B1.out hb2 (Nat.le_refl _))
    clear hb2 F1 B1
    go_wp2_with (fail)
    refine (toInt64S_any _ _ _ _ (SL.below_all A_0.out B2.out) hbig).mono ?_
    rintro e v3 ⟨⟨g3, rfl, hg3, ho3⟩, hb3⟩
    have B3 := hid (below_stepT B2.out hb3 (Nat.le_refl _))
    have F3 : Hid (OI v3 v2.heap.size (.slice (some ⟨g3, 0, none⟩) z0.length z0.length) z0) := ho3
    clear ho3 hb3 hg3 B2
    go_wp2_with (fail)
    refine (HCI.out w.heap.size _ _ _ (OI.sl F3.out).1 (T10.on HT.out B3.out) B3.out.size).mono ?_
    rintro e v4 ⟨rfl, hb4⟩
    have B4 := hid (below_stepT B3.out hb4 (Nat.le_refl _))
    have F4 := hid (OI.below F3.out hb4)
    clear hb4 F3 B3
    go_wp2_with (fail)
    refine (toInt64S_any _ _ _ _ (SL.below_all A_0.out B4.out) hbig).mono ?_
    rintro e v5 ⟨⟨g5, rfl, hg5, ho5⟩, hb5⟩
    have B5 := hid (below_stepT B4.out hb5 (Nat.le_refl _))
    have F5 : Hid (OI v5 v4.heap.size (.slice (some ⟨g5, 0, none⟩) z0.length z0.length) z0) := ho5
    have F6 := hid (OI.below F4.out hb5)
    clear ho5 hb5 hg5 F4 B4
    go_wp2_with (fail)
    refine (eqInt64S_same _ _ _ _ _ _ (OI.sl F6.out).1 (OI.sl F5.out).1 (by omega)).mono ?_
    rintro e w' ⟨rfl, n1, rfl⟩
    go_wp2_with (fail)
    go_ret
    exact ⟨rfl, below_drewN B5.out _⟩
  · go_enter Tryd.func6, Tryd.ntmps6
    go_wp2_with (fail)
    go_ret
    exact ⟨rfl, Below.refl _ _⟩
end Go.Proofs.YtgfnchggflecgaaDoor
