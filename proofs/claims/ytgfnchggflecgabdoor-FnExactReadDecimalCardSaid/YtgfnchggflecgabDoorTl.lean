/-
  DECIMAL TEXTS THAT ARE READ: the law. Own work; no condition beyond what each theorem names.
-/
import Derived.Test.YtgfnchggflecgabDoorTk
import Derived.Test.YtgfnchggflecgabDoorTn
namespace Go.Proofs.YtgfnchggflecgabDoor
open Go.RowKit
set_option linter.unusedVariables false

theorem sReadDecimal_any (s : ByteArray) (w : World) (hs : s.size ≤ 1048576) :
    Calls Tryd.prog 5 #[.string s] w fun e w' => e = .returned (rdT s.data.toList) ∧ Below w.heap.size w w' := by
  have HC := hid (l01Value_any s w hs)
  have HR : Hid (rdT s.data.toList = .tuple #[.int .i64 ((rd s.data.toList).getD 0), .bool (rd s.data.toList).isSome]) := rfl
  rw [HR.out] at HC
  rw [HR.out]
  clear HR
  generalize (rd s.data.toList).getD 0 = n at *
  generalize (rd s.data.toList).isSome = b at *
  go_enter Tryd.func5, Tryd.ntmps5
  go_wp2_with (fail)
  refine HC.out.mono ?_
  rintro e w' ⟨rfl, hb⟩
  have HBB := hid hb
  clear hb
  go_wp2_with (fail)
  go_ret2
  exact ⟨rfl, HBB.out⟩
theorem FnExactReadDecimal_walk (a0 : ByteArray) (w : World) (w0 : a0.size ≤ maxLen) (ht : T10 w.heap.size w) (he : EV w.heap.size w) :
    Calls Tryd.prog 3 #[.string a0] w fun e w' => e = .returned (.bool true) ∧ Below w.heap.size w w' := by
  have HT := hid ht
  have HE := hid he
  unfold maxLen at w0
  clear ht he
  by_cases hbig : a0.size ≤ 1048576
  · have HA := hid (fun w => sReadDecimal_any a0 w hbig)
    have HC := hid (fun B w (hT : T10 B w) (hE : EV B w) (hB : B ≤ w.heap.size) => ReadDecimal_any B a0 hbig w hT hE hB)
    have HR : Hid (rdT a0.data.toList = .tuple #[.int .i64 ((rd a0.data.toList).getD 0), .bool (rd a0.data.toList).isSome]) := rfl
    rw [HR.out] at HA HC
    clear HR
    generalize (rd a0.data.toList).getD 0 = n at *
    generalize (rd a0.data.toList).isSome = b at *
    have hnn : (n != n) = false := bne_eq_false_iff_eq.2 rfl
    have hbb : (b != b) = false := bne_eq_false_iff_eq.2 rfl
    go_enter Tryd.func3, Tryd.ntmps3
    go_wp2_with (fail)
    refine (HA.out _).mono ?_
    rintro e w1 ⟨rfl, hb1⟩
    have HB1 := hid hb1
    clear hb1
    go_wp2_with (fail)
    refine (HC.out _ _ (HT.out.on HB1.out) (HE.out.on HB1.out) HB1.out.size).mono ?_
    rintro e w2 ⟨rfl, hb2⟩
    have HB2 := hid (HB1.out.trans (hb2.mono HB1.out.size))
    clear hb2
    go_wp2_with (fail)
    go_ret
    exact ⟨rfl, HB2.out⟩
  · go_enter Tryd.func3, Tryd.ntmps3
    go_wp2_with (fail)
    go_ret
    exact ⟨rfl, Below.refl _ _⟩
end Go.Proofs.YtgfnchggflecgabDoor
