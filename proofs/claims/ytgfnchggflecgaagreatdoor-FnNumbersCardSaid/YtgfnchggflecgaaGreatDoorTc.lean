/-
  WHAT THE LISTED VARIABLES GIVE THE WALKS. Own work; no condition beyond what each theorem names.
-/
import Derived.Test.YtgfnchggflecgaaGreatDoorTa
import Derived.MakeChecks
import Derived.Lib.LaidTab
import Derived.LaidMore
namespace Go.Proofs.YtgfnchggflecgaaGreatDoor
open Go.RowKit
set_option linter.unusedVariables false

theorem laidMet_tail {P : Program} {x : String × DataW Unit} {l : List (String × DataW Unit)} {W : World} (h : laidMet P (x :: l) W) : laidMet P l W := by
  obtain ⟨ps, ⟨g, t, cs, f, p, q, _, _, _, _, hq, rfl⟩, hn, hb⟩ := h
  exact ⟨q, hq, (List.nodup_append.1 hn).2.1, fun b off hm => hb b off (List.mem_append_right _ hm)⟩
theorem gPow : Tryz.prog.globalNamed "internal/strconv.uint64pow10" = some 1 := by kernel_rfl
theorem t10_of_laid {x y : String × DataW Unit} {l : List (String × DataW Unit)} {W : World} (h : laidMet Tryz.prog (x :: y :: ("internal/strconv.uint64pow10", Lib.tabData .u64 Lib.pow10Tab) :: l) W) : T10 W.heap.size W := by
  have h2 := laidMet_tail (laidMet_tail h)
  exact Lib.tabBelow_of_tabIs (Lib.tabIs_of_head (t := 115) (e := 64) gPow (by kernel_rfl) Tryz.underlying115 Tryz.underlying64 (by kernel_rfl) (by kernel_rfl) h2)
end Go.Proofs.YtgfnchggflecgaaGreatDoor
