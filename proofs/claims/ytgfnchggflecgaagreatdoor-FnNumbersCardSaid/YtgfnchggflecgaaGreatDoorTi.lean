/-
  DECIMAL TEXTS THAT ARE READ: the walks. Own work; no condition beyond what each theorem names.
-/
import Derived.Test.YtgfnchggflecgaaGreatDoorTg
import Derived.Test.YtgfnchggflecgaaGreatDoorWd
namespace Go.Proofs.YtgfnchggflecgaaGreatDoor
open Go.RowKit
set_option linter.unusedVariables false

/-- The library's two error variables hold errors, whatever is done from block 'base' on. -/
def EV (base : Nat) (w : World) : Prop :=
  (∃ tp p, w.var? Tryz.prog "strconv.ErrSyntax" = some #[.iface tp p]) ∧ (∃ tp p, w.var? Tryz.prog "strconv.ErrRange" = some #[.iface tp p]) ∧ 2 < base ∧ 3 < base
theorem gSyn : Tryz.prog.globalNamed "strconv.ErrSyntax" = some 2 := by kernel_rfl
theorem gRan : Tryz.prog.globalNamed "strconv.ErrRange" = some 3 := by kernel_rfl
theorem var?_below {P : Program} {base g : Nat} {w w1 : World} {n : String} {cs : Array Value} (hg : P.globalNamed n = some g) (hl : g < base) (hb : Below base w w1) (h : w.var? P n = some cs) : w1.var? P n = some cs := by
  unfold World.var? at h ⊢
  simp only [hg, Option.bind_some] at h ⊢
  rw [hb.block g hl]
  exact h
theorem EV.on {base : Nat} {w w1 : World} (h : EV base w) (hb : Below base w w1) : EV base w1 := by
  obtain ⟨⟨a, b, h1⟩, ⟨c, d, h2⟩, h3, h4⟩ := h
  exact ⟨⟨a, b, var?_below gSyn h3 hb h1⟩, ⟨c, d, var?_below gRan h4 hb h2⟩, h3, h4⟩
theorem below_bytes (w w' : World) (h : w' = w ∨ ∃ t, w' = Lib.bytesWorld w 5 t) : Below w.heap.size w w' := by
  rcases h with rfl | ⟨t, rfl⟩
  · exact Below.refl _ _
  · exact Lib.bytesWorld_below _ _ _

theorem strOf_eq (l : List UInt8) (s : ByteArray) : strOf l = s ↔ l = s.data.toList := by
  unfold strOf
  constructor
  · rintro rfl; rfl
  · intro h
    rw [h]


theorem strq_t {l : List UInt8} {s : ByteArray} (h : l = s.data.toList) : ((strOf l).toList == s.toList) = true := by rw [(strOf_eq l s).2 h]; simp
theorem strq_f {l : List UInt8} {s : ByteArray} (h : l ≠ s.data.toList) : ((strOf l).toList == s.toList) = false := by
  rw [Lib.toList_data, Lib.toList_data]
  exact beq_eq_false_iff_ne.2 h

/-- What a reader of decimal texts hands back. -/
def rdT (l : List UInt8) : Value := .tuple #[.int .i64 ((rd l).getD 0), .bool (rd l).isSome]
theorem rdT_none {l : List UInt8} (h : rd l = none) : rdT l = .tuple #[.int .i64 0, .bool false] := by unfold rdT; rw [h]; rfl
theorem rdT_some {l : List UInt8} {v : Int} (h : rd l = some v) : rdT l = .tuple #[.int .i64 v, .bool true] := by unfold rdT; rw [h]; rfl

/-- A byte of a string, for the walk to take. -/
theorem idx_str (s : ByteArray) (k : Nat) (hk : k < s.size) (W : World) : (Instr.index 9 (.string s) (.int .i64 (k : Int))).run Tryz.prog W = .ok (.int .u8 ((s[k].toNat : Nat) : Int)) W := by
  rw [run_index_string W 9 s .i64 _ Tryz.underlying9, dif_pos ⟨by omega, by omega⟩]
  have e : ((k : Int)).toNat = k := by omega
  simp only [e]
end Go.Proofs.YtgfnchggflecgaaGreatDoor
