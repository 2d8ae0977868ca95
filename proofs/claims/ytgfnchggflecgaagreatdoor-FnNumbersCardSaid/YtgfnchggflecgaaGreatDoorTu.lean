/-
  HEXADECIMAL TEXTS THAT ARE READ: one number. Own work; no condition beyond what each theorem names.
-/
import Derived.Test.YtgfnchggflecgaaGreatDoorTt
import Derived.Test.YtgfnchggflecgaaGreatDoorTn
namespace Go.Proofs.YtgfnchggflecgaaGreatDoor
open Go.RowKit
set_option linter.unusedVariables false

theorem ParseUint_16 (B : Nat) (t : ByteArray) (h8 : t.size = 8) (w : World) (hE : EV B w) :
    Calls Tryz.prog 49 #[.string t, .int .i64 16, .int .i64 32] w fun e w' => (∃ x, e = .returned (.tuple #[.int .u64 (pnum t.data.toList : Int), x])) ∧ Below w.heap.size w w' := by
  have HC := hid (ParseUint_16i t h8 w)
  cases hp : pexV t.data.toList 0 with
  | some v =>
    have hv : pnum t.data.toList = v := by unfold pnum; rw [hp]; rfl
    rw [pTup_some hp] at HC
    rw [hv]
    clear hp hv hE
    go_enter Tryz.func49, Tryz.ntmps49
    go_wp2_with (fail)
    refine HC.out.mono ?_
    rintro e w' ⟨rfl, hb⟩
    have HB := hid hb
    clear hb
    go_wp2_with (fail)
    go_ret2
    exact ⟨⟨_, rfl⟩, HB.out⟩
  | none =>
    have hv : pnum t.data.toList = 0 := by unfold pnum; rw [hp]; rfl
    rw [pTup_none hp] at HC
    rw [hv]
    obtain ⟨⟨tp, p, h1⟩, _, h3, _⟩ := hE
    have hcell : w.cell? ⟨2, 0, none⟩ = some (.iface tp p) := by have h0 := World.var?_cell gSyn h1 0; simpa using h0
    have hlt := World.block_lt_of_cell? w _ hcell
    have HCELL := hid hcell
    have HLT := hid hlt
    clear hp hv h1 h3 hcell hlt
    go_enter Tryz.func49, Tryz.ntmps49
    go_wp2_with (fail)
    refine HC.out.mono ?_
    rintro e w1 ⟨rfl, hb⟩
    have HB := hid hb
    have HC2 := hid (Tryz.strconv_toError_syntax ⟨#[80, 97, 114, 115, 101, 85, 105, 110, 116]⟩ t 16 32 (.iface tp p) w1 (by omega) ((hb.cell (p := ⟨_, _, _⟩) HLT.out).trans HCELL.out) (Or.inr ⟨tp, p, rfl⟩))
    clear hb
    go_wp2_with (fail)
    refine HC2.out.mono ?_
    rintro e w2 ⟨N, rfl, _, _, hb2⟩
    have HB2 := hid (HB.out.trans (hb2.mono HB.out.size))
    clear hb2
    go_wp2_with (fail)
    go_ret2
    exact ⟨⟨_, rfl⟩, HB2.out⟩
theorem readHex_any (B : Nat) (t : ByteArray) (h8 : t.size = 8) (w : World) (hE : EV B w) :
    Calls Tryz.prog 33 #[.string t] w fun e w' => e = .returned (.float .f32 (pnum t.data.toList)) ∧ Below w.heap.size w w' := by
  have HC := hid (ParseUint_16 B t h8 w hE)
  have hn : pnum t.data.toList < 4294967296 := pnum_lt (by rw [← Lib.size_eq]; exact h8)
  generalize pnum t.data.toList = n at *
  clear hE
  go_enter Tryz.func33, Tryz.ntmps33
  go_wp2_with (fail)
  refine HC.out.mono ?_
  rintro e w1 ⟨⟨x, rfl⟩, hb⟩
  have HB := hid hb
  clear hb
  go_wp2_with (fail)
  go_ret
  exact ⟨rfl, HB.out⟩
end Go.Proofs.YtgfnchggflecgaaGreatDoor
