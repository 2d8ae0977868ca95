/-
  LISTS OF INTEGERS AS TEXTS: the walks. Own work; no condition beyond what each theorem names.
-/
import Derived.Test.YtgfnchggflecgaaGreatDoorTd
namespace Go.Proofs.YtgfnchggflecgaaGreatDoor
open Go.RowKit
set_option linter.unusedVariables false

/-- A row of strings that the call owns. -/
def OS (w : World) (base : Nat) (g cap : Nat) (l : List ByteArray) : Prop := w.ownsRow base 9 1 (.slice (some ⟨g, 0, none⟩) l.length cap) l.length (l.map .string)
theorem info_str : (Tryz.prog.info? 9).map (fun i => (i.zero, i.size, i.bytes)) = some (some (.string ByteArray.empty), 1, 16) := by kernel_rfl
theorem OS.grown {w w' : World} {base g cap : Nat} {l : List ByteArray} {row : Option Nat} (h : OS w base g cap l) (hg : w.grownBy w' row) (hne : row ≠ some g) : OS w' base g cap l :=
  World.ownsRow.kept h hg (Or.inr (fun e => hne e.symm))
theorem OS.below {w w' : World} {base g cap : Nat} {l : List ByteArray} (h : OS w base g cap l) (hb : Below w.heap.size w w') : OS w' base g cap l :=
  h.grown ⟨hb.os, hb.tape, hb.output, hb.size, fun k hk _ => hb.block k hk⟩ (fun e => by cases e) (row := none)
theorem OS.lt {w : World} {base g cap : Nat} {l : List ByteArray} (h : OS w base g cap l) : base ≤ g ∧ g < w.heap.size := World.ownsRow.lt h g rfl
theorem OS.cells {w : World} {base g cap : Nat} {l : List ByteArray} (h : OS w base g cap l) : ∀ (j : Nat) x, l[j]? = some x → w.cell? ⟨g, 0 + j, none⟩ = some (.string x) := fun j x hx => by
  have h1 := World.ownsRow.cells h (g := g) rfl j (.string x) (by simp [hx])
  have hadd : (⟨g, 0, none⟩ : Addr).add j = ⟨g, j, none⟩ := by unfold Addr.add; split <;> simp_all
  rw [hadd] at h1
  rw [Nat.zero_add]
  exact h1
theorem OS.alloc {w : World} {base g cap : Nat} {l : List ByteArray} (h : OS w base g cap l) (o : Obj) : OS (w.alloc o) base g cap l := h.below ((Below.refl _ _).alloc (Nat.le_refl _) o)
theorem OS.made (w : World) {base : Nat} (hb : base ≤ w.heap.size) : OS (w.alloc (.cells #[] 9)) base w.heap.size 0 [] :=
  World.ownsRow_made w #[] 0 hb (by unfold maxLen; omega) (by simp)
theorem OS.of_app {w : World} {base : Nat} {v : Value} {l : List ByteArray} {x : ByteArray} (h : w.ownsRow base 9 1 v (l.length + 1) (l.map .string ++ [.string x])) : ∃ g cap, v = .slice (some ⟨g, 0, none⟩) (l.length + 1) cap ∧ OS w base g cap (l ++ [x]) := by
  rcases h.2 with ⟨_, h0⟩ | ⟨g, cap, cur, rfl, _⟩
  · omega
  · refine ⟨g, cap, rfl, ?_⟩
    unfold OS
    rw [List.length_append, List.map_append]
    exact h
theorem OS.cap {w : World} {base g cap : Nat} {l : List ByteArray} (h : OS w base g cap l) : l.length ≤ cap := by
  rcases h.2 with ⟨h0, _⟩ | ⟨g', cap', cur, h0, _, _, hc, _⟩
  · cases h0
  · cases h0; exact hc
theorem joined_any (base g cap : Nat) (l : List (List UInt8)) (w : World) (h : OS w base g cap (l.map strOf)) (hm : l.length ≤ 1048576) (hl : (Lib.join l [44]).length ≤ 1073741824) :
    Calls Tryz.prog 31 #[.slice (some ⟨g, 0, none⟩) l.length cap] w fun e w' => e = .returned (.string (strOf (jn l))) ∧ Below w.heap.size w w' := by
  have hlm : (l.map strOf).length = l.length := List.length_map ..
  by_cases h0 : l = []
  · subst h0
    have HJ : Hid (jn [] = noneL) := rfl
    clear h hl
    go_enter Tryz.func31, Tryz.ntmps31
    go_wp2
    go_ret
    exact ⟨by rw [HJ.out]; rfl, Below.refl _ _⟩
  · have HJ : Hid (jn l = Lib.join l [44]) := by unfold Hid jn; rw [if_neg h0]
    have hz : ((l.length : Int) == 0) = false := by
      have : l.length ≠ 0 := fun e => h0 (List.length_eq_zero_iff.1 e)
      simpa using this
    have hmap : (l.map strOf).map (fun x => x.data.toList) = l := by
      rw [List.map_map]
      exact (List.map_congr_left fun x _ => by simp [strOf]).trans (List.map_id l)
    have HC : Hid (Calls Tryz.prog 47 #[.slice (some ⟨g, 0, none⟩) l.length cap, .string ⟨#[44]⟩] w fun e w' => e = .returned (.string (strOf (Lib.join l [44]))) ∧ Below w.heap.size w w') := by
      have hj := Tryz.strings_Join g 0 cap (l.map strOf) ⟨#[44]⟩ w (OS.cells h) (OS.lt h).2 (by omega) (OS.cap h) (by rw [hmap]; show (Lib.join l [44]).length ≤ _; omega)
      rw [hmap, hlm] at hj
      exact hj
    clear h hl hlm hmap
    go_enter Tryz.func31, Tryz.ntmps31
    go_wp2_with (fail)
    refine HC.out.mono ?_
    rintro e w' ⟨rfl, hb⟩
    have HB := hid hb
    clear hb
    go_wp2_with (fail)
    go_ret
    exact ⟨by rw [HJ.out]; rfl, HB.out⟩
end Go.Proofs.YtgfnchggflecgaaGreatDoor
