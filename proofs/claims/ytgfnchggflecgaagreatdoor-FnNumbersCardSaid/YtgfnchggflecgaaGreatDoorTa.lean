/-
  DECIMAL TEXTS: what the program and the reference write. Own work; no condition beyond what each theorem names.
-/
import Derived.Test.YtgfnchggflecgaaGreatDoorWa
import Derived.Test.YtgfnchggflecgaaGreatDoorShelf
import Derived.Lib.AppendIntMem
import Derived.Lib.ItoaLen
import Derived.Lib.ItoaMem
import Derived.Lib.Hide
import Derived.Laws.IdiomStrings
import Derived.OwnWalk
import Derived.Maps.AppendAt
namespace Go.Proofs.YtgfnchggflecgaaGreatDoor
open Go.RowKit
set_option linter.unusedVariables false

/-- A goal that the walk leaves alone. -/
structure StopT (p : Prop) : Prop where
  out : p
/-- A row of bytes that the call owns. -/
def OB (w : World) (base : Nat) (g cap : Nat) (l : List UInt8) : Prop := w.ownsRow base 5 1 (.slice (some ⟨g, 0, none⟩) l.length cap) l.length (Lib.byteCells l)
theorem info_u8 : (Tryz.prog.info? 5).map (fun i => (i.zero, i.size, i.bytes)) = some (some (.int .u8 0), 1, 1) := by kernel_rfl
theorem OB.grown {w w' : World} {base g cap : Nat} {l : List UInt8} {row : Option Nat} (h : OB w base g cap l) (hg : w.grownBy w' row) (hne : row ≠ some g) : OB w' base g cap l :=
  World.ownsRow.kept h hg (Or.inr (fun e => hne e.symm))
theorem OB.below {w w' : World} {base g cap : Nat} {l : List UInt8} (h : OB w base g cap l) (hb : Below w.heap.size w w') : OB w' base g cap l :=
  h.grown ⟨hb.os, hb.tape, hb.output, hb.size, fun k hk _ => hb.block k hk⟩ (fun e => by cases e) (row := none)
theorem OB.alloc {w : World} {base g cap : Nat} {l : List UInt8} (h : OB w base g cap l) (o : Obj) : OB (w.alloc o) base g cap l := h.below ((Below.refl _ _).alloc (Nat.le_refl _) o)
theorem OB.lt {w : World} {base g cap : Nat} {l : List UInt8} (h : OB w base g cap l) : base ≤ g ∧ g < w.heap.size := World.ownsRow.lt h g rfl
theorem OB.cells {w : World} {base g cap : Nat} {l : List UInt8} (h : OB w base g cap l) : ∀ j u, (Lib.byteCells l)[j]? = some u → w.cell? ((⟨g, 0, none⟩ : Addr).add j) = some u := fun j u hu => World.ownsRow.cells h (g := g) rfl j u hu
theorem OB.new (w : World) {base : Nat} (hb : base ≤ w.heap.size) (c : UInt8) : OB (w.alloc (.cells #[.int .u8 (c.toNat : Int)] 5)) base w.heap.size 1 [c] := by
  refine ⟨rfl, Or.inr ⟨w.heap.size, 1, _, rfl, hb, heap_alloc_new w _, Nat.le_refl _, by unfold maxLen; omega, rfl, rfl⟩⟩
theorem OB.made (w : World) {base : Nat} (hb : base ≤ w.heap.size) : OB (w.alloc (.cells #[] 5)) base w.heap.size 0 [] :=
  World.ownsRow_made w #[] 0 hb (by unfold maxLen; omega) (by simp)
/-- What an append hands back. -/
theorem OB.of_app {w : World} {base : Nat} {v : Value} {l : List UInt8} {n : Nat} (hn : n = l.length) (hp : 0 < n) (h : w.ownsRow base 5 1 v n (Lib.byteCells l)) : ∃ g cap, v = .slice (some ⟨g, 0, none⟩) l.length cap ∧ OB w base g cap l := by
  subst hn
  rcases h.2 with ⟨_, h0⟩ | ⟨g, cap, cur, rfl, _⟩
  · omega
  · exact ⟨g, cap, rfl, h⟩

theorem dd_step (m : Nat) : Lib.decDigits m = (if m / 10 = 0 then [] else Lib.decDigits (m / 10)) ++ [UInt8.ofNat (48 + m % 10)] := by
  by_cases h : m < 10
  · rw [if_pos (by omega), Lib.decDigits_one h, Nat.mod_eq_of_lt h]; rfl
  · rw [if_neg (by omega)]
    conv => lhs; rw [Lib.decDigits]
    rw [dif_neg h]
/-- The digits that are written so far, and what is left. -/
def DI (u m : Nat) (l : List UInt8) : Prop := (l = [] ∧ m = u) ∨ (l ≠ [] ∧ Lib.decDigits u = (if m = 0 then [] else Lib.decDigits m) ++ l)
theorem DI.step {u m : Nat} {l : List UInt8} (h : DI u m l) (hm : l = [] ∨ m ≠ 0) : DI u (m / 10) (UInt8.ofNat (48 + m % 10) :: l) := by
  refine Or.inr ⟨by simp, ?_⟩
  rcases h with ⟨rfl, rfl⟩ | ⟨h1, h2⟩
  · exact dd_step m
  · rcases hm with hm | hm
    · exact absurd hm h1
    · rw [h2, if_neg hm, dd_step m, List.append_assoc]; rfl
theorem DI.done {u : Nat} {l : List UInt8} (h : DI u 0 l) (hl : l ≠ []) : l = Lib.decDigits u := by
  rcases h with ⟨h1, _⟩ | ⟨_, h2⟩
  · exact absurd h1 hl
  · rw [h2]; rfl
theorem DI.len {u m : Nat} {l : List UInt8} (h : DI u m l) (hu : u ≤ 9223372036854775808) : l.length ≤ 20 := by
  rcases h with ⟨rfl, _⟩ | ⟨_, h2⟩
  · simp
  · have e : l.length ≤ (Lib.decDigits u).length := by rw [h2]; simp
    have := Lib.decDigits_length u
    have h3 : Lib.nDigits u ≤ 20 := Lib.nDigits_le20 u (by omega)
    omega
def lenOf : Value → Nat | .slice _ n _ => n | _ => 0
def natOf : Value → Nat | .int _ n => n.natAbs | _ => 0
/-- The measure. -/
def mDec (o r : Value) : Nat := natOf r + (if lenOf o = 0 then 1 else 0)
theorem byteCells_cons (c : UInt8) (l : List UInt8) : [Value.int .u8 (c.toNat : Int)] ++ Lib.byteCells l = Lib.byteCells (c :: l) := rfl
theorem dig_nat (m : Nat) : ((UInt8.ofNat (48 + m % 10)).toNat : Int) = 48 + (m : Int) % 10 := by
  rw [UInt8.toNat_ofNat']
  have : 48 + m % 10 < 256 := by omega
  rw [Nat.mod_eq_of_lt this]
  omega

theorem byteCells_get (l : List UInt8) (j : Nat) (hj : j < l.length) : (Lib.byteCells l)[j]? = some (.int .u8 (l[j].toNat : Int)) := by simp [Lib.byteCells, hj]
theorem neg_mod (m : Nat) : (-(m : Int)).tmod 10 = -((m : Int) % 10) := by
  rw [Int.neg_tmod, Int.tmod_eq_emod_of_nonneg (by omega)]
theorem neg_div (m : Nat) : (-(m : Int)).tdiv 10 = -((m : Int) / 10) := by
  rw [Int.neg_tdiv, Int.tdiv_eq_ediv_of_nonneg (by omega)]
theorem byteCells_one (l : List UInt8) : ∀ u ∈ Lib.byteCells l, u.oneCell' = true := by
  intro u hu
  obtain ⟨b, _, rfl⟩ := List.mem_map.1 hu
  rfl
/-- A string of bytes. -/
def strOf (l : List UInt8) : ByteArray := ⟨l.toArray⟩
/-- The table of the powers of ten lies as it is laid, whatever is done from block 'base' on. -/
def T10 (base : Nat) (w : World) : Prop := Lib.TabBelow Tryz.prog base w "internal/strconv.uint64pow10" .u64 Lib.pow10Tab
theorem T10.on {base : Nat} {w w1 : World} (h : T10 base w) (hb : Below base w w1) : T10 base w1 := Lib.TabBelow.on h hb
end Go.Proofs.YtgfnchggflecgaaGreatDoor
