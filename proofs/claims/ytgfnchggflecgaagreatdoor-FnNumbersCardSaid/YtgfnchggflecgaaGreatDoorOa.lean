/-
  ROWS THAT A CALL OWNS: what is read of them, marked in them, held in them. Own work; no condition beyond what each theorem names.
-/
import Derived.Test.YtgfnchggflecgaaGreatDoorSc
import Derived.Test.YtgfnchggflecgaaGreatDoorSb
import Derived.Maps.AppendAt
import Derived.Deep.Onto
namespace Go.Proofs.YtgfnchggflecgaaGreatDoor
open Go.RowKit
attribute [local go_sem] run_store_float opS fineS givesS

/-- v owns the numbers rs, in blocks from 'base' on. -/
def OF (w : World) (base : Nat) (v : Value) (rs : List Nat) : Prop := w.ownsRow base 24 1 v rs.length (rs.map (.float .f32)) ∧ ∀ z ∈ rs, z < 4294967296
/-- .. of integers. -/
def OI (w : World) (base : Nat) (v : Value) (rs : List Int) : Prop := w.ownsRow base 2 1 v rs.length (rs.map (.int .i64))

theorem grown_below {w w' : World} (h : Below w.heap.size w w') (row : Option Nat) : w.grownBy w' row := ⟨h.os, h.tape, h.output, h.size, fun k hk _ => h.block k hk⟩
theorem grown_drewN (w : World) (n : Nat) (row : Option Nat) : w.grownBy (w.drewN n) row := grown_below (below_drewN (Below.refl _ _) n) row

theorem own_slice {w : World} {base : Nat} {e : TypeId} {α : Type} {f : α → Value} {v : Value} {rs : List α} (h : w.ownsRow base e 1 v rs.length (rs.map f)) (d : α) :
    ∃ p cap, v = .slice p rs.length cap ∧ SL f d w p rs := by
  rcases h.2 with ⟨hv, hn⟩ | ⟨g, cap, cur, hv, _⟩
  · refine ⟨none, 0, by rw [hv, hn], ?_⟩
    have : rs = [] := List.length_eq_zero_iff.1 hn
    subst this
    exact SL.nil f d w none
  · subst hv
    exact ⟨_, cap, rfl, SL.own (d := d) h⟩
theorem SL.grown {α : Type} {f : α → Value} {d : α} {w w' : World} {p : Option Addr} {zs : List α} {row : Option Nat} (h : SL f d w p zs) (hg : w.grownBy w' row) (hr : zs ≠ [] → ∀ a, p = some a → some a.block ≠ row) : SL f d w' p zs := by
  by_cases hz : zs = []
  · subst hz; exact SL.nil f d w' p
  · exact h.kept fun a ha => hg.block a.block (h.lt hz a ha) (hr hz a ha)

theorem OF.kept {w w' : World} {base : Nat} {v : Value} {rs : List Nat} {row : Option Nat} (h : OF w base v rs) (hg : w.grownBy w' row) (hne : v.ownBlock = none ∨ v.ownBlock ≠ row) : OF w' base v rs := ⟨h.1.kept hg hne, h.2⟩
theorem OI.kept {w w' : World} {base : Nat} {v : Value} {rs : List Int} {row : Option Nat} (h : OI w base v rs) (hg : w.grownBy w' row) (hne : v.ownBlock = none ∨ v.ownBlock ≠ row) : OI w' base v rs := World.ownsRow.kept h hg hne
theorem OF.below {w w' : World} {base : Nat} {v : Value} {rs : List Nat} (h : OF w base v rs) (hb : Below w.heap.size w w') : OF w' base v rs := by
  refine h.kept (grown_below hb none) ?_
  cases hv : v.ownBlock
  · exact Or.inl rfl
  · exact Or.inr (by simp)
theorem OI.below {w w' : World} {base : Nat} {v : Value} {rs : List Int} (h : OI w base v rs) (hb : Below w.heap.size w w') : OI w' base v rs := by
  refine h.kept (grown_below hb none) ?_
  cases hv : v.ownBlock
  · exact Or.inl rfl
  · exact Or.inr (by simp)
theorem OF.drewN {w : World} {base : Nat} {v : Value} {rs : List Nat} (h : OF w base v rs) (n : Nat) : OF (w.drewN n) base v rs := h
theorem OI.drewN {w : World} {base : Nat} {v : Value} {rs : List Int} (h : OI w base v rs) (n : Nat) : OI (w.drewN n) base v rs := h
/-- Two rows apart: one lies below the other's base. -/
theorem apart_lt {w w2 : World} {base base2 : Nat} {e e2 : TypeId} {v v2 : Value} {n n2 : Nat} {xs ys : List Value} (h : w.ownsRow base e 1 v n xs) (h2 : w2.ownsRow base2 e2 1 v2 n2 ys) (hb : w.heap.size ≤ base2) : v.ownBlock = none ∨ v.ownBlock ≠ v2.ownBlock := by
  cases hv : v.ownBlock with
  | none => exact Or.inl rfl
  | some k =>
    refine Or.inr fun he => ?_
    have h1 := (h.lt k hv).2
    have h3 := (h2.lt k he.symm).1
    omega
theorem apart_gt {w w2 : World} {base base2 : Nat} {e e2 : TypeId} {v v2 : Value} {n n2 : Nat} {xs ys : List Value} (h : w.ownsRow base e 1 v n xs) (h2 : w2.ownsRow base2 e2 1 v2 n2 ys) (hb : w.heap.size ≤ base2) : v2.ownBlock = none ∨ v2.ownBlock ≠ v.ownBlock := by
  cases hv : v2.ownBlock with
  | none => exact Or.inl rfl
  | some k =>
    refine Or.inr fun he => ?_
    have h1 := (h.lt k he.symm).2
    have h3 := (h2.lt k hv).1
    omega

/-- An argument of elder days is kept where a row of one's own is written. -/
theorem SL.mark {α : Type} {f : α → Value} {d : α} {w w' : World} {p : Option Addr} {zs : List α} {B base n : Nat} {e : TypeId} {v : Value} {xs : List Value} (h : SL f d w p zs) (hl : zs ≠ [] → ∀ a, p = some a → a.block < B) (ho : w.ownsRow base e 1 v n xs) (hb : B ≤ base) (hg : w.grownBy w' v.ownBlock) : SL f d w' p zs :=
  h.grown hg fun hz a ha he => by
    have h1 := hl hz a ha
    have h2 := (ho.lt a.block he.symm).1
    omega
theorem OF.sl {w : World} {base n cap : Nat} {p : Option Addr} {rs : List Nat} (h : OF w base (.slice p n cap) rs) : SL (.float .f32) 0 w p rs ∧ n = rs.length := by
  obtain ⟨p', cap', he, hs⟩ := own_slice h.1 0
  cases he
  exact ⟨hs, rfl⟩
theorem OI.sl {w : World} {base n cap : Nat} {p : Option Addr} {rs : List Int} (h : OI w base (.slice p n cap) rs) : SL (.int .i64) 0 w p rs ∧ n = rs.length := by
  obtain ⟨p', cap', he, hs⟩ := own_slice h 0
  cases he
  exact ⟨hs, rfl⟩
theorem OF.form {w : World} {base : Nat} {v : Value} {rs : List Nat} (h : OF w base v rs) : ∃ p cap, v = .slice p rs.length cap := by
  obtain ⟨p', cap', he, hs⟩ := own_slice h.1 0
  exact ⟨p', cap', he⟩
theorem OI.form {w : World} {base : Nat} {v : Value} {rs : List Int} (h : OI w base v rs) : ∃ p cap, v = .slice p rs.length cap := by
  obtain ⟨p', cap', he, hs⟩ := own_slice h 0
  exact ⟨p', cap', he⟩
theorem below_mark {B base n : Nat} {a w w' : World} {e : TypeId} {v : Value} {xs : List Value} (h : Below B a w) (hw : B ≤ w.heap.size) (ho : w.ownsRow base e 1 v n xs) (hb : B ≤ base) (hg : w.grownBy w' v.ownBlock) : Below B a w' :=
  h.grown hg hw fun k hk => Nat.le_trans hb (ho.lt k hk).1

theorem grown_setCell {a w : World} {row : Option Nat} (h : a.grownBy w row) {p : Addr} (hp : row = some p.block) (u : Value) : a.grownBy (w.setCell p u) row := by
  refine ⟨h.os, h.tape, h.output, ?_, fun k hk hne => ?_⟩
  · have := h.size; simpa using this
  · rw [Below.heap_setCell w p u k (fun e => by subst e; exact hne hp.symm)]
    exact h.block k hk hne

/-- The marks. -/
def marksF (m : Int) (n : Nat) : List Nat := (List.range n).map fun (j : Nat) => floatOfInt .f32 (m + (j : Int))
def marksI (m : Int) (n : Nat) : List Int := (List.range n).map fun (j : Nat) => m + (j : Int)
theorem marksF_len (m : Int) (n : Nat) : (marksF m n).length = n := by simp [marksF]
theorem marksI_len (m : Int) (n : Nat) : (marksI m n).length = n := by simp [marksI]
theorem mark_set {α : Type} (g : Nat → α) (rs : List α) (k : Nat) (hk : k < rs.length) : ((List.range k).map g ++ rs.drop k).set k (g k) = (List.range (k + 1)).map g ++ rs.drop (k + 1) := by
  rw [List.range_succ, List.map_append, List.append_assoc, List.set_append_right _ _ (by simp)]
  simp only [List.length_map, List.length_range, Nat.sub_self]
  congr 1
  rw [List.drop_eq_getElem_cons hk]
  rfl
theorem isN_ofInt (k : FloatKind) (n : Int) : isN k (floatOfInt k n) = false := isN_write k (d := .number (n < 0) n.natAbs 0) rfl
theorem marksF_lt (m : Int) (n : Nat) : ∀ z ∈ marksF m n, z < 4294967296 := by
  intro z hz
  unfold marksF at hz
  obtain ⟨j, _, rfl⟩ := List.mem_map.1 hz
  exact (fl_ofInt .f32 _).lt

end Go.Proofs.YtgfnchggflecgaaGreatDoor
