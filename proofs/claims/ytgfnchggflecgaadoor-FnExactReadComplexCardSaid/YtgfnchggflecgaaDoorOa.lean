/-
  ROWS THAT A CALL OWNS: what is read of them, marked in them, held in them. Own work; no condition beyond what each theorem names.
-/
import Derived.Test.YtgfnchggflecgaaDoorSc
import Derived.Test.YtgfnchggflecgaaDoorSb
import Derived.Maps.AppendAt
import Derived.Deep.Onto
namespace Go.Proofs.YtgfnchggflecgaaDoor
open Go.RowKit
attribute [local go_sem] run_store_float opS fineS givesS

/-- v owns the numbers rs, in blocks from 'base' on. -/
def OF (w : World) (base : Nat) (v : Value) (rs : List Nat) : Prop := w.ownsRow base 46 1 v rs.length (rs.map (.float .f32)) ∧ ∀ z ∈ rs, z < 4294967296
/-- .. of integers. -/
def OI (w : World) (base : Nat) (v : Value) (rs : List Int) : Prop := w.ownsRow base 2 1 v rs.length (rs.map (.int .i64))

theorem grown_below {w w' : World} (h : Below w.heap.size w w') (row : Option Nat) : w.grownBy w' row := ⟨h.os, h.tape, h.output, h.size, fun k hk _ => h.block k hk⟩
theorem grown_drewN (w : World) (n : Nat) (row : Option Nat) : w.grownBy (w.drewN n) row := grown_below (below_drewN (Below.refl _ _) n) row

theorem own_slice {w : World} {base : Nat} {e : TypeId} {α : Type} {f : α → Value} {v : Value} {rs : List α} (h : w.ownsRow base e 1 v rs.length (rs.map f)) (d : α) :
    ∃ p cap, v = .slice p rs.length cap ∧ SL f d w p rs := by
  rcases h.2 with ⟨hv, hn⟩ | ⟨g, cap, cur, hv, _⟩
  · refine ⟨none, 0, by rw [hv, hn], ?_⟩
    have : rs = [] := List.length_eq_zero_iff.1 hn
    subst this
    exact SL.nil f d w none
  · subst hv
    exact ⟨_, cap, rfl, SL.own (d := d) h⟩
theorem SL.grown {α : Type} {f : α → Value} {d : α} {w w' : World} {p : Option Addr} {zs : List α} {row : Option Nat} (h : SL f d w p zs) (hg : w.grownBy w' row) (hr : zs ≠ [] → ∀ a, p = some a → some a.block ≠ row) : SL f d w' p zs := by
  by_cases hz : zs = []
  · subst hz; exact SL.nil f d w' p
  · exact h.kept fun a ha => hg.block a.block (h.lt hz a ha) (hr hz a ha)

theorem OF.kept {w w' : World} {base : Nat} {v : Value} {rs : List Nat} {row : Option Nat} (h : OF w base v rs) (hg : w.grownBy w' row) (hne : v.ownBlock = none ∨ v.ownBlock ≠ row) : OF w' base v rs := ⟨h.1.kept hg hne, h.2⟩
theorem OI.kept {w w' : World} {base : Nat} {v : Value} {rs : List Int} {row : Option Nat} (h : OI w base v rs) (hg : w.grownBy w' row) (hne : v.ownBlock = none ∨ v.ownBlock ≠ row) : OI w' base v rs := World.ownsRow.kept h hg hne
theorem OF.below {w w' : World} {base : Nat} {v : Value} {rs : List Nat} (h : OF w base v rs) (hb : Below w.heap.size w w') : OF w' base v rs := by
  refine h.kept (grown_below hb none) ?_
  cases hv : v.ownBlock
  · exact Or.inl rfl
  · exact Or.inr (by simp)
theorem OI.below {w w' : World} {base : Nat} {v : Value} {rs : List Int} (h : OI w base v rs) (hb : Below w.heap.size w w') : OI w' base v rs := by
  refine h.kept (grown_below hb none) ?_
  cases hv : v.ownBlock
  · exact Or.inl rfl
  · exact Or.inr (by simp)
theorem OF.drewN {w : World} {base : Nat} {v : Value} {rs : List Nat} (h : OF w base v rs) (n : Nat) : OF (w.drewN n) base v rs := h
theorem OI.drewN {w : World} {base : Nat} {v : Value} {rs : List Int} (h : OI w base v rs) (n : Nat) : OI (w.drewN n) base v rs := h
/-- Two rows apart: one lies below the other's base. -/
theorem apart_lt {w w2 : World} {base base2 : Nat} {e e2 : TypeId} {v v2 : Value} {n n2 : Nat} {xs ys : List Value} (h : w.ownsRow base e 1 v n xs) (h2 : w2.ownsRow base2 e2 1 v2 n2 ys) (hb : w.heap.size ≤ base2) : v.ownBlock = none ∨ v.ownBlock ≠ v2.ownBlock := by
  cases hv : v.ownBlock with
  | none => exact Or.inl rfl
  | some k =>
    refine Or.inr fun he => ?_
    have h1 := (h.lt k hv).2
    have h3 := (h2.lt k he.symm).1
    omega
theorem apart_gt {w w2 : World} {base base2 : Nat} {e e2 : TypeId} {v v2 : Value} {n n2 : Nat} {xs ys : List Value} (h : w.ownsRow base e 1 v n xs) (h2 : w2.ownsRow base2 e2 1 v2 n2 ys) (hb : w.heap.size ≤ base2) : v2.ownBlock = none ∨ v2.ownBlock ≠ v.ownBlock := by
  cases hv : v2.ownBlock with
  | none => exact Or.inl rfl
  | some k =>
    refine Or.inr fun he => ?_
    have h1 := (h.lt k he.symm).2
    have h3 := (h2.lt k hv).1
    omega

/-- An argument of elder days is kept where a row of one's own is written. -/
theorem SL.mark {α : Type} {f : α → Value} {d : α} {w w' : World} {p : Option Addr} {zs : List α} {B base n : Nat} {e : TypeId} {v : Value} {xs : List Value} (h : SL f d w p zs) (hl : zs ≠ [] → ∀ a, p = some a → a.block < B) (ho : w.ownsRow base e 1 v n xs) (hb : B ≤ base) (hg : w.grownBy w' v.ownBlock) : SL f d w' p zs :=
  h.grown hg fun hz a ha he => by
    have h1 := hl hz a ha
    have h2 := (ho.lt a.block he.symm).1
    omega
theorem OF.sl {w : World} {base n cap : Nat} {p : Option Addr} {rs : List Nat} (h : OF w base (.slice p n cap) rs) : SL (.float .f32) 0 w p rs ∧ n = rs.length := by
  obtain ⟨p', cap', he, hs⟩ := own_slice h.1 0
  cases he
  exact ⟨hs, rfl⟩
theorem OI.sl {w : World} {base n cap : Nat} {p : Option Addr} {rs : List Int} (h : OI w base (.slice p n cap) rs) : SL (.int .i64) 0 w p rs ∧ n = rs.length := by
  obtain ⟨p', cap', he, hs⟩ := own_slice h 0
  cases he
  exact ⟨hs, rfl⟩
theorem OF.form {w : World} {base : Nat} {v : Value} {rs : List Nat} (h : OF w base v rs) : ∃ p cap, v = .slice p rs.length cap := by
  obtain ⟨p', cap', he, hs⟩ := own_slice h.1 0
  exact ⟨p', cap', he⟩
theorem OI.form {w : World} {base : Nat} {v : Value} {rs : List Int} (h : OI w base v rs) : ∃ p cap, v = .slice p rs.length cap := by
  obtain ⟨p', cap', he, hs⟩ := own_slice h 0
  exact ⟨p', cap', he⟩
theorem below_mark {B base n : Nat} {a w w' : World} {e : TypeId} {v : Value} {xs : List Value} (h : Below B a w) (hw : B ≤ w.heap.size) (ho : w.ownsRow base e 1 v n xs) (hb : B ≤ base) (hg : w.grownBy w' v.ownBlock) : Below B a w' :=
  h.grown hg hw fun k hk => Nat.le_trans hb (ho.lt k hk).1

theorem grown_setCell {a w : World} {row : Option Nat} (h : a.grownBy w row) {p : Addr} (hp : row = some p.block) (u : Value) : a.grownBy (w.setCell p u) row := by
  refine ⟨h.os, h.tape, h.output, ?_, fun k hk hne => ?_⟩
  · have := h.size; simpa using this
  · rw [Below.heap_setCell w p u k (fun e => by subst e; exact hne hp.symm)]
    exact h.block k hk hne

/-- The marks. -/
def marksF (m : Int) (n : Nat) : List Nat := (List.range n).map fun (j : Nat) => floatOfInt .f32 (m + (j : Int))
def marksI (m : Int) (n : Nat) : List Int := (List.range n).map fun (j : Nat) => m + (j : Int)
theorem marksF_len (m : Int) (n : Nat) : (marksF m n).length = n := by simp [marksF]
theorem marksI_len (m : Int) (n : Nat) : (marksI m n).length = n := by simp [marksI]
theorem mark_set {α : Type} (g : Nat → α) (rs : List α) (k : Nat) (hk : k < rs.length) : ((List.range k).map g ++ rs.drop k).set k (g k) = (List.range (k + 1)).map g ++ rs.drop (k + 1) := by
  rw [List.range_succ, List.map_append, List.append_assoc, List.set_append_right _ _ (by simp)]
  simp only [List.length_map, List.length_range, Nat.sub_self]
  congr 1
  rw [List.drop_eq_getElem_cons hk]
  rfl
theorem isN_ofInt (k : FloatKind) (n : Int) : isN k (floatOfInt k n) = false := isN_write k (d := .number (n < 0) n.natAbs 0) rfl
theorem marksF_lt (m : Int) (n : Nat) : ∀ z ∈ marksF m n, z < 4294967296 := by
  intro z hz
  unfold marksF at hz
  obtain ⟨j, _, rfl⟩ := List.mem_map.1 hz
  exact (fl_ofInt .f32 _).lt

set_option maxHeartbeats 400000 in
theorem markFloat32S_any (base : Nat) (v : Value) (rs : List Nat) (m : Int) (w : World) (h : OF w base v rs) (hm : rs.length ≤ 1048576) (h0 : 0 ≤ m) (h1 : m ≤ 1073741824) :
    Calls Tryd.prog 11 #[v, .int .i64 m] w fun e w' => e = .returned (.int .i64 (m + rs.length)) ∧ OF w' base v (marksF m rs.length) ∧ w.grownBy w' v.ownBlock := by
  rcases h.1.2 with ⟨rfl, hn⟩ | ⟨g, cap, cur, rfl, _⟩
  · have hrs : rs = [] := List.length_eq_zero_iff.1 hn
    subst hrs
    have HH := hid h
    clear h hn
    go_enter Tryd.func11, Tryd.ntmps11
    go_wp2
    go_loopw [1, 5] (fun mm i wr => i = .int .i64 0 ∧ mm = .int .i64 m ∧ wr = w) (fun _ _ _ => 0)
    case atStart => exact ⟨rfl, rfl, rfl⟩
    case round =>
      obtain ⟨rfl, rfl, rfl⟩ := hrel
      go_wp2
      go_ret
      exact ⟨by simp, HH.out, grown_below (Below.refl _ _) _⟩
  · have HO := hid h.1
    have HZ := hid h.2
    clear h
    go_enter Tryd.func11, Tryd.ntmps11
    go_wp2
    go_loopw [1, 5] (fun mm i wr => ∃ k : Nat, k ≤ rs.length ∧ i = .int .i64 k ∧ mm = .int .i64 (m + k) ∧ Hid (wr.ownsRow base 46 1 (.slice (some ⟨g, 0, none⟩) rs.length cap) rs.length (((List.range k).map (fun (j : Nat) => floatOfInt .f32 (m + (j : Int))) ++ rs.drop k).map (.float .f32))) ∧ Hid (w.grownBy wr (some g))) (fun _ i _ => rs.length - (intOf i).toNat)
    case atStart => exact ⟨0, Nat.zero_le _, rfl, by simp, by unfold Hid; simpa using HO.out, grown_below (Below.refl _ _) _⟩
    case round =>
      obtain ⟨k, hk, rfl, rfl, HO1, HG1⟩ := hrel
      by_cases hlt : k < rs.length
      · have hc2 : ∃ v, wr.cell? ⟨g, k, none⟩ = some v := by
          have := HO1.out.cellAt k (by omega)
          rw [this]
          exact ⟨_, List.getElem?_eq_getElem (by simp; omega)⟩
        obtain ⟨v, hc2⟩ := hc2
        have hf2 : wr.frozen? ⟨g, k, none⟩ = false := HO1.out.frozenAt k
        have hI : (k : Int) < (rs.length : Int) := by omega
        have HR := hid (mark_set (fun (j : Nat) => floatOfInt .f32 (m + (j : Int))) rs k hlt)
        have HS := hid (HO1.out.stored k (.float .f32 (floatOfInt .f32 (m + (k : Int))))).1
        go_wp2_with (first | (refine wpList_fofint rfl _ _ _ rfl _ _ rfl (Option.isSome_iff_exists.2 ⟨_, (by with_reducible exact Tryd.underlying2)⟩) (by with_reducible exact Tryd.underlying49) ?_; intro _) | (refine wpList_fofint rfl _ _ _ rfl _ _ rfl (Option.isSome_iff_exists.2 ⟨_, (by with_reducible exact Tryd.underlying2)⟩) (by with_reducible exact Tryd.underlying46) ?_; intro _) | (refine wpList_fofint rfl _ _ _ rfl _ _ rfl (Option.isSome_iff_exists.2 ⟨_, (by with_reducible exact Tryd.underlying3)⟩) (by with_reducible exact Tryd.underlying49) ?_; intro _) | (refine wpList_fofint rfl _ _ _ rfl _ _ rfl (Option.isSome_iff_exists.2 ⟨_, (by with_reducible exact Tryd.underlying3)⟩) (by with_reducible exact Tryd.underlying46) ?_; intro _))
        go_roundw
        case rel =>
          refine ⟨k + 1, by omega, by go_num, by go_num, ?_, ?_⟩
          · have h := HS.out
            unfold Hid
            rw [← HR.out, List.map_set]
            exact h
          · exact grown_setCell HG1.out rfl _
        case measure => simp [intOf]; omega
      · have HK := hid (show k = rs.length by omega)
        go_wp2
        go_ret
        refine ⟨by rw [HK.out]; rfl, ⟨?_, marksF_lt _ _⟩, HG1.out⟩
        have h := HO1.out
        rw [HK.out, List.drop_length, List.append_nil] at h
        rw [marksF_len]
        exact h
set_option maxHeartbeats 400000 in
theorem heldFloat32S_any (base : Nat) (v : Value) (n : Nat) (m : Int) (w : World) (h : OF w base v (marksF m n)) (hm : n ≤ 1048576) (h0 : 0 ≤ m) (h1 : m ≤ 1073741824) :
    Calls Tryd.prog 12 #[v, .int .i64 m] w fun e w' => e = .returned (.int .i64 (m + n)) ∧ Dr w w' := by
  obtain ⟨p, cap, rfl, hs⟩ := own_slice h.1 0
  rw [marksF_len]
  have HS := hid hs
  have HZ := hid h.2
  clear h hs
  go_enter Tryd.func12, Tryd.ntmps12
  go_wp2
  go_loopw [1, 5] (fun mm i wr => ∃ k : Nat, k ≤ n ∧ i = .int .i64 k ∧ mm = .int .i64 (m + k) ∧ ∃ n, wr = w.drewN n) (fun _ i _ => n - (intOf i).toNat)
  case atStart => exact ⟨0, Nat.zero_le _, rfl, by simp, 0, rfl⟩
  case round =>
    obtain ⟨k, hk, rfl, rfl, nn, rfl⟩ := hrel
    by_cases hlt : k < n
    · obtain ⟨b, off, rfl, hc⟩ := HS.out k (by rw [marksF_len]; exact hlt)
      have hI : (k : Int) < (n : Int) := by omega
      have e1 : (marksF m n).getD k 0 = floatOfInt .f32 (m + (k : Int)) := by simp [marksF, List.getD, hlt]
      rw [e1] at hc
      have f1 := fl_ofInt .f32 (m + (k : Int))
      have hne : fcmp .neq .f32 (floatOfInt .f32 (m + (k : Int))) (floatOfInt .f32 (m + (k : Int))) = false := by rw [isN_ne]; exact isN_ofInt .f32 _
      clear e1
      go_wp2_with (first | (refine wpList_farith rfl _ _ _ _ _ rfl _ _ _ rfl rfl (by decide) (by assumption) (by assumption) ?_; intro _ _ _) | (refine wpList_fcmp rfl _ _ _ _ _ rfl _ _ _ rfl rfl (by decide) (by assumption) (by assumption) (by first | assumption | rfl) ?_) | (refine wpList_fofint rfl _ _ _ rfl _ _ rfl (Option.isSome_iff_exists.2 ⟨_, (by with_reducible exact Tryd.underlying2)⟩) (by with_reducible exact Tryd.underlying49) ?_; intro _) | (refine wpList_fofint rfl _ _ _ rfl _ _ rfl (Option.isSome_iff_exists.2 ⟨_, (by with_reducible exact Tryd.underlying2)⟩) (by with_reducible exact Tryd.underlying46) ?_; intro _) | (refine wpList_fofint rfl _ _ _ rfl _ _ rfl (Option.isSome_iff_exists.2 ⟨_, (by with_reducible exact Tryd.underlying3)⟩) (by with_reducible exact Tryd.underlying49) ?_; intro _) | (refine wpList_fofint rfl _ _ _ rfl _ _ rfl (Option.isSome_iff_exists.2 ⟨_, (by with_reducible exact Tryd.underlying3)⟩) (by with_reducible exact Tryd.underlying46) ?_; intro _))
      go_roundw
      case rel => exact ⟨k + 1, by omega, by go_num, by go_num, _, rfl⟩
      case measure => simp [intOf]; omega
    · have HK := hid (show k = n by omega)
      go_wp2
      go_ret
      exact ⟨by rw [HK.out]; rfl, _, rfl⟩
end Go.Proofs.YtgfnchggflecgaaDoor
