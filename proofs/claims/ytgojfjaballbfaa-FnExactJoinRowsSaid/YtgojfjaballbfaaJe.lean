/-
  TABLES that are made of two rows. Own work; no condition beyond what each theorem names.
-/
import Derived.Test.YtgojfjaballbfaaJb
import Derived.Test.YtgojfjaballbfaaQt
import Derived.OneCell
import Derived.Laws.Rows
namespace Go.Proofs.Ytgojfjaballbfaa
open Go.RowKit
set_option linter.unusedVariables false
attribute [local go_sem] run_store_float opS fineS givesS

/-- A goal that the walk leaves alone. -/
structure StopJ (p : Prop) : Prop where
  out : p
/-- The block of a table. -/
def TB (w : World) (b : Nat) (r c : Int) (v : Value) : Prop := w.heap[b]? = some (.cells #[.int .i64 r, .int .i64 c, v] 27 (0, 0))
theorem TB.tc {w : World} {b : Nat} {r c : Int} {v : Value} (h : TB w b r c v) : TC w b r c v := by
  unfold TB at h
  exact ⟨by simp [World.cell?, h], by simp [World.cell?, h], by simp [World.cell?, h]⟩
theorem TB.free {w : World} {b : Nat} {r c : Int} {v : Value} (h : TB w b r c v) : w.frozen? ⟨b, 0, none⟩ = false ∧ w.frozen? ⟨b, 1, none⟩ = false ∧ w.frozen? ⟨b, 2, none⟩ = false := by
  unfold TB at h
  exact ⟨by simp [World.frozen?, h], by simp [World.frozen?, h], by simp [World.frozen?, h]⟩
theorem TB.lt {w : World} {b : Nat} {r c : Int} {v : Value} (h : TB w b r c v) : b < w.heap.size := lt_of_block h
theorem TB.below {w w' : World} {b : Nat} {r c : Int} {v : Value} (h : TB w b r c v) (hb : Below w.heap.size w w') : TB w' b r c v := by
  unfold TB at *; rw [hb.block b (lt_of_block h)]; exact h
theorem TB.belowB {w w' : World} {B b : Nat} {r c : Int} {v : Value} (h : TB w b r c v) (hb : Below B w w') (hlt : b < B) : TB w' b r c v := by
  unfold TB at *; rw [hb.block b hlt]; exact h
theorem TB.grown {w w' : World} {b : Nat} {r c : Int} {v : Value} {row : Option Nat} (h : TB w b r c v) (hg : w.grownBy w' row) (hne : some b ≠ row) : TB w' b r c v := by
  unfold TB at *; rw [hg.block b (lt_of_block h) hne]; exact h
theorem TB.new (w : World) (r c : Int) (v : Value) : TB (w.alloc (.cells #[.int .i64 r, .int .i64 c, v] 27)) w.heap.size r c v := by
  unfold TB; exact heap_alloc_new w _
theorem TB.set {w : World} {b : Nat} {r c : Int} {v : Value} (h : TB w b r c v) (u : Value) : TB (w.setCell ⟨b, 2, none⟩ u) b r c u := by
  unfold TB at *
  have hlt := lt_of_block h
  have h' : w.heap[b] = .cells #[.int .i64 r, .int .i64 c, v] 27 (0, 0) := Option.some.inj ((Array.getElem?_eq_getElem hlt).symm.trans h)
  show (w.heap.modify b _)[b]? = _
  rw [Array.getElem?_eq_getElem (by simpa using hlt), Array.getElem_modify_self, h']
  rfl
theorem TB.set_other {w : World} {b : Nat} {r c : Int} {v : Value} (h : TB w b r c v) (a : Addr) (u : Value) (hne : b ≠ a.block) : TB (w.setCell a u) b r c v := by
  unfold TB at *; rw [Below.heap_setCell _ _ _ _ hne]; exact h
theorem TB.drewN {w : World} {b : Nat} {r c : Int} {v : Value} (h : TB w b r c v) (n : Nat) : TB (w.drewN n) b r c v := h

/-- What a maker of tables hands back. -/
def TabPost (w : World) (base : Nat) (b : Bool) (r c : Int) (l : List Nat) (e : Ending) (w' : World) : Prop :=
  ∃ v rs, e = .returned (.tuple #[.agg #[.int .i64 (if b then r else 0), .int .i64 (if b then c else 0), v], .bool b]) ∧ OF w' base v rs ∧ us rs = (if b then l else []) ∧ Below base w w'

theorem below_step2 {B : Nat} {w a b : World} (h : Below B w a) (hb : Below a.heap.size a b) (hB : B ≤ a.heap.size) : Below B w b := h.trans (hb.mono hB)
/-- A row of one's own is kept where a cell of another block is written. -/
theorem OF.setO {w : World} {base : Nat} {v : Value} {rs : List Nat} (h : OF w base v rs) (q : Addr) (u : Value) (hq : v.ownBlock ≠ some q.block) : OF (w.setCell q u) base v rs := ⟨ownsRow_setCell_other h.1 hq u, h.2⟩
theorem apartO {w : World} {base : Nat} {v : Value} {rs : List Nat} {k : Nat} (h : OF w base v rs) (hk : w.heap.size ≤ k) : v.ownBlock ≠ some k := fun e => by
  have := (h.1.lt k e).2
  omega
theorem OF_nilJ (w : World) (base : Nat) : OF w base (.slice none 0 0) [] := ⟨World.ownsRow_nil _ _ _ _, fun _ h => absurd h (List.not_mem_nil)⟩
theorem dr_below {w w' : World} (h : Dr w w') : Below w.heap.size w w' := by obtain ⟨n, rfl⟩ := h; exact below_drewN (Below.refl _ _) n
set_option maxHeartbeats 400000 in
theorem asTable_any (base : Nat) (r c : Int) (v : Value) (rs : List Nat) (w0 w : World) (h : OF w base v rs) (hm : rs.length ≤ 1048576) (hB : Below base w0 w) (hb : base ≤ w.heap.size) :
    Calls Try.prog 30 #[.agg #[.int .i64 r, .int .i64 c, v]] w (TabPost w0 base (tabB r c (us rs)) r c (us rs)) := by
  obtain ⟨p, cap, rfl⟩ := h.form
  have HC := hid (fun w (h : OF w base (.slice p rs.length cap) rs) => ValidTable_any r c p cap rs w (OF.sl h).1 h.2 hm)
  have HO := hid h
  have HB := hid hB
  clear h hB
  obtain ⟨tb, htb⟩ : ∃ tb, tabB r c (us rs) = tb := ⟨_, rfl⟩
  rw [htb] at HC
  rw [htb]
  clear htb
  cases tb
  · go_enter Try.func30, Try.ntmps30
    go_wp2_with (fail)
    refine (HC.out _ ((OF.alloc (OF.alloc HO.out _) _))).mono ?_
    rintro e w1 ⟨rfl, hb1⟩
    have HO1 := hid (OF.below (OF.alloc (OF.alloc HO.out _) _) hb1)
    have HB1 := hid (below_step2 ((HB.out.alloc hb (.cells #[.int .i64 r, .int .i64 c, .slice p rs.length cap] 27)).alloc (by simp; omega) (.cells #[.int .i64 0, .int .i64 0, .slice none 0 0] 27)) hb1 (by simp; omega))
    obtain ⟨hcl, hfr⟩ := bcell hb1
    have hw1 : w.heap.size + 1 < w1.heap.size := by have := hb1.size; simp at this; omega
    have hbw := hid hb
    go_wp2_with (fail)
    have HX := hid (((HB1.out.setCell (p := ⟨w.heap.size + 1, 0, none⟩) (Nat.le_succ_of_le hb) (.int .i64 0)).setCell (p := ⟨w.heap.size + 1, 1, none⟩) (Nat.le_succ_of_le hb) (.int .i64 0)).setCell (p := ⟨w.heap.size + 1, 2, none⟩) (Nat.le_succ_of_le hb) (.slice none 0 0))
    refine bodyPost_ret (v := .tuple #[.agg #[.int .i64 0, .int .i64 0, .slice none 0 0], .bool false]) (by simp [results, Try.results30, go_sem, hcl]) rfl ⟨_, [], rfl, OF_nilJ _ _, rfl, HX.out⟩
  · go_enter Try.func30, Try.ntmps30
    go_wp2_with (fail)
    refine (HC.out _ ((OF.alloc (OF.alloc HO.out _) _))).mono ?_
    rintro e w1 ⟨rfl, hb1⟩
    have HO1 := hid (OF.below (OF.alloc (OF.alloc HO.out _) _) hb1)
    have HB1 := hid (below_step2 ((HB.out.alloc hb (.cells #[.int .i64 r, .int .i64 c, .slice p rs.length cap] 27)).alloc (by simp; omega) (.cells #[.int .i64 0, .int .i64 0, .slice none 0 0] 27)) hb1 (by simp; omega))
    obtain ⟨hcl, hfr⟩ := bcell hb1
    have hw1 : w.heap.size + 1 < w1.heap.size := by have := hb1.size; simp at this; omega
    have hbw := hid hb
    go_wp2_with (fail)
    have HX := hid (((HB1.out.setCell (p := ⟨w.heap.size + 1, 0, none⟩) (Nat.le_succ_of_le hb) (.int .i64 r)).setCell (p := ⟨w.heap.size + 1, 1, none⟩) (Nat.le_succ_of_le hb) (.int .i64 c)).setCell (p := ⟨w.heap.size + 1, 2, none⟩) (Nat.le_succ_of_le hb) (.slice p rs.length cap))
    refine bodyPost_ret (v := .tuple #[.agg #[.int .i64 r, .int .i64 c, .slice p rs.length cap], .bool true]) (by simp [results, Try.results30, go_sem, hcl]) rfl ⟨_, rs, rfl, ((HO1.out.setO _ _ (apartO HO.out (Nat.le_succ _))).setO _ _ (apartO HO.out (Nat.le_succ _))).setO _ _ (apartO HO.out (Nat.le_succ _)), rfl, HX.out⟩
set_option maxHeartbeats 400000 in
theorem l02GiveTable_any (base : Nat) (r c : Int) (v : Value) (rs : List Nat) (w0 w : World) (h : OF w base v rs) (hm : rs.length ≤ 1048576) (hB : Below base w0 w) (hb : base ≤ w.heap.size) :
    Calls Try.prog 28 #[.agg #[.int .i64 r, .int .i64 c, v]] w (TabPost w0 base (tabB r c (us rs)) r c (us rs)) := by
  obtain ⟨p, cap, rfl⟩ := h.form
  have HC := hid (fun b w (h0 : TC w b r c (.slice p rs.length cap)) (h : OF w base (.slice p rs.length cap) rs) => l02Table_any b r c p cap rs w h0.1 h0.2.1 h0.2.2 (OF.sl h).1 h.2 hm)
  have HO := hid h
  have HB := hid hB
  clear h hB
  obtain ⟨tb, htb⟩ : ∃ tb, tabB r c (us rs) = tb := ⟨_, rfl⟩
  rw [htb] at HC
  rw [htb]
  clear htb
  cases tb
  · go_enter Try.func28, Try.ntmps28
    go_wp2_with (fail)
    refine (HC.out _ _ (TC.alloc (TC.new _ _ _ _ _) _) ((OF.alloc (OF.alloc HO.out _) _))).mono ?_
    rintro e w1 ⟨rfl, hd1⟩
    have hb1 := dr_below hd1
    clear hd1
    have HO1 := hid (OF.below (OF.alloc (OF.alloc HO.out _) _) hb1)
    have HB1 := hid (below_step2 ((HB.out.alloc hb (.cells #[.int .i64 r, .int .i64 c, .slice p rs.length cap] 27)).alloc (by simp; omega) (.cells #[.int .i64 0, .int .i64 0, .slice none 0 0] 27)) hb1 (by simp; omega))
    obtain ⟨hcl, hfr⟩ := bcell hb1
    have hw1 : w.heap.size + 1 < w1.heap.size := by have := hb1.size; simp at this; omega
    have hbw := hid hb
    go_wp2_with (fail)
    have HX := hid (((HB1.out.setCell (p := ⟨w.heap.size + 1, 0, none⟩) (Nat.le_succ_of_le hb) (.int .i64 0)).setCell (p := ⟨w.heap.size + 1, 1, none⟩) (Nat.le_succ_of_le hb) (.int .i64 0)).setCell (p := ⟨w.heap.size + 1, 2, none⟩) (Nat.le_succ_of_le hb) (.slice none 0 0))
    refine bodyPost_ret (v := .tuple #[.agg #[.int .i64 0, .int .i64 0, .slice none 0 0], .bool false]) (by simp [results, Try.results28, go_sem, hcl]) rfl ⟨_, [], rfl, OF_nilJ _ _, rfl, HX.out⟩
  · go_enter Try.func28, Try.ntmps28
    go_wp2_with (fail)
    refine (HC.out _ _ (TC.alloc (TC.new _ _ _ _ _) _) ((OF.alloc (OF.alloc HO.out _) _))).mono ?_
    rintro e w1 ⟨rfl, hd1⟩
    have hb1 := dr_below hd1
    clear hd1
    have HO1 := hid (OF.below (OF.alloc (OF.alloc HO.out _) _) hb1)
    have HB1 := hid (below_step2 ((HB.out.alloc hb (.cells #[.int .i64 r, .int .i64 c, .slice p rs.length cap] 27)).alloc (by simp; omega) (.cells #[.int .i64 0, .int .i64 0, .slice none 0 0] 27)) hb1 (by simp; omega))
    obtain ⟨hcl, hfr⟩ := bcell hb1
    have hw1 : w.heap.size + 1 < w1.heap.size := by have := hb1.size; simp at this; omega
    have hbw := hid hb
    go_wp2_with (fail)
    have HX := hid (((HB1.out.setCell (p := ⟨w.heap.size + 1, 0, none⟩) (Nat.le_succ_of_le hb) (.int .i64 r)).setCell (p := ⟨w.heap.size + 1, 1, none⟩) (Nat.le_succ_of_le hb) (.int .i64 c)).setCell (p := ⟨w.heap.size + 1, 2, none⟩) (Nat.le_succ_of_le hb) (.slice p rs.length cap))
    refine bodyPost_ret (v := .tuple #[.agg #[.int .i64 r, .int .i64 c, .slice p rs.length cap], .bool true]) (by simp [results, Try.results28, go_sem, hcl]) rfl ⟨_, rs, rfl, ((HO1.out.setO _ _ (apartO HO.out (Nat.le_succ _))).setO _ _ (apartO HO.out (Nat.le_succ _))).setO _ _ (apartO HO.out (Nat.le_succ _)), rfl, HX.out⟩
end Go.Proofs.Ytgojfjaballbfaa
