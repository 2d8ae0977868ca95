/-
  TABLES: the reference's check, and the law on it. Own work; no condition beyond what each theorem names.
-/
import Derived.Test.YtgojfjaballbfaaJa
import Derived.Lib.SmallJoins
namespace Go.Proofs.Ytgojfjaballbfaa
open Go.RowKit
attribute [local go_sem] run_store_float opS fineS givesS

/-- A table in memory. -/
def TC (w : World) (b : Nat) (r c : Int) (v : Value) : Prop := w.cell? ⟨b, 0, none⟩ = some (.int .i64 r) ∧ w.cell? ⟨b, 1, none⟩ = some (.int .i64 c) ∧ w.cell? ⟨b, 2, none⟩ = some v
theorem TC.lt {w : World} {b : Nat} {r c : Int} {v : Value} (h : TC w b r c v) : b < w.heap.size := World.block_lt_of_cell? w _ h.1
theorem TC.below {w w' : World} {b : Nat} {r c : Int} {v : Value} (h : TC w b r c v) (hb : Below w.heap.size w w') : TC w' b r c v :=
  ⟨by rw [hb.cell (p := ⟨b, 0, none⟩) h.lt]; exact h.1, by rw [hb.cell (p := ⟨b, 1, none⟩) h.lt]; exact h.2.1, by rw [hb.cell (p := ⟨b, 2, none⟩) h.lt]; exact h.2.2⟩
theorem TC.drewN {w : World} {b : Nat} {r c : Int} {v : Value} (h : TC w b r c v) (n : Nat) : TC (w.drewN n) b r c v := h
theorem TC.alloc {w : World} {b : Nat} {r c : Int} {v : Value} (h : TC w b r c v) (o : Obj) : TC (w.alloc o) b r c v := h.below ((Below.refl _ _).alloc (Nat.le_refl _) o)
theorem TC.new (w : World) (r c : Int) (v : Value) (t : TypeId) : TC (w.alloc (.cells #[.int .i64 r, .int .i64 c, v] t)) w.heap.size r c v := ⟨by simp, by simp, by simp⟩
theorem below_step {B : Nat} {w a b : World} (h : Below B w a) (hb : Below a.heap.size a b) (hB : B ≤ w.heap.size) : Below B w b := h.trans (hb.mono (by have := h.size; omega))
theorem OF.alloc {w : World} {base : Nat} {v : Value} {rs : List Nat} (h : OF w base v rs) (o : Obj) : OF (w.alloc o) base v rs := h.below ((Below.refl _ _).alloc (Nat.le_refl _) o)
open Go.Joins Go.ChangeShapes Go.WideShapes in
theorem open_tab {H : Type} {enc : TypeId × Value → H} {w : World} {base b0 : Nat} {spare : Nat → Bool} {held : Bool} {r : Reach} {v : Value} {d : DataW H} {ps : List MemPlace}
    (hv : Value.okWide Try.prog w r b0 24 v) (h : DataW.Trod enc Try.prog w base spare held 24 v d ps) :
    ∃ (x y : Int) (a : Option Addr) (len cap : Nat) (zs : List Nat), v = .agg #[.int .i64 x, .int .i64 y, .slice a len cap] ∧ zs.length = len ∧ len ≤ maxLen ∧ SL (.float .f32) 0 w a zs ∧ ∀ z ∈ zs, z < 4294967296 := by
  obtain ⟨c0, c1, c2, y0, y1, y2, m, rfl, -, -, h0, h1, h2⟩ := open_agg3 Try.underlying24 (by kernel_rfl) (by kernel_rfl) hv h
  obtain ⟨x, e0, -, -⟩ := DataW.trod_int Try.underlying2 h0
  obtain ⟨y, e1, -, -⟩ := DataW.trod_int Try.underlying2 h1
  obtain ⟨a, l, c, e2⟩ := slice_form Try.underlying22 h2
  simp at e0 e1 e2
  subst e0 e1 e2
  obtain ⟨zs, hz⟩ := open_frow (t := 22) (a := a) (len := l) (cap := c) Try.underlying22 Try.underlying39 (by kernel_rfl) ⟨m, h2⟩
  exact ⟨x, y, a, l, c, zs, rfl, hz⟩
theorem sValidTable_any (r c : Int) (p : Option Addr) (cap : Nat) (zs : List Nat) (w : World) (hs : SL (.float .f32) 0 w p zs) (hz : ∀ z ∈ zs, z < 4294967296) (hm : zs.length ≤ 1048576) :
    Calls Try.prog 11 #[.agg #[.int .i64 r, .int .i64 c, .slice p zs.length cap]] w fun e w' => e = .returned (.bool (tabB r c (us zs))) ∧ Below w.heap.size w w' := by
  have HS := hid hs
  have HZ := hid hz
  clear hs hz
  go_enter Try.func11, Try.ntmps11
  go_wp2_with (fail)
  refine (l02Table_any w.heap.size r c p cap zs _ (by simp) (by simp) (by simp) (HS.out.alloc _) HZ.out hm).mono ?_
  rintro e w' ⟨rfl, n, rfl⟩
  go_wp2_with (fail)
  go_ret
  exact ⟨rfl, below_drewN ((Below.refl _ _).alloc (Nat.le_refl _) _) _⟩
set_option maxHeartbeats 1600000 in
theorem FnExactValidTable_walk (r c : Int) (p : Option Addr) (len cap : Nat) (zs : List Nat) (w : World) (w0 : zs.length = len ∧ len ≤ maxLen ∧ SL (.float .f32) 0 w p zs ∧ ∀ z ∈ zs, z < 4294967296) :
    Calls Try.prog 4 #[.agg #[.int .i64 r, .int .i64 c, .slice p len cap]] w fun e w' => e = .returned (.bool true) ∧ Below w.heap.size w w' := by
  obtain ⟨rfl, hm, hs, hz⟩ := w0
  unfold maxLen at hm
  have HS := hid hs
  have HZ := hid hz
  clear hs hz
  by_cases hbig : zs.length ≤ 1048576
  · have hbi : ((zs.length : Int) ≤ 1048576) := by omega
    have hns : decide ((1048576 : Int) - (zs.length : Int) < 0) = false := decide_eq_false (by omega)
    obtain ⟨tb, htb⟩ : ∃ tb, tabB r c (us zs) = tb := ⟨_, rfl⟩
    have HTB := hid htb
    have htt : (tb != tb) = false := bne_eq_false_iff_eq.2 rfl
    clear htb
    go_enter Try.func4, Try.ntmps4
    go_wp2_with (fail)
    refine (szTable_fit r c p zs.length cap _ _ hbi (by omega)).mono ?_
    rintro e w1 ⟨rfl, hb1⟩
    have A1 := hid ((HS.out.alloc _).below_all hb1)
    have T1 := hid ((TC.new w r c (.slice p zs.length cap) _).below hb1)
    have B1 := hid (below_step ((Below.refl w.heap.size w).alloc (Nat.le_refl _) _) hb1 (Nat.le_refl _))
    have hlt : w.heap.size < w1.heap.size := T1.out.lt
    clear HS hb1
    obtain ⟨b, hb⟩ : ∃ b, w.heap.size = b := ⟨_, rfl⟩
    rw [hb] at hlt T1
    rw [hb]
    obtain ⟨c0, c1, c2⟩ := T1.out
    go_wp2_with (fail)
    refine (toTable_any r c p cap zs _ A1.out HZ.out hbig).mono ?_
    rintro e w2 ⟨g2, rfl, o2, hb2⟩
    have A2 := hid (A1.out.below_all hb2)
    have T2 := hid (T1.out.below hb2)
    have B2 := hid (below_step B1.out hb2 (Nat.le_refl _))
    have F2 := hid o2
    clear A1 T1 B1 c0 c1 c2 hb2 o2
    go_wp2_with (fail)
    refine (sValidTable_any r c _ _ zs _ (OF.sl F2.out).1 HZ.out hbig).mono ?_
    rw [HTB.out]
    rintro e w3 ⟨rfl, hb3⟩
    have A3 := hid (A2.out.below_all hb3)
    have T3 := hid (T2.out.below hb3)
    have B3 := hid (below_step B2.out hb3 (Nat.le_refl _))
    clear A2 T2 B2 F2 hb3
    obtain ⟨c0, c1, c2⟩ := T3.out
    go_wp2_with (fail)
    refine (toTable_any r c p cap zs _ A3.out HZ.out hbig).mono ?_
    rintro e w4 ⟨g4, rfl, o4, hb4⟩
    have A4 := hid ((A3.out.below_all hb4).alloc (.cells #[.int .i64 r, .int .i64 c, .slice (some ⟨g4, 0, none⟩) zs.length zs.length] 27))
    have T4 := hid ((T3.out.below hb4).alloc (.cells #[.int .i64 r, .int .i64 c, .slice (some ⟨g4, 0, none⟩) zs.length zs.length] 27))
    have X4 := hid (TC.new w4 r c (.slice (some ⟨g4, 0, none⟩) zs.length zs.length) 27)
    have B4 := hid ((below_step B3.out hb4 (Nat.le_refl _)).alloc (by have := (below_step B3.out hb4 (Nat.le_refl _)).size; omega) (.cells #[.int .i64 r, .int .i64 c, .slice (some ⟨g4, 0, none⟩) zs.length zs.length] 27))
    have F4 := hid (OF.alloc o4 (.cells #[.int .i64 r, .int .i64 c, .slice (some ⟨g4, 0, none⟩) zs.length zs.length] 27))
    clear A3 T3 B3 hb4 o4 c0 c1 c2
    go_wp2_with (fail)
    refine (ValidTable_any r c _ _ zs _ (OF.sl F4.out).1 HZ.out hbig).mono ?_
    rw [HTB.out]
    rintro e w5 ⟨rfl, hb5⟩
    have A5 := hid (A4.out.below_all hb5)
    have T5 := hid (T4.out.below hb5)
    have X5 := hid (X4.out.below hb5)
    have B5 := hid (below_step B4.out hb5 (Nat.le_refl _))
    have F5 := hid (OF.below F4.out hb5)
    clear A4 T4 X4 B4 F4 hb5
    obtain ⟨x, hx⟩ : ∃ x, w4.heap.size = x := ⟨_, rfl⟩
    rw [hx] at X5
    rw [hx]
    obtain ⟨c0, c1, c2⟩ := T5.out
    obtain ⟨d0, d1, d2⟩ := X5.out
    go_wp2_with (fail)
    go_region_held3 (fun w' => (w'.cell? ⟨b, 0, none⟩ = some (.int .i64 r) ∧ w'.cell? ⟨b, 1, none⟩ = some (.int .i64 c) ∧ w'.cell? ⟨b, 2, none⟩ = some (.slice p zs.length cap)) ∧ (w'.cell? ⟨x, 0, none⟩ = some (.int .i64 r) ∧ w'.cell? ⟨x, 1, none⟩ = some (.int .i64 c) ∧ w'.cell? ⟨x, 2, none⟩ = some (.slice (some ⟨g4, 0, none⟩) zs.length zs.length))) (first | go_keep | (have q6 := hb6; obtain ⟨q1, q2⟩ := bcell q6; go_keep))
      (first
        | (go_at_call 8; refine (toTable_any r c p cap zs _ ?_ HZ.out hbig).mono ?_; (first | exact A5.out | exact A5.out.drewN _); rintro e w6 ⟨g6, rfl, o6, hb6⟩; have k1 := TC.below (T5.out.drewN _) hb6; have k2 := TC.below (X5.out.drewN _) hb6; obtain ⟨k3, k4, k5⟩ := k1; obtain ⟨k6, k7, k8⟩ := k2)
        | (go_at_call 10; refine (eqTable_same r c _ _ _ _ zs zs _ ?_ ?_ HZ.out HZ.out rfl hbig).mono ?_; exact (OF.sl (OF.below (F5.out.drewN 1) hb6)).1; exact (OF.sl o6).1; rintro e w7 ⟨rfl, hb7⟩; have B7 := hid (below_step (below_step (below_drewN B5.out 1) hb6 (Nat.le_refl _)) hb7 (Nat.le_refl _)); have k1 := TC.below ⟨k3, k4, k5⟩ hb7; have k2 := TC.below ⟨k6, k7, k8⟩ hb7; obtain ⟨m3, m4, m5⟩ := k1; obtain ⟨m6, m7, m8⟩ := k2))
    go_wp2_with (fail)
    go_ret
    first | exact ⟨rfl, B7.out⟩ | exact ⟨rfl, below_drewN B7.out _⟩
  · go_enter Try.func4, Try.ntmps4
    go_wp2_with (fail)
    refine (szTable_not r c p zs.length cap _ _ (by omega) (by omega) (by omega)).mono ?_
    rintro e w1 ⟨rfl, hb1⟩
    go_wp2_with (fail)
    go_ret
    exact ⟨rfl, ((Below.refl _ _).alloc (Nat.le_refl _) _).trans (hb1.mono (by simp))⟩
end Go.Proofs.Ytgojfjaballbfaa
