/-
  TABLES: the law on sameness. Printed by wip/tools/gen_sametable.py. Own work; no condition beyond what each theorem names.
-/
import Derived.Test.YtgojfjaballbfaaJc
namespace Go.Proofs.Ytgojfjaballbfaa
open Go.RowKit
set_option linter.unusedVariables false
attribute [local go_sem] run_store_float opS fineS givesS

set_option maxHeartbeats 1600000 in
theorem FnExactSameTable_walk (r c : Int) (p : Option Addr) (len cap : Nat) (xs : List Nat) (r2 c2 : Int) (q : Option Addr) (len2 cap2 : Nat) (ys : List Nat) (w : World) (w0 : xs.length = len ∧ len ≤ maxLen ∧ SL (.float .f32) 0 w p xs ∧ ∀ z ∈ xs, z < 4294967296) (w1 : ys.length = len2 ∧ len2 ≤ maxLen ∧ SL (.float .f32) 0 w q ys ∧ ∀ z ∈ ys, z < 4294967296) :
    Calls Try.prog 3 #[.agg #[.int .i64 r, .int .i64 c, .slice p len cap], .agg #[.int .i64 r2, .int .i64 c2, .slice q len2 cap2]] w fun e w' => e = .returned (.bool true) ∧ Below w.heap.size w w' := by
  obtain ⟨rfl, hm, hs, hz⟩ := w0
  obtain ⟨rfl, hm2, hs2, hz2⟩ := w1
  unfold maxLen at hm hm2
  have HX := hid hz
  have HY := hid hz2
  have A1_0 := hid ((hs.alloc (.cells #[.int .i64 r, .int .i64 c, .slice p xs.length cap] 24)).alloc (.cells #[.int .i64 r2, .int .i64 c2, .slice q ys.length cap2] 24))
  have A2_0 := hid ((hs2.alloc (.cells #[.int .i64 r, .int .i64 c, .slice p xs.length cap] 24)).alloc (.cells #[.int .i64 r2, .int .i64 c2, .slice q ys.length cap2] 24))
  have T1_0 := hid ((TC.new w r c (.slice p xs.length cap) 24).alloc (.cells #[.int .i64 r2, .int .i64 c2, .slice q ys.length cap2] 24))
  have T2_0 := hid (TC.new (w.alloc (.cells #[.int .i64 r, .int .i64 c, .slice p xs.length cap] 24)) r2 c2 (.slice q ys.length cap2) 24)
  have B_0 := hid (((Below.refl w.heap.size w).alloc (Nat.le_refl _) (.cells #[.int .i64 r, .int .i64 c, .slice p xs.length cap] 24)).alloc (by simp) (.cells #[.int .i64 r2, .int .i64 c2, .slice q ys.length cap2] 24))
  rw [World.size_alloc] at T2_0
  clear hs hz hs2 hz2
  by_cases hx1 : xs.length ≤ 1048576
  · by_cases hbig2 : (ys.length : Int) ≤ 1048576 - xs.length
    · have hy1 : ys.length ≤ 1048576 := by omega
      have hbi : ((xs.length : Int) ≤ 1048576) := by omega
      have hns : decide ((1048576 : Int) - (xs.length : Int) < 0) = false := decide_eq_false (by omega)
      have hns2 : decide ((1048576 : Int) - (xs.length : Int) - (ys.length : Int) < 0) = false := decide_eq_false (by omega)
      obtain ⟨tb, htb⟩ : ∃ tb, sameB r c r2 c2 xs ys = tb := ⟨_, rfl⟩
      have HTB := hid htb
      have htt : (tb != tb) = false := bne_eq_false_iff_eq.2 rfl
      clear htb
      go_enter Try.func3, Try.ntmps3
      go_wp2_with (fail)
      refine (szTable_fit r c p xs.length cap _ _ hbi (by omega)).mono ?_
      rintro e v1 ⟨rfl, hb1⟩
      have A1_1 := hid (SL.below_all A1_0.out hb1)
      clear A1_0
      have A2_1 := hid (SL.below_all A2_0.out hb1)
      clear A2_0
      have T1_1 := hid (TC.below T1_0.out hb1)
      clear T1_0
      have T2_1 := hid (TC.below T2_0.out hb1)
      clear T2_0
      have B_1 := hid (below_step B_0.out hb1 (Nat.le_refl _))
      clear B_0
      clear hb1
      have hlt : w.heap.size + 1 < v1.heap.size := T2_1.out.lt
      obtain ⟨b1, hb1⟩ : ∃ b, w.heap.size = b := ⟨_, rfl⟩
      obtain ⟨b2, hb2⟩ : ∃ b, b1 + 1 = b := ⟨_, rfl⟩
      rw [hb1] at hlt T1_1 T2_1
      rw [hb1]
      rw [hb2] at hlt T2_1
      rw [hb2]
      have HBB := hid hb1
      clear hb1 hb2
      obtain ⟨ca0, ca1, ca2⟩ := T1_1.out
      obtain ⟨ca3, ca4, ca5⟩ := T2_1.out
      go_wp2_with (fail)
      refine (szTable_fit r2 c2 q ys.length cap2 _ _ hbig2 (by omega)).mono ?_
      rintro e v2 ⟨rfl, hb2⟩
      have A1_2 := hid (SL.below_all A1_1.out hb2)
      clear A1_1
      have A2_2 := hid (SL.below_all A2_1.out hb2)
      clear A2_1
      have T1_2 := hid (TC.below T1_1.out hb2)
      clear T1_1
      have T2_2 := hid (TC.below T2_1.out hb2)
      clear T2_1
      have B_2 := hid (below_step B_1.out hb2 (Nat.le_refl _))
      clear B_1
      clear ca0 ca1 ca2 ca3 ca4 ca5
      clear hb2
      obtain ⟨ca0, ca1, ca2⟩ := T1_2.out
      obtain ⟨ca3, ca4, ca5⟩ := T2_2.out
      go_wp2_with (fail)
      go_region_held3 (fun w' => (w'.cell? ⟨b1, 0, none⟩ = some (.int .i64 r) ∧ w'.cell? ⟨b1, 1, none⟩ = some (.int .i64 c) ∧ w'.cell? ⟨b1, 2, none⟩ = some (.slice p xs.length cap)) ∧ (w'.cell? ⟨b2, 0, none⟩ = some (.int .i64 r2) ∧ w'.cell? ⟨b2, 1, none⟩ = some (.int .i64 c2) ∧ w'.cell? ⟨b2, 2, none⟩ = some (.slice q ys.length cap2))) (go_keep)
        (first
          | (go_at_call 8; (with_reducible refine (toTable_any r c p cap xs _ ?_ HX.out hx1).mono ?_); exact A1_2.out.drewN _; rintro e v3 ⟨g3, rfl, o3, hb3⟩; have A1_3 := hid (SL.below_all (A1_2.out.drewN 1) hb3); have A2_3 := hid (SL.below_all (A2_2.out.drewN 1) hb3); have T1_3 := hid (TC.below (T1_2.out.drewN 1) hb3); have T2_3 := hid (TC.below (T2_2.out.drewN 1) hb3); have B_3 := hid (below_step (below_drewN B_2.out 1) hb3 (Nat.le_refl _)); have F3_3 := hid o3; obtain ⟨d0, d1, d2⟩ := T1_3.out; obtain ⟨d3, d4, d5⟩ := T2_3.out)
          | (go_at_call 8; (with_reducible refine (toTable_any r2 c2 q cap2 ys _ ?_ HY.out hy1).mono ?_); exact A2_3.out; rintro e v4 ⟨g4, rfl, o4, hb4⟩; have A1_4 := hid (SL.below_all A1_3.out hb4); have A2_4 := hid (SL.below_all A2_3.out hb4); have T1_4 := hid (TC.below T1_3.out hb4); have T2_4 := hid (TC.below T2_3.out hb4); have B_4 := hid (below_step B_3.out hb4 (Nat.le_refl _)); have F3_4 := hid (OF.below F3_3.out hb4); have F4_4 := hid o4; obtain ⟨f0, f1, f2⟩ := T1_4.out; obtain ⟨f3, f4, f5⟩ := T2_4.out)
          | (go_at_call 7; refine (sSameTable_any r c r2 c2 _ _ _ _ xs ys _ ?_ ?_ HX.out HY.out hx1 hy1).mono ?_; exact (OF.sl F3_4.out).1; exact (OF.sl F4_4.out).1; rw [HTB.out]; rintro e v5 ⟨rfl, hb5⟩; have A1_5 := hid (SL.below_all A1_4.out hb5); have A2_5 := hid (SL.below_all A2_4.out hb5); have T1_5 := hid (TC.below T1_4.out hb5); have T2_5 := hid (TC.below T2_4.out hb5); have B_5 := hid (below_step B_4.out hb5 (Nat.le_refl _)); obtain ⟨ga0, ga1, ga2⟩ := T1_5.out; obtain ⟨ga3, ga4, ga5⟩ := T2_5.out))
      clear ca0 ca1 ca2 ca3 ca4 ca5
      go_wp2_with (fail)
      refine (toTable_any r c p cap xs _ A1_5.out HX.out hx1).mono ?_
      rintro e v6 ⟨g6, rfl, o6, hb6⟩
      have A1_6 := hid (SL.below_all A1_5.out hb6)
      clear A1_5
      have A2_6 := hid (SL.below_all A2_5.out hb6)
      clear A2_5
      have T1_6 := hid (TC.below T1_5.out hb6)
      clear T1_5
      have T2_6 := hid (TC.below T2_5.out hb6)
      clear T2_5
      have B_6 := hid (below_step B_5.out hb6 (Nat.le_refl _))
      clear B_5
      have F6_6 := hid o6
      clear hb6 o6
      clear ga0 ga1 ga2 ga3 ga4 ga5
      obtain ⟨ca0, ca1, ca2⟩ := T1_6.out
      obtain ⟨ca3, ca4, ca5⟩ := T2_6.out
      have hl1 : b1 < v6.heap.size := T1_6.out.lt
      have hl2 : b2 < v6.heap.size := T2_6.out.lt
      have A1_6a := hid (SL.alloc A1_6.out (.cells #[.int .i64 r, .int .i64 c, .slice (some ⟨g6, 0, none⟩) xs.length xs.length] 27))
      clear A1_6
      have A2_6a := hid (SL.alloc A2_6.out (.cells #[.int .i64 r, .int .i64 c, .slice (some ⟨g6, 0, none⟩) xs.length xs.length] 27))
      clear A2_6
      have T1_6a := hid (TC.alloc T1_6.out (.cells #[.int .i64 r, .int .i64 c, .slice (some ⟨g6, 0, none⟩) xs.length xs.length] 27))
      clear T1_6
      have T2_6a := hid (TC.alloc T2_6.out (.cells #[.int .i64 r, .int .i64 c, .slice (some ⟨g6, 0, none⟩) xs.length xs.length] 27))
      clear T2_6
      have B_6a := hid (B_6.out.alloc (B_6.out.size) (.cells #[.int .i64 r, .int .i64 c, .slice (some ⟨g6, 0, none⟩) xs.length xs.length] 27))
      clear B_6
      have F6_6a := hid (OF.alloc F6_6.out (.cells #[.int .i64 r, .int .i64 c, .slice (some ⟨g6, 0, none⟩) xs.length xs.length] 27))
      clear F6_6
      have X6_6a := hid (TC.new v6 r c (.slice (some ⟨g6, 0, none⟩) xs.length xs.length) 27)
      go_wp2_with (fail)
      clear ca0 ca1 ca2 ca3 ca4 ca5 hl1 hl2
      obtain ⟨x6, hx6⟩ : ∃ x, v6.heap.size = x := ⟨_, rfl⟩
      have HLX := hid X6_6a.out.lt
      rw [hx6] at X6_6a
      rw [hx6]
      have HX6 := hid hx6
      clear hx6
      obtain ⟨u6, hu6⟩ : ∃ u, v6.alloc (.cells #[.int .i64 r, .int .i64 c, .slice (some ⟨g6, 0, none⟩) xs.length xs.length] 27) = u := ⟨_, rfl⟩
      rw [hu6] at A1_6a A2_6a T1_6a T2_6a B_6a F6_6a X6_6a
      rw [hu6]
      clear hu6
      refine (toTable_any r2 c2 q cap2 ys _ A2_6a.out HY.out hy1).mono ?_
      rintro e v7 ⟨g7, rfl, o7, hb7⟩
      have A1_7 := hid (SL.below_all A1_6a.out hb7)
      clear A1_6a
      have A2_7 := hid (SL.below_all A2_6a.out hb7)
      clear A2_6a
      have T1_7 := hid (TC.below T1_6a.out hb7)
      clear T1_6a
      have T2_7 := hid (TC.below T2_6a.out hb7)
      clear T2_6a
      have B_7 := hid (below_step B_6a.out hb7 (Nat.le_refl _))
      clear B_6a
      have F6_7 := hid (OF.below F6_6a.out hb7)
      clear F6_6a
      have X6_7 := hid (TC.below X6_6a.out hb7)
      clear X6_6a
      have F7_7 := hid o7
      clear hb7 o7
      obtain ⟨cb0, cb1, cb2⟩ := X6_7.out
      have hl6 : x6 < v7.heap.size := X6_7.out.lt
      have A1_7a := hid (SL.alloc A1_7.out (.cells #[.int .i64 r2, .int .i64 c2, .slice (some ⟨g7, 0, none⟩) ys.length ys.length] 27))
      clear A1_7
      have A2_7a := hid (SL.alloc A2_7.out (.cells #[.int .i64 r2, .int .i64 c2, .slice (some ⟨g7, 0, none⟩) ys.length ys.length] 27))
      clear A2_7
      have T1_7a := hid (TC.alloc T1_7.out (.cells #[.int .i64 r2, .int .i64 c2, .slice (some ⟨g7, 0, none⟩) ys.length ys.length] 27))
      clear T1_7
      have T2_7a := hid (TC.alloc T2_7.out (.cells #[.int .i64 r2, .int .i64 c2, .slice (some ⟨g7, 0, none⟩) ys.length ys.length] 27))
      clear T2_7
      have B_7a := hid (B_7.out.alloc (B_7.out.size) (.cells #[.int .i64 r2, .int .i64 c2, .slice (some ⟨g7, 0, none⟩) ys.length ys.length] 27))
      clear B_7
      have F6_7a := hid (OF.alloc F6_7.out (.cells #[.int .i64 r2, .int .i64 c2, .slice (some ⟨g7, 0, none⟩) ys.length ys.length] 27))
      clear F6_7
      have X6_7a := hid (TC.alloc X6_7.out (.cells #[.int .i64 r2, .int .i64 c2, .slice (some ⟨g7, 0, none⟩) ys.length ys.length] 27))
      clear X6_7
      have F7_7a := hid (OF.alloc F7_7.out (.cells #[.int .i64 r2, .int .i64 c2, .slice (some ⟨g7, 0, none⟩) ys.length ys.length] 27))
      clear F7_7
      have X7_7a := hid (TC.new v7 r2 c2 (.slice (some ⟨g7, 0, none⟩) ys.length ys.length) 27)
      go_wp2_with (fail)
      obtain ⟨x7, hx7⟩ : ∃ x, v7.heap.size = x := ⟨_, rfl⟩
      rw [hx7] at X7_7a
      rw [hx7]
      clear hx7
      obtain ⟨u7, hu7⟩ : ∃ u, v7.alloc (.cells #[.int .i64 r2, .int .i64 c2, .slice (some ⟨g7, 0, none⟩) ys.length ys.length] 27) = u := ⟨_, rfl⟩
      rw [hu7] at A1_7a A2_7a T1_7a T2_7a B_7a F6_7a F7_7a X6_7a X7_7a
      rw [hu7]
      clear hu7
      clear cb0 cb1 cb2 hl6
      refine (SameTable_any r c r2 c2 _ _ _ _ xs ys _ (OF.sl F6_7a.out).1 (OF.sl F7_7a.out).1 HX.out HY.out hx1 hy1).mono ?_
      rw [HTB.out]
      rintro e v8 ⟨rfl, hb8⟩
      have A1_8 := hid (SL.below_all A1_7a.out hb8)
      clear A1_7a
      have A2_8 := hid (SL.below_all A2_7a.out hb8)
      clear A2_7a
      have T1_8 := hid (TC.below T1_7a.out hb8)
      clear T1_7a
      have T2_8 := hid (TC.below T2_7a.out hb8)
      clear T2_7a
      have B_8 := hid (below_step B_7a.out hb8 (Nat.le_refl _))
      clear B_7a
      have F6_8 := hid (OF.below F6_7a.out hb8)
      clear F6_7a
      have X6_8 := hid (TC.below X6_7a.out hb8)
      clear X6_7a
      have F7_8 := hid (OF.below F7_7a.out hb8)
      clear F7_7a
      have X7_8 := hid (TC.below X7_7a.out hb8)
      clear X7_7a
      clear hb8
      obtain ⟨h0, h1, h2⟩ := T1_8.out
      obtain ⟨h3, h4, h5⟩ := T2_8.out
      obtain ⟨h6, h7, h8⟩ := X6_8.out
      obtain ⟨h9, h10, h11⟩ := X7_8.out
      go_wp2_with (fail)
      go_region_held3 (fun w' => (w'.cell? ⟨b1, 0, none⟩ = some (.int .i64 r) ∧ w'.cell? ⟨b1, 1, none⟩ = some (.int .i64 c) ∧ w'.cell? ⟨b1, 2, none⟩ = some (.slice p xs.length cap)) ∧ (w'.cell? ⟨b2, 0, none⟩ = some (.int .i64 r2) ∧ w'.cell? ⟨b2, 1, none⟩ = some (.int .i64 c2) ∧ w'.cell? ⟨b2, 2, none⟩ = some (.slice q ys.length cap2)) ∧ (w'.cell? ⟨x6, 0, none⟩ = some (.int .i64 r) ∧ w'.cell? ⟨x6, 1, none⟩ = some (.int .i64 c) ∧ w'.cell? ⟨x6, 2, none⟩ = some (.slice (some ⟨g6, 0, none⟩) xs.length xs.length)) ∧ (w'.cell? ⟨x7, 0, none⟩ = some (.int .i64 r2) ∧ w'.cell? ⟨x7, 1, none⟩ = some (.int .i64 c2) ∧ w'.cell? ⟨x7, 2, none⟩ = some (.slice (some ⟨g7, 0, none⟩) ys.length ys.length))) (go_keep)
        (first
          | (go_at_call 8; (with_reducible refine (toTable_any r c p cap xs _ ?_ HX.out hx1).mono ?_); exact A1_8.out.drewN _; rintro e v9 ⟨g9, rfl, o9, hb9⟩; have A1_9 := hid (SL.below_all (A1_8.out.drewN 1) hb9); have A2_9 := hid (SL.below_all (A2_8.out.drewN 1) hb9); have T1_9 := hid (TC.below (T1_8.out.drewN 1) hb9); have T2_9 := hid (TC.below (T2_8.out.drewN 1) hb9); have B_9 := hid (below_step (below_drewN B_8.out 1) hb9 (Nat.le_refl _)); have F6_9 := hid (OF.below (F6_8.out.drewN 1) hb9); have X6_9 := hid (TC.below (X6_8.out.drewN 1) hb9); have F7_9 := hid (OF.below (F7_8.out.drewN 1) hb9); have X7_9 := hid (TC.below (X7_8.out.drewN 1) hb9); obtain ⟨m9_0, m9_1, m9_2⟩ := T1_9.out; obtain ⟨m9_3, m9_4, m9_5⟩ := T2_9.out; obtain ⟨m9_6, m9_7, m9_8⟩ := X6_9.out; obtain ⟨m9_9, m9_10, m9_11⟩ := X7_9.out)
          | (go_at_call 10; refine (eqTable_same r c _ _ _ _ xs xs _ ?_ ?_ HX.out HX.out rfl hx1).mono ?_; exact (OF.sl F6_9.out).1; exact (OF.sl o9).1; rintro e v10 ⟨rfl, hb10⟩; have A1_10 := hid (SL.below_all A1_9.out hb10); have A2_10 := hid (SL.below_all A2_9.out hb10); have T1_10 := hid (TC.below T1_9.out hb10); have T2_10 := hid (TC.below T2_9.out hb10); have B_10 := hid (below_step B_9.out hb10 (Nat.le_refl _)); have F6_10 := hid (OF.below F6_9.out hb10); have X6_10 := hid (TC.below X6_9.out hb10); have F7_10 := hid (OF.below F7_9.out hb10); have X7_10 := hid (TC.below X7_9.out hb10); obtain ⟨n9_0, n9_1, n9_2⟩ := T1_10.out; obtain ⟨n9_3, n9_4, n9_5⟩ := T2_10.out; obtain ⟨n9_6, n9_7, n9_8⟩ := X6_10.out; obtain ⟨n9_9, n9_10, n9_11⟩ := X7_10.out))
      go_wp2_with (fail)
      go_region_held3 (fun w' => (w'.cell? ⟨b1, 0, none⟩ = some (.int .i64 r) ∧ w'.cell? ⟨b1, 1, none⟩ = some (.int .i64 c) ∧ w'.cell? ⟨b1, 2, none⟩ = some (.slice p xs.length cap)) ∧ (w'.cell? ⟨b2, 0, none⟩ = some (.int .i64 r2) ∧ w'.cell? ⟨b2, 1, none⟩ = some (.int .i64 c2) ∧ w'.cell? ⟨b2, 2, none⟩ = some (.slice q ys.length cap2)) ∧ (w'.cell? ⟨x6, 0, none⟩ = some (.int .i64 r) ∧ w'.cell? ⟨x6, 1, none⟩ = some (.int .i64 c) ∧ w'.cell? ⟨x6, 2, none⟩ = some (.slice (some ⟨g6, 0, none⟩) xs.length xs.length)) ∧ (w'.cell? ⟨x7, 0, none⟩ = some (.int .i64 r2) ∧ w'.cell? ⟨x7, 1, none⟩ = some (.int .i64 c2) ∧ w'.cell? ⟨x7, 2, none⟩ = some (.slice (some ⟨g7, 0, none⟩) ys.length ys.length))) (go_keep)
        (first
          | (go_at_call 8; (with_reducible refine (toTable_any r2 c2 q cap2 ys _ ?_ HY.out hy1).mono ?_); exact A2_10.out.drewN _; rintro e v11 ⟨g11, rfl, o11, hb11⟩; have A1_11 := hid (SL.below_all (A1_10.out.drewN 1) hb11); have A2_11 := hid (SL.below_all (A2_10.out.drewN 1) hb11); have T1_11 := hid (TC.below (T1_10.out.drewN 1) hb11); have T2_11 := hid (TC.below (T2_10.out.drewN 1) hb11); have B_11 := hid (below_step (below_drewN B_10.out 1) hb11 (Nat.le_refl _)); have F6_11 := hid (OF.below (F6_10.out.drewN 1) hb11); have X6_11 := hid (TC.below (X6_10.out.drewN 1) hb11); have F7_11 := hid (OF.below (F7_10.out.drewN 1) hb11); have X7_11 := hid (TC.below (X7_10.out.drewN 1) hb11); obtain ⟨m11_0, m11_1, m11_2⟩ := T1_11.out; obtain ⟨m11_3, m11_4, m11_5⟩ := T2_11.out; obtain ⟨m11_6, m11_7, m11_8⟩ := X6_11.out; obtain ⟨m11_9, m11_10, m11_11⟩ := X7_11.out)
          | (go_at_call 10; refine (eqTable_same r2 c2 _ _ _ _ ys ys _ ?_ ?_ HY.out HY.out rfl hy1).mono ?_; exact (OF.sl F7_11.out).1; exact (OF.sl o11).1; rintro e v12 ⟨rfl, hb12⟩; have A1_12 := hid (SL.below_all A1_11.out hb12); have A2_12 := hid (SL.below_all A2_11.out hb12); have T1_12 := hid (TC.below T1_11.out hb12); have T2_12 := hid (TC.below T2_11.out hb12); have B_12 := hid (below_step B_11.out hb12 (Nat.le_refl _)); have F6_12 := hid (OF.below F6_11.out hb12); have X6_12 := hid (TC.below X6_11.out hb12); have F7_12 := hid (OF.below F7_11.out hb12); have X7_12 := hid (TC.below X7_11.out hb12); obtain ⟨n11_0, n11_1, n11_2⟩ := T1_12.out; obtain ⟨n11_3, n11_4, n11_5⟩ := T2_12.out; obtain ⟨n11_6, n11_7, n11_8⟩ := X6_12.out; obtain ⟨n11_9, n11_10, n11_11⟩ := X7_12.out))
      go_wp2_with (fail)
      go_ret
      first | exact ⟨rfl, B_12.out⟩ | exact ⟨rfl, below_drewN B_12.out _⟩
    · have hbi : ((xs.length : Int) ≤ 1048576) := by omega
      have hns : decide ((1048576 : Int) - (xs.length : Int) < 0) = false := decide_eq_false (by omega)
      go_enter Try.func3, Try.ntmps3
      go_wp2_with (fail)
      refine (szTable_fit r c p xs.length cap _ _ hbi (by omega)).mono ?_
      rintro e v1 ⟨rfl, hb1⟩
      have T2_1 := hid (TC.below T2_0.out hb1)
      have B_1 := hid (below_step B_0.out hb1 (Nat.le_refl _))
      clear hb1
      obtain ⟨ca0, ca1, ca3⟩ := T2_1.out
      go_wp2_with (fail)
      refine (szTable_not r2 c2 q ys.length cap2 _ _ (by omega) (by omega) (by omega)).mono ?_
      rintro e v2 ⟨rfl, hb2⟩
      go_wp2_with (fail)
      go_ret
      exact ⟨rfl, below_step B_1.out hb2 (Nat.le_refl _)⟩
  · go_enter Try.func3, Try.ntmps3
    go_wp2_with (fail)
    refine (szTable_not r c p xs.length cap _ _ (by omega) (by omega) (by omega)).mono ?_
    rintro e v1 ⟨rfl, hb1⟩
    go_wp2_with (fail)
    go_ret
    exact ⟨rfl, below_step B_0.out hb1 (Nat.le_refl _)⟩
end Go.Proofs.Ytgojfjaballbfaa
