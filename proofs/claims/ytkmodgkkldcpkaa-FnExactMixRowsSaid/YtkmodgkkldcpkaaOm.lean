/-
  A LAW WHOSE RESULT IS A ROW OF ITS OWN: the walk. Printed by wip/tools/gen_rowlaw.py. Own work.
-/
import Derived.Test.YtkmodgkkldcpkaaOb
namespace Go.Proofs.Ytkmodgkkldcpkaa
open Go.RowKit
set_option maxHeartbeats 1600000 in
theorem FnExactMixRows_walk (a0 : Option Addr) (len0 cap0 : Nat) (z0 : List Nat) (a1 : Option Addr) (len1 cap1 : Nat) (z1 : List Nat) (a2 : Nat) (w : World) (w0 : z0.length = len0 ∧ len0 ≤ maxLen ∧ SL (.float .f32) 0 w a0 z0 ∧ ∀ z ∈ z0, z < 4294967296) (w1 : z1.length = len1 ∧ len1 ≤ maxLen ∧ SL (.float .f32) 0 w a1 z1 ∧ ∀ z ∈ z1, z < 4294967296) (w2 : (Lit.float .f32 a2).wf = true) :
    Calls Try.prog 5 #[.slice a0 len0 cap0, .slice a1 len1 cap1, .float .f32 a2] w fun e w' => e = .returned (.bool true) ∧ Below w.heap.size w w' := by
  obtain ⟨rfl, hm0, hs0, hz0⟩ := w0
  have HZ0 := hid hz0
  unfold maxLen at hm0
  have A0_0 := hid hs0
  have LB0 := hid hs0.lt
  clear hs0 hz0
  obtain ⟨rfl, hm1, hs1, hz1⟩ := w1
  have HZ1 := hid hz1
  unfold maxLen at hm1
  have A1_0 := hid hs1
  have LB1 := hid hs1.lt
  clear hs1 hz1
  have fx2 := fl_of_wf w2
  generalize nf .f32 a2 = u2 at fx2
  clear w2
  by_cases hbig0 : z0.length ≤ 1048576
  · skip
    by_cases hbig1 : z1.length ≤ 1048576
    · skip
      obtain ⟨bb, hbb⟩ : ∃ bb, mixB u2 (us z0) (us z1) = bb := ⟨_, rfl⟩
      obtain ⟨ll, hll⟩ : ∃ ll, mixL u2 (us z0) (us z1) = ll := ⟨_, rfl⟩
      have HLEN : Hid ((if bb then ll else []).length ≤ 1048576) := by
        have h0 := mixB_len u2 (us z0) (us z1)
        rw [hbb, hll] at h0
        unfold Hid
        cases bb
        · simp
        · exact h0 rfl
      have HBB := hid hbb
      have HLL := hid hll
      clear hbb hll
      have B_0 : Hid (Below w.heap.size w w) := Below.refl _ _
      go_enter Try.func5, Try.ntmps5
      go_wp2_with (fail)
      refine (toFloat32S_any _ _ _ _ (by first | exact A0_0.out | exact A0_0.out.drewN _) hbig0).mono ?_
      rintro e v1 ⟨⟨gs0, rfl, hgs0, hos0⟩, hbs0⟩
      obtain ⟨bs0, hs0, hszs0⟩ : ∃ b, OF v1 b (.slice (some ⟨gs0, 0, none⟩) z0.length z0.length) z0 ∧ w.heap.size ≤ b := ⟨_, ⟨hos0, HZ0.out⟩, Nat.le_refl _⟩
      have HBs0 : Hid (w.heap.size ≤ bs0) := Nat.le_trans B_0.out.size hszs0
      have A0_1 : Hid (SL (.float .f32) 0 v1 a0 z0) := by first | exact A0_0.out.below_all hbs0 | exact (A0_0.out.drewN _).below_all hbs0
      clear A0_0
      have A1_1 : Hid (SL (.float .f32) 0 v1 a1 z1) := by first | exact A1_0.out.below_all hbs0 | exact (A1_0.out.drewN _).below_all hbs0
      clear A1_0
      have B_1 : Hid (Below w.heap.size w v1) := by first | exact B_0.out.trans (hbs0.mono B_0.out.size) | exact (below_drewN B_0.out _).trans (hbs0.mono B_0.out.size)
      clear B_0
      have Fs0_1 := hid hs0
      clear hos0 hs0 hbs0 hszs0 hgs0
      go_wp2_with (fail)
      refine (toFloat32S_any _ _ _ _ (by first | exact A1_1.out | exact A1_1.out.drewN _) hbig1).mono ?_
      rintro e v2 ⟨⟨gs1, rfl, hgs1, hos1⟩, hbs1⟩
      obtain ⟨bs1, hs1, hszs1⟩ : ∃ b, OF v2 b (.slice (some ⟨gs1, 0, none⟩) z1.length z1.length) z1 ∧ v1.heap.size ≤ b := ⟨_, ⟨hos1, HZ1.out⟩, Nat.le_refl _⟩
      have NE_Fs0_s1 := hid (apart_lt Fs0_1.out.1 hs1.1 hszs1)
      have NE_Fs1_s0 := hid (apart_gt Fs0_1.out.1 hs1.1 hszs1)
      have HBs1 : Hid (w.heap.size ≤ bs1) := Nat.le_trans B_1.out.size hszs1
      have A0_2 : Hid (SL (.float .f32) 0 v2 a0 z0) := by first | exact A0_1.out.below_all hbs1 | exact (A0_1.out.drewN _).below_all hbs1
      clear A0_1
      have A1_2 : Hid (SL (.float .f32) 0 v2 a1 z1) := by first | exact A1_1.out.below_all hbs1 | exact (A1_1.out.drewN _).below_all hbs1
      clear A1_1
      have Fs0_2 : Hid (OF v2 bs0 (.slice (some ⟨gs0, 0, none⟩) z0.length z0.length) z0) := by first | exact Fs0_1.out.below hbs1 | exact (Fs0_1.out.drewN _).below hbs1
      clear Fs0_1
      have B_2 : Hid (Below w.heap.size w v2) := by first | exact B_1.out.trans (hbs1.mono B_1.out.size) | exact (below_drewN B_1.out _).trans (hbs1.mono B_1.out.size)
      clear B_1
      have Fs1_2 := hid hs1
      clear hos1 hs1 hbs1 hszs1 hgs1
      go_wp2_with (fail)
      refine (sMixRows_any _ _ _ _ _ _ _ _ _ (OF.sl (by first | exact Fs0_2.out | exact Fs0_2.out.drewN _)).1 HZ0.out hbig0 (OF.sl (by first | exact Fs1_2.out | exact Fs1_2.out.drewN _)).1 HZ1.out hbig1 fx2).mono ?_
      rw [HBB.out, HLL.out]
      rintro e v3 ⟨xW, rW, rfl, hoW, huW, hbW⟩
      obtain ⟨pW, cW, rfl⟩ := hoW.form
      obtain ⟨bW, hW, hszW⟩ : ∃ b, OF v3 b (.slice pW rW.length cW) rW ∧ v2.heap.size ≤ b := ⟨_, hoW, Nat.le_refl _⟩
      have NE_Fs0_W := hid (apart_lt Fs0_2.out.1 hW.1 hszW)
      have NE_FW_s0 := hid (apart_gt Fs0_2.out.1 hW.1 hszW)
      have NE_Fs1_W := hid (apart_lt Fs1_2.out.1 hW.1 hszW)
      have NE_FW_s1 := hid (apart_gt Fs1_2.out.1 hW.1 hszW)
      have HBW : Hid (w.heap.size ≤ bW) := Nat.le_trans B_2.out.size hszW
      have A0_3 : Hid (SL (.float .f32) 0 v3 a0 z0) := by first | exact A0_2.out.below_all hbW | exact (A0_2.out.drewN _).below_all hbW
      clear A0_2
      have A1_3 : Hid (SL (.float .f32) 0 v3 a1 z1) := by first | exact A1_2.out.below_all hbW | exact (A1_2.out.drewN _).below_all hbW
      clear A1_2
      have Fs0_3 : Hid (OF v3 bs0 (.slice (some ⟨gs0, 0, none⟩) z0.length z0.length) z0) := by first | exact Fs0_2.out.below hbW | exact (Fs0_2.out.drewN _).below hbW
      clear Fs0_2
      have Fs1_3 : Hid (OF v3 bs1 (.slice (some ⟨gs1, 0, none⟩) z1.length z1.length) z1) := by first | exact Fs1_2.out.below hbW | exact (Fs1_2.out.drewN _).below hbW
      clear Fs1_2
      have B_3 : Hid (Below w.heap.size w v3) := by first | exact B_2.out.trans (hbW.mono B_2.out.size) | exact (below_drewN B_2.out _).trans (hbW.mono B_2.out.size)
      clear B_2
      have FW_3 := hid hW
      have UW := hid huW
      clear hoW hW hbW hszW huW
      have HRW := hid FW_3.out.2
      go_wp2_with (fail)
      refine (toFloat32S_any _ _ _ _ (by first | exact A0_3.out | exact A0_3.out.drewN _) hbig0).mono ?_
      rintro e v4 ⟨⟨gx0, rfl, hgx0, hox0⟩, hbx0⟩
      obtain ⟨bx0, hx0, hszx0⟩ : ∃ b, OF v4 b (.slice (some ⟨gx0, 0, none⟩) z0.length z0.length) z0 ∧ v3.heap.size ≤ b := ⟨_, ⟨hox0, HZ0.out⟩, Nat.le_refl _⟩
      have NE_FW_x0 := hid (apart_lt FW_3.out.1 hx0.1 hszx0)
      have NE_Fx0_W := hid (apart_gt FW_3.out.1 hx0.1 hszx0)
      have HBx0 : Hid (w.heap.size ≤ bx0) := Nat.le_trans B_3.out.size hszx0
      have A0_4 : Hid (SL (.float .f32) 0 v4 a0 z0) := by first | exact A0_3.out.below_all hbx0 | exact (A0_3.out.drewN _).below_all hbx0
      clear A0_3
      have A1_4 : Hid (SL (.float .f32) 0 v4 a1 z1) := by first | exact A1_3.out.below_all hbx0 | exact (A1_3.out.drewN _).below_all hbx0
      clear A1_3
      have FW_4 : Hid (OF v4 bW (.slice pW rW.length cW) rW) := by first | exact FW_3.out.below hbx0 | exact (FW_3.out.drewN _).below hbx0
      clear FW_3
      have B_4 : Hid (Below w.heap.size w v4) := by first | exact B_3.out.trans (hbx0.mono B_3.out.size) | exact (below_drewN B_3.out _).trans (hbx0.mono B_3.out.size)
      clear B_3
      have Fx0_4 := hid hx0
      clear hox0 hx0 hbx0 hszx0 hgx0
      go_wp2_with (fail)
      refine (toFloat32S_any _ _ _ _ (by first | exact A1_4.out | exact A1_4.out.drewN _) hbig1).mono ?_
      rintro e v5 ⟨⟨gx1, rfl, hgx1, hox1⟩, hbx1⟩
      obtain ⟨bx1, hx1, hszx1⟩ : ∃ b, OF v5 b (.slice (some ⟨gx1, 0, none⟩) z1.length z1.length) z1 ∧ v4.heap.size ≤ b := ⟨_, ⟨hox1, HZ1.out⟩, Nat.le_refl _⟩
      have NE_FW_x1 := hid (apart_lt FW_4.out.1 hx1.1 hszx1)
      have NE_Fx1_W := hid (apart_gt FW_4.out.1 hx1.1 hszx1)
      have NE_Fx0_x1 := hid (apart_lt Fx0_4.out.1 hx1.1 hszx1)
      have NE_Fx1_x0 := hid (apart_gt Fx0_4.out.1 hx1.1 hszx1)
      have HBx1 : Hid (w.heap.size ≤ bx1) := Nat.le_trans B_4.out.size hszx1
      have A0_5 : Hid (SL (.float .f32) 0 v5 a0 z0) := by first | exact A0_4.out.below_all hbx1 | exact (A0_4.out.drewN _).below_all hbx1
      clear A0_4
      have A1_5 : Hid (SL (.float .f32) 0 v5 a1 z1) := by first | exact A1_4.out.below_all hbx1 | exact (A1_4.out.drewN _).below_all hbx1
      clear A1_4
      have FW_5 : Hid (OF v5 bW (.slice pW rW.length cW) rW) := by first | exact FW_4.out.below hbx1 | exact (FW_4.out.drewN _).below hbx1
      clear FW_4
      have Fx0_5 : Hid (OF v5 bx0 (.slice (some ⟨gx0, 0, none⟩) z0.length z0.length) z0) := by first | exact Fx0_4.out.below hbx1 | exact (Fx0_4.out.drewN _).below hbx1
      clear Fx0_4
      have B_5 : Hid (Below w.heap.size w v5) := by first | exact B_4.out.trans (hbx1.mono B_4.out.size) | exact (below_drewN B_4.out _).trans (hbx1.mono B_4.out.size)
      clear B_4
      have Fx1_5 := hid hx1
      clear hox1 hx1 hbx1 hszx1 hgx1
      go_wp2_with (fail)
      refine (MixRows_any _ _ _ _ _ _ _ _ _ (OF.sl (by first | exact Fx0_5.out | exact Fx0_5.out.drewN _)).1 HZ0.out hbig0 (OF.sl (by first | exact Fx1_5.out | exact Fx1_5.out.drewN _)).1 HZ1.out hbig1 fx2).mono ?_
      rw [HBB.out, HLL.out]
      rintro e v6 ⟨xG, rG, rfl, hoG, huG, hbG⟩
      obtain ⟨pG, cG, rfl⟩ := hoG.form
      obtain ⟨bG, hG, hszG⟩ : ∃ b, OF v6 b (.slice pG rG.length cG) rG ∧ v5.heap.size ≤ b := ⟨_, hoG, Nat.le_refl _⟩
      have NE_FW_G := hid (apart_lt FW_5.out.1 hG.1 hszG)
      have NE_FG_W := hid (apart_gt FW_5.out.1 hG.1 hszG)
      have NE_Fx0_G := hid (apart_lt Fx0_5.out.1 hG.1 hszG)
      have NE_FG_x0 := hid (apart_gt Fx0_5.out.1 hG.1 hszG)
      have NE_Fx1_G := hid (apart_lt Fx1_5.out.1 hG.1 hszG)
      have NE_FG_x1 := hid (apart_gt Fx1_5.out.1 hG.1 hszG)
      have HBG : Hid (w.heap.size ≤ bG) := Nat.le_trans B_5.out.size hszG
      have A0_6 : Hid (SL (.float .f32) 0 v6 a0 z0) := by first | exact A0_5.out.below_all hbG | exact (A0_5.out.drewN _).below_all hbG
      clear A0_5
      have A1_6 : Hid (SL (.float .f32) 0 v6 a1 z1) := by first | exact A1_5.out.below_all hbG | exact (A1_5.out.drewN _).below_all hbG
      clear A1_5
      have FW_6 : Hid (OF v6 bW (.slice pW rW.length cW) rW) := by first | exact FW_5.out.below hbG | exact (FW_5.out.drewN _).below hbG
      clear FW_5
      have Fx0_6 : Hid (OF v6 bx0 (.slice (some ⟨gx0, 0, none⟩) z0.length z0.length) z0) := by first | exact Fx0_5.out.below hbG | exact (Fx0_5.out.drewN _).below hbG
      clear Fx0_5
      have Fx1_6 : Hid (OF v6 bx1 (.slice (some ⟨gx1, 0, none⟩) z1.length z1.length) z1) := by first | exact Fx1_5.out.below hbG | exact (Fx1_5.out.drewN _).below hbG
      clear Fx1_5
      have B_6 : Hid (Below w.heap.size w v6) := by first | exact B_5.out.trans (hbG.mono B_5.out.size) | exact (below_drewN B_5.out _).trans (hbG.mono B_5.out.size)
      clear B_5
      have FG_6 := hid hG
      have UG := hid huG
      clear hoG hG hbG hszG huG
      have HRG := hid FG_6.out.2
      have LGW : Hid (rW.length = rG.length) := by unfold Hid; rw [← us_len rW, ← us_len rG, UW.out, UG.out]
      have hrl : rG.length ≤ 1048576 := by rw [← us_len rG, UG.out]; exact HLEN.out
      cases bb
      all_goals
        go_wp2_with (fail)
        refine (eqFloat32S_same _ _ _ _ _ _ _ (OF.sl (by first | exact FG_6.out | exact FG_6.out.drewN _)).1 (OF.sl (by first | exact FW_6.out | exact FW_6.out.drewN _)).1 HRG.out HRW.out (by rw [UG.out, UW.out]) (by omega) _ (by first | rfl | exact LGW.out | exact LHW.out)).mono ?_
        rintro e w' ⟨rfl, n1, rfl⟩
        go_wp2_with (fail)
        refine (toFloat32S_any _ _ _ _ (by first | exact A0_6.out | exact A0_6.out.drewN _) hbig0).mono ?_
        rintro e v7 ⟨⟨gy0, rfl, hgy0, hoy0⟩, hby0⟩
        obtain ⟨by0, hy0, hszy0⟩ : ∃ b, OF v7 b (.slice (some ⟨gy0, 0, none⟩) z0.length z0.length) z0 ∧ v6.heap.size ≤ b := ⟨_, ⟨hoy0, HZ0.out⟩, Nat.le_refl _⟩
        have NE_FW_y0 := hid (apart_lt FW_6.out.1 hy0.1 hszy0)
        have NE_Fy0_W := hid (apart_gt FW_6.out.1 hy0.1 hszy0)
        have NE_Fx0_y0 := hid (apart_lt Fx0_6.out.1 hy0.1 hszy0)
        have NE_Fy0_x0 := hid (apart_gt Fx0_6.out.1 hy0.1 hszy0)
        have NE_Fx1_y0 := hid (apart_lt Fx1_6.out.1 hy0.1 hszy0)
        have NE_Fy0_x1 := hid (apart_gt Fx1_6.out.1 hy0.1 hszy0)
        have NE_FG_y0 := hid (apart_lt FG_6.out.1 hy0.1 hszy0)
        have NE_Fy0_G := hid (apart_gt FG_6.out.1 hy0.1 hszy0)
        have HBy0 : Hid (w.heap.size ≤ by0) := Nat.le_trans B_6.out.size hszy0
        have A0_7 : Hid (SL (.float .f32) 0 v7 a0 z0) := by first | exact A0_6.out.below_all hby0 | exact (A0_6.out.drewN _).below_all hby0
        clear A0_6
        have A1_7 : Hid (SL (.float .f32) 0 v7 a1 z1) := by first | exact A1_6.out.below_all hby0 | exact (A1_6.out.drewN _).below_all hby0
        clear A1_6
        have FW_7 : Hid (OF v7 bW (.slice pW rW.length cW) rW) := by first | exact FW_6.out.below hby0 | exact (FW_6.out.drewN _).below hby0
        clear FW_6
        have Fx0_7 : Hid (OF v7 bx0 (.slice (some ⟨gx0, 0, none⟩) z0.length z0.length) z0) := by first | exact Fx0_6.out.below hby0 | exact (Fx0_6.out.drewN _).below hby0
        clear Fx0_6
        have Fx1_7 : Hid (OF v7 bx1 (.slice (some ⟨gx1, 0, none⟩) z1.length z1.length) z1) := by first | exact Fx1_6.out.below hby0 | exact (Fx1_6.out.drewN _).below hby0
        clear Fx1_6
        have FG_7 : Hid (OF v7 bG (.slice pG rG.length cG) rG) := by first | exact FG_6.out.below hby0 | exact (FG_6.out.drewN _).below hby0
        clear FG_6
        have B_7 : Hid (Below w.heap.size w v7) := by first | exact B_6.out.trans (hby0.mono B_6.out.size) | exact (below_drewN B_6.out _).trans (hby0.mono B_6.out.size)
        clear B_6
        have Fy0_7 := hid hy0
        clear hoy0 hy0 hby0 hszy0 hgy0
        go_wp2_with (fail)
        refine (eqFloat32S_same _ _ _ _ _ _ _ (OF.sl (by first | exact Fx0_7.out | exact Fx0_7.out.drewN _)).1 (OF.sl (by first | exact Fy0_7.out | exact Fy0_7.out.drewN _)).1 HZ0.out HZ0.out rfl (by omega) _ (by first | rfl | exact LGW.out | exact LHW.out)).mono ?_
        rintro e w' ⟨rfl, n2, rfl⟩
        go_wp2_with (fail)
        refine (toFloat32S_any _ _ _ _ (by first | exact A1_7.out | exact A1_7.out.drewN _) hbig1).mono ?_
        rintro e v8 ⟨⟨gy1, rfl, hgy1, hoy1⟩, hby1⟩
        obtain ⟨by1, hy1, hszy1⟩ : ∃ b, OF v8 b (.slice (some ⟨gy1, 0, none⟩) z1.length z1.length) z1 ∧ v7.heap.size ≤ b := ⟨_, ⟨hoy1, HZ1.out⟩, Nat.le_refl _⟩
        have NE_FW_y1 := hid (apart_lt FW_7.out.1 hy1.1 hszy1)
        have NE_Fy1_W := hid (apart_gt FW_7.out.1 hy1.1 hszy1)
        have NE_Fx0_y1 := hid (apart_lt Fx0_7.out.1 hy1.1 hszy1)
        have NE_Fy1_x0 := hid (apart_gt Fx0_7.out.1 hy1.1 hszy1)
        have NE_Fx1_y1 := hid (apart_lt Fx1_7.out.1 hy1.1 hszy1)
        have NE_Fy1_x1 := hid (apart_gt Fx1_7.out.1 hy1.1 hszy1)
        have NE_FG_y1 := hid (apart_lt FG_7.out.1 hy1.1 hszy1)
        have NE_Fy1_G := hid (apart_gt FG_7.out.1 hy1.1 hszy1)
        have HBy1 : Hid (w.heap.size ≤ by1) := Nat.le_trans B_7.out.size hszy1
        have A0_8 : Hid (SL (.float .f32) 0 v8 a0 z0) := by first | exact A0_7.out.below_all hby1 | exact (A0_7.out.drewN _).below_all hby1
        clear A0_7
        have A1_8 : Hid (SL (.float .f32) 0 v8 a1 z1) := by first | exact A1_7.out.below_all hby1 | exact (A1_7.out.drewN _).below_all hby1
        clear A1_7
        have FW_8 : Hid (OF v8 bW (.slice pW rW.length cW) rW) := by first | exact FW_7.out.below hby1 | exact (FW_7.out.drewN _).below hby1
        clear FW_7
        have Fx0_8 : Hid (OF v8 bx0 (.slice (some ⟨gx0, 0, none⟩) z0.length z0.length) z0) := by first | exact Fx0_7.out.below hby1 | exact (Fx0_7.out.drewN _).below hby1
        clear Fx0_7
        have Fx1_8 : Hid (OF v8 bx1 (.slice (some ⟨gx1, 0, none⟩) z1.length z1.length) z1) := by first | exact Fx1_7.out.below hby1 | exact (Fx1_7.out.drewN _).below hby1
        clear Fx1_7
        have FG_8 : Hid (OF v8 bG (.slice pG rG.length cG) rG) := by first | exact FG_7.out.below hby1 | exact (FG_7.out.drewN _).below hby1
        clear FG_7
        have B_8 : Hid (Below w.heap.size w v8) := by first | exact B_7.out.trans (hby1.mono B_7.out.size) | exact (below_drewN B_7.out _).trans (hby1.mono B_7.out.size)
        clear B_7
        have Fy1_8 := hid hy1
        clear hoy1 hy1 hby1 hszy1 hgy1
        go_wp2_with (fail)
        refine (eqFloat32S_same _ _ _ _ _ _ _ (OF.sl (by first | exact Fx1_8.out | exact Fx1_8.out.drewN _)).1 (OF.sl (by first | exact Fy1_8.out | exact Fy1_8.out.drewN _)).1 HZ1.out HZ1.out rfl (by omega) _ (by first | rfl | exact LGW.out | exact LHW.out)).mono ?_
        rintro e w' ⟨rfl, n3, rfl⟩
        go_wp2_with (fail)
        refine (markFloat32S_any _ _ _ _ _ (by first | exact Fx0_8.out | exact Fx0_8.out.drewN _) (by omega) (by omega) (by omega)).mono ?_
        rintro e v9 ⟨rfl, hMx0, hGx0⟩
        have A0_9 : Hid (SL (.float .f32) 0 v9 a0 z0) := by first | exact A0_8.out.mark LB0.out Fx0_8.out.1 HBx0.out hGx0 | exact (A0_8.out.drewN _).mark LB0.out Fx0_8.out.1 HBx0.out hGx0
        clear A0_8
        have A1_9 : Hid (SL (.float .f32) 0 v9 a1 z1) := by first | exact A1_8.out.mark LB1.out Fx0_8.out.1 HBx0.out hGx0 | exact (A1_8.out.drewN _).mark LB1.out Fx0_8.out.1 HBx0.out hGx0
        clear A1_8
        have FW_9 : Hid (OF v9 bW (.slice pW rW.length cW) rW) := by first | exact FW_8.out.kept hGx0 NE_FW_x0.out | exact (FW_8.out.drewN _).kept hGx0 NE_FW_x0.out
        clear FW_8
        have Fx1_9 : Hid (OF v9 bx1 (.slice (some ⟨gx1, 0, none⟩) z1.length z1.length) z1) := by first | exact Fx1_8.out.kept hGx0 NE_Fx1_x0.out | exact (Fx1_8.out.drewN _).kept hGx0 NE_Fx1_x0.out
        clear Fx1_8
        have FG_9 : Hid (OF v9 bG (.slice pG rG.length cG) rG) := by first | exact FG_8.out.kept hGx0 NE_FG_x0.out | exact (FG_8.out.drewN _).kept hGx0 NE_FG_x0.out
        clear FG_8
        have B_9 : Hid (Below w.heap.size w v9) := by first | exact below_mark B_8.out B_8.out.size Fx0_8.out.1 HBx0.out hGx0 | exact below_mark (below_drewN B_8.out _) B_8.out.size Fx0_8.out.1 HBx0.out hGx0
        clear B_8
        have Fx0_9 := hid hMx0
        clear Fx0_8 hMx0 hGx0
        go_wp2_with (fail)
        refine (markFloat32S_any _ _ _ _ _ (by first | exact Fx1_9.out | exact Fx1_9.out.drewN _) (by omega) (by omega) (by omega)).mono ?_
        rintro e v10 ⟨rfl, hMx1, hGx1⟩
        have A0_10 : Hid (SL (.float .f32) 0 v10 a0 z0) := by first | exact A0_9.out.mark LB0.out Fx1_9.out.1 HBx1.out hGx1 | exact (A0_9.out.drewN _).mark LB0.out Fx1_9.out.1 HBx1.out hGx1
        clear A0_9
        have A1_10 : Hid (SL (.float .f32) 0 v10 a1 z1) := by first | exact A1_9.out.mark LB1.out Fx1_9.out.1 HBx1.out hGx1 | exact (A1_9.out.drewN _).mark LB1.out Fx1_9.out.1 HBx1.out hGx1
        clear A1_9
        have FW_10 : Hid (OF v10 bW (.slice pW rW.length cW) rW) := by first | exact FW_9.out.kept hGx1 NE_FW_x1.out | exact (FW_9.out.drewN _).kept hGx1 NE_FW_x1.out
        clear FW_9
        have Fx0_10 : Hid (OF v10 bx0 (.slice (some ⟨gx0, 0, none⟩) z0.length z0.length) (marksF 1 z0.length)) := by first | exact Fx0_9.out.kept hGx1 NE_Fx0_x1.out | exact (Fx0_9.out.drewN _).kept hGx1 NE_Fx0_x1.out
        clear Fx0_9
        have FG_10 : Hid (OF v10 bG (.slice pG rG.length cG) rG) := by first | exact FG_9.out.kept hGx1 NE_FG_x1.out | exact (FG_9.out.drewN _).kept hGx1 NE_FG_x1.out
        clear FG_9
        have B_10 : Hid (Below w.heap.size w v10) := by first | exact below_mark B_9.out B_9.out.size Fx1_9.out.1 HBx1.out hGx1 | exact below_mark (below_drewN B_9.out _) B_9.out.size Fx1_9.out.1 HBx1.out hGx1
        clear B_9
        have Fx1_10 := hid hMx1
        clear Fx1_9 hMx1 hGx1
        have hkn : decide (((1 + (z0.length : Int)) + (z1.length : Int)) < 0) = false := decide_eq_false (by omega)
        go_wp2_with (fail)
        refine (eqFloat32S_same _ _ _ _ _ _ _ (OF.sl (by first | exact FG_10.out | exact FG_10.out.drewN _)).1 (OF.sl (by first | exact FW_10.out | exact FW_10.out.drewN _)).1 HRG.out HRW.out (by rw [UG.out, UW.out]) (by omega) _ (by first | rfl | exact LGW.out | exact LHW.out)).mono ?_
        rintro e w' ⟨rfl, n4, rfl⟩
        go_wp2_with (fail)
        refine (markFloat32S_any _ _ _ _ _ (by first | exact FG_10.out | exact FG_10.out.drewN _) (by omega) (by omega) (by omega)).mono ?_
        rintro e v11 ⟨rfl, hMG, hGG⟩
        have A0_11 : Hid (SL (.float .f32) 0 v11 a0 z0) := by first | exact A0_10.out.mark LB0.out FG_10.out.1 HBG.out hGG | exact (A0_10.out.drewN _).mark LB0.out FG_10.out.1 HBG.out hGG
        clear A0_10
        have A1_11 : Hid (SL (.float .f32) 0 v11 a1 z1) := by first | exact A1_10.out.mark LB1.out FG_10.out.1 HBG.out hGG | exact (A1_10.out.drewN _).mark LB1.out FG_10.out.1 HBG.out hGG
        clear A1_10
        have FW_11 : Hid (OF v11 bW (.slice pW rW.length cW) rW) := by first | exact FW_10.out.kept hGG NE_FW_G.out | exact (FW_10.out.drewN _).kept hGG NE_FW_G.out
        clear FW_10
        have B_11 : Hid (Below w.heap.size w v11) := by first | exact below_mark B_10.out B_10.out.size FG_10.out.1 HBG.out hGG | exact below_mark (below_drewN B_10.out _) B_10.out.size FG_10.out.1 HBG.out hGG
        clear B_10
        have FG_11 := hid hMG
        clear FG_10 hMG hGG
        have hqn : decide ((1 + (rG.length : Int)) < 0) = false := decide_eq_false (by omega)
        have hqm : ((1 + (rG.length : Int)) != (1 + (rG.length : Int))) = false := bne_eq_false_iff_eq.2 rfl
        go_wp2_with (fail)
        refine (heldFloat32S_any _ _ _ _ _ (by first | exact FG_11.out | exact FG_11.out.drewN _) (by omega) (by omega) (by omega)).mono ?_
        rintro e w' ⟨rfl, n5, rfl⟩
        go_wp2_with (fail)
        refine (toFloat32S_any _ _ _ _ (by first | exact A0_11.out | exact A0_11.out.drewN _) hbig0).mono ?_
        rintro e v12 ⟨⟨gt0, rfl, hgt0, hot0⟩, hbt0⟩
        obtain ⟨bt0, ht0, hszt0⟩ : ∃ b, OF v12 b (.slice (some ⟨gt0, 0, none⟩) z0.length z0.length) z0 ∧ v11.heap.size ≤ b := ⟨_, ⟨hot0, HZ0.out⟩, Nat.le_refl _⟩
        have NE_FW_t0 := hid (apart_lt FW_11.out.1 ht0.1 hszt0)
        have NE_Ft0_W := hid (apart_gt FW_11.out.1 ht0.1 hszt0)
        have NE_FG_t0 := hid (apart_lt FG_11.out.1 ht0.1 hszt0)
        have NE_Ft0_G := hid (apart_gt FG_11.out.1 ht0.1 hszt0)
        have HBt0 : Hid (w.heap.size ≤ bt0) := Nat.le_trans B_11.out.size hszt0
        have A0_12 : Hid (SL (.float .f32) 0 v12 a0 z0) := by first | exact A0_11.out.below_all hbt0 | exact (A0_11.out.drewN _).below_all hbt0
        clear A0_11
        have A1_12 : Hid (SL (.float .f32) 0 v12 a1 z1) := by first | exact A1_11.out.below_all hbt0 | exact (A1_11.out.drewN _).below_all hbt0
        clear A1_11
        have FW_12 : Hid (OF v12 bW (.slice pW rW.length cW) rW) := by first | exact FW_11.out.below hbt0 | exact (FW_11.out.drewN _).below hbt0
        clear FW_11
        have FG_12 : Hid (OF v12 bG (.slice pG rG.length cG) (marksF 1 rG.length)) := by first | exact FG_11.out.below hbt0 | exact (FG_11.out.drewN _).below hbt0
        clear FG_11
        have B_12 : Hid (Below w.heap.size w v12) := by first | exact B_11.out.trans (hbt0.mono B_11.out.size) | exact (below_drewN B_11.out _).trans (hbt0.mono B_11.out.size)
        clear B_11
        have Ft0_12 := hid ht0
        clear hot0 ht0 hbt0 hszt0 hgt0
        go_wp2_with (fail)
        refine (toFloat32S_any _ _ _ _ (by first | exact A1_12.out | exact A1_12.out.drewN _) hbig1).mono ?_
        rintro e v13 ⟨⟨gt1, rfl, hgt1, hot1⟩, hbt1⟩
        obtain ⟨bt1, ht1, hszt1⟩ : ∃ b, OF v13 b (.slice (some ⟨gt1, 0, none⟩) z1.length z1.length) z1 ∧ v12.heap.size ≤ b := ⟨_, ⟨hot1, HZ1.out⟩, Nat.le_refl _⟩
        have NE_FW_t1 := hid (apart_lt FW_12.out.1 ht1.1 hszt1)
        have NE_Ft1_W := hid (apart_gt FW_12.out.1 ht1.1 hszt1)
        have NE_FG_t1 := hid (apart_lt FG_12.out.1 ht1.1 hszt1)
        have NE_Ft1_G := hid (apart_gt FG_12.out.1 ht1.1 hszt1)
        have NE_Ft0_t1 := hid (apart_lt Ft0_12.out.1 ht1.1 hszt1)
        have NE_Ft1_t0 := hid (apart_gt Ft0_12.out.1 ht1.1 hszt1)
        have HBt1 : Hid (w.heap.size ≤ bt1) := Nat.le_trans B_12.out.size hszt1
        have A0_13 : Hid (SL (.float .f32) 0 v13 a0 z0) := by first | exact A0_12.out.below_all hbt1 | exact (A0_12.out.drewN _).below_all hbt1
        clear A0_12
        have A1_13 : Hid (SL (.float .f32) 0 v13 a1 z1) := by first | exact A1_12.out.below_all hbt1 | exact (A1_12.out.drewN _).below_all hbt1
        clear A1_12
        have FW_13 : Hid (OF v13 bW (.slice pW rW.length cW) rW) := by first | exact FW_12.out.below hbt1 | exact (FW_12.out.drewN _).below hbt1
        clear FW_12
        have FG_13 : Hid (OF v13 bG (.slice pG rG.length cG) (marksF 1 rG.length)) := by first | exact FG_12.out.below hbt1 | exact (FG_12.out.drewN _).below hbt1
        clear FG_12
        have Ft0_13 : Hid (OF v13 bt0 (.slice (some ⟨gt0, 0, none⟩) z0.length z0.length) z0) := by first | exact Ft0_12.out.below hbt1 | exact (Ft0_12.out.drewN _).below hbt1
        clear Ft0_12
        have B_13 : Hid (Below w.heap.size w v13) := by first | exact B_12.out.trans (hbt1.mono B_12.out.size) | exact (below_drewN B_12.out _).trans (hbt1.mono B_12.out.size)
        clear B_12
        have Ft1_13 := hid ht1
        clear hot1 ht1 hbt1 hszt1 hgt1
        go_wp2_with (fail)
        refine (MixRows_any _ _ _ _ _ _ _ _ _ (OF.sl (by first | exact Ft0_13.out | exact Ft0_13.out.drewN _)).1 HZ0.out hbig0 (OF.sl (by first | exact Ft1_13.out | exact Ft1_13.out.drewN _)).1 HZ1.out hbig1 fx2).mono ?_
        rw [HBB.out, HLL.out]
        rintro e v14 ⟨xH, rH, rfl, hoH, huH, hbH⟩
        obtain ⟨pH, cH, rfl⟩ := hoH.form
        obtain ⟨bH, hH, hszH⟩ : ∃ b, OF v14 b (.slice pH rH.length cH) rH ∧ v13.heap.size ≤ b := ⟨_, hoH, Nat.le_refl _⟩
        have NE_FW_H := hid (apart_lt FW_13.out.1 hH.1 hszH)
        have NE_FH_W := hid (apart_gt FW_13.out.1 hH.1 hszH)
        have NE_FG_H := hid (apart_lt FG_13.out.1 hH.1 hszH)
        have NE_FH_G := hid (apart_gt FG_13.out.1 hH.1 hszH)
        have NE_Ft0_H := hid (apart_lt Ft0_13.out.1 hH.1 hszH)
        have NE_FH_t0 := hid (apart_gt Ft0_13.out.1 hH.1 hszH)
        have NE_Ft1_H := hid (apart_lt Ft1_13.out.1 hH.1 hszH)
        have NE_FH_t1 := hid (apart_gt Ft1_13.out.1 hH.1 hszH)
        have HBH : Hid (w.heap.size ≤ bH) := Nat.le_trans B_13.out.size hszH
        have A0_14 : Hid (SL (.float .f32) 0 v14 a0 z0) := by first | exact A0_13.out.below_all hbH | exact (A0_13.out.drewN _).below_all hbH
        clear A0_13
        have A1_14 : Hid (SL (.float .f32) 0 v14 a1 z1) := by first | exact A1_13.out.below_all hbH | exact (A1_13.out.drewN _).below_all hbH
        clear A1_13
        have FW_14 : Hid (OF v14 bW (.slice pW rW.length cW) rW) := by first | exact FW_13.out.below hbH | exact (FW_13.out.drewN _).below hbH
        clear FW_13
        have FG_14 : Hid (OF v14 bG (.slice pG rG.length cG) (marksF 1 rG.length)) := by first | exact FG_13.out.below hbH | exact (FG_13.out.drewN _).below hbH
        clear FG_13
        have Ft0_14 : Hid (OF v14 bt0 (.slice (some ⟨gt0, 0, none⟩) z0.length z0.length) z0) := by first | exact Ft0_13.out.below hbH | exact (Ft0_13.out.drewN _).below hbH
        clear Ft0_13
        have Ft1_14 : Hid (OF v14 bt1 (.slice (some ⟨gt1, 0, none⟩) z1.length z1.length) z1) := by first | exact Ft1_13.out.below hbH | exact (Ft1_13.out.drewN _).below hbH
        clear Ft1_13
        have B_14 : Hid (Below w.heap.size w v14) := by first | exact B_13.out.trans (hbH.mono B_13.out.size) | exact (below_drewN B_13.out _).trans (hbH.mono B_13.out.size)
        clear B_13
        have FH_14 := hid hH
        have UH := hid huH
        clear hoH hH hbH hszH huH
        have HRH := hid FH_14.out.2
        have eHW : us rH = us rW := by first | (rw [UH.out, UW.out]; done) | (have e1 := UW.out; have e2 := UH.out; simp at e1 e2; rw [e1, e2])
        have LHW : Hid (rW.length = rH.length) := by unfold Hid; rw [← us_len rW, ← us_len rH, eHW]
        have hrh : rH.length ≤ 1048576 := by rw [← LHW.out, LGW.out]; exact hrl
        go_wp2_with (fail)
        refine (eqFloat32S_same _ _ _ _ _ _ _ (OF.sl (by first | exact FH_14.out | exact FH_14.out.drewN _)).1 (OF.sl (by first | exact FW_14.out | exact FW_14.out.drewN _)).1 HRH.out HRW.out eHW (by omega) _ (by first | rfl | exact LGW.out | exact LHW.out)).mono ?_
        rintro e w' ⟨rfl, n6, rfl⟩
        go_wp2_with (fail)
        refine (heldFloat32S_any _ _ _ _ _ (by first | exact FG_14.out | exact FG_14.out.drewN _) (by omega) (by omega) (by omega)).mono ?_
        rintro e w' ⟨rfl, n7, rfl⟩
        go_wp2_with (fail)
        go_ret
        exact ⟨rfl, by first | exact B_14.out | exact below_drewN B_14.out _⟩
    · go_enter Try.func5, Try.ntmps5
      go_wp2_with (fail)
      go_ret
      exact ⟨rfl, Below.refl _ _⟩
  · go_enter Try.func5, Try.ntmps5
    go_wp2_with (fail)
    go_ret
    exact ⟨rfl, Below.refl _ _⟩
end Go.Proofs.Ytkmodgkkldcpkaa
