/-
  THE REFERENCE's DRAWN LISTS OF NUMBERS. Own work; no condition beyond what each theorem names.
-/
import Derived.Test.YtgfnchggflecgaaGreatDoorNc
import Derived.Test.YtgfnchggflecgaaGreatDoorTv
namespace Go.Proofs.YtgfnchggflecgaaGreatDoor
open Go.RowKit
set_option linter.unusedVariables false

theorem SR.grown {base b : Nat} {p : Option Addr} {cap : Nat} {zs : List Int} {N : Nat} {w w' : World} {g : Nat} (h : SR base w b p cap zs N) (hg : w.grownBy w' (some g)) (hgb : b < g) : SR base w' b p cap zs N := by
  obtain ⟨c0, ⟨k, hk0, c1⟩, ⟨s, hs, c2⟩, hf, hS, hbb, hlt, hp, hz, hm⟩ := h
  have hblk := hg.block b hlt (by simp; omega)
  refine ⟨?_, ⟨k, hk0, ?_⟩, ⟨s, hs, ?_⟩, fun t => ?_, hS.grown hg (fun hz a ha he => ?_), hbb, Nat.lt_of_lt_of_le hlt hg.size, hp, hz, hm⟩
  · rw [World.cell?_of_block (w := w) (a := ⟨b, 0, none⟩) hblk]; exact c0
  · rw [World.cell?_of_block (w := w) (a := ⟨b, 1, none⟩) hblk]; exact c1
  · rw [World.cell?_of_block (w := w) (a := ⟨b, 2, none⟩) hblk]; exact c2
  · have := hf t
    unfold World.frozen? at this ⊢
    rw [hblk]
    exact this
  · have h1 := hp hz a ha
    have h2 : a.block = g := by simpa using he
    omega
theorem info_f32n : (Tryz.prog.info? 24).map (fun i => (i.zero, i.size, i.bytes)) = some (some (.float .f32 0), 1, 4) := by kernel_rfl
set_option maxRecDepth 100000 in
set_option maxHeartbeats 1600000 in
theorem l01DrawFloats_any (base b : Nat) (p : Option Addr) (cap : Nat) (cs : List Int) (m : Nat) (hm : m ≤ 11) (w : World) (h : SR base w b p cap cs 0) (hb0 : base ≤ w.heap.size) :
    Calls Tryz.prog 29 #[.pointer (some ⟨b, 0, none⟩), .int .i64 (m : Int)] w fun e w' => (∃ v zs, e = .returned v ∧ OF w' w.heap.size v zs ∧ zs.length = m) ∧ Below base w w' := by
  obtain ⟨i0, hi, hz0, hz1, hz2⟩ := info_parts info_f32n
  obtain ⟨base3, hbase⟩ : ∃ base3, w.heap.size = base3 := ⟨_, rfl⟩
  have hblt : b < base3 := by rw [← hbase]; exact h.2.2.2.2.2.2.1
  have hbb : base ≤ b := h.2.2.2.2.2.1
  have HM0 := hid (OF.made w (base := base3) (by omega))
  have HA0 := hid ((Below.refl base w).alloc hb0 (.cells #[] 24))
  have HSA := hid (h.below ((Below.refl w.heap.size w).alloc (Nat.le_refl _) (.cells #[] 24)))
  have HO := hid (one_any base b p cap cs 0 (by omega) 4 (by omega) (by omega) _ HSA.out)
  have HBASE := hid hbase
  rw [hbase] at HM0
  have HBB := hid hbb
  have HBL := hid hblt
  clear h
  go_enter Tryz.func29, Tryz.ntmps29
  go_wp2_with (fail)
  refine HO.out.mono ?_
  rintro e w1 ⟨⟨bb, rfl⟩, hs1, hg1⟩
  have HS1 := hid hs1
  have HB1 : Hid (Below base w w1) := HA0.out.grown hg1 (by simp; omega) (fun k hk => by cases hk; exact hbb)
  have HO1 := hid (HM0.out.kept hg1 (Or.inr (by simp [Value.ownBlock]; omega)))
  have hw1 : base3 ≤ w1.heap.size := by have := hg1.size; simp at this; omega
  clear hs1 hg1 HO HSA HA0 HM0
  go_wp2_with (fail)
  go_loopw [1, 5] (fun n o wr => ∃ (k r : Nat) (zs : List Nat) (g cp : Nat), k + r = m ∧ n = .int .i64 r ∧ o = .slice (some ⟨g, 0, none⟩) zs.length cp ∧ zs.length = k ∧ Hid (OF wr base3 (.slice (some ⟨g, 0, none⟩) zs.length cp) zs) ∧ Hid (SR base wr b p cap cs (2 + 12 * k)) ∧ Hid (Below base w wr)) (fun n _ _ => (intOf n).toNat)
  case atStart => exact ⟨0, m, [], base3, 0, by omega, rfl, rfl, rfl, HO1, HS1, HB1⟩
  case round =>
    obtain ⟨k, r, zs, g, cp, hkr, rfl, rfl, hzl, HO2, HS2, HB2⟩ := hrel
    have HZL := hid hzl
    have hzb : zs.length ≤ 11 := by omega
    have hws : base3 ≤ wr.heap.size := by
      have := (World.ownsRow.lt HO2.out.1 g rfl)
      omega
    have hgb : b < g := by have := (World.ownsRow.lt HO2.out.1 g rfl).1; omega
    clear hzl
    by_cases hr0 : 0 < r
    · have HD := hid (l01DrawFloat_any base b p cap cs (2 + 12 * k) (by omega) wr HS2.out)
      have HP := hid (l01DrawPlain_any base b p cap cs (2 + 12 * k) (by omega) wr HS2.out)
      have fin : ∀ (w2 : World) (x : Nat), x < 4294967296 → SK base wr w2 b p cap cs (2 + 12 * (k + 1)) → ∀ v' w3, w3.ownsRow base3 24 1 v' (zs.length + 1) (zs.map (.float .f32) ++ [.float .f32 x]) → (w2.alloc (.cells #[.float .f32 x] 24)).grownBy w3 (some g) →
          ∃ g' cap', v' = .slice (some ⟨g', 0, none⟩) (zs.length + 1) cap' ∧ Hid (OF w3 base3 (.slice (some ⟨g', 0, none⟩) (zs ++ [x]).length cap') (zs ++ [x])) ∧ Hid (SR base w3 b p cap cs (2 + 12 * (k + 1))) ∧ Hid (Below base w w3) := by
        intro w2 x hx hsk v' w3 hown hgrow
        obtain ⟨g', cap', rfl, hO⟩ := OF.of_app (l := zs) (x := x) hown HO2.out.2 hx
        have hsz : base ≤ wr.heap.size := by have := HBB.out; omega
        have hb2 := hsk.below HB2.out hsz
        have hs2 := hsk.2.size
        refine ⟨g', cap', rfl, by unfold Hid; rw [List.length_append]; exact hO, ?_, ?_⟩
        · exact (hsk.1.below ((Below.refl w2.heap.size w2).alloc (Nat.le_refl _) _)).grown hgrow hgb
        · exact (hb2.alloc (by omega) _).grown hgrow (by simp; omega) (fun k hk => by cases hk; omega)
      have FIN := hid fin
      have HOW := hid (fun (w2 : World) (x N : Nat) (hsk : SK base wr w2 b p cap cs N) => (((HO2.out.kept hsk.2 (Or.inr (by simp [Value.ownBlock]; omega))).allocd (.cells #[.float .f32 x] 24))).1)
      clear fin
      have hd0 : decide ((0 : Int) < (r : Int)) = true := decide_eq_true (by omega)
      cases bb
      · go_wp2_with (fail)
        refine HP.out.mono ?_
        rintro e w2 ⟨⟨x, rfl, hx⟩, hsk⟩
        have HSK := hid hsk
        have hw2 : base3 ≤ w2.heap.size := by have := hsk.2.size; omega
        clear hsk HD HP
        go_wp2_with (at_builtin; refine StopT.out ?_)
        refine ⟨?_⟩
        refine wpList_append_own _ rfl _ _ 30 rfl base3 24 i0 (.float .f32 0) 1 4 Tryz.underlying30 hi hz0 hz1 hz2 rfl (by decide) (.slice (some ⟨g, 0, none⟩) zs.length cp) zs.length (zs.map (.float .f32)) rfl (HOW.out w2 x _ HSK.out) ⟨_, 0, none⟩ 1 1 [.float .f32 x] rfl rfl (cell_one_new _ _ _) ?c2 ?c3 ?c4 ?c5 ?_
        case c2 => intro u hu; simp at hu; subst hu; rfl
        case c3 => skip; unfold maxLen; omega
        case c4 => skip; omega
        case c5 => simp; omega
        intro v' w3 hown' hgrow _
        obtain ⟨g', cap', rfl, HO3, HS3, HB3⟩ := FIN.out w2 x hx ⟨HSK.out.1.mono (by omega), HSK.out.2⟩ _ _ hown' hgrow
        clear hown' hgrow FIN HOW
        go_wp2_with (fail)
        go_roundw
        case rel => exact ⟨k + 1, r - 1, zs ++ [x], g', cap', by omega, by first | go_num | (congr 1; omega), by simp, by rw [List.length_append, HZL.out]; rfl, HO3, HS3, HB3⟩
        case measure => simp [intOf]; omega
      · go_wp2_with (fail)
        refine HD.out.mono ?_
        rintro e w2 ⟨⟨x, rfl, hx⟩, hsk⟩
        have HSK := hid hsk
        have hw2 : base3 ≤ w2.heap.size := by have := hsk.2.size; omega
        clear hsk HD HP
        go_wp2_with (at_builtin; refine StopT.out ?_)
        refine ⟨?_⟩
        refine wpList_append_own _ rfl _ _ 30 rfl base3 24 i0 (.float .f32 0) 1 4 Tryz.underlying30 hi hz0 hz1 hz2 rfl (by decide) (.slice (some ⟨g, 0, none⟩) zs.length cp) zs.length (zs.map (.float .f32)) rfl (HOW.out w2 x _ HSK.out) ⟨_, 0, none⟩ 1 1 [.float .f32 x] rfl rfl (cell_one_new _ _ _) ?c2 ?c3 ?c4 ?c5 ?_
        case c2 => intro u hu; simp at hu; subst hu; rfl
        case c3 => skip; unfold maxLen; omega
        case c4 => skip; omega
        case c5 => simp; omega
        intro v' w3 hown' hgrow _
        obtain ⟨g', cap', rfl, HO3, HS3, HB3⟩ := FIN.out w2 x hx ⟨HSK.out.1.mono (by omega), HSK.out.2⟩ _ _ hown' hgrow
        clear hown' hgrow FIN HOW
        go_wp2_with (fail)
        go_roundw
        case rel => exact ⟨k + 1, r - 1, zs ++ [x], g', cap', by omega, by first | go_num | (congr 1; omega), by simp, by rw [List.length_append, HZL.out]; rfl, HO3, HS3, HB3⟩
        case measure => simp [intOf]; omega
    · have hrz : r = 0 := by omega
      subst hrz
      go_wp2_with (fail)
      go_ret
      exact ⟨⟨_, zs, rfl, by rw [HBASE.out]; exact HO2.out, by rw [HZL.out]; omega⟩, HB2.out⟩
end Go.Proofs.YtgfnchggflecgaaGreatDoor
