/-
  THE CHANCE OF A TYPE: the walks. Printed by wip/tools/gen_rows.py 4. Own work.
-/
import Derived.Test.YtkmodgkkldcpkaaEb
import Derived.Test.YtkmodgkkldcpkaaSb
namespace Go.Proofs.Ytkmodgkkldcpkaa
open Go.RowKit
attribute [local go_sem] opS fineS givesS


def tcP (v u : Nat) : Nat → Nat
  | 0 => v
  | n + 1 => fbin .mul .f32 (tcP v u n) u
def tcF (w0 : Nat) (a : List Nat) (cs : List Int) : Nat := (a.zip cs).foldl (fun s x => tcP s x.1 x.2.toNat) w0
theorem tcF_succ (w0 : Nat) (a : List Nat) (cs : List Int) (k : Nat) (h : k < a.length) (hb : a.length = cs.length) :
    tcF w0 (a.take (k + 1)) (cs.take (k + 1)) = tcP (tcF w0 (a.take k) (cs.take k)) (a.getD k 0) (cs.getD k 0).toNat := by
  have hl : k < (a.zip cs).length := by simp; omega
  have : ((a.zip cs).take (k + 1)).foldl (fun s x => tcP s x.1 x.2.toNat) w0 = tcP (((a.zip cs).take k).foldl (fun s x => tcP s x.1 x.2.toNat) w0) (a.getD k 0) (cs.getD k 0).toNat := by
    rw [List.take_succ_eq_append_getElem hl, List.foldl_append]
    simp [List.getD, h, show k < cs.length by omega]
  unfold tcF
  simp only [List.zip_eq_zipWith, ← List.take_zipWith] at this ⊢
  exact this
noncomputable def tcC (a : List Nat) (cs : List Int) : Bool := typB cs && isRowB a && decide (a.length = cs.length)
def tcT (a : List Nat) (cs : List Int) : Nat := tcF (floatOfInt .f32 (wd cs)) a cs
noncomputable def tcB (a : List Nat) (cs : List Int) : Bool := tcC a cs && finB (tcT a cs)
noncomputable def tcV (a : List Nat) (cs : List Int) : Nat := if tcC a cs then numV (tcT a cs) else 0

set_option maxHeartbeats 1600000 in
theorem TypeChance_any (p q : Option Addr) (c1 c2 : Nat) (xs : List Nat) (cs : List Int) (w : World) (hs : SL (.float .f32) 0 w p xs) (hz : ∀ z ∈ xs, z < 4294967296) (hs2 : SL (.int .i64) 0 w q cs) (hm : xs.length ≤ 1048576) (hm2 : cs.length ≤ 1048576) :
    Calls Try.prog 45 #[.slice p xs.length c1, .slice q cs.length c2] w fun e w' => (∃ r, e = .returned (.tuple #[.float .f32 r, .bool (tcB (us xs) cs)]) ∧ Fl .f32 r (tcV (us xs) cs)) ∧ Dr w w' := by
  have HB : Hid (tcB (us xs) cs = (tcC (us xs) cs && finB (tcT (us xs) cs))) := rfl
  have HV : Hid (tcV (us xs) cs = if tcC (us xs) cs then numV (tcT (us xs) cs) else 0) := rfl
  have HC : Hid (tcC (us xs) cs = (typB cs && isRowB (us xs) && decide (xs.length = cs.length))) := by unfold Hid tcC; rw [us_len]
  have h0 := fz32
  have HW := hid (WordsOfType_all q c2 cs w hs2 hm2)
  have HR := hid (fun n => IsRow_any p c1 xs (w.drewN n) (hs.drewN n) hz hm)
  have l02W := fun (_ : Nat) (_ : typP cs) => True.intro
  by_cases ht : typP cs
  · by_cases hr : isRowB (us xs) = true
    · by_cases hl : xs.length = cs.length
      · have HCC : Hid (tcC (us xs) cs = true) := by unfold Hid; rw [HC.out, typB_t ht, hr, decide_eq_true hl]; rfl
        rw [HCC.out] at HB HV
        have hwv : wordsV cs = wd cs := by unfold wordsV; rw [typB_t ht]; rfl
        rw [typB_t ht] at HW
        have HWD := hid (fun n => l02W n ht)
        try rw [hwv] at HW
        rw [hr] at HR
        have hcb := hid (fun k (hk : k < cs.length) => ht.1 (cs.getD k 0) (by simp only [List.getD, List.getElem?_eq_getElem hk, Option.getD_some]; exact List.getElem_mem hk))
        have HS := hid hs
        have HZ := hid hz
        have HS2 := hid hs2
        have HL := hid hl
        have hbn : ((cs.length : Int) != (cs.length : Int)) = false := bne_eq_false_iff_eq.2 rfl
        clear hs hz hs2 ht hr hwv HC HCC l02W
        rw [hl] at HR ⊢
        go_enter Try.func45, Try.ntmps45
        go_wp2_with (fail)
        refine HW.out.mono ?_
        rintro e w' ⟨rfl, n, rfl⟩
        go_wp2_with (first | (refine wpList_fofint rfl _ _ _ rfl _ _ rfl (Option.isSome_iff_exists.2 ⟨_, (by with_reducible exact Try.underlying2)⟩) (by with_reducible exact Try.underlying58) ?_; intro _) | (refine wpList_fofint rfl _ _ _ rfl _ _ rfl (Option.isSome_iff_exists.2 ⟨_, (by with_reducible exact Try.underlying2)⟩) (by with_reducible exact Try.underlying32) ?_; intro _) | (refine wpList_fofint rfl _ _ _ rfl _ _ rfl (Option.isSome_iff_exists.2 ⟨_, (by with_reducible exact Try.underlying3)⟩) (by with_reducible exact Try.underlying58) ?_; intro _) | (refine wpList_fofint rfl _ _ _ rfl _ _ rfl (Option.isSome_iff_exists.2 ⟨_, (by with_reducible exact Try.underlying3)⟩) (by with_reducible exact Try.underlying32) ?_; intro _))
        refine (HR.out _).mono ?_
        rintro e w' ⟨rfl, n2, rfl⟩
        go_wp2_with (first | (refine wpList_fofint rfl _ _ _ rfl _ _ rfl (Option.isSome_iff_exists.2 ⟨_, (by with_reducible exact Try.underlying2)⟩) (by with_reducible exact Try.underlying58) ?_; intro _) | (refine wpList_fofint rfl _ _ _ rfl _ _ rfl (Option.isSome_iff_exists.2 ⟨_, (by with_reducible exact Try.underlying2)⟩) (by with_reducible exact Try.underlying32) ?_; intro _) | (refine wpList_fofint rfl _ _ _ rfl _ _ rfl (Option.isSome_iff_exists.2 ⟨_, (by with_reducible exact Try.underlying3)⟩) (by with_reducible exact Try.underlying58) ?_; intro _) | (refine wpList_fofint rfl _ _ _ rfl _ _ rfl (Option.isSome_iff_exists.2 ⟨_, (by with_reducible exact Try.underlying3)⟩) (by with_reducible exact Try.underlying32) ?_; intro _))
        have HX : Hid (tcT (us xs) cs = tcF (floatOfInt .f32 (wd cs)) (us xs) cs) := rfl
        generalize tcT (us xs) cs = tv at *
        obtain ⟨w0, hw0⟩ : ∃ w0, floatOfInt .f32 (wd cs) = w0 := ⟨_, rfl⟩
        rw [hw0] at HX
        have fw0 : Fl .f32 (floatOfInt .f32 (wd cs)) w0 := by rw [← hw0]; exact fl_ofInt .f32 _
        clear HW HWD HR hw0
        go_loopw [8, 34] (fun s i wr => ∃ k r : Nat, k ≤ cs.length ∧ i = .int .i64 k ∧ s = .float .f32 r ∧ Hid (Fl .f32 r (tcF w0 ((us xs).take k) (cs.take k))) ∧ ∃ n, wr = w.drewN n) (fun _ i _ => cs.length - (intOf i).toNat)
        case atStart => exact ⟨0, _, Nat.zero_le _, rfl, rfl, fw0, _, rfl⟩
        case round =>
          obtain ⟨k, r, hk, rfl, rfl, HF, n, rfl⟩ := hrel
          by_cases hlt : k < cs.length
          · obtain ⟨b, off, rfl, hc⟩ := HS.out k (by rw [HL.out]; exact hlt)
            obtain ⟨b2, off2, rfl, hc2⟩ := HS2.out k hlt
            have hI : (k : Int) < (cs.length : Int) := by omega
            have f1 := us_fl HZ.out (show k < xs.length by rw [HL.out]; exact hlt)
            obtain ⟨hcl, hch⟩ := hcb.out k hlt
            have HT := hid (tcF_succ w0 (us xs) cs k (by rw [us_len, HL.out]; exact hlt) (by rw [us_len]; exact HL.out))
            have f2 : Fl .f32 r (tcF w0 ((us xs).take k) (cs.take k)) := HF.out
            generalize (us xs).getD k 0 = u at *
            generalize xs.getD k 0 = x at *
            generalize hcc : cs.getD k 0 = c at *
            generalize tcF w0 ((us xs).take k) (cs.take k) = v at *
            clear hcc
            go_wp2_with (fail)
            go_loopw [8, 40] (fun s i wr => ∃ j r : Nat, (j : Int) ≤ c ∧ i = .int .i64 j ∧ s = .float .f32 r ∧ Hid (Fl .f32 r (tcP v u j)) ∧ ∃ n, wr = w.drewN n) (fun _ i _ => (c - intOf i).toNat)
            case atStart => exact ⟨0, _, by simpa using hcl, rfl, rfl, f2, _, rfl⟩
            case round =>
              obtain ⟨j, r2, hj, rfl, rfl, HF2, n2, rfl⟩ := hrel
              have f4 : Fl .f32 r2 (tcP v u j) := HF2.out
              by_cases hlt2 : (j : Int) < c
              · have HP2 : Hid (tcP v u (j + 1) = fbin .mul .f32 (tcP v u j) u) := rfl
                generalize tcP v u j = pv at *
                go_wp2_with (first | (refine wpList_farith rfl _ _ _ _ _ rfl _ _ _ rfl rfl (by decide) (by assumption) (by assumption) ?_; intro _ _ _) | (refine wpList_fcmp rfl _ _ _ _ _ rfl _ _ _ rfl rfl (by decide) (by assumption) (by assumption) (by first | assumption | rfl) ?_))
                go_roundw
                case rel => exact ⟨j + 1, _, by omega, by go_num, rfl, by unfold Hid; rw [HP2.out]; assumption, _, rfl⟩
                case measure => simp [intOf]; omega
              · have hjc : j = c.toNat := by omega
                subst hjc
                have hcl2 : ¬ (((c.toNat : Nat) : Int) < c) := hlt2
                go_wp2_with (fail)
                go_roundw
                case rel => exact ⟨k + 1, _, by omega, by go_num, rfl, by unfold Hid; rw [HT.out]; exact f4, _, rfl⟩
                case measure => simp [intOf]; omega
          · have HK := hid (show k = cs.length by omega)
            have f2 : Fl .f32 r tv := by
              have h := HF.out
              rw [HK.out, List.take_length, ← HL.out, ← us_len xs, List.take_length] at h
              rw [HX.out]; exact h
            clear HF HS HS2 HX
            go_wp2_with (first | (refine wpList_farith rfl _ _ _ _ _ rfl _ _ _ rfl rfl (by decide) (by assumption) (by assumption) ?_; intro _ _ _) | (refine wpList_fcmp rfl _ _ _ _ _ rfl _ _ _ rfl rfl (by decide) (by assumption) (by assumption) (by first | assumption | rfl) ?_) | (go_at_call 87; refine (asNumber_any _ tv (by assumption) _).mono ?_; rintro e w' ⟨⟨r3, rfl, hr3⟩, n3, rfl⟩))
            go_ret2
            exact ⟨⟨_, by rw [HB.out]; rfl, by rw [HV.out]; assumption⟩, _, rfl⟩
      · have HCC : Hid (tcC (us xs) cs = false) := by unfold Hid; rw [HC.out, decide_eq_false hl, Bool.and_false]
        rw [HCC.out] at HB HV
        have hbn : ((xs.length : Int) != (cs.length : Int)) = true := bne_iff_ne.2 (by omega)
        rw [typB_t ht] at HW
        rw [hr] at HR
        clear hs hz hs2 HC HCC hl ht hr l02W
        go_enter Try.func45, Try.ntmps45
        go_wp2_with (fail)
        refine HW.out.mono ?_
        rintro e w' ⟨rfl, n, rfl⟩
        go_wp2_with (first | (refine wpList_fofint rfl _ _ _ rfl _ _ rfl (Option.isSome_iff_exists.2 ⟨_, (by with_reducible exact Try.underlying2)⟩) (by with_reducible exact Try.underlying58) ?_; intro _) | (refine wpList_fofint rfl _ _ _ rfl _ _ rfl (Option.isSome_iff_exists.2 ⟨_, (by with_reducible exact Try.underlying2)⟩) (by with_reducible exact Try.underlying32) ?_; intro _) | (refine wpList_fofint rfl _ _ _ rfl _ _ rfl (Option.isSome_iff_exists.2 ⟨_, (by with_reducible exact Try.underlying3)⟩) (by with_reducible exact Try.underlying58) ?_; intro _) | (refine wpList_fofint rfl _ _ _ rfl _ _ rfl (Option.isSome_iff_exists.2 ⟨_, (by with_reducible exact Try.underlying3)⟩) (by with_reducible exact Try.underlying32) ?_; intro _))
        refine (HR.out _).mono ?_
        rintro e w' ⟨rfl, n2, rfl⟩
        go_wp2_with (first | (refine wpList_fofint rfl _ _ _ rfl _ _ rfl (Option.isSome_iff_exists.2 ⟨_, (by with_reducible exact Try.underlying2)⟩) (by with_reducible exact Try.underlying58) ?_; intro _) | (refine wpList_fofint rfl _ _ _ rfl _ _ rfl (Option.isSome_iff_exists.2 ⟨_, (by with_reducible exact Try.underlying2)⟩) (by with_reducible exact Try.underlying32) ?_; intro _) | (refine wpList_fofint rfl _ _ _ rfl _ _ rfl (Option.isSome_iff_exists.2 ⟨_, (by with_reducible exact Try.underlying3)⟩) (by with_reducible exact Try.underlying58) ?_; intro _) | (refine wpList_fofint rfl _ _ _ rfl _ _ rfl (Option.isSome_iff_exists.2 ⟨_, (by with_reducible exact Try.underlying3)⟩) (by with_reducible exact Try.underlying32) ?_; intro _))
        go_ret2
        exact ⟨⟨_, by rw [HB.out]; rfl, by rw [HV.out]; exact h0⟩, _, rfl⟩
    · have hr : isRowB (us xs) = false := by cases h : isRowB (us xs) <;> simp_all
      have HCC : Hid (tcC (us xs) cs = false) := by unfold Hid; rw [HC.out, hr, Bool.and_false, Bool.false_and]
      rw [HCC.out] at HB HV
      rw [typB_t ht] at HW
      rw [hr] at HR
      clear hs hz hs2 HC HCC ht hr l02W
      go_enter Try.func45, Try.ntmps45
      go_wp2_with (fail)
      refine HW.out.mono ?_
      rintro e w' ⟨rfl, n, rfl⟩
      go_wp2_with (first | (refine wpList_fofint rfl _ _ _ rfl _ _ rfl (Option.isSome_iff_exists.2 ⟨_, (by with_reducible exact Try.underlying2)⟩) (by with_reducible exact Try.underlying58) ?_; intro _) | (refine wpList_fofint rfl _ _ _ rfl _ _ rfl (Option.isSome_iff_exists.2 ⟨_, (by with_reducible exact Try.underlying2)⟩) (by with_reducible exact Try.underlying32) ?_; intro _) | (refine wpList_fofint rfl _ _ _ rfl _ _ rfl (Option.isSome_iff_exists.2 ⟨_, (by with_reducible exact Try.underlying3)⟩) (by with_reducible exact Try.underlying58) ?_; intro _) | (refine wpList_fofint rfl _ _ _ rfl _ _ rfl (Option.isSome_iff_exists.2 ⟨_, (by with_reducible exact Try.underlying3)⟩) (by with_reducible exact Try.underlying32) ?_; intro _))
      refine (HR.out _).mono ?_
      rintro e w' ⟨rfl, n2, rfl⟩
      go_wp2_with (first | (refine wpList_fofint rfl _ _ _ rfl _ _ rfl (Option.isSome_iff_exists.2 ⟨_, (by with_reducible exact Try.underlying2)⟩) (by with_reducible exact Try.underlying58) ?_; intro _) | (refine wpList_fofint rfl _ _ _ rfl _ _ rfl (Option.isSome_iff_exists.2 ⟨_, (by with_reducible exact Try.underlying2)⟩) (by with_reducible exact Try.underlying32) ?_; intro _) | (refine wpList_fofint rfl _ _ _ rfl _ _ rfl (Option.isSome_iff_exists.2 ⟨_, (by with_reducible exact Try.underlying3)⟩) (by with_reducible exact Try.underlying58) ?_; intro _) | (refine wpList_fofint rfl _ _ _ rfl _ _ rfl (Option.isSome_iff_exists.2 ⟨_, (by with_reducible exact Try.underlying3)⟩) (by with_reducible exact Try.underlying32) ?_; intro _))
      go_ret2
      exact ⟨⟨_, by rw [HB.out]; rfl, by rw [HV.out]; exact h0⟩, _, rfl⟩
  · have HCC : Hid (tcC (us xs) cs = false) := by unfold Hid; rw [HC.out, typB_f ht, Bool.false_and, Bool.false_and]
    rw [HCC.out] at HB HV
    rw [typB_f ht] at HW
    clear hs hz hs2 HC HCC l02W ht
    generalize isRowB (us xs) = rb at *
    cases rb
    all_goals
      go_enter Try.func45, Try.ntmps45
      go_wp2_with (fail)
      refine HW.out.mono ?_
      rintro e w' ⟨rfl, n, rfl⟩
      go_wp2_with (first | (refine wpList_fofint rfl _ _ _ rfl _ _ rfl (Option.isSome_iff_exists.2 ⟨_, (by with_reducible exact Try.underlying2)⟩) (by with_reducible exact Try.underlying58) ?_; intro _) | (refine wpList_fofint rfl _ _ _ rfl _ _ rfl (Option.isSome_iff_exists.2 ⟨_, (by with_reducible exact Try.underlying2)⟩) (by with_reducible exact Try.underlying32) ?_; intro _) | (refine wpList_fofint rfl _ _ _ rfl _ _ rfl (Option.isSome_iff_exists.2 ⟨_, (by with_reducible exact Try.underlying3)⟩) (by with_reducible exact Try.underlying58) ?_; intro _) | (refine wpList_fofint rfl _ _ _ rfl _ _ rfl (Option.isSome_iff_exists.2 ⟨_, (by with_reducible exact Try.underlying3)⟩) (by with_reducible exact Try.underlying32) ?_; intro _))
      go_ret2
      exact ⟨⟨_, by rw [HB.out]; rfl, by rw [HV.out]; exact h0⟩, _, rfl⟩
set_option maxHeartbeats 1600000 in
theorem sTypeChance_any (p q : Option Addr) (c1 c2 : Nat) (xs : List Nat) (cs : List Int) (w : World) (hs : SL (.float .f32) 0 w p xs) (hz : ∀ z ∈ xs, z < 4294967296) (hs2 : SL (.int .i64) 0 w q cs) (hm : xs.length ≤ 1048576) (hm2 : cs.length ≤ 1048576) :
    Calls Try.prog 44 #[.slice p xs.length c1, .slice q cs.length c2] w fun e w' => (∃ r, e = .returned (.tuple #[.float .f32 r, .bool (tcB (us xs) cs)]) ∧ Fl .f32 r (tcV (us xs) cs)) ∧ Dr w w' := by
  have HB : Hid (tcB (us xs) cs = (tcC (us xs) cs && finB (tcT (us xs) cs))) := rfl
  have HV : Hid (tcV (us xs) cs = if tcC (us xs) cs then numV (tcT (us xs) cs) else 0) := rfl
  have HC : Hid (tcC (us xs) cs = (typB cs && isRowB (us xs) && decide (xs.length = cs.length))) := by unfold Hid tcC; rw [us_len]
  have h0 := fz32
  have HR := hid (l02Row_any p c1 xs w hs hz hm)
  have HW := hid (fun n => l02Type_any q c2 cs (w.drewN n) (hs2.drewN n) hm2)
  have l02W := fun (n : Nat) (ht : typP cs) => l02Words_any q c2 cs (w.drewN n) (hs2.drewN n) ht
  by_cases ht : typP cs
  · by_cases hr : isRowB (us xs) = true
    · by_cases hl : xs.length = cs.length
      · have HCC : Hid (tcC (us xs) cs = true) := by unfold Hid; rw [HC.out, typB_t ht, hr, decide_eq_true hl]; rfl
        rw [HCC.out] at HB HV
        have hwv : wordsV cs = wd cs := by unfold wordsV; rw [typB_t ht]; rfl
        rw [typB_t ht] at HW
        have HWD := hid (fun n => l02W n ht)
        try rw [hwv] at HW
        rw [hr] at HR
        have hcb := hid (fun k (hk : k < cs.length) => ht.1 (cs.getD k 0) (by simp only [List.getD, List.getElem?_eq_getElem hk, Option.getD_some]; exact List.getElem_mem hk))
        have HS := hid hs
        have HZ := hid hz
        have HS2 := hid hs2
        have HL := hid hl
        have hbn : ((cs.length : Int) != (cs.length : Int)) = false := bne_eq_false_iff_eq.2 rfl
        clear hs hz hs2 ht hr hwv HC HCC l02W
        rw [hl] at HR ⊢
        go_enter Try.func44, Try.ntmps44
        go_wp2_with (fail)
        refine HR.out.mono ?_
        rintro e w' ⟨rfl, n, rfl⟩
        go_wp2_with (first | (refine wpList_fofint rfl _ _ _ rfl _ _ rfl (Option.isSome_iff_exists.2 ⟨_, (by with_reducible exact Try.underlying2)⟩) (by with_reducible exact Try.underlying58) ?_; intro _) | (refine wpList_fofint rfl _ _ _ rfl _ _ rfl (Option.isSome_iff_exists.2 ⟨_, (by with_reducible exact Try.underlying2)⟩) (by with_reducible exact Try.underlying32) ?_; intro _) | (refine wpList_fofint rfl _ _ _ rfl _ _ rfl (Option.isSome_iff_exists.2 ⟨_, (by with_reducible exact Try.underlying3)⟩) (by with_reducible exact Try.underlying58) ?_; intro _) | (refine wpList_fofint rfl _ _ _ rfl _ _ rfl (Option.isSome_iff_exists.2 ⟨_, (by with_reducible exact Try.underlying3)⟩) (by with_reducible exact Try.underlying32) ?_; intro _))
        refine (HW.out _).mono ?_
        rintro e w' ⟨rfl, n2, rfl⟩
        go_wp2_with (first | (refine wpList_fofint rfl _ _ _ rfl _ _ rfl (Option.isSome_iff_exists.2 ⟨_, (by with_reducible exact Try.underlying2)⟩) (by with_reducible exact Try.underlying58) ?_; intro _) | (refine wpList_fofint rfl _ _ _ rfl _ _ rfl (Option.isSome_iff_exists.2 ⟨_, (by with_reducible exact Try.underlying2)⟩) (by with_reducible exact Try.underlying32) ?_; intro _) | (refine wpList_fofint rfl _ _ _ rfl _ _ rfl (Option.isSome_iff_exists.2 ⟨_, (by with_reducible exact Try.underlying3)⟩) (by with_reducible exact Try.underlying58) ?_; intro _) | (refine wpList_fofint rfl _ _ _ rfl _ _ rfl (Option.isSome_iff_exists.2 ⟨_, (by with_reducible exact Try.underlying3)⟩) (by with_reducible exact Try.underlying32) ?_; intro _))
        refine (HWD.out _).mono ?_
        rintro e w' ⟨rfl, n3, rfl⟩
        go_wp2_with (first | (refine wpList_fofint rfl _ _ _ rfl _ _ rfl (Option.isSome_iff_exists.2 ⟨_, (by with_reducible exact Try.underlying2)⟩) (by with_reducible exact Try.underlying58) ?_; intro _) | (refine wpList_fofint rfl _ _ _ rfl _ _ rfl (Option.isSome_iff_exists.2 ⟨_, (by with_reducible exact Try.underlying2)⟩) (by with_reducible exact Try.underlying32) ?_; intro _) | (refine wpList_fofint rfl _ _ _ rfl _ _ rfl (Option.isSome_iff_exists.2 ⟨_, (by with_reducible exact Try.underlying3)⟩) (by with_reducible exact Try.underlying58) ?_; intro _) | (refine wpList_fofint rfl _ _ _ rfl _ _ rfl (Option.isSome_iff_exists.2 ⟨_, (by with_reducible exact Try.underlying3)⟩) (by with_reducible exact Try.underlying32) ?_; intro _))
        have HX : Hid (tcT (us xs) cs = tcF (floatOfInt .f32 (wd cs)) (us xs) cs) := rfl
        generalize tcT (us xs) cs = tv at *
        obtain ⟨w0, hw0⟩ : ∃ w0, floatOfInt .f32 (wd cs) = w0 := ⟨_, rfl⟩
        rw [hw0] at HX
        have fw0 : Fl .f32 (floatOfInt .f32 (wd cs)) w0 := by rw [← hw0]; exact fl_ofInt .f32 _
        clear HW HWD HR hw0
        go_loopw [6, 7] (fun s i wr => ∃ k r : Nat, k ≤ cs.length ∧ i = .int .i64 k ∧ s = .float .f32 r ∧ Hid (Fl .f32 r (tcF w0 ((us xs).take k) (cs.take k))) ∧ ∃ n, wr = w.drewN n) (fun _ i _ => cs.length - (intOf i).toNat)
        case atStart => exact ⟨0, _, Nat.zero_le _, rfl, rfl, fw0, _, rfl⟩
        case round =>
          obtain ⟨k, r, hk, rfl, rfl, HF, n, rfl⟩ := hrel
          by_cases hlt : k < cs.length
          · obtain ⟨b, off, rfl, hc⟩ := HS.out k (by rw [HL.out]; exact hlt)
            obtain ⟨b2, off2, rfl, hc2⟩ := HS2.out k hlt
            have hI : (k : Int) < (cs.length : Int) := by omega
            have f1 := us_fl HZ.out (show k < xs.length by rw [HL.out]; exact hlt)
            obtain ⟨hcl, hch⟩ := hcb.out k hlt
            have HT := hid (tcF_succ w0 (us xs) cs k (by rw [us_len, HL.out]; exact hlt) (by rw [us_len]; exact HL.out))
            have f2 : Fl .f32 r (tcF w0 ((us xs).take k) (cs.take k)) := HF.out
            generalize (us xs).getD k 0 = u at *
            generalize xs.getD k 0 = x at *
            generalize hcc : cs.getD k 0 = c at *
            generalize tcF w0 ((us xs).take k) (cs.take k) = v at *
            clear hcc
            go_wp2_with (fail)
            go_loopw [6, 8] (fun s i wr => ∃ j r : Nat, (j : Int) ≤ c ∧ i = .int .i64 j ∧ s = .float .f32 r ∧ Hid (Fl .f32 r (tcP v u j)) ∧ ∃ n, wr = w.drewN n) (fun _ i _ => (c - intOf i).toNat)
            case atStart => exact ⟨0, _, by simpa using hcl, rfl, rfl, f2, _, rfl⟩
            case round =>
              obtain ⟨j, r2, hj, rfl, rfl, HF2, n2, rfl⟩ := hrel
              have f4 : Fl .f32 r2 (tcP v u j) := HF2.out
              by_cases hlt2 : (j : Int) < c
              · have HP2 : Hid (tcP v u (j + 1) = fbin .mul .f32 (tcP v u j) u) := rfl
                generalize tcP v u j = pv at *
                go_wp2_with (first | (refine wpList_farith rfl _ _ _ _ _ rfl _ _ _ rfl rfl (by decide) (by assumption) (by assumption) ?_; intro _ _ _) | (refine wpList_fcmp rfl _ _ _ _ _ rfl _ _ _ rfl rfl (by decide) (by assumption) (by assumption) (by first | assumption | rfl) ?_))
                go_roundw
                case rel => exact ⟨j + 1, _, by omega, by go_num, rfl, by unfold Hid; rw [HP2.out]; assumption, _, rfl⟩
                case measure => simp [intOf]; omega
              · have hjc : j = c.toNat := by omega
                subst hjc
                have hcl2 : ¬ (((c.toNat : Nat) : Int) < c) := hlt2
                go_wp2_with (fail)
                go_roundw
                case rel => exact ⟨k + 1, _, by omega, by go_num, rfl, by unfold Hid; rw [HT.out]; exact f4, _, rfl⟩
                case measure => simp [intOf]; omega
          · have HK := hid (show k = cs.length by omega)
            have f2 : Fl .f32 r tv := by
              have h := HF.out
              rw [HK.out, List.take_length, ← HL.out, ← us_len xs, List.take_length] at h
              rw [HX.out]; exact h
            clear HF HS HS2 HX
            go_wp2_with (first | (refine wpList_farith rfl _ _ _ _ _ rfl _ _ _ rfl rfl (by decide) (by assumption) (by assumption) ?_; intro _ _ _) | (refine wpList_fcmp rfl _ _ _ _ _ rfl _ _ _ rfl rfl (by decide) (by assumption) (by assumption) (by first | assumption | rfl) ?_) | (go_at_call 85; refine (l02Number_any _ tv (by assumption) _).mono ?_; rintro e w' ⟨⟨r3, rfl, hr3⟩, n3, rfl⟩))
            go_ret2
            exact ⟨⟨_, by rw [HB.out]; rfl, by rw [HV.out]; assumption⟩, _, rfl⟩
      · have HCC : Hid (tcC (us xs) cs = false) := by unfold Hid; rw [HC.out, decide_eq_false hl, Bool.and_false]
        rw [HCC.out] at HB HV
        have hbn : ((xs.length : Int) != (cs.length : Int)) = true := bne_iff_ne.2 (by omega)
        rw [typB_t ht] at HW
        rw [hr] at HR
        clear hs hz hs2 HC HCC hl ht hr l02W
        go_enter Try.func44, Try.ntmps44
        go_wp2_with (fail)
        refine HR.out.mono ?_
        rintro e w' ⟨rfl, n, rfl⟩
        go_wp2_with (first | (refine wpList_fofint rfl _ _ _ rfl _ _ rfl (Option.isSome_iff_exists.2 ⟨_, (by with_reducible exact Try.underlying2)⟩) (by with_reducible exact Try.underlying58) ?_; intro _) | (refine wpList_fofint rfl _ _ _ rfl _ _ rfl (Option.isSome_iff_exists.2 ⟨_, (by with_reducible exact Try.underlying2)⟩) (by with_reducible exact Try.underlying32) ?_; intro _) | (refine wpList_fofint rfl _ _ _ rfl _ _ rfl (Option.isSome_iff_exists.2 ⟨_, (by with_reducible exact Try.underlying3)⟩) (by with_reducible exact Try.underlying58) ?_; intro _) | (refine wpList_fofint rfl _ _ _ rfl _ _ rfl (Option.isSome_iff_exists.2 ⟨_, (by with_reducible exact Try.underlying3)⟩) (by with_reducible exact Try.underlying32) ?_; intro _))
        refine (HW.out _).mono ?_
        rintro e w' ⟨rfl, n2, rfl⟩
        go_wp2_with (first | (refine wpList_fofint rfl _ _ _ rfl _ _ rfl (Option.isSome_iff_exists.2 ⟨_, (by with_reducible exact Try.underlying2)⟩) (by with_reducible exact Try.underlying58) ?_; intro _) | (refine wpList_fofint rfl _ _ _ rfl _ _ rfl (Option.isSome_iff_exists.2 ⟨_, (by with_reducible exact Try.underlying2)⟩) (by with_reducible exact Try.underlying32) ?_; intro _) | (refine wpList_fofint rfl _ _ _ rfl _ _ rfl (Option.isSome_iff_exists.2 ⟨_, (by with_reducible exact Try.underlying3)⟩) (by with_reducible exact Try.underlying58) ?_; intro _) | (refine wpList_fofint rfl _ _ _ rfl _ _ rfl (Option.isSome_iff_exists.2 ⟨_, (by with_reducible exact Try.underlying3)⟩) (by with_reducible exact Try.underlying32) ?_; intro _))
        go_ret2
        exact ⟨⟨_, by rw [HB.out]; rfl, by rw [HV.out]; exact h0⟩, _, rfl⟩
    · have hr : isRowB (us xs) = false := by cases h : isRowB (us xs) <;> simp_all
      have HCC : Hid (tcC (us xs) cs = false) := by unfold Hid; rw [HC.out, hr, Bool.and_false, Bool.false_and]
      rw [HCC.out] at HB HV
      rw [typB_t ht] at HW
      rw [hr] at HR
      clear hs hz hs2 HC HCC ht hr l02W
      go_enter Try.func44, Try.ntmps44
      go_wp2_with (fail)
      refine HR.out.mono ?_
      rintro e w' ⟨rfl, n, rfl⟩
      go_wp2_with (first | (refine wpList_fofint rfl _ _ _ rfl _ _ rfl (Option.isSome_iff_exists.2 ⟨_, (by with_reducible exact Try.underlying2)⟩) (by with_reducible exact Try.underlying58) ?_; intro _) | (refine wpList_fofint rfl _ _ _ rfl _ _ rfl (Option.isSome_iff_exists.2 ⟨_, (by with_reducible exact Try.underlying2)⟩) (by with_reducible exact Try.underlying32) ?_; intro _) | (refine wpList_fofint rfl _ _ _ rfl _ _ rfl (Option.isSome_iff_exists.2 ⟨_, (by with_reducible exact Try.underlying3)⟩) (by with_reducible exact Try.underlying58) ?_; intro _) | (refine wpList_fofint rfl _ _ _ rfl _ _ rfl (Option.isSome_iff_exists.2 ⟨_, (by with_reducible exact Try.underlying3)⟩) (by with_reducible exact Try.underlying32) ?_; intro _))
      go_ret2
      exact ⟨⟨_, by rw [HB.out]; rfl, by rw [HV.out]; exact h0⟩, _, rfl⟩
  · have HCC : Hid (tcC (us xs) cs = false) := by unfold Hid; rw [HC.out, typB_f ht, Bool.false_and, Bool.false_and]
    rw [HCC.out] at HB HV
    rw [typB_f ht] at HW
    clear hs hz hs2 HC HCC l02W ht
    generalize isRowB (us xs) = rb at *
    cases rb
    all_goals
      go_enter Try.func44, Try.ntmps44
      go_wp2_with (fail)
      refine HR.out.mono ?_
      rintro e w' ⟨rfl, n, rfl⟩
      go_wp2_with (first | (refine wpList_fofint rfl _ _ _ rfl _ _ rfl (Option.isSome_iff_exists.2 ⟨_, (by with_reducible exact Try.underlying2)⟩) (by with_reducible exact Try.underlying58) ?_; intro _) | (refine wpList_fofint rfl _ _ _ rfl _ _ rfl (Option.isSome_iff_exists.2 ⟨_, (by with_reducible exact Try.underlying2)⟩) (by with_reducible exact Try.underlying32) ?_; intro _) | (refine wpList_fofint rfl _ _ _ rfl _ _ rfl (Option.isSome_iff_exists.2 ⟨_, (by with_reducible exact Try.underlying3)⟩) (by with_reducible exact Try.underlying58) ?_; intro _) | (refine wpList_fofint rfl _ _ _ rfl _ _ rfl (Option.isSome_iff_exists.2 ⟨_, (by with_reducible exact Try.underlying3)⟩) (by with_reducible exact Try.underlying32) ?_; intro _))
      all_goals try (refine (HW.out _).mono ?_; rintro e w' ⟨rfl, n2, rfl⟩; go_wp2_with (fail))
      go_ret2
      exact ⟨⟨_, by rw [HB.out]; rfl, by rw [HV.out]; exact h0⟩, _, rfl⟩
end Go.Proofs.Ytkmodgkkldcpkaa
