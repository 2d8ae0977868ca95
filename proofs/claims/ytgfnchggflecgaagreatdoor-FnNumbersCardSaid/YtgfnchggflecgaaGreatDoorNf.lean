/-
  THE LAW ON NUMBERS: the walk. Own work; no condition beyond what each theorem names.
-/
import Derived.Test.YtgfnchggflecgaaGreatDoorNe
import Derived.Test.YtgfnchggflecgaaGreatDoorTc
namespace Go.Proofs.YtgfnchggflecgaaGreatDoor
open Go.RowKit
set_option linter.unusedVariables false
attribute [local go_sem] opS fineS givesS

def db64n : List Int := [0, 1, 56, 2, 57, 49, 28, 3, 61, 58, 42, 50, 38, 29, 17, 4, 62, 47, 59, 36, 45, 43, 51, 22, 53, 39, 33, 30, 24, 18, 12, 5, 63, 55, 48, 27, 60, 41, 37, 16, 46, 35, 44, 21, 52, 32, 23, 11, 54, 26, 40, 15, 34, 20, 31, 10, 25, 14, 19, 9, 13, 8, 7, 6]
theorem gDbn : Tryz.prog.globalNamed "math/bits.deBruijn64tab" = some 6 := by kernel_rfl
theorem d15_of_laidn {x : String × DataW Unit} {l : List (String × DataW Unit)} {W : World} (h : laidMet Tryz.prog (x :: ("math/bits.deBruijn64tab", Lib.tabData .u8 db64n) :: l) W) : D15 W.heap.size W := by
  have h2 := laidMet_tail h
  have ht := Lib.tabIs_of_head (t := 135) (e := 5) gDbn (by kernel_rfl) Tryz.underlying135 Tryz.underlying5 (by kernel_rfl) (by kernel_rfl) h2
  have hc := ht.cell gDbn 15 (by decide)
  exact ⟨hc, World.block_lt_of_cell? W _ hc⟩
theorem SLu.below {w w' : World} {p : Option Addr} {zs : List Int} (h : SL (.int .u8) 0 w p zs) (hb : Below w.heap.size w w') : SL (.int .u8) 0 w' p zs := h.below_all hb
theorem sumF_us_succ {zs : List Nat} {k : Nat} (h : k < zs.length) : sumF ((us zs).take (k + 1)) = fbin .add .f32 (sumF ((us zs).take k)) ((us zs).getD k 0) := sumF_succ (us zs) k (by rw [us_len]; exact h)
set_option maxRecDepth 100000 in
set_option maxHeartbeats 3200000 in
theorem FnNumbers_walk (a0 : Option Addr) (len0 cap0 : Nat) (z0 : List Int) (a1 : Option Addr) (len1 cap1 : Nat) (z1 : List Int) (w : World)
    (w0 : z0.length = len0 ∧ len0 ≤ maxLen ∧ SL (.int .u8) 0 w a0 z0 ∧ ∀ z ∈ z0, (Lit.int .u8 z).wf = true) (w1 : z1.length = len1 ∧ len1 ≤ maxLen ∧ SL (.int .u8) 0 w a1 z1 ∧ ∀ z ∈ z1, (Lit.int .u8 z).wf = true)
    (hd : D15 w.heap.size w) (he : EV w.heap.size w) (hm : ML w.heap.size w) :
    Calls Tryz.prog 3 #[.slice a0 len0 cap0, .slice a1 len1 cap1] w fun e w' => e = .returned (.bool true) ∧ Below w.heap.size w w' := by
  obtain ⟨rfl, hm0, hs0, hz0⟩ := w0
  obtain ⟨rfl, hm1, hs1, hz1⟩ := w1
  have HL := hid (fun w => b10Long_any a0 a1 z0.length z1.length cap0 cap1 w hm0 hm1)
  by_cases hbig : 1048576 < z0.length ∨ 1048576 < z1.length
  · have hb : (decide (1048576 < z0.length) || decide (1048576 < z1.length)) = true := by simpa using hbig
    rw [hb] at HL
    clear hb
    go_enter Tryz.func3, Tryz.ntmps3
    go_wp2_with (fail)
    refine (HL.out _).mono ?_
    rintro e w' ⟨rfl, rfl⟩
    go_wp2_with (fail)
    go_ret
    exact ⟨rfl, Below.refl _ _⟩
  · have hb : (decide (1048576 < z0.length) || decide (1048576 < z1.length)) = false := by
      simp only [not_or] at hbig
      simp [hbig.1, hbig.2]
    rw [hb] at HL
    have hl0 : z0.length ≤ 1048576 := by omega
    have hl1 : z1.length ≤ 1048576 := by omega
    have HD := hid hd
    have HE := hid he
    have HM := hid hm
    have A0 := hid hs0
    have A1 := hid hs1
    have HB0 : Hid (∀ z ∈ z0, 0 ≤ z ∧ z ≤ 255) := fun z hz => by
      have := hz0 z hz
      simp [Lit.wf] at this
      have e1 : IntKind.u8.min = 0 := rfl
      have e2 : IntKind.u8.max = 255 := rfl
      omega
    have HB1 : Hid (∀ z ∈ z1, 0 ≤ z ∧ z ≤ 255) := fun z hz => by
      have := hz1 z hz
      simp [Lit.wf] at this
      have e1 : IntKind.u8.min = 0 := rfl
      have e2 : IntKind.u8.max = 255 := rfl
      omega
    have HFB := hid (fun n w => FromBits_any n w)
    clear hb hd he hm hs0 hs1 hz0 hz1 hbig
    go_enter Tryz.func3, Tryz.ntmps3
    go_wp2_with (fail)
    refine (HL.out _).mono ?_
    rintro e w' ⟨rfl, rfl⟩
    go_wp2_with (fail)
    refine (B10Number_any a0 cap0 z0 _ A0.out HB0.out hl0).mono ?_
    rintro e v1 ⟨⟨x, rfl, hx⟩, hb1⟩
    have B1 := hid hb1
    have fx : Fl .f32 x (nf .f32 x) := Fl.self (k := .f32) hx
    have A1_1 := hid (A1.out.below_all hb1)
    have A0_1 := hid (A0.out.below_all hb1)
    clear hb1
    go_wp2_with (fail)
    refine (B10Number_any a1 cap1 z1 _ A1_1.out HB1.out hl1).mono ?_
    rintro e v2 ⟨⟨y, rfl, hy⟩, hb2⟩
    have B2 := hid (B1.out.trans (hb2.mono B1.out.size))
    have fy : Fl .f32 y (nf .f32 y) := Fl.self (k := .f32) hy
    have A1_2 := hid (A1_1.out.below_all hb2)
    have A0_2 := hid (A0_1.out.below_all hb2)
    have hux := fx.vlt
    have HUX : Hid (nf .f32 (nf .f32 x) = nf .f32 x) := nf_nf .f32 x
    clear hb2 B1 A1_1 A0_1
    have HUXL : Hid (nf .f32 x < 4294967296) := nf_lt hx
    generalize hgu : nf .f32 x = u at *
    generalize hgv : nf .f32 y = v at *
    have HFX := hid (HFB.out (u : Int))
    rw [if_pos ⟨by omega, by have := HUXL.out; omega⟩, decide_eq_true (show (0 : Int) ≤ u ∧ (u : Int) ≤ 4294967295 from ⟨by omega, by have := HUXL.out; omega⟩), Int.toNat_natCast] at HFX
    go_wp2_with (fail)
    refine (BitsOf_any x u fx _).mono ?_
    rintro e w' ⟨rfl, rfl⟩
    go_wp2_with (fail)
    refine (HFX.out _).mono ?_
    rintro e w' ⟨rfl, rfl⟩
    go_wp2_with (fail)
    refine (FlushNumber_any x u fx _).mono ?_
    rintro e w' ⟨⟨zf, rfl, fz⟩, n1, rfl⟩
    go_wp2_with (fail)
    refine (b10At_any a0 cap0 z0 _ (A0_2.out.drewN n1) HB0.out hl0).mono ?_
    rintro e w' ⟨⟨m, hm11, rfl⟩, rfl⟩
    have B3 := hid (below_drewN B2.out n1)
    go_wp2_with (fail)
    refine (B10Numbers_any a1 cap1 z1 m hm11 _ (A1_2.out.drewN n1) HB1.out hl1).mono ?_
    rintro e v3 ⟨⟨vl, zs, rfl, ho, hzl⟩, hb3⟩
    obtain ⟨q, cq, rfl⟩ := ho.form
    have B4 := hid (B3.out.trans (hb3.mono B3.out.size))
    have HO := hid ho
    have hz11 : zs.length ≤ 11 := by omega
    clear ho hb3 hzl hm11 B2 B3 A0_2 A1_2 A0 A1 HB0 HB1
    have HQS := hid (OF.sl HO.out).1
    go_wp2_with (fail)
    go_loopw [11, 41] (fun s i wr => ∃ (k r : Nat), k ≤ zs.length ∧ i = .int .i64 k ∧ s = .float .f32 r ∧ Hid (Fl .f32 r (sumF ((us zs).take k))) ∧ ∃ n, wr = v3.drewN n) (fun _ i _ => zs.length - (intOf i).toNat)
    case atStart => exact ⟨0, 0, Nat.zero_le _, rfl, rfl, fz32, 0, rfl⟩
    case round =>
      obtain ⟨k, r, hk, rfl, rfl, HF, n2, rfl⟩ := hrel
      by_cases hlt : k < zs.length
      · obtain ⟨b3, off3, rfl, hc⟩ := HQS.out k hlt
        have hI : (k : Int) < (zs.length : Int) := by omega
        have f1 := us_fl HO.out.2 hlt
        have f2 := HF.out
        have HSU := hid (sumF_us_succ hlt)
        generalize zs.getD k 0 = zk at *
        generalize (us zs).getD k 0 = uk at *
        generalize sumF ((us zs).take k) = sk at *
        go_wp2_with (first | (refine wpList_farith rfl _ _ _ _ _ rfl _ _ _ rfl rfl (by decide) (by assumption) (by assumption) ?_; intro _ _ _))
        go_roundw
        case rel => exact ⟨k + 1, _, by omega, by go_num, rfl, by unfold Hid; rw [HSU.out]; assumption, _, rfl⟩
        case measure => simp [intOf]; omega
      · have HK := hid (show k = zs.length by omega)
        have HSF : Hid (Fl .f32 r (sumF (us zs))) := by
          have h := HF.out
          rw [HK.out, ← us_len zs, List.take_length] at h
          exact h
        have HSV : Hid (sumV (us zs) = sumF (us zs)) := by unfold Hid sumV; rw [us_len, if_pos (by omega)]
        have hws : ∀ n, w.heap.size ≤ (v3.drewN n).heap.size := fun n => B4.out.size
        have hd256 : decide (zs.length ≤ 256) = true := decide_eq_true (by omega)
        have HSN := hid (fun w hs => SumNumbers_any q cq zs w hs HO.out.2 (by omega))
        have HNT := hid (fun w' hs hD hB => NumbersText_any w.heap.size q cq zs w' hs HO.out.2 (by omega) hD hB)
        rw [HSV.out, hd256] at HSN
        rw [hd256] at HNT
        have hsz : (strOf (ntL (us zs))).size ≤ 1048576 := by
          have h1 := nts_join (vs := us zs) (k := zs.length) (by rw [us_len]; exact Nat.le_refl _) (by rw [us_len]; omega)
          have h2 : (ntL (us zs)).length ≤ 256 * 9 + 4 := by
            unfold ntL
            rw [us_len, if_pos (by omega)]
            unfold jn
            split
            · decide
            · omega
          simp only [strOf, ByteArray.size]
          simp
          omega
        have HRD := hid (fun w' hD hE hM hB => ReadNumbers_any w.heap.size (strOf (ntL (us zs))) hsz w' hD hE hM hB)
        have hrn : RN (strOf (ntL (us zs))).data.toList = some (us zs) := by
          have : (strOf (ntL (us zs))).data.toList = ntL (us zs) := by simp [strOf]
          rw [this]
          exact rn_back (us zs) (us_canon HO.out.2) (by rw [us_len]; omega)
        rw [hrn] at HRD
        generalize strOf (ntL (us zs)) = S at *
        clear hsz hrn hd256 HF
        have BN := hid (below_drewN B4.out n2)
        go_wp2_with (fail)
        refine (HSN.out _ (HQS.out.drewN n2)).mono ?_
        rintro e w' ⟨⟨g, rfl, fg⟩, n3, rfl⟩
        have BN3 := hid (below_drewN B4.out (n2 + n3))
        go_wp2_with (fail)
        refine (HNT.out _ (HQS.out.drewN _) (HD.out.on BN3.out) BN3.out.size).mono ?_
        rintro e v4 ⟨rfl, hb4⟩
        have B5 := hid (BN3.out.trans (hb4.mono BN3.out.size))
        have HO5 := hid (OF.below (HO.out.drewN (n2 + n3)) hb4)
        clear hb4 BN BN3
        go_wp2_with (fail)
        refine (HRD.out _ (HD.out.on B5.out) (HE.out.on B5.out) (HM.out.on B5.out) B5.out.size).mono ?_
        rintro e v5 ⟨⟨vr, rfl, hor⟩, hb5⟩
        have hor2 : OF v5 v4.heap.size vr (us zs) := hor
        obtain ⟨pr, cr, rfl⟩ := hor2.form
        have B6 := hid (B5.out.trans (hb5.mono B5.out.size))
        have HO6 := hid (OF.below HO5.out hb5)
        have HR6 := hid hor2
        have HRL : Hid ((us zs).length = zs.length) := us_len zs
        clear hor hor2 hb5 B5 HO5 HO HQS HRD HNT HSN
        have hfu : Fl .f32 u u := ⟨HUXL.out, HUX.out⟩
        have HS1 := hid (fun w => sSameNumber_any u x u u hfu fx w)
        have HS2 := hid (fun w => IsSubnormal_any zf (flush u) fz w)
        have HS3 := hid (fun w => IsSubnormal_any x u fx w)
        have HS4 := hid (fun w => sSameNumber_any x zf u (flush u) fx fz w)
        have HS5 := hid (fun w => sSameNumber_any g r (sumF (us zs)) (sumF (us zs)) fg HSF.out w)
        have HSS := hid (sub_same u)
        rw [sub_flush] at HS2
        rw [decide_eq_true (rfl : u = u)] at HS1
        rw [decide_eq_true (rfl : sumF (us zs) = sumF (us zs))] at HS5
        have hxs : (isSub u == decide (u = flush u)) = false := by
          rw [HSS.out]
          cases decide (u = flush u) <;> rfl
        have hln : ((us zs).length : Int) = (zs.length : Int) := by rw [us_len]
        generalize isSub u = bs at *
        generalize decide (u = flush u) = bf at *
        generalize hul : (us zs).length = nu at *
        go_wp2_with (fail)
        refine (HS1.out _).mono ?_
        rintro e w' ⟨rfl, rfl⟩
        go_wp2_with (fail)
        refine (HS2.out _).mono ?_
        rintro e w' ⟨rfl, n4, rfl⟩
        go_wp2_with (fail)
        refine (HS3.out _).mono ?_
        rintro e w' ⟨rfl, n5, rfl⟩
        go_wp2_with (fail)
        refine (HS4.out _).mono ?_
        rintro e w' ⟨rfl, rfl⟩
        go_wp2_with (fail)
        refine (HS5.out _).mono ?_
        rintro e w' ⟨rfl, rfl⟩
        go_wp2_with (fail)
        go_loopw [113] (fun i wr => ∃ k : Nat, k ≤ zs.length ∧ i = .int .i64 k ∧ ∃ n, wr = v5.drewN n) (fun i _ => zs.length - (intOf i).toNat)
        case atStart => exact ⟨0, Nat.zero_le _, rfl, _, rfl⟩
        case round =>
          obtain ⟨k, hk, rfl, n7, rfl⟩ := hrel
          by_cases hlt : k < zs.length
          · obtain ⟨b3, off3, rfl, hc⟩ := (OF.sl HO6.out).1 k hlt
            obtain ⟨b4, off4, rfl, hc4⟩ := (OF.sl HR6.out).1 k (by omega)
            have hI : (k : Int) < (zs.length : Int) := by omega
            have hI2 : (k : Int) < (nu : Int) := by omega
            have f1 := us_fl HO6.out.2 hlt
            have hcn := us_canon HO6.out.2 ((us zs).getD k 0) (by simp [List.getD, hul, show k < nu by omega])
            have f2 : Fl .f32 ((us zs).getD k 0) ((us zs).getD k 0) := ⟨hcn.1, hcn.2⟩
            have HSM := hid (fun w => sSameNumber_any ((us zs).getD k 0) (zs.getD k 0) _ _ f2 f1 w)
            rw [decide_eq_true (rfl : (us zs).getD k 0 = (us zs).getD k 0)] at HSM
            generalize zs.getD k 0 = zk at *
            generalize (us zs).getD k 0 = uk at *
            clear hcn
            go_wp2_with (fail)
            refine wp_region_mixN (fun _ _ v => v = .bool true) (by kernel_rfl) (by kernel_rfl) ?_
            simp only [List.map_cons, List.map_nil]
            repeat (refine mixS_step (fun K hK => ?_); first | (go_simp; refine hK _ ?_; clear hK K) | (go_simp; refine ⟨fun m => ?_, hK _ ?_⟩; (refine (HSM.out _).mono ?_; rintro e w' ⟨rfl, rfl⟩; exact ⟨_, rfl, rfl, _, rfl⟩); clear hK K))
            refine mixS_nil ?_
            rintro w' ⟨m2, rfl⟩
            go_wp2_with (fail)
            go_roundw
            case rel => exact ⟨k + 1, by omega, by go_num, _, rfl⟩
            case measure => simp [intOf]; omega
          · have HAT := hid (fun w => AngleTurns_any y x v u fy fx w)
            have HAO := hid (fun w => AngleOf_any x y u v fx fy w)
            have HSA := hid (fun a b (fa : Fl .f32 a (angT v u)) (fb : Fl .f32 b (angT v u)) w => sSameNumber_any a b _ _ fa fb w)
            rw [decide_eq_true (rfl : angT v u = angT v u)] at HSA
            have hok : NarrowOk (fwide u) := narrowOk_fwide HUXL.out
            have hfn : fnarrow (fwide u) = u := by rw [fnarrow_fwide HUXL.out]; exact HUX.out
            have HNN := hid (fun a (fa : Fl .f64 a (fwide u)) w => NarrowNumber_any a (fwide u) fa hok w)
            rw [hfn] at HNN
            have HSB := hid (fun a (fa : Fl .f32 a u) w => sSameNumber_any a x u u fa fx w)
            rw [decide_eq_true (rfl : u = u)] at HSB
            have fq : Fl .f32 1048576000 1048576000 := Fl.lit (by decide) (by decide)
            have f1 : Fl .f32 1065353216 1065353216 := Fl.lit (by decide) (by decide)
            have HSI := hid (fun w => SineTurns_any 1048576000 1048576000 fq w)
            rw [sine_quarter] at HSI
            have hone : fcmp .eql .f32 1065353216 1065353216 = true := by decide
            have B7 := hid (fun n => below_drewN B6.out n)
            clear hfn
            go_wp2_with (fail)
            refine (HAT.out _).mono ?_
            rintro e w' ⟨⟨r1, rfl, fr1⟩, m1, rfl⟩
            go_wp2_with (fail)
            refine (HAO.out _).mono ?_
            rintro e w' ⟨⟨r2, rfl, fr2⟩, m2, rfl⟩
            go_wp2_with (fail)
            refine (HSA.out _ _ fr1 fr2 _).mono ?_
            rintro e w' ⟨rfl, rfl⟩
            go_wp2_with (first | (refine wpList_fwide rfl _ _ _ rfl _ rfl (Option.isSome_iff_exists.2 ⟨_, (by with_reducible exact Tryz.underlying24)⟩) (by with_reducible exact Tryz.underlying44) (by assumption) ?_; intro _ _ _))
            refine (HNN.out _ (by assumption) _).mono ?_
            rintro e w' ⟨⟨r3, rfl, fr3⟩, m3, rfl⟩
            go_wp2_with (fail)
            refine (HSB.out _ fr3 _).mono ?_
            rintro e w' ⟨rfl, rfl⟩
            go_wp2_with (fail)
            refine (HSI.out _).mono ?_
            rintro e w' ⟨⟨r4, rfl, fr4⟩, m4, rfl⟩
            go_wp2_with (first | (refine wpList_fcmp rfl _ _ _ _ _ rfl _ _ _ rfl rfl (by decide) (by assumption) (by assumption) (by first | assumption | rfl) ?_))
            go_ret
            exact ⟨rfl, by first | exact B7.out _ | exact below_drewN (B7.out _) _⟩
end Go.Proofs.YtgfnchggflecgaaGreatDoor
