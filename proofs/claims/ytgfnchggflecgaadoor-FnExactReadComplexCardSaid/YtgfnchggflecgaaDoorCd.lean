/-
  LISTS OF COMPLEX NUMBERS THAT ARE READ OFF A TEXT: the reference's walk. Own work; no condition beyond what each theorem names.
-/
import Derived.Test.YtgfnchggflecgaaDoorCc
namespace Go.Proofs.YtgfnchggflecgaaDoor
open Go.RowKit
set_option linter.unusedVariables false

def dgV (x : List UInt8) : Value := .tuple #[.float .f32 ((rdx x).getD 0), .bool (rdx x).isSome]
theorem dgV_some {x : List UInt8} {v : Nat} (h : rdx x = some v) : dgV x = .tuple #[.float .f32 v, .bool true] := by unfold dgV; rw [h]; rfl
theorem dgV_none {x : List UInt8} (h : rdx x = none) : dgV x = .tuple #[.float .f32 0, .bool false] := by unfold dgV; rw [h]; rfl
set_option maxRecDepth 100000 in
set_option maxHeartbeats 1600000 in
theorem l01Digits_any (s : ByteArray) (h8 : s.size = 8) (w : World) :
    Calls Tryd.prog 50 #[.string s] w fun e w' => e = .returned (dgV s.data.toList) ∧ w = w' := by
  have hlen : s.data.toList.length = 8 := by rw [← Lib.size_eq]; exact h8
  have HIX : Hid (∀ (kk : Nat) (h : kk < 8), ∀ W, (Instr.index 9 (.string s) (.int .i64 (kk : Int))).run Tryd.prog W = .ok (.int .u8 (((s.data.toList[kk]'(by rw [hlen]; exact h)).toNat : Nat) : Int)) W) := fun kk h W => by
    have h1 := idx_str s kk (by rw [h8]; exact h) W
    have h2 := byte_at s kk (by rw [h8]; exact h)
    rw [List.getElem?_eq_getElem (by rw [hlen]; exact h)] at h2
    rw [← Option.some.inj h2] at h1
    exact h1
  have H8 := hid hlen
  generalize s.data.toList = x at *
  go_enter Tryd.func50, Tryd.ntmps50
  go_wp2_with (fail)
  go_loop [4, 5] (fun n kv => ∃ kk m : Nat, kk ≤ 8 ∧ kv = .int .i64 kk ∧ n = .int .i64 m ∧ Hid (HV x kk m)) (fun _ kv => 8 - (intOf kv).toNat)
  case atStart => exact ⟨0, 0, by omega, rfl, rfl, ⟨by decide, rfl⟩⟩
  case round =>
    obtain ⟨kk, m, hkk, rfl, rfl, HH⟩ := hrel
    by_cases hk8 : kk < 8
    · have hm7 : m < 268435456 := by
        have h1 := HH.out.1
        have h2 : 16 ^ kk ≤ 16 ^ 7 := Nat.pow_le_pow_right (by omega) (by omega)
        have h3 : (16 : Nat) ^ 7 = 268435456 := by decide
        omega
      have hix := HIX.out kk hk8
      have hcc : kk < x.length := by rw [H8.out]; exact hk8
      have HSTEP := hid (fun d (hd : d < 16) (hv : hval (x[kk]'hcc) = some d) => HH.out.step hcc hd hv)
      have HBD := hid (fun (hv : hval (x[kk]'hcc) = none) => dgV_none (HH.out.bad hcc hv))
      have HVAL : Hid (hval (x[kk]'hcc) = if 48 ≤ (x[kk]'hcc).toNat ∧ (x[kk]'hcc).toNat ≤ 57 then some ((x[kk]'hcc).toNat - 48) else if 97 ≤ (x[kk]'hcc).toNat ∧ (x[kk]'hcc).toNat ≤ 102 then some ((x[kk]'hcc).toNat - 87) else none) := rfl
      have hc256 := (x[kk]'hcc).toNat_lt
      generalize x[kk]'hcc = c at *
      generalize c.toNat = cn at *
      clear hcc
      by_cases hd1 : 48 ≤ cn
      · by_cases hd2 : cn ≤ 57
        · have HN := HSTEP.out (cn - 48) (by omega) (by rw [HVAL.out, if_pos ⟨hd1, hd2⟩])
          have HN2 := hid HN
          clear HSTEP HBD HVAL HN
          go_wp2_with (fail)
          go_round
          case rel => exact ⟨kk + 1, 16 * m + (cn - 48), by omega, by go_num, by go_num, HN2⟩
          case measure => simp [intOf]; omega
        · by_cases hd3 : 97 ≤ cn
          · by_cases hd4 : cn ≤ 102
            · have HN := HSTEP.out (cn - 87) (by omega) (by rw [HVAL.out, if_neg (by omega), if_pos ⟨hd3, hd4⟩])
              have HN2 := hid HN
              clear HSTEP HBD HVAL HN
              go_wp2_with (fail)
              go_round
              case rel => exact ⟨kk + 1, 16 * m + (cn - 87), by omega, by go_num, by go_num, HN2⟩
              case measure => simp [intOf]; omega
            · have HN := hid (HBD.out (by rw [HVAL.out, if_neg (by omega), if_neg (by omega)]))
              clear HSTEP HBD HVAL
              go_wp2_with (fail)
              go_ret2
              exact ⟨by rw [HN.out]; rfl, rfl⟩
          · have HN := hid (HBD.out (by rw [HVAL.out, if_neg (by omega), if_neg (by omega)]))
            clear HSTEP HBD HVAL
            go_wp2_with (fail)
            go_ret2
            exact ⟨by rw [HN.out]; rfl, rfl⟩
      · have HN := hid (HBD.out (by rw [HVAL.out, if_neg (by omega), if_neg (by omega)]))
        clear HSTEP HBD HVAL
        go_wp2_with (fail)
        go_ret2
        exact ⟨by rw [HN.out]; rfl, rfl⟩
    · obtain rfl : kk = 8 := by omega
      obtain ⟨hm32, hrx⟩ := HH.out.fin H8.out
      have HFR := hid (fun w => l01From_any (m : Int) (by omega) (by omega) w)
      rw [Int.toNat_natCast] at HFR
      have HBI := hid (fun w => l01Bits_any m (nf .f32 m) (Fl.self (k := .f32) hm32) w)
      by_cases hnf : nf .f32 m = m
      · rw [if_pos hnf] at hrx
        have HN := hid (dgV_some hrx)
        rw [hnf] at HBI
        clear hrx hnf HIX hk8
        go_wp2_with (fail)
        refine (HFR.out _).mono ?_
        rintro e w' ⟨rfl, rfl⟩
        go_wp2_with (fail)
        refine (HBI.out _).mono ?_
        rintro e w' ⟨rfl, rfl⟩
        go_wp2_with (fail)
        go_ret2
        exact ⟨by rw [HN.out]; rfl, rfl⟩
      · rw [if_neg hnf] at hrx
        have HN := hid (dgV_none hrx)
        have hne : ((nf .f32 m : Int) == (m : Int)) = false := by simp; omega
        generalize nf .f32 m = nm at *
        clear hrx HIX hk8
        go_wp2_with (fail)
        refine (HFR.out _).mono ?_
        rintro e w' ⟨rfl, rfl⟩
        go_wp2_with (fail)
        refine (HBI.out _).mono ?_
        rintro e w' ⟨rfl, rfl⟩
        go_wp2_with (fail)
        go_ret2
        exact ⟨by rw [HN.out]; rfl, rfl⟩
set_option maxRecDepth 100000 in
set_option maxHeartbeats 3200000 in
theorem l01CRead_any (s : ByteArray) (hs : s.size ≤ 1048576) (w : World) :
    Calls Tryd.prog 31 #[.string s] w fun e w' => (∃ v, e = .returned (.tuple #[v, .bool (RC s.data.toList).isSome]) ∧ OC w' w.heap.size v ((RC s.data.toList).getD [])) ∧ Below w.heap.size w w' := by
  obtain ⟨i0, hi, hz0, hz1, hz2⟩ := info_parts info_c64t
  obtain ⟨base, hbase⟩ : ∃ base, w.heap.size = base := ⟨_, rfl⟩
  have hM0 := hid (OC.made w (base := base) (by omega))
  have hB0 := hid ((Below.refl w.heap.size w).alloc (Nat.le_refl _) (.cells #[] 50))
  rw [hbase] at hM0 hB0
  have HBASE := hid hbase
  by_cases hn : s.data.toList = noneL
  · have hq := strq_none_t hn
    have HX := hid (RC_none hn)
    clear hn
    go_enter Tryd.func31, Tryd.ntmps31
    go_wp2_with (fail)
    go_ret2
    exact ⟨⟨_, by rw [HX.out]; rfl, by rw [HX.out, HBASE.out]; exact hM0.out⟩, by rw [HBASE.out]; exact hB0.out⟩
  · have hq := strq_none_f hn
    have HX := hid (RC_some hn)
    have HPC := hid (fun w => l01Cut_any s hs w)
    rw [HX.out]
    by_cases h64 : (cutL s.data.toList).length ≤ 256
    · rw [if_pos h64]
      generalize cutL s.data.toList = xs at *
      clear hn HX
      go_enter Tryd.func31, Tryd.ntmps31
      go_wp2_with (fail)
      refine (HPC.out _).mono ?_
      rintro e w1 ⟨⟨pv, rfl, hp⟩, hb1⟩
      have HM2 := hid (OC.below hM0.out hb1)
      have HB1 := hid (hB0.out.trans (hb1.mono (by simp; omega)))
      have hp2 := PS.mono hp (base2 := base) (by simp; omega)
      obtain ⟨p, cv, rfl⟩ := PS.form hp2
      have HP1 := hid hp2
      clear hp hb1 hp2 hM0 hB0 HPC
      go_wp2_with (fail)
      go_loopw [4, 6] (fun o i wr => ∃ (k : Nat) (zs : List (Nat × Nat)) (g cp : Nat), k ≤ xs.length ∧ i = .int .i64 k ∧ o = .slice (some ⟨g, 0, none⟩) zs.length cp ∧ Hid (OC wr base (.slice (some ⟨g, 0, none⟩) zs.length cp) zs) ∧ Hid (reads rdc xs k zs) ∧ Hid (PS wr base (.slice p xs.length cv) xs) ∧ Hid (Below base w wr)) (fun _ i _ => xs.length - (intOf i).toNat)
      case atStart => exact ⟨0, [], base, 0, Nat.zero_le _, rfl, rfl, HM2, reads_zero _ _, HP1, HB1⟩
      case round =>
        obtain ⟨k, zs, g, cp, hk, rfl, rfl, HO, HR, HP, HB2⟩ := hrel
        have hzk : zs.length ≤ 256 := by have := HR.out.2.1; omega
        have hws : base ≤ wr.heap.size := by have := HB2.out.size; rw [← HBASE.out]; exact this
        by_cases hlt : k < xs.length
        · obtain ⟨b2, off2, rfl, hc⟩ := (PS.sl HP.out).1 k (by simpa using hlt)
          have hxk : xs[k]? = some xs[k] := List.getElem?_eq_getElem hlt
          have hgd : (xs.map strOf).getD k ByteArray.empty = strOf xs[k] := by simp [List.getD, hlt]
          rw [hgd] at hc
          have hsz : (strOf xs[k]).size = xs[k].length := by simp [strOf, ByteArray.size]
          have hI : (k : Int) < (xs.length : Int) := by omega
          have hdl : (strOf xs[k]).data.toList = xs[k] := by simp [strOf]
          by_cases h8 : xs[k].length = 16
          · have HBAD := hid (fun (h : rdc xs[k] = none) => allR_bad (f := rdc) hxk h)
            have HNEXT := hid (fun v (h : rdc xs[k] = some v) => reads_succ HR.out hxk h)
            rw [h8] at hsz
            have hx1 : ((strOf xs[k]).extract 0 8).data.toList = xs[k].take 8 := by rw [Lib.extract_data, hdl]; rfl
            have hx2 : ((strOf xs[k]).extract 8 16).data.toList = xs[k].drop 8 := by
              rw [Lib.extract_data, hdl]
              exact List.take_of_length_le (by rw [List.length_drop]; omega)
            have hl1 : (xs[k].take 8).length = 8 := by rw [List.length_take]; omega
            have hl2 : (xs[k].drop 8).length = 8 := by rw [List.length_drop]; omega
            have HC1 := hid (fun w => l01Digits_any ((strOf xs[k]).extract 0 8) (by rw [Lib.size_eq, hx1]; exact hl1) w)
            have HC2 := hid (fun w => l01Digits_any ((strOf xs[k]).extract 8 16) (by rw [Lib.size_eq, hx2]; exact hl2) w)
            rw [hx1] at HC1
            rw [hx2] at HC2
            have HQ1 := hid (fun (h : rdx (xs[k].take 8) = none) => rdc_none1 h)
            have HQ2 := hid (fun (h : rdx (xs[k].drop 8) = none) => rdc_none2 h)
            have HQ3 := hid (fun a b (ha : rdx (xs[k].take 8) = some a) (hb : rdx (xs[k].drop 8) = some b) => rdc_some h8 ha hb)
            generalize xs[k].take 8 = x1 at *
            generalize xs[k].drop 8 = x2 at *
            generalize xs[k] = x at *
            generalize strOf x = sk at *
            clear hdl hgd hxk hx1 hx2 hl1 hl2 h8
            cases hr1 : rdx x1 with
            | none =>
              have HN := hid (HBAD.out (HQ1.out hr1))
              rw [dgV_none hr1] at HC1
              have HV2 : Hid (dgV x2 = .tuple #[.float .f32 ((rdx x2).getD 0), .bool (rdx x2).isSome]) := rfl
              rw [HV2.out] at HC2
              generalize (rdx x2).getD 0 = n2 at *
              generalize (rdx x2).isSome = b2x at *
              clear hr1 HBAD HNEXT HQ1 HQ2 HQ3
              go_wp2_with (fail)
              refine (HC1.out _).mono ?_
              rintro e w' ⟨rfl, rfl⟩
              go_wp2_with (fail)
              refine (HC2.out _).mono ?_
              rintro e w' ⟨rfl, rfl⟩
              go_wp2_with (fail)
              go_ret2
              exact ⟨⟨_, by rw [HN.out]; rfl, by rw [HN.out]; exact OC.nul _ _⟩, by first | exact HB2.out | (rw [HBASE.out]; exact HB2.out)⟩
            | some a =>
              rw [dgV_some hr1] at HC1
              cases hr2 : rdx x2 with
              | none =>
                have HN := hid (HBAD.out (HQ2.out hr2))
                rw [dgV_none hr2] at HC2
                clear hr1 hr2 HBAD HNEXT HQ1 HQ2 HQ3
                go_wp2_with (fail)
                refine (HC1.out _).mono ?_
                rintro e w' ⟨rfl, rfl⟩
                go_wp2_with (fail)
                refine (HC2.out _).mono ?_
                rintro e w' ⟨rfl, rfl⟩
                go_wp2_with (fail)
                go_ret2
                exact ⟨⟨_, by rw [HN.out]; rfl, by rw [HN.out]; exact OC.nul _ _⟩, by first | exact HB2.out | (rw [HBASE.out]; exact HB2.out)⟩
              | some b =>
                rw [dgV_some hr2] at HC2
                have HN := hid (HNEXT.out (a, b) (HQ3.out a b hr1 hr2))
                have HLT : Hid (a < 4294967296 ∧ b < 4294967296) := ⟨(rdx_some hr1).1, (rdx_some hr2).1⟩
                clear hr1 hr2 HBAD HNEXT HQ1 HQ2 HQ3
                go_wp2_with (fail)
                refine (HC1.out _).mono ?_
                rintro e w' ⟨rfl, rfl⟩
                go_wp2_with (fail)
                refine (HC2.out _).mono ?_
                rintro e w' ⟨rfl, rfl⟩
                go_wp2_with (at_builtin; refine StopT.out ?_)
                refine ⟨?_⟩
                refine wpList_append_own _ rfl _ _ 28 rfl base 50 i0 (.complex .f32 0 0) 1 8 Tryd.underlying28 hi hz0 hz1 hz2 rfl (by decide) (.slice (some ⟨g, 0, none⟩) zs.length cp) zs.length (zs.map cvl) rfl (OC.allocd HO.out (.cells #[.complex .f32 a b] 50)).1 ⟨_, 0, none⟩ 1 1 [.complex .f32 a b] rfl rfl (cell_one_new _ _ _) ?c2 ?c3 ?c4 ?c5 ?_
                case c2 => intro u hu; simp at hu; subst hu; rfl
                case c3 => skip; unfold maxLen; omega
                case c4 => skip; omega
                case c5 => simp; omega
                intro v' w3 hown' hgrow _
                obtain ⟨g', cap', rfl, hO⟩ := OC.of_app (l := zs) (x := (a, b)) hown' HO.out.2 HLT.out
                have HO3 : Hid (OC w3 base (.slice (some ⟨g', 0, none⟩) (zs ++ [(a, b)]).length cap') (zs ++ [(a, b)])) := by unfold Hid; rw [List.length_append]; exact hO
                have HB4 := hid ((HB2.out.alloc hws _).grown hgrow (by simp; omega) (fun k hk => by cases hk; exact (World.ownsRow.lt HO.out.1 g rfl).1))
                have HP3 := hid (PS.kept (HP.out.alloc (.cells #[.complex .f32 a b] 50)) hgrow (apart_type HP.out HO.out.1 (by decide)))
                clear hown' hO hgrow
                go_wp2_with (fail)
                go_roundw
                case rel => exact ⟨k + 1, zs ++ [(a, b)], g', cap', by omega, by go_num, by simp, HO3, HN, HP3, HB4⟩
                case measure => simp [intOf]; omega
          · have HN := hid (allR_bad (f := rdc) hxk (rdc_bad h8))
            have hsz8 : ¬ (strOf xs[k]).size = 16 := by rw [hsz]; exact h8
            have hszb : (((strOf xs[k]).size : Int) == 16) = false := by simp; omega
            generalize strOf xs[k] = sk at *
            clear hdl hgd hxk h8 hsz
            go_wp2_with (fail)
            go_ret2
            exact ⟨⟨_, by rw [HN.out]; rfl, by rw [HN.out]; exact OC.nul _ _⟩, by first | exact HB2.out | (rw [HBASE.out]; exact HB2.out)⟩
        · have HK := hid (show k = xs.length by omega)
          have HALL : Hid (allR rdc xs = some zs) := by
            have h := HR.out
            rw [HK.out] at h
            exact reads_all h
          go_wp2_with (fail)
          go_ret2
          exact ⟨⟨_, by rw [HALL.out]; rfl, by rw [HALL.out, HBASE.out]; exact HO.out⟩, by rw [HBASE.out]; exact HB2.out⟩
    · rw [if_neg h64]
      generalize cutL s.data.toList = xs at *
      clear hn HX
      go_enter Tryd.func31, Tryd.ntmps31
      go_wp2_with (fail)
      refine (HPC.out _).mono ?_
      rintro e w1 ⟨⟨pv, rfl, hp⟩, hb1⟩
      have HB1 := hid (hB0.out.trans (hb1.mono (by simp; omega)))
      obtain ⟨p, cv, rfl⟩ := PS.form hp
      clear hp hb1 hM0 hB0 HPC
      go_wp2_with (fail)
      go_ret2
      exact ⟨⟨_, rfl, by rw [HBASE.out]; exact OC.nul _ _⟩, by rw [HBASE.out]; exact HB1.out⟩
theorem sReadComplex_any (s : ByteArray) (hs : s.size ≤ 1048576) (w : World) :
    Calls Tryd.prog 13 #[.string s] w fun e w' => (∃ v, e = .returned (.tuple #[v, .bool (RC s.data.toList).isSome]) ∧ OC w' w.heap.size v ((RC s.data.toList).getD [])) ∧ Below w.heap.size w w' := by
  have HC := hid (l01CRead_any s hs w)
  generalize RC s.data.toList = o at *
  go_enter Tryd.func13, Tryd.ntmps13
  go_wp2_with (fail)
  refine HC.out.mono ?_
  rintro e w1 ⟨⟨pv, rfl, hp⟩, hb1⟩
  have HB1 := hid hb1
  have HP := hid hp
  clear hp hb1
  go_wp2_with (fail)
  go_ret2
  exact ⟨⟨_, rfl, HP.out⟩, HB1.out⟩
end Go.Proofs.YtgfnchggflecgaaDoor
