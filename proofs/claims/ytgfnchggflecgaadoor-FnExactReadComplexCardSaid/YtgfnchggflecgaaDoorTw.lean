/-
  LISTS OF NUMBERS THAT ARE READ OFF A TEXT: the reference's walk. Own work; no condition beyond what each theorem names.
-/
import Derived.Test.YtgfnchggflecgaaDoorTv
namespace Go.Proofs.YtgfnchggflecgaaDoor
open Go.RowKit
set_option linter.unusedVariables false

theorem RN_none {l : List UInt8} (h : l = noneL) : RN l = some [] := by
  unfold RN
  have hp : pcs l = [] := by unfold pcs; rw [if_pos h]
  rw [hp]
  rfl
theorem RN_some {l : List UInt8} (h : l ≠ noneL) : RN l = if (cutL l).length ≤ 256 then allR rdx (cutL l) else none := by
  unfold RN pcs
  rw [if_neg h]
/-- The digits read so far. -/
def HV (l : List UInt8) (kk m : Nat) : Prop := m < 16 ^ kk ∧ hexV l 0 = hexV (l.drop kk) m
theorem HV.step {l : List UInt8} {kk m d : Nat} (h : HV l kk m) (hk : kk < l.length) (hd : d < 16) (hv : hval l[kk] = some d) : HV l (kk + 1) (16 * m + d) := by
  refine ⟨by have := h.1; rw [Nat.pow_succ]; omega, ?_⟩
  rw [h.2, List.drop_eq_getElem_cons hk, hexV_cons_some hv]
theorem HV.bad {l : List UInt8} {kk m : Nat} (h : HV l kk m) (hk : kk < l.length) (hv : hval l[kk] = none) : rdx l = none := by
  have e : hexV l 0 = none := by rw [h.2, List.drop_eq_getElem_cons hk, hexV_cons_none hv]
  unfold rdx
  split
  · rw [e]
  · rfl
theorem HV.fin {l : List UInt8} {m : Nat} (h : HV l 8 m) (hl : l.length = 8) : m < 4294967296 ∧ rdx l = if nf .f32 m = m then some m else none := by
  have h3 : (16 : Nat) ^ 8 = 4294967296 := by decide
  have h1 := h.1
  refine ⟨by omega, ?_⟩
  have e : hexV l 0 = some m := by rw [h.2, List.drop_eq_nil_of_le (by omega)]; rfl
  unfold rdx
  rw [if_pos hl, e]
set_option maxRecDepth 100000 in
set_option maxHeartbeats 3200000 in
theorem l01NRead_any (s : ByteArray) (hs : s.size ≤ 1048576) (w : World) :
    Calls Tryd.prog 27 #[.string s] w fun e w' => (∃ v, e = .returned (.tuple #[v, .bool (RN s.data.toList).isSome]) ∧ OF w' w.heap.size v ((RN s.data.toList).getD [])) ∧ Below w.heap.size w w' := by
  obtain ⟨i0, hi, hz0, hz1, hz2⟩ := info_parts info_f32t
  obtain ⟨base, hbase⟩ : ∃ base, w.heap.size = base := ⟨_, rfl⟩
  have hM0 := hid (OF.made w (base := base) (by omega))
  have hB0 := hid ((Below.refl w.heap.size w).alloc (Nat.le_refl _) (.cells #[] 46))
  rw [hbase] at hM0 hB0
  have HBASE := hid hbase
  by_cases hn : s.data.toList = noneL
  · have hq := strq_none_t hn
    have HX := hid (RN_none hn)
    clear hn
    go_enter Tryd.func27, Tryd.ntmps27
    go_wp2_with (fail)
    go_ret2
    exact ⟨⟨_, by rw [HX.out]; rfl, by rw [HX.out, HBASE.out]; exact hM0.out⟩, by rw [HBASE.out]; exact hB0.out⟩
  · have hq := strq_none_f hn
    have HX := hid (RN_some hn)
    have HPC := hid (fun w => l01Cut_any s hs w)
    rw [HX.out]
    by_cases h64 : (cutL s.data.toList).length ≤ 256
    · rw [if_pos h64]
      generalize cutL s.data.toList = xs at *
      clear hn HX
      go_enter Tryd.func27, Tryd.ntmps27
      go_wp2_with (fail)
      refine (HPC.out _).mono ?_
      rintro e w1 ⟨⟨pv, rfl, hp⟩, hb1⟩
      have HM2 := hid (OF.below hM0.out hb1)
      have HB1 := hid (hB0.out.trans (hb1.mono (by simp; omega)))
      have hp2 := PS.mono hp (base2 := base) (by simp; omega)
      obtain ⟨p, cv, rfl⟩ := PS.form hp2
      have HP1 := hid hp2
      clear hp hb1 hp2 hM0 hB0 HPC
      go_wp2_with (fail)
      go_loopw [4, 6] (fun o i wr => ∃ (k : Nat) (zs : List Nat) (g cp : Nat), k ≤ xs.length ∧ i = .int .i64 k ∧ o = .slice (some ⟨g, 0, none⟩) zs.length cp ∧ Hid (OF wr base (.slice (some ⟨g, 0, none⟩) zs.length cp) zs) ∧ Hid (reads rdx xs k zs) ∧ Hid (PS wr base (.slice p xs.length cv) xs) ∧ Hid (Below base w wr)) (fun _ i _ => xs.length - (intOf i).toNat)
      case atStart => exact ⟨0, [], base, 0, Nat.zero_le _, rfl, rfl, HM2, reads_zero _ _, HP1, HB1⟩
      case round =>
        obtain ⟨k, zs, g, cp, hk, rfl, rfl, HO, HR, HP, HB2⟩ := hrel
        have hzk : zs.length ≤ 256 := by have := HR.out.2.1; omega
        have hws : base ≤ wr.heap.size := by have := HB2.out.size; rw [← HBASE.out]; exact this
        by_cases hlt : k < xs.length
        · obtain ⟨b2, off2, rfl, hc⟩ := (PS.sl HP.out).1 k (by simpa using hlt)
          have hxk : xs[k]? = some xs[k] := List.getElem?_eq_getElem hlt
          have hgd : (xs.map strOf).getD k ByteArray.empty = strOf xs[k] := by simp [List.getD, hlt]
          rw [hgd] at hc
          have hsz : (strOf xs[k]).size = xs[k].length := by simp [strOf, ByteArray.size]
          have hI : (k : Int) < (xs.length : Int) := by omega
          have hdl : (strOf xs[k]).data.toList = xs[k] := by simp [strOf]
          by_cases h8 : xs[k].length = 8
          · have HBAD := hid (fun (h : rdx xs[k] = none) => allR_bad (f := rdx) hxk h)
            have HNEXT := hid (fun v (h : rdx xs[k] = some v) => reads_succ HR.out hxk h)
            have H8 := hid h8
            rw [h8] at hsz
            have hat : ∀ (kk : Nat) (h : kk < 8), (strOf xs[k])[kk]'(by rw [hsz]; exact h) = xs[k][kk]'(by rw [h8]; exact h) := fun kk h => by
              have h1 := byte_at (strOf xs[k]) kk (by rw [hsz]; exact h)
              rw [hdl, List.getElem?_eq_getElem (by rw [h8]; exact h)] at h1
              exact (Option.some.inj h1).symm
            have HIX : Hid (∀ (kk : Nat) (h : kk < 8), ∀ W, (Instr.index 9 (.string (strOf xs[k])) (.int .i64 (kk : Int))).run Tryd.prog W = .ok (.int .u8 (((xs[k][kk]'(by rw [h8]; exact h)).toNat : Nat) : Int)) W) := fun kk h W => by
              have h1 := idx_str (strOf xs[k]) kk (by rw [hsz]; exact h) W
              rw [hat kk h] at h1
              exact h1
            clear hat hxk
            generalize xs[k] = x at *
            generalize strOf x = sk at *
            clear hdl hgd
            go_wp2_with (fail)
            go_loop [7, 8] (fun n kv => ∃ kk m : Nat, kk ≤ 8 ∧ kv = .int .i64 kk ∧ n = .int .i64 m ∧ Hid (HV x kk m)) (fun _ kv => 8 - (intOf kv).toNat)
            case atStart => exact ⟨0, 0, by omega, rfl, rfl, ⟨by decide, rfl⟩⟩
            case round =>
              obtain ⟨kk, m, hkk, rfl, rfl, HH⟩ := hrel
              by_cases hk8 : kk < 8
              · have hm7 : m < 268435456 := by
                  have h1 := HH.out.1
                  have h2 : 16 ^ kk ≤ 16 ^ 7 := Nat.pow_le_pow_right (by omega) (by omega)
                  have h3 : (16 : Nat) ^ 7 = 268435456 := by decide
                  omega
                have hix := HIX.out kk hk8
                have hcc : kk < x.length := by rw [H8.out]; exact hk8
                have HSTEP := hid (fun d (hd : d < 16) (hv : hval (x[kk]'hcc) = some d) => HH.out.step hcc hd hv)
                have HBD := hid (fun (hv : hval (x[kk]'hcc) = none) => HBAD.out (HH.out.bad hcc hv))
                have HVAL : Hid (hval (x[kk]'hcc) = if 48 ≤ (x[kk]'hcc).toNat ∧ (x[kk]'hcc).toNat ≤ 57 then some ((x[kk]'hcc).toNat - 48) else if 97 ≤ (x[kk]'hcc).toNat ∧ (x[kk]'hcc).toNat ≤ 102 then some ((x[kk]'hcc).toNat - 87) else none) := rfl
                have hc256 := (x[kk]'hcc).toNat_lt
                generalize x[kk]'hcc = c at *
                generalize c.toNat = cn at *
                clear hcc
                by_cases hd1 : 48 ≤ cn
                · by_cases hd2 : cn ≤ 57
                  · have HN := HSTEP.out (cn - 48) (by omega) (by rw [HVAL.out, if_pos ⟨hd1, hd2⟩])
                    have HN2 := hid HN
                    clear HSTEP HBD HVAL HN
                    go_wp2_with (fail)
                    go_round
                    case rel => exact ⟨kk + 1, 16 * m + (cn - 48), by omega, by go_num, by go_num, HN2⟩
                    case measure => simp [intOf]; omega
                  · by_cases hd3 : 97 ≤ cn
                    · by_cases hd4 : cn ≤ 102
                      · have HN := HSTEP.out (cn - 87) (by omega) (by rw [HVAL.out, if_neg (by omega), if_pos ⟨hd3, hd4⟩])
                        have HN2 := hid HN
                        clear HSTEP HBD HVAL HN
                        go_wp2_with (fail)
                        go_round
                        case rel => exact ⟨kk + 1, 16 * m + (cn - 87), by omega, by go_num, by go_num, HN2⟩
                        case measure => simp [intOf]; omega
                      · have HN := hid (HBD.out (by rw [HVAL.out, if_neg (by omega), if_neg (by omega)]))
                        clear HSTEP HBD HVAL
                        go_wp2_with (fail)
                        go_ret2
                        exact ⟨⟨_, by rw [HN.out]; rfl, by rw [HN.out]; exact OF.none _ _⟩, by first | exact HB2.out | (rw [HBASE.out]; exact HB2.out)⟩
                    · have HN := hid (HBD.out (by rw [HVAL.out, if_neg (by omega), if_neg (by omega)]))
                      clear HSTEP HBD HVAL
                      go_wp2_with (fail)
                      go_ret2
                      exact ⟨⟨_, by rw [HN.out]; rfl, by rw [HN.out]; exact OF.none _ _⟩, by first | exact HB2.out | (rw [HBASE.out]; exact HB2.out)⟩
                · have HN := hid (HBD.out (by rw [HVAL.out, if_neg (by omega), if_neg (by omega)]))
                  clear HSTEP HBD HVAL
                  go_wp2_with (fail)
                  go_ret2
                  exact ⟨⟨_, by rw [HN.out]; rfl, by rw [HN.out]; exact OF.none _ _⟩, by first | exact HB2.out | (rw [HBASE.out]; exact HB2.out)⟩
              · obtain rfl : kk = 8 := by omega
                obtain ⟨hm32, hrx⟩ := HH.out.fin H8.out
                have HFR := hid (fun w => l01From_any (m : Int) (by omega) (by omega) w)
                rw [Int.toNat_natCast] at HFR
                have HBI := hid (fun w => l01Bits_any m (nf .f32 m) (Fl.self (k := .f32) hm32) w)
                by_cases hnf : nf .f32 m = m
                · rw [if_pos hnf] at hrx
                  have HN := hid (HNEXT.out m hrx)
                  have HM32 := hid hm32
                  rw [hnf] at HBI
                  clear hrx hnf HIX HBAD HNEXT hk8
                  go_wp2_with (fail)
                  refine (HFR.out _).mono ?_
                  rintro e w' ⟨rfl, rfl⟩
                  go_wp2_with (fail)
                  refine (HBI.out _).mono ?_
                  rintro e w' ⟨rfl, rfl⟩
                  go_wp2_with (at_builtin; refine StopT.out ?_)
                  refine ⟨?_⟩
                  refine wpList_append_own _ rfl _ _ 22 rfl base 46 i0 (.float .f32 0) 1 4 Tryd.underlying22 hi hz0 hz1 hz2 rfl (by decide) (.slice (some ⟨g, 0, none⟩) zs.length cp) zs.length (zs.map (.float .f32)) rfl (OF.allocd HO.out (.cells #[.float .f32 m] 46)).1 ⟨_, 0, none⟩ 1 1 [.float .f32 m] rfl rfl (cell_one_new _ _ _) ?c2 ?c3 ?c4 ?c5 ?_
                  case c2 => intro u hu; simp at hu; subst hu; rfl
                  case c3 => skip; unfold maxLen; omega
                  case c4 => skip; omega
                  case c5 => simp; omega
                  intro v' w3 hown' hgrow _
                  obtain ⟨g', cap', rfl, hO⟩ := OF.of_app (l := zs) (x := m) hown' HO.out.2 HM32.out
                  have HO3 : Hid (OF w3 base (.slice (some ⟨g', 0, none⟩) (zs ++ [m]).length cap') (zs ++ [m])) := by unfold Hid; rw [List.length_append]; exact hO
                  have HB4 := hid ((HB2.out.alloc hws _).grown hgrow (by simp; omega) (fun k hk => by cases hk; exact (World.ownsRow.lt HO.out.1 g rfl).1))
                  have HP3 := hid (PS.kept (HP.out.alloc (.cells #[.float .f32 m] 46)) hgrow (apart_type HP.out HO.out.1 (by decide)))
                  clear hown' hO hgrow
                  go_wp2_with (fail)
                  go_roundw
                  case rel => exact ⟨k + 1, zs ++ [m], g', cap', by omega, by go_num, by simp, HO3, HN, HP3, HB4⟩
                  case measure => simp [intOf]; omega
                · rw [if_neg hnf] at hrx
                  have HN := hid (HBAD.out hrx)
                  have hne : ((nf .f32 m : Int) == (m : Int)) = false := by simp; omega
                  generalize nf .f32 m = nm at *
                  clear hrx HIX HBAD HNEXT hk8
                  go_wp2_with (fail)
                  refine (HFR.out _).mono ?_
                  rintro e w' ⟨rfl, rfl⟩
                  go_wp2_with (fail)
                  refine (HBI.out _).mono ?_
                  rintro e w' ⟨rfl, rfl⟩
                  go_wp2_with (fail)
                  go_ret2
                  exact ⟨⟨_, by rw [HN.out]; rfl, by rw [HN.out]; exact OF.none _ _⟩, by first | exact HB2.out | (rw [HBASE.out]; exact HB2.out)⟩
          · have HN := hid (allR_bad (f := rdx) hxk (rdx_bad h8))
            have hsz8 : ¬ (strOf xs[k]).size = 8 := by rw [hsz]; exact h8
            have hszb : (((strOf xs[k]).size : Int) == 8) = false := by simp; omega
            generalize strOf xs[k] = sk at *
            clear hdl hgd hxk h8 hsz
            go_wp2_with (fail)
            go_ret2
            exact ⟨⟨_, by rw [HN.out]; rfl, by rw [HN.out]; exact OF.none _ _⟩, by first | exact HB2.out | (rw [HBASE.out]; exact HB2.out)⟩
        · have HK := hid (show k = xs.length by omega)
          have HALL : Hid (allR rdx xs = some zs) := by
            have h := HR.out
            rw [HK.out] at h
            exact reads_all h
          go_wp2_with (fail)
          go_ret2
          exact ⟨⟨_, by rw [HALL.out]; rfl, by rw [HALL.out, HBASE.out]; exact HO.out⟩, by first | exact HB2.out | (rw [HBASE.out]; exact HB2.out)⟩
    · rw [if_neg h64]
      generalize cutL s.data.toList = xs at *
      clear hn HX
      go_enter Tryd.func27, Tryd.ntmps27
      go_wp2_with (fail)
      refine (HPC.out _).mono ?_
      rintro e w1 ⟨⟨pv, rfl, hp⟩, hb1⟩
      have HB1 := hid (hB0.out.trans (hb1.mono (by simp; omega)))
      obtain ⟨p, cv, rfl⟩ := PS.form hp
      clear hp hb1 hM0 hB0 HPC
      go_wp2_with (fail)
      go_ret2
      exact ⟨⟨_, rfl, by rw [HBASE.out]; exact OF.none _ _⟩, by rw [HBASE.out]; exact HB1.out⟩
theorem sReadNumbers_any (s : ByteArray) (hs : s.size ≤ 1048576) (w : World) :
    Calls Tryd.prog 8 #[.string s] w fun e w' => (∃ v, e = .returned (.tuple #[v, .bool (RN s.data.toList).isSome]) ∧ OF w' w.heap.size v ((RN s.data.toList).getD [])) ∧ Below w.heap.size w w' := by
  have HC := hid (l01NRead_any s hs w)
  generalize RN s.data.toList = o at *
  go_enter Tryd.func8, Tryd.ntmps8
  go_wp2_with (fail)
  refine HC.out.mono ?_
  rintro e w1 ⟨⟨pv, rfl, hp⟩, hb1⟩
  have HB1 := hid hb1
  have HP := hid hp
  clear hp hb1
  go_wp2_with (fail)
  go_ret2
  exact ⟨⟨_, rfl, HP.out⟩, HB1.out⟩
end Go.Proofs.YtgfnchggflecgaaDoor
