/-
  HEXADECIMAL TEXTS: the reference's digits; lists of numbers as texts. Printed by wip/tools/gen_hex.py. Own work; no condition beyond what each theorem names.
-/
import Derived.Test.YtgfnchggflecgaaGreatDoorTm
import Derived.Test.YtgfnchggflecgaaGreatDoorTe
import Derived.Test.YtgfnchggflecgaaGreatDoorWb
import Derived.Test.YtgfnchggflecgaaGreatDoorSc
namespace Go.Proofs.YtgfnchggflecgaaGreatDoor
open Go.RowKit
set_option linter.unusedVariables false

abbrev DH : ByteArray := { data := #[48, 49, 50, 51, 52, 53, 54, 55, 56, 57, 97, 98, 99, 100, 101, 102] }
theorem DH_size : DH.size = 16 := by decide +kernel
theorem DH_fin : ∀ p : Fin 16, DH.data.toList.getD p.val 0 = hdg p.val := by decide +kernel
theorem dh_at (d : Nat) (hd : d < 16) : DH[d]'(by rw [DH_size]; omega) = hdg d := by
  rw [Lib.getD_at DH d (by rw [DH_size]; omega), DH_fin ⟨d, hd⟩]
theorem i64_mask (a : Nat) (ha : a < 4294967296) : bits .and .i64 (a : Int) 15 = ((a % 16 : Nat) : Int) := by
  have e := i64_and_nat a 15 (by omega) (by decide)
  rw [show ((15 : Nat) : Int) = 15 from rfl] at e
  rw [e]
  congr 1
  exact Nat.and_two_pow_sub_one_eq_mod a 4
theorem info_u8h : (Tryz.prog.info? 5).map (fun i => (i.zero, i.size, i.bytes)) = some (some (.int .u8 0), 1, 1) := by kernel_rfl
theorem OB.of_app1 {w : World} {base : Nat} {v : Value} {l : List UInt8} {x : UInt8} (h : w.ownsRow base 5 1 v (l.length + 1) (Lib.byteCells l ++ [.int .u8 (x.toNat : Int)])) : ∃ g cap, v = .slice (some ⟨g, 0, none⟩) (l.length + 1) cap ∧ OB w base g cap (l ++ [x]) := by
  rcases h.2 with ⟨_, h0⟩ | ⟨g, cap, cur, rfl, _⟩
  · omega
  · refine ⟨g, cap, rfl, ?_⟩
    unfold OB
    rw [List.length_append, show Lib.byteCells (l ++ [x]) = Lib.byteCells l ++ [.int .u8 (x.toNat : Int)] by simp [Lib.byteCells]]
    exact h
theorem hex_next (j u : Nat) (hj : j < 8) : hexN j (u / 16 ^ (8 - j)) ++ [hdg (u / 16 ^ (7 - j) % 16)] = hexN (j + 1) (u / 16 ^ (8 - (j + 1))) := by
  rw [show 8 - (j + 1) = 7 - j by omega, show 8 - j = (7 - j) + 1 by omega, Nat.pow_succ, ← Nat.div_div_eq_div_mul]
  rfl
/-! ### lists of numbers -/
/-- The texts of the first k numbers. -/
def nts (vs : List Nat) (k : Nat) : List (List UInt8) := (vs.take k).map (hexN 8)
theorem nts_succ {vs : List Nat} {k : Nat} (hk : k < vs.length) : nts vs (k + 1) = nts vs k ++ [hexN 8 (vs.getD k 0)] := by
  unfold nts
  rw [List.take_succ_eq_append_getElem hk, List.map_append]
  simp [List.getD, hk]
theorem nts_len {vs : List Nat} {k : Nat} (hk : k ≤ vs.length) : (nts vs k).length = k := by simp [nts]; omega
theorem nts_join {vs : List Nat} {k : Nat} (hk : k ≤ vs.length) (hm : vs.length ≤ 256) : (Lib.join (nts vs k) [44]).length ≤ 256 * 9 := by
  have h1 := join_le (xs := nts vs k) (m := 8) (fun x hx => by
    obtain ⟨y, hy, rfl⟩ := List.mem_map.1 hx
    rw [hexN_len]
    omega)
  rw [nts_len hk] at h1
  have : k * 9 ≤ 256 * 9 := Nat.mul_le_mul_right _ (by omega)
  omega
def ntL (vs : List Nat) : List UInt8 := if vs.length ≤ 256 then jn (nts vs vs.length) else []
theorem us_get {zs : List Nat} {k : Nat} (hk : k < zs.length) : (us zs).getD k 0 = nf .f32 (zs.getD k 0) := by simp [us, List.getD, hk]
theorem fl_get {zs : List Nat} (hz : ∀ z ∈ zs, z < 4294967296) {k : Nat} (hk : k < zs.length) : Fl .f32 (zs.getD k 0) ((us zs).getD k 0) := by
  rw [us_get hk]
  refine ⟨?_, rfl⟩
  have : zs.getD k 0 = zs[k] := by simp [List.getD, hk]
  rw [this]
  exact hz _ (List.getElem_mem hk)
set_option maxRecDepth 100000 in
set_option maxHeartbeats 400000 in
theorem NumbersText_any (B : Nat) (p : Option Addr) (cap : Nat) (zs : List Nat) (w : World) (hs : SL (.float .f32) 0 w p zs) (hz : ∀ z ∈ zs, z < 4294967296) (hm : zs.length ≤ 1048576) (hD : D15 B w) (hB : B ≤ w.heap.size) :
    Calls Tryz.prog 12 #[.slice p zs.length cap] w fun e w' => e = .returned (.tuple #[.string (strOf (ntL (us zs))), .bool (decide (zs.length ≤ 256))]) ∧ Below w.heap.size w w' := by
  by_cases h256 : zs.length ≤ 256
  · obtain ⟨i0, hi, hz0, hz1, hz2⟩ := info_parts info_str
    have HV : Hid (ntL (us zs) = jn (nts (us zs) zs.length)) := by unfold Hid ntL; rw [us_len, if_pos h256]
    rw [decide_eq_true h256, HV.out]
    have HS := hid hs
    have HZ := hid hz
    have HUL := hid (us_len zs)
    have HD := hid hD
    obtain ⟨base, hbase⟩ : ∃ base, w.heap.size = base := ⟨_, rfl⟩
    have hM := hid (OS.made w (base := base) (by omega))
    have hB0 := hid ((Below.refl w.heap.size w).alloc (Nat.le_refl _) (.cells #[] 9))
    rw [hbase] at hM hB0
    have HBASE := hid hbase
    have hd : decide ((256 : Int) < (zs.length : Int)) = false := decide_eq_false (by omega)
    clear hs hz hD HV
    go_enter Tryz.func12, Tryz.ntmps12
    go_wp2_with (fail)
    go_loopw [4, 13] (fun o i wr => ∃ k g cp : Nat, k ≤ zs.length ∧ i = .int .i64 k ∧ o = .slice (some ⟨g, 0, none⟩) k cp ∧ Hid (OS wr base g cp ((nts (us zs) k).map strOf)) ∧ Hid (Below base w wr)) (fun _ i _ => zs.length - (intOf i).toNat)
    case atStart => exact ⟨0, base, 0, Nat.zero_le _, rfl, rfl, hM, hB0⟩
    case round =>
      obtain ⟨k, g, cp, hk, rfl, rfl, HO, HB2⟩ := hrel
      have hws : base ≤ wr.heap.size := by have := HB2.out.size; rw [← HBASE.out]; exact this
      by_cases hlt : k < zs.length
      · have HS2 := hid (SL.below HS.out HB2.out (by rw [← HBASE.out]; exact HS.out.lt))
        obtain ⟨b2, off2, e2, hc⟩ := HS2.out k hlt
        subst e2
        have hI2 : (k : Int) < (zs.length : Int) := by omega
        have hku : k < (us zs).length := by rw [HUL.out]; exact hlt
        have HX := hid (nts_succ hku)
        have hol : ((nts (us zs) k).map strOf).length = k := by rw [List.length_map, nts_len (by omega)]
        have HOL := hid hol
        have HC := hid (hexOf_any B (zs.getD k 0) ((us zs).getD k 0) (fl_get HZ.out hlt) wr (HD.out.on (HB2.out.mono (by rw [← HBASE.out]; exact hB))) (Nat.le_trans hB (by rw [HBASE.out]; exact hws)))
        clear hol hku
        generalize zs.getD k 0 = z2 at *
        generalize (us zs).getD k 0 = u2 at *
        go_wp2_with (fail)
        refine HC.out.mono ?_
        rintro e w2 ⟨rfl, hb2⟩
        have HB3 := hid (HB2.out.trans (hb2.mono hws))
        have HO2 := hid (OS.below HO.out hb2)
        have hws2 : base ≤ w2.heap.size := by have := hb2.size; omega
        clear hb2 HC
        go_wp2_with (at_builtin; refine StopT.out ?_)
        refine ⟨?_⟩
        refine wpList_append_own _ rfl _ _ 57 rfl base 9 i0 (.string ByteArray.empty) 1 16 Tryz.underlying57 hi hz0 hz1 hz2 rfl (by decide) (.slice (some ⟨g, 0, none⟩) k cp) k (((nts (us zs) k).map strOf).map .string) rfl (by have h := OS.alloc HO2.out (.cells #[.string (strOf (hexN 8 u2))] 9); unfold OS at h; rw [HOL.out] at h; exact h) ⟨_, 0, none⟩ 1 1 [.string (strOf (hexN 8 u2))] rfl rfl (cell_one_new _ _ _) ?c2 ?c3 ?c4 ?c5 ?_
        case c2 => intro u hu; simp at hu; subst hu; rfl
        case c3 => skip; unfold maxLen; omega
        case c4 => skip; omega
        case c5 => simp; omega
        intro v' w3 hown' hgrow _
        obtain ⟨g', cap', rfl, hO⟩ := OS.of_app (l := (nts (us zs) k).map strOf) (x := strOf (hexN 8 u2)) (by rw [HOL.out]; exact hown')
        have HO3 : Hid (OS w3 base g' cap' ((nts (us zs) (k + 1)).map strOf)) := by unfold Hid; rw [HX.out, List.map_append]; exact hO
        have HB4 := hid ((HB3.out.alloc hws2 _).grown hgrow (by simp; omega) (fun k hk => by cases hk; exact (OS.lt HO.out).1))
        rw [HOL.out]
        clear hown' hO hgrow
        go_wp2_with (fail)
        go_roundw
        case rel => exact ⟨k + 1, g', cap', by omega, by go_num, rfl, HO3, HB4⟩
        case measure => simp [intOf]; omega
      · have HK := hid (show k = zs.length by omega)
        have HL : Hid (k = (nts (us zs) k).length) := (nts_len (by rw [HUL.out]; exact hk)).symm
        have hJ : (Lib.join (nts (us zs) k) [44]).length ≤ 1073741824 := by
          have := nts_join (vs := us zs) (k := k) (by rw [HUL.out]; exact hk) (by rw [HUL.out]; exact h256)
          omega
        have HC : Hid (Calls Tryz.prog 31 #[.slice (some ⟨g, 0, none⟩) k cp] wr fun e w' => e = .returned (.string (strOf (jn (nts (us zs) k)))) ∧ Below wr.heap.size wr w') := by
          have h := joined_any base g cp (nts (us zs) k) wr HO.out (by rw [← HL.out]; omega) hJ
          rw [← HL.out] at h
          exact h
        clear hJ
        go_wp2_with (fail)
        refine HC.out.mono ?_
        rintro e w2 ⟨rfl, hb2⟩
        have HB3 := hid (HB2.out.trans (hb2.mono hws))
        clear hb2
        go_wp2_with (fail)
        go_ret2
        exact ⟨by rw [← HK.out]; rfl, by rw [HBASE.out]; exact HB3.out⟩
  · have HV : Hid (ntL (us zs) = []) := by unfold Hid ntL; rw [us_len, if_neg h256]
    rw [decide_eq_false h256, HV.out]
    clear hs hz hD HV
    go_enter Tryz.func12, Tryz.ntmps12
    go_wp2_with (fail)
    go_ret2
    exact ⟨rfl, Below.refl _ _⟩
end Go.Proofs.YtgfnchggflecgaaGreatDoor
