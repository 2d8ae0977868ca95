/-
  HEXADECIMAL TEXTS: what the library's writer of numbers gives at base 16. Own work; no condition beyond what each theorem names.
-/
import Derived.Test.YtgfnchggflecgaaGreatDoorTd
import Derived.Test.YtgfnchggflecgaaGreatDoorTh
import Derived.Lib.Hide
import Derived.Laws.IdiomStrings
import Derived.Lib.ItoaWalk
import Derived.OwnWalk
namespace Go.Proofs.YtgfnchggflecgaaGreatDoor
open Go.RowKit
set_option linter.unusedVariables false

/-- The library's table of trailing zeros lies as it is laid, at the place that is read, whatever is done from block 'base' on. -/
def D15 (base : Nat) (w : World) : Prop := w.cell? ⟨6, 15, none⟩ = some (.int .u8 4) ∧ 6 < base
theorem D15.on {base : Nat} {w w1 : World} (h : D15 base w) (hb : Below base w w1) : D15 base w1 := ⟨(hb.cell (p := ⟨_, _, _⟩) h.2).trans h.1, h.2⟩
set_option maxHeartbeats 400000 in
theorem TrailingZeros64_16 (base : Nat) (w : World) (h : D15 base w) :
    Calls Tryz.prog 96 #[.int .u64 16] w fun e w' => e = .returned (.int .i64 4) ∧ w = w' := by
  have hc := h.1
  clear h
  have hb : IntKind.u64.wrap (bits .and .u64 16 (IntKind.u64.wrap (-16)) * 285870213051353865) / 288230376151711744 = 15 := by decide +kernel
  go_enter Tryz.func96, Tryz.ntmps96
  go_wp2

  go_ret
  exact ⟨rfl, rfl⟩
theorem TrailingZeros_16 (base : Nat) (w : World) (h : D15 base w) :
    Calls Tryz.prog 85 #[.int .u64 16] w fun e w' => e = .returned (.int .i64 4) ∧ w = w' := by
  have HC := hid (TrailingZeros64_16 base w h)
  clear h
  go_enter Tryz.func85, Tryz.ntmps85
  go_wp2_with (fail)
  refine HC.out.mono ?_
  rintro e w' ⟨rfl, rfl⟩
  go_wp2_with (fail)
  go_ret
  exact ⟨rfl, rfl⟩
theorem isPowerOfTwo_16 (w : World) :
    Calls Tryz.prog 84 #[.int .i64 16] w fun e w' => e = .returned (.bool true) ∧ w = w' := by
  have hb : bits .and .i64 16 15 = 0 := by decide +kernel
  go_enter Tryz.func84, Tryz.ntmps84
  go_wp2
  go_ret
  exact ⟨rfl, rfl⟩

/-! ### the digits, written from the right -/
/-- The sixty-five bytes: the last of them are written. -/
def FB (w wr : World) (base i : Nat) (l : List UInt8) : Prop :=
  (∀ t, t < 65 → ∃ v, wr.cell? ⟨base, t, none⟩ = some (.int .u8 v)) ∧ (∀ t, wr.frozen? ⟨base, t, none⟩ = false) ∧ (∀ j (h : j < l.length), wr.cell? ⟨base, i + j, none⟩ = some (.int .u8 (l[j].toNat : Int))) ∧ Below base w wr
theorem FB.step {w wr : World} {base i : Nat} {l : List UInt8} (h : FB w wr base (i + 1) l) (hi : i < 65) (c : UInt8) : FB w (wr.setCell ⟨base, i, none⟩ (.int .u8 (c.toNat : Int))) base i (c :: l) := by
  obtain ⟨h1, h2, h3, h4⟩ := h
  obtain ⟨v0, hv0⟩ := h1 i hi
  refine ⟨fun t ht => ?_, fun t => by rw [World.frozen?_setCell]; exact h2 t, fun j hj => ?_, h4.setCell (p := ⟨base, i, none⟩) (Nat.le_refl _) _⟩
  · by_cases e : i = t
    · subst e
      exact ⟨_, World.cell?_setCell_same _ _ _ hv0⟩
    · obtain ⟨v, hv⟩ := h1 t ht
      exact ⟨v, by rw [World.cell?_setCell_other _ _ _ _ (by intro h; cases h; exact e rfl)]; exact hv⟩
  · cases j with
    | zero => exact World.cell?_setCell_same _ _ _ hv0
    | succ j =>
      rw [World.cell?_setCell_other _ _ _ _ (by simp)]
      have := h3 j (by simpa using hj)
      rw [show i + (j + 1) = i + 1 + j by omega]
      simpa using this
abbrev DG : ByteArray := { data := #[48, 49, 50, 51, 52, 53, 54, 55, 56, 57, 97, 98, 99, 100, 101, 102, 103, 104, 105, 106, 107, 108, 109, 110, 111, 112, 113, 114, 115, 116, 117, 118, 119, 120, 121, 122] }
theorem DG_size : DG.size = 36 := by decide +kernel
theorem DG_fin : ∀ p : Fin 16, DG.data.toList.getD p.val 0 = hdg p.val := by decide +kernel
theorem dg_at (d : Nat) (hd : d < 16) : DG[d]'(by rw [DG_size]; omega) = hdg d := by
  rw [Lib.getD_at DG d (by rw [DG_size]; omega), DG_fin ⟨d, hd⟩]
theorem fb_zero (w : World) {base : Nat} (hb : w.heap.size = base) : FB w (w.alloc (.cells Tryz.zeroCells116 116)) base 65 [] := by
  subst hb
  have hz : Tryz.zeroCells116 = Array.replicate 65 (.int .u8 0) := by kernel_rfl
  refine ⟨fun t ht => ⟨0, ?_⟩, fun t => World.frozen?_alloc_new _ _ _ _, fun j hj => absurd hj (Nat.not_lt_zero _), (Below.refl _ _).alloc (Nat.le_refl _) _⟩
  rw [World.cell?_alloc_new]
  rw [hz, Array.getElem?_replicate, if_pos ht]
set_option maxRecDepth 100000 in
set_option maxHeartbeats 1600000 in
theorem formatBits_16 (B u : Nat) (hu : u < 4294967296) (w : World) (hD : D15 B w) (hB : B ≤ w.heap.size) :
    Calls Tryz.prog 66 #[.slice none 0 0, .int .u64 (u : Int), .int .i64 16, .bool false, .bool false] w fun e w' =>
      (∃ k, k ≤ 8 ∧ u < 16 ^ k ∧ e = .returned (.tuple #[.slice none 0 0, .string (strOf (hexN k u))])) ∧ Below w.heap.size w w' := by
  obtain ⟨base, hbase⟩ : ∃ base, w.heap.size = base := ⟨_, rfl⟩
  have HF0 := hid (fb_zero w hbase)
  have HBASE := hid hbase
  have HT := hid (TrailingZeros_16 B _ (hD.on ((Below.refl B w).alloc hB (.cells Tryz.zeroCells116 116))))
  have HP := hid (fun w => isPowerOfTwo_16 w)
  clear hD
  go_enter Tryz.func66, Tryz.ntmps66
  go_wp2_with (fail)
  refine (HP.out _).mono ?_
  rintro e w' ⟨rfl, rfl⟩
  go_wp2_with (fail)
  refine HT.out.mono ?_
  rintro e w' ⟨rfl, rfl⟩
  go_wp2_with (fail)
  go_loopw [1, 13] (fun vu vi wr => ∃ (i m : Nat), 1 ≤ i ∧ i ≤ 65 ∧ vi = .int .i64 i ∧ vu = .int .u64 m ∧ (i = 65 ∨ 1 ≤ m) ∧ m * 16 ^ (65 - i) ≤ u ∧ Hid (m = u / 16 ^ (65 - i)) ∧ Hid (FB w wr base i (hexN (65 - i) u))) (fun _ vi _ => (intOf vi).toNat)
  case atStart => exact ⟨65, u, by omega, by omega, rfl, rfl, Or.inl rfl, by omega, by simp [Hid], HF0⟩
  case round =>
    obtain ⟨i, m, hi1, hi, rfl, rfl, h1m, hmu, HM, HF⟩ := hrel
    have H1M := hid h1m
    clear h1m
    have hm32 : m < 4294967296 := by
      have := HM.out
      have h2 := Nat.div_le_self u (16 ^ (65 - i))
      omega
    obtain ⟨i', rfl⟩ : ∃ i', i = i' + 1 := ⟨i - 1, by omega⟩
    obtain ⟨v0, hc0⟩ := HF.out.1 i' (by omega)
    have hf0 := HF.out.2.1 i'
    have HST := hid (FB.step HF.out (by omega) (hdg (m % 16)))
    have HHX : Hid (hexN (65 - (i' + 1) + 1) u = hdg (m % 16) :: hexN (65 - (i' + 1)) u) := by unfold Hid; rw [hexN_cons, HM.out]
    by_cases h16 : 16 ≤ m
    · have hi58 : 58 ≤ i' := by
        refine Nat.le_of_not_lt fun hh => ?_
        have h1 : 16 ^ 8 ≤ m * 16 ^ (65 - (i' + 1)) := by
          have h3 : 16 ^ 7 ≤ 16 ^ (65 - (i' + 1)) := Nat.pow_le_pow_right (by omega) (by omega)
          have h4 : 16 * 16 ^ 7 ≤ m * 16 ^ (65 - (i' + 1)) := Nat.mul_le_mul h16 h3
          simpa using h4
        have h5 : (16 : Nat) ^ 8 = 4294967296 := by decide
        omega
      have hmask : bits .and .u64 (m : Int) 15 = ((m % 16 : Nat) : Int) := by
        have e := u64_and_nat m 15 (by omega) (by decide)
        rw [show ((15 : Nat) : Int) = 15 from rfl] at e
        rw [e]
        congr 1
        exact Nat.and_two_pow_sub_one_eq_mod m 4
      have HDG := hid (dg_at (m % 16) (by omega))
      have HQ : Hid (m / 16 = u / 16 ^ (65 - i')) := by
        unfold Hid
        rw [HM.out, Nat.div_div_eq_div_mul, ← Nat.pow_succ]
        congr 2
        omega
      have hq1 : m / 16 * 16 ^ (65 - i') ≤ u := by
        rw [show 65 - i' = (65 - (i' + 1)) + 1 by omega, Nat.pow_succ, Nat.mul_comm (16 ^ (65 - (i' + 1))) 16, ← Nat.mul_assoc]
        exact Nat.le_trans (Nat.mul_le_mul_right _ (by omega)) hmu
      go_wp2_with (fail)
      go_roundw
      case rel =>
        refine ⟨i', m / 16, by omega, by omega, rfl, by simp, Or.inr (by omega), hq1, HQ, ?_⟩
        have h := HST.out
        rw [← HHX.out, ← HDG.out, show 65 - (i' + 1) + 1 = 65 - i' by omega] at h
        exact h
      case measure => simp [intOf]
    · have HDG := hid (dg_at m (by omega))
      have hm16 : m % 16 = m := Nat.mod_eq_of_lt (by omega)
      rw [hm16] at HST HHX
      have hk : u < 16 ^ (65 - (i' + 1) + 1) := by
        have h1 := HM.out
        have h2 : u / 16 ^ (65 - (i' + 1)) < 16 := by rw [← h1]; omega
        rw [Nat.pow_succ]
        exact (Nat.div_lt_iff_lt_mul (Nat.pow_pos (by omega))).1 h2 |> (Nat.mul_comm _ _ ▸ ·)
      have hFB := HST.out
      rw [← HHX.out, ← HDG.out, show 65 - (i' + 1) + 1 = 65 - i' by omega] at hFB
      rw [show 65 - (i' + 1) + 1 = 65 - i' by omega] at hk
      have HFB := hid hFB
      have HK := hid hk
      have hal : Tryz.prog.arrayLen 116 = 65 := by simp [Program.arrayLen, Tryz.underlying116]
      have hsl : ∀ W, (Instr.sliceAt 116 (.pointer (some ⟨base, 0, none⟩)) (some (.int .i64 (i' : Int))) none none).run Tryz.prog W = .ok (.slice (some ⟨base, i', none⟩) (65 - i') (65 - i')) W := fun W => by
        rw [run_sliceAt_array_l W 116 ⟨base, 0, none⟩ (by simp [Program.arrayLen, Program.elem, Tryz.underlying116]) .i64 (i' : Int) (by omega) (by rw [hal]; omega)]
        go_simp
        omega
      have hcv : (convert 22 9 (.slice (some ⟨base, i', none⟩) (65 - i') (65 - i'))).run Tryz.prog (wr.setCell ⟨base, i', none⟩ (.int .u8 ((DG[m]'(by rw [DG_size]; omega)).toNat : Int))) = .ok (.string (strOf (hexN (65 - i') u))) (wr.setCell ⟨base, i', none⟩ (.int .u8 ((DG[m]'(by rw [DG_size]; omega)).toNat : Int))) := by
        have h := run_convert_bytes_back (P := Tryz.prog) (wr.setCell ⟨base, i', none⟩ (.int .u8 ((DG[m]'(by rw [DG_size]; omega)).toNat : Int))) 22 9 5 ⟨base, i', none⟩ (65 - i') (hexN (65 - i') u) Tryz.underlying22 Tryz.underlying5 Tryz.underlying9 (fun j hj => by
          rw [Lib.add_plain]
          exact hFB.2.2.1 j hj)
        rw [hexN_len] at h
        exact h
      have hk8 : 65 - i' ≤ 8 := by
        refine Nat.le_of_not_lt fun hh => ?_
        rcases H1M.out with h65 | h1
        · omega
        · have h3 : 16 ^ 8 ≤ 16 ^ (65 - (i' + 1)) := Nat.pow_le_pow_right (by omega) (by omega)
          have h4 : 1 * 16 ^ (65 - (i' + 1)) ≤ m * 16 ^ (65 - (i' + 1)) := Nat.mul_le_mul_right _ h1
          have h5 : (16 : Nat) ^ 8 = 4294967296 := by decide
          omega
      have HK8 := hid hk8
      clear hFB HST hk hal hk8
      go_wp2_with (fail)
      go_ret2
      exact ⟨⟨65 - i', HK8.out, HK.out, rfl⟩, by rw [HBASE.out]; exact HFB.out.2.2.2⟩

theorem FormatInt_16i (B u : Nat) (hu : u < 4294967296) (w : World) (hD : D15 B w) (hB : B ≤ w.heap.size) :
    Calls Tryz.prog 53 #[.int .i64 (u : Int), .int .i64 16] w fun e w' =>
      (∃ k, k ≤ 8 ∧ u < 16 ^ k ∧ e = .returned (.string (strOf (hexN k u)))) ∧ Below w.heap.size w w' := by
  have HC := hid (formatBits_16 B u hu w hD hB)
  clear hD
  go_enter Tryz.func53, Tryz.ntmps53
  go_wp2_with (fail)
  refine HC.out.mono ?_
  rintro e w' ⟨⟨k, hk1, hk2, rfl⟩, hb⟩
  have HB := hid hb
  clear hb
  go_wp2_with (fail)
  go_ret
  exact ⟨⟨k, hk1, hk2, rfl⟩, HB.out⟩
theorem FormatInt_16 (B u : Nat) (hu : u < 4294967296) (w : World) (hD : D15 B w) (hB : B ≤ w.heap.size) :
    Calls Tryz.prog 45 #[.int .i64 (u : Int), .int .i64 16] w fun e w' =>
      (∃ k, k ≤ 8 ∧ u < 16 ^ k ∧ e = .returned (.string (strOf (hexN k u)))) ∧ Below w.heap.size w w' := by
  have HC := hid (FormatInt_16i B u hu w hD hB)
  clear hD
  go_enter Tryz.func45, Tryz.ntmps45
  go_wp2_with (fail)
  refine HC.out.mono ?_
  rintro e w' ⟨⟨k, hk1, hk2, rfl⟩, hb⟩
  have HB := hid hb
  clear hb
  go_wp2_with (fail)
  go_ret
  exact ⟨⟨k, hk1, hk2, rfl⟩, HB.out⟩
theorem hexOf_any (B x u : Nat) (hx : Fl .f32 x u) (w : World) (hD : D15 B w) (hB : B ≤ w.heap.size) :
    Calls Tryz.prog 30 #[.float .f32 x] w fun e w' => e = .returned (.string (strOf (hexN 8 u))) ∧ Below w.heap.size w w' := by
  have hu : u < 4294967296 := hx.vlt
  have HBI := hid (fun w => BitsOf_any x u hx w)
  have HC := hid (FormatInt_16 B u hu w hD hB)
  clear hD
  go_enter Tryz.func30, Tryz.ntmps30
  go_wp2_with (fail)
  refine (HBI.out _).mono ?_
  rintro e w1 ⟨rfl, rfl⟩
  go_wp2_with (fail)
  refine HC.out.mono ?_
  rintro e w1 ⟨⟨k, hk1, hk2, rfl⟩, hb⟩
  have HB := hid hb
  have hs : (strOf (hexN k u)).size = k := by simp [strOf, ByteArray.size, hexN_len]
  have HR := hid (Tryz.strings_Repeat ⟨#[48]⟩ (8 - k) w1 (by omega) (by show 1 * (8 - k) ≤ _; omega))
  have HE : Hid ((⟨(Lib.repeatL [48] (8 - k)).toArray⟩ : ByteArray) ++ strOf (hexN k u) = strOf (hexN 8 u)) := by
    unfold Hid
    have h := hexN_pad k u hk2 (8 - k)
    rw [show k + (8 - k) = 8 by omega] at h
    rw [h, ← repL_one, ← strOf_append]
    rfl
  have hsub : (8 : Int) - (k : Int) = ((8 - k : Nat) : Int) := by omega
  have hRs : (⟨(Lib.repeatL [48] (8 - k)).toArray⟩ : ByteArray).size ≤ 8 := by rw [repL_one]; simp [ByteArray.size]
  have HR2 : Hid (Calls Tryz.prog 46 #[.string ⟨#[48]⟩, .int .i64 ((8 - k : Nat) : Int)] w1 fun e w' => e = .returned (.string ⟨(Lib.repeatL [48] (8 - k)).toArray⟩) ∧ Below w1.heap.size w1 w') := HR.out
  generalize (⟨(Lib.repeatL [48] (8 - k)).toArray⟩ : ByteArray) = R at *
  generalize strOf (hexN k u) = S at *
  clear hb HC HR
  go_wp2_with (fail)
  refine HR2.out.mono ?_
  rintro e w2 ⟨rfl, hb2⟩
  have HB2 := hid (HB.out.trans (hb2.mono HB.out.size))
  clear hb2
  go_wp2_with (fail)
  go_ret
  exact ⟨by rw [← HE.out]; rfl, HB2.out⟩
end Go.Proofs.YtgfnchggflecgaaGreatDoor
