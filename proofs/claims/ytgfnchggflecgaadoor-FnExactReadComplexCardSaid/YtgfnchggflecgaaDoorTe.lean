/-
  LISTS OF INTEGERS AS TEXTS: the walks. Own work; no condition beyond what each theorem names.
-/
import Derived.Test.YtgfnchggflecgaaDoorTd
namespace Go.Proofs.YtgfnchggflecgaaDoor
open Go.RowKit
set_option linter.unusedVariables false

/-- A row of strings that the call owns. -/
def OS (w : World) (base : Nat) (g cap : Nat) (l : List ByteArray) : Prop := w.ownsRow base 9 1 (.slice (some ⟨g, 0, none⟩) l.length cap) l.length (l.map .string)
theorem info_str : (Tryd.prog.info? 9).map (fun i => (i.zero, i.size, i.bytes)) = some (some (.string ByteArray.empty), 1, 16) := by kernel_rfl
set_option maxHeartbeats 400000 in
theorem l01Text_any (p : Option Addr) (cap : Nat) (zs : List Int) (w : World) (hs : SL (.int .i64) 0 w p zs) (hv : valB zs = true) :
    Calls Tryd.prog 37 #[.slice p zs.length cap] w fun e w' => e = .returned (.string (strOf (jn (txs zs zs.length)))) ∧ Below w.heap.size w w' := by
  obtain ⟨hb, h64⟩ := valB_parts hv
  have HS := hid hs
  have HB := hid hb
  clear hs hb hv
  by_cases h0 : zs.length = 0
  · have HJ : Hid (jn (txs zs zs.length) = noneL) := by unfold Hid jn; rw [if_pos (by rw [h0]; rfl)]
    have hz : ((zs.length : Int) == 0) = true := by simp [h0]
    clear h0
    go_enter Tryd.func37, Tryd.ntmps37
    go_wp2
    go_ret
    exact ⟨by rw [HJ.out]; rfl, Below.refl _ _⟩
  · have hz : ((zs.length : Int) == 0) = false := by simp [h0]
    have hpos : 0 < zs.length := by omega
    obtain ⟨b, off, rfl, hc⟩ := HS.out 0 hpos
    rw [Nat.add_zero] at hc
    have hI : (0 : Int) < (zs.length : Int) := by omega
    have i0 := inV_bounds (HB.out 0 hpos)
    have HT1 : Hid (Lib.join (txs zs 1) [44] = Lib.itoa (zs.getD 0 0)) := by
      have e := txs_succ (zs := zs) (k := 0) hpos
      rw [Nat.zero_add] at e
      unfold Hid
      rw [e]
      exact Lib.join_one _ _
    have HC := hid (l01Dec_any (zs.getD 0 0) (by omega) (by omega))
    generalize zs.getD 0 0 = z at *
    go_enter Tryd.func37, Tryd.ntmps37
    go_wp2_with (fail)
    refine (HC.out _).mono ?_
    rintro e w1 ⟨rfl, hb1⟩
    have HB1 := hid hb1
    have HBL := hid (HS.out.lt (fun e => by rw [e] at hpos; simp at hpos))
    clear hb1 hc i0 HC
    go_wp2_with (fail)
    go_loopw [3, 4] (fun o i wr => ∃ k : Nat, 1 ≤ k ∧ k ≤ zs.length ∧ i = .int .i64 k ∧ o = .string (strOf (Lib.join (txs zs k) [44])) ∧ Hid (Below w.heap.size w wr)) (fun _ i _ => zs.length - (intOf i).toNat)
    case atStart => exact ⟨1, Nat.le_refl _, hpos, rfl, by rw [HT1.out], HB1⟩
    case round =>
      obtain ⟨k, hk1, hk, rfl, rfl, HB2⟩ := hrel
      by_cases hlt : k < zs.length
      · have HS2 := hid (SL.below_all HS.out HB2.out)
        obtain ⟨b2, off2, e2, hc⟩ := HS2.out k hlt
        cases e2
        have hI2 : (k : Int) < (zs.length : Int) := by omega
        have ik := inV_bounds (HB.out k hlt)
        have HT2 : Hid (strOf (Lib.join (txs zs k) [44]) ++ (strOf [44] ++ strOf (Lib.itoa (zs.getD k 0))) = strOf (Lib.join (txs zs (k + 1)) [44])) := by
          unfold Hid
          rw [txs_succ hlt, join_snoc (fun e => by have := txs_len (zs := zs) (k := k) hk; rw [e] at this; simp at this; omega), strOf_append, strOf_append]
          rfl
        have hlen : (Lib.join (txs zs k) [44]).length ≤ 64 * 22 := by
          have h1 := join_le (xs := txs zs k) (m := 21) (fun x hx => by
            obtain ⟨y, hy, rfl⟩ := List.mem_map.1 hx
            have hy2 := List.mem_of_mem_take hy
            obtain ⟨j, hj, rfl⟩ := List.getElem_of_mem hy2
            have h3 := inV_bounds (HB.out j hj)
            simp [List.getD, hj] at h3
            exact Lib.itoa_length_le _ (by omega) (by omega))
          rw [txs_len hk] at h1
          have : k * 22 ≤ 64 * 22 := Nat.mul_le_mul_right _ (by omega)
          omega
        have hl2 := Lib.itoa_length_le (zs.getD k 0) (by omega) (by omega)
        have HC := hid (l01Dec_any (zs.getD k 0) (by omega) (by omega))
        generalize zs.getD k 0 = z2 at *
        obtain ⟨S1, hS1⟩ : ∃ S, strOf (Lib.join (txs zs k) [44]) = S := ⟨_, rfl⟩
        obtain ⟨S2, hS2⟩ : ∃ S, strOf (Lib.itoa z2) = S := ⟨_, rfl⟩
        have hz1 : S1.size ≤ 64 * 22 := by rw [← hS1]; simpa [strOf, ByteArray.size] using hlen
        have hz2 : S2.size ≤ 21 := by rw [← hS2]; simpa [strOf, ByteArray.size] using hl2
        rw [hS1, hS2] at HT2
        rw [hS2] at HC
        rw [hS1]
        have HS1 := hid hS1
        clear hS1 hS2 hlen hl2 ik
        go_wp2_with (fail)
        refine (HC.out _).mono ?_
        rintro e w2 ⟨rfl, hb2⟩
        have HB3 := hid (HB2.out.trans (hb2.mono HB2.out.size))
        clear hb2
        go_wp2_with (fail)
        go_roundw
        case rel => exact ⟨k + 1, by omega, by omega, by go_num, by rw [← HT2.out]; rfl, HB3⟩
        case measure => simp [intOf]; omega
      · have HK := hid (show k = zs.length by omega)
        have HJ : Hid (jn (txs zs zs.length) = Lib.join (txs zs k) [44]) := by
          unfold Hid jn
          rw [if_neg (fun e => by have := txs_len (zs := zs) (Nat.le_refl _); rw [e] at this; simp at this; omega), HK.out]
        go_wp2
        go_ret
        exact ⟨by rw [HJ.out]; rfl, HB2.out⟩
theorem OS.grown {w w' : World} {base g cap : Nat} {l : List ByteArray} {row : Option Nat} (h : OS w base g cap l) (hg : w.grownBy w' row) (hne : row ≠ some g) : OS w' base g cap l :=
  World.ownsRow.kept h hg (Or.inr (fun e => hne e.symm))
theorem OS.below {w w' : World} {base g cap : Nat} {l : List ByteArray} (h : OS w base g cap l) (hb : Below w.heap.size w w') : OS w' base g cap l :=
  h.grown ⟨hb.os, hb.tape, hb.output, hb.size, fun k hk _ => hb.block k hk⟩ (fun e => by cases e) (row := none)
theorem OS.lt {w : World} {base g cap : Nat} {l : List ByteArray} (h : OS w base g cap l) : base ≤ g ∧ g < w.heap.size := World.ownsRow.lt h g rfl
theorem OS.cells {w : World} {base g cap : Nat} {l : List ByteArray} (h : OS w base g cap l) : ∀ (j : Nat) x, l[j]? = some x → w.cell? ⟨g, 0 + j, none⟩ = some (.string x) := fun j x hx => by
  have h1 := World.ownsRow.cells h (g := g) rfl j (.string x) (by simp [hx])
  have hadd : (⟨g, 0, none⟩ : Addr).add j = ⟨g, j, none⟩ := by unfold Addr.add; split <;> simp_all
  rw [hadd] at h1
  rw [Nat.zero_add]
  exact h1
theorem OS.alloc {w : World} {base g cap : Nat} {l : List ByteArray} (h : OS w base g cap l) (o : Obj) : OS (w.alloc o) base g cap l := h.below ((Below.refl _ _).alloc (Nat.le_refl _) o)
theorem OS.made (w : World) {base : Nat} (hb : base ≤ w.heap.size) : OS (w.alloc (.cells #[] 9)) base w.heap.size 0 [] :=
  World.ownsRow_made w #[] 0 hb (by unfold maxLen; omega) (by simp)
theorem OS.of_app {w : World} {base : Nat} {v : Value} {l : List ByteArray} {x : ByteArray} (h : w.ownsRow base 9 1 v (l.length + 1) (l.map .string ++ [.string x])) : ∃ g cap, v = .slice (some ⟨g, 0, none⟩) (l.length + 1) cap ∧ OS w base g cap (l ++ [x]) := by
  rcases h.2 with ⟨_, h0⟩ | ⟨g, cap, cur, rfl, _⟩
  · omega
  · refine ⟨g, cap, rfl, ?_⟩
    unfold OS
    rw [List.length_append, List.map_append]
    exact h
theorem OS.cap {w : World} {base g cap : Nat} {l : List ByteArray} (h : OS w base g cap l) : l.length ≤ cap := by
  rcases h.2 with ⟨h0, _⟩ | ⟨g', cap', cur, h0, _, _, hc, _⟩
  · cases h0
  · cases h0; exact hc
theorem joined_any (base g cap : Nat) (l : List (List UInt8)) (w : World) (h : OS w base g cap (l.map strOf)) (hm : l.length ≤ 1048576) (hl : (Lib.join l [44]).length ≤ 1073741824) :
    Calls Tryd.prog 43 #[.slice (some ⟨g, 0, none⟩) l.length cap] w fun e w' => e = .returned (.string (strOf (jn l))) ∧ Below w.heap.size w w' := by
  have hlm : (l.map strOf).length = l.length := List.length_map ..
  by_cases h0 : l = []
  · subst h0
    have HJ : Hid (jn [] = noneL) := rfl
    clear h hl
    go_enter Tryd.func43, Tryd.ntmps43
    go_wp2
    go_ret
    exact ⟨by rw [HJ.out]; rfl, Below.refl _ _⟩
  · have HJ : Hid (jn l = Lib.join l [44]) := by unfold Hid jn; rw [if_neg h0]
    have hz : ((l.length : Int) == 0) = false := by
      have : l.length ≠ 0 := fun e => h0 (List.length_eq_zero_iff.1 e)
      simpa using this
    have hmap : (l.map strOf).map (fun x => x.data.toList) = l := by
      rw [List.map_map]
      exact (List.map_congr_left fun x _ => by simp [strOf]).trans (List.map_id l)
    have HC : Hid (Calls Tryd.prog 57 #[.slice (some ⟨g, 0, none⟩) l.length cap, .string ⟨#[44]⟩] w fun e w' => e = .returned (.string (strOf (Lib.join l [44]))) ∧ Below w.heap.size w w') := by
      have hj := Tryd.strings_Join g 0 cap (l.map strOf) ⟨#[44]⟩ w (OS.cells h) (OS.lt h).2 (by omega) (OS.cap h) (by rw [hmap]; show (Lib.join l [44]).length ≤ _; omega)
      rw [hmap, hlm] at hj
      exact hj
    clear h hl hlm hmap
    go_enter Tryd.func43, Tryd.ntmps43
    go_wp2_with (fail)
    refine HC.out.mono ?_
    rintro e w' ⟨rfl, hb⟩
    have HB := hid hb
    clear hb
    go_wp2_with (fail)
    go_ret
    exact ⟨by rw [HJ.out]; rfl, HB.out⟩
set_option maxHeartbeats 400000 in
theorem listText_any (B : Nat) (p : Option Addr) (cap : Nat) (zs : List Int) (w : World) (hs : SL (.int .i64) 0 w p zs) (hv : valB zs = true) (hT : T10 B w) (hB : B ≤ w.heap.size) :
    Calls Tryd.prog 39 #[.slice p zs.length cap] w fun e w' => e = .returned (.string (strOf (jn (txs zs zs.length)))) ∧ Below w.heap.size w w' := by
  obtain ⟨i0, hi, hz0, hz1, hz2⟩ := info_parts info_str
  obtain ⟨hb, h64⟩ := valB_parts hv
  have HS := hid hs
  have HB := hid hb
  have HT := hid hT
  obtain ⟨base, hbase⟩ : ∃ base, w.heap.size = base := ⟨_, rfl⟩
  have hM := hid (OS.made w (base := base) (by omega))
  have hB0 := hid ((Below.refl w.heap.size w).alloc (Nat.le_refl _) (.cells #[] 9))
  rw [hbase] at hM hB0
  have HBASE := hid hbase
  clear hs hb hv hT
  go_enter Tryd.func39, Tryd.ntmps39
  go_wp2
  go_loopw [3, 9] (fun o i wr => ∃ k g cp : Nat, k ≤ zs.length ∧ i = .int .i64 k ∧ o = .slice (some ⟨g, 0, none⟩) k cp ∧ Hid (OS wr base g cp ((txs zs k).map strOf)) ∧ Hid (Below base w wr)) (fun _ i _ => zs.length - (intOf i).toNat)
  case atStart => exact ⟨0, base, 0, Nat.zero_le _, rfl, rfl, hM, hB0⟩
  case round =>
    obtain ⟨k, g, cp, hk, rfl, rfl, HO, HB2⟩ := hrel
    by_cases hlt : k < zs.length
    · have HS2 := hid (SL.below HS.out HB2.out (by rw [← HBASE.out]; exact HS.out.lt))
      obtain ⟨b2, off2, e2, hc⟩ := HS2.out k hlt
      subst e2
      have hI2 : (k : Int) < (zs.length : Int) := by omega
      have ik := inV_bounds (HB.out k hlt)
      have hws : base ≤ wr.heap.size := by have := HB2.out.size; rw [← HBASE.out]; exact this
      have HT2 := hid (T10.on HT.out (HB2.out.mono (by rw [← HBASE.out]; exact hB)))
      have HX := hid (txs_succ hlt)
      have hol : ((txs zs k).map strOf).length = k := by rw [List.length_map, txs_len hk]
      have HOL := hid hol
      clear hol
      have HC := hid (Decimal_any B (zs.getD k 0) (by omega) (by omega) wr HT2.out)
      generalize zs.getD k 0 = z2 at *
      go_wp2_with (fail)
      refine HC.out.mono ?_
      rintro e w2 ⟨rfl, hb2⟩
      have HB3 := hid (HB2.out.trans (hb2.mono hws))
      have HO2 := hid (OS.below HO.out hb2)
      have hws2 : base ≤ w2.heap.size := by have := hb2.size; omega
      clear hb2 HC
      go_wp2_with (at_builtin; refine StopT.out ?_)
      refine ⟨?_⟩
      refine wpList_append_own _ rfl _ _ 44 rfl base 9 i0 (.string ByteArray.empty) 1 16 Tryd.underlying44 hi hz0 hz1 hz2 rfl (by decide) (.slice (some ⟨g, 0, none⟩) k cp) k (((txs zs k).map strOf).map .string) rfl (by have h := OS.alloc HO2.out (.cells #[.string (strOf (Lib.itoa z2))] 9); unfold OS at h; rw [HOL.out] at h; exact h) ⟨_, 0, none⟩ 1 1 [.string (strOf (Lib.itoa z2))] rfl rfl (cell_one_new _ _ _) ?c2 ?c3 ?c4 ?c5 ?_
      case c2 => intro u hu; simp at hu; subst hu; rfl
      case c3 => skip; unfold maxLen; omega
      case c4 => skip; omega
      case c5 => simp; omega
      intro v' w3 hown' hgrow _
      obtain ⟨g', cap', rfl, hO⟩ := OS.of_app (l := (txs zs k).map strOf) (x := strOf (Lib.itoa z2)) (by rw [HOL.out]; exact hown')
      have HO3 : Hid (OS w3 base g' cap' ((txs zs (k + 1)).map strOf)) := by unfold Hid; rw [HX.out, List.map_append]; exact hO
      have HB4 := hid ((HB3.out.alloc hws2 _).grown hgrow (by simp; omega) (fun k hk => by cases hk; exact (OS.lt HO.out).1))
      rw [HOL.out]
      clear hown' hO hgrow
      go_wp2_with (fail)
      go_roundw
      case rel => exact ⟨k + 1, g', cap', by omega, by go_num, rfl, HO3, HB4⟩
      case measure => simp [intOf]; omega
    · have HK := hid (show k = zs.length by omega)
      have HL : Hid (k = (txs zs k).length) := (txs_len hk).symm
      have hJ : (Lib.join (txs zs k) [44]).length ≤ 1073741824 := by
        have h1 := join_le (xs := txs zs k) (m := 21) (fun x hx => by
          obtain ⟨y, hy, rfl⟩ := List.mem_map.1 hx
          have hy2 := List.mem_of_mem_take hy
          obtain ⟨j, hj, rfl⟩ := List.getElem_of_mem hy2
          have h3 := inV_bounds (HB.out j hj)
          simp [List.getD, hj] at h3
          exact Lib.itoa_length_le _ (by omega) (by omega))
        rw [txs_len hk] at h1
        have : k * 22 ≤ 64 * 22 := Nat.mul_le_mul_right _ (by omega)
        omega
      have HC : Hid (Calls Tryd.prog 43 #[.slice (some ⟨g, 0, none⟩) k cp] wr fun e w' => e = .returned (.string (strOf (jn (txs zs k)))) ∧ Below wr.heap.size wr w') := by
        have h := joined_any base g cp (txs zs k) wr HO.out (by rw [← HL.out]; omega) hJ
        rw [← HL.out] at h
        exact h
      have hws : base ≤ wr.heap.size := by have := HB2.out.size; rw [← HBASE.out]; exact this
      clear hJ
      go_wp2_with (fail)
      refine HC.out.mono ?_
      rintro e w2 ⟨rfl, hb2⟩
      have HB3 := hid (HB2.out.trans (hb2.mono hws))
      clear hb2
      go_wp2_with (fail)
      go_ret
      exact ⟨by rw [← HK.out]; rfl, by rw [HBASE.out]; exact HB3.out⟩
end Go.Proofs.YtgfnchggflecgaaDoor
