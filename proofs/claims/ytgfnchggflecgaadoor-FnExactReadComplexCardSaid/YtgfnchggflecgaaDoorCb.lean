/-
  LISTS OF COMPLEX NUMBERS THAT ARE READ OFF A TEXT: plain, and the program's walks. Own work; no condition beyond what each theorem names.
-/
import Derived.Test.YtgfnchggflecgaaDoorTw
import Derived.Test.YtgfnchggflecgaaDoorCa
namespace Go.Proofs.YtgfnchggflecgaaDoor
open Go.RowKit
set_option linter.unusedVariables false

/-! ### plain -/
def hexC (p : Nat × Nat) : List UInt8 := hexN 8 p.1 ++ hexN 8 p.2
theorem hexC_len (p : Nat × Nat) : (hexC p).length = 16 := by unfold hexC; rw [List.length_append, hexN_len, hexN_len]
theorem hexC_mem (p : Nat × Nat) : ∀ c ∈ hexC p, c ≠ 44 := by
  intro c hc
  rcases List.mem_append.1 hc with h | h
  · exact hexN_mem _ _ c h
  · exact hexN_mem _ _ c h
def rdc (x : List UInt8) : Option (Nat × Nat) := if x.length = 16 then (match rdx (x.take 8) with | some a => (match rdx (x.drop 8) with | some b => some (a, b) | none => none) | none => none) else none
theorem rdc_bad {x : List UInt8} (h : x.length ≠ 16) : rdc x = none := by unfold rdc; rw [if_neg h]
theorem rdc_none1 {x : List UInt8} (h : rdx (x.take 8) = none) : rdc x = none := by unfold rdc; rw [h]; simp
theorem rdc_none2 {x : List UInt8} (h : rdx (x.drop 8) = none) : rdc x = none := by
  unfold rdc
  rw [h]
  split
  · split <;> rfl
  · rfl
theorem rdc_some {x : List UInt8} {a b : Nat} (h16 : x.length = 16) (ha : rdx (x.take 8) = some a) (hb : rdx (x.drop 8) = some b) : rdc x = some (a, b) := by
  unfold rdc
  rw [if_pos h16, ha, hb]
def pnc (x : List UInt8) : Nat × Nat := (pnum (x.take 8), pnum (x.drop 8))
def nfc (p : Nat × Nat) : Nat × Nat := (nf .f32 p.1, nf .f32 p.2)
theorem rdc_iff {x : List UInt8} (h16 : x.length = 16) : rdc x = if hexC (nfc (pnc x)) = x then some (pnc x) else none := by
  have h1 : (x.take 8).length = 8 := by rw [List.length_take]; omega
  have h2 : (x.drop 8).length = 8 := by rw [List.length_drop]; omega
  have e1 := rdx_iff h1
  have e2 := rdx_iff h2
  have hiff : hexC (nfc (pnc x)) = x ↔ hexN 8 (nf .f32 (pnum (x.take 8))) = x.take 8 ∧ hexN 8 (nf .f32 (pnum (x.drop 8))) = x.drop 8 := by
    constructor
    · intro h
      have ht := congrArg (List.take 8) h
      have hd := congrArg (List.drop 8) h
      unfold hexC at ht hd
      rw [List.take_append_of_le_length (by rw [hexN_len]; exact Nat.le_refl _), List.take_of_length_le (by rw [hexN_len]; exact Nat.le_refl _)] at ht
      rw [List.drop_append_of_le_length (by rw [hexN_len]; exact Nat.le_refl _), List.drop_of_length_le (by rw [hexN_len]; exact Nat.le_refl _), List.nil_append] at hd
      exact ⟨ht, hd⟩
    · rintro ⟨ht, hd⟩
      show hexN 8 (nf .f32 (pnum (x.take 8))) ++ hexN 8 (nf .f32 (pnum (x.drop 8))) = x
      rw [ht, hd, List.take_append_drop]
  by_cases ht : hexN 8 (nf .f32 (pnum (x.take 8))) = x.take 8
  · rw [if_pos ht] at e1
    by_cases hd : hexN 8 (nf .f32 (pnum (x.drop 8))) = x.drop 8
    · rw [if_pos hd] at e2
      rw [if_pos (hiff.2 ⟨ht, hd⟩)]
      exact rdc_some h16 e1 e2
    · rw [if_neg hd] at e2
      rw [if_neg (fun h => hd (hiff.1 h).2)]
      exact rdc_none2 e2
  · rw [if_neg ht] at e1
    rw [if_neg (fun h => ht (hiff.1 h).1)]
    exact rdc_none1 e1
/-- A text is its pieces, each written again. -/
theorem key_gen {β : Type} (l : List UInt8) (f : List UInt8 → Option β) (g : List UInt8 → β) (h : List UInt8 → List UInt8) (hx : ∀ x ∈ pcs l, f x = if h x = x then some (g x) else none) (hc : ∀ x, ∀ c ∈ h x, c ≠ 44) :
    allR f (pcs l) = if jn ((pcs l).map h) = l then some ((pcs l).map g) else none := by
  by_cases hn : l = noneL
  · have hp : pcs l = [] := by unfold pcs; rw [if_pos hn]
    rw [hp]
    rw [if_pos (by rw [hn]; rfl)]
    rfl
  · have hp : pcs l = cutL l := by unfold pcs; rw [if_neg hn]
    have hne : pcs l ≠ [] := by rw [hp]; exact cutL_ne l
    have hjn : jn ((pcs l).map h) = Lib.join ((pcs l).map h) [44] := by
      unfold jn
      rw [if_neg (by simpa using hne)]
    rw [hjn]
    have hiff : (Lib.join ((pcs l).map h) [44] = l) ↔ ∀ x ∈ pcs l, h x = x := by
      constructor
      · intro hj
        have h2 := cutL_join ((pcs l).map h) (by simpa using hne) (fun x hx c hcc => by
          obtain ⟨y, _, rfl⟩ := List.mem_map.1 hx
          exact hc y c hcc)
        rw [hj, ← hp] at h2
        intro x hx
        obtain ⟨j, hj, rfl⟩ := List.getElem_of_mem hx
        have h3 := congrArg (fun z : List (List UInt8) => z[j]?) h2
        simp only [List.getElem?_map, List.getElem?_eq_getElem hj, Option.map_some, Option.some.injEq] at h3
        exact h3.symm
      · intro hh
        have h2 : (pcs l).map h = pcs l := (List.map_congr_left hh).trans (List.map_id _)
        rw [h2, hp]
        exact join_cutL l
    by_cases hall : ∀ x ∈ pcs l, h x = x
    · rw [if_pos (hiff.2 hall)]
      exact allR_map fun x hx2 => by rw [hx x hx2, if_pos (hall x hx2)]
    · rw [if_neg (fun h => hall (hiff.1 h))]
      obtain ⟨x, hx0⟩ := Classical.not_forall.1 hall
      obtain ⟨hx1, hx2⟩ := Classical.not_imp.1 hx0
      obtain ⟨j, hj, rfl⟩ := List.getElem_of_mem hx1
      exact allR_bad (List.getElem?_eq_getElem hj) (by rw [hx _ hx1, if_neg hx2])
def RC (l : List UInt8) : Option (List (Nat × Nat)) := if (pcs l).length ≤ 256 then allR rdc (pcs l) else none
theorem RC_bad {l : List UInt8} {k : Nat} {x : List UInt8} (h : (pcs l)[k]? = some x) (hf : rdc x = none) : RC l = none := by
  unfold RC
  split
  · exact allR_bad h hf
  · rfl
theorem RC_many {l : List UInt8} (h : 256 < (pcs l).length) : RC l = none := by unfold RC; rw [if_neg (by omega)]
theorem RC_none {l : List UInt8} (h : l = noneL) : RC l = some [] := by
  unfold RC
  have hp : pcs l = [] := by unfold pcs; rw [if_pos h]
  rw [hp]
  rfl
theorem RC_some {l : List UInt8} (h : l ≠ noneL) : RC l = if (cutL l).length ≤ 256 then allR rdc (cutL l) else none := by
  unfold RC pcs
  rw [if_neg h]
theorem rdc_lt {x : List UInt8} {p : Nat × Nat} (h : rdc x = some p) : p.1 < 4294967296 ∧ p.2 < 4294967296 := by
  unfold rdc at h
  split at h
  · cases h1 : rdx (x.take 8) with
    | none => rw [h1] at h; cases h
    | some a =>
      rw [h1] at h
      cases h2 : rdx (x.drop 8) with
      | none => rw [h2] at h; cases h
      | some b =>
        rw [h2] at h
        cases h
        exact ⟨(rdx_some h1).1, (rdx_some h2).1⟩
  · cases h
theorem RC_lt {l : List UInt8} : ∀ z ∈ (RC l).getD [], z.1 < 4294967296 ∧ z.2 < 4294967296 := by
  intro z hz
  unfold RC at hz
  split at hz
  · cases hr : allR rdc (pcs l) with
    | none => rw [hr] at hz; cases hz
    | some zs =>
      rw [hr] at hz
      obtain ⟨j, hj, rfl⟩ := List.getElem_of_mem hz
      have hl := allR_len hr
      obtain ⟨x, v, _, h2, h3⟩ := hl.2.1 j (by rw [← hl.1]; exact hj)
      simp only [Option.getD_some] at hj ⊢
      rw [List.getElem?_eq_getElem hj] at h3
      cases h3
      exact rdc_lt h2
  · cases hz
theorem RC_len (l : List UInt8) : ((RC l).getD []).length ≤ 256 := by
  unfold RC
  split
  · rename_i h
    cases hr : allR rdc (pcs l) with
    | none => simp
    | some zs => rw [Option.getD_some, (allR_len hr).1]; exact h
  · simp
/-- The texts of the first k numbers. -/
def cts (vs : List (Nat × Nat)) (k : Nat) : List (List UInt8) := (vs.take k).map hexC
theorem cts_succ {vs : List (Nat × Nat)} {k : Nat} (hk : k < vs.length) : cts vs (k + 1) = cts vs k ++ [hexC (vs.getD k (0, 0))] := by
  unfold cts
  rw [List.take_succ_eq_append_getElem hk, List.map_append]
  simp [List.getD, hk]
theorem cts_len {vs : List (Nat × Nat)} {k : Nat} (hk : k ≤ vs.length) : (cts vs k).length = k := by simp [cts]; omega
theorem cts_join {vs : List (Nat × Nat)} {k : Nat} (hk : k ≤ vs.length) (hm : vs.length ≤ 256) : (Lib.join (cts vs k) [44]).length ≤ 256 * 17 := by
  have h1 := join_le (xs := cts vs k) (m := 16) (fun x hx => by
    obtain ⟨y, hy, rfl⟩ := List.mem_map.1 hx
    rw [hexC_len]
    omega)
  rw [cts_len hk] at h1
  have : k * 17 ≤ 256 * 17 := Nat.mul_le_mul_right _ (by omega)
  omega
def ucs (zs : List (Nat × Nat)) : List (Nat × Nat) := zs.map nfc
theorem ucs_len (zs : List (Nat × Nat)) : (ucs zs).length = zs.length := by simp [ucs]
theorem ucs_get {zs : List (Nat × Nat)} {k : Nat} (hk : k < zs.length) : (ucs zs).getD k (0, 0) = nfc (zs.getD k (0, 0)) := by simp [ucs, List.getD, hk]
def ctL (vs : List (Nat × Nat)) : List UInt8 := if vs.length ≤ 256 then jn (cts vs vs.length) else []
theorem rc_key (l : List UInt8) (h16 : ∀ x ∈ pcs l, x.length = 16) (h256 : (pcs l).length ≤ 256) :
    RC l = if ctL (ucs ((pcs l).map pnc)) = l then some ((pcs l).map pnc) else none := by
  have hnt : ctL (ucs ((pcs l).map pnc)) = jn ((pcs l).map fun x => hexC (nfc (pnc x))) := by
    unfold ctL
    rw [ucs_len, List.length_map, if_pos h256]
    unfold cts
    rw [List.take_of_length_le (by rw [ucs_len, List.length_map]; exact Nat.le_refl _)]
    unfold ucs
    rw [List.map_map, List.map_map]
    rfl
  rw [hnt]
  unfold RC
  rw [if_pos h256]
  exact key_gen l rdc pnc (fun x => hexC (nfc (pnc x))) (fun x hx => rdc_iff (h16 x hx)) (fun x => hexC_mem _)
theorem map_take_pnc {xs : List (List UInt8)} {k : Nat} (hk : k < xs.length) : (xs.take (k + 1)).map pnc = (xs.take k).map pnc ++ [pnc xs[k]] := by
  rw [List.take_succ_eq_append_getElem hk, List.map_append]
  rfl

/-! ### the program -/
set_option maxRecDepth 100000 in
set_option maxHeartbeats 800000 in
theorem ComplexText_any (B : Nat) (p : Option Addr) (cap : Nat) (zs : List (Nat × Nat)) (w : World) (hs : SL cvl (0, 0) w p zs) (hz : ∀ z ∈ zs, z.1 < 4294967296 ∧ z.2 < 4294967296) (h256 : zs.length ≤ 256) (hD : D15 B w) (hB : B ≤ w.heap.size) :
    Calls Tryd.prog 32 #[.slice p zs.length cap] w fun e w' => e = .returned (.tuple #[.string (strOf (ctL (ucs zs))), .bool true]) ∧ Below w.heap.size w w' := by
  obtain ⟨i0, hi, hz0, hz1, hz2⟩ := info_parts info_str
  have HV : Hid (ctL (ucs zs) = jn (cts (ucs zs) zs.length)) := by unfold Hid ctL; rw [ucs_len, if_pos h256]
  rw [HV.out]
  have HS := hid hs
  have HZ := hid hz
  have HUL := hid (ucs_len zs)
  have HD := hid hD
  obtain ⟨base, hbase⟩ : ∃ base, w.heap.size = base := ⟨_, rfl⟩
  have hM := hid (OS.made w (base := base) (by omega))
  have hB0 := hid ((Below.refl w.heap.size w).alloc (Nat.le_refl _) (.cells #[] 9))
  rw [hbase] at hM hB0
  have HBASE := hid hbase
  have hd : decide ((256 : Int) < (zs.length : Int)) = false := decide_eq_false (by omega)
  clear hs hz hD HV
  go_enter Tryd.func32, Tryd.ntmps32
  go_wp2_with (fail)
  go_loopw [4, 13] (fun o i wr => ∃ k g cp : Nat, k ≤ zs.length ∧ i = .int .i64 k ∧ o = .slice (some ⟨g, 0, none⟩) k cp ∧ Hid (OS wr base g cp ((cts (ucs zs) k).map strOf)) ∧ Hid (Below base w wr)) (fun _ i _ => zs.length - (intOf i).toNat)
  case atStart => exact ⟨0, base, 0, Nat.zero_le _, rfl, rfl, hM, hB0⟩
  case round =>
    obtain ⟨k, g, cp, hk, rfl, rfl, HO, HB2⟩ := hrel
    have hws : base ≤ wr.heap.size := by have := HB2.out.size; rw [← HBASE.out]; exact this
    by_cases hlt : k < zs.length
    · have HS2 := hid (SL.below HS.out HB2.out (by rw [← HBASE.out]; exact HS.out.lt))
      obtain ⟨b2, off2, e2, hc0⟩ := HS2.out k hlt
      subst e2
      have hI2 : (k : Int) < (zs.length : Int) := by omega
      have hku : k < (ucs zs).length := by rw [HUL.out]; exact hlt
      have HX := hid (cts_succ hku)
      rw [ucs_get hlt] at HX
      have hol : ((cts (ucs zs) k).map strOf).length = k := by rw [List.length_map, cts_len (by omega)]
      have HOL := hid hol
      have hb := HZ.out (zs.getD k (0, 0)) (by simp [List.getD, hlt])
      generalize zs.getD k (0, 0) = z2 at *
      obtain ⟨x, y⟩ := z2
      have hc : wr.cell? ⟨b2, off2 + k, none⟩ = some (.complex .f32 x y) := hc0
      have HDW := hid (HD.out.on (HB2.out.mono (by rw [← HBASE.out]; exact hB)))
      have hBW : B ≤ wr.heap.size := Nat.le_trans hB (by rw [HBASE.out]; exact hws)
      have HC := hid (hexOf_any B x (nf .f32 x) (Fl.self (k := .f32) hb.1) wr HDW.out hBW)
      have HC2 := hid (fun w (h1 : D15 B w) (h2 : B ≤ w.heap.size) => hexOf_any B y (nf .f32 y) (Fl.self (k := .f32) hb.2) w h1 h2)
      have hs1 : (strOf (hexN 8 (nf .f32 x))).size = 8 := by simp [strOf, ByteArray.size, hexN_len]
      have hs2 : (strOf (hexN 8 (nf .f32 y))).size = 8 := by simp [strOf, ByteArray.size, hexN_len]
      have HCAT : Hid (strOf (hexN 8 (nf .f32 x)) ++ strOf (hexN 8 (nf .f32 y)) = strOf (hexC (nfc (x, y)))) := by unfold Hid; rw [strOf_append]; rfl
      generalize strOf (hexN 8 (nf .f32 x)) = S1 at *
      generalize strOf (hexN 8 (nf .f32 y)) = S2 at *
      clear hol hku hc0 hb
      go_wp2_with (fail)
      refine HC.out.mono ?_
      rintro e w2 ⟨rfl, hb2⟩
      have HB3 := hid (HB2.out.trans (hb2.mono hws))
      have HO2 := hid (OS.below HO.out hb2)
      have hws2 : base ≤ w2.heap.size := by have := hb2.size; omega
      have HDW2 := hid (HDW.out.on (hb2.mono hBW))
      have hBW2 : B ≤ w2.heap.size := by have := hb2.size; omega
      clear hb2 HC
      go_wp2_with (fail)
      refine (HC2.out _ HDW2.out hBW2).mono ?_
      rintro e w4 ⟨rfl, hb4⟩
      have HB5 := hid (HB3.out.trans (hb4.mono hws2))
      have HO5 := hid (OS.below HO2.out hb4)
      have hws4 : base ≤ w4.heap.size := by have := hb4.size; omega
      clear hb4 HC2
      go_wp2_with (at_builtin; refine StopT.out ?_)
      refine ⟨?_⟩
      refine wpList_append_own _ rfl _ _ 44 rfl base 9 i0 (.string ByteArray.empty) 1 16 Tryd.underlying44 hi hz0 hz1 hz2 rfl (by decide) (.slice (some ⟨g, 0, none⟩) k cp) k (((cts (ucs zs) k).map strOf).map .string) rfl (by have h := OS.alloc HO5.out (.cells #[.string (S1 ++ S2)] 9); unfold OS at h; rw [HOL.out] at h; exact h) ⟨_, 0, none⟩ 1 1 [.string (S1 ++ S2)] rfl rfl (cell_one_new _ _ _) ?c2 ?c3 ?c4 ?c5 ?_
      case c2 => intro u hu; simp at hu; subst hu; rfl
      case c3 => skip; unfold maxLen; omega
      case c4 => skip; omega
      case c5 => simp; omega
      intro v' w3 hown' hgrow _
      rw [HCAT.out] at hown'
      obtain ⟨g', cap', rfl, hO⟩ := OS.of_app (l := (cts (ucs zs) k).map strOf) (x := strOf (hexC (nfc (x, y)))) (by rw [HOL.out]; exact hown')
      have HO3 : Hid (OS w3 base g' cap' ((cts (ucs zs) (k + 1)).map strOf)) := by unfold Hid; rw [HX.out, List.map_append]; exact hO
      have HB4 := hid ((HB5.out.alloc hws4 _).grown hgrow (by simp; omega) (fun k hk => by cases hk; exact (OS.lt HO.out).1))
      rw [HOL.out]
      clear hown' hO hgrow
      go_wp2_with (fail)
      go_roundw
      case rel => exact ⟨k + 1, g', cap', by omega, by go_num, rfl, HO3, HB4⟩
      case measure => simp [intOf]; omega
    · have HK := hid (show k = zs.length by omega)
      have HL : Hid (k = (cts (ucs zs) k).length) := (cts_len (by rw [HUL.out]; exact hk)).symm
      have hJ : (Lib.join (cts (ucs zs) k) [44]).length ≤ 1073741824 := by
        have := cts_join (vs := ucs zs) (k := k) (by rw [HUL.out]; exact hk) (by rw [HUL.out]; exact h256)
        omega
      have HC : Hid (Calls Tryd.prog 43 #[.slice (some ⟨g, 0, none⟩) k cp] wr fun e w' => e = .returned (.string (strOf (jn (cts (ucs zs) k)))) ∧ Below wr.heap.size wr w') := by
        have h := joined_any base g cp (cts (ucs zs) k) wr HO.out (by rw [← HL.out]; omega) hJ
        rw [← HL.out] at h
        exact h
      clear hJ
      go_wp2_with (fail)
      refine HC.out.mono ?_
      rintro e w2 ⟨rfl, hb2⟩
      have HB3 := hid (HB2.out.trans (hb2.mono hws))
      clear hb2
      go_wp2_with (fail)
      go_ret2
      exact ⟨by rw [← HK.out]; rfl, by rw [HBASE.out]; exact HB3.out⟩
end Go.Proofs.YtgfnchggflecgaaDoor
