/-
  DECIMAL TEXTS: what the program and the reference write. Own work; no condition beyond what each theorem names.
-/
import Derived.Test.YtgfnchggflecgaaDoorWa
import Derived.Test.YtgfnchggflecgaaDoorShelf
import Derived.Lib.AppendIntMem
import Derived.Lib.ItoaLen
import Derived.Lib.ItoaMem
import Derived.Lib.Hide
import Derived.Laws.IdiomStrings
import Derived.OwnWalk
import Derived.Maps.AppendAt
namespace Go.Proofs.YtgfnchggflecgaaDoor
open Go.RowKit
set_option linter.unusedVariables false

/-- A goal that the walk leaves alone. -/
structure StopT (p : Prop) : Prop where
  out : p
/-- A row of bytes that the call owns. -/
def OB (w : World) (base : Nat) (g cap : Nat) (l : List UInt8) : Prop := w.ownsRow base 5 1 (.slice (some ⟨g, 0, none⟩) l.length cap) l.length (Lib.byteCells l)
theorem info_u8 : (Tryd.prog.info? 5).map (fun i => (i.zero, i.size, i.bytes)) = some (some (.int .u8 0), 1, 1) := by kernel_rfl
theorem OB.grown {w w' : World} {base g cap : Nat} {l : List UInt8} {row : Option Nat} (h : OB w base g cap l) (hg : w.grownBy w' row) (hne : row ≠ some g) : OB w' base g cap l :=
  World.ownsRow.kept h hg (Or.inr (fun e => hne e.symm))
theorem OB.below {w w' : World} {base g cap : Nat} {l : List UInt8} (h : OB w base g cap l) (hb : Below w.heap.size w w') : OB w' base g cap l :=
  h.grown ⟨hb.os, hb.tape, hb.output, hb.size, fun k hk _ => hb.block k hk⟩ (fun e => by cases e) (row := none)
theorem OB.alloc {w : World} {base g cap : Nat} {l : List UInt8} (h : OB w base g cap l) (o : Obj) : OB (w.alloc o) base g cap l := h.below ((Below.refl _ _).alloc (Nat.le_refl _) o)
theorem OB.lt {w : World} {base g cap : Nat} {l : List UInt8} (h : OB w base g cap l) : base ≤ g ∧ g < w.heap.size := World.ownsRow.lt h g rfl
theorem OB.cells {w : World} {base g cap : Nat} {l : List UInt8} (h : OB w base g cap l) : ∀ j u, (Lib.byteCells l)[j]? = some u → w.cell? ((⟨g, 0, none⟩ : Addr).add j) = some u := fun j u hu => World.ownsRow.cells h (g := g) rfl j u hu
theorem OB.new (w : World) {base : Nat} (hb : base ≤ w.heap.size) (c : UInt8) : OB (w.alloc (.cells #[.int .u8 (c.toNat : Int)] 5)) base w.heap.size 1 [c] := by
  refine ⟨rfl, Or.inr ⟨w.heap.size, 1, _, rfl, hb, heap_alloc_new w _, Nat.le_refl _, by unfold maxLen; omega, rfl, rfl⟩⟩
theorem OB.made (w : World) {base : Nat} (hb : base ≤ w.heap.size) : OB (w.alloc (.cells #[] 5)) base w.heap.size 0 [] :=
  World.ownsRow_made w #[] 0 hb (by unfold maxLen; omega) (by simp)
/-- What an append hands back. -/
theorem OB.of_app {w : World} {base : Nat} {v : Value} {l : List UInt8} {n : Nat} (hn : n = l.length) (hp : 0 < n) (h : w.ownsRow base 5 1 v n (Lib.byteCells l)) : ∃ g cap, v = .slice (some ⟨g, 0, none⟩) l.length cap ∧ OB w base g cap l := by
  subst hn
  rcases h.2 with ⟨_, h0⟩ | ⟨g, cap, cur, rfl, _⟩
  · omega
  · exact ⟨g, cap, rfl, h⟩

theorem dd_step (m : Nat) : Lib.decDigits m = (if m / 10 = 0 then [] else Lib.decDigits (m / 10)) ++ [UInt8.ofNat (48 + m % 10)] := by
  by_cases h : m < 10
  · rw [if_pos (by omega), Lib.decDigits_one h, Nat.mod_eq_of_lt h]; rfl
  · rw [if_neg (by omega)]
    conv => lhs; rw [Lib.decDigits]
    rw [dif_neg h]
/-- The digits that are written so far, and what is left. -/
def DI (u m : Nat) (l : List UInt8) : Prop := (l = [] ∧ m = u) ∨ (l ≠ [] ∧ Lib.decDigits u = (if m = 0 then [] else Lib.decDigits m) ++ l)
theorem DI.step {u m : Nat} {l : List UInt8} (h : DI u m l) (hm : l = [] ∨ m ≠ 0) : DI u (m / 10) (UInt8.ofNat (48 + m % 10) :: l) := by
  refine Or.inr ⟨by simp, ?_⟩
  rcases h with ⟨rfl, rfl⟩ | ⟨h1, h2⟩
  · exact dd_step m
  · rcases hm with hm | hm
    · exact absurd hm h1
    · rw [h2, if_neg hm, dd_step m, List.append_assoc]; rfl
theorem DI.done {u : Nat} {l : List UInt8} (h : DI u 0 l) (hl : l ≠ []) : l = Lib.decDigits u := by
  rcases h with ⟨h1, _⟩ | ⟨_, h2⟩
  · exact absurd h1 hl
  · rw [h2]; rfl
theorem DI.len {u m : Nat} {l : List UInt8} (h : DI u m l) (hu : u ≤ 9223372036854775808) : l.length ≤ 20 := by
  rcases h with ⟨rfl, _⟩ | ⟨_, h2⟩
  · simp
  · have e : l.length ≤ (Lib.decDigits u).length := by rw [h2]; simp
    have := Lib.decDigits_length u
    have h3 : Lib.nDigits u ≤ 20 := Lib.nDigits_le20 u (by omega)
    omega
def lenOf : Value → Nat | .slice _ n _ => n | _ => 0
def natOf : Value → Nat | .int _ n => n.natAbs | _ => 0
/-- The measure. -/
def mDec (o r : Value) : Nat := natOf r + (if lenOf o = 0 then 1 else 0)
theorem byteCells_cons (c : UInt8) (l : List UInt8) : [Value.int .u8 (c.toNat : Int)] ++ Lib.byteCells l = Lib.byteCells (c :: l) := rfl
theorem dig_nat (m : Nat) : ((UInt8.ofNat (48 + m % 10)).toNat : Int) = 48 + (m : Int) % 10 := by
  rw [UInt8.toNat_ofNat']
  have : 48 + m % 10 < 256 := by omega
  rw [Nat.mod_eq_of_lt this]
  omega

theorem byteCells_get (l : List UInt8) (j : Nat) (hj : j < l.length) : (Lib.byteCells l)[j]? = some (.int .u8 (l[j].toNat : Int)) := by simp [Lib.byteCells, hj]
theorem neg_mod (m : Nat) : (-(m : Int)).tmod 10 = -((m : Int) % 10) := by
  rw [Int.neg_tmod, Int.tmod_eq_emod_of_nonneg (by omega)]
theorem neg_div (m : Nat) : (-(m : Int)).tdiv 10 = -((m : Int) / 10) := by
  rw [Int.neg_tdiv, Int.tdiv_eq_ediv_of_nonneg (by omega)]
theorem byteCells_one (l : List UInt8) : ∀ u ∈ Lib.byteCells l, u.oneCell' = true := by
  intro u hu
  obtain ⟨b, _, rfl⟩ := List.mem_map.1 hu
  rfl
set_option maxRecDepth 100000 in
set_option maxHeartbeats 400000 in
theorem l01Dec_pos (u : Nat) (hu : u ≤ 9223372036854775807) (w : World) :
    Calls Tryd.prog 34 #[.int .i64 (u : Int)] w fun e w' => e = .returned (.string ⟨(Lib.decDigits u).toArray⟩) ∧ Below w.heap.size w w' := by
  obtain ⟨i0, hi, hz0, hz1, hz2⟩ := info_parts info_u8
  obtain ⟨base, hbase⟩ : ∃ base, w.heap.size = base := ⟨_, rfl⟩
  have hM := hid (OB.made w (base := base) (by omega))
  have hB := hid ((Below.refl w.heap.size w).alloc (Nat.le_refl _) (.cells #[] 5))
  rw [hbase] at hM hB
  have HBASE := hid hbase
  go_enter Tryd.func34, Tryd.ntmps34
  go_wp2
  clear hbase
  go_loopw [3, 4] (fun o r wr => ∃ (g cap m : Nat) (l : List UInt8), o = .slice (some ⟨g, 0, none⟩) l.length cap ∧ r = .int .i64 (m : Int) ∧ Hid (OB wr base g cap l) ∧ Hid (DI u m l) ∧ m ≤ u ∧ Hid (Below base w wr) ∧ Hid (base ≤ wr.heap.size)) (fun o r _ => mDec o r)
  case atStart => exact ⟨base, 0, u, [], rfl, rfl, hM, Or.inl ⟨rfl, rfl⟩, Nat.le_refl _, hB, by unfold Hid; rw [← HBASE.out]; simp⟩
  case round =>
    obtain ⟨g, cap, m, l, rfl, rfl, HO, HD, hm, HB, HS⟩ := hrel
    have hws : base ≤ wr.heap.size := HS.out
    have hll := HD.out.len (by omega)
    have HDN := hid (dig_nat m)
    by_cases h0 : l = []
    · subst h0
      have HD2 := hid (HD.out.step (Or.inl rfl))
      have HN := hid (OB.new wr hws (UInt8.ofNat (48 + m % 10)))
      have HB2 := hid (HB.out.alloc hws (.cells #[.int .u8 ((UInt8.ofNat (48 + m % 10)).toNat : Int)] 5))
      rw [HDN.out] at HN HB2
      go_wp2_with (fail)
      refine ⟨⟨wr.heap.size, 1, m / 10, [UInt8.ofNat (48 + m % 10)], rfl, by go_num, by simpa [Hid] using HN.out, HD2, by omega, by simpa [Hid] using HB2.out, by unfold Hid; simp; omega⟩, ?_⟩
      unfold mDec natOf lenOf
      simp
      omega
    · by_cases hm0 : m = 0
      · have hlz : ((l.length : Int) == 0) = false := by
          have : l.length ≠ 0 := fun h => h0 (List.length_eq_zero_iff.1 h)
          simpa using this
        have hmz : ((m : Int) != 0) = false := by simpa using hm0
        have HL := hid (DI.done (by have := HD.out; rwa [hm0] at this) h0)
        have hcv := run_convert_bytes_back (P := Tryd.prog) wr 72 9 5 ⟨g, 0, none⟩ cap l Tryd.underlying72 Tryd.underlying5 Tryd.underlying9 (fun j hj => HO.out.cells j _ (by simp [Lib.byteCells, hj]))
        go_wp2_with (fail)
        go_ret
        exact ⟨by rw [HL.out]; rfl, by rw [HBASE.out]; exact HB.out⟩
      · have hlz : ((l.length : Int) == 0) = false := by
          have : l.length ≠ 0 := fun h => h0 (List.length_eq_zero_iff.1 h)
          simpa using this
        have hmz : ((m : Int) != 0) = true := by simpa using hm0
        have HD2 := hid (HD.out.step (Or.inr hm0))
        have HN := hid (OB.new wr hws (UInt8.ofNat (48 + m % 10)))
        have HB2 := hid (HB.out.alloc hws (.cells #[.int .u8 ((UInt8.ofNat (48 + m % 10)).toNat : Int)] 5))
        rw [HDN.out] at HN HB2
        have HO2 := hid (OB.alloc HO.out (.cells #[.int .u8 (48 + (m : Int) % 10)] 5))
        go_wp2_with (at_builtin; refine StopT.out ?_)
        refine ⟨?_⟩
        refine wpList_append_own _ rfl _ _ 72 rfl base 5 i0 (.int .u8 0) 1 1 Tryd.underlying72 hi hz0 hz1 hz2 rfl (by decide) _ _ _ rfl HN.out ⟨g, 0, none⟩ l.length cap (Lib.byteCells l) rfl (by simp [Lib.byteCells_length]) HO2.out.cells ?c2 ?c3 ?c4 ?c5 ?_
        case c2 => exact byteCells_one l
        case c3 => skip; unfold maxLen; simp; omega
        case c4 => simp; omega
        case c5 => simp; omega
        intro v' w1 hown' hgrow _
        obtain ⟨g', cap', rfl, hO⟩ := OB.of_app (l := UInt8.ofNat (48 + m % 10) :: l) (by simp; omega) (by simp; omega) hown'
        have HO3 := hid hO
        have HB3 := hid (HB2.out.grown hgrow (by simp; omega) (fun k hk => by cases hk; exact hws))
        have HS3 := hid (show base ≤ w1.heap.size by have := hgrow.size; simp at this; omega)
        clear hown' hO hgrow
        go_wp2_with (fail)
        refine ⟨⟨g', cap', m / 10, UInt8.ofNat (48 + m % 10) :: l, by simp, by go_num, HO3, HD2, by omega, HB3, HS3⟩, ?_⟩
        unfold mDec natOf lenOf
        simp
        omega
set_option maxRecDepth 100000 in
set_option maxHeartbeats 400000 in
theorem l01Dec_neg (u : Nat) (hu1 : 1 ≤ u) (hu : u ≤ 9223372036854775808) (w : World) :
    Calls Tryd.prog 34 #[.int .i64 (-(u : Int))] w fun e w' => e = .returned (.string ⟨(45 :: Lib.decDigits u).toArray⟩) ∧ Below w.heap.size w w' := by
  obtain ⟨i0, hi, hz0, hz1, hz2⟩ := info_parts info_u8
  obtain ⟨base, hbase⟩ : ∃ base, w.heap.size = base := ⟨_, rfl⟩
  have hM := hid (OB.made w (base := base) (by omega))
  have hB := hid ((Below.refl w.heap.size w).alloc (Nat.le_refl _) (.cells #[] 5))
  rw [hbase] at hM hB
  have HBASE := hid hbase
  go_enter Tryd.func34, Tryd.ntmps34
  go_wp2
  clear hbase
  go_loopw [3, 4] (fun o r wr => ∃ (g cap m : Nat) (l : List UInt8), o = .slice (some ⟨g, 0, none⟩) l.length cap ∧ r = .int .i64 (-(m : Int)) ∧ Hid (OB wr base g cap l) ∧ Hid (DI u m l) ∧ m ≤ u ∧ Hid (Below base w wr) ∧ Hid (base ≤ wr.heap.size)) (fun o r _ => mDec o r)
  case atStart => exact ⟨base, 0, u, [], rfl, rfl, hM, Or.inl ⟨rfl, rfl⟩, Nat.le_refl _, hB, by unfold Hid; rw [← HBASE.out]; simp⟩
  case round =>
    obtain ⟨g, cap, m, l, rfl, rfl, HO, HD, hm, HB, HS⟩ := hrel
    have hws : base ≤ wr.heap.size := HS.out
    have hll := HD.out.len (by omega)
    have HDN := hid (dig_nat m)
    have hdiv : (-(m : Int)).tdiv 10 = -((m : Int) / 10) := neg_div m
    by_cases hz : m % 10 = 0
    · have hmod : (-(m : Int)).tmod 10 = 0 := by rw [neg_mod]; omega
      have HDZ : Hid (((UInt8.ofNat (48 + m % 10)).toNat : Int) = 48) := by unfold Hid; rw [HDN.out]; omega
      by_cases h0 : l = []
      · subst h0
        have HD2 := hid (HD.out.step (Or.inl rfl))
        have HN := hid (OB.new wr hws (UInt8.ofNat (48 + m % 10)))
        have HB2 := hid (HB.out.alloc hws (.cells #[.int .u8 ((UInt8.ofNat (48 + m % 10)).toNat : Int)] 5))
        rw [HDZ.out] at HN HB2
        go_wp2_with (fail)
        refine ⟨⟨wr.heap.size, 1, m / 10, [UInt8.ofNat (48 + m % 10)], rfl, by go_num, by simpa [Hid] using HN.out, HD2, by omega, by simpa [Hid] using HB2.out, by unfold Hid; simp; omega⟩, ?_⟩
        unfold mDec natOf lenOf
        simp
        omega
      · by_cases hm0 : m = 0
        · have hlz : ((l.length : Int) == 0) = false := by
            have : l.length ≠ 0 := fun h => h0 (List.length_eq_zero_iff.1 h)
            simpa using this
          have hmz : (-(m : Int) != 0) = false := by simp [hm0]
          have HL := hid (DI.done (by have := HD.out; rwa [hm0] at this) h0)
          have hneg : decide (-(u : Int) < 0) = true := decide_eq_true (by omega)
          have HN := hid (OB.new wr hws (45 : UInt8))
          have HO2 := hid (OB.alloc HO.out (.cells #[.int .u8 45] 5))
          have HB2 := hid (HB.out.alloc hws (.cells #[.int .u8 45] 5))
          go_wp2_with (at_builtin; refine StopT.out ?_)
          refine ⟨?_⟩
          refine wpList_append_own _ rfl _ _ 72 rfl base 5 i0 (.int .u8 0) 1 1 Tryd.underlying72 hi hz0 hz1 hz2 rfl (by decide) _ _ _ rfl HN.out ⟨g, 0, none⟩ l.length cap (Lib.byteCells l) rfl (by simp [Lib.byteCells_length]) HO2.out.cells ?c2 ?c3 ?c4 ?c5 ?_
          case c2 => exact byteCells_one l
          case c3 => skip; unfold maxLen; simp; omega
          case c4 => simp; omega
          case c5 => simp; omega
          intro v' w1 hown' hgrow _
          obtain ⟨g', cap', rfl, hO⟩ := OB.of_app (l := 45 :: l) (by simp; omega) (by simp; omega) hown'
          have HB3 := hid (HB2.out.grown hgrow (by simp; omega) (fun k hk => by cases hk; exact hws))
          have hcv := run_convert_bytes_back (P := Tryd.prog) w1 72 9 5 ⟨g', 0, none⟩ cap' (45 :: l) Tryd.underlying72 Tryd.underlying5 Tryd.underlying9 (fun j hj => hO.cells j _ (byteCells_get _ j hj))
          have hcv2 : (convert 72 9 (.slice (some ⟨g', 0, none⟩) (l.length + 1) cap')).run Tryd.prog w1 = .ok (.string ⟨(45 :: l).toArray⟩) w1 := hcv
          clear hcv
          clear hown' hO hgrow
          go_wp2_with (fail)
          go_ret
          exact ⟨by rw [HL.out]; rfl, by rw [HBASE.out]; exact HB3.out⟩
        · have hlz : ((l.length : Int) == 0) = false := by
            have : l.length ≠ 0 := fun h => h0 (List.length_eq_zero_iff.1 h)
            simpa using this
          have hmz : (-(m : Int) != 0) = true := by simp [hm0]
          have HD2 := hid (HD.out.step (Or.inr hm0))
          have HN := hid (OB.new wr hws (UInt8.ofNat (48 + m % 10)))
          have HB2 := hid (HB.out.alloc hws (.cells #[.int .u8 ((UInt8.ofNat (48 + m % 10)).toNat : Int)] 5))
          rw [HDZ.out] at HN HB2
          have HO2 := hid (OB.alloc HO.out (.cells #[.int .u8 (48)] 5))
          go_wp2_with (at_builtin; refine StopT.out ?_)
          refine ⟨?_⟩
          refine wpList_append_own _ rfl _ _ 72 rfl base 5 i0 (.int .u8 0) 1 1 Tryd.underlying72 hi hz0 hz1 hz2 rfl (by decide) _ _ _ rfl HN.out ⟨g, 0, none⟩ l.length cap (Lib.byteCells l) rfl (by simp [Lib.byteCells_length]) HO2.out.cells ?c2 ?c3 ?c4 ?c5 ?_
          case c2 => exact byteCells_one l
          case c3 => skip; unfold maxLen; simp; omega
          case c4 => simp; omega
          case c5 => simp; omega
          intro v' w1 hown' hgrow _
          obtain ⟨g', cap', rfl, hO⟩ := OB.of_app (l := UInt8.ofNat (48 + m % 10) :: l) (by simp; omega) (by simp; omega) hown'
          have HO3 := hid hO
          have HB3 := hid (HB2.out.grown hgrow (by simp; omega) (fun k hk => by cases hk; exact hws))
          have HS3 := hid (show base ≤ w1.heap.size by have := hgrow.size; simp at this; omega)
          clear hown' hO hgrow
          go_wp2_with (fail)
          refine ⟨⟨g', cap', m / 10, UInt8.ofNat (48 + m % 10) :: l, by simp, by go_num, HO3, HD2, by omega, HB3, HS3⟩, ?_⟩
          unfold mDec natOf lenOf
          simp
          omega
    · have hmod : (-(m : Int)).tmod 10 = -((m : Int) % 10) := neg_mod m
      have hpz : (0 : Int) < (m : Int) % 10 := by omega
      by_cases h0 : l = []
      · subst h0
        have HD2 := hid (HD.out.step (Or.inl rfl))
        have HN := hid (OB.new wr hws (UInt8.ofNat (48 + m % 10)))
        have HB2 := hid (HB.out.alloc hws (.cells #[.int .u8 ((UInt8.ofNat (48 + m % 10)).toNat : Int)] 5))
        rw [HDN.out] at HN HB2
        go_wp2_with (fail)
        refine ⟨⟨wr.heap.size, 1, m / 10, [UInt8.ofNat (48 + m % 10)], rfl, by go_num, by simpa [Hid] using HN.out, HD2, by omega, by simpa [Hid] using HB2.out, by unfold Hid; simp; omega⟩, ?_⟩
        unfold mDec natOf lenOf
        simp
        omega
      · by_cases hm0 : m = 0
        · exfalso; omega
        · have hlz : ((l.length : Int) == 0) = false := by
            have : l.length ≠ 0 := fun h => h0 (List.length_eq_zero_iff.1 h)
            simpa using this
          have hmz : (-(m : Int) != 0) = true := by simp [hm0]
          have HD2 := hid (HD.out.step (Or.inr hm0))
          have HN := hid (OB.new wr hws (UInt8.ofNat (48 + m % 10)))
          have HB2 := hid (HB.out.alloc hws (.cells #[.int .u8 ((UInt8.ofNat (48 + m % 10)).toNat : Int)] 5))
          rw [HDN.out] at HN HB2
          have HO2 := hid (OB.alloc HO.out (.cells #[.int .u8 (48 + (m : Int) % 10)] 5))
          go_wp2_with (at_builtin; refine StopT.out ?_)
          refine ⟨?_⟩
          refine wpList_append_own _ rfl _ _ 72 rfl base 5 i0 (.int .u8 0) 1 1 Tryd.underlying72 hi hz0 hz1 hz2 rfl (by decide) _ _ _ rfl HN.out ⟨g, 0, none⟩ l.length cap (Lib.byteCells l) rfl (by simp [Lib.byteCells_length]) HO2.out.cells ?c2 ?c3 ?c4 ?c5 ?_
          case c2 => exact byteCells_one l
          case c3 => skip; unfold maxLen; simp; omega
          case c4 => simp; omega
          case c5 => simp; omega
          intro v' w1 hown' hgrow _
          obtain ⟨g', cap', rfl, hO⟩ := OB.of_app (l := UInt8.ofNat (48 + m % 10) :: l) (by simp; omega) (by simp; omega) hown'
          have HO3 := hid hO
          have HB3 := hid (HB2.out.grown hgrow (by simp; omega) (fun k hk => by cases hk; exact hws))
          have HS3 := hid (show base ≤ w1.heap.size by have := hgrow.size; simp at this; omega)
          clear hown' hO hgrow
          go_wp2_with (fail)
          refine ⟨⟨g', cap', m / 10, UInt8.ofNat (48 + m % 10) :: l, by simp, by go_num, HO3, HD2, by omega, HB3, HS3⟩, ?_⟩
          unfold mDec natOf lenOf
          simp
          omega
/-- A string of bytes. -/
def strOf (l : List UInt8) : ByteArray := ⟨l.toArray⟩
theorem l01Dec_any (n : Int) (h0 : -9223372036854775808 ≤ n) (h1 : n ≤ 9223372036854775807) (w : World) :
    Calls Tryd.prog 34 #[.int .i64 n] w fun e w' => e = .returned (.string (strOf (Lib.itoa n))) ∧ Below w.heap.size w w' := by
  by_cases hneg : n < 0
  · obtain ⟨u, rfl⟩ : ∃ u : Nat, n = -(u : Int) := ⟨n.natAbs, by omega⟩
    have e : Lib.itoa (-(u : Int)) = 45 :: Lib.decDigits u := Lib.itoa_neg u (by omega)
    unfold strOf
    rw [e]
    exact l01Dec_neg u (by omega) (by omega) w
  · obtain ⟨u, rfl⟩ : ∃ u : Nat, n = u := ⟨n.toNat, by omega⟩
    unfold strOf
    rw [Lib.itoa_nonneg]
    exact l01Dec_pos u (by omega) w
/-- The table of the powers of ten lies as it is laid, whatever is done from block 'base' on. -/
def T10 (base : Nat) (w : World) : Prop := Lib.TabBelow Tryd.prog base w "internal/strconv.uint64pow10" .u64 Lib.pow10Tab
theorem T10.on {base : Nat} {w w1 : World} (h : T10 base w) (hb : Below base w w1) : T10 base w1 := Lib.TabBelow.on h hb
theorem Decimal_any (base : Nat) (n : Int) (h0 : -9223372036854775808 ≤ n) (h1 : n ≤ 9223372036854775807) (w : World) (ht : T10 base w) :
    Calls Tryd.prog 19 #[.int .i64 n] w fun e w' => e = .returned (.string (strOf (Lib.itoa n))) ∧ Below w.heap.size w w' := by
  have HC := hid (Tryd.strconv_FormatInt_10 n h0 h1 w (Lib.TabBelow.here ht))
  clear ht
  go_enter Tryd.func19, Tryd.ntmps19
  go_wp2_with (fail)
  refine HC.out.mono ?_
  rintro e w' ⟨rfl, k, os, rfl⟩
  have HB := hid (Lib.below_grow w.heap.size w (Nat.le_refl _) k os)
  go_wp2_with (fail)
  go_ret
  exact ⟨rfl, HB.out⟩
theorem sDecimal_any (n : Int) (h0 : -9223372036854775808 ≤ n) (h1 : n ≤ 9223372036854775807) (w : World) :
    Calls Tryd.prog 18 #[.int .i64 n] w fun e w' => e = .returned (.string (strOf (Lib.itoa n))) ∧ Below w.heap.size w w' := by
  have HC := hid (l01Dec_any n h0 h1 w)
  go_enter Tryd.func18, Tryd.ntmps18
  go_wp2_with (fail)
  refine HC.out.mono ?_
  rintro e w' ⟨rfl, hb⟩
  go_wp2_with (fail)
  go_ret
  exact ⟨rfl, hb⟩
end Go.Proofs.YtgfnchggflecgaaDoor
