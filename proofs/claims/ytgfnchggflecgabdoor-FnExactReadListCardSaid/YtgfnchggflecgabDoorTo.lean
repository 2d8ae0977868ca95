/-
  LISTS OF INTEGERS THAT ARE READ OFF A TEXT: the walks. Own work; no condition beyond what each theorem names.
-/
import Derived.Test.YtgfnchggflecgabDoorTq
import Derived.Test.YtgfnchggflecgabDoorTk
namespace Go.Proofs.YtgfnchggflecgabDoor
open Go.RowKit
set_option linter.unusedVariables false

def rdAll (l : List UInt8) : Option (List Int) := allR rd (pcs l)
theorem info_i64t : (Tryd.prog.info? 2).map (fun i => (i.zero, i.size, i.bytes)) = some (some (.int .i64 0), 1, 8) := by kernel_rfl
theorem OI.of_app {w : World} {base : Nat} {v : Value} {l : List Int} {x : Int} (h : w.ownsRow base 2 1 v (l.length + 1) (l.map (.int .i64) ++ [.int .i64 x])) : ∃ g cap, v = .slice (some ⟨g, 0, none⟩) (l.length + 1) cap ∧ OI w base (.slice (some ⟨g, 0, none⟩) (l.length + 1) cap) (l ++ [x]) := by
  rcases h.2 with ⟨_, h0⟩ | ⟨g, cap, cur, rfl, _⟩
  · omega
  · refine ⟨g, cap, rfl, ?_⟩
    unfold OI
    rw [List.length_append, List.map_append]
    exact h
theorem OI.allocd {w : World} {base : Nat} {v : Value} {l : List Int} (h : OI w base v l) (o : Obj) : OI (w.alloc o) base v l := h.below ((Below.refl _ _).alloc (Nat.le_refl _) o)
theorem OI.made (w : World) {base : Nat} (hb : base ≤ w.heap.size) : OI (w.alloc (.cells #[] 2)) base (.slice (some ⟨w.heap.size, 0, none⟩) 0 0) [] :=
  World.ownsRow_made w #[] 0 hb (by unfold maxLen; omega) (by simp)
theorem OI.none (w : World) (base : Nat) : OI w base (.slice none 0 0) [] := World.ownsRow_nil w base _ 1

/-- What is read of a list's text. -/
def rl (l : List UInt8) : Option (List Int) := if (pcs l).length ≤ 64 then rdAll l else none
theorem rl_none {l : List UInt8} (h : l = noneL) : rl l = some [] := by
  subst h
  decide
theorem rl_some {l : List UInt8} (h : l ≠ noneL) : rl l = if (cutL l).length ≤ 64 then allR rd (cutL l) else none := by
  unfold rl rdAll pcs
  rw [if_neg h]
set_option maxHeartbeats 800000 in
theorem readList_any (B : Nat) (s : ByteArray) (hs : s.size ≤ 1048576) (w : World) (hT : T10 B w) (hE : EV B w) (hM : ML B w) (hB : B ≤ w.heap.size) :
    Calls Tryd.prog 17 #[.string s] w fun e w' => (∃ v, e = .returned (.tuple #[v, .bool (rdAll s.data.toList).isSome]) ∧ OI w' w.heap.size v ((rdAll s.data.toList).getD [])) ∧ Below w.heap.size w w' := by
  obtain ⟨i0, hi, hz0, hz1, hz2⟩ := info_parts info_i64t
  have HT := hid hT
  have HE := hid hE
  have HX : Hid (rdAll s.data.toList = allR rd (pcs s.data.toList)) := rfl
  have HL := hid (pcs_len (l := s.data.toList) (m := 1048576) (by rw [← Lib.size_eq]; exact hs))
  have hxn := pcs_count (l := s.data.toList) (m := 1048576) (by rw [← Lib.size_eq]; exact hs)
  obtain ⟨base, hbase⟩ : ∃ base, w.heap.size = base := ⟨_, rfl⟩
  have hM0 := hid (OI.made w (base := base) (by omega))
  have hB0 := hid ((Below.refl w.heap.size w).alloc (Nat.le_refl _) (.cells #[] 2))
  have HPC := hid (fun w (hM : ML B w) => pieces_any B s hs w hM)
  have HML := hid (hM.on ((Below.refl _ _).alloc hB (.cells #[] 2)))
  rw [hbase] at hM0 hB0
  have HBASE := hid hbase
  rw [HX.out]
  generalize pcs s.data.toList = xs at *
  clear hT hE hM HX
  go_enter Tryd.func17, Tryd.ntmps17
  go_wp2_with (fail)
  refine (HPC.out _ HML.out).mono ?_
  rintro e w1 ⟨⟨pv, rfl, hp⟩, hb1⟩
  have HM2 := hid (OI.below hM0.out hb1)
  have HB1 := hid (hB0.out.trans (hb1.mono (by simp; omega)))
  have hp2 := PS.mono hp (base2 := base) (by simp; omega)
  obtain ⟨p, cv, rfl⟩ := PS.form hp2
  have HP1 := hid hp2
  clear hp hb1 hp2 hM0 hB0 HPC HML
  go_wp2_with (fail)
  go_loopw [4, 13] (fun o i wr => ∃ (k : Nat) (zs : List Int) (g cp : Nat), k ≤ xs.length ∧ i = .int .i64 k ∧ o = .slice (some ⟨g, 0, none⟩) zs.length cp ∧ Hid (OI wr base (.slice (some ⟨g, 0, none⟩) zs.length cp) zs) ∧ Hid (reads rd xs k zs) ∧ Hid (PS wr base (.slice p xs.length cv) xs) ∧ Hid (Below base w wr)) (fun _ i _ => xs.length - (intOf i).toNat)
  case atStart => exact ⟨0, [], base, 0, Nat.zero_le _, rfl, rfl, HM2, reads_zero _ _, HP1, HB1⟩
  case round =>
    obtain ⟨k, zs, g, cp, hk, rfl, rfl, HO, HR, HP, HB2⟩ := hrel
    have hzk : zs.length ≤ 1048577 := by have := HR.out.2.1; omega
    have hws : base ≤ wr.heap.size := by have := HB2.out.size; rw [← HBASE.out]; exact this
    by_cases hlt : k < xs.length
    · obtain ⟨b2, off2, rfl, hc⟩ := (PS.sl HP.out).1 k (by simpa using hlt)
      have hxk : xs[k]? = some xs[k] := List.getElem?_eq_getElem hlt
      have hgd : (xs.map strOf).getD k ByteArray.empty = strOf xs[k] := by simp [List.getD, hlt]
      rw [hgd] at hc
      have hxl : (strOf xs[k]).size ≤ 1048576 := by
        have := HL.out xs[k] (List.getElem_mem hlt)
        simp [strOf, ByteArray.size]
        omega
      have hI : (k : Int) < (xs.length : Int) := by omega
      have HC := hid (ReadDecimal_any B (strOf xs[k]) hxl wr (HT.out.on (HB2.out.mono (by rw [← HBASE.out]; exact hB))) (HE.out.on (HB2.out.mono (by rw [← HBASE.out]; exact hB))) (Nat.le_trans hB (by rw [HBASE.out]; exact hws)))
      have hdl : (strOf xs[k]).data.toList = xs[k] := by simp [strOf]
      rw [hdl] at HC
      clear hdl hgd
      generalize hsk : strOf xs[k] = sk at *
      clear hsk hxl
      cases hrd : rd xs[k] with
      | none =>
        have hrd2 := rdT_none hrd
        have HBAD := hid (allR_bad hxk hrd)
        rw [hrd2] at HC
        clear hrd hrd2 hxk
        go_wp2_with (fail)
        refine HC.out.mono ?_
        rintro e w2 ⟨rfl, hb2⟩
        have HB3 := hid (HB2.out.trans (hb2.mono hws))
        clear hb2 HC
        go_wp2_with (fail)
        go_ret2
        exact ⟨⟨_, by rw [HBAD.out]; rfl, by rw [HBAD.out, HBASE.out]; exact OI.none _ _⟩, by rw [HBASE.out]; exact HB3.out⟩
      | some v =>
        have hrd2 := rdT_some hrd
        have HR2 := hid (reads_succ HR.out hxk hrd)
        rw [hrd2] at HC
        clear hrd hrd2 hxk
        go_wp2_with (fail)
        refine HC.out.mono ?_
        rintro e w2 ⟨rfl, hb2⟩
        have HB3 := hid (HB2.out.trans (hb2.mono hws))
        have HO2 := hid (OI.below HO.out hb2)
        have HP2 := hid (PS.below HP.out hb2)
        have hws2 : base ≤ w2.heap.size := by have := hb2.size; omega
        clear hb2 HC
        go_wp2_with (at_builtin; refine StopT.out ?_)
        refine ⟨?_⟩
        refine wpList_append_own _ rfl _ _ 25 rfl base 2 i0 (.int .i64 0) 1 8 Tryd.underlying25 hi hz0 hz1 hz2 rfl (by decide) (.slice (some ⟨g, 0, none⟩) zs.length cp) zs.length (zs.map (.int .i64)) rfl (OI.allocd HO2.out (.cells #[.int .i64 v] 2)) ⟨_, 0, none⟩ 1 1 [.int .i64 v] rfl rfl (cell_one_new _ _ _) ?c2 ?c3 ?c4 ?c5 ?_
        case c2 => intro u hu; simp at hu; subst hu; rfl
        case c3 => skip; unfold maxLen; omega
        case c4 => skip; omega
        case c5 => simp; omega
        intro v' w3 hown' hgrow _
        obtain ⟨g', cap', rfl, hO⟩ := OI.of_app (l := zs) (x := v) hown'
        have HO3 : Hid (OI w3 base (.slice (some ⟨g', 0, none⟩) (zs ++ [v]).length cap') (zs ++ [v])) := by unfold Hid; rw [List.length_append]; exact hO
        have HB4 := hid ((HB3.out.alloc hws2 _).grown hgrow (by simp; omega) (fun k hk => by cases hk; exact (World.ownsRow.lt HO.out g rfl).1))
        have HP3 := hid (PS.kept (HP2.out.alloc (.cells #[.int .i64 v] 2)) hgrow (apart_type HP2.out HO2.out (by decide)))
        clear hown' hO hgrow
        go_wp2_with (fail)
        go_roundw
        case rel => exact ⟨k + 1, zs ++ [v], g', cap', by omega, by go_num, by simp, HO3, HR2, HP3, HB4⟩
        case measure => simp [intOf]; omega
    · have HK := hid (show k = xs.length by omega)
      have HALL : Hid (allR rd xs = some zs) := by
        have h := HR.out
        rw [HK.out] at h
        exact reads_all h
      go_wp2_with (fail)
      go_ret2
      exact ⟨⟨_, by rw [HALL.out]; rfl, by rw [HALL.out, HBASE.out]; exact HO.out⟩, by rw [HBASE.out]; exact HB2.out⟩
set_option maxHeartbeats 800000 in
theorem l01Numbers_any (s : ByteArray) (hs : s.size ≤ 1048576) (w : World) :
    Calls Tryd.prog 16 #[.string s] w fun e w' => (∃ v, e = .returned (.tuple #[v, .bool (rl s.data.toList).isSome]) ∧ OI w' w.heap.size v ((rl s.data.toList).getD [])) ∧ Below w.heap.size w w' := by
  obtain ⟨i0, hi, hz0, hz1, hz2⟩ := info_parts info_i64t
  obtain ⟨base, hbase⟩ : ∃ base, w.heap.size = base := ⟨_, rfl⟩
  have hM0 := hid (OI.made w (base := base) (by omega))
  have hB0 := hid ((Below.refl w.heap.size w).alloc (Nat.le_refl _) (.cells #[] 2))
  rw [hbase] at hM0 hB0
  have HBASE := hid hbase
  by_cases hn : s.data.toList = noneL
  · have hq := strq_none_t hn
    have HX := hid (rl_none hn)
    clear hn
    go_enter Tryd.func16, Tryd.ntmps16
    go_wp2_with (fail)
    go_ret2
    exact ⟨⟨_, by rw [HX.out]; rfl, by rw [HX.out, HBASE.out]; exact hM0.out⟩, by rw [HBASE.out]; exact hB0.out⟩
  · have hq := strq_none_f hn
    have HX := hid (rl_some hn)
    have hpc : pcs s.data.toList = cutL s.data.toList := by unfold pcs; rw [if_neg hn]
    have HL := hid (pcs_len (l := s.data.toList) (m := 1048576) (by rw [← Lib.size_eq]; exact hs))
    rw [hpc] at HL
    have HPC := hid (fun w => l01Cut_any s hs w)
    rw [HX.out]
    by_cases h64 : (cutL s.data.toList).length ≤ 64
    · rw [if_pos h64]
      generalize cutL s.data.toList = xs at *
      clear hn HX hpc
      go_enter Tryd.func16, Tryd.ntmps16
      go_wp2_with (fail)
      refine (HPC.out _).mono ?_
      rintro e w1 ⟨⟨pv, rfl, hp⟩, hb1⟩
      have HM2 := hid (OI.below hM0.out hb1)
      have HB1 := hid (hB0.out.trans (hb1.mono (by simp; omega)))
      have hp2 := PS.mono hp (base2 := base) (by simp; omega)
      obtain ⟨p, cv, rfl⟩ := PS.form hp2
      have HP1 := hid hp2
      clear hp hb1 hp2 hM0 hB0 HPC
      have hxn : xs.length ≤ 1048577 := by omega
      go_wp2_with (fail)
      go_loopw [4, 6] (fun o i wr => ∃ (k : Nat) (zs : List Int) (g cp : Nat), k ≤ xs.length ∧ i = .int .i64 k ∧ o = .slice (some ⟨g, 0, none⟩) zs.length cp ∧ Hid (OI wr base (.slice (some ⟨g, 0, none⟩) zs.length cp) zs) ∧ Hid (reads rd xs k zs) ∧ Hid (PS wr base (.slice p xs.length cv) xs) ∧ Hid (Below base w wr)) (fun _ i _ => xs.length - (intOf i).toNat)
      case atStart => exact ⟨0, [], base, 0, Nat.zero_le _, rfl, rfl, HM2, reads_zero _ _, HP1, HB1⟩
      case round =>
        obtain ⟨k, zs, g, cp, hk, rfl, rfl, HO, HR, HP, HB2⟩ := hrel
        have hzk : zs.length ≤ 1048577 := by have := HR.out.2.1; omega
        have hws : base ≤ wr.heap.size := by have := HB2.out.size; rw [← HBASE.out]; exact this
        by_cases hlt : k < xs.length
        · obtain ⟨b2, off2, rfl, hc⟩ := (PS.sl HP.out).1 k (by simpa using hlt)
          have hxk : xs[k]? = some xs[k] := List.getElem?_eq_getElem hlt
          have hgd : (xs.map strOf).getD k ByteArray.empty = strOf xs[k] := by simp [List.getD, hlt]
          rw [hgd] at hc
          have hxl : (strOf xs[k]).size ≤ 1048576 := by
            have := HL.out xs[k] (List.getElem_mem hlt)
            simp [strOf, ByteArray.size]
            omega
          have hI : (k : Int) < (xs.length : Int) := by omega
          have HC := hid (l01Value_any (strOf xs[k]) wr hxl)
          have hdl : (strOf xs[k]).data.toList = xs[k] := by simp [strOf]
          rw [hdl] at HC
          clear hdl hgd
          generalize hsk : strOf xs[k] = sk at *
          clear hsk hxl
          cases hrd : rd xs[k] with
          | none =>
            have hrd2 := rdT_none hrd
            have HBAD := hid (allR_bad hxk hrd)
            rw [hrd2] at HC
            clear hrd hrd2 hxk
            go_wp2_with (fail)
            refine HC.out.mono ?_
            rintro e w2 ⟨rfl, hb2⟩
            have HB3 := hid (HB2.out.trans (hb2.mono hws))
            clear hb2 HC
            go_wp2_with (fail)
            go_ret2
            exact ⟨⟨_, by rw [HBAD.out]; rfl, by rw [HBAD.out, HBASE.out]; exact OI.none _ _⟩, by rw [HBASE.out]; exact HB3.out⟩
          | some v =>
            have hrd2 := rdT_some hrd
            have HR2 := hid (reads_succ HR.out hxk hrd)
            rw [hrd2] at HC
            clear hrd hrd2 hxk
            go_wp2_with (fail)
            refine HC.out.mono ?_
            rintro e w2 ⟨rfl, hb2⟩
            have HB3 := hid (HB2.out.trans (hb2.mono hws))
            have HO2 := hid (OI.below HO.out hb2)
            have HP2 := hid (PS.below HP.out hb2)
            have hws2 : base ≤ w2.heap.size := by have := hb2.size; omega
            clear hb2 HC
            go_wp2_with (at_builtin; refine StopT.out ?_)
            refine ⟨?_⟩
            refine wpList_append_own _ rfl _ _ 25 rfl base 2 i0 (.int .i64 0) 1 8 Tryd.underlying25 hi hz0 hz1 hz2 rfl (by decide) (.slice (some ⟨g, 0, none⟩) zs.length cp) zs.length (zs.map (.int .i64)) rfl (OI.allocd HO2.out (.cells #[.int .i64 v] 2)) ⟨_, 0, none⟩ 1 1 [.int .i64 v] rfl rfl (cell_one_new _ _ _) ?c2 ?c3 ?c4 ?c5 ?_
            case c2 => intro u hu; simp at hu; subst hu; rfl
            case c3 => skip; unfold maxLen; omega
            case c4 => skip; omega
            case c5 => simp; omega
            intro v' w3 hown' hgrow _
            obtain ⟨g', cap', rfl, hO⟩ := OI.of_app (l := zs) (x := v) hown'
            have HO3 : Hid (OI w3 base (.slice (some ⟨g', 0, none⟩) (zs ++ [v]).length cap') (zs ++ [v])) := by unfold Hid; rw [List.length_append]; exact hO
            have HB4 := hid ((HB3.out.alloc hws2 _).grown hgrow (by simp; omega) (fun k hk => by cases hk; exact (World.ownsRow.lt HO.out g rfl).1))
            have HP3 := hid (PS.kept (HP2.out.alloc (.cells #[.int .i64 v] 2)) hgrow (apart_type HP2.out HO2.out (by decide)))
            clear hown' hO hgrow
            go_wp2_with (fail)
            go_roundw
            case rel => exact ⟨k + 1, zs ++ [v], g', cap', by omega, by go_num, by simp, HO3, HR2, HP3, HB4⟩
            case measure => simp [intOf]; omega
        · have HK := hid (show k = xs.length by omega)
          have HALL : Hid (allR rd xs = some zs) := by
            have h := HR.out
            rw [HK.out] at h
            exact reads_all h
          go_wp2_with (fail)
          go_ret2
          exact ⟨⟨_, by rw [HALL.out]; rfl, by rw [HALL.out, HBASE.out]; exact HO.out⟩, by rw [HBASE.out]; exact HB2.out⟩
    · rw [if_neg h64]
      generalize cutL s.data.toList = xs at *
      clear hn HX hpc
      go_enter Tryd.func16, Tryd.ntmps16
      go_wp2_with (fail)
      refine (HPC.out _).mono ?_
      rintro e w1 ⟨⟨pv, rfl, hp⟩, hb1⟩
      have HM2 := hid (OI.below hM0.out hb1)
      have HB1 := hid (hB0.out.trans (hb1.mono (by simp; omega)))
      have hp2 := PS.mono hp (base2 := base) (by simp; omega)
      obtain ⟨p, cv, rfl⟩ := PS.form hp2
      have HP1 := hid hp2
      clear hp hb1 hp2 hM0 hB0 HPC
      go_wp2_with (fail)
      go_ret2
      exact ⟨⟨_, rfl, by rw [HBASE.out]; exact OI.none _ _⟩, by rw [HBASE.out]; exact HB1.out⟩
theorem ReadList_any (B : Nat) (s : ByteArray) (hs : s.size ≤ 1048576) (w : World) (hT : T10 B w) (hE : EV B w) (hM : ML B w) (hB : B ≤ w.heap.size) :
    Calls Tryd.prog 8 #[.string s] w fun e w' => (∃ v, e = .returned (.tuple #[v, .bool (rl s.data.toList).isSome]) ∧ OI w' w.heap.size v ((rl s.data.toList).getD [])) ∧ Below w.heap.size w w' := by
  have HC := hid (readList_any B s hs w hT hE hM hB)
  have HX : Hid (rl s.data.toList = if (pcs s.data.toList).length ≤ 64 then rdAll s.data.toList else none) := rfl
  rw [HX.out]
  clear hT hE hM HX
  cases hr : rdAll s.data.toList with
  | none =>
    rw [hr] at HC
    have HI : Hid ((if (pcs s.data.toList).length ≤ 64 then (none : Option (List Int)) else none) = none) := by unfold Hid; split <;> rfl
    rw [HI.out]
    clear HI hr
    go_enter Tryd.func8, Tryd.ntmps8
    go_wp2_with (fail)
    refine HC.out.mono ?_
    rintro e w1 ⟨⟨pv, rfl, hp⟩, hb1⟩
    have HB1 := hid hb1
    clear hp hb1
    go_wp2_with (fail)
    go_ret2
    exact ⟨⟨_, rfl, OI.none _ _⟩, HB1.out⟩
  | some zs =>
    have hzl : zs.length = (pcs s.data.toList).length := (allR_len hr).1
    rw [hr] at HC
    rw [← hzl]
    clear hr hzl
    by_cases h64 : zs.length ≤ 64
    · rw [if_pos h64]
      go_enter Tryd.func8, Tryd.ntmps8
      go_wp2_with (fail)
      refine HC.out.mono ?_
      rintro e w1 ⟨⟨pv, rfl, hp⟩, hb1⟩
      obtain ⟨p, cv, rfl⟩ := OI.form hp
      have HB1 := hid hb1
      have HP := hid hp
      clear hp hb1
      go_wp2_with (fail)
      go_ret2
      exact ⟨⟨_, rfl, HP.out⟩, HB1.out⟩
    · rw [if_neg h64]
      go_enter Tryd.func8, Tryd.ntmps8
      go_wp2_with (fail)
      refine HC.out.mono ?_
      rintro e w1 ⟨⟨pv, rfl, hp⟩, hb1⟩
      obtain ⟨p, cv, rfl⟩ := OI.form hp
      have HB1 := hid hb1
      clear hp hb1
      go_wp2_with (fail)
      go_ret2
      exact ⟨⟨_, rfl, OI.none _ _⟩, HB1.out⟩
theorem sReadList_any (s : ByteArray) (hs : s.size ≤ 1048576) (w : World) :
    Calls Tryd.prog 7 #[.string s] w fun e w' => (∃ v, e = .returned (.tuple #[v, .bool (rl s.data.toList).isSome]) ∧ OI w' w.heap.size v ((rl s.data.toList).getD [])) ∧ Below w.heap.size w w' := by
  have HC := hid (l01Numbers_any s hs w)
  generalize rl s.data.toList = o at *
  go_enter Tryd.func7, Tryd.ntmps7
  go_wp2_with (fail)
  refine HC.out.mono ?_
  rintro e w1 ⟨⟨pv, rfl, hp⟩, hb1⟩
  have HB1 := hid hb1
  have HP := hid hp
  clear hp hb1
  go_wp2_with (fail)
  go_ret2
  exact ⟨⟨_, rfl, HP.out⟩, HB1.out⟩
end Go.Proofs.YtgfnchggflecgabDoor
