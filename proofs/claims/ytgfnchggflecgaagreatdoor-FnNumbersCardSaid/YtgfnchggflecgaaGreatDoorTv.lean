/-
  LISTS OF NUMBERS THAT ARE READ OFF A TEXT: plain, and the program's walk. Own work; no condition beyond what each theorem names.
-/
import Derived.Test.YtgfnchggflecgaaGreatDoorTu
import Derived.Test.YtgfnchggflecgaaGreatDoorTq
import Derived.Test.YtgfnchggflecgaaGreatDoorTr
namespace Go.Proofs.YtgfnchggflecgaaGreatDoor
open Go.RowKit
set_option linter.unusedVariables false

/-! ### plain -/
/-- What a piece of eight digits reads as: the bits, if they are those of a number as it is written. -/
def rdx (x : List UInt8) : Option Nat := if x.length = 8 then (match hexV x 0 with | some v => if nf .f32 v = v then some v else none | none => none) else none
def RN (l : List UInt8) : Option (List Nat) := if (pcs l).length ≤ 256 then allR rdx (pcs l) else none
theorem nf_lt {v : Nat} (h : v < 4294967296) : nf .f32 v < 4294967296 := (Fl.self (k := .f32) h).vlt
theorem rdx_some {x : List UInt8} {v : Nat} (h : rdx x = some v) : v < 4294967296 ∧ x = hexN 8 v ∧ nf .f32 v = v := by
  unfold rdx at h
  split at h
  · rename_i h8
    cases hh : hexV x 0 with
    | none => rw [hh] at h; cases h
    | some u =>
      rw [hh] at h
      simp only [] at h
      split at h
      · rename_i hn
        cases h
        obtain ⟨h1, h2⟩ := hexV_some 8 x v h8 hh
        exact ⟨by have h3 : (16 : Nat) ^ 8 = 4294967296 := by decide
                  omega, h2, hn⟩
      · cases h
  · cases h
theorem rdx_hex {v : Nat} (h : v < 4294967296) (hn : nf .f32 v = v) : rdx (hexN 8 v) = some v := by
  unfold rdx
  have h3 : (16 : Nat) ^ 8 = 4294967296 := by decide
  rw [if_pos (hexN_len 8 v), hexV_hexN 8 v 0 (by omega)]
  simp [hn]
theorem rdx_bad {x : List UInt8} (h : x.length ≠ 8) : rdx x = none := by unfold rdx; rw [if_neg h]
theorem rdx_iff {x : List UInt8} (h8 : x.length = 8) : rdx x = if hexN 8 (nf .f32 (pnum x)) = x then some (pnum x) else none := by
  by_cases h : hexN 8 (nf .f32 (pnum x)) = x
  · rw [if_pos h]
    have hv := nf_lt (pnum_lt h8)
    have hp : pnum x = nf .f32 (pnum x) := by
      conv => lhs; rw [← h]
      exact pnum_hex hv
    have h2 := rdx_hex hv (nf_nf .f32 _)
    rw [h, ← hp] at h2
    exact h2
  · rw [if_neg h]
    cases hr : rdx x with
    | none => rfl
    | some v =>
      exfalso
      obtain ⟨h1, h2, h3⟩ := rdx_some hr
      apply h
      rw [h2, pnum_hex h1, h3]
theorem RN_bad {l : List UInt8} {k : Nat} {x : List UInt8} (h : (pcs l)[k]? = some x) (hf : rdx x = none) : RN l = none := by
  unfold RN
  split
  · exact allR_bad h hf
  · rfl
theorem RN_many {l : List UInt8} (h : 256 < (pcs l).length) : RN l = none := by unfold RN; rw [if_neg (by omega)]
theorem allR_map {α β : Type} {f : α → Option β} {g : α → β} {xs : List α} (h : ∀ x ∈ xs, f x = some (g x)) : allR f xs = some (xs.map g) := by
  unfold allR
  rw [if_pos]
  · congr 1
    induction xs with
    | nil => rfl
    | cons y r ih =>
      rw [List.filterMap_cons_some (h y (List.mem_cons_self ..)), List.map_cons, ih fun x hx => h x (List.mem_cons_of_mem _ hx)]
  · rw [List.all_eq_true]
    intro x hx
    rw [h x hx]
    rfl
theorem nts_all (vs : List Nat) : nts vs vs.length = vs.map (hexN 8) := by unfold nts; rw [List.take_length]
theorem rn_key (l : List UInt8) (h8 : ∀ x ∈ pcs l, x.length = 8) (h256 : (pcs l).length ≤ 256) :
    RN l = if ntL (us ((pcs l).map pnum)) = l then some ((pcs l).map pnum) else none := by
  have hnt : ntL (us ((pcs l).map pnum)) = jn ((pcs l).map fun x => hexN 8 (nf .f32 (pnum x))) := by
    unfold ntL
    rw [us_len, List.length_map, if_pos h256]
    have e := nts_all (us ((pcs l).map pnum))
    rw [us_len, List.length_map] at e
    rw [e]
    unfold us
    rw [List.map_map, List.map_map]
    rfl
  rw [hnt]
  unfold RN
  rw [if_pos h256]
  by_cases hn : l = noneL
  · have hp : pcs l = [] := by unfold pcs; rw [if_pos hn]
    rw [hp]
    rw [if_pos (by rw [hn]; rfl)]
    rfl
  · have hp : pcs l = cutL l := by unfold pcs; rw [if_neg hn]
    have hne : pcs l ≠ [] := by rw [hp]; exact cutL_ne l
    have hjn : jn ((pcs l).map fun x => hexN 8 (nf .f32 (pnum x))) = Lib.join ((pcs l).map fun x => hexN 8 (nf .f32 (pnum x))) [44] := by
      unfold jn
      rw [if_neg (by simpa using hne)]
    rw [hjn]
    have hiff : (Lib.join ((pcs l).map fun x => hexN 8 (nf .f32 (pnum x))) [44] = l) ↔ ∀ x ∈ pcs l, hexN 8 (nf .f32 (pnum x)) = x := by
      constructor
      · intro h
        have h2 := cutL_join ((pcs l).map fun x => hexN 8 (nf .f32 (pnum x))) (by simpa using hne) (fun x hx c hc => by
          obtain ⟨y, _, rfl⟩ := List.mem_map.1 hx
          exact hexN_mem _ _ c hc)
        rw [h, ← hp] at h2
        intro x hx
        obtain ⟨j, hj, rfl⟩ := List.getElem_of_mem hx
        have h3 := congrArg (fun z : List (List UInt8) => z[j]?) h2
        simp only [List.getElem?_map, List.getElem?_eq_getElem hj, Option.map_some, Option.some.injEq] at h3
        exact h3.symm
      · intro h
        have h2 : (pcs l).map (fun x => hexN 8 (nf .f32 (pnum x))) = pcs l := (List.map_congr_left h).trans (List.map_id _)
        rw [h2, hp]
        exact join_cutL l
    by_cases hall : ∀ x ∈ pcs l, hexN 8 (nf .f32 (pnum x)) = x
    · rw [if_pos (hiff.2 hall)]
      exact allR_map fun x hx => by rw [rdx_iff (h8 x hx), if_pos (hall x hx)]
    · rw [if_neg (fun h => hall (hiff.1 h))]
      obtain ⟨x, hx⟩ := Classical.not_forall.1 hall
      obtain ⟨hx1, hx2⟩ := Classical.not_imp.1 hx
      obtain ⟨j, hj, rfl⟩ := List.getElem_of_mem hx1
      exact allR_bad (List.getElem?_eq_getElem hj) (by rw [rdx_iff (h8 _ hx1), if_neg hx2])
theorem RN_lt {l : List UInt8} : ∀ z ∈ (RN l).getD [], z < 4294967296 := by
  intro z hz
  unfold RN at hz
  split at hz
  · cases hr : allR rdx (pcs l) with
    | none => rw [hr] at hz; cases hz
    | some zs =>
      rw [hr] at hz
      obtain ⟨j, hj, rfl⟩ := List.getElem_of_mem hz
      have hl := allR_len hr
      obtain ⟨x, v, _, h2, h3⟩ := hl.2.1 j (by rw [← hl.1]; exact hj)
      simp only [Option.getD_some] at hj ⊢
      rw [List.getElem?_eq_getElem hj] at h3
      cases h3
      exact (rdx_some h2).1
  · cases hz
theorem RN_len (l : List UInt8) : ((RN l).getD []).length ≤ 256 := by
  unfold RN
  split
  · rename_i h
    cases hr : allR rdx (pcs l) with
    | none => simp
    | some zs => rw [Option.getD_some, (allR_len hr).1]; exact h
  · simp

/-! ### the program -/
theorem info_f32t : (Tryz.prog.info? 24).map (fun i => (i.zero, i.size, i.bytes)) = some (some (.float .f32 0), 1, 4) := by kernel_rfl
theorem OF.of_app {w : World} {base : Nat} {v : Value} {l : List Nat} {x : Nat} (h : w.ownsRow base 24 1 v (l.length + 1) (l.map (.float .f32) ++ [.float .f32 x])) (hl : ∀ z ∈ l, z < 4294967296) (hx : x < 4294967296) : ∃ g cap, v = .slice (some ⟨g, 0, none⟩) (l.length + 1) cap ∧ OF w base (.slice (some ⟨g, 0, none⟩) (l.length + 1) cap) (l ++ [x]) := by
  rcases h.2 with ⟨_, h0⟩ | ⟨g, cap, cur, rfl, _⟩
  · omega
  · refine ⟨g, cap, rfl, ?_, fun z hz => ?_⟩
    · rw [List.length_append, List.map_append]
      exact h
    · rcases List.mem_append.1 hz with h1 | h1
      · exact hl z h1
      · rw [List.mem_singleton.1 h1]; exact hx
theorem OF.allocd {w : World} {base : Nat} {v : Value} {l : List Nat} (h : OF w base v l) (o : Obj) : OF (w.alloc o) base v l := h.below ((Below.refl _ _).alloc (Nat.le_refl _) o)
theorem OF.made (w : World) {base : Nat} (hb : base ≤ w.heap.size) : OF (w.alloc (.cells #[] 24)) base (.slice (some ⟨w.heap.size, 0, none⟩) 0 0) [] :=
  ⟨World.ownsRow_made w #[] 0 hb (by unfold maxLen; omega) (by simp), fun z hz => by cases hz⟩
theorem OF.none (w : World) (base : Nat) : OF w base (.slice none 0 0) [] := ⟨World.ownsRow_nil w base _ 1, fun z hz => by cases hz⟩
theorem map_take_succ {xs : List (List UInt8)} {k : Nat} (hk : k < xs.length) : (xs.take (k + 1)).map pnum = (xs.take k).map pnum ++ [pnum xs[k]] := by
  rw [List.take_succ_eq_append_getElem hk, List.map_append]
  rfl
set_option maxRecDepth 100000 in
set_option maxHeartbeats 1600000 in
theorem ReadNumbers_any (B : Nat) (s : ByteArray) (hs : s.size ≤ 1048576) (w : World) (hD : D15 B w) (hE : EV B w) (hM : ML B w) (hB : B ≤ w.heap.size) :
    Calls Tryz.prog 13 #[.string s] w fun e w' => (∃ v, e = .returned (.tuple #[v, .bool (RN s.data.toList).isSome]) ∧ OF w' w.heap.size v ((RN s.data.toList).getD [])) ∧ Below w.heap.size w w' := by
  obtain ⟨i0, hi, hz0, hz1, hz2⟩ := info_parts info_f32t
  have HD := hid hD
  have HE := hid hE
  have HKEY := hid (rn_key s.data.toList)
  have HRB := hid (fun k x => RN_bad (l := s.data.toList) (k := k) (x := x))
  have HRM := hid (RN_many (l := s.data.toList))
  obtain ⟨base, hbase⟩ : ∃ base, w.heap.size = base := ⟨_, rfl⟩
  have hM0 := hid (OF.made w (base := base) (by omega))
  have hB0 := hid ((Below.refl w.heap.size w).alloc (Nat.le_refl _) (.cells #[] 24))
  have HPC := hid (fun w (hM : ML B w) => pieces_any B s hs w hM)
  have HML := hid (hM.on ((Below.refl _ _).alloc hB (.cells #[] 24)))
  rw [hbase] at hM0 hB0
  have HBASE := hid hbase
  generalize pcs s.data.toList = xs at *
  clear hD hE hM
  go_enter Tryz.func13, Tryz.ntmps13
  go_wp2_with (fail)
  refine (HPC.out _ HML.out).mono ?_
  rintro e w1 ⟨⟨pv, rfl, hp⟩, hb1⟩
  have HM2 := hid (OF.below hM0.out hb1)
  have HB1 := hid (hB0.out.trans (hb1.mono (by simp; omega)))
  have hp2 := PS.mono hp (base2 := base) (by simp; omega)
  obtain ⟨p, cv, rfl⟩ := PS.form hp2
  have HP1 := hid hp2
  clear hp hb1 hp2 hM0 hB0 HPC HML
  go_wp2_with (fail)
  go_loopw [4, 13] (fun o i wr => ∃ (k : Nat) (zs : List Nat) (g cp : Nat), k ≤ xs.length ∧ k ≤ 256 ∧ i = .int .i64 k ∧ o = .slice (some ⟨g, 0, none⟩) zs.length cp ∧ Hid (OF wr base (.slice (some ⟨g, 0, none⟩) zs.length cp) zs) ∧ Hid (zs = (xs.take k).map pnum ∧ zs.length = k ∧ ∀ j (h : j < xs.length), j < k → xs[j].length = 8) ∧ Hid (PS wr base (.slice p xs.length cv) xs) ∧ Hid (Below base w wr)) (fun _ i _ => xs.length - (intOf i).toNat)
  case atStart => exact ⟨0, [], base, 0, Nat.zero_le _, by omega, rfl, rfl, HM2, ⟨rfl, rfl, fun j _ h => absurd h (Nat.not_lt_zero _)⟩, HP1, HB1⟩
  case round =>
    obtain ⟨k, zs, g, cp, hk, hk2, rfl, rfl, HO, HR, HP, HB2⟩ := hrel
    have hws : base ≤ wr.heap.size := by have := HB2.out.size; rw [← HBASE.out]; exact this
    by_cases hlt : k < xs.length
    · obtain ⟨b2, off2, rfl, hc⟩ := (PS.sl HP.out).1 k (by simpa using hlt)
      have hxk : xs[k]? = some xs[k] := List.getElem?_eq_getElem hlt
      have HXK := hid hxk
      have hgd : (xs.map strOf).getD k ByteArray.empty = strOf xs[k] := by simp [List.getD, hlt]
      rw [hgd] at hc
      have hsz : (strOf xs[k]).size = xs[k].length := by simp [strOf, ByteArray.size]
      have hI : (k : Int) < (xs.length : Int) := by omega
      have hdl : (strOf xs[k]).data.toList = xs[k] := by simp [strOf]
      have HMT := hid (map_take_succ hlt)
      by_cases h8 : xs[k].length = 8
      · by_cases h256 : k = 256
        · have HN := hid (HRM.out (by omega))
          have hzl : zs.length = 256 := by rw [HR.out.2.1]; exact h256
          rw [h8] at hsz
          generalize strOf xs[k] = sk at *
          clear hdl hgd hxk HMT h8
          subst h256
          go_wp2_with (fail)
          go_ret2
          exact ⟨⟨_, by rw [HN.out]; rfl, by rw [HN.out, HBASE.out]; exact OF.none _ _⟩, by rw [HBASE.out]; exact HB2.out⟩
        · have hzl : ¬ zs.length = 256 := by rw [HR.out.2.1]; exact h256
          have hzk : zs.length ≤ 256 := by rw [HR.out.2.1]; omega
          have hzb : ((zs.length : Int) == 256) = false := by simp; omega
          have hnz : (8 : Int) ≠ 9 := by decide
          rw [h8] at hsz
          have H8 := hid h8
          have HC := hid (readHex_any B (strOf xs[k]) (by rw [hsz]) wr (HE.out.on (HB2.out.mono (by rw [← HBASE.out]; exact hB))))
          rw [hdl] at HC
          have HPN := hid (pnum_lt h8)
          generalize pnum xs[k] = pn at *
          generalize strOf xs[k] = sk at *
          clear hdl hgd hxk h8 hzl
          go_wp2_with (fail)
          refine HC.out.mono ?_
          rintro e w2 ⟨rfl, hb2⟩
          have HB3 := hid (HB2.out.trans (hb2.mono hws))
          have HO2 := hid (OF.below HO.out hb2)
          have HP2 := hid (PS.below HP.out hb2)
          have hws2 : base ≤ w2.heap.size := by have := hb2.size; omega
          clear hb2 HC
          go_wp2_with (at_builtin; refine StopT.out ?_)
          refine ⟨?_⟩
          refine wpList_append_own _ rfl _ _ 30 rfl base 24 i0 (.float .f32 0) 1 4 Tryz.underlying30 hi hz0 hz1 hz2 rfl (by decide) (.slice (some ⟨g, 0, none⟩) zs.length cp) zs.length (zs.map (.float .f32)) rfl (OF.allocd HO2.out (.cells #[.float .f32 pn] 24)).1 ⟨_, 0, none⟩ 1 1 [.float .f32 pn] rfl rfl (cell_one_new _ _ _) ?c2 ?c3 ?c4 ?c5 ?_
          case c2 => intro u hu; simp at hu; subst hu; rfl
          case c3 => skip; unfold maxLen; omega
          case c4 => skip; omega
          case c5 => simp; omega
          intro v' w3 hown' hgrow _
          obtain ⟨g', cap', rfl, hO⟩ := OF.of_app (l := zs) (x := pn) hown' HO.out.2 HPN.out
          have HO3 : Hid (OF w3 base (.slice (some ⟨g', 0, none⟩) (zs ++ [pn]).length cap') (zs ++ [pn])) := by unfold Hid; rw [List.length_append]; exact hO
          have HB4 := hid ((HB3.out.alloc hws2 _).grown hgrow (by simp; omega) (fun k hk => by cases hk; exact (World.ownsRow.lt HO.out.1 g rfl).1))
          have HP3 := hid (PS.kept (HP2.out.alloc (.cells #[.float .f32 pn] 24)) hgrow (apart_type HP2.out HO2.out.1 (by decide)))
          have HR2 : Hid (zs ++ [pn] = (xs.take (k + 1)).map pnum ∧ (zs ++ [pn]).length = k + 1 ∧ ∀ j (h : j < xs.length), j < k + 1 → xs[j].length = 8) := by
            refine ⟨by rw [HMT.out, HR.out.1], by rw [List.length_append, HR.out.2.1]; rfl, fun j h hj => ?_⟩
            by_cases e : j = k
            · subst e; exact H8.out
            · exact HR.out.2.2 j h (by omega)
          clear hown' hO hgrow
          go_wp2_with (fail)
          go_roundw
          case rel => exact ⟨k + 1, zs ++ [pn], g', cap', by omega, by omega, by go_num, by simp, HO3, HR2, HP3, HB4⟩
          case measure => simp [intOf]; omega
      · have HN := hid (HRB.out k xs[k] hxk (rdx_bad h8))
        have hsz8 : ¬ (strOf xs[k]).size = 8 := by rw [hsz]; exact h8
        have hszb : (((strOf xs[k]).size : Int) == 8) = false := by simp; omega
        generalize strOf xs[k] = sk at *
        clear hdl hgd hxk HMT h8 hsz
        go_wp2_with (fail)
        go_ret2
        exact ⟨⟨_, by rw [HN.out]; rfl, by rw [HN.out, HBASE.out]; exact OF.none _ _⟩, by rw [HBASE.out]; exact HB2.out⟩
    · have HK := hid (show k = xs.length by omega)
      have HZ : Hid (zs = xs.map pnum) := by
        have h := HR.out.1
        rw [HK.out, List.take_length] at h
        exact h
      have HKY : Hid (RN s.data.toList = if ntL (us zs) = s.data.toList then some zs else none) := by
        have h := HKEY.out (fun x hx => by
          obtain ⟨j, hj, rfl⟩ := List.getElem_of_mem hx
          exact HR.out.2.2 j hj (by rw [HK.out]; exact hj)) (by rw [← HK.out]; exact hk2)
        rw [← HZ.out] at h
        exact h
      have hz256 : zs.length ≤ 256 := by rw [HR.out.2.1]; exact hk2
      have HC := hid (NumbersText_any B (some ⟨g, 0, none⟩) cp zs wr (OF.sl HO.out).1 HO.out.2 (by omega) (HD.out.on (HB2.out.mono (by rw [← HBASE.out]; exact hB))) (Nat.le_trans hB (by rw [HBASE.out]; exact hws)))
      rw [decide_eq_true hz256] at HC
      by_cases he : ntL (us zs) = s.data.toList
      · have hq := strq_t he
        have HN : Hid (RN s.data.toList = some zs) := by unfold Hid; rw [HKY.out, if_pos he]
        generalize strOf (ntL (us zs)) = S at *
        clear he
        go_wp2_with (fail)
        refine HC.out.mono ?_
        rintro e w2 ⟨rfl, hb2⟩
        have HB3 := hid (HB2.out.trans (hb2.mono hws))
        have HO2 := hid (OF.below HO.out hb2)
        clear hb2 HC
        go_wp2_with (fail)
        go_ret2
        exact ⟨⟨_, by rw [HN.out]; rfl, by rw [HN.out, HBASE.out]; exact HO2.out⟩, by rw [HBASE.out]; exact HB3.out⟩
      · have hq := strq_f he
        have HN : Hid (RN s.data.toList = none) := by unfold Hid; rw [HKY.out, if_neg he]
        generalize strOf (ntL (us zs)) = S at *
        clear he
        go_wp2_with (fail)
        refine HC.out.mono ?_
        rintro e w2 ⟨rfl, hb2⟩
        have HB3 := hid (HB2.out.trans (hb2.mono hws))
        clear hb2 HC
        go_wp2_with (fail)
        go_ret2
        exact ⟨⟨_, by rw [HN.out]; rfl, by rw [HN.out, HBASE.out]; exact OF.none _ _⟩, by rw [HBASE.out]; exact HB3.out⟩
end Go.Proofs.YtgfnchggflecgaaGreatDoor
