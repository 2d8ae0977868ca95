/-
  LISTS OF COMPLEX NUMBERS THAT ARE READ OFF A TEXT: the program's walk. Printed by wip/tools/gen_readc.py. Own work; no condition beyond what each theorem names.
-/
import Derived.Test.YtgfnchggflecgaaDoorCb
import Derived.Test.YtgfnchggflecgaaDoorQt
namespace Go.Proofs.YtgfnchggflecgaaDoor
open Go.RowKit
set_option linter.unusedVariables false
attribute [local go_sem] opS fineS givesS

theorem info_c64t : (Tryd.prog.info? 50).map (fun i => (i.zero, i.size, i.bytes)) = some (some (.complex .f32 0 0), 1, 8) := by kernel_rfl
set_option maxRecDepth 100000 in
set_option maxHeartbeats 1600000 in
theorem ReadComplex_any (B : Nat) (s : ByteArray) (hs : s.size ≤ 1048576) (w : World) (hD : D15 B w) (hE : EV B w) (hM : ML B w) (hB : B ≤ w.heap.size) :
    Calls Tryd.prog 14 #[.string s] w fun e w' => (∃ v, e = .returned (.tuple #[v, .bool (RC s.data.toList).isSome]) ∧ OC w' w.heap.size v ((RC s.data.toList).getD [])) ∧ Below w.heap.size w w' := by
  obtain ⟨i0, hi, hz0, hz1, hz2⟩ := info_parts info_c64t
  have HD := hid hD
  have HE := hid hE
  have HKEY := hid (rc_key s.data.toList)
  have HRB := hid (fun k x => RC_bad (l := s.data.toList) (k := k) (x := x))
  have HRM := hid (RC_many (l := s.data.toList))
  obtain ⟨base, hbase⟩ : ∃ base, w.heap.size = base := ⟨_, rfl⟩
  have hM0 := hid (OC.made w (base := base) (by omega))
  have hB0 := hid ((Below.refl w.heap.size w).alloc (Nat.le_refl _) (.cells #[] 50))
  have HPC := hid (fun w (hM : ML B w) => pieces_any B s hs w hM)
  have HML := hid (hM.on ((Below.refl _ _).alloc hB (.cells #[] 50)))
  rw [hbase] at hM0 hB0
  have HBASE := hid hbase
  generalize pcs s.data.toList = xs at *
  clear hD hE hM
  go_enter Tryd.func14, Tryd.ntmps14
  go_wp2_with (fail)
  refine (HPC.out _ HML.out).mono ?_
  rintro e w1 ⟨⟨pv, rfl, hp⟩, hb1⟩
  have HM2 := hid (OC.below hM0.out hb1)
  have HB1 := hid (hB0.out.trans (hb1.mono (by simp; omega)))
  have hp2 := PS.mono hp (base2 := base) (by simp; omega)
  obtain ⟨p, cv, rfl⟩ := PS.form hp2
  have HP1 := hid hp2
  clear hp hb1 hp2 hM0 hB0 HPC HML
  go_wp2_with (fail)
  go_loopw [4, 13] (fun o i wr => ∃ (k : Nat) (zs : List (Nat × Nat)) (g cp : Nat), k ≤ xs.length ∧ k ≤ 256 ∧ i = .int .i64 k ∧ o = .slice (some ⟨g, 0, none⟩) zs.length cp ∧ Hid (OC wr base (.slice (some ⟨g, 0, none⟩) zs.length cp) zs) ∧ Hid (zs = (xs.take k).map pnc ∧ zs.length = k ∧ ∀ j (h : j < xs.length), j < k → xs[j].length = 16) ∧ Hid (PS wr base (.slice p xs.length cv) xs) ∧ Hid (Below base w wr)) (fun _ i _ => xs.length - (intOf i).toNat)
  case atStart => exact ⟨0, [], base, 0, Nat.zero_le _, by omega, rfl, rfl, HM2, ⟨rfl, rfl, fun j _ h => absurd h (Nat.not_lt_zero _)⟩, HP1, HB1⟩
  case round =>
    obtain ⟨k, zs, g, cp, hk, hk2, rfl, rfl, HO, HR, HP, HB2⟩ := hrel
    have hws : base ≤ wr.heap.size := by have := HB2.out.size; rw [← HBASE.out]; exact this
    by_cases hlt : k < xs.length
    · obtain ⟨b2, off2, rfl, hc⟩ := (PS.sl HP.out).1 k (by simpa using hlt)
      have hxk : xs[k]? = some xs[k] := List.getElem?_eq_getElem hlt
      have HXK := hid hxk
      have hgd : (xs.map strOf).getD k ByteArray.empty = strOf xs[k] := by simp [List.getD, hlt]
      rw [hgd] at hc
      have hsz : (strOf xs[k]).size = xs[k].length := by simp [strOf, ByteArray.size]
      have hI : (k : Int) < (xs.length : Int) := by omega
      have hdl : (strOf xs[k]).data.toList = xs[k] := by simp [strOf]
      have HMT := hid (map_take_pnc hlt)
      by_cases h8 : xs[k].length = 16
      · by_cases h256 : k = 256
        · have HN := hid (HRM.out (by omega))
          have hzl : zs.length = 256 := by rw [HR.out.2.1]; exact h256
          rw [h8] at hsz
          generalize strOf xs[k] = sk at *
          clear hdl hgd hxk HMT h8
          subst h256
          go_wp2_with (fail)
          go_ret2
          exact ⟨⟨_, by rw [HN.out]; rfl, by rw [HN.out, HBASE.out]; exact OC.nul _ _⟩, by rw [HBASE.out]; exact HB2.out⟩
        · have hzl : ¬ zs.length = 256 := by rw [HR.out.2.1]; exact h256
          have hzk : zs.length ≤ 256 := by rw [HR.out.2.1]; omega
          have hzb : ((zs.length : Int) == 256) = false := by simp; omega
          have hnz : (8 : Int) ≠ 9 := by decide
          rw [h8] at hsz
          have H8 := hid h8
          have HEW := hid (HE.out.on (HB2.out.mono (by rw [← HBASE.out]; exact hB)))
          have hBW : B ≤ wr.heap.size := Nat.le_trans hB (by rw [HBASE.out]; exact hws)
          have hx1 : ((strOf xs[k]).extract 0 8).data.toList = xs[k].take 8 := by rw [Lib.extract_data, hdl]; rfl
          have hx2 : ((strOf xs[k]).extract 8 16).data.toList = xs[k].drop 8 := by
            rw [Lib.extract_data, hdl]
            exact List.take_of_length_le (by rw [List.length_drop]; omega)
          have hl1 : (xs[k].take 8).length = 8 := by rw [List.length_take]; omega
          have hl2 : (xs[k].drop 8).length = 8 := by rw [List.length_drop]; omega
          have HC := hid (fun w (h : EV B w) => readHex_any B ((strOf xs[k]).extract 0 8) (by rw [Lib.size_eq, hx1]; exact hl1) w h)
          have HC2 := hid (fun w (h : EV B w) => readHex_any B ((strOf xs[k]).extract 8 16) (by rw [Lib.size_eq, hx2]; exact hl2) w h)
          rw [hx1] at HC
          rw [hx2] at HC2
          have HPN : Hid ((pnc xs[k]).1 < 4294967296 ∧ (pnc xs[k]).2 < 4294967296) := ⟨pnum_lt hl1, pnum_lt hl2⟩
          have HP1E : Hid (pnc xs[k] = (pnum (xs[k].take 8), pnum (xs[k].drop 8))) := rfl
          have HE1 : Hid (pnum ((strOf xs[k]).extract 0 8).data.toList = pnum (xs[k].take 8)) := by unfold Hid; rw [hx1]
          have HE2 : Hid (pnum ((strOf xs[k]).extract 8 16).data.toList = pnum (xs[k].drop 8)) := by unfold Hid; rw [hx2]
          generalize pnum (xs[k].take 8) = p1 at *
          generalize pnum (xs[k].drop 8) = p2 at *
          rw [HP1E.out] at HPN HMT
          generalize strOf xs[k] = sk at *
          clear hdl hgd hxk h8 hzl hx1 hx2 hl1 hl2 HP1E
          obtain ⟨gv, hgv⟩ : ∃ gv : ByteArray → Nat, gv = fun t => pnum t.data.toList := ⟨_, rfl⟩
          have HG1 : Hid (gv (sk.extract 0 8) = p1) := by unfold Hid; rw [hgv]; exact HE1.out
          have HG2 : Hid (gv (sk.extract 8 16) = p2) := by unfold Hid; rw [hgv]; exact HE2.out
          clear hgv
          obtain ⟨CC, hCC⟩ : ∃ CC : World → Prop, CC = fun w' => Below wr.heap.size wr w' := ⟨_, rfl⟩
          have HCA : Hid (∀ w', CC w' → Calls Tryd.prog 29 #[.string (sk.extract 0 8)] w' fun e w2 => ∃ u, e = .returned u ∧ u = .float .f32 (gv (sk.extract 0 8)) ∧ CC w2) := fun w' h => by
            rw [hCC] at h ⊢
            refine (HC.out w' (HEW.out.on (h.mono hBW))).mono ?_
            rintro e w2 ⟨rfl, hb2⟩
            exact ⟨_, rfl, by rw [HG1.out], h.trans (hb2.mono h.size)⟩
          have HCB : Hid (∀ w', CC w' → Calls Tryd.prog 29 #[.string (sk.extract 8 16)] w' fun e w2 => ∃ u, e = .returned u ∧ u = .float .f32 (gv (sk.extract 8 16)) ∧ CC w2) := fun w' h => by
            rw [hCC] at h ⊢
            refine (HC2.out w' (HEW.out.on (h.mono hBW))).mono ?_
            rintro e w2 ⟨rfl, hb2⟩
            exact ⟨_, rfl, by rw [HG2.out], h.trans (hb2.mono h.size)⟩
          go_wp2_with (fail)
          refine wp_region_mixC (C := CC) 7 (fun _ args u => ∃ t : ByteArray, args = #[.string t] ∧ u = .float .f32 (gv t)) (by kernel_rfl) (by kernel_rfl) (by kernel_rfl) (by kernel_rfl) (by kernel_rfl) (by kernel_rfl) (by kernel_rfl) (by kernel_rfl) (fun _ _ _ h => h) (Or.inl ⟨rfl, fun _ => rfl⟩) rfl (by rw [hCC]; exact below_drewN (Below.refl _ _) _) ?_
          simp only [List.take_succ_cons, List.take_zero, List.drop_succ_cons, List.drop_zero, List.map_cons, List.map_nil]
          have HR1 := hid (fun w' (h : CC w') => HCA.out w' h)
          have HR2 := hid (fun w' (h : CC w') => HCB.out w' h)
          have HCC := hid hCC
          clear hCC HCA HCB HC HC2
          repeat (refine mixS_step (fun K hK => ?_); first | (go_simp; intro w' hw'; refine ⟨hw', hK _ ?_⟩; clear hK K w' hw') | (go_simp; intro w' hw'; refine ⟨⟨hw', HR1.out⟩, ?_⟩; rw [HG1.out]; refine hK _ ?_; clear hK K w' hw') | (go_simp; intro w' hw'; refine ⟨⟨hw', HR2.out⟩, ?_⟩; rw [HG2.out]; refine hK _ ?_; clear hK K w' hw'))
          refine mixS_nil ?_
          intro w2 hw2
          have hb2 : Below wr.heap.size wr w2 := by
            have h := hw2
            rw [HCC.out] at h
            exact h
          have HB3 := hid (HB2.out.trans (hb2.mono hws))
          have HO2 := hid (OC.below HO.out hb2)
          have HP2 := hid (PS.below HP.out hb2)
          have hws2 : base ≤ w2.heap.size := by have := hb2.size; omega
          clear hb2 hw2 HCC HR1 HR2 HG1 HG2 HE1 HE2
          go_wp2_with (at_builtin; refine StopT.out ?_)
          refine ⟨?_⟩
          refine wpList_append_own _ rfl _ _ 28 rfl base 50 i0 (.complex .f32 0 0) 1 8 Tryd.underlying28 hi hz0 hz1 hz2 rfl (by decide) (.slice (some ⟨g, 0, none⟩) zs.length cp) zs.length (zs.map cvl) rfl (OC.allocd HO2.out (.cells #[.complex .f32 p1 p2] 50)).1 ⟨_, 0, none⟩ 1 1 [.complex .f32 p1 p2] rfl rfl (cell_one_new _ _ _) ?c2 ?c3 ?c4 ?c5 ?_
          case c2 => intro u hu; simp at hu; subst hu; rfl
          case c3 => skip; unfold maxLen; omega
          case c4 => skip; omega
          case c5 => simp; omega
          intro v' w3 hown' hgrow _
          obtain ⟨g', cap', rfl, hO⟩ := OC.of_app (l := zs) (x := (p1, p2)) hown' HO2.out.2 HPN.out
          have HO3 : Hid (OC w3 base (.slice (some ⟨g', 0, none⟩) (zs ++ [(p1, p2)]).length cap') (zs ++ [(p1, p2)])) := by unfold Hid; rw [List.length_append]; exact hO
          have HB4 := hid ((HB3.out.alloc hws2 _).grown hgrow (by simp; omega) (fun k hk => by cases hk; exact (World.ownsRow.lt HO2.out.1 g rfl).1))
          have HP3 := hid (PS.kept (HP2.out.alloc (.cells #[.complex .f32 p1 p2] 50)) hgrow (apart_type HP2.out HO2.out.1 (by decide)))
          have HR2 : Hid (zs ++ [(p1, p2)] = (xs.take (k + 1)).map pnc ∧ (zs ++ [(p1, p2)]).length = k + 1 ∧ ∀ j (h : j < xs.length), j < k + 1 → xs[j].length = 16) := by
            refine ⟨by rw [HMT.out, HR.out.1], by rw [List.length_append, HR.out.2.1]; rfl, fun j h hj => ?_⟩
            by_cases e : j = k
            · subst e; exact H8.out
            · exact HR.out.2.2 j h (by omega)
          clear hown' hO hgrow
          go_wp2_with (fail)
          go_roundw
          case rel => exact ⟨k + 1, zs ++ [(p1, p2)], g', cap', by omega, by omega, by go_num, by simp, HO3, HR2, HP3, HB4⟩
          case measure => simp [intOf]; omega
      · have HN := hid (HRB.out k xs[k] hxk (rdc_bad h8))
        have hsz8 : ¬ (strOf xs[k]).size = 16 := by rw [hsz]; exact h8
        have hszb : (((strOf xs[k]).size : Int) == 16) = false := by simp; omega
        generalize strOf xs[k] = sk at *
        clear hdl hgd hxk HMT h8 hsz
        go_wp2_with (fail)
        go_ret2
        exact ⟨⟨_, by rw [HN.out]; rfl, by rw [HN.out, HBASE.out]; exact OC.nul _ _⟩, by rw [HBASE.out]; exact HB2.out⟩
    · have HK := hid (show k = xs.length by omega)
      have HZ : Hid (zs = xs.map pnc) := by
        have h := HR.out.1
        rw [HK.out, List.take_length] at h
        exact h
      have HKY : Hid (RC s.data.toList = if ctL (ucs zs) = s.data.toList then some zs else none) := by
        have h := HKEY.out (fun x hx => by
          obtain ⟨j, hj, rfl⟩ := List.getElem_of_mem hx
          exact HR.out.2.2 j hj (by rw [HK.out]; exact hj)) (by rw [← HK.out]; exact hk2)
        rw [← HZ.out] at h
        exact h
      have hz256 : zs.length ≤ 256 := by rw [HR.out.2.1]; exact hk2
      have HC := hid (ComplexText_any B (some ⟨g, 0, none⟩) cp zs wr (OC.sl HO.out).1 HO.out.2 hz256 (HD.out.on (HB2.out.mono (by rw [← HBASE.out]; exact hB))) (Nat.le_trans hB (by rw [HBASE.out]; exact hws)))
      by_cases he : ctL (ucs zs) = s.data.toList
      · have hq := strq_t he
        have HN : Hid (RC s.data.toList = some zs) := by unfold Hid; rw [HKY.out, if_pos he]
        generalize strOf (ctL (ucs zs)) = S at *
        clear he
        go_wp2_with (fail)
        refine HC.out.mono ?_
        rintro e w2 ⟨rfl, hb2⟩
        have HB3 := hid (HB2.out.trans (hb2.mono hws))
        have HO2 := hid (OC.below HO.out hb2)
        clear hb2 HC
        go_wp2_with (fail)
        go_ret2
        exact ⟨⟨_, by rw [HN.out]; rfl, by rw [HN.out, HBASE.out]; exact HO2.out⟩, by rw [HBASE.out]; exact HB3.out⟩
      · have hq := strq_f he
        have HN : Hid (RC s.data.toList = none) := by unfold Hid; rw [HKY.out, if_neg he]
        generalize strOf (ctL (ucs zs)) = S at *
        clear he
        go_wp2_with (fail)
        refine HC.out.mono ?_
        rintro e w2 ⟨rfl, hb2⟩
        have HB3 := hid (HB2.out.trans (hb2.mono hws))
        clear hb2 HC
        go_wp2_with (fail)
        go_ret2
        exact ⟨⟨_, by rw [HN.out]; rfl, by rw [HN.out, HBASE.out]; exact OC.nul _ _⟩, by rw [HBASE.out]; exact HB3.out⟩
end Go.Proofs.YtgfnchggflecgaaDoor
