/-
  EVEN ROWS: repetition. Printed by wip/tools/gen_own.py f. Own work; no condition beyond what each theorem names.
-/
import Derived.Test.YtkmodgkkldcpkaaOb
import Derived.Laws.CopyOwn
namespace Go.Proofs.Ytkmodgkkldcpkaa
open Go.RowKit
attribute [local go_sem] run_store_float opS fineS givesS


set_option maxHeartbeats 4000000 in
theorem Mul_few (n : Nat) (h1 : 1 ≤ n) (h2 : n ≤ 32) (w : World) :
    Calls Try.prog 99 #[.int .u64 1, .int .u64 n] w fun e w' => e = .returned (.tuple #[.int .u64 0, .int .u64 n]) ∧ w = w' := by
  have : n = 1 ∨ n = 2 ∨ n = 3 ∨ n = 4 ∨ n = 5 ∨ n = 6 ∨ n = 7 ∨ n = 8 ∨ n = 9 ∨ n = 10 ∨ n = 11 ∨ n = 12 ∨ n = 13 ∨ n = 14 ∨ n = 15 ∨ n = 16 ∨ n = 17 ∨ n = 18 ∨ n = 19 ∨ n = 20 ∨ n = 21 ∨ n = 22 ∨ n = 23 ∨ n = 24 ∨ n = 25 ∨ n = 26 ∨ n = 27 ∨ n = 28 ∨ n = 29 ∨ n = 30 ∨ n = 31 ∨ n = 32 := by omega
  rcases this with rfl | rfl | rfl | rfl | rfl | rfl | rfl | rfl | rfl | rfl | rfl | rfl | rfl | rfl | rfl | rfl | rfl | rfl | rfl | rfl | rfl | rfl | rfl | rfl | rfl | rfl | rfl | rfl | rfl | rfl | rfl | rfl
  all_goals
    go_enter Try.func99, Try.ntmps99
    go_wp2_with (go_in)
    go_ret2
    exact ⟨rfl, rfl⟩


theorem splice_rep {α : Type} (x y : α) (m N : Nat) : splice (List.replicate m x ++ List.replicate (N - m) y) m (List.replicate (Nat.min m (N - m)) x) = List.replicate (m + Nat.min m (N - m)) x ++ List.replicate (N - (m + Nat.min m (N - m))) y := by
  have hm : Nat.min m (N - m) = min m (N - m) := rfl
  unfold splice
  rw [hm, List.take_append_of_le_length (by simp), List.take_of_length_le (by simp), List.drop_append, List.drop_of_length_le (by simp), List.nil_append]
  simp only [List.length_replicate, List.drop_replicate]
  rw [← List.append_assoc, List.replicate_append_replicate]
  congr 2
  omega
theorem own_full {w : World} {base g n : Nat} {e : TypeId} {xs : List Value} (h : w.ownsRow base e 1 (.slice (some ⟨g, 0, none⟩) n n) n xs) : w.heap[g]? = some (.cells xs.toArray e (0, 0)) ∧ base ≤ g := by
  rcases h.2 with ⟨hv, _⟩ | ⟨g', cap, cur, hv, hb, hg, hnc, hcm, hcs, htake⟩
  · cases hv
  · cases hv
    refine ⟨?_, hb⟩
    rw [hg]
    have : cur.toList = xs := by rw [← htake, List.take_of_length_le (by simp; omega)]
    rw [← this]
theorem own_of_heap {w : World} {g n : Nat} {e : TypeId} {xs : List Value} (h : w.heap[g]? = some (.cells xs.toArray e (0, 0))) (hl : xs.length = n) (hm : n ≤ maxLen) : w.ownsRow g e 1 (.slice (some ⟨g, 0, none⟩) n n) n xs :=
  ⟨by omega, .inr ⟨g, n, xs.toArray, rfl, Nat.le_refl _, h, Nat.le_refl _, hm, by simp [hl], by rw [List.take_of_length_le (by simp; omega)]⟩⟩
set_option maxHeartbeats 1600000 in
theorem Repeat_few (b off c1 : Nat) (r : Nat) (n : Nat) (w : World) (hc : w.cell? ⟨b, off, none⟩ = some (.float .f32 r)) (h1 : 1 ≤ n) (h2 : n ≤ 32) :
    Calls Try.prog 73 #[.slice (some ⟨b, off, none⟩) 1 c1, .int .i64 n] w fun e w' => ∃ g, e = .returned (.slice (some ⟨g, 0, none⟩) n n) ∧ w'.heap[g]? = some (.cells (List.replicate n (Value.float .f32 r)).toArray 32 (0, 0)) ∧ w.heap.size ≤ g ∧ Below w.heap.size w w' := by
  obtain ⟨i0, hi, hz0, hz1, hz2⟩ := info_parts info_f32
  have hbl := World.block_lt_of_cell? w _ hc
  have HM := hid (fun w => Mul_few n h1 h2 w)
  have b1 : decide ((9223372036854775807 : Int) < (n : Int)) = false := decide_eq_false (by omega)
  have b2 : decide ((n : Int) < 0) = false := decide_eq_false (by omega)
  go_enter Try.func73, Try.ntmps73
  go_wp2_with (fail)
  refine (HM.out _).mono ?_
  rintro e w' ⟨rfl, rfl⟩
  go_wp2_with (at_make; refine Stop.out ?_)
  refine ⟨?_⟩
  refine wpList_make_full _ rfl _ _ 22 rfl w.heap.size 32 i0 (.float .f32 0) 1 Try.underlying22 hi hz0 hz1 _ _ _ _ n rfl rfl rfl rfl (by rw [hz2]; omega) (by unfold maxLen; omega) (Nat.le_refl _) ?_
  intro w1 hown hgrow
  have hb0 : Below w.heap.size w w1 := (Below.refl _ _).grown hgrow (Nat.le_refl _) (fun k hk => by cases hk)
  have hmade : (madeCells (Value.float .f32 0).cells (n * 1)).toList = (List.replicate n (Value.float .f32 0)) := by
    rw [Nat.mul_one]; exact madeCells_one _ _
  rw [hmade] at hown
  obtain ⟨hg, hbg⟩ := own_full hown
  have hcell : ∀ j v, [Value.float .f32 r][j]? = some v → w1.cell? ((⟨b, off, none⟩ : Addr).add j) = some v := by
    intro j v hj
    match j, hj with
    | 0, hj =>
      simp at hj
      subst hj
      have h1 := hb0.cell (p := ⟨b, off, none⟩) hbl
      have h2 : (⟨b, off, none⟩ : Addr).add 0 = ⟨b, off, none⟩ := by simp [Addr.add]
      rw [h2, h1]; exact hc
  obtain ⟨base, hbase⟩ : ∃ base, w.heap.size = base := ⟨_, rfl⟩
  rw [hbase] at hg hb0 hbg
  rw [hbase]
  have hsz1 : (Try.prog.info? 32).map (·.size) = some 1 := by rw [hi]; simp [hz1]
  have HG := hid hg
  have HB := hid hb0
  have HCL := hid hcell
  clear hown hgrow hmade hg hb0 hcell hc hbl HM
  go_wp2_with (show wpList _ _ _ [_, _] _ _; refine Stop.out ?_)
  refine ⟨?_⟩
  refine wpList_copy_splice rfl _ _ 22 22 rfl 32 Try.underlying22 hsz1 _ _ _ _ _ _ rfl rfl base 0 (List.replicate n (.float .f32 0)) 32 HG.out [.float .f32 r] (by show 1 = min 1 n; omega) (fun _ => ⟨rfl, _, rfl, HCL.out⟩) (by simp; omega) (by intro v hv; simp at hv; subst hv; rfl) base w HB.out (Nat.le_refl _) ?_
  intro w2 hg2 hb2
  have HG2 : Hid (w2.heap[base]? = some (.cells (List.replicate 1 (Value.float .f32 r) ++ List.replicate (n - 1) (Value.float .f32 0)).toArray 32 (0, 0))) := by
    have h := hg2.out
    unfold Hid
    rw [h]
    simp [splice]
  have HB2 := hid hb2
  clear hg2 hb2 HG HB HCL
  go_wp2
  go_loopw [8] (fun nn wr => ∃ m : Nat, 1 ≤ m ∧ m ≤ n ∧ nn = .int .i64 m ∧ Hid (wr.heap[base]? = some (.cells (List.replicate m (Value.float .f32 r) ++ List.replicate (n - m) (Value.float .f32 0)).toArray 32 (0, 0))) ∧ Hid (Below base w wr)) (fun nn _ => n - (intOf nn).toNat)
  case atStart => exact ⟨1, by omega, by omega, rfl, HG2, HB2⟩
  case round =>
    obtain ⟨m, hm1, hm2, rfl, HG3, HB3⟩ := hrel
    by_cases hlt : m < n
    · have hI : (m : Int) < (n : Int) := by omega
      have hsp := splice_rep (Value.float .f32 r) (Value.float .f32 0) m n
      go_wp2_with (fail)
      refine wp_region_mixT 6 (fun _ _ v => v = .bool true) (by kernel_rfl) (by kernel_rfl) (by kernel_rfl) (by kernel_rfl) (by kernel_rfl) (by kernel_rfl) (by kernel_rfl) (by kernel_rfl) (fun _ _ _ h => h) (Or.inl ⟨rfl, fun _ => rfl⟩) rfl ?_
      simp only [List.take_succ_cons, List.take_zero, List.drop_succ_cons, List.drop_zero, List.map_cons, List.map_nil]
      go_simp
      repeat (refine mixS_step (fun K hK => ?_); go_simp; refine hK _ ?_; clear hK K)
      refine mixS_nil ?_
      intro q
      rw [if_neg (show ¬ n = m by omega)]
      have hO := own_of_heap (n := n) HG3.out (by simp; omega) (by unfold maxLen; omega)
      have hsrc : ∀ j v, (List.replicate (Nat.min m (n - m)) (Value.float .f32 r))[j]? = some v → (wr.drewN q).cell? ((⟨base, 0, none⟩ : Addr).add j) = some v := by
        intro j v hj
        have hjl : j < m := by
          have := (List.getElem?_eq_some_iff.1 hj).1
          simp only [List.length_replicate] at this
          have h2 : j < min m (n - m) := this
          omega
        have hv : v = Value.float .f32 r := by
          obtain ⟨h1, h2⟩ := List.getElem?_eq_some_iff.1 hj
          rw [List.getElem_replicate] at h2
          exact h2.symm
        subst hv
        refine (World.ownsRow.cells (w := wr) hO (g := base) rfl j _ ?_)
        rw [List.getElem?_append_left (by simp; omega)]
        simp [hjl]
      refine wpList_copy_splice rfl _ _ 22 22 rfl 32 Try.underlying22 hsz1 _ _ _ _ _ _ rfl rfl base m (List.replicate m (Value.float .f32 r) ++ List.replicate (n - m) (Value.float .f32 0)) 32 HG3.out (List.replicate (Nat.min m (n - m)) (.float .f32 r)) (by simp) (fun _ => ⟨rfl, _, rfl, hsrc⟩) (by have : Nat.min m (n - m) = min m (n - m) := rfl; simp; omega) (by intro v hv; rw [List.eq_of_mem_replicate hv]; rfl) base w (below_drewN HB3.out _) (Nat.le_refl _) ?_
      intro w' hg' hb'
      have hg2 := hg'.out
      rw [hsp] at hg2
      have HG4 := hid hg2
      have HB4 := hid hb'
      obtain ⟨c, hcc⟩ : ∃ c, Nat.min m (n - m) = c := ⟨_, rfl⟩
      rw [hcc] at HG4
      have hc1 : 1 ≤ c ∧ m + c ≤ n := by
        have : Nat.min m (n - m) = min m (n - m) := rfl
        omega
      obtain ⟨hc1, hc2⟩ := hc1
      rw [List.length_replicate, hcc]
      clear hg' hb' hg2 hsp hsrc hO HG3 HB3 hcc
      go_wp2
      go_roundw
      case rel => exact ⟨m + c, by omega, hc2, by go_num, HG4, HB4⟩
      case measure => simp [intOf]; omega
    · have hmn : m = n := by omega
      have HG5 : Hid (wr.heap[base]? = some (.cells (List.replicate n (Value.float .f32 r)).toArray 32 (0, 0))) := by
        have h := HG3.out
        rw [hmn, Nat.sub_self, List.replicate_zero, List.append_nil] at h
        exact h
      go_wp2
      go_ret
      exact ⟨base, rfl, HG5.out, Nat.le_of_eq hbase, by rw [hbase]; exact HB3.out⟩


def evE (n : Int) : Nat := fbin .quo .f32 1065353216 (floatOfInt .f32 n)
def evL (n : Int) : List Nat := RL (fun _ => evE n) n.toNat
def evB (n : Int) : Bool := (decide (1 ≤ n) && decide (n ≤ 32)) && isRowB (evL n)
theorem evB_len (n : Int) : evB n = true → (evL n).length ≤ 1048576 := fun h => Nat.le_trans (row_len (Bool.and_eq_true_iff.1 h).2).2 (by decide)
theorem us_rep (r v : Nat) (h : Fl .f32 r v) (n : Nat) : us (List.replicate n r) = RL (fun _ => v) n := by
  unfold us RL
  rw [List.map_replicate, h.eq]
  refine List.ext_getElem (by simp) fun i h1 h2 => ?_
  simp
theorem OF_made' {w : World} {base : Nat} (h : w.heap.size = base) : OF (w.alloc (.cells #[] 32)) base (.slice (some ⟨base, 0, none⟩) 0 0) [] := by
  subst h; exact OF_made w _ (Nat.le_refl _)
set_option maxHeartbeats 800000 in
theorem EvenRow_any (n : Int) (w : World) :
    Calls Try.prog 33 #[.int .i64 n] w (RowPost w w.heap.size (evB n) (evL n)) := by
  have h1 : Fl .f32 1065353216 1065353216 := fone32
  have HB0 : Hid (evB n = ((decide (1 ≤ n) && decide (n ≤ 32)) && isRowB (evL n))) := rfl
  cases hb : (decide (1 ≤ n) && decide (n ≤ 32))
  · have HB : Hid (evB n = false) := by unfold Hid; rw [HB0.out, hb]; rfl
    go_enter Try.func33, Try.ntmps33
    go_wp2_with (go_at_call 58; refine (within_any _ _ _ _).mono ?_; rw [hb]; rintro e w' ⟨rfl, rfl⟩)
    go_ret2
    exact ⟨_, [], by rw [HB.out]; rfl, OF_nil _ _, by rw [HB.out]; rfl, Below.refl _ _⟩
  · have hn : 1 ≤ n ∧ n ≤ 32 := by simpa using hb
    obtain ⟨m, rfl⟩ : ∃ m : Nat, n = m := ⟨n.toNat, by omega⟩
    obtain ⟨hn1, hn2⟩ := hn
    have HB : Hid (evB (m : Int) = isRowB (evL m)) := by unfold Hid; rw [HB0.out, hb]; rfl
    have HL : Hid (evL (m : Int) = RL (fun _ => fbin .quo .f32 1065353216 (floatOfInt .f32 m)) m) := rfl
    obtain ⟨base, hbase⟩ : ∃ base, w.heap.size = base := ⟨_, rfl⟩
    have hbb := hid hb
    clear hb
    go_enter Try.func33, Try.ntmps33
    go_wp2_with (first | (go_at_call 58; refine (within_any _ _ _ _).mono ?_; rw [hbb.out]; rintro e w' ⟨rfl, rfl⟩) | (refine wpList_fofint rfl _ _ _ rfl _ _ rfl (Option.isSome_iff_exists.2 ⟨_, (by with_reducible exact Try.underlying2)⟩) (by with_reducible exact Try.underlying58) ?_; intro _) | (refine wpList_fofint rfl _ _ _ rfl _ _ rfl (Option.isSome_iff_exists.2 ⟨_, (by with_reducible exact Try.underlying2)⟩) (by with_reducible exact Try.underlying32) ?_; intro _) | (refine wpList_fofint rfl _ _ _ rfl _ _ rfl (Option.isSome_iff_exists.2 ⟨_, (by with_reducible exact Try.underlying3)⟩) (by with_reducible exact Try.underlying58) ?_; intro _) | (refine wpList_fofint rfl _ _ _ rfl _ _ rfl (Option.isSome_iff_exists.2 ⟨_, (by with_reducible exact Try.underlying3)⟩) (by with_reducible exact Try.underlying32) ?_; intro _) | (refine wpList_farith rfl _ _ _ _ _ rfl _ _ _ rfl rfl (by decide) (by assumption) (by assumption) ?_; intro _ _ _))
    rename_i r nn hr K hK
    refine (Repeat_few _ _ _ r m _ (by rw [World.cell?_alloc_at _ _ _ _ (by first | rfl | exact hbase.symm)]; rfl) (by omega) (by omega)).mono ?_
    rintro e w2 ⟨g, rfl, hg, hgb, hB⟩
    have hO : OF w2 base (.slice (some ⟨g, 0, none⟩) m m) (List.replicate m r) := by
      refine ⟨?_, fun z hz => by rw [List.eq_of_mem_replicate hz]; exact hr.lt⟩
      rw [List.map_replicate, List.length_replicate]
      refine (own_of_heap hg (by simp) (by unfold maxLen; omega)).mono ?_
      have : base + 1 ≤ g := by
        have h := hgb
        simp at h
        omega
      omega
    have hBB : Below base w w2 := by
      refine ((below_drewN (Below.refl base w) _).alloc (Nat.le_of_eq hbase.symm) _).trans (hB.mono ?_)
      simp; omega
    have HR := hid (asRow_any base _ _ w w2 hO (by simp; omega) hBB)
    rw [us_rep r _ hr m, ← HL.out] at HR
    go_wp2_with (fail)
    refine HR.out.mono ?_
    rintro e w3 ⟨v2, rs2, rfl, hO2, hU2, hB2⟩
    go_wp2_with (fail)
    go_ret2
    exact ⟨v2, rs2, by rw [HB.out]; rfl, by first | exact hO2 | (rw [hbase]; exact hO2), by rw [HB.out]; exact hU2, by first | exact hB2 | (rw [hbase]; exact hB2)⟩
set_option maxHeartbeats 800000 in
theorem sEvenRow_any (n : Int) (w : World) :
    Calls Try.prog 32 #[.int .i64 n] w (RowPost w w.heap.size (evB n) (evL n)) := by
  obtain ⟨i0, hi, hz0, hz1, hz2x⟩ := info_parts info_f32
  have h1 : Fl .f32 1065353216 1065353216 := fone32
  have HB0 : Hid (evB n = ((decide (1 ≤ n) && decide (n ≤ 32)) && isRowB (evL n))) := rfl
  cases hb : (decide (1 ≤ n) && decide (n ≤ 32))
  · have HB : Hid (evB n = false) := by unfold Hid; rw [HB0.out, hb]; rfl
    go_enter Try.func32, Try.ntmps32
    go_wp2_with (go_at_call 72; refine (l00In_any _ _ _ _).mono ?_; rw [hb]; rintro e w' ⟨rfl, rfl⟩)
    go_ret2
    exact ⟨_, [], by rw [HB.out]; rfl, OF_nil _ _, by rw [HB.out]; rfl, Below.refl _ _⟩
  · have hn : 1 ≤ n ∧ n ≤ 32 := by simpa using hb
    obtain ⟨m, rfl⟩ : ∃ m : Nat, n = m := ⟨n.toNat, by omega⟩
    obtain ⟨hn1, hn2⟩ := hn
    have HB : Hid (evB (m : Int) = isRowB (evL m)) := by unfold Hid; rw [HB0.out, hb]; rfl
    have HL : Hid (evL (m : Int) = RL (fun _ => fbin .quo .f32 1065353216 (floatOfInt .f32 m)) m) := rfl
    obtain ⟨base, hbase⟩ : ∃ base, w.heap.size = base := ⟨_, rfl⟩
    have hbb := hid hb
    clear hb
    go_enter Try.func32, Try.ntmps32
    go_wp2_with (go_at_call 72; refine (l00In_any _ _ _ _).mono ?_; rw [hbb.out]; rintro e w' ⟨rfl, rfl⟩)
    go_loopw [4, 5] (fun o i wr => ∃ (k : Nat) (rs : List Nat), k ≤ m ∧ i = .int .i64 k ∧ Hid (OF wr base o rs) ∧ Hid (us rs = RL (fun _ => fbin .quo .f32 1065353216 (floatOfInt .f32 m)) k) ∧ Hid (Below base w wr)) (fun _ i _ => m - (intOf i).toNat)
    case atStart => exact ⟨0, [], Nat.zero_le _, rfl, by unfold Hid; exact OF_made' hbase, rfl, by unfold Hid; exact (Below.refl base w).alloc (Nat.le_of_eq hbase.symm) _⟩
    case round =>
      obtain ⟨k, rs, hk, rfl, HO1, HU1, HB1⟩ := hrel
      by_cases hlt : k < m
      · have hI : (k : Int) < (m : Int) := by omega
        have hrl : rs.length ≤ 32 := by have := us_len_of HU1.out; rw [RL_len] at this; omega
        have HSU := hid (fun r (hr : Fl .f32 r (fbin .quo .f32 1065353216 (floatOfInt .f32 m))) => RL_succ (g := fun _ => fbin .quo .f32 1065353216 (floatOfInt .f32 m)) HU1.out hr)
        have hws : base ≤ wr.heap.size := by have := HB1.out.size; omega
        go_wp2_with (first | (at_builtin; refine Stop.out ?_) | (refine wpList_fofint rfl _ _ _ rfl _ _ rfl (Option.isSome_iff_exists.2 ⟨_, (by with_reducible exact Try.underlying2)⟩) (by with_reducible exact Try.underlying58) ?_; intro _) | (refine wpList_fofint rfl _ _ _ rfl _ _ rfl (Option.isSome_iff_exists.2 ⟨_, (by with_reducible exact Try.underlying2)⟩) (by with_reducible exact Try.underlying32) ?_; intro _) | (refine wpList_fofint rfl _ _ _ rfl _ _ rfl (Option.isSome_iff_exists.2 ⟨_, (by with_reducible exact Try.underlying3)⟩) (by with_reducible exact Try.underlying58) ?_; intro _) | (refine wpList_fofint rfl _ _ _ rfl _ _ rfl (Option.isSome_iff_exists.2 ⟨_, (by with_reducible exact Try.underlying3)⟩) (by with_reducible exact Try.underlying32) ?_; intro _) | (refine wpList_farith rfl _ _ _ _ _ rfl _ _ _ rfl rfl (by decide) (by assumption) (by assumption) ?_; intro _ _ _))
        refine ⟨?_⟩
        refine wpList_append_own _ rfl _ _ 22 rfl base 32 i0 (.float .f32 0) 1 4 Try.underlying22 hi hz0 hz1 hz2x rfl (by decide) _ _ _ rfl ((HO1.out.drewN _).1.alloc _) ⟨_, 0, none⟩ 1 1 [.float .f32 _] rfl rfl (cell_one_new _ _ _) ?c2 ?c3 ?c4 ?c5 ?_
        case c2 => intro u hu; simp at hu; subst hu; rfl
        case c3 => skip; unfold maxLen; omega
        case c4 => skip; omega
        case c5 => have := HB1.out.size; simp; omega
        intro v' w1 hown' hgrow _
        have HX := hid (HSU.out _ (by assumption))
        have HR := hid (OF_app (HO1.out) (Fl.lt (by assumption)) hown')
        have HG := hid (below_app (w2 := (wr.drewN _).alloc _) ((below_drewN HB1.out _).alloc hws _) ⟨(HO1.out.drewN _).1.alloc _, HO1.out.2⟩ (by simp; omega) hgrow)
        clear hown' hgrow HSU
        go_wp2
        go_roundw
        case rel => exact ⟨k + 1, _, by omega, by go_num, HR, HX, HG⟩
        case measure => simp [intOf]; omega
      · have HK := hid (show k = m by omega)
        have HUU : Hid (us rs = evL m) := by have h := HU1.out; rw [HK.out, ← HL.out] at h; exact h
        have hlen : rs.length ≤ 1048576 := by have := us_len_of HU1.out; rw [RL_len] at this; omega
        have HRR := hid (l02Give_any base _ rs w wr HO1.out hlen HB1.out)
        rw [HUU.out] at HRR
        go_wp2_with (fail)
        refine HRR.out.mono ?_
        rintro e w2 ⟨v2, rs2, rfl, hO2, hU2, hB2⟩
        go_wp2_with (fail)
        go_ret2
        exact ⟨v2, rs2, by rw [HB.out]; rfl, by first | exact hO2 | (rw [hbase]; exact hO2), by rw [HB.out]; exact hU2, by first | exact hB2 | (rw [hbase]; exact hB2)⟩

end Go.Proofs.Ytkmodgkkldcpkaa
