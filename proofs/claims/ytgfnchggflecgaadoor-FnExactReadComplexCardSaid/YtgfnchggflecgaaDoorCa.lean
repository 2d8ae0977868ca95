/-
  ROWS OF COMPLEX NUMBERS: equal, marked, held. Own work; no condition beyond what each theorem names.
-/
import Derived.Test.YtgfnchggflecgaaDoorOa
import Derived.Laws.Cover3
import Derived.Laws.ComplexArith
namespace Go.Proofs.YtgfnchggflecgaaDoor
open Go.RowKit
set_option linter.unusedVariables false

theorem run_store_complex (P : Program) (w : World) (a : Addr) (m : Mode) (k : FloatKind) (b c : Nat) : (store a (.complex k b c) m).run P w = stored P w a (.complex k b c) m := run_store P w a _ m rfl
attribute [local go_sem] run_store_complex opS fineS givesS
/-- A complex number's cell. -/
def cvl (p : Nat × Nat) : Value := .complex .f32 p.1 p.2
/-- v owns these complex numbers, in blocks from 'base' on. -/
def OC (w : World) (base : Nat) (v : Value) (rs : List (Nat × Nat)) : Prop := w.ownsRow base 50 1 v rs.length (rs.map cvl) ∧ ∀ z ∈ rs, z.1 < 4294967296 ∧ z.2 < 4294967296
theorem OC.kept {w w' : World} {base : Nat} {v : Value} {rs : List (Nat × Nat)} {row : Option Nat} (h : OC w base v rs) (hg : w.grownBy w' row) (hne : v.ownBlock = none ∨ v.ownBlock ≠ row) : OC w' base v rs := ⟨h.1.kept hg hne, h.2⟩
theorem OC.below {w w' : World} {base : Nat} {v : Value} {rs : List (Nat × Nat)} (h : OC w base v rs) (hb : Below w.heap.size w w') : OC w' base v rs := by
  refine h.kept (grown_below hb none) ?_
  cases hv : v.ownBlock
  · exact Or.inl rfl
  · exact Or.inr (by simp)
theorem OC.drewN {w : World} {base : Nat} {v : Value} {rs : List (Nat × Nat)} (h : OC w base v rs) (n : Nat) : OC (w.drewN n) base v rs := h
theorem OC.sl {w : World} {base n cap : Nat} {p : Option Addr} {rs : List (Nat × Nat)} (h : OC w base (.slice p n cap) rs) : SL cvl (0, 0) w p rs ∧ n = rs.length := by
  obtain ⟨p', cap', he, hs⟩ := own_slice h.1 (0, 0)
  cases he
  exact ⟨hs, rfl⟩
theorem OC.form {w : World} {base : Nat} {v : Value} {rs : List (Nat × Nat)} (h : OC w base v rs) : ∃ p cap, v = .slice p rs.length cap := by
  obtain ⟨p', cap', he, hs⟩ := own_slice h.1 (0, 0)
  exact ⟨p', cap', he⟩
theorem OC.allocd {w : World} {base : Nat} {v : Value} {l : List (Nat × Nat)} (h : OC w base v l) (o : Obj) : OC (w.alloc o) base v l := h.below ((Below.refl _ _).alloc (Nat.le_refl _) o)
theorem OC.made (w : World) {base : Nat} (hb : base ≤ w.heap.size) : OC (w.alloc (.cells #[] 50)) base (.slice (some ⟨w.heap.size, 0, none⟩) 0 0) [] :=
  ⟨World.ownsRow_made w #[] 0 hb (by unfold maxLen; omega) (by simp), fun z hz => by cases hz⟩
theorem OC.nul (w : World) (base : Nat) : OC w base (.slice none 0 0) [] := ⟨World.ownsRow_nil w base _ 1, fun z hz => by cases hz⟩
theorem OC.of_app {w : World} {base : Nat} {v : Value} {l : List (Nat × Nat)} {x : Nat × Nat} (h : w.ownsRow base 50 1 v (l.length + 1) (l.map cvl ++ [cvl x])) (hl : ∀ z ∈ l, z.1 < 4294967296 ∧ z.2 < 4294967296) (hx : x.1 < 4294967296 ∧ x.2 < 4294967296) : ∃ g cap, v = .slice (some ⟨g, 0, none⟩) (l.length + 1) cap ∧ OC w base (.slice (some ⟨g, 0, none⟩) (l.length + 1) cap) (l ++ [x]) := by
  rcases h.2 with ⟨_, h0⟩ | ⟨g, cap, cur, rfl, _⟩
  · omega
  · refine ⟨g, cap, rfl, ?_, fun z hz => ?_⟩
    · rw [List.length_append, List.map_append]
      exact h
    · rcases List.mem_append.1 hz with h1 | h1
      · exact hl z h1
      · rw [List.mem_singleton.1 h1]; exact hx

section
variable {P : Program} {w : World} {ops : Array Oper} {G : FuncId → Array Value → Value → Prop} {o : Oper} {a : Act} {K : Act → Prop}
theorem run_ftf2 (w : World) (t : TypeId) (ht : P.underlying t = some (.float .f64)) {x u : Nat} (hx : Fl .f32 x u) : ∃ r n, (Conv.floatToFloat .f32 x .f64).run P w = .ok (.float .f64 r) (w.drewN n) ∧ Fl .f64 r (fwide u) := by
  obtain ⟨r, n, h1, h2⟩ := run_fwide (P := P) w t t (by rw [ht]; rfl) ht hx (fun s m e h => wide_ok s m e h)
  refine ⟨r, n, ?_, h2⟩
  have e : (convert t t (.float .f32 x)).run P w = (Conv.floatToFloat .f32 x .f64).run P w := by
    simp [convert, run_underlying ht]
  rw [← e]; exact h1
theorem opS_cwide (hw : Region.wanted o (yielded ops a.tmps) = true) (t : TypeId) (ht : P.underlying t = some (.float .f64)) (ts td : TypeId) (x : Operand) (hop : o.op = .convert ts td x) (ra rb : Nat) (hx : a.eval x = .complex .f32 ra rb)
    (hs : (P.underlying ts).isSome = true) (hd : P.underlying td = some (.complex .f64)) {ua ub : Nat} (fa : Fl .f32 ra ua) (fb : Fl .f32 rb ub)
    (hK : ∀ r s, Fl .f64 r (fwide ua) → Fl .f64 s (fwide ub) → K (a.put o.dst (.complex .f64 r s))) : opS P ops (fun w' => ∃ n, w' = w.drewN n) G o a K := by
  obtain ⟨S, hs⟩ := Option.isSome_iff_exists.1 hs
  refine opS_of_run hw (fun z => ∃ r s, z = .complex .f64 r s ∧ Fl .f64 r (fwide ua) ∧ Fl .f64 s (fwide ub)) (fun n => ?_) ?_
  · obtain ⟨r, m, h1, h2⟩ := run_ftf2 (P := P) (w.drewN n) t ht fa
    obtain ⟨s, m2, h3, h4⟩ := run_ftf2 (P := P) (w.drewN (n + m)) t ht fb
    rw [World.drewN_drewN] at h1 h3
    refine ⟨.complex .f64 r s, n + m + m2, ?_, r, s, rfl, h2, h4⟩
    have e : execOp a.eval o = (do pure (.value (← convert ts td (a.eval x)))) := by unfold execOp; rw [hop]
    rw [e, hx]
    cases S <;> simp [convert, run_underlying hs, run_underlying hd, Conv.complexToComplex, h1, h3]
  · rintro z ⟨r, s, rfl, h2, h4⟩
    exact hK r s h2 h4
end
theorem sameComplex_true (a b c d u v : Nat) (h1 : Fl .f64 a u) (h2 : Fl .f64 c u) (h3 : Fl .f64 b v) (h4 : Fl .f64 d v) (w : World) :
    Calls Tryd.prog 33 #[.complex .f64 a b, .complex .f64 c d] w fun e w' => e = .returned (.bool true) ∧ Dr w w' := by
  go_enter Tryd.func33, Tryd.ntmps33
  go_wp2_with (fail)
  refine (sameFloat_true _ _ _ h1 h2 _).mono ?_
  rintro e w' ⟨rfl, n1, rfl⟩
  go_wp2_with (fail)
  refine (sameFloat_true _ _ _ h3 h4 _).mono ?_
  rintro e w' ⟨rfl, n2, rfl⟩
  go_wp2_with (fail)
  go_ret
  exact ⟨rfl, _, rfl⟩
set_option maxHeartbeats 400000 in
theorem eqComplex64S_same (p q : Option Addr) (c1 c2 : Nat) (xs : List (Nat × Nat)) (w : World) (hp : SL cvl (0, 0) w p xs) (hq : SL cvl (0, 0) w q xs) (hx : ∀ z ∈ xs, z.1 < 4294967296 ∧ z.2 < 4294967296)
    (hm : xs.length ≤ 9223372036854775807) :
    Calls Tryd.prog 15 #[.slice p xs.length c1, .slice q xs.length c2] w fun e w' => e = .returned (.bool true) ∧ Dr w w' := by
  have HP := hid hp
  have HQ := hid hq
  have HX := hid hx
  clear hp hq hx
  go_enter Tryd.func15, Tryd.ntmps15
  go_wp2
  go_loopw [5] (fun i wr => ∃ k : Nat, k ≤ xs.length ∧ i = .int .i64 k ∧ ∃ n, wr = w.drewN n) (fun i _ => xs.length - (intOf i).toNat)
  case atStart => exact ⟨0, Nat.zero_le _, rfl, 0, rfl⟩
  case round =>
    obtain ⟨k, hk, rfl, n, rfl⟩ := hrel
    by_cases hlt : k < xs.length
    · obtain ⟨b, off, rfl, hc⟩ := HP.out k hlt
      obtain ⟨b2, off2, rfl, hc2⟩ := HQ.out k hlt
      have hI : (k : Int) < (xs.length : Int) := by omega
      have hb : (xs.getD k (0, 0)).1 < 4294967296 ∧ (xs.getD k (0, 0)).2 < 4294967296 := HX.out _ (by simp [List.getD, hlt])
      generalize xs.getD k (0, 0) = z at *
      obtain ⟨x, y⟩ := z
      have f1 : Fl .f32 x (nf .f32 x) := Fl.self (k := .f32) hb.1
      have f2 : Fl .f32 y (nf .f32 y) := Fl.self (k := .f32) hb.2
      have hc' : w.cell? ⟨b, off + k, none⟩ = some (.complex .f32 x y) := hc
      have hc2' : w.cell? ⟨b2, off2 + k, none⟩ = some (.complex .f32 x y) := hc2
      clear hc hc2 hb
      generalize nf .f32 x = u at *
      generalize nf .f32 y = v at *
      go_wp2
      refine wp_region_mixN (fun _ _ v => v = .bool true) (by kernel_rfl) (by kernel_rfl) ?_
      simp only [List.map_cons, List.map_nil]
      repeat (refine mixS_step (fun K hK => ?_); first | (refine opS_cwide rfl 49 (by with_reducible exact Tryd.underlying49) _ _ _ rfl _ _ rfl (Option.isSome_iff_exists.2 ⟨_, (by with_reducible exact Tryd.underlying50)⟩) (by with_reducible exact Tryd.underlying53) (by assumption) (by assumption) ?_; intro _ _ _ _; refine hK _ ?_; clear hK K) | (go_simp; refine hK _ ?_; clear hK K) | (go_simp; refine ⟨fun m => ?_, hK _ ?_⟩; (refine (sameComplex_true _ _ _ _ _ _ (by assumption) (by assumption) (by assumption) (by assumption) _).mono ?_; rintro e w' ⟨rfl, m2, rfl⟩; exact ⟨_, rfl, rfl, _, World.drewN_drewN ..⟩); clear hK K))
      refine mixS_nil ?_
      rintro w' ⟨m, rfl⟩
      go_wp2
      go_roundw
      case rel => exact ⟨k + 1, by omega, by go_num, _, rfl⟩
      case measure => simp [intOf]; omega
    · go_wp2
      go_ret
      exact ⟨rfl, _, rfl⟩
/-! ### marks -/
theorem gc_fin : ∀ p : Fin 300, cConvBits .f64 (floatOfInt .f64 (p.val : Int)) 4607182418800017408 .f32 = some (floatOfInt .f32 (p.val : Int), 1065353216) := by decide +kernel
theorem gc_run (z : Int) (h0 : 0 ≤ z) (h1 : z < 300) (W : World) : (convert 53 50 (.complex .f64 (floatOfInt .f64 z) 4607182418800017408)).run Tryd.prog W = .ok (.complex .f32 (floatOfInt .f32 z) 1065353216) W := by
  obtain ⟨n, rfl⟩ : ∃ n : Nat, z = n := ⟨z.toNat, by omega⟩
  exact run_convert_complex W 53 50 .f64 .f32 _ _ _ _ (Option.isSome_iff_exists.2 ⟨_, Tryd.underlying53⟩) Tryd.underlying50 (gc_fin ⟨n, by omega⟩)
def marksC (m : Int) (n : Nat) : List (Nat × Nat) := (List.range n).map fun (j : Nat) => (floatOfInt .f32 (m + (j : Int)), 1065353216)
theorem marksC_len (m : Int) (n : Nat) : (marksC m n).length = n := by simp [marksC]
theorem marksC_lt (m : Int) (n : Nat) : ∀ z ∈ marksC m n, z.1 < 4294967296 ∧ z.2 < 4294967296 := by
  intro z hz
  unfold marksC at hz
  obtain ⟨j, _, rfl⟩ := List.mem_map.1 hz
  exact ⟨(fl_ofInt .f32 _).lt, by show (1065353216 : Nat) < 4294967296; omega⟩
set_option maxHeartbeats 400000 in
theorem markComplex64S_any (base : Nat) (v : Value) (rs : List (Nat × Nat)) (m : Int) (w : World) (h : OC w base v rs) (h0 : 0 ≤ m) (h1 : m + rs.length < 300) :
    Calls Tryd.prog 16 #[v, .int .i64 m] w fun e w' => e = .returned (.int .i64 (m + rs.length)) ∧ OC w' base v (marksC m rs.length) ∧ w.grownBy w' v.ownBlock := by
  rcases h.1.2 with ⟨rfl, hn⟩ | ⟨g, cap, cur, rfl, _⟩
  · have hrs : rs = [] := List.length_eq_zero_iff.1 hn
    subst hrs
    have HH := hid h
    clear h hn
    go_enter Tryd.func16, Tryd.ntmps16
    go_wp2
    go_loopw [1, 5] (fun mm i wr => i = .int .i64 0 ∧ mm = .int .i64 m ∧ wr = w) (fun _ _ _ => 0)
    case atStart => exact ⟨rfl, rfl, rfl⟩
    case round =>
      obtain ⟨rfl, rfl, rfl⟩ := hrel
      go_wp2
      go_ret
      exact ⟨by simp, HH.out, grown_below (Below.refl _ _) _⟩
  · have HO := hid h.1
    have HZ := hid h.2
    clear h
    go_enter Tryd.func16, Tryd.ntmps16
    go_wp2
    go_loopw [1, 5] (fun mm i wr => ∃ k : Nat, k ≤ rs.length ∧ i = .int .i64 k ∧ mm = .int .i64 (m + k) ∧ Hid (wr.ownsRow base 50 1 (.slice (some ⟨g, 0, none⟩) rs.length cap) rs.length (((List.range k).map (fun (j : Nat) => (floatOfInt .f32 (m + (j : Int)), 1065353216)) ++ rs.drop k).map cvl)) ∧ Hid (w.grownBy wr (some g))) (fun _ i _ => rs.length - (intOf i).toNat)
    case atStart => exact ⟨0, Nat.zero_le _, rfl, by simp, by unfold Hid; simpa using HO.out, grown_below (Below.refl _ _) _⟩
    case round =>
      obtain ⟨k, hk, rfl, rfl, HO1, HG1⟩ := hrel
      by_cases hlt : k < rs.length
      · have hc2 : ∃ v, wr.cell? ⟨g, k, none⟩ = some v := by
          have := HO1.out.cellAt k (by omega)
          rw [this]
          exact ⟨_, List.getElem?_eq_getElem (by simp; omega)⟩
        obtain ⟨v, hc2⟩ := hc2
        have hf2 : wr.frozen? ⟨g, k, none⟩ = false := HO1.out.frozenAt k
        have hI : (k : Int) < (rs.length : Int) := by omega
        have HR := hid (mark_set (fun (j : Nat) => (floatOfInt .f32 (m + (j : Int)), 1065353216)) rs k hlt)
        have HS := hid (HO1.out.stored k (.complex .f32 (floatOfInt .f32 (m + (k : Int))) 1065353216)).1
        have hcv : ∀ W, (convert 53 50 (.complex .f64 (floatOfInt .f64 (m + (k : Int))) 4607182418800017408)).run Tryd.prog W = .ok (.complex .f32 (floatOfInt .f32 (m + (k : Int))) 1065353216) W := gc_run (m + k) (by omega) (by omega)
        go_wp2_with (refine wpList_fofint rfl _ _ _ rfl _ _ rfl (Option.isSome_iff_exists.2 ⟨_, (by with_reducible exact Tryd.underlying3)⟩) (by with_reducible exact Tryd.underlying49) ?_; intro hr)
        go_roundw
        case rel =>
          refine ⟨k + 1, by omega, by go_num, by go_num, ?_, ?_⟩
          · have h := HS.out
            unfold Hid
            rw [← HR.out, List.map_set]
            exact h
          · exact grown_setCell HG1.out rfl _
        case measure => simp [intOf]; omega
      · have HK := hid (show k = rs.length by omega)
        go_wp2
        go_ret
        refine ⟨by rw [HK.out]; rfl, ⟨?_, marksC_lt _ _⟩, HG1.out⟩
        have h := HO1.out
        rw [HK.out, List.drop_length, List.append_nil] at h
        rw [marksC_len]
        exact h
set_option maxHeartbeats 400000 in
theorem heldComplex64S_any (base : Nat) (v : Value) (n : Nat) (m : Int) (w : World) (h : OC w base v (marksC m n)) (h0 : 0 ≤ m) (h1 : m + n < 300) :
    Calls Tryd.prog 17 #[v, .int .i64 m] w fun e w' => e = .returned (.int .i64 (m + n)) ∧ Dr w w' := by
  obtain ⟨p, cap, rfl, hs⟩ := own_slice h.1 (0, 0)
  rw [marksC_len]
  have HS := hid hs
  clear h hs
  go_enter Tryd.func17, Tryd.ntmps17
  go_wp2
  go_loopw [1, 5] (fun mm i wr => ∃ k : Nat, k ≤ n ∧ i = .int .i64 k ∧ mm = .int .i64 (m + k) ∧ ∃ n, wr = w.drewN n) (fun _ i _ => n - (intOf i).toNat)
  case atStart => exact ⟨0, Nat.zero_le _, rfl, by simp, 0, rfl⟩
  case round =>
    obtain ⟨k, hk, rfl, rfl, nn, rfl⟩ := hrel
    by_cases hlt : k < n
    · obtain ⟨b, off, rfl, hc⟩ := HS.out k (by rw [marksC_len]; exact hlt)
      have hI : (k : Int) < (n : Int) := by omega
      have e1 : (marksC m n).getD k (0, 0) = (floatOfInt .f32 (m + (k : Int)), 1065353216) := by simp [marksC, List.getD, hlt]
      rw [e1] at hc
      have hc' : w.cell? ⟨b, off + k, none⟩ = some (.complex .f32 (floatOfInt .f32 (m + (k : Int))) 1065353216) := hc
      have ho1 : FloatKind.f32.format.order (floatOfInt .f32 (m + (k : Int))) (floatOfInt .f32 (m + (k : Int))) = some .eq := cmp_self (isN_ofInt .f32 _)
      have ho2 : FloatKind.f32.format.order 1065353216 1065353216 = some .eq := by decide +kernel
      have hcv : ∀ W, (convert 53 50 (.complex .f64 (floatOfInt .f64 (m + (k : Int))) 4607182418800017408)).run Tryd.prog W = .ok (.complex .f32 (floatOfInt .f32 (m + (k : Int))) 1065353216) W := gc_run (m + k) (by omega) (by omega)
      clear e1 hc
      go_wp2_with (refine wpList_fofint rfl _ _ _ rfl _ _ rfl (Option.isSome_iff_exists.2 ⟨_, (by with_reducible exact Tryd.underlying3)⟩) (by with_reducible exact Tryd.underlying49) ?_; intro hr)
      go_roundw
      case rel => exact ⟨k + 1, by omega, by go_num, by go_num, _, rfl⟩
      case measure => simp [intOf]; omega
    · have HK := hid (show k = n by omega)
      go_wp2
      go_ret
      exact ⟨by rw [HK.out]; rfl, _, rfl⟩
end Go.Proofs.YtgfnchggflecgaaDoor
