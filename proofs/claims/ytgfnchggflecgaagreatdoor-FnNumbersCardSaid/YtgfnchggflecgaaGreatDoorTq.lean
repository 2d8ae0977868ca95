/-
  TEXTS CUT INTO PIECES: the walks. Own work; no condition beyond what each theorem names.
-/
import Derived.Test.YtgfnchggflecgaaGreatDoorTn
import Derived.Test.YtgfnchggflecgaaGreatDoorTj
import Derived.Test.YtgfnchggflecgaaGreatDoorOa
namespace Go.Proofs.YtgfnchggflecgaaGreatDoor
open Go.RowKit
set_option linter.unusedVariables false

/-- The call owns these strings. -/
def PS (w : World) (base : Nat) (v : Value) (xs : List (List UInt8)) : Prop := w.ownsRow base 9 1 v xs.length (xs.map fun x => .string (strOf x))
theorem apart_type {w : World} {base base2 n n2 : Nat} {e e2 : TypeId} {v v2 : Value} {xs ys : List Value} (h : w.ownsRow base e 1 v n xs) (h2 : w.ownsRow base2 e2 1 v2 n2 ys) (he : e ≠ e2) : v.ownBlock = none ∨ v.ownBlock ≠ v2.ownBlock := by
  rcases h.2 with ⟨rfl, _⟩ | ⟨g, cap, cur, rfl, _, h3, _⟩
  · exact Or.inl rfl
  · rcases h2.2 with ⟨rfl, _⟩ | ⟨g2, cap2, cur2, rfl, _, h4, _⟩
    · exact Or.inr (fun e => by cases e)
    · refine Or.inr fun e => ?_
      have e2 : g = g2 := by simpa [Value.ownBlock] using e
      subst e2
      rw [h3] at h4
      simp at h4
      exact he h4.2
theorem PS.sl {w : World} {base n cap : Nat} {p : Option Addr} {xs : List (List UInt8)} (h : PS w base (.slice p n cap) xs) : SL .string ByteArray.empty w p (xs.map strOf) ∧ n = xs.length := by
  have h2 : w.ownsRow base 9 1 (.slice p n cap) (xs.map strOf).length ((xs.map strOf).map .string) := by
    unfold PS at h
    rw [List.length_map, List.map_map]
    exact h
  obtain ⟨p', cap', he, hs⟩ := own_slice h2 ByteArray.empty
  cases he
  exact ⟨hs, List.length_map ..⟩
theorem PS.form {w : World} {base : Nat} {v : Value} {xs : List (List UInt8)} (h : PS w base v xs) : ∃ p cap, v = .slice p xs.length cap := by
  rcases h.2 with ⟨hv, hn⟩ | ⟨g, cap, cur, hv, _⟩
  · exact ⟨none, 0, by rw [hv, hn]⟩
  · exact ⟨_, cap, hv⟩
theorem PS.kept {w w' : World} {base : Nat} {v : Value} {xs : List (List UInt8)} {row : Option Nat} (h : PS w base v xs) (hg : w.grownBy w' row) (hne : v.ownBlock = none ∨ v.ownBlock ≠ row) : PS w' base v xs := World.ownsRow.kept h hg hne
theorem PS.below {w w' : World} {base : Nat} {v : Value} {xs : List (List UInt8)} (h : PS w base v xs) (hb : Below w.heap.size w w') : PS w' base v xs := by
  refine h.kept (grown_below hb none) ?_
  cases hv : v.ownBlock
  · exact Or.inl rfl
  · exact Or.inr (by simp)
theorem PS.alloc {w : World} {base : Nat} {v : Value} {xs : List (List UInt8)} (h : PS w base v xs) (o : Obj) : PS (w.alloc o) base v xs := h.below ((Below.refl _ _).alloc (Nat.le_refl _) o)
theorem PS.mono {w : World} {base base2 : Nat} {v : Value} {xs : List (List UInt8)} (h : PS w base v xs) (hb : base2 ≤ base) : PS w base2 v xs := by
  refine ⟨h.1, ?_⟩
  rcases h.2 with h1 | ⟨g, cap, cur, h1, h2, h3⟩
  · exact Or.inl h1
  · exact Or.inr ⟨g, cap, cur, h1, Nat.le_trans hb h2, h3⟩
theorem PS.nil (w : World) (base : Nat) : PS w base (.slice none 0 0) [] := World.ownsRow_nil w base _ 1
theorem PS.made (w : World) {base : Nat} (hb : base ≤ w.heap.size) : PS (w.alloc (.cells #[] 9)) base (.slice (some ⟨w.heap.size, 0, none⟩) 0 0) [] :=
  World.ownsRow_made w #[] 0 hb (by unfold maxLen; omega) (by simp)
theorem PS.of_app {w : World} {base : Nat} {v : Value} {l : List (List UInt8)} {x : List UInt8} (h : w.ownsRow base 9 1 v (l.length + 1) ((l.map fun x => Value.string (strOf x)) ++ [.string (strOf x)])) : ∃ g cap, v = .slice (some ⟨g, 0, none⟩) (l.length + 1) cap ∧ PS w base (.slice (some ⟨g, 0, none⟩) (l.length + 1) cap) (l ++ [x]) := by
  rcases h.2 with ⟨_, h0⟩ | ⟨g, cap, cur, rfl, _⟩
  · omega
  · refine ⟨g, cap, rfl, ?_⟩
    unfold PS
    rw [List.length_append, List.map_append]
    exact h

/-- The pieces of a text. -/
def pcs (l : List UInt8) : List (List UInt8) := if l = noneL then [] else cutL l
theorem cutL_mem_len : ∀ (l : List UInt8), ∀ x ∈ cutL l, x.length ≤ l.length
  | [], x, hx => by simp [cutL] at hx; subst hx; simp
  | d :: r, x, hx => by
    have ih := cutL_mem_len r
    unfold cutL at hx
    by_cases h : d = 44
    · rw [if_pos h] at hx
      rcases List.mem_cons.1 hx with rfl | hx
      · simp
      · have := ih x hx; simp; omega
    · rw [if_neg h] at hx
      cases hr : cutL r with
      | nil => exact absurd hr (cutL_ne r)
      | cons y ys =>
        rw [hr] at hx ih
        rcases List.mem_cons.1 hx with rfl | hx
        · have := ih y (List.mem_cons_self ..); simp; omega
        · have := ih x (List.mem_cons_of_mem _ hx); simp; omega
theorem pcs_len {l : List UInt8} {m : Nat} (hm : l.length ≤ m) : ∀ x ∈ pcs l, x.length ≤ m := by
  intro x hx
  unfold pcs at hx
  split at hx
  · cases hx
  · exact Nat.le_trans (cutL_mem_len l x hx) hm
theorem cutL_count {l : List UInt8} {m : Nat} (hm : l.length ≤ m) : (cutL l).length ≤ m + 1 := by
  rw [cutL_len]
  have : l.count 44 ≤ l.length := List.count_le_length ..
  omega
theorem pcs_count {l : List UInt8} {m : Nat} (hm : l.length ≤ m) : (pcs l).length ≤ m + 1 := by
  unfold pcs
  split
  · simp
  · exact cutL_count hm
theorem strq_none_t {s : ByteArray} (h : s.data.toList = noneL) : (s.toList == [110, 111, 110, 101]) = true := by
  rw [Lib.toList_data, h]; rfl
theorem strq_none_f {s : ByteArray} (h : s.data.toList ≠ noneL) : (s.toList == [110, 111, 110, 101]) = false := by
  rw [Lib.toList_data]
  exact beq_eq_false_iff_ne.2 h

theorem pieces_any (B : Nat) (s : ByteArray) (hs : s.size ≤ 1048576) (w : World) (hM : ML B w) :
    Calls Tryz.prog 32 #[.string s] w fun e w' => (∃ v, e = .returned v ∧ PS w' w.heap.size v (pcs s.data.toList)) ∧ Below w.heap.size w w' := by
  by_cases hn : s.data.toList = noneL
  · have hq := strq_none_t hn
    have HX : Hid (pcs s.data.toList = []) := by unfold Hid pcs; rw [if_pos hn]
    clear hn hM
    go_enter Tryz.func32, Tryz.ntmps32
    go_wp2_with (fail)
    go_ret
    exact ⟨⟨_, rfl, by rw [HX.out]; exact PS.nil _ _⟩, Below.refl _ _⟩
  · have hq := strq_none_f hn
    have HX : Hid (pcs s.data.toList = cutL s.data.toList) := by unfold Hid pcs; rw [if_neg hn]
    obtain ⟨⟨m, hm⟩, _⟩ := hM
    have HC := hid (Tryz.strings_Split s ⟨#[44]⟩ m w (by omega) hm (by decide))
    have HL := hid (split_len s)
    have HS := hid (split_cut _ s rfl)
    have HN := hid (cutL_count (l := s.data.toList) (m := 1048576) (by rw [← Lib.size_eq]; exact hs))
    generalize Lib.countB s ⟨#[44]⟩ = n at *
    clear hn hm
    go_enter Tryz.func32, Tryz.ntmps32
    go_wp2_with (fail)
    refine HC.out.mono ?_
    rintro e w' ⟨rfl, rfl⟩
    go_wp2_with (fail)
    go_ret
    refine ⟨⟨_, rfl, ?_⟩, (Below.refl _ _).alloc (Nat.le_refl _) _⟩
    have hmap : (Lib.splitB ⟨#[44]⟩ 0 n s).map Value.string = (cutL s.data.toList).map fun x => Value.string (strOf x) := by
      rw [← HS.out, List.map_map]
      exact List.map_congr_left fun x _ => by simp [strOf]
    rw [HX.out]
    have hl : n + 1 = (cutL s.data.toList).length := HL.out
    have hnn := HN.out
    rw [hmap]
    refine ⟨by simp, Or.inr ⟨w.heap.size, n + 1, _, by rw [← hl]; rfl, Nat.le_refl _, heap_alloc_new w _, by omega, by unfold maxLen; omega, by simp; omega, ?_⟩⟩
    rw [List.toList_toArray, List.take_of_length_le (by simp)]

/-! ### the reference's cutting -/
/-- What is cut so far: xs done, a piece begun at f, all up to i looked at. -/
def CI (l : List UInt8) (xs : List (List UInt8)) (f i : Nat) : Prop := (i ≤ l.length ∧ f ≤ i ∧ cutL l = xs ++ cutL (l.drop f) ∧ ∀ j, f ≤ j → j < i → l[j]? ≠ some 44) ∨ (i = l.length + 1 ∧ xs = cutL l)
theorem CI.start (l : List UInt8) : CI l [] 0 0 := Or.inl ⟨Nat.zero_le _, Nat.le_refl _, rfl, fun j _ h => absurd h (Nat.not_lt_zero _)⟩
theorem CI.mark {l : List UInt8} {xs : List (List UInt8)} {f i : Nat} (h : CI l xs f i) (hc : l[i]? = some 44) : CI l (xs ++ [(l.drop f).take (i - f)]) (i + 1) (i + 1) ∧ f ≤ i := by
  have hl : i < l.length := by
    rcases Nat.lt_or_ge i l.length with h | h
    · exact h
    · rw [List.getElem?_eq_none h] at hc; cases hc
  rcases h with ⟨h1, h2, h3, h4⟩ | ⟨h1, _⟩
  · refine ⟨Or.inl ⟨by omega, Nat.le_refl _, ?_, fun j hj hj2 => by omega⟩, h2⟩
    rw [h3, List.append_assoc]
    congr 1
    rw [cutL_at (l := l.drop f) (k := i - f) (fun j hj => by rw [List.getElem?_drop]; exact h4 _ (by omega) (by omega)) (by rw [List.getElem?_drop, show f + (i - f) = i by omega]; exact hc), List.drop_drop, show f + (i - f + 1) = i + 1 by omega]
    rfl
  · omega
theorem CI.skip {l : List UInt8} {xs : List (List UInt8)} {f i : Nat} (h : CI l xs f i) (hl : i < l.length) (hc : l[i]? ≠ some 44) : CI l xs f (i + 1) := by
  rcases h with ⟨h1, h2, h3, h4⟩ | ⟨h1, _⟩
  · refine Or.inl ⟨by omega, by omega, h3, fun j hj hj2 => ?_⟩
    by_cases e : j = i
    · subst e; exact hc
    · exact h4 j hj (by omega)
  · omega
theorem CI.fin {l : List UInt8} {xs : List (List UInt8)} {f : Nat} (h : CI l xs f l.length) : CI l (xs ++ [(l.drop f).take (l.length - f)]) (l.length + 1) (l.length + 1) ∧ f ≤ l.length := by
  rcases h with ⟨h1, h2, h3, h4⟩ | ⟨h1, _⟩
  · refine ⟨Or.inr ⟨rfl, ?_⟩, h2⟩
    rw [h3, cutL_none (l := l.drop f), List.take_of_length_le (by simp)]
    intro c hc e
    obtain ⟨j, hj, rfl⟩ := List.getElem_of_mem hc
    have hj2 : f + j < l.length := by rw [List.length_drop] at hj; omega
    apply h4 (f + j) (by omega) hj2
    rw [List.getElem_drop] at e
    rw [List.getElem?_eq_getElem hj2, e]
  · omega
theorem CI.le {l : List UInt8} {xs : List (List UInt8)} {f i : Nat} (h : CI l xs f i) : xs.length ≤ (cutL l).length := by
  rcases h with ⟨_, _, h3, _⟩ | ⟨_, h3⟩
  · rw [h3]; simp
  · rw [h3]; exact Nat.le_refl _
theorem info_strq : (Tryz.prog.info? 9).map (fun i => (i.zero, i.size, i.bytes)) = some (some (.string ByteArray.empty), 1, 16) := by kernel_rfl
theorem strOf_slice (s : ByteArray) (f i : Nat) : strOf ((s.data.toList.drop f).take (i - f)) = s.extract f i := (Lib.extract_eq s f i).symm
theorem byte_at (s : ByteArray) (k : Nat) (h : k < s.size) : s.data.toList[k]? = some s[k] := Lib.data_getElem? s k h
end Go.Proofs.YtgfnchggflecgaaGreatDoor
