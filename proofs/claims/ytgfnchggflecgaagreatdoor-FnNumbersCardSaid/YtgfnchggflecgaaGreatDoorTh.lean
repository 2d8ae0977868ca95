/-
  TEXTS CUT AT COMMAS, plain, and hexadecimal digits. Own work; no condition beyond what each theorem names.
-/
import Derived.Lib.SplitLaws
import Derived.Lib.IndexBytes
import Derived.Lib.IndexLaws
import Derived.Lib.Join
import Derived.Lib.Repeat
namespace Go.Proofs.YtgfnchggflecgaaGreatDoor
set_option linter.unusedVariables false

/-! ### cut at commas -/
/-- The pieces between commas. -/
def cutL : List UInt8 → List (List UInt8)
  | [] => [[]]
  | c :: r => if c = 44 then [] :: cutL r else match cutL r with | [] => [[c]] | x :: xs => (c :: x) :: xs
theorem cutL_ne : ∀ l, cutL l ≠ []
  | [] => by simp [cutL]
  | c :: r => by
    unfold cutL
    by_cases h : c = 44
    · rw [if_pos h]; simp
    · rw [if_neg h]
      cases hr : cutL r with
      | nil => simp
      | cons x xs => simp
theorem cutL_cons_ne {c : UInt8} {r x : List UInt8} {xs : List (List UInt8)} (h : c ≠ 44) (hr : cutL r = x :: xs) : cutL (c :: r) = (c :: x) :: xs := by
  rw [cutL, if_neg h, hr]
theorem cutL_none : ∀ {l : List UInt8}, (∀ c ∈ l, c ≠ 44) → cutL l = [l]
  | [], _ => rfl
  | c :: r, h => by
    have hr := cutL_none (l := r) fun d hd => h d (List.mem_cons_of_mem _ hd)
    exact cutL_cons_ne (h c (List.mem_cons_self ..)) hr
theorem cutL_app : ∀ {x : List UInt8} {r : List UInt8}, (∀ c ∈ x, c ≠ 44) → cutL (x ++ 44 :: r) = x :: cutL r
  | [], r, _ => by show cutL (44 :: r) = _; rw [cutL, if_pos rfl]
  | c :: x, r, h => by
    have hr := cutL_app (x := x) (r := r) fun d hd => h d (List.mem_cons_of_mem _ hd)
    show cutL (c :: (x ++ 44 :: r)) = _
    exact cutL_cons_ne (h c (List.mem_cons_self ..)) hr
theorem cutL_at {l : List UInt8} {k : Nat} (hk : ∀ j, j < k → l[j]? ≠ some 44) (hc : l[k]? = some 44) : cutL l = l.take k :: cutL (l.drop (k + 1)) := by
  have hl : k < l.length := by
    rcases Nat.lt_or_ge k l.length with h | h
    · exact h
    · rw [List.getElem?_eq_none h] at hc; cases hc
  have e : l = l.take k ++ 44 :: l.drop (k + 1) := by
    have h1 := List.take_append_drop k l
    have h2 : l.drop k = 44 :: l.drop (k + 1) := by
      rw [List.drop_eq_getElem_cons hl]
      rw [List.getElem?_eq_getElem hl] at hc
      rw [Option.some.inj hc]
    rw [h2] at h1
    exact h1.symm
  have h3 : ∀ c ∈ l.take k, c ≠ 44 := by
    intro c hcm
    obtain ⟨j, hj, rfl⟩ := List.getElem_of_mem hcm
    have hj' := hj
    rw [List.length_take] at hj'
    have := hk j (by omega)
    intro h4
    apply this
    rw [List.getElem?_eq_getElem (by omega)]
    rw [List.getElem_take] at h4
    rw [h4]
  have h5 := cutL_app (x := l.take k) (r := l.drop (k + 1)) h3
  rw [← e] at h5
  exact h5
theorem cutL_noComma : ∀ (l : List UInt8), ∀ x ∈ cutL l, ∀ c ∈ x, c ≠ 44
  | [], x, hx, c, hc => by simp [cutL] at hx; subst hx; cases hc
  | d :: r, x, hx, c, hc => by
    have ih := cutL_noComma r
    unfold cutL at hx
    by_cases h : d = 44
    · rw [if_pos h] at hx
      rcases List.mem_cons.1 hx with rfl | hx
      · cases hc
      · exact ih x hx c hc
    · rw [if_neg h] at hx
      cases hr : cutL r with
      | nil => exact absurd hr (cutL_ne r)
      | cons y ys =>
        rw [hr] at hx
        rcases List.mem_cons.1 hx with rfl | hx
        · rcases List.mem_cons.1 hc with rfl | hc
          · exact h
          · exact ih y (by rw [hr]; exact List.mem_cons_self ..) c hc
        · exact ih x (by rw [hr]; exact List.mem_cons_of_mem _ hx) c hc
theorem join_cutL : ∀ (l : List UInt8), Lib.join (cutL l) [44] = l
  | [] => by simp [cutL, Lib.join_one]
  | d :: r => by
    have ih := join_cutL r
    unfold cutL
    cases hr : cutL r with
    | nil => exact absurd hr (cutL_ne r)
    | cons y ys =>
      rw [hr, Lib.join_cons] at ih
      by_cases h : d = 44
      · rw [if_pos h, Lib.join_cons]
        subst h
        show [] ++ Lib.joinTail [44] (y :: ys) = _
        rw [List.nil_append]
        show ([44] ++ y) ++ Lib.joinTail [44] ys = _
        rw [List.append_assoc, ih]
        rfl
      · rw [if_neg h]
        show Lib.join ((d :: y) :: ys) [44] = _
        rw [Lib.join_cons, List.cons_append, ih]
theorem cutL_join : ∀ (xs : List (List UInt8)), xs ≠ [] → (∀ x ∈ xs, ∀ c ∈ x, c ≠ 44) → cutL (Lib.join xs [44]) = xs
  | [], h, _ => absurd rfl h
  | [x], _, h => by rw [Lib.join_one]; exact cutL_none (h x (List.mem_cons_self ..))
  | x :: y :: r, _, h => by
    have ih := cutL_join (y :: r) (by simp) fun z hz => h z (List.mem_cons_of_mem _ hz)
    rw [Lib.join_cons] at ih ⊢
    show cutL (x ++ (([44] ++ y) ++ Lib.joinTail [44] r)) = _
    rw [List.append_assoc]
    show cutL (x ++ 44 :: (y ++ Lib.joinTail [44] r)) = _
    rw [cutL_app (h x (List.mem_cons_self ..)), ih]
theorem cutL_len (l : List UInt8) : (cutL l).length = l.count 44 + 1 := by
  induction l with
  | nil => rfl
  | cons c r ih =>
    unfold cutL
    by_cases h : c = 44
    · rw [if_pos h, List.length_cons, ih, h]; simp
    · rw [if_neg h, List.count_cons_of_ne (by simpa using h)]
      cases hr : cutL r with
      | nil => exact absurd hr (cutL_ne r)
      | cons y ys => rw [hr] at ih; simpa using ih
/-- strings.Split at a comma. -/
theorem split_cut : ∀ (k : Nat) (s : ByteArray), Lib.countB s ⟨#[44]⟩ = k → (Lib.splitB ⟨#[44]⟩ 0 k s).map (fun x => x.data.toList) = cutL s.data.toList := by
  intro k
  induction k with
  | zero =>
    intro s hs
    rw [Lib.splitB_zero]
    show [s.data.toList] = _
    have hn : ∀ c ∈ s.data.toList, c ≠ 44 := by
      have h1 : Lib.count s.data.toList [44] = 0 := hs
      rw [Lib.count_one] at h1
      intro c hc h
      subst h
      exact absurd (List.count_pos_iff.2 hc) (by omega)
    exact (cutL_none hn).symm
  | succ k ih =>
    intro s hs
    rcases Lib.indexB_cases s ⟨#[44]⟩ with hix | ⟨i, hix, hroom⟩
    · rw [Lib.countB_miss s _ hix] at hs; omega
    · rw [Lib.splitB_hit _ 0 k s i hix, List.map_cons, ih _ (by have := Lib.countB_hit s ⟨#[44]⟩ i (by decide) hix; omega)]
      have hix2 : Lib.indexByte s.data.toList 44 = i := by
        have : Lib.index s.data.toList [44] = i := hix
        rwa [Lib.index_one] at this
      obtain ⟨h1, h2⟩ := Lib.indexByte_some hix2
      rw [cutL_at h2 h1, Lib.extract_to_end, Lib.extract_data]
      congr 1
theorem split_len (s : ByteArray) : Lib.countB s ⟨#[44]⟩ + 1 = (cutL s.data.toList).length := by
  rw [← split_cut _ s rfl, List.length_map, Lib.splitB_all _ (by decide) 0 _ s rfl]

/-! ### hexadecimal digits -/
def hdg (d : Nat) : UInt8 := UInt8.ofNat (if d < 10 then 48 + d else 87 + d)
theorem hdg_toNat {d : Nat} (h : d < 16) : (hdg d).toNat = if d < 10 then 48 + d else 87 + d := by
  unfold hdg
  rw [UInt8.toNat_ofNat']
  apply Nat.mod_eq_of_lt
  split <;> omega
/-- The last k hexadecimal digits. -/
def hexN : Nat → Nat → List UInt8
  | 0, _ => []
  | k + 1, u => hexN k (u / 16) ++ [hdg (u % 16)]
theorem hexN_len : ∀ (k u : Nat), (hexN k u).length = k
  | 0, _ => rfl
  | k + 1, u => by rw [hexN, List.length_append, hexN_len k]; rfl
theorem hexN_cons : ∀ (k u : Nat), hexN (k + 1) u = hdg (u / 16 ^ k % 16) :: hexN k u
  | 0, u => by simp [hexN]
  | k + 1, u => by
    rw [hexN, hexN_cons k (u / 16), List.cons_append, Nat.div_div_eq_div_mul, ← Nat.pow_succ']
    rfl
theorem repL_one (c : UInt8) : ∀ j, Lib.repeatL [c] j = List.replicate j c
  | 0 => rfl
  | j + 1 => by rw [Lib.repeatL, repL_one c j]; rfl
theorem hexN_pad (k u : Nat) (h : u < 16 ^ k) : ∀ j, hexN (k + j) u = List.replicate j 48 ++ hexN k u
  | 0 => rfl
  | j + 1 => by
    have h2 : u < 16 ^ (k + j) := Nat.lt_of_lt_of_le h (Nat.pow_le_pow_right (by omega) (by omega))
    rw [show k + (j + 1) = (k + j) + 1 from rfl, hexN_cons, hexN_pad k u h j, Nat.div_eq_of_lt h2]
    rfl
theorem hexN_mem : ∀ (k u : Nat), ∀ c ∈ hexN k u, c ≠ 44
  | 0, _, c, hc => by cases hc
  | k + 1, u, c, hc => by
    rw [hexN] at hc
    rcases List.mem_append.1 hc with h | h
    · exact hexN_mem k _ c h
    · rw [List.mem_singleton.1 h]
      intro e
      have e2 := congrArg UInt8.toNat e
      rw [hdg_toNat (by omega)] at e2
      have : (44 : UInt8).toNat = 44 := rfl
      rw [this] at e2
      split at e2 <;> omega
/-- A digit's value: 0 to 9, a to f. -/
def hval (c : UInt8) : Option Nat := if 48 ≤ c.toNat ∧ c.toNat ≤ 57 then some (c.toNat - 48) else if 97 ≤ c.toNat ∧ c.toNat ≤ 102 then some (c.toNat - 87) else none
theorem hval_hdg {d : Nat} (h : d < 16) : hval (hdg d) = some d := by
  unfold hval
  rw [hdg_toNat h]
  by_cases h1 : d < 10
  · rw [if_pos h1, if_pos (by omega)]; congr 1; omega
  · rw [if_neg h1, if_neg (by omega), if_pos (by omega)]; congr 1; omega
theorem hval_some {c : UInt8} {d : Nat} (h : hval c = some d) : d < 16 ∧ hdg d = c := by
  unfold hval at h
  have hc := c.toNat_lt
  split at h
  · rename_i h1
    cases h
    refine ⟨by omega, ?_⟩
    apply UInt8.toNat_inj.1
    rw [hdg_toNat (by omega), if_pos (by omega)]
    omega
  · split at h
    · rename_i h1 h2
      cases h
      refine ⟨by omega, ?_⟩
      apply UInt8.toNat_inj.1
      rw [hdg_toNat (by omega), if_neg (by omega)]
      omega
    · cases h
/-- What digits read as, behind what is read. -/
def hexV : List UInt8 → Nat → Option Nat
  | [], n => some n
  | c :: r, n => match hval c with | some d => hexV r (16 * n + d) | none => none
theorem hexV_cons_some {c : UInt8} {r : List UInt8} {n d : Nat} (h : hval c = some d) : hexV (c :: r) n = hexV r (16 * n + d) := by rw [hexV, h]
theorem hexV_cons_none {c : UInt8} {r : List UInt8} {n : Nat} (h : hval c = none) : hexV (c :: r) n = none := by rw [hexV, h]
theorem hexV_snoc (c : UInt8) : ∀ (l : List UInt8) (n : Nat), hexV (l ++ [c]) n = (hexV l n).bind fun m => (hval c).map fun d => 16 * m + d
  | [], n => by
    show hexV [c] n = _
    unfold hexV
    cases hval c <;> rfl
  | b :: l, n => by
    show hexV (b :: (l ++ [c])) n = _
    unfold hexV
    cases hval b with
    | none => rfl
    | some d => exact hexV_snoc c l _
theorem hexV_hexN : ∀ (k u n : Nat), u < 16 ^ k → hexV (hexN k u) n = some (16 ^ k * n + u)
  | 0, u, n, h => by
    have : u = 0 := by simpa using h
    subst this
    simp [hexN, hexV]
  | k + 1, u, n, h => by
    rw [hexN, hexV_snoc, hexV_hexN k (u / 16) n (by rw [Nat.pow_succ] at h; omega), hval_hdg (by omega)]
    show some (16 * (16 ^ k * n + u / 16) + u % 16) = _
    rw [Nat.pow_succ, Nat.mul_add, ← Nat.mul_assoc, Nat.mul_comm 16 (16 ^ k)]
    congr 1
    omega
theorem hexV_some : ∀ (k : Nat) (l : List UInt8) (v : Nat), l.length = k → hexV l 0 = some v → v < 16 ^ k ∧ l = hexN k v := by
  intro k
  induction k with
  | zero =>
    intro l v hl h
    have : l = [] := List.length_eq_zero_iff.1 hl
    subst this
    cases h
    exact ⟨by decide, rfl⟩
  | succ k ih =>
    intro l v hl h
    have hne : l ≠ [] := fun e => by rw [e] at hl; cases hl
    have e := List.dropLast_concat_getLast hne
    rw [← e, hexV_snoc] at h
    obtain ⟨m, hm, h2⟩ := Option.bind_eq_some_iff.1 h
    obtain ⟨d, hd, rfl⟩ := Option.map_eq_some_iff.1 h2
    obtain ⟨h3, h4⟩ := ih l.dropLast m (by simp [hl]) hm
    obtain ⟨h5, h6⟩ := hval_some hd
    refine ⟨by rw [Nat.pow_succ]; omega, ?_⟩
    rw [hexN, show (16 * m + d) / 16 = m by omega, show (16 * m + d) % 16 = d by omega, ← h4, h6]
    exact e.symm
/-- What the library's reader reads: letters of both cases. -/
def pval (c : UInt8) : Option Nat := if 48 ≤ c.toNat ∧ c.toNat ≤ 57 then some (c.toNat - 48) else
  if 97 ≤ (c.toNat ||| 32) ∧ (c.toNat ||| 32) ≤ 122 then (if (c.toNat ||| 32) - 87 < 16 then some ((c.toNat ||| 32) - 87) else none) else none
theorem pval_hval : ∀ c : UInt8, ∀ d, hval c = some d → pval c = some d := by
  have h : ∀ n : Fin 256, hval (UInt8.ofNat n.val) = none ∨ pval (UInt8.ofNat n.val) = hval (UInt8.ofNat n.val) := by decide +kernel
  intro c d hd
  have hc := h ⟨c.toNat, c.toNat_lt⟩
  simp only [UInt8.ofNat_toNat] at hc
  rcases hc with hc | hc
  · rw [hc] at hd; cases hd
  · rw [hc]; exact hd
theorem pval_lt {c : UInt8} {d : Nat} (h : pval c = some d) : d < 16 := by
  unfold pval at h
  split at h
  · cases h; omega
  · split at h
    · split at h
      · cases h; omega
      · cases h
    · cases h
def pexV : List UInt8 → Nat → Option Nat
  | [], n => some n
  | c :: r, n => match pval c with | some d => pexV r (16 * n + d) | none => none
theorem pexV_cons_some {c : UInt8} {r : List UInt8} {n d : Nat} (h : pval c = some d) : pexV (c :: r) n = pexV r (16 * n + d) := by rw [pexV, h]
theorem pexV_cons_none {c : UInt8} {r : List UInt8} {n : Nat} (h : pval c = none) : pexV (c :: r) n = none := by rw [pexV, h]
theorem pexV_hexV : ∀ (l : List UInt8) (n v : Nat), hexV l n = some v → pexV l n = some v
  | [], _, _, h => h
  | c :: r, n, v, h => by
    cases hc : hval c with
    | none => rw [hexV_cons_none hc] at h; cases h
    | some d =>
      rw [hexV_cons_some hc] at h
      rw [pexV_cons_some (pval_hval c d hc)]
      exact pexV_hexV r _ v h
theorem pexV_lt : ∀ (l : List UInt8) (n v : Nat), pexV l n = some v → v < 16 ^ l.length * (n + 1)
  | [], n, v, h => by cases h; simp
  | c :: r, n, v, h => by
    cases hc : pval c with
    | none => rw [pexV_cons_none hc] at h; cases h
    | some d =>
      rw [pexV_cons_some hc] at h
      have h1 := pexV_lt r _ v h
      have h2 := pval_lt hc
      rw [List.length_cons, Nat.pow_succ, Nat.mul_assoc]
      exact Nat.lt_of_lt_of_le h1 (Nat.mul_le_mul_left _ (by omega))
/-- The number that the program's reader hands back. -/
def pnum (l : List UInt8) : Nat := (pexV l 0).getD 0
theorem pnum_lt {l : List UInt8} (h : l.length = 8) : pnum l < 4294967296 := by
  unfold pnum
  cases hp : pexV l 0 with
  | none => decide
  | some v =>
    have := pexV_lt l 0 v hp
    rw [h] at this
    show v < _
    omega
theorem pnum_hex {u : Nat} (h : u < 4294967296) : pnum (hexN 8 u) = u := by
  unfold pnum
  rw [pexV_hexV _ _ _ (hexV_hexN 8 u 0 (by omega))]
  show 16 ^ 8 * 0 + u = u
  omega
end Go.Proofs.YtgfnchggflecgaaGreatDoor
