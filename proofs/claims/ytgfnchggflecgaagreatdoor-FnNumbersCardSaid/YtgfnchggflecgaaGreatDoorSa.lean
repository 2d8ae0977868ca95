/-
  SLICES: what a slice of one-cell elements reads as; rows that a call makes; the laws' own helpers (to.., eq.., mark.., held..).
  Own work; no condition beyond what each theorem names.
-/
import Derived.Test.YtgfnchggflecgaaGreatDoorWa
import Derived.Deep.Slices
import Derived.ChangeOld
import Derived.OpenShut
namespace Go.Proofs.YtgfnchggflecgaaGreatDoor
open Go.RowKit Go.ChangeShapes Go.WideShapes

/-- The slice at p reads as zs in the world w. -/
def SL {α : Type} (f : α → Value) (d : α) (w : World) (p : Option Addr) (zs : List α) : Prop :=
  ∀ i, i < zs.length → ∃ b off, p = some ⟨b, off, none⟩ ∧ w.cell? ⟨b, off + i, none⟩ = some (f (zs.getD i d))

theorem SL.drewN {α : Type} {f : α → Value} {d : α} {w : World} {p : Option Addr} {zs : List α} (h : SL f d w p zs) (n : Nat) : SL f d (w.drewN n) p zs := h

theorem SL.nil {α : Type} (f : α → Value) (d : α) (w : World) (p : Option Addr) : SL f d w p [] := fun _ hi => absurd hi (Nat.not_lt_zero _)

/-- It reads so where its block is as it was. -/
theorem SL.kept {α : Type} {f : α → Value} {d : α} {w w' : World} {p : Option Addr} {zs : List α} (h : SL f d w p zs) (hb : ∀ a, p = some a → w'.heap[a.block]? = w.heap[a.block]?) : SL f d w' p zs := by
  intro i hi
  obtain ⟨b, off, rfl, hc⟩ := h i hi
  refine ⟨b, off, rfl, ?_⟩
  rw [World.cell?_of_block (w := w) (a := ⟨b, off + i, none⟩) (hb ⟨b, off, none⟩ rfl)]
  exact hc

/-- Its block lies in the world. -/
theorem SL.lt {α : Type} {f : α → Value} {d : α} {w : World} {p : Option Addr} {zs : List α} (h : SL f d w p zs) (hz : zs ≠ []) : ∀ a, p = some a → a.block < w.heap.size := by
  intro a ha
  have hl : 0 < zs.length := List.length_pos_iff.2 hz
  obtain ⟨b, off, hp, hc⟩ := h 0 hl
  rw [ha] at hp
  cases hp
  exact World.block_lt_of_cell? w _ hc

theorem SL.below {α : Type} {f : α → Value} {d : α} {w w' : World} {p : Option Addr} {zs : List α} {B : Nat} (h : SL f d w p zs) (hb : Below B w w') (hB : zs ≠ [] → ∀ a, p = some a → a.block < B) : SL f d w' p zs := by
  by_cases hz : zs = []
  · subst hz; exact SL.nil f d w' p
  · exact h.kept fun a ha => hb.block a.block (hB hz a ha)

/-- .. of a world that has at most grown. -/
theorem SL.below_all {α : Type} {f : α → Value} {d : α} {w w' : World} {p : Option Addr} {zs : List α} (h : SL f d w p zs) (hb : Below w.heap.size w w') : SL f d w' p zs :=
  h.below hb fun hz => h.lt hz

/-- An owned row reads as its cells. -/
theorem SL.own {α : Type} {f : α → Value} {d : α} {w : World} {base e g n cap : Nat} {zs : List α} (h : w.ownsRow base e 1 (.slice (some ⟨g, 0, none⟩) n cap) n (zs.map f)) : SL f d w (some ⟨g, 0, none⟩) zs := by
  intro i hi
  refine ⟨g, 0, rfl, ?_⟩
  have hlen : zs.length = n * 1 := by have := h.1; simpa using this
  rw [Nat.zero_add, h.cellAt i (by omega)]
  simp [List.getD, hi]

theorem set_row {α : Type} (f : α → Value) (zs : List α) (d : α) (z : Value) (k : Nat) (hk : k < zs.length) :
    ((zs.take k).map f ++ List.replicate (zs.length - k) z).set k (f (zs.getD k d)) = (zs.take (k + 1)).map f ++ List.replicate (zs.length - (k + 1)) z := by
  have hl : ((zs.take k).map f).length = k := by simp; omega
  rw [List.set_append_right _ _ (by omega), hl, Nat.sub_self, List.take_succ_eq_append_getElem hk, List.map_append, List.append_assoc]
  congr 1
  obtain ⟨m, hm⟩ : ∃ m, zs.length - k = m + 1 := ⟨zs.length - k - 1, by omega⟩
  rw [hm, show zs.length - (k + 1) = m by omega, List.replicate_succ, List.set_cons_zero]
  simp [List.getD, hk]

theorem madeCells_one (v : Value) (n : Nat) (h : v.cells = #[v] := by rfl) : (madeCells v.cells n).toList = List.replicate n v := by
  simp [madeCells, h, Nat.mod_one, List.map_const']

/-! ### opening an argument -/

section
variable {H : Type} {enc : TypeId × Value → H} {P : Program} {w : World} {base : Nat} {spare : Nat → Bool} {held : Bool}

theorem open_irow {k : IntKind} {t e : TypeId} {a : Option Addr} {len cap : Nat} {d : DataW H} {ps : List MemPlace} (ht : P.underlying t = some (.slice e)) (he : P.underlying e = some (.int k)) (hc : P.cellsOf e = 1)
    (h : DataW.Trod enc P w base spare held t (.slice a len cap) d ps) :
    ∃ zs : List Int, zs.length = len ∧ len ≤ maxLen ∧ SL (.int k) 0 w a zs ∧ ∀ z ∈ zs, (Lit.int k z).wf = true := by
  obtain ⟨fuel, hf⟩ := h
  rcases open_ints ht he hc hf with ⟨hcs, _⟩ | ⟨x, l, c, zs, hcs, _, hl, hm, hz, _, hcell, hwz⟩
  · simp [Value.cells] at hcs
    obtain ⟨rfl, rfl, rfl⟩ := hcs
    exact ⟨[], rfl, Nat.zero_le _, SL.nil _ _ _ _, fun z hz => by cases hz⟩
  · simp [Value.cells] at hcs
    obtain ⟨rfl, rfl, rfl⟩ := hcs
    have hlen : len ≤ zs.length := by rw [hz]; split <;> omega
    refine ⟨zs.take len, by simp; omega, by omega, ?_, fun z hz => hwz z (List.mem_of_mem_take hz)⟩
    intro i hi
    have hi' : i < len := by simp at hi; omega
    have hci := hcell i (by omega)
    obtain ⟨b, off, hx, hcc⟩ := ints_at hcell (by omega)
    subst hx
    refine ⟨b, off, rfl, ?_⟩
    rw [hcc i (by omega)]
    simp [List.getD, hi']

/-- The bits of a float. -/
def fbitsOf : Value → Nat | .float _ b => b | _ => 0

theorem trod_f32 {e fuel : Nat} {v : Value} {x : DataW H × List MemPlace} (he : P.underlying e = some (.float .f32)) (h : DataW.trod enc P w base spare held fuel e [v] = some x) : v = .float .f32 (fbitsOf v) ∧ fbitsOf v < 4294967296 := by
  cases fuel with
  | zero => simp [DataW.trod] at h
  | succ n =>
    simp only [DataW.trod, he] at h
    cases v <;> simp at h
    case float k b =>
      obtain ⟨⟨rfl, hw⟩, _⟩ := h
      refine ⟨rfl, ?_⟩
      simp [Lit.wf] at hw
      exact hw

theorem open_frow {t e : TypeId} {a : Option Addr} {len cap : Nat} {d : DataW H} {ps : List MemPlace} (ht : P.underlying t = some (.slice e)) (he : P.underlying e = some (.float .f32)) (hc : P.cellsOf e = 1)
    (h : DataW.Trod enc P w base spare held t (.slice a len cap) d ps) :
    ∃ zs : List Nat, zs.length = len ∧ len ≤ maxLen ∧ SL (.float .f32) 0 w a zs ∧ ∀ z ∈ zs, z < 4294967296 := by
  obtain ⟨fuel, hf⟩ := h
  rcases Go.Deep.open_slice1 ht hc hf with ⟨hcs, _⟩ | ⟨x, l, c, m, n, V, D, Pl, hcs, _, hl, hm, hmm, _, hx⟩
  · simp [Value.cells] at hcs
    obtain ⟨rfl, rfl, rfl⟩ := hcs
    exact ⟨[], rfl, Nat.zero_le _, SL.nil _ _ _ _, fun z hz => by cases hz⟩
  · simp [Value.cells] at hcs
    obtain ⟨rfl, rfl, rfl⟩ := hcs
    have hlm : len ≤ m := by rw [hmm]; split <;> omega
    refine ⟨(List.range len).map fun i => fbitsOf (V i), by simp, by omega, ?_, ?_⟩
    · intro i hi
      have hi' : i < len := by simpa using hi
      obtain ⟨h1, h2⟩ := hx i (by omega)
      obtain ⟨h3, _⟩ := trod_f32 he h2
      obtain ⟨b, off, spot⟩ := x
      have hspot : spot = none := by
        have := (hx 0 (by omega)).1
        simpa [Addr.add] using World.cell?_spot this
      subst hspot
      refine ⟨b, off, rfl, ?_⟩
      rw [← Go.WideShapes.add_plain, h1]
      simp [List.getD, hi']
      exact h3
    · intro z hz
      simp only [List.mem_map, List.mem_range] at hz
      obtain ⟨i, hi, rfl⟩ := hz
      exact (trod_f32 he (hx i (by omega)).2).2
end

/-! ### a copy that the law makes -/

end Go.Proofs.YtgfnchggflecgaaGreatDoor
