/-
  LISTS THAT ARE READ OFF A TEXT, plain. Own work; no condition beyond what each theorem names.
-/
import Derived.Test.YtgfnchggflecgaaGreatDoorTh
namespace Go.Proofs.YtgfnchggflecgaaGreatDoor
set_option linter.unusedVariables false

/-- Every piece read, or none. -/
def allR {α β : Type} (f : α → Option β) (xs : List α) : Option (List β) := if xs.all (fun x => (f x).isSome) then some (xs.filterMap f) else none
theorem allR_bad {α β : Type} {f : α → Option β} {xs : List α} {k : Nat} {x : α} (h : xs[k]? = some x) (hf : f x = none) : allR f xs = none := by
  unfold allR
  rw [if_neg]
  intro ha
  have := List.all_eq_true.1 ha x (List.mem_of_getElem? h)
  rw [hf] at this
  cases this
/-- What is read of the first k pieces. -/
def reads {α β : Type} (f : α → Option β) (xs : List α) (k : Nat) (zs : List β) : Prop := (∀ j, j < k → ∃ x v, xs[j]? = some x ∧ f x = some v ∧ zs[j]? = some v) ∧ zs.length = k ∧ zs = (xs.take k).filterMap f
theorem reads_zero {α β : Type} (f : α → Option β) (xs : List α) : reads f xs 0 [] := ⟨fun j h => absurd h (Nat.not_lt_zero _), rfl, rfl⟩
theorem reads_succ {α β : Type} {f : α → Option β} {xs : List α} {k : Nat} {zs : List β} {x : α} {v : β} (h : reads f xs k zs) (hx : xs[k]? = some x) (hf : f x = some v) : reads f xs (k + 1) (zs ++ [v]) := by
  obtain ⟨h1, h2, h3⟩ := h
  refine ⟨fun j hj => ?_, by simp [h2], ?_⟩
  · by_cases hjk : j = k
    · subst hjk
      exact ⟨x, v, hx, hf, by rw [← h2]; simp⟩
    · obtain ⟨y, u, e1, e2, e3⟩ := h1 j (by omega)
      exact ⟨y, u, e1, e2, by rw [List.getElem?_append_left (by omega)]; exact e3⟩
  · rw [List.take_add_one, hx, List.filterMap_append, ← h3]
    simp [hf]
theorem reads_all {α β : Type} {f : α → Option β} {xs : List α} {zs : List β} (h : reads f xs xs.length zs) : allR f xs = some zs := by
  obtain ⟨h1, h2, h3⟩ := h
  rw [List.take_length] at h3
  unfold allR
  rw [if_pos, ← h3]
  rw [List.all_eq_true]
  intro x hx
  obtain ⟨j, hj, rfl⟩ := List.getElem_of_mem hx
  obtain ⟨y, u, e1, e2, _⟩ := h1 j hj
  rw [List.getElem?_eq_getElem hj] at e1
  cases e1
  rw [e2]
  rfl
theorem allR_len {α β : Type} {f : α → Option β} {xs : List α} {zs : List β} (h : allR f xs = some zs) : zs.length = xs.length ∧ reads f xs xs.length zs := by
  unfold allR at h
  split at h
  · rename_i ha
    cases h
    have hs : ∀ x ∈ xs, ∃ v, f x = some v := fun x hx => Option.isSome_iff_exists.1 (List.all_eq_true.1 ha x hx)
    have key : ∀ ys : List α, (∀ x ∈ ys, ∃ v, f x = some v) → (ys.filterMap f).length = ys.length ∧ ∀ j, j < ys.length → ∃ x v, ys[j]? = some x ∧ f x = some v ∧ (ys.filterMap f)[j]? = some v := by
      intro ys
      induction ys with
      | nil => intro _; exact ⟨rfl, fun j h => absurd h (Nat.not_lt_zero _)⟩
      | cons y r ih =>
        intro hy
        obtain ⟨v, hv⟩ := hy y (List.mem_cons_self ..)
        obtain ⟨i1, i2⟩ := ih fun x hx => hy x (List.mem_cons_of_mem _ hx)
        rw [List.filterMap_cons_some hv]
        refine ⟨by simp [i1], fun j hj => ?_⟩
        cases j with
        | zero => exact ⟨y, v, rfl, hv, rfl⟩
        | succ j =>
          obtain ⟨x, u, e1, e2, e3⟩ := i2 j (by simpa using hj)
          exact ⟨x, u, by simpa using e1, e2, by simpa using e3⟩
    obtain ⟨k1, k2⟩ := key xs hs
    exact ⟨k1, k2, k1, by rw [List.take_length]⟩
  · cases h
end Go.Proofs.YtgfnchggflecgaaGreatDoor
