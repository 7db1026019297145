/- How many parts a schema has that is light. -/
import Derived.Test.YtghdhhmlmdohkaaGreatDoorVc
import Derived.Test.YtghdhhmlmdohkaaGreatDoorSp2
namespace Go.Proofs.YtghdhhmlmdohkaaGreatDoor
open Go Go.Den
set_option maxRecDepth 100000

theorem ful_parts {d : Nat} {x : E} (h : Ful 9 27 81 (d + 1) x) : (optsE x).length ≤ 16 ∧ (ofE x).length ≤ 1 ∧ (fieldsE x).length ≤ 16 ∧ (∀ y ∈ ofE x, Ful 9 27 81 d y) ∧ ∀ g ∈ fieldsE x, Ful 9 27 81 d (fieldTy g) := by
  rcases h with ⟨mn, mx, rfl, h1, h2, h3⟩ | ⟨mn, mx, rfl, h1, h2, h3⟩ | rfl | ⟨os, rfl, h1, h2, h3, h4⟩ | ⟨mn, mx, y, rfl, h1, h2, h3, h4⟩ | ⟨gs, rfl, h1, h2, h3⟩ | rfl
  · exact ⟨by show 0 ≤ 16; omega, by show 0 ≤ 1; omega, by show 0 ≤ 16; omega, fun y hy => (by cases hy), fun y hy => (by cases hy)⟩
  · exact ⟨by show 0 ≤ 16; omega, by show 0 ≤ 1; omega, by show 0 ≤ 16; omega, fun y hy => (by cases hy), fun y hy => (by cases hy)⟩
  · exact ⟨by show 0 ≤ 16; omega, by show 0 ≤ 1; omega, by show 0 ≤ 16; omega, fun y hy => (by cases hy), fun y hy => (by cases hy)⟩
  · exact ⟨h2, by show 0 ≤ 1; omega, by show 0 ≤ 16; omega, fun y hy => (by cases hy), fun y hy => (by cases hy)⟩
  · refine ⟨by show 0 ≤ 16; omega, by show 1 ≤ 1; omega, by show 0 ≤ 16; omega, fun z hz => ?_, fun y hy => (by cases hy)⟩
    have hz : z ∈ [y] := hz
    simp at hz
    subst hz; exact h4
  · refine ⟨by show 0 ≤ 16; omega, by show 0 ≤ 1; omega, h1, fun y hy => (by cases hy), fun g hg => ?_⟩
    obtain ⟨n, o, y, rfl, _, _, hy⟩ := h3 g hg
    rw [hy.fieldTy]; exact hy
  · exact ⟨by show 0 ≤ 16; omega, by show 0 ≤ 1; omega, by show 0 ≤ 16; omega, fun y hy => (by cases hy), fun y hy => (by cases hy)⟩

end Go.Proofs.YtghdhhmlmdohkaaGreatDoor
