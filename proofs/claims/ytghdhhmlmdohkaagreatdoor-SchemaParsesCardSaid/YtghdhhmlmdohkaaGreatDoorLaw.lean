/- What the laws of the seat have in common: their arguments. -/
import Derived.Test.YtghdhhmlmdohkaaGreatDoorPr
import Derived.Test.YtghdhhmlmdohkaaGreatDoorCe
import Derived.Test.YtghdhhmlmdohkaaGreatDoorSp1
namespace Go.Proofs.YtghdhhmlmdohkaaGreatDoor
open Go Go.Den
set_option maxRecDepth 100000

/-! ### Arguments that are schemas -/

theorem flatS : flat Tryz.prog depth 9 = some [9] := by kernel_rfl
theorem und9 : Tryz.prog.underlying 9 = some .string := by kernel_rfl
theorem aggS : isAggB Tryz.prog 9 = false := by kernel_rfl

theorem str_param {es : List E} (h : ParamTy Tryz.prog 9 es) : ∃ s, s.length ≤ maxLen ∧ argOf Tryz.prog 9 es = .e (.str s) := by
  have h := h.inv flatS
  obtain ⟨x0, _, rfl, h0, h⟩ := h.cons_inv
  cases h.nil_inv
  obtain ⟨s, rfl, hl⟩ := h0.str_inv und9
  refine ⟨s, hl, ?_⟩
  unfold argOf
  rw [aggS]
  rfl

end Go.Proofs.YtghdhhmlmdohkaaGreatDoor
