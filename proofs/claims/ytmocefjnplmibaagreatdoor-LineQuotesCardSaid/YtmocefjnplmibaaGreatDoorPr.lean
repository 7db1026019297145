/- The contracts of the functions with known results; a text as an argument. -/
import Derived.Test.YtmocefjnplmibaaGreatDoorAwa
import Derived.Test.YtmocefjnplmibaaGreatDoorBase
namespace Go.Proofs.YtmocefjnplmibaaGreatDoor
open Go Go.Den
set_option maxRecDepth 100000

theorem mixed : Go.Proofs.Tryz.prog.follows .mixedOrders = true := Awa.mixed
theorem named : Named Go.Proofs.Tryz.prog := Awa.named
theorem prims : PrimOk Go.Proofs.Tryz.prog HH := by
  intro md f g args σ r σ' h hq
  change primD md f = some g at h
  unfold primD at h
  split at h
  · cases h
  · split at h
    · injection h with h; subst h; exact Awa.awake_prim args σ r σ' hq
    · injection h with h; subst h; exact Go.Proofs.Tryz.index_prim args σ r σ' hq
    · cases h

theorem flatS : flat Tryz.prog depth 9 = some [9] := by kernel_rfl
theorem und9 : Tryz.prog.underlying 9 = some .string := by kernel_rfl
theorem aggS : isAggB Tryz.prog 9 = false := by kernel_rfl
theorem str_param {es : List E} (h : ParamTy Tryz.prog 9 es) : ∃ s, s.length ≤ maxLen ∧ argOf Tryz.prog 9 es = .e (.str s) := by
  have h := h.inv flatS
  obtain ⟨x0, _, rfl, h0, h⟩ := h.cons_inv
  cases h.nil_inv
  obtain ⟨s, rfl, hl⟩ := h0.str_inv und9
  refine ⟨s, hl, ?_⟩
  unfold argOf
  rw [aggS]
  rfl

end Go.Proofs.YtmocefjnplmibaaGreatDoor
