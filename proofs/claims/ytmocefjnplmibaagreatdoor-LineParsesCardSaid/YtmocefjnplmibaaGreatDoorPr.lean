/- The contracts of the functions with known results; a text as an argument. -/
import Derived.Test.YtmocefjnplmibaaGreatDoorAwa
import Derived.Test.YtmocefjnplmibaaGreatDoorBase
namespace Go.Proofs.YtmocefjnplmibaaGreatDoor
open Go Go.Den
set_option maxRecDepth 100000

theorem mixed : Go.Proofs.Tryz.prog.follows .mixedOrders = true := Awa.mixed
theorem named : Named Go.Proofs.Tryz.prog := Awa.named
theorem index1_121 : PrimFor Go.Proofs.Tryz.prog 121 index1G := prim_index1 ⟨_, Go.Proofs.Tryz.func121, by kernel_rfl, by kernel_rfl⟩ fun s c w => Go.Proofs.Tryz.strings_Index_one s c w
theorem index1_139 : PrimFor Go.Proofs.Tryz.prog 139 index1G := prim_index1 ⟨_, Go.Proofs.Tryz.func139, by kernel_rfl, by kernel_rfl⟩ fun s c w => Go.Proofs.Tryz.stringslite_Index_one s c w
theorem primsL0 : PrimOk Go.Proofs.Tryz.prog HL0 := by
  intro md f g args σ r σ' h hq
  change primL0 md f = some g at h
  unfold primL0 at h
  split at h
  · cases h
  · split at h
    · injection h with h; subst h; exact Awa.awake_prim args σ r σ' hq
    · injection h with h; subst h; exact Go.Proofs.Tryz.index_prim args σ r σ' hq
    · injection h with h; subst h; exact index1_121 args σ r σ' hq
    · injection h with h; subst h; exact Go.Proofs.Tryz.split_prim args σ r σ' hq
    · injection h with h; subst h; exact (prim_atoiX Go.Proofs.Tryz.atoi_prim) args σ r σ' hq
    · injection h with h; subst h; exact Go.Proofs.Tryz.itoa_prim args σ r σ' hq
    · injection h with h; subst h; exact Go.Proofs.Tryz.join_prim args σ r σ' hq
    · injection h with h; subst h; exact index1_139 args σ r σ' hq
    · cases h
theorem primsL1 : PrimOk Go.Proofs.Tryz.prog HL1 := by
  intro md f g args σ r σ' h hq
  change primL1 md f = some g at h
  unfold primL1 at h
  split at h
  · cases h
  · split at h
    · injection h with h; subst h; exact Awa.awake_prim args σ r σ' hq
    · injection h with h; subst h; exact Go.Proofs.Tryz.index_prim args σ r σ' hq
    · injection h with h; subst h; exact index1_121 args σ r σ' hq
    · injection h with h; subst h; exact Go.Proofs.Tryz.split_prim args σ r σ' hq
    · injection h with h; subst h; exact (prim_atoiX Go.Proofs.Tryz.atoi_prim) args σ r σ' hq
    · injection h with h; subst h; exact Go.Proofs.Tryz.itoa_prim args σ r σ' hq
    · injection h with h; subst h; exact Go.Proofs.Tryz.join_prim args σ r σ' hq
    · injection h with h; subst h; exact index1_139 args σ r σ' hq
    · injection h with h; subst h; exact (prim_inl mixed named primsL0 143) args σ r σ' hq
    · injection h with h; subst h; exact (prim_inl mixed named primsL0 163) args σ r σ' hq
    · cases h
theorem primsL2 : PrimOk Go.Proofs.Tryz.prog HL2 := by
  intro md f g args σ r σ' h hq
  change primL2 md f = some g at h
  unfold primL2 at h
  split at h
  · cases h
  · split at h
    · injection h with h; subst h; exact Awa.awake_prim args σ r σ' hq
    · injection h with h; subst h; exact Go.Proofs.Tryz.index_prim args σ r σ' hq
    · injection h with h; subst h; exact index1_121 args σ r σ' hq
    · injection h with h; subst h; exact Go.Proofs.Tryz.split_prim args σ r σ' hq
    · injection h with h; subst h; exact (prim_atoiX Go.Proofs.Tryz.atoi_prim) args σ r σ' hq
    · injection h with h; subst h; exact Go.Proofs.Tryz.itoa_prim args σ r σ' hq
    · injection h with h; subst h; exact Go.Proofs.Tryz.join_prim args σ r σ' hq
    · injection h with h; subst h; exact index1_139 args σ r σ' hq
    · injection h with h; subst h; exact (prim_inl mixed named primsL0 143) args σ r σ' hq
    · injection h with h; subst h; exact (prim_inl mixed named primsL0 163) args σ r σ' hq
    · injection h with h; subst h; exact (prim_inl mixed named primsL1 154) args σ r σ' hq
    · cases h
theorem prims : PrimOk Go.Proofs.Tryz.prog HH := by
  intro md f g args σ r σ' h hq
  change primD md f = some g at h
  unfold primD at h
  split at h
  · cases h
  · split at h
    · injection h with h; subst h; exact Awa.awake_prim args σ r σ' hq
    · injection h with h; subst h; exact Go.Proofs.Tryz.index_prim args σ r σ' hq
    · injection h with h; subst h; exact index1_121 args σ r σ' hq
    · injection h with h; subst h; exact Go.Proofs.Tryz.split_prim args σ r σ' hq
    · injection h with h; subst h; exact (prim_atoiX Go.Proofs.Tryz.atoi_prim) args σ r σ' hq
    · injection h with h; subst h; exact Go.Proofs.Tryz.itoa_prim args σ r σ' hq
    · injection h with h; subst h; exact Go.Proofs.Tryz.join_prim args σ r σ' hq
    · injection h with h; subst h; exact index1_139 args σ r σ' hq
    · injection h with h; subst h; exact (prim_inl mixed named primsL0 143) args σ r σ' hq
    · injection h with h; subst h; exact (prim_inl mixed named primsL0 163) args σ r σ' hq
    · injection h with h; subst h; exact (prim_inl mixed named primsL1 154) args σ r σ' hq
    · injection h with h; subst h; exact (prim_inl mixed named primsL2 125) args σ r σ' hq
    · injection h with h; subst h; exact (prim_inl mixed named primsL2 140) args σ r σ' hq
    · injection h with h; subst h; exact (prim_inl mixed named primsL2 59) args σ r σ' hq
    · injection h with h; subst h; exact (prim_inl mixed named primsL2 58) args σ r σ' hq
    · injection h with h; subst h; exact (prim_inl mixed named primsL2 124) args σ r σ' hq
    · injection h with h; subst h; exact (prim_inl mixed named primsL2 100) args σ r σ' hq
    · injection h with h; subst h; exact (prim_inl mixed named primsL2 67) args σ r σ' hq
    · cases h

theorem flatS : flat Tryz.prog depth 9 = some [9] := by kernel_rfl
theorem und9 : Tryz.prog.underlying 9 = some .string := by kernel_rfl
theorem aggS : isAggB Tryz.prog 9 = false := by kernel_rfl
theorem str_param {es : List E} (h : ParamTy Tryz.prog 9 es) : ∃ s, s.length ≤ maxLen ∧ argOf Tryz.prog 9 es = .e (.str s) := by
  have h := h.inv flatS
  obtain ⟨x0, _, rfl, h0, h⟩ := h.cons_inv
  cases h.nil_inv
  obtain ⟨s, rfl, hl⟩ := h0.str_inv und9
  refine ⟨s, hl, ?_⟩
  unfold argOf
  rw [aggS]
  rfl

end Go.Proofs.YtmocefjnplmibaaGreatDoor
