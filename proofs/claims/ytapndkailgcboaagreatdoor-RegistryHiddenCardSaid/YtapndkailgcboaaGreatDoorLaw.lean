/- What the laws of the seat have in common: their arguments. -/
import Derived.Test.YtapndkailgcboaaGreatDoorPr
import Derived.Test.YtapndkailgcboaaGreatDoorCe
import Derived.Test.YtapndkailgcboaaGreatDoorSp1
namespace Go.Proofs.YtapndkailgcboaaGreatDoor
open Go Go.Den
set_option maxRecDepth 100000

/-! ### Arguments that are schemas -/

theorem flatT : flat Tryz.prog depth 31 = some [3, 3, 3, 27, 28, 29] := by kernel_rfl
theorem flatF : flat Tryz.prog depth 65 = some [9, 4, 3, 3, 3, 27, 28, 29] := by kernel_rfl
theorem flatS : flat Tryz.prog depth 9 = some [9] := by kernel_rfl
theorem und3 : Tryz.prog.underlying 3 = some (.int .i64) := by kernel_rfl
theorem und4 : Tryz.prog.underlying 4 = some .bool := by kernel_rfl
theorem und9 : Tryz.prog.underlying 9 = some .string := by kernel_rfl
theorem und27 : Tryz.prog.underlying 27 = some (.slice 9) := by kernel_rfl
theorem und28 : Tryz.prog.underlying 28 = some (.slice 31) := by kernel_rfl
theorem und29 : Tryz.prog.underlying 29 = some (.slice 65) := by kernel_rfl
theorem aggT : isAggB Tryz.prog 31 = true := by kernel_rfl
theorem aggF : isAggB Tryz.prog 65 = true := by kernel_rfl
theorem aggS : isAggB Tryz.prog 9 = false := by kernel_rfl

theorem int64 {n : Int} (h : (Lit.int .i64 n).wf = true) : -9223372036854775808 ≤ n ∧ n ≤ 9223372036854775807 := by
  simpa [Lit.wf, IntKind.min, IntKind.max, IntKind.signed, IntKind.bits] using h

theorem strs_inv {x : E} (h : CellTy Tryz.prog 27 x) : ∃ os, x = .sl 9 os ∧ os.length ≤ maxLen ∧ ∀ y ∈ os, ∃ n, y = .str n ∧ n.length ≤ maxLen := by
  obtain ⟨ys, fs, rfl, hl, hf, h1, h2⟩ := h.sl_inv und27
  rw [flatS] at hf
  injection hf with hf
  subst hf
  refine ⟨ys, rfl, hl, fun y hy => ?_⟩
  obtain ⟨i, hi, rfl⟩ := List.getElem_of_mem hy
  have hy' : ys[i]? = some ys[i] := List.getElem?_eq_getElem hi
  obtain ⟨k1, k2, k3⟩ := h1 i _ hy'
  have hc := k3 aggS
  have := h2 i _ 0 9 ys[i] hy' rfl (by rw [hc]; rfl)
  exact this.str_inv und9

theorem all2_of {α β : Type} {R : α → β → Prop} : ∀ {fs : List α} {ys : List β}, ys.length = fs.length → (∀ (j : Nat) (t : α) (c : β), fs[j]? = some t → ys[j]? = some c → R t c) → All2 R fs ys
  | [], [], _, _ => .nil
  | [], _ :: _, h, _ => by simp at h
  | _ :: _, [], h, _ => by simp at h
  | f :: fs, y :: ys, h, hr => .cons (hr 0 f y rfl rfl) (all2_of (by simpa using h) fun j t c h1 h2 => hr (j + 1) t c (by simpa using h1) (by simpa using h2))

theorem size_get {ys : List E} {i : Nat} {y : E} (h : ys[i]? = some y) : SizeOf.sizeOf y < SizeOf.sizeOf ys := List.sizeOf_lt_of_mem (List.mem_of_getElem? h)
theorem size_sl (t : TypeId) (ys : List E) : SizeOf.sizeOf ys < SizeOf.sizeOf (E.sl t ys) := by rw [E.sl.sizeOf_spec]; omega
theorem size_agg (ys : List E) : SizeOf.sizeOf ys < SizeOf.sizeOf (E.agg ys) := by rw [E.agg.sizeOf_spec]; omega

/-- A schema's data, by its type. -/
theorem ty_of : ∀ (n : Nat) (cs : List E), SizeOf.sizeOf cs < n → All2 (CellTy Tryz.prog) [3, 3, 3, 27, 28, 29] cs → IsTy 9 31 65 (.agg cs)
  | 0, _, h, _ => by omega
  | n + 1, cs, hs, h => by
    obtain ⟨c0, _, rfl, h0, h⟩ := h.cons_inv
    obtain ⟨c1, _, rfl, h1, h⟩ := h.cons_inv
    obtain ⟨c2, _, rfl, h2, h⟩ := h.cons_inv
    obtain ⟨c3, _, rfl, h3, h⟩ := h.cons_inv
    obtain ⟨c4, _, rfl, h4, h⟩ := h.cons_inv
    obtain ⟨c5, _, rfl, h5, h⟩ := h.cons_inv
    cases h.nil_inv
    obtain ⟨k, rfl, hk⟩ := h0.int_inv und3
    obtain ⟨mn, rfl, hmn⟩ := h1.int_inv und3
    obtain ⟨mx, rfl, hmx⟩ := h2.int_inv und3
    obtain ⟨os, rfl, hol, ho⟩ := strs_inv h3
    obtain ⟨fs, ft, rfl, hfl, hf, f1, f2⟩ := h4.sl_inv und28
    obtain ⟨gs, gt, rfl, hgl, hg, g1, g2⟩ := h5.sl_inv und29
    rw [flatT] at hf
    injection hf with hf
    subst hf
    rw [flatF] at hg
    injection hg with hg
    subst hg
    simp only [List.cons.sizeOf_spec, List.nil.sizeOf_spec] at hs
    have s4 := size_sl 31 fs
    have s5 := size_sl 65 gs
    refine .mk k mn mx os fs gs ho hol (fun y hy => ?_) hfl (fun y hy => ?_) (fun y hy => ?_) hgl (int64 hk) (int64 hmn) (int64 hmx)
    · obtain ⟨i, hi, rfl⟩ := List.getElem_of_mem hy
      have hy' : fs[i]? = some fs[i] := List.getElem?_eq_getElem hi
      obtain ⟨k1, k2, _⟩ := f1 i _ hy'
      have e := k2 aggT
      have s1 := size_get hy'
      have s2 := size_agg fs[i].cells
      rw [← e] at s2
      rw [e]
      exact ty_of n _ (by omega) (all2_of k1 fun j t c e1 e2 => f2 i _ j t c hy' e1 e2)
    · obtain ⟨i, hi, rfl⟩ := List.getElem_of_mem hy
      have hy' : gs[i]? = some gs[i] := List.getElem?_eq_getElem hi
      obtain ⟨k1, k2, _⟩ := g1 i _ hy'
      have e := k2 aggF
      have s1 := size_get hy'
      have s2 := size_agg gs[i].cells
      rw [← e] at s2
      have ha := all2_of k1 fun j t c e1 e2 => g2 i _ j t c hy' e1 e2
      rw [e]
      generalize gs[i].cells = cs at ha s2
      obtain ⟨d0, _, rfl, q0, ha⟩ := ha.cons_inv
      obtain ⟨d1, _, rfl, q1, ha⟩ := ha.cons_inv
      simp only [List.cons.sizeOf_spec] at s2
      exact ty_of n _ (by omega) ha
    · obtain ⟨i, hi, rfl⟩ := List.getElem_of_mem hy
      have hy' : gs[i]? = some gs[i] := List.getElem?_eq_getElem hi
      obtain ⟨k1, k2, _⟩ := g1 i _ hy'
      have e := k2 aggF
      have ha := all2_of k1 fun j t c e1 e2 => g2 i _ j t c hy' e1 e2
      rw [e]
      generalize gs[i].cells = cs at ha
      obtain ⟨d0, _, rfl, q0, ha⟩ := ha.cons_inv
      obtain ⟨d1, _, rfl, q1, ha⟩ := ha.cons_inv
      obtain ⟨s, rfl, hl⟩ := q0.str_inv und9
      obtain ⟨b, rfl⟩ := q1.bool_inv und4
      exact ⟨s, b, _, rfl, hl⟩

theorem str_param {es : List E} (h : ParamTy Tryz.prog 9 es) : ∃ s, s.length ≤ maxLen ∧ argOf Tryz.prog 9 es = .e (.str s) := by
  have h := h.inv flatS
  obtain ⟨x0, _, rfl, h0, h⟩ := h.cons_inv
  cases h.nil_inv
  obtain ⟨s, rfl, hl⟩ := h0.str_inv und9
  refine ⟨s, hl, ?_⟩
  unfold argOf
  rw [aggS]
  rfl

end Go.Proofs.YtapndkailgcboaaGreatDoor
