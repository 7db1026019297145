/- The law SchemaCompares. -/
import Derived.Test.YtghdhhmlmdohkaaDoorLaw
import Derived.Test.YtghdhhmlmdohkaaDoorIb
import Derived.Test.YtghdhhmlmdohkaaDoorCy
namespace Go.Proofs.YtghdhhmlmdohkaaDoor
open Go Go.Den
set_option maxRecDepth 100000

theorem ok_zero {n : Int} (h : n = 0) : ((!(n == 0)) == false) = true := by rw [eq_beq h]; rfl
theorem ok_not {n : Int} (h : n ≠ 0) : ((!(n == 0)) == false) = false := by rw [ne_beq h]; rfl
theorem no_zero {n : Int} (h : n = 0) : (!(n == 0)) = false := by rw [eq_beq h]; rfl
theorem no_not {n : Int} (h : n ≠ 0) : (!(n == 0)) = true := by rw [ne_beq h]; rfl

theorem SCompares_run {a b : E} (ha : Ty a) (hb : Ty b) : RR none 8 [slotsOf a, slotsOf b] [] = some (.ret (yes true), []) := by
  obtain ⟨u, hu⟩ := light_run ha
  obtain ⟨v, hv⟩ := light_run hb
  have ca := RCheck_run ha
  have cb := RCheck_run hb
  have i1 : CheckS a = 0 → CheckS b = 0 → _ := fun h k => Includes_run 6 a b (CheckS_ful h ha).okT (CheckS_ful k hb).okT ha hb
  have i2 : CheckS a = 0 → CheckS b = 0 → _ := fun h k => RIncludes_run 6 a b (CheckS_ful h ha).okT (CheckS_ful k hb).okT ha hb
  have i3 : CheckS a = 0 → RR none 29 [slotsOf a, slotsOf a] [] = some (.ret (yes true), []) := fun h => by
    have ok := (CheckS_ful h ha).okT
    have := Includes_run 6 a a ok ok ha ha
    rwa [inc_refl 6 a ok] at this
  cases ha with
  | mk k mn mx os fs gs =>
  cases hb with
  | mk k' mn' mx' os' fs' gs' =>
  refine run_of_body ((eq_SCompares RR LL k mn mx os fs gs k' mn' mx' os' fs' gs').trans (callB hu ?_))
  cases u with
  | false => exact cond_not rfl rfl
  | true =>
  refine cond_run rfl (callB hv ?_)
  cases v with
  | false => exact cond_not rfl rfl
  | true =>
  refine cond_run rfl (callE ca ?_)
  by_cases za : CheckS (E.agg [E.int IntKind.i64 k, E.int IntKind.i64 mn, E.int IntKind.i64 mx, E.sl 9 os, E.sl 26 fs, E.sl 64 gs]) = 0
  · refine cond_run (ok_zero za) (callE cb ?_)
    by_cases zb : CheckS (E.agg [E.int IntKind.i64 k', E.int IntKind.i64 mn', E.int IntKind.i64 mx', E.sl 9 os', E.sl 26 fs', E.sl 64 gs']) = 0
    · refine cond_not (no_zero zb) (callB (i1 za zb) (callB (i2 za zb) ?_))
      generalize incS 6 _ _ = w
      exact cond_run (by cases w <;> rfl) (callB (i3 za) rfl)
    · exact cond_run (no_not zb) rfl
  · exact cond_not (ok_not za) rfl

theorem compares_law : LawRuns Tryd.prog HH 8 [26, 26] := by
  refine lawRuns_of fun ess he => ?_
  obtain ⟨e0, _, rfl, h0, he⟩ := he.cons_inv
  obtain ⟨e1, _, rfl, h1, he⟩ := he.cons_inv
  cases he.nil_inv
  obtain ⟨t0, a0⟩ := ty_param h0
  obtain ⟨t1, a1⟩ := ty_param h1
  simp only [List.zipWith_cons_cons, List.zipWith_nil_left, a0, a1]
  exact SCompares_run t0 t1

end Go.Proofs.YtghdhhmlmdohkaaDoor
