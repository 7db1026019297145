/- The law SchemaFits. -/
import Derived.Test.YtghdhhmlmdohkaaDoorLaw
import Derived.Test.YtghdhhmlmdohkaaDoorFb
namespace Go.Proofs.YtghdhhmlmdohkaaDoor
open Go Go.Den
set_option maxRecDepth 100000

theorem fz_yes {n : Int} (h : n = 0) : ((!(n == 0)) == false) = true := by rw [eq_beq h]; rfl
theorem fz_no {n : Int} (h : n ≠ 0) : ((!(n == 0)) == false) = false := by rw [ne_beq h]; rfl
theorem fz_zero {n : Int} (h : n = 0) : (!(n == 0)) = false := by rw [eq_beq h]; rfl
theorem fz_not {n : Int} (h : n ≠ 0) : (!(n == 0)) = true := by rw [ne_beq h]; rfl

theorem SFits_run {t v : E} (ht : Ty t) (hv : Val v) : RR none 7 [slotsOf t, slotsOf v] [] = some (.ret (yes true), []) := by
  obtain ⟨u, hu⟩ := light_run ht
  obtain ⟨w, hw⟩ := small_run hv
  have ct := RCheck_run ht
  have cv := CheckValue_run hv
  have f1 : CheckS t = 0 → CheckValueS v = 0 → _ := fun h k => Fits_run 6 6 t v (by omega) (CheckS_ful h ht) (CheckValueS_ful k hv) ht hv
  have f2 : CheckS t = 0 → CheckValueS v = 0 → _ := fun h k => RFits_run (CheckS_ful h ht) (CheckValueS_ful k hv) ht hv
  cases ht with
  | mk k mn mx os fs gs =>
  cases hv with
  | mk k' n' x ns vs =>
  refine run_of_body ((eq_SFits RR LL k mn mx os fs gs k' n' x ns vs).trans (callB hu ?_))
  cases u with
  | false => exact cond_not rfl rfl
  | true =>
  refine cond_run rfl (callB hw ?_)
  cases w with
  | false => exact cond_not rfl rfl
  | true =>
  refine cond_run rfl (callE ct ?_)
  by_cases za : CheckS (E.agg [E.int IntKind.i64 k, E.int IntKind.i64 mn, E.int IntKind.i64 mx, E.sl 9 os, E.sl 26 fs, E.sl 64 gs]) = 0
  · refine cond_run (fz_yes za) (callE cv ?_)
    by_cases zb : CheckValueS (E.agg [E.int IntKind.i64 k', E.int IntKind.i64 n', E.str x, E.sl 9 ns, E.sl 38 vs]) = 0
    · refine cond_not (fz_zero zb) (callP (f1 za zb) (callP (f2 za zb) ?_))
      generalize fitsS 6 _ _ = p
      cases p with
      | none => rfl
      | some p =>
        have e : strEq p p = true := by simp [strEq]
        show some (Res.ret (yes (bif strEq p p then (false == false) else false)), ([] : Heap)) = _
        rw [e]; rfl
    · exact cond_run (fz_not zb) rfl
  · exact cond_not (fz_no za) rfl

theorem fits_law : LawRuns Tryd.prog HH 7 [26, 38] := by
  refine lawRuns_of fun ess he => ?_
  obtain ⟨e0, _, rfl, h0, he⟩ := he.cons_inv
  obtain ⟨e1, _, rfl, h1, he⟩ := he.cons_inv
  cases he.nil_inv
  obtain ⟨t0, a0⟩ := ty_param h0
  obtain ⟨t1, a1⟩ := val_param h1
  simp only [List.zipWith_cons_cons, List.zipWith_nil_left, a0, a1]
  exact SFits_run t0 t1

end Go.Proofs.YtghdhhmlmdohkaaDoor
