/- The law SchemaIncludes. -/
import Derived.Test.YtghdhhmlmdohkaaDoorLaw
import Derived.Test.YtghdhhmlmdohkaaDoorKd
import Derived.Test.YtghdhhmlmdohkaaDoorCy
namespace Go.Proofs.YtghdhhmlmdohkaaDoor
open Go Go.Den
set_option maxRecDepth 100000

theorem iz_yes {n : Int} (h : n = 0) : ((!(n == 0)) == false) = true := by rw [eq_beq h]; rfl
theorem iz_no {n : Int} (h : n ≠ 0) : ((!(n == 0)) == false) = false := by rw [ne_beq h]; rfl

theorem acc_mono {a b : E} {s : List UInt8} (ha : Ful 9 26 64 6 a) (hb : Ful 9 26 64 6 b) (hi : incS 6 a b = true) (h : accS b s = true) : accS a s = true := by
  unfold accS at h ⊢
  by_cases hl : 65536 < s.length
  · rw [if_pos hl] at h; cases h
  rw [if_neg hl] at h ⊢
  cases hv : valL 9 38 6 s with
  | err e l => rw [hv] at h; cases h
  | ok y l =>
    rw [hv] at h
    dsimp only at h ⊢
    by_cases h0 : l = []
    · rw [if_pos h0] at h ⊢
      subst h0
      obtain ⟨fy, _⟩ := valL_all (by omega) hv
      have hf : fitsS 6 b y = none := Option.isNone_iff_eq_none.1 h
      rw [fits_mono 6 a b y ha.okT hb.okT fy.okV hi hf]
      rfl
    · rw [if_neg h0] at h; cases h

theorem SIncludes_run {a b : E} (s : List UInt8) (ha : Ty a) (hb : Ty b) : RR none 9 [slotsOf a, slotsOf b, str s] [] = some (.ret (yes true), []) := by
  obtain ⟨u, hu⟩ := light_run ha
  obtain ⟨v, hv⟩ := light_run hb
  have ca := RCheck_run ha
  have cb := RCheck_run hb
  have i1 : CheckS a = 0 → CheckS b = 0 → _ := fun h k => Includes_run 6 a b (CheckS_ful h ha).okT (CheckS_ful k hb).okT ha hb
  have q1 : CheckS a = 0 → _ := fun h => Accepts_run (s := s) (CheckS_ful h ha) ha
  have q2 : CheckS b = 0 → _ := fun h => Accepts_run (s := s) (CheckS_ful h hb) hb
  have mono : CheckS a = 0 → CheckS b = 0 → incS 6 a b = true → accS b s = true → accS a s = true := fun h k => acc_mono (CheckS_ful h ha) (CheckS_ful k hb)
  cases ha with
  | mk k mn mx os fs gs =>
  cases hb with
  | mk k' mn' mx' os' fs' gs' =>
  refine run_of_body ((eq_SIncludes RR LL k mn mx os fs gs k' mn' mx' os' fs' gs' s).trans (callB hu ?_))
  cases u with
  | false => exact cond_not rfl rfl
  | true =>
  refine cond_run rfl (callB hv ?_)
  cases v with
  | false => exact cond_not rfl rfl
  | true =>
  refine cond_run rfl (callE ca ?_)
  by_cases za : CheckS (E.agg [E.int IntKind.i64 k, E.int IntKind.i64 mn, E.int IntKind.i64 mx, E.sl 9 os, E.sl 26 fs, E.sl 64 gs]) = 0
  · refine cond_run (iz_yes za) (callE cb ?_)
    by_cases zb : CheckS (E.agg [E.int IntKind.i64 k', E.int IntKind.i64 mn', E.int IntKind.i64 mx', E.sl 9 os', E.sl 26 fs', E.sl 64 gs']) = 0
    · show (bif bif !(CheckS _ == 0) then true else decide (3000 < (s.length : Int)) then _ else _) = _
      rw [eq_beq zb]
      by_cases h3 : (3000 : Int) < (s.length : Int)
      · exact cond_run (dec_yes h3) rfl
      refine cond_not (dec_no h3) (callB (i1 za zb) ?_)
      have m := mono za zb
      revert m
      generalize incS 6 _ _ = w
      intro m
      cases w with
      | false => exact cond_not rfl rfl
      | true =>
      have m := m rfl
      refine cond_run rfl (callB (q2 zb) ?_)
      revert m
      generalize accS (E.agg [E.int IntKind.i64 k', E.int IntKind.i64 mn', E.int IntKind.i64 mx', E.sl 9 os', E.sl 26 fs', E.sl 64 gs']) s = w
      intro m
      cases w with
      | false => exact cond_not rfl rfl
      | true =>
        have e := q1 za
        rw [m rfl] at e
        exact cond_run rfl (callB e rfl)
    · refine cond_run ?_ rfl
      show (bif !(CheckS _ == 0) then true else _) = true
      rw [ne_beq zb]; rfl
  · exact cond_not (iz_no za) rfl

theorem includes_law : LawRuns Tryd.prog HH 9 [26, 26, 9] := by
  refine lawRuns_of fun ess he => ?_
  obtain ⟨e0, _, rfl, h0, he⟩ := he.cons_inv
  obtain ⟨e1, _, rfl, h1, he⟩ := he.cons_inv
  obtain ⟨e2, _, rfl, h2, he⟩ := he.cons_inv
  cases he.nil_inv
  obtain ⟨t0, a0⟩ := ty_param h0
  obtain ⟨t1, a1⟩ := ty_param h1
  obtain ⟨s, _, a2⟩ := str_param h2
  simp only [List.zipWith_cons_cons, List.zipWith_nil_left, a0, a1, a2]
  exact SIncludes_run s t0 t1

end Go.Proofs.YtghdhhmlmdohkaaDoor
