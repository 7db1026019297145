/- The law SchemaChains. -/
import Derived.Test.YtghdhhmlmdohkaaDoorLawCompares
namespace Go.Proofs.YtghdhhmlmdohkaaDoor
open Go Go.Den
set_option maxRecDepth 100000

theorem SChains_run {a b c : E} (ha : Ty a) (hb : Ty b) (hc : Ty c) : RR none 10 [slotsOf a, slotsOf b, slotsOf c] [] = some (.ret (yes true), []) := by
  obtain ⟨u, hu⟩ := light_run ha
  obtain ⟨v, hv⟩ := light_run hb
  obtain ⟨w, hw⟩ := light_run hc
  have ca := RCheck_run ha
  have cb := RCheck_run hb
  have cc := RCheck_run hc
  have oa : CheckS a = 0 → okT 6 a := fun h => (CheckS_ful h ha).okT
  have ob : CheckS b = 0 → okT 6 b := fun h => (CheckS_ful h hb).okT
  have oc : CheckS c = 0 → okT 6 c := fun h => (CheckS_ful h hc).okT
  have i1 : CheckS a = 0 → CheckS b = 0 → _ := fun h k => Includes_run 6 a b (oa h) (ob k) ha hb
  have i2 : CheckS b = 0 → CheckS c = 0 → _ := fun h k => Includes_run 6 b c (ob h) (oc k) hb hc
  have i3 : CheckS a = 0 → CheckS c = 0 → _ := fun h k => Includes_run 6 a c (oa h) (oc k) ha hc
  have tr : CheckS a = 0 → CheckS b = 0 → CheckS c = 0 → incS 6 a b = true → incS 6 b c = true → incS 6 a c = true := fun h1 h2 h3 => inc_trans 6 a b c (oa h1) (ob h2) (oc h3)
  clear oa ob oc
  cases ha with
  | mk k mn mx os fs gs =>
  cases hb with
  | mk k' mn' mx' os' fs' gs' =>
  cases hc with
  | mk k2 mn2 mx2 os2 fs2 gs2 =>
  refine run_of_body ((eq_SChains RR LL k mn mx os fs gs k' mn' mx' os' fs' gs' k2 mn2 mx2 os2 fs2 gs2).trans (callB hu ?_))
  cases u with
  | false => exact cond_not rfl rfl
  | true =>
  refine cond_run rfl (callB hv ?_)
  cases v with
  | false => exact cond_not rfl rfl
  | true =>
  refine cond_run rfl (callB hw ?_)
  cases w with
  | false => exact cond_not rfl rfl
  | true =>
  refine cond_run rfl (callE ca ?_)
  generalize hA : (E.agg [E.int IntKind.i64 k, E.int IntKind.i64 mn, E.int IntKind.i64 mx, E.sl 9 os, E.sl 26 fs, E.sl 64 gs]) = a at *
  generalize hB : (E.agg [E.int IntKind.i64 k', E.int IntKind.i64 mn', E.int IntKind.i64 mx', E.sl 9 os', E.sl 26 fs', E.sl 64 gs']) = b at *
  generalize hC : (E.agg [E.int IntKind.i64 k2, E.int IntKind.i64 mn2, E.int IntKind.i64 mx2, E.sl 9 os2, E.sl 26 fs2, E.sl 64 gs2]) = c at *
  by_cases za : CheckS a = 0
  · refine cond_run (ok_zero za) (callE (n := CheckS b) (by rw [← hB] at cb ⊢; exact cb) ?_)
    by_cases zb : CheckS b = 0
    · refine cond_run (ok_zero zb) (callE (n := CheckS c) (by rw [← hC] at cc ⊢; exact cc) ?_)
      by_cases zc : CheckS c = 0
      · have j1 := i1 za zb
        have j2 := i2 zb zc
        have j3 := i3 za zc
        have tr := tr za zb zc
        subst hA; subst hB; subst hC
        refine cond_not (no_zero zc) (callB j1 ?_)
        cases h1 : incS 6 _ _ with
        | false => exact cond_not rfl rfl
        | true =>
        refine cond_run rfl (callB j2 ?_)
        cases h2 : incS 6 _ _ with
        | false => exact cond_not rfl rfl
        | true =>
        rw [tr h1 h2] at j3
        exact cond_run rfl (callB j3 rfl)
      · exact cond_run (no_not zc) rfl
    · exact cond_not (ok_not zb) rfl
  · exact cond_not (ok_not za) rfl

theorem chains_law : LawRuns Tryd.prog HH 10 [26, 26, 26] := by
  refine lawRuns_of fun ess he => ?_
  obtain ⟨e0, _, rfl, h0, he⟩ := he.cons_inv
  obtain ⟨e1, _, rfl, h1, he⟩ := he.cons_inv
  obtain ⟨e2, _, rfl, h2, he⟩ := he.cons_inv
  cases he.nil_inv
  obtain ⟨t0, a0⟩ := ty_param h0
  obtain ⟨t1, a1⟩ := ty_param h1
  obtain ⟨t2, a2⟩ := ty_param h2
  simp only [List.zipWith_cons_cons, List.zipWith_nil_left, a0, a1, a2]
  exact SChains_run t0 t1 t2

end Go.Proofs.YtghdhhmlmdohkaaDoor
