/- The law SchemaPrints. -/
import Derived.Test.YtghdhhmlmdohkaaDoorLaw
import Derived.Test.YtghdhhmlmdohkaaDoorKp
namespace Go.Proofs.YtghdhhmlmdohkaaDoor
open Go Go.Den
set_option maxRecDepth 100000

theorem SPrints_run {x : E} (hx : Ty x) : RR none 4 [slotsOf x] [] = some (.ret (yes true), []) := by
  have e1 := Print_run hx
  have e2 := RPrint_run hx
  by_cases hc : CheckS x = 0
  · have fx := CheckS_ful hc hx
    obtain ⟨b, hb, hsz⟩ := light_runx fx hx
    cases b with
    | false =>
      cases hx with
      | mk k mn mx os fs gs => exact run_of_body ((eq_SPrints RR LL k mn mx os fs gs).trans (callB hb (cond_run rfl rfl)))
    | true =>
      have hl := text_le itoa_62 fx
      have hsz := hsz rfl
      have ep : prS x = .tup [str (textS 6 x), num 0] := if_pos hc
      rw [ep] at e1 e2
      have back := kindL_text 6 x [] fx (.inl rfl)
      rw [List.append_nil] at back
      have e3 := Parse_run (textS 6 x)
      have same := SameT_run hx
      have ea : parS (textS 6 x) = .tup [slotsT x, num 0, num 0] := by
        unfold parS
        rw [if_neg (by omega), back]
        show (if ([] : List UInt8) = [] then _ else _) = _
        rw [if_pos rfl, if_pos hc, if_pos rfl]
      rw [ea] at e3
      generalize textS 6 x = t at e1 e2 e3
      cases hx with
      | mk k mn mx os fs gs =>
      refine run_of_body ((eq_SPrints RR LL k mn mx os fs gs).trans (callB hb (cond_not rfl (bind_run e1 (cond_run rfl (cond_run (okP31 ..) (bind_run e2 (cond_run rfl (cond_run (okP31 ..) (cond_not ?_ (cond_not rfl (bind_run e3 (cond_run rfl (cond_run (okT33 ..) (cond_run rfl (callB same rfl))))))))))))))))
      show (bif !strEq t t then true else !((0 : Int) == 0)) = false
      rw [strEq_self]; rfl
  · have ep : prS x = .tup [str [], num (CheckS x)] := if_neg hc
    rw [ep] at e1 e2
    generalize CheckS x = e at hc e1 e2
    obtain ⟨b, hb⟩ := light_run hx
    cases b with
    | false =>
      cases hx with
      | mk k mn mx os fs gs => exact run_of_body ((eq_SPrints RR LL k mn mx os fs gs).trans (callB hb (cond_run rfl rfl)))
    | true =>
      cases hx with
      | mk k mn mx os fs gs =>
      refine run_of_body ((eq_SPrints RR LL k mn mx os fs gs).trans (callB hb (cond_not rfl (bind_run e1 (cond_run rfl (cond_run (okP31 ..) (bind_run e2 (cond_run rfl (cond_run (okP31 ..) (cond_not ?_ (cond_run (no_not' hc) rfl)))))))))))
      show (bif !strEq [] [] then true else !(e == e)) = false
      rw [strEq_self]; simp

theorem prints_law : LawRuns Tryd.prog HH 4 [26] := by
  refine lawRuns_of fun ess he => ?_
  obtain ⟨e0, _, rfl, h0, he⟩ := he.cons_inv
  cases he.nil_inv
  obtain ⟨hx, a0⟩ := ty_param h0
  simp only [List.zipWith_cons_cons, List.zipWith_nil_left, a0]
  exact SPrints_run hx

end Go.Proofs.YtghdhhmlmdohkaaDoor
