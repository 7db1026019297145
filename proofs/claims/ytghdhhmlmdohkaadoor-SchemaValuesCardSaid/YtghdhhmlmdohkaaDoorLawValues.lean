/- The law SchemaValues. -/
import Derived.Test.YtghdhhmlmdohkaaDoorLaw
import Derived.Test.YtghdhhmlmdohkaaDoorRd
import Derived.Test.YtghdhhmlmdohkaaDoorSv
import Derived.Test.YtghdhhmlmdohkaaDoorWh
namespace Go.Proofs.YtghdhhmlmdohkaaDoor
open Go Go.Den
set_option maxRecDepth 100000

theorem nil_val : Val (mkV 9 38 0 0 [] [] []) := .mk 0 0 [] [] [] (by simp) (by simp) (by simp) (by simp) (by simp) (by omega) (by omega)

theorem SValues_run (s : List UInt8) : RR none 6 [str s] [] = some (.ret (yes true), []) := by
  refine run_of_body ((eq_SValues RR LL s).trans ?_)
  by_cases h3 : (3000 : Int) < (s.length : Int)
  · exact cond_run (dec_yes h3) rfl
  refine cond_not (dec_no h3) (bind_run (Value_run s) (cond_run rfl (cond_run (okVal s) (bind_run (RValue_run s) (cond_run rfl (cond_run (okVal s) (cond_run ?_ ?_)))))))
  · show ((bif !(((valS s).comp 2).data.toInt == ((valS s).comp 2).data.toInt) then true else !(((valS s).comp 1).data.toInt == ((valS s).comp 1).data.toInt)) == false) = true
    simp
  · have nilS := SameValue_run nil_val
    unfold valS
    rw [if_neg (by omega)]
    have herr : ∀ e l, valL 9 38 6 s = .err e l → e ≠ 0 := fun e l h => valL_err 6 s l e h
    cases hv : valL 9 38 6 s with
    | err e l => exact callB nilS (cond_not rfl (cond_run (by show (!(e == 0)) = true; rw [ne_beq (herr e l hv)]; rfl) rfl))
    | ok y l =>
      dsimp only
      by_cases hl : l = []
      · subst hl
        rw [if_pos rfl]
        obtain ⟨fy, hy⟩ := valL_all (by omega) hv
        obtain ⟨_, hb⟩ := valL_back 6 s y [] hv
        rw [List.append_nil] at hb
        have same := SameValue_run hy
        have wr := Write_run fy hy (by rw [← hb]; omega)
        rw [← slotsV_eq hy] at same wr
        refine callB same (cond_not rfl (cond_not rfl (bind_run wr (cond_run rfl (cond_run (okW31 ..) ?_)))))
        show some (Res.ret (yes (bif (0 : Int) == 0 then strEq (writS 6 y) s else false)), ([] : Heap)) = _
        rw [← hb, strEq_self]; rfl
      · rw [if_neg hl]
        exact callB nilS (cond_not rfl (cond_run rfl rfl))

theorem values_law : LawRuns Tryd.prog HH 6 [9] := by
  refine lawRuns_of fun ess he => ?_
  obtain ⟨e0, _, rfl, h0, he⟩ := he.cons_inv
  cases he.nil_inv
  obtain ⟨s, _, a0⟩ := str_param h0
  simp only [List.zipWith_cons_cons, List.zipWith_nil_left, a0]
  exact SValues_run s

end Go.Proofs.YtghdhhmlmdohkaaDoor
