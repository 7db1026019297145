/- The law SchemaParses. -/
import Derived.Test.YtghdhhmlmdohkaaGreatDoorLaw
import Derived.Test.YtghdhhmlmdohkaaGreatDoorRf
import Derived.Test.YtghdhhmlmdohkaaGreatDoorKp
namespace Go.Proofs.YtghdhhmlmdohkaaGreatDoor
open Go Go.Den
set_option maxRecDepth 100000

theorem RParse_run (s : List UInt8) : RR none 14 [str s] [] = some (.ret (parS s), []) := by
  refine run_of_body ((eq_RParse RR LL s).trans ?_)
  unfold parS
  by_cases hb : 65536 < s.length
  · rw [if_pos hb]
    exact cond_run (dec_yes (by omega)) rfl
  rw [if_neg hb]
  have e := rschema_run (s := s) (by omega) 6 (by omega) s List.suffix_rfl
  rw [pos_all] at e
  change ReadsF (RR none 45 [.ptr 0 0, num 1] (rdr s 0 0 0)) s slotsT _ at e
  refine cond_not (dec_no (by omega)) ?_
  cases hv : kindL 9 27 81 6 s with
  | ok y l =>
    rw [hv] at e
    obtain ⟨h1, h2⟩ := e
    have hle := h1.length_le
    refine bind_run h2 (cond_run rfl (cond_run (okTy26 ..) (cond_run rfl ?_)))
    dsimp only
    by_cases hl : l = []
    · rw [if_pos hl]
      have hy : Ty y := kindL_ty 6 s y l (by omega) hv
      have e1 := RPrint_run hy
      rw [← slotsT_eq hy] at e1
      refine cond_not ?_ (cond_not rfl (bind_run e1 (cond_run rfl (cond_run (okPr y) ?_))))
      · show decide (pos s l < (s.length : Int)) = false
        rw [hl]; exact dec_no (by unfold pos; simp)
      unfold prS
      by_cases hc : CheckS y = 0
      · rw [if_pos hc, if_pos hc]
        refine cond_not rfl ?_
        show (bif !strEq (textS 6 y) s then _ else _) = _
        by_cases ht : textS 6 y = s
        · rw [if_pos ht, strEq_iff.2 ht]; rfl
        · rw [if_neg ht, strEq_no.2 ht]; rfl
      · rw [if_neg hc, if_neg hc]
        exact cond_run (no_not' hc) rfl
    · rw [if_neg hl]
      have := List.length_pos_iff.2 hl
      refine cond_run ?_ (cond_run rfl rfl)
      show decide (pos s l < (s.length : Int)) = true
      exact dec_yes (by unfold pos; omega)
  | err c l =>
    rw [hv] at e
    obtain ⟨h1, h2, a, q, h3⟩ := e
    exact bind_run h3 (cond_run rfl (cond_run (okTy26 ..) (cond_not (eq_yes h2) (cond_run (nz_yes h2) rfl))))

theorem nil_ty : Ty (mkT 9 27 81 0 0 0 [] [] []) := isTy_mk (by intro x h; cases h) (by simp) (by simp) (by simp) (by intro x h; cases h) (by simp) (by omega) (by omega) (by omega)

theorem SParses_run (s : List UInt8) : RR none 3 [str s] [] = some (.ret (yes true), []) := by
  refine run_of_body ((eq_SParses RR LL s).trans ?_)
  by_cases h3 : (3000 : Int) < (s.length : Int)
  · exact cond_run (dec_yes h3) rfl
  refine cond_not (dec_no h3) (bind_run (Parse_run s) (cond_run rfl (cond_run (okPar s) (bind_run (RParse_run s) (cond_run rfl (cond_run (okPar s) (cond_run ?_ ?_)))))))
  · show ((bif !(((parS s).comp 2).data.toInt == ((parS s).comp 2).data.toInt) then true else !(((parS s).comp 1).data.toInt == ((parS s).comp 1).data.toInt)) == false) = true
    simp
  have nilS := SameT_run nil_ty
  have herr : ∀ e l, kindL 9 27 81 6 s = .err e l → e ≠ 0 := fun e l h => kindL_err 6 s l e h
  unfold parS
  rw [if_neg (by omega)]
  cases hv : kindL 9 27 81 6 s with
  | err e l => exact callB nilS (cond_not rfl (cond_run (nz_yes (herr e l hv)) rfl))
  | ok y l =>
    dsimp only
    by_cases hl : l = []
    · rw [if_pos hl]
      have hy : Ty y := kindL_ty 6 s y l (by omega) hv
      by_cases hc : CheckS y = 0
      · rw [if_pos hc]
        by_cases ht : textS 6 y = s
        · rw [if_pos ht]
          have same := SameT_run hy
          have pr := Print_run hy
          rw [← slotsT_eq hy] at same pr
          refine callB same (cond_not rfl (cond_not rfl (bind_run pr (cond_run rfl (cond_run (okPr y) ?_)))))
          unfold prS
          rw [if_pos hc]
          show some (Res.ret (yes (bif (0 : Int) == 0 then strEq (textS 6 y) s else false)), ([] : Heap)) = _
          rw [ht, strEq_self]; rfl
        · rw [if_neg ht]
          exact callB nilS (cond_not rfl (cond_run rfl rfl))
      · rw [if_neg hc]
        exact callB nilS (cond_not rfl (cond_run (nz_yes hc) rfl))
    · rw [if_neg hl]
      exact callB nilS (cond_not rfl (cond_run rfl rfl))

theorem parses_law : LawRuns Tryz.prog HH 3 [9] := by
  refine lawRuns_of fun ess he => ?_
  obtain ⟨e0, _, rfl, h0, he⟩ := he.cons_inv
  cases he.nil_inv
  obtain ⟨s, _, a0⟩ := str_param h0
  simp only [List.zipWith_cons_cons, List.zipWith_nil_left, a0]
  exact SParses_run s

end Go.Proofs.YtghdhhmlmdohkaaGreatDoor
