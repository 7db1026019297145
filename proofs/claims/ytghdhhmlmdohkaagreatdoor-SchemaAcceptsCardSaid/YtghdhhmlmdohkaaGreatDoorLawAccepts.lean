/- The law SchemaAccepts. -/
import Derived.Test.YtghdhhmlmdohkaaGreatDoorLaw
import Derived.Test.YtghdhhmlmdohkaaGreatDoorKf
import Derived.Test.YtghdhhmlmdohkaaGreatDoorRd
import Derived.Test.YtghdhhmlmdohkaaGreatDoorFb
namespace Go.Proofs.YtghdhhmlmdohkaaGreatDoor
open Go Go.Den
set_option maxRecDepth 100000

theorem RAccepts_run {t : E} {s : List UInt8} (ft : Ful 9 27 81 6 t) (ht : Ty t) : RR none 22 [slotsOf t, str s] [] = some (.ret (yes (accS t s)), []) := by
  have ev := RValue_run s
  have ef : ∀ y, FulV 9 39 6 y → Val y → _ := fun y fy hy => RFits_run (e := 6) ft fy ht hy
  unfold accS
  unfold valS at ev
  have herr : ∀ e l, valL 9 39 6 s = .err e l → e ≠ 0 := fun e l h => valL_err 6 s l e h
  cases ht with
  | mk k mn mx os fs gs =>
  refine run_of_body ((eq_RAccepts RR LL k mn mx os fs gs s).trans ?_)
  by_cases hb : 65536 < s.length
  · rw [if_pos hb] at ev ⊢
    exact bind_run ev (cond_run rfl (cond_run (okV41 ..) (cond_run rfl rfl)))
  rw [if_neg hb] at ev ⊢
  cases hv : valL 9 39 6 s with
  | ok y l =>
    rw [hv] at ev
    dsimp only at ev ⊢
    by_cases hl : l = []
    · rw [if_pos hl] at ev ⊢
      subst hl
      obtain ⟨fy, hy⟩ := valL_all (by omega) hv
      refine bind_run ev (cond_run rfl (cond_run (okV41 ..) (cond_not rfl ?_)))
      have e := ef y fy hy
      rw [← slotsV_eq hy] at e
      refine callP e ?_
      generalize fitsS 6 _ _ = p
      cases p <;> rfl
    · rw [if_neg hl] at ev ⊢
      exact bind_run ev (cond_run rfl (cond_run (okV41 ..) (cond_run rfl rfl)))
  | err e l =>
    rw [hv] at ev
    exact bind_run ev (cond_run rfl (cond_run (okV41 ..) (cond_run (by show (!(e == 0)) = true; rw [ne_beq (herr e l hv)]; rfl) rfl)))

theorem SAccepts_run {t : E} {s : List UInt8} (ht : Ty t) : RR none 4 [slotsOf t, str s] [] = some (.ret (yes true), []) := by
  obtain ⟨b, hb⟩ := light_run ht
  have e2 := RCheck_run ht
  have ea : CheckS t = 0 → RR none 21 [slotsOf t, str s] [] = _ := fun hc => Accepts_run (CheckS_ful hc ht) ht
  have er : CheckS t = 0 → RR none 22 [slotsOf t, str s] [] = _ := fun hc => RAccepts_run (CheckS_ful hc ht) ht
  have ef : CheckS t = 0 → ∀ y, FulV 9 39 6 y → Val y → RR none 20 [slotsOf t, slotsOf y] [] = _ := fun hc y fy hy => Fits_run 6 6 t y (by omega) (CheckS_ful hc ht) fy ht hy
  have herr : ∀ e l, valL 9 39 6 s = .err e l → e ≠ 0 := fun e l h => valL_err 6 s l e h
  have acc : ¬ 3000 < s.length → accS t s = match valL 9 39 6 s with | .ok y l => if l = [] then (fitsS 6 t y).isNone else false | .err _ _ => false := fun h => by
    unfold accS; rw [if_neg (by omega)]; rfl
  generalize CheckS t = c at e2 ea er ef
  cases ht with
  | mk k mn mx os fs gs =>
  refine run_of_body ((eq_SAccepts RR LL k mn mx os fs gs s).trans (callB hb ?_))
  cases b with
  | false => exact cond_not rfl rfl
  | true =>
    refine cond_run rfl (callE e2 ?_)
    by_cases hc : c = 0
    · subst hc
      have ea := ea rfl
      have er := er rfl
      have ef := ef rfl
      by_cases h3 : 3000 < s.length
      · exact cond_run (dec_yes (by omega)) rfl
      · have acc := acc h3
        generalize accS _ s = q at acc ea er
        refine cond_not (dec_no (by omega)) (bind_run (Value_run s) (cond_run rfl (cond_run (okVal s) ?_)))
        unfold valS
        rw [if_neg (by omega)]
        cases hv : valL 9 39 6 s with
        | ok y l =>
          rw [hv] at acc
          dsimp only at acc ⊢
          by_cases hl : l = []
          · rw [if_pos hl] at acc ⊢
            subst hl
            obtain ⟨fy, hy⟩ := valL_all (by omega) hv
            have e := ef y fy hy
            rw [← slotsV_eq hy] at e
            refine cond_run rfl (callP e (callB ea ?_))
            have hq : (fitR (fitsS 6 (E.agg [E.int .i64 k, E.int .i64 mn, E.int .i64 mx, E.sl 9 os, E.sl 27 fs, E.sl 81 gs]) y)).val.comp 1 = yes q := by
              rw [acc]
              generalize fitsS 6 _ y = p
              cases p <;> rfl
            show (bif ((q == ((fitR (fitsS 6 (E.agg [E.int .i64 k, E.int .i64 mn, E.int .i64 mx, E.sl 9 os, E.sl 27 fs, E.sl 81 gs]) y)).val.comp 1).data.toBool) == true) then _ else _) = _
            rw [hq]
            refine cond_run (by cases q <;> rfl) (callB er ?_)
            cases q <;> rfl
          · rw [if_neg hl] at acc ⊢
            subst acc
            exact cond_not rfl (callB ea (cond_run rfl (callB er rfl)))
        | err e l =>
          rw [hv] at acc
          dsimp only at acc
          subst acc
          exact cond_not (ne_beq (herr e l hv)) (callB ea (cond_run rfl (callB er rfl)))
    · exact cond_run (by show (bif !(c == 0) then true else _) = true; rw [ne_beq hc]; rfl) rfl

theorem accepts_law : LawRuns Tryz.prog HH 4 [27, 9] := by
  refine lawRuns_of fun ess he => ?_
  obtain ⟨e0, _, rfl, h0, he⟩ := he.cons_inv
  obtain ⟨e1, _, rfl, h1, he⟩ := he.cons_inv
  cases he.nil_inv
  obtain ⟨ht, a0⟩ := ty_param h0
  obtain ⟨s, _, a1⟩ := str_param h1
  simp only [List.zipWith_cons_cons, List.zipWith_nil_left, a0, a1]
  exact SAccepts_run ht

end Go.Proofs.YtghdhhmlmdohkaaGreatDoor
