/- The law SchemaWrites. -/
import Derived.Test.YtghdhhmlmdohkaaDoorLaw
import Derived.Test.YtghdhhmlmdohkaaDoorWk
import Derived.Test.YtghdhhmlmdohkaaDoorSv
namespace Go.Proofs.YtghdhhmlmdohkaaDoor
open Go Go.Den
set_option maxRecDepth 100000

theorem SWrites_run {v : E} (hv : Val v) (hs : SizV v) : RR none 5 [slotsOf v] [] = some (.ret (yes true), []) := by
  by_cases hc : CheckValueS v = 0
  · have fv := CheckValueS_ful hc hv
    obtain ⟨b, hb, hsz⟩ := small_runx fv hv hs
    cases b with
    | false =>
      cases hv with
      | mk k n x ns vs => exact run_of_body ((eq_SWrites RR LL k n x ns vs).trans (callB hb (cond_run rfl rfl)))
    | true =>
      have hsz := hsz rfl
      have hw : (writS 6 v).length ≤ 100000 := by
        have := writ_le (s := 9) (t := 38) (fun n h0 h1 => itoa_len (by omega) (by omega)) fv
        omega
      have e1 := Write_full fv hv hw
      have e2 := RWrite_full fv hv hc hw
      have same := SameValue_run hv
      have back := valL_writ 6 v [] fv (.inl rfl)
      rw [List.append_nil] at back
      have e3 := Value_run (writS 6 v)
      generalize writS 6 v = t at e1 e2 e3 back
      by_cases hl : t.length ≤ 65536
      · have ea : wrAns t = .tup [str t, num 0] := if_pos hl
        rw [ea] at e1 e2
        unfold valS at e3
        rw [if_neg (by omega), back] at e3
        cases hv with
        | mk k n x ns vs =>
        refine run_of_body ((eq_SWrites RR LL k n x ns vs).trans (callB hb (cond_not rfl (bind_run e1 (cond_run rfl (cond_run (okW31 ..) (bind_run e2 (cond_run rfl (cond_run (okW31 ..) (cond_not ?_ (cond_not rfl (bind_run e3 (cond_run rfl (cond_run (okV41 ..) (cond_run rfl (callB same rfl))))))))))))))))
        show (bif !strEq t t then true else !((0 : Int) == 0)) = false
        rw [strEq_self]; rfl
      · have ea : wrAns t = .tup [str [], num 5] := if_neg hl
        rw [ea] at e1 e2
        cases hv with
        | mk k n x ns vs =>
        exact run_of_body ((eq_SWrites RR LL k n x ns vs).trans (callB hb (cond_not rfl (bind_run e1 (cond_run rfl (cond_run (okW31 ..) (bind_run e2 (cond_run rfl (cond_run (okW31 ..) (cond_not rfl (cond_run rfl rfl)))))))))))
  · obtain ⟨b, hb⟩ := small_run hv
    have e1 := Write_bad hv hc
    have e2 := RWrite_bad hv hc
    generalize CheckValueS v = e at hc e1 e2
    cases b with
    | false =>
      cases hv with
      | mk k n x ns vs => exact run_of_body ((eq_SWrites RR LL k n x ns vs).trans (callB hb (cond_run rfl rfl)))
    | true =>
      cases hv with
      | mk k n x ns vs =>
      refine run_of_body ((eq_SWrites RR LL k n x ns vs).trans (callB hb (cond_not rfl (bind_run e1 (cond_run rfl (cond_run (okW31 ..) (bind_run e2 (cond_run rfl (cond_run (okW31 ..) (cond_not ?_ (cond_run (no_not' hc) rfl)))))))))))
      show (bif !strEq [] [] then true else !(e == e)) = false
      rw [strEq_self]; simp

theorem writes_law : LawRunsTo reachBytes Tryd.prog HH 5 [38] := by
  intro ess he hz
  obtain ⟨e0, _, rfl, h0, he⟩ := he.cons_inv
  cases he.nil_inv
  obtain ⟨hv, a0⟩ := val_param h0
  have hr : run Tryd.prog HH none 5 (List.zipWith (argOf Tryd.prog) [38] [e0]) [] = some (.ret (.e (.bool true)), []) := by
    simp only [List.zipWith_cons_cons, List.zipWith_nil_left, a0]
    exact SWrites_run hv fun c hc => hz e0 (by simp) c hc
  obtain ⟨k0, hk⟩ := run_iff.1 hr
  exact ⟨k0, hk k0 (Nat.le_refl _)⟩

end Go.Proofs.YtghdhhmlmdohkaaDoor
