/- LineParses: both parsers answer alike. -/
import Derived.Test.YtmocefjnplmibaaGreatDoorPf
import Derived.Test.YtmocefjnplmibaaGreatDoorXd
namespace Go.Proofs.YtmocefjnplmibaaGreatDoor
open Go Go.Den
set_option maxRecDepth 100000

theorem pSameR_refl (r : Req) : sameR r r = true := by
  have hp : ∀ a : List E, eqProps a a = true := eqProps_refl
  unfold sameR sameX sameS sameB sameM
  simp only [strEq_self, hp, beq_self_eq_true, Bool.and_true]
theorem okBp (b : Bool) : okRes PP 4 (.ret (yes b)) = true := by kernel_rfl
theorem LParses_run (s : S8) : RR none 7 [str s] [] = some (.ret (yes true), []) := by
  refine run_of_body ((eq_LParses RR LL s).trans ?_)
  by_cases hl : (9000 : Int) < s.length
  · exact cond_run (dec_yes hl) rfl
  have hn := split_num s
  have hp := Parse_run (s := s) (by omega) (fun i => Nat.le_trans (split_piece s i) (by omega)) (by omega)
  have hq := RParse_run (s := s) (by omega) (fun i => Nat.le_trans (split_piece s i) (by omega)) (by omega)
  refine cond_not (dec_no hl) (rx hp (parA_ok _) (rx hq (parA_ok _) ?_))
  cases hr : parseL (splitAt 32 s) with
  | error e =>
    refine rx (RSame_run .zero .zero (Nat.zero_le _) (Nat.zero_le _)) (okBp _) (cond_run ?_ rfl)
    show ((bif sameR .zero .zero then e == e else false) == true) = true
    rw [pSameR_refl, beq_self_eq_true]; rfl
  | ok r =>
    obtain ⟨g1, g2⟩ := parse_len hr
    refine rx (RSame_run r r (by rw [maxLen_eq]; omega) (by rw [maxLen_eq]; omega)) (okBp _) (cond_run ?_ rfl)
    show ((bif sameR r r then (0 : Int) == 0 else false) == true) = true
    rw [pSameR_refl]; rfl

theorem parses_law : LawRuns Tryz.prog HH 7 [9] := by
  refine lawRuns_of fun ess he => ?_
  obtain ⟨e0, _, rfl, h0, he⟩ := he.cons_inv
  cases he.nil_inv
  obtain ⟨s, _, a0⟩ := str_param h0
  simp only [List.zipWith_cons_cons, List.zipWith_nil_left, a0]
  exact LParses_run s

end Go.Proofs.YtmocefjnplmibaaGreatDoor
