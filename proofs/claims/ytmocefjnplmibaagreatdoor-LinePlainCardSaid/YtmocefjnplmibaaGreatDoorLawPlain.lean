/- The law LinePlain. -/
import Derived.Test.YtmocefjnplmibaaGreatDoorPr
import Derived.Test.YtmocefjnplmibaaGreatDoorQd
namespace Go.Proofs.YtmocefjnplmibaaGreatDoor
open Go Go.Den
set_option maxRecDepth 100000

theorem plain_law : LawRuns Tryz.prog HH 4 [9] := by
  refine lawRuns_of fun ess he => ?_
  obtain ⟨e0, _, rfl, h0, he⟩ := he.cons_inv
  cases he.nil_inv
  obtain ⟨s, _, a0⟩ := str_param h0
  simp only [List.zipWith_cons_cons, List.zipWith_nil_left, a0]
  exact LPlain_run s

end Go.Proofs.YtmocefjnplmibaaGreatDoor
