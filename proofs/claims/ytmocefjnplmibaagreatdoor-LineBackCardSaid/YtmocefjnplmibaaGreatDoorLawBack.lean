/- The law LineBack. -/
import Derived.Test.YtmocefjnplmibaaGreatDoorBb
namespace Go.Proofs.YtmocefjnplmibaaGreatDoor
open Go Go.Den
set_option maxRecDepth 100000

theorem back_law : LawRuns Tryz.prog HH 9 [39] := by
  refine lawRuns_of fun ess he => ?_
  obtain ⟨e0, _, rfl, h0, he⟩ := he.cons_inv
  cases he.nil_inv
  obtain ⟨r, hr, a0⟩ := req_param h0
  simp only [List.zipWith_cons_cons, List.zipWith_nil_left, a0]
  exact LBack_run r hr

end Go.Proofs.YtmocefjnplmibaaGreatDoor
