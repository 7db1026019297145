/- The law LineOnly. -/
import Derived.Test.YtmocefjnplmibaaGreatDoorOa
namespace Go.Proofs.YtmocefjnplmibaaGreatDoor
open Go Go.Den
set_option maxRecDepth 100000

theorem only_law : LawRuns Tryz.prog HH 10 [9] := by
  refine lawRuns_of fun ess he => ?_
  obtain ⟨e0, _, rfl, h0, he⟩ := he.cons_inv
  cases he.nil_inv
  obtain ⟨s, _, a0⟩ := str_param h0
  simp only [List.zipWith_cons_cons, List.zipWith_nil_left, a0]
  exact LOnly_run s

end Go.Proofs.YtmocefjnplmibaaGreatDoor
