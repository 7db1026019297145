/- The law LineQuotes. -/
import Derived.Test.YtmocefjnplmibaaGreatDoorPr
import Derived.Test.YtmocefjnplmibaaGreatDoorQf
namespace Go.Proofs.YtmocefjnplmibaaGreatDoor
open Go Go.Den
set_option maxRecDepth 100000

theorem quotes_law : LawRuns Tryz.prog HH 3 [9, 9] := by
  refine lawRuns_of fun ess he => ?_
  obtain ⟨e0, _, rfl, h0, he⟩ := he.cons_inv
  obtain ⟨e1, _, rfl, h1, he⟩ := he.cons_inv
  cases he.nil_inv
  obtain ⟨s, _, a0⟩ := str_param h0
  obtain ⟨t, _, a1⟩ := str_param h1
  simp only [List.zipWith_cons_cons, List.zipWith_nil_left, a0, a1]
  exact LQuotes_run s t

end Go.Proofs.YtmocefjnplmibaaGreatDoor
