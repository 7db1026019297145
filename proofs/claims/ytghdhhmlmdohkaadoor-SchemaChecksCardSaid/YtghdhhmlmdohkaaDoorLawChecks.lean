/- The law SchemaChecks. -/
import Derived.Test.YtghdhhmlmdohkaaDoorLaw
import Derived.Test.YtghdhhmlmdohkaaDoorCx
namespace Go.Proofs.YtghdhhmlmdohkaaDoor
open Go Go.Den
set_option maxRecDepth 100000

theorem checks_law : LawRuns Tryd.prog HH 3 [26] := by
  refine lawRuns_of fun ess he => ?_
  obtain ⟨e0, _, rfl, h0, he⟩ := he.cons_inv
  cases he.nil_inv
  obtain ⟨h1, h2⟩ := ty_param h0
  simp only [List.zipWith_cons_cons, List.zipWith_nil_left, h2]
  exact SChecks_run h1

end Go.Proofs.YtghdhhmlmdohkaaDoor
