/- The reference's reader: entries, values, Value. -/
import Derived.Test.YtghdhhmlmdohkaaGreatDoorRc
namespace Go.Proofs.YtghdhhmlmdohkaaGreatDoor
open Go Go.Den
set_option maxRecDepth 100000

/-! ### entries -/

def entM (vd : List UInt8 → PR E) : Nat → List E → List E → List UInt8 → PR (List E × List E)
  | 0, _, _, l => .err 0 l
  | n + 1, ns, vs, l => (wordL l).andThen fun x l1 =>
      if 16 < x.length then .err 11 l
      else if lateB ns x then .err 22 l
      else (needL [58] l1).andThen fun _ l2 => (vd l2).andThen fun y l3 =>
        if hd l3 = 44 then entM vd n (ns ++ [.str x]) (vs ++ [y]) (l3.drop 1) else .ok (ns ++ [.str x], vs ++ [y]) l3
theorem nz_yes {e : Int} (h : e ≠ 0) : (!(e == 0)) = true := by rw [beq_false_of_ne h]; rfl

/-! ### value -/

end Go.Proofs.YtghdhhmlmdohkaaGreatDoor
