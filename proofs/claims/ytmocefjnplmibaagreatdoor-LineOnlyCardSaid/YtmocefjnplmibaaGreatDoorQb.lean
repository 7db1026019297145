/- Quote: the reference's. -/
import Derived.Test.YtmocefjnplmibaaGreatDoorQa
namespace Go.Proofs.YtmocefjnplmibaaGreatDoor
open Go Go.Den
set_option maxRecDepth 100000

abbrev rquF (s t : List UInt8) (i : Int) : Fr := (((List.replicate 19 AV.undef).set 0 (.e (.str s))).set 3 (.e (.str t))).set 4 (.e (.int .i64 i))
def rquX (t : List UInt8) : Out := { ex := .exit 0, fr := [AV.undef, AV.undef, AV.undef, str t] ++ List.replicate 15 AV.undef, hp := [], df := [] }
end Go.Proofs.YtmocefjnplmibaaGreatDoor
