/- What check says of a schema; the reference's options. -/
import Derived.Test.YtapndkailgcboaaGreatDoorCv
namespace Go.Proofs.YtapndkailgcboaaGreatDoor
open Go Go.Den
set_option maxRecDepth 100000

/-- The error of a list of options. -/
def optsS (os : List E) : Int := if os.length = 0 then 1 else if 16 < os.length then 5 else ordS true [] (os.map nmE)
/-- The first error of a list of fields. -/
def fldsS (c : E → Int) : Bool → List UInt8 → List E → Int
  | _, _, [] => 0
  | f, p, x :: r => bif namedS (nmE x) p f == 0 then (bif c (fieldTy x) == 0 then fldsS c false (nmE x) r else c (fieldTy x)) else namedS (nmE x) p f
/-- What check says, by the depth. -/
def checkS : Nat → E → Int
  | 0, _ => 0
  | n + 1, .agg [.int _ k, .int _ mn, .int _ mx, .sl _ os, .sl _ fs, .sl _ gs] =>
    if k < 1 ∨ 7 < k then 10 else if unusedS k mn mx os.length fs.length gs.length then 28
    else if k = 1 then rangeS mn mx (-4611686018427387904) 4611686018427387904
    else if k = 2 then rangeS mn mx 0 256
    else if k = 4 then optsS os
    else if k = 5 then (if rangeS mn mx 0 32 = 0 then checkS n (fs.getD 0 .nili) else rangeS mn mx 0 32)
    else if k = 6 then (if 16 < gs.length then 5 else fldsS (checkS n) true [] gs)
    else 0
  | _, _ => 0

end Go.Proofs.YtapndkailgcboaaGreatDoor
