/- The equations of functions, as a program of mine prints them. -/
import Derived.Test.YtghdhhmlmdohkaaGreatDoorBase
namespace Go.Proofs.YtghdhhmlmdohkaaGreatDoor
open Go Go.Den
set_option maxRecDepth 100000
set_option maxHeartbeats 0

theorem eq_Number (run : RunF) (loop : LoopF) (a0 : Int) : bodyRun PP HH run loop none 142 [.e (.int .i64 a0)] [] = bif decide (a0 < 0) then (run none 142 [AV.e
  (E.int IntKind.i64 (IntKind.i64.wrap (0 - a0)))] []).bind fun rh => bif okHeap [] rh.2 then bif okRes PP 9 rh.fst then bif (decide (1 + rh.fst.val.data.toStr.length ≤
  9223372036854775807)) then some (Res.ret ((str ([45] ++ rh.fst.val.data.toStr))), []) else none else none else none else bif decide (a0 < 10) then bif ([E.int IntKind.u8
  (IntKind.u8.wrap (IntKind.i64.wrap (48 + a0)))]).all isByte then some (Res.ret ((str (unbytes ([E.int IntKind.u8 (IntKind.u8.wrap (IntKind.i64.wrap (48 + a0)))])))), [])
  else none else bif ([E.int IntKind.u8 (IntKind.u8.wrap (IntKind.i64.wrap (48 + a0.tmod 10)))]).all isByte then (run none 142 [(num (IntKind.i64.wrap (a0.tdiv
  10)))] []).bind fun rh => bif okHeap [] rh.2 then bif okRes PP 9 rh.fst then bif (decide (rh.fst.val.data.toStr.length + (unbytes ([E.int IntKind.u8 (IntKind.u8.wrap
  (IntKind.i64.wrap (48 + a0.tmod 10)))])).length ≤ 9223372036854775807)) then some (Res.ret ((str (rh.fst.val.data.toStr ++ unbytes ([E.int IntKind.u8 (IntKind.u8.wrap
  (IntKind.i64.wrap (48 + a0.tmod 10)))])))), []) else none else none else none else none := by kernel_rfl

end Go.Proofs.YtghdhhmlmdohkaaGreatDoor
