/- The equations of functions, as a program of mine prints them. -/
import Derived.Test.YtmocefjnplmibaaGreatDoorBase
namespace Go.Proofs.YtmocefjnplmibaaGreatDoor
open Go Go.Den
set_option maxRecDepth 100000
set_option maxHeartbeats 0

theorem eq_word (run : RunF) (loop : LoopF) (a0 : Int) : bodyRun PP HH run loop none 40 [num a0] [] = bif a0 == 1 then some (Res.ret ((str [101, 120, 99, 104, 97, 110, 103,
  101])), []) else bif a0 == 2 then some (Res.ret ((str [113, 117, 101, 117, 101])), []) else bif a0 == 3 then some (Res.ret ((str [98, 105, 110, 100])), []) else bif a0 == 4
  then some (Res.ret ((str [117, 110, 98, 105, 110, 100])), []) else bif a0 == 5 then some (Res.ret ((str [112, 117, 98, 108, 105, 115, 104])), []) else bif a0 == 6 then some
  (Res.ret ((str [99, 111, 110, 115, 117, 109, 101])), []) else bif a0 == 7 then some (Res.ret ((str [99, 97, 110, 99, 101, 108])), []) else bif a0 == 8 then some (Res.ret
  ((str [97, 99, 107])), []) else bif a0 == 9 then some (Res.ret ((str [110, 97, 99, 107])), []) else bif a0 == 10 then some (Res.ret ((str [98, 101, 103, 105, 110])), [])
  else bif a0 == 11 then some (Res.ret ((str [99, 111, 109, 109, 105, 116])), []) else bif a0 == 12 then some (Res.ret ((str [114, 111, 108, 108, 98, 97, 99, 107])), []) else
  bif a0 == 13 then some (Res.ret ((str [112, 117, 114, 103, 101])), []) else bif a0 == 14 then some (Res.ret ((str [100, 101, 108, 101, 116, 101])), []) else bif a0 == 15
  then some (Res.ret ((str [100, 101, 115, 99, 114, 105, 98, 101])), []) else some (Res.ret ((str [])), []) := by kernel_rfl
theorem eq_exWord (run : RunF) (loop : LoopF) (a0 : Int) : bodyRun PP HH run loop none 42 [num a0] [] = bif a0 == 1 then some (Res.ret (str [100, 105, 114, 101, 99, 116]), [])
  else bif a0 == 2 then some (Res.ret ((str [102, 97, 110, 111, 117, 116])), []) else bif a0 == 3 then some (Res.ret ((str [116, 111, 112, 105, 99])), []) else bif a0 == 4
  then some (Res.ret ((str [104, 101, 97, 100, 101, 114, 115])), []) else some (Res.ret ((str [])), []) := by kernel_rfl
theorem eq_RNumber (run : RunF) (loop : LoopF) (a0 : Int) : bodyRun PP HH run loop none 48 [num a0] [] = bif decide (0 ≤ a0) then (run none 90 [AV.e (E.int IntKind.u64
  (IntKind.u64.wrap a0))] []).bind fun rh => bif okHeap [] rh.2 then bif okRes PP 9 rh.fst then some (Res.ret ((str rh.fst.val.data.toStr)), []) else none else none else (run
  none 90 [AV.e (E.int IntKind.u64 (IntKind.u64.wrap (IntKind.u64.wrap (IntKind.i64.wrap (0 - IntKind.i64.wrap (a0 + 1))) + 1)))] []).bind fun rh => bif okHeap [] rh.2 then
  bif okRes PP 9 rh.fst then bif (decide (1 + rh.fst.val.data.toStr.length ≤ 9223372036854775807)) then some (Res.ret ((str ([45] ++ rh.fst.val.data.toStr))), []) else none
  else none else none := by kernel_rfl
theorem eq_positive (run : RunF) (loop : LoopF) (a0 : Int) : bodyRun PP HH run loop none 90 [.e (.int .u64 a0)] [] = bif decide (a0 < 10) then bif decide (0 ≤ a0) && decide
  (a0 ≤ IntKind.u64.wrap (a0 + 1)) && decide (IntKind.u64.wrap (a0 + 1) ≤ (↑16 : Int)) then some (Res.ret ((str (List.drop a0.toNat (List.take (IntKind.u64.wrap (a0 +
  1)).toNat ([48, 49, 50, 51, 52, 53, 54, 55, 56, 57, 97, 98, 99, 100, 101, 102] : List UInt8))))), []) else none else bif decide (0 ≤ a0.tmod 10) && decide (a0.tmod 10 ≤
  IntKind.u64.wrap (a0.tmod 10 + 1)) && decide (IntKind.u64.wrap (a0.tmod 10 + 1) ≤ (↑16 : Int)) then (run none 90 [AV.e (E.int IntKind.u64 (IntKind.u64.wrap (a0.tdiv 10)))]
  []).bind fun rh => bif okHeap [] rh.2 then bif okRes PP 9 rh.fst then bif (decide (rh.fst.val.data.toStr.length + (List.drop (a0.tmod 10).toNat (List.take (IntKind.u64.wrap
  (a0.tmod 10 + 1)).toNat ([48, 49, 50, 51, 52, 53, 54, 55, 56, 57, 97, 98, 99, 100, 101, 102] : List UInt8))).length ≤ 9223372036854775807)) then some (Res.ret ((str
  (rh.fst.val.data.toStr ++ List.drop (a0.tmod 10).toNat (List.take (IntKind.u64.wrap (a0.tmod 10 + 1)).toNat ([48, 49, 50, 51, 52, 53, 54, 55, 56, 57, 97, 98, 99, 100, 101,
  102] : List UInt8))))), []) else none else none else none else none := by kernel_rfl
end Go.Proofs.YtmocefjnplmibaaGreatDoor
