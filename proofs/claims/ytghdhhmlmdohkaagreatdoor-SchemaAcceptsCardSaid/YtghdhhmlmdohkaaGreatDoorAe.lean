/- The equations of functions, as a program of mine prints them. -/
import Derived.Test.YtghdhhmlmdohkaaGreatDoorBase
namespace Go.Proofs.YtghdhhmlmdohkaaGreatDoor
open Go Go.Den
set_option maxRecDepth 100000
set_option maxHeartbeats 0

theorem eq_Accepts (run : RunF) (loop : LoopF) (a0_0 : Int) (a0_1 : Int) (a0_2 : Int) (a0_3 : List E) (a0_4 : List E) (a0_5 : List E) (a1 : List UInt8) : bodyRun
  PP HH run loop none 21 [.agg [.e (.int .i64 a0_0), .e (.int .i64 a0_1), .e (.int .i64 a0_2), .e (.sl 9 a0_3), .e (.sl 27 a0_4), .e (.sl 81 a0_5)], .e (.str a1)]
  [] = (run none 19 [(str a1)] []).bind fun rh => bif okHeap [] rh.2 then bif okRes PP 40 rh.fst then bif !(rh.fst.val.comp 2).data.toInt == 0 then some (Res.ret
  ((yes false)), []) else (run none 20 [AV.agg [(num a0_0), (num a0_1), (num a0_2), AV.e (E.sl 9 a0_3), AV.e (E.sl
  27 a0_4), AV.e (E.sl 81 a0_5)], AV.agg [(num ((rh.fst.val.comp 0).data.cell 0).toInt), (num ((rh.fst.val.comp 0).data.cell 1).toInt), AV.e
  (E.str ((rh.fst.val.comp 0).data.cell 2).toStr), AV.e (E.sl 9 ((rh.fst.val.comp 0).data.cell 3).toList), AV.e (E.sl 39 ((rh.fst.val.comp 0).data.cell 4).toList)]] []).bind fun rh
  => bif okHeap [] rh.2 then bif okRes PP 42 rh.fst then some (Res.ret ((yes (rh.fst.val.comp 1).data.toBool)), []) else none else none else none else none := by
  kernel_rfl
theorem eq_SAccepts (run : RunF) (loop : LoopF) (a0_0 : Int) (a0_1 : Int) (a0_2 : Int) (a0_3 : List E) (a0_4 : List E) (a0_5 : List E) (a1 : List UInt8) : bodyRun
  PP HH run loop none 4 [.agg [.e (.int .i64 a0_0), .e (.int .i64 a0_1), .e (.int .i64 a0_2), .e (.sl 9 a0_3), .e (.sl 27 a0_4), .e (.sl 81 a0_5)], .e (.str a1)]
  [] = (run none 17 [AV.agg [(num a0_0), (num a0_1), (num a0_2), AV.e (E.sl 9 a0_3), AV.e (E.sl 27 a0_4), AV.e (E.sl 81
  a0_5)]] []).bind fun rh => bif okHeap [] rh.2 then bif okRes PP 4 rh.fst then bif (!rh.fst.val.data.toBool) == false then (run none 18 [AV.agg [AV.e (E.int IntKind.i64
  a0_0), (num a0_1), (num a0_2), AV.e (E.sl 9 a0_3), AV.e (E.sl 27 a0_4), AV.e (E.sl 81 a0_5)]] []).bind fun rh => bif okHeap [] rh.2 then bif
  okRes PP 28 rh.fst then bif bif !rh.fst.val.data.toInt == 0 then true else decide (3000 < (↑a1.length : Int)) then some (Res.ret ((yes true)), []) else (run none
  19 [(str a1)] []).bind fun rh => bif okHeap [] rh.2 then bif okRes PP 40 rh.fst then bif (rh.fst.val.comp 2).data.toInt == 0 then (run none 20 [AV.agg [AV.e (E.int
  IntKind.i64 a0_0), (num a0_1), (num a0_2), AV.e (E.sl 9 a0_3), AV.e (E.sl 27 a0_4), AV.e (E.sl 81 a0_5)], AV.agg [AV.e (E.int IntKind.i64
  ((rh.fst.val.comp 0).data.cell 0).toInt), (num ((rh.fst.val.comp 0).data.cell 1).toInt), (str ((rh.fst.val.comp 0).data.cell 2).toStr), AV.e (E.sl 9
  ((rh.fst.val.comp 0).data.cell 3).toList), AV.e (E.sl 39 ((rh.fst.val.comp 0).data.cell 4).toList)]] []).bind fun rh => bif okHeap [] rh.2 then bif okRes PP 42 rh.fst then
  (run none 21 [AV.agg [(num a0_0), (num a0_1), (num a0_2), AV.e (E.sl 9 a0_3), AV.e (E.sl 27 a0_4), AV.e (E.sl 81 a0_5)],
  (str a1)] []).bind fun rh_1 => bif okHeap [] rh_1.2 then bif okRes PP 4 rh_1.fst then bif (rh_1.fst.val.data.toBool == (rh.fst.val.comp 1).data.toBool) == true then
  (run none 22 [AV.agg [(num a0_0), (num a0_1), (num a0_2), AV.e (E.sl 9 a0_3), AV.e (E.sl 27 a0_4), AV.e (E.sl 81 a0_5)],
  (str a1)] []).bind fun rh_2 => bif okHeap [] rh_2.2 then bif okRes PP 4 rh_2.fst then some (Res.ret ((yes ((rh.fst.val.comp 1).data.toBool ==
  rh_2.fst.val.data.toBool))), []) else none else none else some (Res.ret ((yes false)), []) else none else none else none else none else (run none 21 [AV.agg [AV.e (E.int
  IntKind.i64 a0_0), (num a0_1), (num a0_2), AV.e (E.sl 9 a0_3), AV.e (E.sl 27 a0_4), AV.e (E.sl 81 a0_5)], (str a1)] []).bind fun rh
  => bif okHeap [] rh.2 then bif okRes PP 4 rh.fst then bif (rh.fst.val.data.toBool == false) == true then (run none 22 [AV.agg [(num a0_0), AV.e (E.int
  IntKind.i64 a0_1), (num a0_2), AV.e (E.sl 9 a0_3), AV.e (E.sl 27 a0_4), AV.e (E.sl 81 a0_5)], (str a1)] []).bind fun rh => bif okHeap [] rh.2 then bif
  okRes PP 4 rh.fst then some (Res.ret ((yes (false == rh.fst.val.data.toBool))), []) else none else none else some (Res.ret ((yes false)), []) else none
  else none else none else none else none else none else some (Res.ret ((yes true)), []) else none else none := by kernel_rfl
theorem eq_RAccepts (run : RunF) (loop : LoopF) (a0_0 : Int) (a0_1 : Int) (a0_2 : Int) (a0_3 : List E) (a0_4 : List E) (a0_5 : List E) (a1 : List UInt8) : bodyRun
  PP HH run loop none 22 [.agg [.e (.int .i64 a0_0), .e (.int .i64 a0_1), .e (.int .i64 a0_2), .e (.sl 9 a0_3), .e (.sl 27 a0_4), .e (.sl 81 a0_5)], .e (.str a1)]
  [] = (run none 58 [(str a1)] []).bind fun rh => bif okHeap [] rh.2 then bif okRes PP 40 rh.fst then bif !(rh.fst.val.comp 2).data.toInt == 0 then some (Res.ret
  ((yes false)), []) else (run none 59 [AV.agg [(num a0_0), (num a0_1), (num a0_2), AV.e (E.sl 9 a0_3), AV.e (E.sl
  27 a0_4), AV.e (E.sl 81 a0_5)], AV.agg [(num ((rh.fst.val.comp 0).data.cell 0).toInt), (num ((rh.fst.val.comp 0).data.cell 1).toInt), AV.e
  (E.str ((rh.fst.val.comp 0).data.cell 2).toStr), AV.e (E.sl 9 ((rh.fst.val.comp 0).data.cell 3).toList), AV.e (E.sl 39 ((rh.fst.val.comp 0).data.cell 4).toList)]] []).bind fun rh
  => bif okHeap [] rh.2 then bif okRes PP 42 rh.fst then some (Res.ret ((yes (rh.fst.val.comp 1).data.toBool)), []) else none else none else none else none := by
  kernel_rfl

end Go.Proofs.YtghdhhmlmdohkaaGreatDoor
