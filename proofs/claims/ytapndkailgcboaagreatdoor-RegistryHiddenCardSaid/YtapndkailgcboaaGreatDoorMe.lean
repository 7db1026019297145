/- The equations of functions, as a program of mine prints them. -/
import Derived.Test.YtapndkailgcboaaGreatDoorBase
namespace Go.Proofs.YtapndkailgcboaaGreatDoor
open Go Go.Den
set_option maxRecDepth 100000
set_option maxHeartbeats 0

theorem eq_Comp (run : RunF) (loop : LoopF) (a0 : Int) (a1_0 : Int) (a1_1 : Int) (a1_2 : Int) (a1_3 : List E) (a1_4 : List E) (a1_5 : List E) (a2_0 : Int) (a2_1 : Int) (a2_2 : Int)
  (a2_3 : List E) (a2_4 : List E) (a2_5 : List E) : bodyRun PP HH run loop none 16 [.e (.int .i64 a0), .agg [.e (.int .i64 a1_0), .e (.int .i64 a1_1), .e (.int
  .i64 a1_2), .e (.sl 9 a1_3), .e (.sl 31 a1_4), .e (.sl 65 a1_5)], .agg [.e (.int .i64 a2_0), .e (.int .i64 a2_1), .e (.int .i64 a2_2), .e (.sl 9 a2_3), .e (.sl 31 a2_4), .e (.sl
  65 a2_5)]] [] = bif a0 == 1 then (run none 176 [AV.agg [], AV.agg [(num a1_0), (num a1_1), (num a1_2), AV.e (E.sl 9
  a1_3), AV.e (E.sl 31 a1_4), AV.e (E.sl 65 a1_5)], AV.agg [(num a2_0), (num a2_1), (num a2_2), AV.e (E.sl 9 a2_3), AV.e
  (E.sl 31 a2_4), AV.e (E.sl 65 a2_5)]] []).bind fun rh => bif okHeap [] rh.2 then bif okRes PP 4 rh.fst then some (Res.ret ((yes rh.fst.val.data.toBool)), []) else
  none else none else bif a0 == 2 then (run none 177 [AV.agg [], AV.agg [(num a1_0), (num a1_1), (num a1_2), AV.e (E.sl 9
  a1_3), AV.e (E.sl 31 a1_4), AV.e (E.sl 65 a1_5)], AV.agg [(num a2_0), (num a2_1), (num a2_2), AV.e (E.sl 9 a2_3), AV.e
  (E.sl 31 a2_4), AV.e (E.sl 65 a2_5)]] []).bind fun rh => bif okHeap [] rh.2 then bif okRes PP 4 rh.fst then some (Res.ret ((yes rh.fst.val.data.toBool)), []) else
  none else none else bif a0 == 3 then (run none 181 [AV.agg [], AV.agg [(num a1_0), (num a1_1), (num a1_2), AV.e (E.sl 9
  a1_3), AV.e (E.sl 31 a1_4), AV.e (E.sl 65 a1_5)], AV.agg [(num a2_0), (num a2_1), (num a2_2), AV.e (E.sl 9 a2_3), AV.e
  (E.sl 31 a2_4), AV.e (E.sl 65 a2_5)]] []).bind fun rh => bif okHeap [] rh.2 then bif okRes PP 4 rh.fst then some (Res.ret ((yes rh.fst.val.data.toBool)), []) else
  none else none else bif a0 == 4 then (run none 182 [AV.agg [], AV.agg [(num a1_0), (num a1_1), (num a1_2), AV.e (E.sl 9
  a1_3), AV.e (E.sl 31 a1_4), AV.e (E.sl 65 a1_5)], AV.agg [(num a2_0), (num a2_1), (num a2_2), AV.e (E.sl 9 a2_3), AV.e
  (E.sl 31 a2_4), AV.e (E.sl 65 a2_5)]] []).bind fun rh => bif okHeap [] rh.2 then bif okRes PP 4 rh.fst then some (Res.ret ((yes rh.fst.val.data.toBool)), []) else
  none else none else some (Res.ret ((yes false)), []) := by kernel_rfl
theorem eq_RComp (run : RunF) (loop : LoopF) (a0 : Int) (a1_0 : Int) (a1_1 : Int) (a1_2 : Int) (a1_3 : List E) (a1_4 : List E) (a1_5 : List E) (a2_0 : Int) (a2_1 : Int) (a2_2 :
  Int) (a2_3 : List E) (a2_4 : List E) (a2_5 : List E) : bodyRun PP HH run loop none 17 [.e (.int .i64 a0), .agg [.e (.int .i64 a1_0), .e (.int .i64 a1_1), .e
  (.int .i64 a1_2), .e (.sl 9 a1_3), .e (.sl 31 a1_4), .e (.sl 65 a1_5)], .agg [.e (.int .i64 a2_0), .e (.int .i64 a2_1), .e (.int .i64 a2_2), .e (.sl 9 a2_3), .e (.sl 31 a2_4), .e
  (.sl 65 a2_5)]] [] = bif a0 == 1 then some (Res.ret ((yes true)), []) else bif a0 == 2 then (run none 40 [AV.agg [(num a2_0), AV.e (E.int IntKind.i64
  a2_1), (num a2_2), AV.e (E.sl 9 a2_3), AV.e (E.sl 31 a2_4), AV.e (E.sl 65 a2_5)], AV.agg [(num a1_0), (num a1_1), AV.e
  (E.int IntKind.i64 a1_2), AV.e (E.sl 9 a1_3), AV.e (E.sl 31 a1_4), AV.e (E.sl 65 a1_5)]] []).bind fun rh => bif okHeap [] rh.2 then bif okRes PP 4 rh.fst then some
  (Res.ret ((yes rh.fst.val.data.toBool)), []) else none else none else bif a0 == 3 then (run none 40 [AV.agg [(num a1_0), (num a1_1),
  (num a1_2), AV.e (E.sl 9 a1_3), AV.e (E.sl 31 a1_4), AV.e (E.sl 65 a1_5)], AV.agg [(num a2_0), (num a2_1), AV.e (E.int
  IntKind.i64 a2_2), AV.e (E.sl 9 a2_3), AV.e (E.sl 31 a2_4), AV.e (E.sl 65 a2_5)]] []).bind fun rh => bif okHeap [] rh.2 then bif okRes PP 4 rh.fst then some (Res.ret (AV.e
  (E.bool rh.fst.val.data.toBool)), []) else none else none else bif a0 == 4 then (run none 40 [AV.agg [(num a2_0), (num a2_1), AV.e (E.int
  IntKind.i64 a2_2), AV.e (E.sl 9 a2_3), AV.e (E.sl 31 a2_4), AV.e (E.sl 65 a2_5)], AV.agg [(num a1_0), (num a1_1), AV.e (E.int IntKind.i64
  a1_2), AV.e (E.sl 9 a1_3), AV.e (E.sl 31 a1_4), AV.e (E.sl 65 a1_5)]] []).bind fun rh => bif okHeap [] rh.2 then bif okRes PP 4 rh.fst then bif rh.fst.val.data.toBool ==
  true then (run none 40 [AV.agg [(num a1_0), (num a1_1), (num a1_2), AV.e (E.sl 9 a1_3), AV.e (E.sl 31 a1_4), AV.e (E.sl
  65 a1_5)], AV.agg [(num a2_0), (num a2_1), (num a2_2), AV.e (E.sl 9 a2_3), AV.e (E.sl 31 a2_4), AV.e (E.sl 65 a2_5)]]
  []).bind fun rh => bif okHeap [] rh.2 then bif okRes PP 4 rh.fst then some (Res.ret ((yes rh.fst.val.data.toBool)), []) else none else none else some (Res.ret
  ((yes false)), []) else none else none else some (Res.ret ((yes false)), []) := by kernel_rfl
theorem eq_RMode (run : RunF) (loop : LoopF) (a0 : Int) : bodyRun PP HH run loop none 35 [.e (.int .i64 a0)] [] = some (Res.ret ((yes (bif decide (1 ≤ a0)
  then decide (a0 ≤ 4) else false))), []) := by kernel_rfl
theorem eq_fNone (run : RunF) (loop : LoopF) (a1_0 : Int) (a1_1 : Int) (a1_2 : Int) (a1_3 : List E) (a1_4 : List E) (a1_5 : List E) (a2_0 : Int) (a2_1 : Int) (a2_2 : Int) (a2_3 :
  List E) (a2_4 : List E) (a2_5 : List E) : bodyRun PP HH run loop none 176 [.agg [], .agg [.e (.int .i64 a1_0), .e (.int .i64 a1_1), .e (.int .i64 a1_2), .e (.sl
  9 a1_3), .e (.sl 31 a1_4), .e (.sl 65 a1_5)], .agg [.e (.int .i64 a2_0), .e (.int .i64 a2_1), .e (.int .i64 a2_2), .e (.sl 9 a2_3), .e (.sl 31 a2_4), .e (.sl 65 a2_5)]] [] = some
  (Res.ret ((yes true)), []) := by kernel_rfl
theorem eq_fBack (run : RunF) (loop : LoopF) (a1_0 : Int) (a1_1 : Int) (a1_2 : Int) (a1_3 : List E) (a1_4 : List E) (a1_5 : List E) (a2_0 : Int) (a2_1 : Int) (a2_2 : Int) (a2_3 :
  List E) (a2_4 : List E) (a2_5 : List E) : bodyRun PP HH run loop none 177 [.agg [], .agg [.e (.int .i64 a1_0), .e (.int .i64 a1_1), .e (.int .i64 a1_2), .e (.sl
  9 a1_3), .e (.sl 31 a1_4), .e (.sl 65 a1_5)], .agg [.e (.int .i64 a2_0), .e (.int .i64 a2_1), .e (.int .i64 a2_2), .e (.sl 9 a2_3), .e (.sl 31 a2_4), .e (.sl 65 a2_5)]] [] = (run
  none 178 [AV.agg [(num a2_0), (num a2_1), (num a2_2), AV.e (E.sl 9 a2_3), AV.e (E.sl 31 a2_4), AV.e (E.sl 65 a2_5)],
  AV.agg [(num a1_0), (num a1_1), (num a1_2), AV.e (E.sl 9 a1_3), AV.e (E.sl 31 a1_4), AV.e (E.sl 65 a1_5)]] []).bind fun
  rh => bif okHeap [] rh.2 then bif okRes PP 4 rh.fst then some (Res.ret ((yes rh.fst.val.data.toBool)), []) else none else none := by kernel_rfl
theorem eq_fForth (run : RunF) (loop : LoopF) (a1_0 : Int) (a1_1 : Int) (a1_2 : Int) (a1_3 : List E) (a1_4 : List E) (a1_5 : List E) (a2_0 : Int) (a2_1 : Int) (a2_2 : Int) (a2_3 :
  List E) (a2_4 : List E) (a2_5 : List E) : bodyRun PP HH run loop none 181 [.agg [], .agg [.e (.int .i64 a1_0), .e (.int .i64 a1_1), .e (.int .i64 a1_2), .e (.sl
  9 a1_3), .e (.sl 31 a1_4), .e (.sl 65 a1_5)], .agg [.e (.int .i64 a2_0), .e (.int .i64 a2_1), .e (.int .i64 a2_2), .e (.sl 9 a2_3), .e (.sl 31 a2_4), .e (.sl 65 a2_5)]] [] = (run
  none 178 [AV.agg [(num a1_0), (num a1_1), (num a1_2), AV.e (E.sl 9 a1_3), AV.e (E.sl 31 a1_4), AV.e (E.sl 65 a1_5)],
  AV.agg [(num a2_0), (num a2_1), (num a2_2), AV.e (E.sl 9 a2_3), AV.e (E.sl 31 a2_4), AV.e (E.sl 65 a2_5)]] []).bind fun
  rh => bif okHeap [] rh.2 then bif okRes PP 4 rh.fst then some (Res.ret ((yes rh.fst.val.data.toBool)), []) else none else none := by kernel_rfl
theorem eq_fFull (run : RunF) (loop : LoopF) (a1_0 : Int) (a1_1 : Int) (a1_2 : Int) (a1_3 : List E) (a1_4 : List E) (a1_5 : List E) (a2_0 : Int) (a2_1 : Int) (a2_2 : Int) (a2_3 :
  List E) (a2_4 : List E) (a2_5 : List E) : bodyRun PP HH run loop none 182 [.agg [], .agg [.e (.int .i64 a1_0), .e (.int .i64 a1_1), .e (.int .i64 a1_2), .e (.sl
  9 a1_3), .e (.sl 31 a1_4), .e (.sl 65 a1_5)], .agg [.e (.int .i64 a2_0), .e (.int .i64 a2_1), .e (.int .i64 a2_2), .e (.sl 9 a2_3), .e (.sl 31 a2_4), .e (.sl 65 a2_5)]] [] = (run
  none 178 [AV.agg [(num a2_0), (num a2_1), (num a2_2), AV.e (E.sl 9 a2_3), AV.e (E.sl 31 a2_4), AV.e (E.sl 65 a2_5)],
  AV.agg [(num a1_0), (num a1_1), (num a1_2), AV.e (E.sl 9 a1_3), AV.e (E.sl 31 a1_4), AV.e (E.sl 65 a1_5)]] []).bind fun
  rh => bif okHeap [] rh.2 then bif okRes PP 4 rh.fst then bif rh.fst.val.data.toBool == true then (run none 178 [AV.agg [(num a1_0), AV.e (E.int
  IntKind.i64 a1_1), (num a1_2), AV.e (E.sl 9 a1_3), AV.e (E.sl 31 a1_4), AV.e (E.sl 65 a1_5)], AV.agg [(num a2_0), AV.e (E.int IntKind.i64
  a2_1), (num a2_2), AV.e (E.sl 9 a2_3), AV.e (E.sl 31 a2_4), AV.e (E.sl 65 a2_5)]] []).bind fun rh => bif okHeap [] rh.2 then bif okRes PP 4 rh.fst then
  some (Res.ret ((yes rh.fst.val.data.toBool)), []) else none else none else some (Res.ret ((yes false)), []) else none else none := by kernel_rfl

end Go.Proofs.YtapndkailgcboaaGreatDoor
