/- The equations of functions, as a program of mine prints them. -/
import Derived.Test.YtmocefjnplmibaaGreatDoorBase
namespace Go.Proofs.YtmocefjnplmibaaGreatDoor
open Go Go.Den
set_option maxRecDepth 100000
set_option maxHeartbeats 0

theorem eq_Rec1 (run : RunF) (loop : LoopF) (e z : Int) (a0_0 : Int) (a0_1 : Int) (a0_2 : Int) (a0_3 : Int) (a0_4 : Int) (a0_5 : Bool) (a0_6 : List UInt8) (a0_7 : List UInt8) (a0_8
  : List UInt8) (a0_9 : Int) (a0_10 : List UInt8) (a0_11 : List UInt8) (a0_12 : Int) (a0_13 : Int) (a0_14 : Int) (a0_15 : List UInt8) (a0_16 : List UInt8) (a0_17 : List UInt8)
  (a0_18 : List UInt8) (a0_19 : Bool) (a0_20 : List E) (a0_21 : List UInt8) (a0_22 : List UInt8) (a0_23 : Int) (a0_24 : Bool) (a0_25 : Int) (a0_26 : Int) (a0_27 : List UInt8)
  (a0_28 : Int) (a0_29 : List E) : bodyRun PP HH run loop (some (some (.ifc 73 (.agg [.int .i64 e])))) 55 [.ptr 0 0, .ptr 1 0] [.box [.e (.int .i64 a0_0), .e (.int
  .i64 a0_1), .e (.int .i64 a0_2), .e (.int .i64 a0_3), .e (.int .i64 a0_4), .e (.bool a0_5), .e (.str a0_6), .e (.str a0_7), .e (.str a0_8), .e (.int .i64 a0_9), .e (.str a0_10),
  .e (.str a0_11), .e (.int .i64 a0_12), .e (.int .i64 a0_13), .e (.int .i64 a0_14), .e (.str a0_15), .e (.str a0_16), .e (.str a0_17), .e (.str a0_18), .e (.bool a0_19), .e (.sl
  97 a0_20), .e (.str a0_21), .e (.str a0_22), .e (.int .i64 a0_23), .e (.bool a0_24), .e (.int .i64 a0_25), .e (.int .i64 a0_26), .e (.str a0_27), .e (.int .i64 a0_28), .e (.sl 97
  a0_29)], .box [.e (.int .i64 z)]] = some (Res.rcv (AV.tup []), [Ob.box [(num 0), (num 0), (num 0), AV.e (E.int
  IntKind.i64 0), (num 0), (yes false), (str []), (str []), (str []), (num 0), (str []), (str []),
  (num 0), (num 0), (num 0), (str []), (str []), (str []), (str []), (yes false),
  AV.own 2 97 [], (str []), (str []), (num 0), (yes false), (num 0), (num 0), (str []), AV.e
  (E.int IntKind.i64 0), AV.own 3 97 []], Ob.box [(num e)], Ob.vec 97 0, Ob.vec 97 0]) := by kernel_rfl
theorem eq_Rec2 (run : RunF) (loop : LoopF) (a0_0 : Int) (a0_1 : Int) (a0_2 : Int) (a0_3 : Int) (a0_4 : Int) (a0_5 : Bool) (a0_6 : List UInt8) (a0_7 : List UInt8) (a0_8 : List
  UInt8) (a0_9 : Int) (a0_10 : List UInt8) (a0_11 : List UInt8) (a0_12 : Int) (a0_13 : Int) (a0_14 : Int) (a0_15 : List UInt8) (a0_16 : List UInt8) (a0_17 : List UInt8) (a0_18 :
  List UInt8) (a0_19 : Bool) (a0_20 : List E) (a0_21 : List UInt8) (a0_22 : List UInt8) (a0_23 : Int) (a0_24 : Bool) (a0_25 : Int) (a0_26 : Int) (a0_27 : List UInt8) (a0_28 : Int)
  (a0_29 : List E) : bodyRun PP HH run loop (some none) 55 [.ptr 0 0, .ptr 1 0] [.box [.e (.int .i64 a0_0), .e (.int .i64 a0_1), .e (.int .i64 a0_2), .e (.int .i64
  a0_3), .e (.int .i64 a0_4), .e (.bool a0_5), .e (.str a0_6), .e (.str a0_7), .e (.str a0_8), .e (.int .i64 a0_9), .e (.str a0_10), .e (.str a0_11), .e (.int .i64 a0_12), .e (.int
  .i64 a0_13), .e (.int .i64 a0_14), .e (.str a0_15), .e (.str a0_16), .e (.str a0_17), .e (.str a0_18), .e (.bool a0_19), .e (.sl 97 a0_20), .e (.str a0_21), .e (.str a0_22), .e
  (.int .i64 a0_23), .e (.bool a0_24), .e (.int .i64 a0_25), .e (.int .i64 a0_26), .e (.str a0_27), .e (.int .i64 a0_28), .e (.sl 97 a0_29)], .box [.e (.int .i64 0)]] = some
  (Res.ret (AV.tup []), [Ob.box [(num a0_0), (num a0_1), (num a0_2), (num a0_3), AV.e (E.int IntKind.i64
  a0_4), (yes a0_5), (str a0_6), (str a0_7), (str a0_8), (num a0_9), (str a0_10), (str a0_11), AV.e (E.int IntKind.i64
  a0_12), (num a0_13), (num a0_14), (str a0_15), (str a0_16), (str a0_17), (str a0_18), (yes a0_19), AV.e
  (E.sl 97 a0_20), (str a0_21), (str a0_22), (num a0_23), (yes a0_24), (num a0_25), (num a0_26), AV.e
  (E.str a0_27), (num a0_28), AV.e (E.sl 97 a0_29)], Ob.box [(num 0)]]) := by kernel_rfl

end Go.Proofs.YtmocefjnplmibaaGreatDoor
