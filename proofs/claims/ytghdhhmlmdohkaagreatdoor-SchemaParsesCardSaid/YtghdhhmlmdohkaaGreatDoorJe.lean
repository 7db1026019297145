/- The equations of functions, as a program of mine prints them. -/
import Derived.Test.YtghdhhmlmdohkaaGreatDoorBase
namespace Go.Proofs.YtghdhhmlmdohkaaGreatDoor
open Go Go.Den
set_option maxRecDepth 100000
set_option maxHeartbeats 0

theorem eq_bounds (run : RunF) (loop : LoopF) (p0_0 : List UInt8) (p0_1 : Int) : bodyRun PP HH run loop none 137 [.ptr 0 0] [.box [.e (.str p0_0), .e (.int .i64
  p0_1)]] = (run none 144 [AV.ptr 0 0] [Ob.box [(str p0_0), (num p0_1)]]).bind fun rh => bif okHeap [Ob.box [(str p0_0), AV.e (E.int IntKind.i64
  p0_1)]] rh.2 then bif rh.fst.isPan then some (Res.pan rh.fst.why, [Ob.box [(str ((rh.snd.ob 0).cell 0).data.toStr), (num ((rh.snd.ob 0).cell
  1).data.toInt)]]) else bif okRes PP 3 rh.fst then (run none 133 [AV.ptr 0 0, (str [46, 46])] [Ob.box [(str ((rh.snd.ob 0).cell 0).data.toStr), AV.e (E.int
  IntKind.i64 ((rh.snd.ob 0).cell 1).data.toInt)]]).bind fun rh_1 => bif okHeap [Ob.box [(str ((rh.snd.ob 0).cell 0).data.toStr), (num ((rh.snd.ob 0).cell
  1).data.toInt)]] rh_1.2 then bif rh_1.fst.isPan then some (Res.pan rh_1.fst.why, [Ob.box [(str ((rh_1.snd.ob 0).cell 0).data.toStr), (num ((rh_1.snd.ob
  0).cell 1).data.toInt)]]) else bif okRes PP 0 rh_1.fst then (run none 144 [AV.ptr 0 0] [Ob.box [(str ((rh_1.snd.ob 0).cell 0).data.toStr), AV.e (E.int IntKind.i64
  ((rh_1.snd.ob 0).cell 1).data.toInt)]]).bind fun rh_2 => bif okHeap [Ob.box [(str ((rh_1.snd.ob 0).cell 0).data.toStr), (num ((rh_1.snd.ob 0).cell
  1).data.toInt)]] rh_2.2 then bif rh_2.fst.isPan then some (Res.pan rh_2.fst.why, [Ob.box [(str ((rh_2.snd.ob 0).cell 0).data.toStr), (num ((rh_2.snd.ob
  0).cell 1).data.toInt)]]) else bif okRes PP 3 rh_2.fst then some (Res.ret (AV.tup [(num rh.fst.val.data.toInt), AV.e (E.int IntKind.i64
  rh_2.fst.val.data.toInt)]), [Ob.box [(str ((rh_2.snd.ob 0).cell 0).data.toStr), (num ((rh_2.snd.ob 0).cell 1).data.toInt)]]) else none else none else
  none else none else none else none := by kernel_rfl
theorem eq_open (run : RunF) (loop : LoopF) (p0_0 : List UInt8) (p0_1 : Int) (a1 : Int) (a2 : Int) (a3 : Int) : bodyRun PP HH run loop none 134 [.ptr 0 0, .e (.int
  .i64 a1), .e (.int .i64 a2), .e (.int .i64 a3)] [.box [.e (.str p0_0), .e (.int .i64 p0_1)]] = bif decide (0 ≤ p0_1) then bif !pk p0_0 p0_1 == 32 then some (Res.ret (AV.agg [AV.e
  (E.int IntKind.i64 a1), (num a2), (num a3), AV.e (E.sl 9 []), AV.e (E.sl 27 []), AV.e (E.sl 81 [])]), [Ob.box [(str p0_0), AV.e
  (E.int IntKind.i64 p0_1)]]) else (run none 137 [AV.ptr 0 0] [Ob.box [(str p0_0), (num (IntKind.i64.wrap (p0_1 + 1)))]]).bind fun rh => bif okHeap
  [Ob.box [(str p0_0), (num (IntKind.i64.wrap (p0_1 + 1)))]] rh.2 then bif rh.fst.isPan then some (Res.pan rh.fst.why, [Ob.box [(str ((rh.snd.ob
  0).cell 0).data.toStr), (num ((rh.snd.ob 0).cell 1).data.toInt)]]) else bif okRes PP 154 rh.fst then some (Res.ret (AV.agg [(num a1),
  (num (rh.fst.val.comp 0).data.toInt), (num (rh.fst.val.comp 1).data.toInt), AV.e (E.sl 9 []), AV.e (E.sl 27 []), AV.e (E.sl 81 [])]),
  [Ob.box [(str ((rh.snd.ob 0).cell 0).data.toStr), (num ((rh.snd.ob 0).cell 1).data.toInt)]]) else none else none else none := by kernel_rfl
theorem eq_record (run : RunF) (loop : LoopF) (p0_0 : List UInt8) (p0_1 : Int) (a1 : Int) : bodyRun PP HH run loop none 138 [.ptr 0 0, .e (.int .i64 a1)] [.box [.e
  (.str p0_0), .e (.int .i64 p0_1)]] = (run none 133 [AV.ptr 0 0, (str [123])] [Ob.box [(str p0_0), (num p0_1)]]).bind fun rh => bif okHeap [Ob.box
  [(str p0_0), (num p0_1)]] rh.2 then bif rh.fst.isPan then some (Res.pan rh.fst.why, [Ob.box [(str ((rh.snd.ob 0).cell 0).data.toStr), AV.e (E.int
  IntKind.i64 ((rh.snd.ob 0).cell 1).data.toInt)]]) else bif okRes PP 0 rh.fst then bif decide (0 ≤ ((rh.snd.ob 0).cell 1).data.toInt) then bif !pk ((rh.snd.ob 0).cell
  0).data.toStr ((rh.snd.ob 0).cell 1).data.toInt == 125 then (loop 138 1 lc_138_5 ([AV.ptr 0 0, (num a1), uu, uu, AV.ptr 1 0, AV.ptr 2 0] ++
  List.replicate 33 uu) [Ob.box [(str ((rh.snd.ob 0).cell 0).data.toStr), (num ((rh.snd.ob 0).cell 1).data.toInt)], Ob.box [AV.e (E.int IntKind.i64
  0), (num 0), (num 0), AV.own 3 9 [], AV.own 4 27 [], AV.own 5 81 []], Ob.box [(num 6), (num 0), AV.e
  (E.int IntKind.i64 0), AV.own 6 9 [], AV.own 7 27 [], AV.own 8 81 []], Ob.vec 9 0, Ob.vec 27 0, Ob.vec 81 0, Ob.vec 9 0, Ob.vec 27 0, Ob.vec 81 0]).bind fun o => bif o.ex.isWay
  Way.ret then bif okFr ([uu, uu, uu, uu, AV.ptr 1 0] ++ List.replicate 34 uu) o.2 && okHeap [Ob.box [(str []), (num 0)],
  Ob.box [(num 0), (num 0), (num 0), AV.own 2 9 [], AV.own 3 27 [], AV.own 4 81 []], Ob.vec 9 0, Ob.vec 27 0, Ob.vec 81 0]
  o.3 then some (Res.ret (AV.agg [(num ((o.hp.ob 1).cell 0).data.toInt), (num ((o.hp.ob 1).cell 1).data.toInt), AV.e (E.int IntKind.i64
  ((o.hp.ob 1).cell 2).data.toInt), AV.e (E.sl 9 ((o.hp.ob 1).cell 3).data.toList), AV.e (E.sl 27 ((o.hp.ob 1).cell 4).data.toList), AV.e (E.sl 81 ((o.hp.ob 1).cell
  5).data.toList)]), [Ob.box [(str ((o.hp.ob 0).cell 0).data.toStr), (num ((o.hp.ob 0).cell 1).data.toInt)]]) else none else bif o.ex.isWay Way.pan then
  bif okFr (List.replicate 39 uu) o.2 && okHeap [Ob.box [(str []), (num 0)]] o.3 then some (Res.pan o.ex.why, [Ob.box [(str ((o.hp.ob 0).cell
  0).data.toStr), (num ((o.hp.ob 0).cell 1).data.toInt)]]) else none else none else some (Res.ret (AV.agg [(num 6), AV.e (E.int IntKind.i64
  0), (num 0), AV.e (E.sl 9 []), AV.e (E.sl 27 []), AV.e (E.sl 81 [])]), [Ob.box [(str ((rh.snd.ob 0).cell 0).data.toStr), AV.e (E.int IntKind.i64
  (IntKind.i64.wrap (((rh.snd.ob 0).cell 1).data.toInt + 1)))]]) else none else none else none := by kernel_rfl
theorem eq_recordL5 (run : RunF) (loop : LoopF) (p0_0 : List UInt8) (p0_1 : Int) (t1 : Int) (t4_0 : Int) (t4_1 : Int) (t4_2 : Int) (t4_3 : List E) (t4_4 : List E) (t4_5 : List E)
  (t5_0 : Int) (t5_1 : Int) (t5_2 : Int) (t5_3 : List E) (t5_4 : List E) (t5_5 : List E) : bodyLoop PP HH run loop 138 1 lc_138_5 (((((List.replicate 39
  uu).set 0 (.ptr 0 0)).set 1 (.e (.int .i64 t1))).set 4 (.ptr 1 0)).set 5 (.ptr 2 0)) [.box [.e (.str p0_0), .e (.int .i64 p0_1)], .box [.e (.int .i64 t4_0), .e (.int .i64
  t4_1), .e (.int .i64 t4_2), .own 3 9 t4_3, .own 4 27 t4_4, .own 5 81 t4_5], .box [.e (.int .i64 t5_0), .e (.int .i64 t5_1), .e (.int .i64 t5_2), .own 6 9 t5_3, .own 7 27 t5_4,
  .own 8 81 t5_5], .vec 9 t4_3.length, .vec 27 t4_4.length, .vec 81 t4_5.length, .vec 9 t5_3.length, .vec 27 t5_4.length, .vec 81 t5_5.length] = (run none 135 [AV.ptr 0 0] [Ob.box
  [(str p0_0), (num p0_1)]]).bind fun rh => bif okHeap [Ob.box [(str p0_0), (num p0_1)]] rh.2 then bif rh.fst.isPan then some
  (Out.mk (Ex.pan rh.fst.why) ((List.replicate 39 uu)) ([Ob.box [(str ((rh.snd.ob 0).cell 0).data.toStr), (num ((rh.snd.ob 0).cell 1).data.toInt)]])
  ([])) else bif okRes PP 9 rh.fst then bif decide (0 ≤ ((rh.snd.ob 0).cell 1).data.toInt) then bif !pk ((rh.snd.ob 0).cell 0).data.toStr ((rh.snd.ob 0).cell 1).data.toInt
  == 63 then (run none 133 [AV.ptr 0 0, (str [58, 32])] [Ob.box [(str ((rh.snd.ob 0).cell 0).data.toStr), (num ((rh.snd.ob 0).cell
  1).data.toInt)]]).bind fun rh_1 => bif okHeap [Ob.box [(str ((rh.snd.ob 0).cell 0).data.toStr), (num ((rh.snd.ob 0).cell 1).data.toInt)]] rh_1.2 then
  bif rh_1.fst.isPan then some (Out.mk (Ex.pan rh_1.fst.why) ((List.replicate 39 uu)) ([Ob.box [(str ((rh_1.snd.ob 0).cell 0).data.toStr), AV.e (E.int IntKind.i64
  ((rh_1.snd.ob 0).cell 1).data.toInt)]]) ([])) else bif okRes PP 0 rh_1.fst then (run none 88 [AV.ptr 0 0, (num (IntKind.i64.wrap (t1 + 1)))] [Ob.box
  [(str ((rh_1.snd.ob 0).cell 0).data.toStr), (num ((rh_1.snd.ob 0).cell 1).data.toInt)]]).bind fun rh_2 => bif okHeap [Ob.box [(str ((rh_1.snd.ob
  0).cell 0).data.toStr), (num ((rh_1.snd.ob 0).cell 1).data.toInt)]] rh_2.2 then bif rh_2.fst.isPan then some (Out.mk (Ex.pan rh_2.fst.why) ((List.replicate 39
  uu)) ([Ob.box [(str ((rh_2.snd.ob 0).cell 0).data.toStr), (num ((rh_2.snd.ob 0).cell 1).data.toInt)]]) ([])) else bif okRes PP 27 rh_2.fst
  then bif decide (t5_5.length = t5_5.length) && decide ((t5_5.length + (81, elems PP 81 8 1 [E.sl 81 (rh_2.fst.val.data.cell 5).toList, E.sl 27 (rh_2.fst.val.data.cell
  4).toList, E.sl 9 (rh_2.fst.val.data.cell 3).toList, E.int IntKind.i64 (rh_2.fst.val.data.cell 2).toInt, E.int IntKind.i64 (rh_2.fst.val.data.cell 1).toInt, E.int IntKind.i64
  (rh_2.fst.val.data.cell 0).toInt, E.bool false, E.str rh.fst.val.data.toStr].reverse).snd.length) * 120 ≤ 140737488355328) then bif decide (0 ≤ ((rh_2.snd.ob 0).cell
  1).data.toInt) then bif !pk ((rh_2.snd.ob 0).cell 0).data.toStr ((rh_2.snd.ob 0).cell 1).data.toInt == 44 then (run none 133 [AV.ptr 0 0, (str [125])] [Ob.box [AV.e (E.str
  ((rh_2.snd.ob 0).cell 0).data.toStr), (num ((rh_2.snd.ob 0).cell 1).data.toInt)]]).bind fun rh_3 => bif okHeap [Ob.box [(str ((rh_2.snd.ob 0).cell
  0).data.toStr), (num ((rh_2.snd.ob 0).cell 1).data.toInt)]] rh_3.2 then bif rh_3.fst.isPan then some (Out.mk (Ex.pan rh_3.fst.why) ((List.replicate 39
  uu)) ([Ob.box [(str ((rh_3.snd.ob 0).cell 0).data.toStr), (num ((rh_3.snd.ob 0).cell 1).data.toInt)]]) ([])) else bif okRes PP 0 rh_3.fst
  then some (Out.mk (Ex.ret) (([uu, uu, uu, uu, AV.ptr 1 0] ++ List.replicate 34 uu)) ([Ob.box [(str ((rh_3.snd.ob 0).cell 0).data.toStr), AV.e
  (E.int IntKind.i64 ((rh_3.snd.ob 0).cell 1).data.toInt)], Ob.box [(num t5_0), (num t5_1), (num t5_2), AV.own 2 9 t5_3,
  AV.own 3 27 t5_4, AV.own 4 81 (t5_5 ++ (81, elems PP 81 8 1 [E.sl 81 (rh_2.fst.val.data.cell 5).toList, E.sl 27 (rh_2.fst.val.data.cell 4).toList, E.sl 9
  (rh_2.fst.val.data.cell 3).toList, E.int IntKind.i64 (rh_2.fst.val.data.cell 2).toInt, E.int IntKind.i64 (rh_2.fst.val.data.cell 1).toInt, E.int IntKind.i64
  (rh_2.fst.val.data.cell 0).toInt, E.bool false, E.str rh.fst.val.data.toStr].reverse).snd)], Ob.vec 9 t5_3.length, Ob.vec 27 t5_4.length, Ob.vec 81 (t5_5 ++ (81, elems PP
  81 8 1 [E.sl 81 (rh_2.fst.val.data.cell 5).toList, E.sl 27 (rh_2.fst.val.data.cell 4).toList, E.sl 9 (rh_2.fst.val.data.cell 3).toList, E.int IntKind.i64 (rh_2.fst.val.data.cell
  2).toInt, E.int IntKind.i64 (rh_2.fst.val.data.cell 1).toInt, E.int IntKind.i64 (rh_2.fst.val.data.cell 0).toInt, E.bool false, E.str
  rh.fst.val.data.toStr].reverse).snd).length]) ([])) else none else none else (run none 133 [AV.ptr 0 0, (str [32])] [Ob.box [(str ((rh_2.snd.ob 0).cell
  0).data.toStr), (num (IntKind.i64.wrap (((rh_2.snd.ob 0).cell 1).data.toInt + 1)))]]).bind fun rh_3 => bif okHeap [Ob.box [(str ((rh_2.snd.ob 0).cell
  0).data.toStr), (num (IntKind.i64.wrap (((rh_2.snd.ob 0).cell 1).data.toInt + 1)))]] rh_3.2 then bif rh_3.fst.isPan then some (Out.mk (Ex.pan rh_3.fst.why)
  ((List.replicate 39 uu)) ([Ob.box [(str ((rh_3.snd.ob 0).cell 0).data.toStr), (num ((rh_3.snd.ob 0).cell 1).data.toInt)]]) ([])) else bif okRes
  PP 0 rh_3.fst then (loop 138 1 lc_138_5 ([AV.ptr 0 0, (num t1), uu, uu, AV.ptr 1 0, AV.ptr 2 0] ++ List.replicate 33 uu) [Ob.box [AV.e
  (E.str ((rh_3.snd.ob 0).cell 0).data.toStr), (num ((rh_3.snd.ob 0).cell 1).data.toInt)], Ob.box [(num t4_0), (num t4_1),
  (num t4_2), AV.own 3 9 t4_3, AV.own 4 27 t4_4, AV.own 5 81 t4_5], Ob.box [(num t5_0), (num t5_1), AV.e (E.int IntKind.i64
  t5_2), AV.own 6 9 t5_3, AV.own 7 27 t5_4, AV.own 8 81 (t5_5 ++ (81, elems PP 81 8 1 [E.sl 81 (rh_2.fst.val.data.cell 5).toList, E.sl 27 (rh_2.fst.val.data.cell 4).toList,
  E.sl 9 (rh_2.fst.val.data.cell 3).toList, E.int IntKind.i64 (rh_2.fst.val.data.cell 2).toInt, E.int IntKind.i64 (rh_2.fst.val.data.cell 1).toInt, E.int IntKind.i64
  (rh_2.fst.val.data.cell 0).toInt, E.bool false, E.str rh.fst.val.data.toStr].reverse).snd)], Ob.vec 9 t4_3.length, Ob.vec 27 t4_4.length, Ob.vec 81 t4_5.length, Ob.vec 9
  t5_3.length, Ob.vec 27 t5_4.length, Ob.vec 81 (t5_5 ++ (81, elems PP 81 8 1 [E.sl 81 (rh_2.fst.val.data.cell 5).toList, E.sl 27 (rh_2.fst.val.data.cell 4).toList, E.sl 9
  (rh_2.fst.val.data.cell 3).toList, E.int IntKind.i64 (rh_2.fst.val.data.cell 2).toInt, E.int IntKind.i64 (rh_2.fst.val.data.cell 1).toInt, E.int IntKind.i64
  (rh_2.fst.val.data.cell 0).toInt, E.bool false, E.str rh.fst.val.data.toStr].reverse).snd).length]).bind fun o => some o else none else none else none else none else none else
  none else none else none else (run none 133 [AV.ptr 0 0, (str [58, 32])] [Ob.box [(str ((rh.snd.ob 0).cell 0).data.toStr), (num (IntKind.i64.wrap
  (((rh.snd.ob 0).cell 1).data.toInt + 1)))]]).bind fun rh_1 => bif okHeap [Ob.box [(str ((rh.snd.ob 0).cell 0).data.toStr), (num (IntKind.i64.wrap
  (((rh.snd.ob 0).cell 1).data.toInt + 1)))]] rh_1.2 then bif rh_1.fst.isPan then some (Out.mk (Ex.pan rh_1.fst.why) ((List.replicate 39 uu)) ([Ob.box [AV.e (E.str
  ((rh_1.snd.ob 0).cell 0).data.toStr), (num ((rh_1.snd.ob 0).cell 1).data.toInt)]]) ([])) else bif okRes PP 0 rh_1.fst then (run none 88 [AV.ptr 0 0,
  (num (IntKind.i64.wrap (t1 + 1)))] [Ob.box [(str ((rh_1.snd.ob 0).cell 0).data.toStr), (num ((rh_1.snd.ob 0).cell
  1).data.toInt)]]).bind fun rh_2 => bif okHeap [Ob.box [(str ((rh_1.snd.ob 0).cell 0).data.toStr), (num ((rh_1.snd.ob 0).cell 1).data.toInt)]] rh_2.2
  then bif rh_2.fst.isPan then some (Out.mk (Ex.pan rh_2.fst.why) ((List.replicate 39 uu)) ([Ob.box [(str ((rh_2.snd.ob 0).cell 0).data.toStr), AV.e (E.int IntKind.i64
  ((rh_2.snd.ob 0).cell 1).data.toInt)]]) ([])) else bif okRes PP 27 rh_2.fst then bif decide (t5_5.length = t5_5.length) && decide ((t5_5.length + (81, elems PP 81 8
  1 [E.sl 81 (rh_2.fst.val.data.cell 5).toList, E.sl 27 (rh_2.fst.val.data.cell 4).toList, E.sl 9 (rh_2.fst.val.data.cell 3).toList, E.int IntKind.i64 (rh_2.fst.val.data.cell
  2).toInt, E.int IntKind.i64 (rh_2.fst.val.data.cell 1).toInt, E.int IntKind.i64 (rh_2.fst.val.data.cell 0).toInt, E.bool true, E.str rh.fst.val.data.toStr].reverse).snd.length) *
  120 ≤ 140737488355328) then bif decide (0 ≤ ((rh_2.snd.ob 0).cell 1).data.toInt) then bif !pk ((rh_2.snd.ob 0).cell 0).data.toStr ((rh_2.snd.ob 0).cell 1).data.toInt == 44 then
  (run none 133 [AV.ptr 0 0, (str [125])] [Ob.box [(str ((rh_2.snd.ob 0).cell 0).data.toStr), (num ((rh_2.snd.ob 0).cell 1).data.toInt)]]).bind fun
  rh_3 => bif okHeap [Ob.box [(str ((rh_2.snd.ob 0).cell 0).data.toStr), (num ((rh_2.snd.ob 0).cell 1).data.toInt)]] rh_3.2 then bif rh_3.fst.isPan then
  some (Out.mk (Ex.pan rh_3.fst.why) ((List.replicate 39 uu)) ([Ob.box [(str ((rh_3.snd.ob 0).cell 0).data.toStr), (num ((rh_3.snd.ob 0).cell
  1).data.toInt)]]) ([])) else bif okRes PP 0 rh_3.fst then some (Out.mk (Ex.ret) (([uu, uu, uu, uu, AV.ptr 1 0] ++ List.replicate 34 uu))
  ([Ob.box [(str ((rh_3.snd.ob 0).cell 0).data.toStr), (num ((rh_3.snd.ob 0).cell 1).data.toInt)], Ob.box [(num t5_0), AV.e (E.int
  IntKind.i64 t5_1), (num t5_2), AV.own 2 9 t5_3, AV.own 3 27 t5_4, AV.own 4 81 (t5_5 ++ (81, elems PP 81 8 1 [E.sl 81 (rh_2.fst.val.data.cell 5).toList,
  E.sl 27 (rh_2.fst.val.data.cell 4).toList, E.sl 9 (rh_2.fst.val.data.cell 3).toList, E.int IntKind.i64 (rh_2.fst.val.data.cell 2).toInt, E.int IntKind.i64 (rh_2.fst.val.data.cell
  1).toInt, E.int IntKind.i64 (rh_2.fst.val.data.cell 0).toInt, E.bool true, E.str rh.fst.val.data.toStr].reverse).snd)], Ob.vec 9 t5_3.length, Ob.vec 27 t5_4.length, Ob.vec 81
  (t5_5 ++ (81, elems PP 81 8 1 [E.sl 81 (rh_2.fst.val.data.cell 5).toList, E.sl 27 (rh_2.fst.val.data.cell 4).toList, E.sl 9 (rh_2.fst.val.data.cell 3).toList, E.int
  IntKind.i64 (rh_2.fst.val.data.cell 2).toInt, E.int IntKind.i64 (rh_2.fst.val.data.cell 1).toInt, E.int IntKind.i64 (rh_2.fst.val.data.cell 0).toInt, E.bool true, E.str
  rh.fst.val.data.toStr].reverse).snd).length]) ([])) else none else none else (run none 133 [AV.ptr 0 0, (str [32])] [Ob.box [(str ((rh_2.snd.ob 0).cell
  0).data.toStr), (num (IntKind.i64.wrap (((rh_2.snd.ob 0).cell 1).data.toInt + 1)))]]).bind fun rh_3 => bif okHeap [Ob.box [(str ((rh_2.snd.ob 0).cell
  0).data.toStr), (num (IntKind.i64.wrap (((rh_2.snd.ob 0).cell 1).data.toInt + 1)))]] rh_3.2 then bif rh_3.fst.isPan then some (Out.mk (Ex.pan rh_3.fst.why)
  ((List.replicate 39 uu)) ([Ob.box [(str ((rh_3.snd.ob 0).cell 0).data.toStr), (num ((rh_3.snd.ob 0).cell 1).data.toInt)]]) ([])) else bif okRes
  PP 0 rh_3.fst then (loop 138 1 lc_138_5 ([AV.ptr 0 0, (num t1), uu, uu, AV.ptr 1 0, AV.ptr 2 0] ++ List.replicate 33 uu) [Ob.box [AV.e
  (E.str ((rh_3.snd.ob 0).cell 0).data.toStr), (num ((rh_3.snd.ob 0).cell 1).data.toInt)], Ob.box [(num t4_0), (num t4_1),
  (num t4_2), AV.own 3 9 t4_3, AV.own 4 27 t4_4, AV.own 5 81 t4_5], Ob.box [(num t5_0), (num t5_1), AV.e (E.int IntKind.i64
  t5_2), AV.own 6 9 t5_3, AV.own 7 27 t5_4, AV.own 8 81 (t5_5 ++ (81, elems PP 81 8 1 [E.sl 81 (rh_2.fst.val.data.cell 5).toList, E.sl 27 (rh_2.fst.val.data.cell 4).toList,
  E.sl 9 (rh_2.fst.val.data.cell 3).toList, E.int IntKind.i64 (rh_2.fst.val.data.cell 2).toInt, E.int IntKind.i64 (rh_2.fst.val.data.cell 1).toInt, E.int IntKind.i64
  (rh_2.fst.val.data.cell 0).toInt, E.bool true, E.str rh.fst.val.data.toStr].reverse).snd)], Ob.vec 9 t4_3.length, Ob.vec 27 t4_4.length, Ob.vec 81 t4_5.length, Ob.vec 9
  t5_3.length, Ob.vec 27 t5_4.length, Ob.vec 81 (t5_5 ++ (81, elems PP 81 8 1 [E.sl 81 (rh_2.fst.val.data.cell 5).toList, E.sl 27 (rh_2.fst.val.data.cell 4).toList, E.sl 9
  (rh_2.fst.val.data.cell 3).toList, E.int IntKind.i64 (rh_2.fst.val.data.cell 2).toInt, E.int IntKind.i64 (rh_2.fst.val.data.cell 1).toInt, E.int IntKind.i64
  (rh_2.fst.val.data.cell 0).toInt, E.bool true, E.str rh.fst.val.data.toStr].reverse).snd).length]).bind fun o => some o else none else none else none else none else none else
  none else none else none else none else none else none := by kernel_rfl
theorem eq_kind (run : RunF) (loop : LoopF) (p0_0 : List UInt8) (p0_1 : Int) (a1 : Int) : bodyRun PP HH run loop none 88 [.ptr 0 0, .e (.int .i64 a1)] [.box [.e
  (.str p0_0), .e (.int .i64 p0_1)]] = bif decide (6 < a1) then some (Res.pan (E.ifc 150 (E.agg [E.int IntKind.i64 27, E.int IntKind.i64 p0_1].reverse)), [Ob.box [AV.e (E.str
  p0_0), (num p0_1)]]) else bif decide (0 ≤ p0_1) then bif pk p0_0 p0_1 == 105 then (run none 133 [AV.ptr 0 0, (str [105, 110, 116])] [Ob.box [AV.e (E.str
  p0_0), (num p0_1)]]).bind fun rh => bif okHeap [Ob.box [(str p0_0), (num p0_1)]] rh.2 then bif rh.fst.isPan then some (Res.pan
  rh.fst.why, [Ob.box [(str ((rh.snd.ob 0).cell 0).data.toStr), (num ((rh.snd.ob 0).cell 1).data.toInt)]]) else bif okRes PP 0 rh.fst then (run
  none 134 [AV.ptr 0 0, (num 1), (num (-4611686018427387904)), (num 4611686018427387904)] [Ob.box [(str ((rh.snd.ob
  0).cell 0).data.toStr), (num ((rh.snd.ob 0).cell 1).data.toInt)]]).bind fun rh_1 => bif okHeap [Ob.box [(str ((rh.snd.ob 0).cell 0).data.toStr), AV.e
  (E.int IntKind.i64 ((rh.snd.ob 0).cell 1).data.toInt)]] rh_1.2 then bif rh_1.fst.isPan then some (Res.pan rh_1.fst.why, [Ob.box [(str ((rh_1.snd.ob 0).cell 0).data.toStr),
  (num ((rh_1.snd.ob 0).cell 1).data.toInt)]]) else bif okRes PP 27 rh_1.fst then some (Res.ret (AV.agg [(num (rh_1.fst.val.data.cell
  0).toInt), (num (rh_1.fst.val.data.cell 1).toInt), (num (rh_1.fst.val.data.cell 2).toInt), AV.e (E.sl 9 (rh_1.fst.val.data.cell 3).toList),
  AV.e (E.sl 27 (rh_1.fst.val.data.cell 4).toList), AV.e (E.sl 81 (rh_1.fst.val.data.cell 5).toList)]), [Ob.box [(str ((rh_1.snd.ob 0).cell 0).data.toStr), AV.e (E.int
  IntKind.i64 ((rh_1.snd.ob 0).cell 1).data.toInt)]]) else none else none else none else none else bif pk p0_0 p0_1 == 116 then (run none 133 [AV.ptr 0 0, (str [116, 101,
  120, 116])] [Ob.box [(str p0_0), (num p0_1)]]).bind fun rh => bif okHeap [Ob.box [(str p0_0), (num p0_1)]] rh.2 then bif
  rh.fst.isPan then some (Res.pan rh.fst.why, [Ob.box [(str ((rh.snd.ob 0).cell 0).data.toStr), (num ((rh.snd.ob 0).cell 1).data.toInt)]]) else bif okRes
  PP 0 rh.fst then (run none 134 [AV.ptr 0 0, (num 2), (num 0), (num 256)] [Ob.box [(str ((rh.snd.ob 0).cell
  0).data.toStr), (num ((rh.snd.ob 0).cell 1).data.toInt)]]).bind fun rh_1 => bif okHeap [Ob.box [(str ((rh.snd.ob 0).cell 0).data.toStr), AV.e (E.int
  IntKind.i64 ((rh.snd.ob 0).cell 1).data.toInt)]] rh_1.2 then bif rh_1.fst.isPan then some (Res.pan rh_1.fst.why, [Ob.box [(str ((rh_1.snd.ob 0).cell 0).data.toStr), AV.e
  (E.int IntKind.i64 ((rh_1.snd.ob 0).cell 1).data.toInt)]]) else bif okRes PP 27 rh_1.fst then some (Res.ret (AV.agg [(num (rh_1.fst.val.data.cell
  0).toInt), (num (rh_1.fst.val.data.cell 1).toInt), (num (rh_1.fst.val.data.cell 2).toInt), AV.e (E.sl 9 (rh_1.fst.val.data.cell 3).toList),
  AV.e (E.sl 27 (rh_1.fst.val.data.cell 4).toList), AV.e (E.sl 81 (rh_1.fst.val.data.cell 5).toList)]), [Ob.box [(str ((rh_1.snd.ob 0).cell 0).data.toStr), AV.e (E.int
  IntKind.i64 ((rh_1.snd.ob 0).cell 1).data.toInt)]]) else none else none else none else none else bif pk p0_0 p0_1 == 98 then (run none 133 [AV.ptr 0 0, (str [98, 111, 111,
  108])] [Ob.box [(str p0_0), (num p0_1)]]).bind fun rh => bif okHeap [Ob.box [(str p0_0), (num p0_1)]] rh.2 then bif
  rh.fst.isPan then some (Res.pan rh.fst.why, [Ob.box [(str ((rh.snd.ob 0).cell 0).data.toStr), (num ((rh.snd.ob 0).cell 1).data.toInt)]]) else bif okRes
  PP 0 rh.fst then some (Res.ret (AV.agg [(num 3), (num 0), (num 0), AV.e (E.sl 9 []), AV.e (E.sl 27 []), AV.e (E.sl
  81 [])]), [Ob.box [(str ((rh.snd.ob 0).cell 0).data.toStr), (num ((rh.snd.ob 0).cell 1).data.toInt)]]) else none else none else bif pk p0_0 p0_1 == 97
  then (run none 133 [AV.ptr 0 0, (str [97, 110, 121])] [Ob.box [(str p0_0), (num p0_1)]]).bind fun rh => bif okHeap [Ob.box [(str p0_0),
  (num p0_1)]] rh.2 then bif rh.fst.isPan then some (Res.pan rh.fst.why, [Ob.box [(str ((rh.snd.ob 0).cell 0).data.toStr), AV.e (E.int IntKind.i64
  ((rh.snd.ob 0).cell 1).data.toInt)]]) else bif okRes PP 0 rh.fst then some (Res.ret (AV.agg [(num 7), (num 0), AV.e (E.int
  IntKind.i64 0), AV.e (E.sl 9 []), AV.e (E.sl 27 []), AV.e (E.sl 81 [])]), [Ob.box [(str ((rh.snd.ob 0).cell 0).data.toStr), (num ((rh.snd.ob 0).cell
  1).data.toInt)]]) else none else none else bif pk p0_0 p0_1 == 101 then (run none 133 [AV.ptr 0 0, (str [101, 110, 117, 109, 40])] [Ob.box [(str p0_0), AV.e (E.int
  IntKind.i64 p0_1)]]).bind fun rh => bif okHeap [Ob.box [(str p0_0), (num p0_1)]] rh.2 then bif rh.fst.isPan then some (Res.pan rh.fst.why, [Ob.box [AV.e
  (E.str ((rh.snd.ob 0).cell 0).data.toStr), (num ((rh.snd.ob 0).cell 1).data.toInt)]]) else bif okRes PP 0 rh.fst then (run none 135 [AV.ptr 0 0] [Ob.box
  [(str ((rh.snd.ob 0).cell 0).data.toStr), (num ((rh.snd.ob 0).cell 1).data.toInt)]]).bind fun rh_1 => bif okHeap [Ob.box [(str ((rh.snd.ob
  0).cell 0).data.toStr), (num ((rh.snd.ob 0).cell 1).data.toInt)]] rh_1.2 then bif rh_1.fst.isPan then some (Res.pan rh_1.fst.why, [Ob.box [AV.e (E.str
  ((rh_1.snd.ob 0).cell 0).data.toStr), (num ((rh_1.snd.ob 0).cell 1).data.toInt)]]) else bif okRes PP 9 rh_1.fst then (loop 88 1 lc_88_19 ([AV.ptr 0 0,
  uu, uu, uu, AV.ptr 1 0, AV.ptr 2 0] ++ List.replicate 84 uu) [Ob.box [(str ((rh_1.snd.ob 0).cell 0).data.toStr), AV.e (E.int IntKind.i64
  ((rh_1.snd.ob 0).cell 1).data.toInt)], Ob.box [(num 0), (num 0), (num 0), AV.own 3 9 [], AV.own 4 27 [], AV.own 5 81 []],
  Ob.box [(num 4), (num 0), (num 0), AV.own 6 9 ([E.str rh_1.fst.val.data.toStr]), AV.own 7 27 [], AV.own 8 81 []], Ob.vec
  9 0, Ob.vec 27 0, Ob.vec 81 0, Ob.vec 9 1, Ob.vec 27 0, Ob.vec 81 0]).bind fun o => bif o.ex.isWay (Way.exit 1) then bif okFr ([AV.ptr 0 0, uu, uu, uu, AV.ptr 1
  0, AV.ptr 2 0] ++ List.replicate 84 uu) o.2 && okHeap [Ob.box [(str []), (num 0)], Ob.box [(num 0), (num 0),
  (num 0), AV.own 3 9 [], AV.own 4 27 [], AV.own 5 81 []], Ob.box [(num 0), (num 0), (num 0), AV.own 6 9
  [], AV.own 7 27 [], AV.own 8 81 []], Ob.vec 9 0, Ob.vec 27 0, Ob.vec 81 0, Ob.vec 9 0, Ob.vec 27 0, Ob.vec 81 0] o.3 then (run none 133 [AV.ptr 0 0, (str [41])] [Ob.box
  [(str ((o.hp.ob 0).cell 0).data.toStr), (num ((o.hp.ob 0).cell 1).data.toInt)]]).bind fun rh => bif okHeap [Ob.box [(str ((o.hp.ob 0).cell
  0).data.toStr), (num ((o.hp.ob 0).cell 1).data.toInt)]] rh.2 then bif rh.fst.isPan then some (Res.pan rh.fst.why, [Ob.box [(str ((rh.snd.ob 0).cell
  0).data.toStr), (num ((rh.snd.ob 0).cell 1).data.toInt)]]) else bif okRes PP 0 rh.fst then some (Res.ret (AV.agg [(num ((o.hp.ob
  2).cell 0).data.toInt), (num ((o.hp.ob 2).cell 1).data.toInt), (num ((o.hp.ob 2).cell 2).data.toInt), AV.e (E.sl 9 ((o.hp.ob 2).cell
  3).data.toList), AV.e (E.sl 27 ((o.hp.ob 2).cell 4).data.toList), AV.e (E.sl 81 ((o.hp.ob 2).cell 5).data.toList)]), [Ob.box [(str ((rh.snd.ob 0).cell 0).data.toStr), AV.e
  (E.int IntKind.i64 ((rh.snd.ob 0).cell 1).data.toInt)]]) else none else none else none else bif o.ex.isWay Way.pan then bif okFr (List.replicate 90 uu) o.2 && okHeap
  [Ob.box [(str []), (num 0)]] o.3 then some (Res.pan o.ex.why, [Ob.box [(str ((o.hp.ob 0).cell 0).data.toStr), (num ((o.hp.ob
  0).cell 1).data.toInt)]]) else none else none else none else none else none else none else bif pk p0_0 p0_1 == 108 then (run none 133 [AV.ptr 0 0, (str [108, 105, 115,
  116, 32])] [Ob.box [(str p0_0), (num p0_1)]]).bind fun rh => bif okHeap [Ob.box [(str p0_0), (num p0_1)]] rh.2 then bif
  rh.fst.isPan then some (Res.pan rh.fst.why, [Ob.box [(str ((rh.snd.ob 0).cell 0).data.toStr), (num ((rh.snd.ob 0).cell 1).data.toInt)]]) else bif okRes
  PP 0 rh.fst then (run none 137 [AV.ptr 0 0] [Ob.box [(str ((rh.snd.ob 0).cell 0).data.toStr), (num ((rh.snd.ob 0).cell 1).data.toInt)]]).bind fun
  rh_1 => bif okHeap [Ob.box [(str ((rh.snd.ob 0).cell 0).data.toStr), (num ((rh.snd.ob 0).cell 1).data.toInt)]] rh_1.2 then bif rh_1.fst.isPan then some
  (Res.pan rh_1.fst.why, [Ob.box [(str ((rh_1.snd.ob 0).cell 0).data.toStr), (num ((rh_1.snd.ob 0).cell 1).data.toInt)]]) else bif okRes PP 154
  rh_1.fst then (run none 133 [AV.ptr 0 0, (str [32, 111, 102, 32])] [Ob.box [(str ((rh_1.snd.ob 0).cell 0).data.toStr), (num ((rh_1.snd.ob 0).cell
  1).data.toInt)]]).bind fun rh => bif okHeap [Ob.box [(str ((rh_1.snd.ob 0).cell 0).data.toStr), (num ((rh_1.snd.ob 0).cell 1).data.toInt)]] rh.2 then
  bif rh.fst.isPan then some (Res.pan rh.fst.why, [Ob.box [(str ((rh.snd.ob 0).cell 0).data.toStr), (num ((rh.snd.ob 0).cell 1).data.toInt)]]) else bif
  okRes PP 0 rh.fst then (run none 88 [AV.ptr 0 0, (num (IntKind.i64.wrap (a1 + 1)))] [Ob.box [(str ((rh.snd.ob 0).cell 0).data.toStr), AV.e (E.int
  IntKind.i64 ((rh.snd.ob 0).cell 1).data.toInt)]]).bind fun rh_2 => bif okHeap [Ob.box [(str ((rh.snd.ob 0).cell 0).data.toStr), (num ((rh.snd.ob 0).cell
  1).data.toInt)]] rh_2.2 then bif rh_2.fst.isPan then some (Res.pan rh_2.fst.why, [Ob.box [(str ((rh_2.snd.ob 0).cell 0).data.toStr), (num ((rh_2.snd.ob
  0).cell 1).data.toInt)]]) else bif okRes PP 27 rh_2.fst then some (Res.ret (AV.agg [(num 5), (num (rh_1.fst.val.comp 0).data.toInt),
  (num (rh_1.fst.val.comp 1).data.toInt), AV.e (E.sl 9 []), AV.e (E.sl 27 (elems PP 27 6 1 [E.sl 81 (rh_2.fst.val.data.cell 5).toList, E.sl 27
  (rh_2.fst.val.data.cell 4).toList, E.sl 9 (rh_2.fst.val.data.cell 3).toList, E.int IntKind.i64 (rh_2.fst.val.data.cell 2).toInt, E.int IntKind.i64 (rh_2.fst.val.data.cell
  1).toInt, E.int IntKind.i64 (rh_2.fst.val.data.cell 0).toInt].reverse)), AV.e (E.sl 81 [])]), [Ob.box [(str ((rh_2.snd.ob 0).cell 0).data.toStr), AV.e (E.int IntKind.i64
  ((rh_2.snd.ob 0).cell 1).data.toInt)]]) else none else none else none else none else none else none else none else none else bif pk p0_0 p0_1 == 123 then (run none 138 [AV.ptr 0
  0, (num a1)] [Ob.box [(str p0_0), (num p0_1)]]).bind fun rh => bif okHeap [Ob.box [(str p0_0), (num p0_1)]]
  rh.2 then bif rh.fst.isPan then some (Res.pan rh.fst.why, [Ob.box [(str ((rh.snd.ob 0).cell 0).data.toStr), (num ((rh.snd.ob 0).cell 1).data.toInt)]])
  else bif okRes PP 27 rh.fst then some (Res.ret (AV.agg [(num (rh.fst.val.data.cell 0).toInt), (num (rh.fst.val.data.cell 1).toInt),
  (num (rh.fst.val.data.cell 2).toInt), AV.e (E.sl 9 (rh.fst.val.data.cell 3).toList), AV.e (E.sl 27 (rh.fst.val.data.cell 4).toList), AV.e (E.sl 81
  (rh.fst.val.data.cell 5).toList)]), [Ob.box [(str ((rh.snd.ob 0).cell 0).data.toStr), (num ((rh.snd.ob 0).cell 1).data.toInt)]]) else none else none
  else some (Res.pan (E.ifc 150 (E.agg [E.int IntKind.i64 2, E.int IntKind.i64 p0_1].reverse)), [Ob.box [(str p0_0), (num p0_1)]]) else none := by
  kernel_rfl
theorem eq_kindL19 (run : RunF) (loop : LoopF) (p0_0 : List UInt8) (p0_1 : Int) (t4_0 : Int) (t4_1 : Int) (t4_2 : Int) (t4_3 : List E) (t4_4 : List E) (t4_5 : List E) (t5_0 : Int)
  (t5_1 : Int) (t5_2 : Int) (t5_3 : List E) (t5_4 : List E) (t5_5 : List E) : bodyLoop PP HH run loop 88 1 lc_88_19 ((((List.replicate 90 uu).set 0 (.ptr 0
  0)).set 4 (.ptr 1 0)).set 5 (.ptr 2 0)) [.box [.e (.str p0_0), .e (.int .i64 p0_1)], .box [.e (.int .i64 t4_0), .e (.int .i64 t4_1), .e (.int .i64 t4_2), .own 3 9 t4_3, .own 4 27
  t4_4, .own 5 81 t4_5], .box [.e (.int .i64 t5_0), .e (.int .i64 t5_1), .e (.int .i64 t5_2), .own 6 9 t5_3, .own 7 27 t5_4, .own 8 81 t5_5], .vec 9 t4_3.length, .vec 27
  t4_4.length, .vec 81 t4_5.length, .vec 9 t5_3.length, .vec 27 t5_4.length, .vec 81 t5_5.length] = bif decide (0 ≤ p0_1) then bif !pk p0_0 p0_1 == 124 then some (Out.mk (Ex.exit
  1) (([AV.ptr 0 0, uu, uu, uu, AV.ptr 1 0, AV.ptr 2 0] ++ List.replicate 84 uu)) ([Ob.box [(str p0_0), (num p0_1)], Ob.box [AV.e
  (E.int IntKind.i64 t4_0), (num t4_1), (num t4_2), AV.own 3 9 t4_3, AV.own 4 27 t4_4, AV.own 5 81 t4_5], Ob.box [AV.e (E.int IntKind.i64
  t5_0), (num t5_1), (num t5_2), AV.own 6 9 t5_3, AV.own 7 27 t5_4, AV.own 8 81 t5_5], Ob.vec 9 t4_3.length, Ob.vec 27 t4_4.length, Ob.vec 81
  t4_5.length, Ob.vec 9 t5_3.length, Ob.vec 27 t5_4.length, Ob.vec 81 t5_5.length]) ([])) else (run none 135 [AV.ptr 0 0] [Ob.box [(str p0_0), AV.e (E.int IntKind.i64
  (IntKind.i64.wrap (p0_1 + 1)))]]).bind fun rh => bif okHeap [Ob.box [(str p0_0), (num (IntKind.i64.wrap (p0_1 + 1)))]] rh.2 then bif rh.fst.isPan then
  some (Out.mk (Ex.pan rh.fst.why) ((List.replicate 90 uu)) ([Ob.box [(str ((rh.snd.ob 0).cell 0).data.toStr), (num ((rh.snd.ob 0).cell
  1).data.toInt)]]) ([])) else bif okRes PP 9 rh.fst then bif decide (t5_3.length = t5_3.length) && decide ((t5_3.length + (9, [E.str rh.fst.val.data.toStr]).snd.length) *
  16 ≤ 140737488355328) then (loop 88 1 lc_88_19 ([AV.ptr 0 0, uu, uu, uu, AV.ptr 1 0, AV.ptr 2 0] ++ List.replicate 84 uu) [Ob.box [(str ((rh.snd.ob
  0).cell 0).data.toStr), (num ((rh.snd.ob 0).cell 1).data.toInt)], Ob.box [(num t4_0), (num t4_1), AV.e (E.int IntKind.i64
  t4_2), AV.own 3 9 t4_3, AV.own 4 27 t4_4, AV.own 5 81 t4_5], Ob.box [(num t5_0), (num t5_1), (num t5_2), AV.own 6 9 (t5_3
  ++ (9, [E.str rh.fst.val.data.toStr]).snd), AV.own 7 27 t5_4, AV.own 8 81 t5_5], Ob.vec 9 t4_3.length, Ob.vec 27 t4_4.length, Ob.vec 81 t4_5.length, Ob.vec 9 (t5_3 ++ (9, [E.str
  rh.fst.val.data.toStr]).snd).length, Ob.vec 27 t5_4.length, Ob.vec 81 t5_5.length]).bind fun o => some o else none else none else none else none := by kernel_rfl
theorem eq_scanned (run : RunF) (loop : LoopF) (a0 : List UInt8) : bodyRun PP HH run loop none 44 [.e (.str a0)] [] = (run none 88 [AV.ptr 0 0, AV.e (E.int
  IntKind.i64 1)] [Ob.box [(str a0), (num 0)]]).bind fun rh => bif okHeap [Ob.box [(str a0), (num 0)]] rh.2 then bif
  rh.fst.isPan then (run (some (some rh.fst.why)) 87 [AV.ptr 0 0, AV.ptr 1 0] [Ob.box [(num 0)], Ob.box [(num 0)]]).bind fun rh_1 => bif
  rh_1.fst.isRcv then bif okHeap [Ob.box [(num 0)], Ob.box [(num 0)]] rh_1.2 then some (Res.ret (AV.tup [AV.agg [(num 0),
  (num 0), (num 0), AV.e (E.sl 9 []), AV.e (E.sl 27 []), AV.e (E.sl 81 [])], (num ((rh_1.snd.ob 0).cell 0).data.toInt),
  (num ((rh_1.snd.ob 1).cell 0).data.toInt)]), []) else none else bif rh_1.fst.isRet then bif okHeap [Ob.box [(num 0)], Ob.box [AV.e (E.int
  IntKind.i64 0)]] rh_1.2 then some (Res.pan rh.fst.why, []) else none else none else bif okRes PP 27 rh.fst then bif !((rh.snd.ob 0).cell 1).data.toInt == (↑((rh.snd.ob
  0).cell 0).data.toStr.length : Int) then (run (some (some (E.ifc 150 (E.agg [E.int IntKind.i64 2, E.int IntKind.i64 ((rh.snd.ob 0).cell 1).data.toInt].reverse)))) 87 [AV.ptr 0 0,
  AV.ptr 1 0] [Ob.box [(num 0)], Ob.box [(num 0)]]).bind fun rh_1 => bif rh_1.fst.isRcv then bif okHeap [Ob.box [(num 0)],
  Ob.box [(num 0)]] rh_1.2 then some (Res.ret (AV.tup [AV.agg [(num 0), (num 0), (num 0), AV.e (E.sl 9
  []), AV.e (E.sl 27 []), AV.e (E.sl 81 [])], (num ((rh_1.snd.ob 0).cell 0).data.toInt), (num ((rh_1.snd.ob 1).cell 0).data.toInt)]), []) else
  none else bif rh_1.fst.isRet then bif okHeap [Ob.box [(num 0)], Ob.box [(num 0)]] rh_1.2 then some (Res.pan (E.ifc 150 (E.agg [E.int
  IntKind.i64 2, E.int IntKind.i64 ((rh.snd.ob 0).cell 1).data.toInt].reverse)), []) else none else none else (run (some none) 87 [AV.ptr 0 0, AV.ptr 1 0] [Ob.box [AV.e (E.int
  IntKind.i64 0)], Ob.box [(num 0)]]).bind fun rh_1 => bif rh_1.fst.isRet then bif okHeap [Ob.box [(num 0)], Ob.box [AV.e (E.int IntKind.i64
  0)]] rh_1.2 then some (Res.ret (AV.tup [AV.agg [(num (rh.fst.val.data.cell 0).toInt), (num (rh.fst.val.data.cell 1).toInt), AV.e (E.int
  IntKind.i64 (rh.fst.val.data.cell 2).toInt), AV.e (E.sl 9 (rh.fst.val.data.cell 3).toList), AV.e (E.sl 27 (rh.fst.val.data.cell 4).toList), AV.e (E.sl 81 (rh.fst.val.data.cell
  5).toList)], (num ((rh_1.snd.ob 0).cell 0).data.toInt), (num ((rh_1.snd.ob 1).cell 0).data.toInt)]), []) else none else none else none else
  none := by kernel_rfl
theorem eq_Parse (run : RunF) (loop : LoopF) (a0 : List UInt8) : bodyRun PP HH run loop none 13 [.e (.str a0)] [] = bif decide (65536 < (↑a0.length : Int)) then
  some (Res.ret (AV.tup [AV.agg [(num 0), (num 0), (num 0), AV.e (E.sl 9 []), AV.e (E.sl 27 []), AV.e (E.sl 81 [])], AV.e
  (E.int IntKind.i64 0), (num 5)]), []) else (run none 44 [(str a0)] []).bind fun rh => bif okHeap [] rh.2 then bif okRes PP 29 rh.fst then bif
  !(rh.fst.val.comp 2).data.toInt == 0 then some (Res.ret (AV.tup [AV.agg [(num 0), (num 0), (num 0), AV.e (E.sl 9 []),
  AV.e (E.sl 27 []), AV.e (E.sl 81 [])], (num (rh.fst.val.comp 1).data.toInt), (num (rh.fst.val.comp 2).data.toInt)]), []) else (run none 16
  [AV.agg [(num ((rh.fst.val.comp 0).data.cell 0).toInt), (num ((rh.fst.val.comp 0).data.cell 1).toInt), AV.e (E.int IntKind.i64
  ((rh.fst.val.comp 0).data.cell 2).toInt), AV.e (E.sl 9 ((rh.fst.val.comp 0).data.cell 3).toList), AV.e (E.sl 27 ((rh.fst.val.comp 0).data.cell 4).toList), AV.e (E.sl 81
  ((rh.fst.val.comp 0).data.cell 5).toList)]] []).bind fun rh_1 => bif okHeap [] rh_1.2 then bif okRes PP 32 rh_1.fst then bif !(rh_1.fst.val.comp 1).data.toInt == 0 then
  some (Res.ret (AV.tup [AV.agg [(num 0), (num 0), (num 0), AV.e (E.sl 9 []), AV.e (E.sl 27 []), AV.e (E.sl 81 [])], AV.e
  (E.int IntKind.i64 0), (num (rh_1.fst.val.comp 1).data.toInt)]), []) else bif !strEq (rh_1.fst.val.comp 0).data.toStr a0 then some (Res.ret (AV.tup [AV.agg
  [(num 0), (num 0), (num 0), AV.e (E.sl 9 []), AV.e (E.sl 27 []), AV.e (E.sl 81 [])], (num 0), AV.e
  (E.int IntKind.i64 2)]), []) else some (Res.ret (AV.tup [AV.agg [(num ((rh.fst.val.comp 0).data.cell 0).toInt), (num ((rh.fst.val.comp
  0).data.cell 1).toInt), (num ((rh.fst.val.comp 0).data.cell 2).toInt), AV.e (E.sl 9 ((rh.fst.val.comp 0).data.cell 3).toList), AV.e (E.sl 27 ((rh.fst.val.comp
  0).data.cell 4).toList), AV.e (E.sl 81 ((rh.fst.val.comp 0).data.cell 5).toList)], (num 0), (num 0)]), []) else none else none else none
  else none := by kernel_rfl

end Go.Proofs.YtghdhhmlmdohkaaGreatDoor
