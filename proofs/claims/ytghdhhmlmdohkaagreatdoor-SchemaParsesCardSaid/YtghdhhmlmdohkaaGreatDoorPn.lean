/- The equations of functions, as a program of mine prints them. -/
import Derived.Test.YtghdhhmlmdohkaaGreatDoorBase
namespace Go.Proofs.YtghdhhmlmdohkaaGreatDoor
open Go Go.Den
set_option maxRecDepth 100000
set_option maxHeartbeats 0

theorem eq_SParses (run : RunF) (loop : LoopF) (a0 : List UInt8) : bodyRun PP HH run loop none 3 [.e (.str a0)] [] = bif decide (3000 < (↑a0.length : Int)) then
  some (Res.ret ((yes true)), []) else (run none 13 [(str a0)] []).bind fun rh => bif okHeap [] rh.2 then bif okRes PP 29 rh.fst then (run none 14 [AV.e
  (E.str a0)] []).bind fun rh_1 => bif okHeap [] rh_1.2 then bif okRes PP 29 rh_1.fst then bif (bif !(rh.fst.val.comp 2).data.toInt == (rh_1.fst.val.comp 2).data.toInt then
  true else !(rh.fst.val.comp 1).data.toInt == (rh_1.fst.val.comp 1).data.toInt) == false then (run none 15 [AV.agg [(num ((rh.fst.val.comp 0).data.cell
  0).toInt), (num ((rh.fst.val.comp 0).data.cell 1).toInt), (num ((rh.fst.val.comp 0).data.cell 2).toInt), AV.e (E.sl 9 ((rh.fst.val.comp
  0).data.cell 3).toList), AV.e (E.sl 27 ((rh.fst.val.comp 0).data.cell 4).toList), AV.e (E.sl 81 ((rh.fst.val.comp 0).data.cell 5).toList)], AV.agg [AV.e (E.int IntKind.i64
  ((rh_1.fst.val.comp 0).data.cell 0).toInt), (num ((rh_1.fst.val.comp 0).data.cell 1).toInt), (num ((rh_1.fst.val.comp 0).data.cell
  2).toInt), AV.e (E.sl 9 ((rh_1.fst.val.comp 0).data.cell 3).toList), AV.e (E.sl 27 ((rh_1.fst.val.comp 0).data.cell 4).toList), AV.e (E.sl 81 ((rh_1.fst.val.comp 0).data.cell
  5).toList)]] []).bind fun rh_2 => bif okHeap [] rh_2.2 then bif okRes PP 4 rh_2.fst then bif !rh_2.fst.val.data.toBool then some (Res.ret ((yes false)), []) else
  bif !(rh_1.fst.val.comp 2).data.toInt == 0 then some (Res.ret ((yes true)), []) else (run none 16 [AV.agg [(num ((rh.fst.val.comp 0).data.cell
  0).toInt), (num ((rh.fst.val.comp 0).data.cell 1).toInt), (num ((rh.fst.val.comp 0).data.cell 2).toInt), AV.e (E.sl 9 ((rh.fst.val.comp
  0).data.cell 3).toList), AV.e (E.sl 27 ((rh.fst.val.comp 0).data.cell 4).toList), AV.e (E.sl 81 ((rh.fst.val.comp 0).data.cell 5).toList)]] []).bind fun rh => bif okHeap [] rh.2
  then bif okRes PP 32 rh.fst then some (Res.ret ((yes (bif (rh.fst.val.comp 1).data.toInt == 0 then strEq (rh.fst.val.comp 0).data.toStr a0 else false))), []) else
  none else none else none else none else some (Res.ret ((yes false)), []) else none else none else none else none := by kernel_rfl
theorem eq_RParse (run : RunF) (loop : LoopF) (a0 : List UInt8) : bodyRun PP HH run loop none 14 [.e (.str a0)] [] = bif decide (65536 < (↑a0.length : Int)) then
  some (Res.ret (AV.tup [AV.agg [(num 0), (num 0), (num 0), AV.e (E.sl 9 []), AV.e (E.sl 27 []), AV.e (E.sl 81 [])], AV.e
  (E.int IntKind.i64 0), (num 5)]), []) else (run none 45 [AV.ptr 0 0, (num 1)] [Ob.box [(str a0), (num 0), AV.e
  (E.int IntKind.i64 0), (num 0)]]).bind fun rh => bif okHeap [Ob.box [(str a0), (num 0), (num 0), AV.e (E.int
  IntKind.i64 0)]] rh.2 then bif okRes PP 27 rh.fst then bif (((rh.snd.ob 0).cell 2).data.toInt == 0) == true then bif decide (((rh.snd.ob 0).cell 1).data.toInt <
  (↑a0.length : Int)) then bif !(bif ((rh.snd.ob 0).cell 2).data.toInt == 0 then 2 else ((rh.snd.ob 0).cell 2).data.toInt) == 0 then some (Res.ret (AV.tup [AV.agg [AV.e (E.int
  IntKind.i64 0), (num 0), (num 0), AV.e (E.sl 9 []), AV.e (E.sl 27 []), AV.e (E.sl 81 [])], (num (bif ((rh.snd.ob 0).cell
  2).data.toInt == 0 then ((rh.snd.ob 0).cell 1).data.toInt else ((rh.snd.ob 0).cell 3).data.toInt)), (num (bif ((rh.snd.ob 0).cell 2).data.toInt == 0 then 2
  else ((rh.snd.ob 0).cell 2).data.toInt))]), []) else (run none 48 [AV.agg [(num (rh.fst.val.data.cell 0).toInt), (num (rh.fst.val.data.cell
  1).toInt), (num (rh.fst.val.data.cell 2).toInt), AV.e (E.sl 9 (rh.fst.val.data.cell 3).toList), AV.e (E.sl 27 (rh.fst.val.data.cell 4).toList), AV.e (E.sl 81
  (rh.fst.val.data.cell 5).toList)]] []).bind fun rh_1 => bif okHeap [] rh_1.2 then bif okRes PP 32 rh_1.fst then bif !(rh_1.fst.val.comp 1).data.toInt == 0 then some
  (Res.ret (AV.tup [AV.agg [(num 0), (num 0), (num 0), AV.e (E.sl 9 []), AV.e (E.sl 27 []), AV.e (E.sl 81 [])], AV.e (E.int
  IntKind.i64 0), (num (rh_1.fst.val.comp 1).data.toInt)]), []) else bif !strEq (rh_1.fst.val.comp 0).data.toStr a0 then some (Res.ret (AV.tup [AV.agg [AV.e
  (E.int IntKind.i64 0), (num 0), (num 0), AV.e (E.sl 9 []), AV.e (E.sl 27 []), AV.e (E.sl 81 [])], (num 0), AV.e (E.int
  IntKind.i64 2)]), []) else some (Res.ret (AV.tup [AV.agg [(num (rh.fst.val.data.cell 0).toInt), (num (rh.fst.val.data.cell 1).toInt), AV.e
  (E.int IntKind.i64 (rh.fst.val.data.cell 2).toInt), AV.e (E.sl 9 (rh.fst.val.data.cell 3).toList), AV.e (E.sl 27 (rh.fst.val.data.cell 4).toList), AV.e (E.sl 81
  (rh.fst.val.data.cell 5).toList)], (num 0), (num 0)]), []) else none else none else bif !((rh.snd.ob 0).cell 2).data.toInt == 0 then some
  (Res.ret (AV.tup [AV.agg [(num 0), (num 0), (num 0), AV.e (E.sl 9 []), AV.e (E.sl 27 []), AV.e (E.sl 81 [])], AV.e (E.int
  IntKind.i64 ((rh.snd.ob 0).cell 3).data.toInt), (num ((rh.snd.ob 0).cell 2).data.toInt)]), []) else (run none 48 [AV.agg [AV.e (E.int IntKind.i64
  (rh.fst.val.data.cell 0).toInt), (num (rh.fst.val.data.cell 1).toInt), (num (rh.fst.val.data.cell 2).toInt), AV.e (E.sl 9
  (rh.fst.val.data.cell 3).toList), AV.e (E.sl 27 (rh.fst.val.data.cell 4).toList), AV.e (E.sl 81 (rh.fst.val.data.cell 5).toList)]] []).bind fun rh_1 => bif okHeap [] rh_1.2 then
  bif okRes PP 32 rh_1.fst then bif !(rh_1.fst.val.comp 1).data.toInt == 0 then some (Res.ret (AV.tup [AV.agg [(num 0), (num 0), AV.e
  (E.int IntKind.i64 0), AV.e (E.sl 9 []), AV.e (E.sl 27 []), AV.e (E.sl 81 [])], (num 0), (num (rh_1.fst.val.comp 1).data.toInt)]), []) else
  bif !strEq (rh_1.fst.val.comp 0).data.toStr a0 then some (Res.ret (AV.tup [AV.agg [(num 0), (num 0), (num 0), AV.e (E.sl
  9 []), AV.e (E.sl 27 []), AV.e (E.sl 81 [])], (num 0), (num 2)]), []) else some (Res.ret (AV.tup [AV.agg [AV.e (E.int IntKind.i64
  (rh.fst.val.data.cell 0).toInt), (num (rh.fst.val.data.cell 1).toInt), (num (rh.fst.val.data.cell 2).toInt), AV.e (E.sl 9
  (rh.fst.val.data.cell 3).toList), AV.e (E.sl 27 (rh.fst.val.data.cell 4).toList), AV.e (E.sl 81 (rh.fst.val.data.cell 5).toList)], (num 0), AV.e (E.int
  IntKind.i64 0)]), []) else none else none else bif !((rh.snd.ob 0).cell 2).data.toInt == 0 then some (Res.ret (AV.tup [AV.agg [(num 0), AV.e (E.int IntKind.i64
  0), (num 0), AV.e (E.sl 9 []), AV.e (E.sl 27 []), AV.e (E.sl 81 [])], (num ((rh.snd.ob 0).cell 3).data.toInt), AV.e (E.int IntKind.i64
  ((rh.snd.ob 0).cell 2).data.toInt)]), []) else (run none 48 [AV.agg [(num (rh.fst.val.data.cell 0).toInt), (num (rh.fst.val.data.cell
  1).toInt), (num (rh.fst.val.data.cell 2).toInt), AV.e (E.sl 9 (rh.fst.val.data.cell 3).toList), AV.e (E.sl 27 (rh.fst.val.data.cell 4).toList), AV.e (E.sl 81
  (rh.fst.val.data.cell 5).toList)]] []).bind fun rh_1 => bif okHeap [] rh_1.2 then bif okRes PP 32 rh_1.fst then bif !(rh_1.fst.val.comp 1).data.toInt == 0 then some
  (Res.ret (AV.tup [AV.agg [(num 0), (num 0), (num 0), AV.e (E.sl 9 []), AV.e (E.sl 27 []), AV.e (E.sl 81 [])], AV.e (E.int
  IntKind.i64 0), (num (rh_1.fst.val.comp 1).data.toInt)]), []) else bif !strEq (rh_1.fst.val.comp 0).data.toStr a0 then some (Res.ret (AV.tup [AV.agg [AV.e
  (E.int IntKind.i64 0), (num 0), (num 0), AV.e (E.sl 9 []), AV.e (E.sl 27 []), AV.e (E.sl 81 [])], (num 0), AV.e (E.int
  IntKind.i64 2)]), []) else some (Res.ret (AV.tup [AV.agg [(num (rh.fst.val.data.cell 0).toInt), (num (rh.fst.val.data.cell 1).toInt), AV.e
  (E.int IntKind.i64 (rh.fst.val.data.cell 2).toInt), AV.e (E.sl 9 (rh.fst.val.data.cell 3).toList), AV.e (E.sl 27 (rh.fst.val.data.cell 4).toList), AV.e (E.sl 81
  (rh.fst.val.data.cell 5).toList)], (num 0), (num 0)]), []) else none else none else none else none := by kernel_rfl
theorem eq_Print (run : RunF) (loop : LoopF) (a0_0 : Int) (a0_1 : Int) (a0_2 : Int) (a0_3 : List E) (a0_4 : List E) (a0_5 : List E) : bodyRun PP HH run loop none
  16 [.agg [.e (.int .i64 a0_0), .e (.int .i64 a0_1), .e (.int .i64 a0_2), .e (.sl 9 a0_3), .e (.sl 27 a0_4), .e (.sl 81 a0_5)]] [] = (run none 42 [AV.agg [AV.e (E.int IntKind.i64
  a0_0), (num a0_1), (num a0_2), AV.e (E.sl 9 a0_3), AV.e (E.sl 27 a0_4), AV.e (E.sl 81 a0_5)]] []).bind fun rh => bif okHeap [] rh.2 then bif
  okRes PP 28 rh.fst then bif !rh.fst.val.data.toInt == 0 then some (Res.ret (AV.tup [(str []), (num rh.fst.val.data.toInt)]), []) else (run none
  50 [AV.agg [(num a0_0), (num a0_1), (num a0_2), AV.e (E.sl 9 a0_3), AV.e (E.sl 27 a0_4), AV.e (E.sl 81 a0_5)]] []).bind
  fun rh => bif okHeap [] rh.2 then bif okRes PP 9 rh.fst then some (Res.ret (AV.tup [(str rh.fst.val.data.toStr), (num 0)]), []) else none else
  none else none else none := by kernel_rfl
theorem eq_text (run : RunF) (loop : LoopF) (a0_0 : Int) (a0_1 : Int) (a0_2 : Int) (a0_3 : List E) (a0_4 : List E) (a0_5 : List E) : bodyRun PP HH run loop none 50
  [.agg [.e (.int .i64 a0_0), .e (.int .i64 a0_1), .e (.int .i64 a0_2), .e (.sl 9 a0_3), .e (.sl 27 a0_4), .e (.sl 81 a0_5)]] [] = bif a0_0 == 1 then bif bif a0_1 ==
  -4611686018427387904 then a0_2 == 4611686018427387904 else false then some (Res.ret ((str [105, 110, 116])), []) else (run none 97 [AV.agg [(num a0_0),
  (num a0_1), (num a0_2), AV.e (E.sl 9 a0_3), AV.e (E.sl 27 a0_4), AV.e (E.sl 81 a0_5)]] []).bind fun rh => bif okHeap [] rh.2 then bif okRes
  PP 9 rh.fst then bif (decide (4 + rh.fst.val.data.toStr.length ≤ 9223372036854775807)) then some (Res.ret ((str ([105, 110, 116, 32] ++ rh.fst.val.data.toStr))),
  []) else none else none else none else bif a0_0 == 2 then bif bif a0_1 == 0 then a0_2 == 256 else false then some (Res.ret ((str [116, 101, 120, 116])), []) else (run none
  97 [AV.agg [(num a0_0), (num a0_1), (num a0_2), AV.e (E.sl 9 a0_3), AV.e (E.sl 27 a0_4), AV.e (E.sl 81 a0_5)]] []).bind
  fun rh => bif okHeap [] rh.2 then bif okRes PP 9 rh.fst then bif (decide (5 + rh.fst.val.data.toStr.length ≤ 9223372036854775807)) then some (Res.ret ((str ([116,
  101, 120, 116, 32] ++ rh.fst.val.data.toStr))), []) else none else none else none else bif a0_0 == 3 then some (Res.ret ((str [98, 111, 111, 108])), []) else bif a0_0 == 4
  then bif a0_3.all isStr && decide (a0_3.length ≤ 140737488355328) && decide ((Lib.join (List.map E.toStr a0_3) ([124] : List UInt8)).length ≤ 140737488355328) then bif (decide (5
  + (Lib.join (List.map E.toStr a0_3) ([124] : List UInt8)).length ≤ 9223372036854775807)) then bif (decide (([101, 110, 117, 109, 40] ++ Lib.join (List.map E.toStr a0_3) ([124] :
  List UInt8)).length + 1 ≤ 9223372036854775807)) then some (Res.ret ((str ([101, 110, 117, 109, 40] ++ Lib.join (List.map E.toStr a0_3) ([124] : List UInt8) ++ [41]))), [])
  else none else none else none else bif a0_0 == 5 then bif decide (0 < (↑a0_4.length : Int)) then (run none 97 [AV.agg [(num a0_0), AV.e (E.int IntKind.i64
  a0_1), (num a0_2), AV.e (E.sl 9 a0_3), AV.e (E.sl 27 a0_4), AV.e (E.sl 81 a0_5)]] []).bind fun rh => bif okHeap [] rh.2 then bif okRes PP 9 rh.fst then
  bif (decide (5 + rh.fst.val.data.toStr.length ≤ 9223372036854775807)) then bif (decide (([108, 105, 115, 116, 32] ++ rh.fst.val.data.toStr).length + 4 ≤ 9223372036854775807))
  then (run none 50 [AV.agg [(num ((a0_4.getD 0 E.nili).cell 0).toInt), (num ((a0_4.getD 0 E.nili).cell 1).toInt), AV.e (E.int IntKind.i64
  ((a0_4.getD 0 E.nili).cell 2).toInt), AV.e (E.sl 9 ((a0_4.getD 0 E.nili).cell 3).toList), AV.e (E.sl 27 ((a0_4.getD 0 E.nili).cell 4).toList), AV.e (E.sl 81 ((a0_4.getD 0
  E.nili).cell 5).toList)]] []).bind fun rh_1 => bif okHeap [] rh_1.2 then bif okRes PP 9 rh_1.fst then bif (decide (([108, 105, 115, 116, 32] ++ rh.fst.val.data.toStr ++
  [32, 111, 102, 32]).length + rh_1.fst.val.data.toStr.length ≤ 9223372036854775807)) then some (Res.ret ((str ([108, 105, 115, 116, 32] ++ rh.fst.val.data.toStr ++ [32,
  111, 102, 32] ++ rh_1.fst.val.data.toStr))), []) else none else none else none else none else none else none else none else none else bif a0_0 == 6 then (loop 50 0 lc_50_19
  ([uu, uu, uu, AV.own 0 9 []] ++ List.replicate 55 uu ++ [AV.e (E.sl 81 a0_5), (num (↑a0_5.length : Int)), (num 0)]
  ++ List.replicate 22 uu) [Ob.vec 9 0]).bind fun o => bif o.ex.isWay (Way.exit 1) then bif okFr ([uu, uu, uu, AV.own 0 9 []] ++ List.replicate 80 uu)
  o.2 && okHeap [Ob.vec 9 0] o.3 then bif (List.getD o.fr 3 uu).data.toList.all isStr && decide ((List.getD o.fr 3 uu).data.toList.length ≤ 140737488355328) && decide
  ((Lib.join (List.map E.toStr (List.getD o.fr 3 uu).data.toList) ([44, 32] : List UInt8)).length ≤ 140737488355328) then bif (decide (1 + (Lib.join (List.map E.toStr
  (List.getD o.fr 3 uu).data.toList) ([44, 32] : List UInt8)).length ≤ 9223372036854775807)) then bif (decide (([123] ++ Lib.join (List.map E.toStr (List.getD o.fr 3
  uu).data.toList) ([44, 32] : List UInt8)).length + 1 ≤ 9223372036854775807)) then some (Res.ret ((str ([123] ++ Lib.join (List.map E.toStr (List.getD o.fr 3
  uu).data.toList) ([44, 32] : List UInt8) ++ [125]))), []) else none else none else none else none else none else some (Res.ret ((str [97, 110, 121])), []) := by
  kernel_rfl
theorem eq_textL19 (run : RunF) (loop : LoopF) (t3 : List E) (t59 : List E) (t60 : Int) (t61 : Int) : bodyLoop PP HH run loop 50 0 lc_50_19 (((((List.replicate 84
  uu).set 3 (.own 0 9 t3)).set 59 (.e (.sl 81 t59))).set 60 (.e (.int .i64 t60))).set 61 (.e (.int .i64 t61))) [.vec 9 t3.length] = bif decide (t61 < t60) then bif decide (0
  ≤ t61) && decide (t61 < (↑t59.length : Int)) then bif ((t59.getD t61.toNat E.nili).cell 1).toBool then bif (decide (((t59.getD t61.toNat E.nili).cell 0).toStr.length + 1 ≤
  9223372036854775807)) then bif (decide ((((t59.getD t61.toNat E.nili).cell 0).toStr ++ [63]).length + 2 ≤ 9223372036854775807)) then (run none 50 [AV.agg [AV.e (E.int IntKind.i64
  ((t59.getD t61.toNat E.nili).cell 2).toInt), (num ((t59.getD t61.toNat E.nili).cell 3).toInt), (num ((t59.getD t61.toNat E.nili).cell
  4).toInt), AV.e (E.sl 9 ((t59.getD t61.toNat E.nili).cell 5).toList), AV.e (E.sl 27 ((t59.getD t61.toNat E.nili).cell 6).toList), AV.e (E.sl 81 ((t59.getD t61.toNat E.nili).cell
  7).toList)]] []).bind fun rh => bif okHeap [] rh.2 then bif okRes PP 9 rh.fst then bif (decide ((((t59.getD t61.toNat E.nili).cell 0).toStr ++ [63] ++ [58, 32]).length +
  rh.fst.val.data.toStr.length ≤ 9223372036854775807)) then bif decide (t3.length = t3.length) && decide ((t3.length + (9, elems PP 9 1 1 [E.str (((t59.getD t61.toNat
  E.nili).cell 0).toStr ++ [63] ++ [58, 32] ++ rh.fst.val.data.toStr)].reverse).snd.length) * 16 ≤ 140737488355328) then (loop 50 0 lc_50_19 ([uu, uu, uu, AV.own
  0 9 (t3 ++ (9, elems PP 9 1 1 [E.str (((t59.getD t61.toNat E.nili).cell 0).toStr ++ [63] ++ [58, 32] ++ rh.fst.val.data.toStr)].reverse).snd)] ++ List.replicate 55
  uu ++ [AV.e (E.sl 81 t59), (num t60), (num (IntKind.i64.wrap (t61 + 1)))] ++ List.replicate 22 uu) [Ob.vec 9 (t3 ++ (9, elems
  PP 9 1 1 [E.str (((t59.getD t61.toNat E.nili).cell 0).toStr ++ [63] ++ [58, 32] ++ rh.fst.val.data.toStr)].reverse).snd).length]).bind fun o => some o else none else none
  else none else none else none else none else bif (decide (((t59.getD t61.toNat E.nili).cell 0).toStr.length + 0 ≤ 9223372036854775807)) then bif (decide ((((t59.getD t61.toNat
  E.nili).cell 0).toStr ++ []).length + 2 ≤ 9223372036854775807)) then (run none 50 [AV.agg [(num ((t59.getD t61.toNat E.nili).cell 2).toInt), AV.e (E.int
  IntKind.i64 ((t59.getD t61.toNat E.nili).cell 3).toInt), (num ((t59.getD t61.toNat E.nili).cell 4).toInt), AV.e (E.sl 9 ((t59.getD t61.toNat E.nili).cell
  5).toList), AV.e (E.sl 27 ((t59.getD t61.toNat E.nili).cell 6).toList), AV.e (E.sl 81 ((t59.getD t61.toNat E.nili).cell 7).toList)]] []).bind fun rh => bif okHeap [] rh.2 then
  bif okRes PP 9 rh.fst then bif (decide ((((t59.getD t61.toNat E.nili).cell 0).toStr ++ [] ++ [58, 32]).length + rh.fst.val.data.toStr.length ≤ 9223372036854775807)) then
  bif decide (t3.length = t3.length) && decide ((t3.length + (9, elems PP 9 1 1 [E.str (((t59.getD t61.toNat E.nili).cell 0).toStr ++ [] ++ [58, 32] ++
  rh.fst.val.data.toStr)].reverse).snd.length) * 16 ≤ 140737488355328) then (loop 50 0 lc_50_19 ([uu, uu, uu, AV.own 0 9 (t3 ++ (9, elems PP 9 1 1 [E.str
  (((t59.getD t61.toNat E.nili).cell 0).toStr ++ [] ++ [58, 32] ++ rh.fst.val.data.toStr)].reverse).snd)] ++ List.replicate 55 uu ++ [AV.e (E.sl 81 t59), AV.e (E.int
  IntKind.i64 t60), (num (IntKind.i64.wrap (t61 + 1)))] ++ List.replicate 22 uu) [Ob.vec 9 (t3 ++ (9, elems PP 9 1 1 [E.str (((t59.getD t61.toNat
  E.nili).cell 0).toStr ++ [] ++ [58, 32] ++ rh.fst.val.data.toStr)].reverse).snd).length]).bind fun o => some o else none else none else none else none else none else none else
  none else some (Out.mk (Ex.exit 1) (([uu, uu, uu, AV.own 0 9 t3] ++ List.replicate 80 uu)) ([Ob.vec 9 t3.length]) ([])) := by kernel_rfl
theorem eq_btext (run : RunF) (loop : LoopF) (a0_0 : Int) (a0_1 : Int) (a0_2 : Int) (a0_3 : List E) (a0_4 : List E) (a0_5 : List E) : bodyRun PP HH run loop none
  97 [.agg [.e (.int .i64 a0_0), .e (.int .i64 a0_1), .e (.int .i64 a0_2), .e (.sl 9 a0_3), .e (.sl 27 a0_4), .e (.sl 81 a0_5)]] [] = bif decide (-9223372036854775808 ≤ a0_1) &&
  decide (a0_1 ≤ 9223372036854775807) then bif (decide ((Lib.itoa a0_1).length + 2 ≤ 9223372036854775807)) then bif decide (-9223372036854775808 ≤ a0_2) && decide (a0_2 ≤
  9223372036854775807) then bif (decide ((Lib.itoa a0_1 ++ [46, 46]).length + (Lib.itoa a0_2).length ≤ 9223372036854775807)) then some (Res.ret ((str (Lib.itoa a0_1 ++ [46,
  46] ++ Lib.itoa a0_2))), []) else none else none else none else none := by kernel_rfl
theorem eq_RPrint (run : RunF) (loop : LoopF) (a0_0 : Int) (a0_1 : Int) (a0_2 : Int) (a0_3 : List E) (a0_4 : List E) (a0_5 : List E) : bodyRun PP HH run loop none
  48 [.agg [.e (.int .i64 a0_0), .e (.int .i64 a0_1), .e (.int .i64 a0_2), .e (.sl 9 a0_3), .e (.sl 27 a0_4), .e (.sl 81 a0_5)]] [] = (run none 18 [AV.agg [AV.e (E.int IntKind.i64
  a0_0), (num a0_1), (num a0_2), AV.e (E.sl 9 a0_3), AV.e (E.sl 27 a0_4), AV.e (E.sl 81 a0_5)]] []).bind fun rh => bif okHeap [] rh.2 then bif
  okRes PP 28 rh.fst then bif !rh.fst.val.data.toInt == 0 then some (Res.ret (AV.tup [(str []), (num rh.fst.val.data.toInt)]), []) else (run none
  96 [AV.agg [(num a0_0), (num a0_1), (num a0_2), AV.e (E.sl 9 a0_3), AV.e (E.sl 27 a0_4), AV.e (E.sl 81 a0_5)]] []).bind
  fun rh => bif okHeap [] rh.2 then bif okRes PP 9 rh.fst then some (Res.ret (AV.tup [(str rh.fst.val.data.toStr), (num 0)]), []) else none else
  none else none else none := by kernel_rfl
theorem eq_rtext (run : RunF) (loop : LoopF) (a0_0 : Int) (a0_1 : Int) (a0_2 : Int) (a0_3 : List E) (a0_4 : List E) (a0_5 : List E) : bodyRun PP HH run loop none
  96 [.agg [.e (.int .i64 a0_0), .e (.int .i64 a0_1), .e (.int .i64 a0_2), .e (.sl 9 a0_3), .e (.sl 27 a0_4), .e (.sl 81 a0_5)]] [] = bif a0_0 == 1 then (run none 141 [AV.e (E.str
  [105, 110, 116]), AV.agg [(num a0_0), (num a0_1), (num a0_2), AV.e (E.sl 9 a0_3), AV.e (E.sl 27 a0_4), AV.e (E.sl 81
  a0_5)], (num (-4611686018427387904)), (num 4611686018427387904)] []).bind fun rh => bif okHeap [] rh.2 then bif okRes PP 9 rh.fst
  then some (Res.ret ((str rh.fst.val.data.toStr)), []) else none else none else bif a0_0 == 2 then (run none 141 [(str [116, 101, 120, 116]), AV.agg [AV.e (E.int
  IntKind.i64 a0_0), (num a0_1), (num a0_2), AV.e (E.sl 9 a0_3), AV.e (E.sl 27 a0_4), AV.e (E.sl 81 a0_5)], (num 0), AV.e
  (E.int IntKind.i64 256)] []).bind fun rh => bif okHeap [] rh.2 then bif okRes PP 9 rh.fst then some (Res.ret ((str rh.fst.val.data.toStr)), []) else none else none
  else bif a0_0 == 3 then some (Res.ret ((str [98, 111, 111, 108])), []) else bif a0_0 == 7 then some (Res.ret ((str [97, 110, 121])), []) else bif a0_0 == 4 then
  (loop 96 0 lc_96_13 ([uu, AV.ptr 0 0, uu, (str []), (num 0)] ++ List.replicate 96 uu) [Ob.box [(num a0_0), AV.e
  (E.int IntKind.i64 a0_1), (num a0_2), AV.e (E.sl 9 a0_3), AV.e (E.sl 27 a0_4), AV.e (E.sl 81 a0_5)]]).bind fun o => bif o.ex.isWay (Way.exit 1) then bif okFr
  ([uu, uu, uu, (str [])] ++ List.replicate 97 uu) o.2 && okHeap [] o.3 then bif (decide (5 + (List.getD o.fr 3 uu).data.toStr.length ≤
  9223372036854775807)) then bif (decide (([101, 110, 117, 109, 40] ++ (List.getD o.fr 3 uu).data.toStr).length + 1 ≤ 9223372036854775807)) then some (Res.ret (AV.e (E.str
  ([101, 110, 117, 109, 40] ++ (List.getD o.fr 3 uu).data.toStr ++ [41]))), []) else none else none else none else none else bif a0_0 == 5 then bif decide (0 < (↑a0_4.length
  : Int)) then (run none 142 [(num a0_1)] []).bind fun rh => bif okHeap [] rh.2 then bif okRes PP 9 rh.fst then bif (decide (5 +
  rh.fst.val.data.toStr.length ≤ 9223372036854775807)) then bif (decide (([108, 105, 115, 116, 32] ++ rh.fst.val.data.toStr).length + 2 ≤ 9223372036854775807)) then (run none 142
  [(num a0_2)] []).bind fun rh_1 => bif okHeap [] rh_1.2 then bif okRes PP 9 rh_1.fst then bif (decide (([108, 105, 115, 116, 32] ++ rh.fst.val.data.toStr
  ++ [46, 46]).length + rh_1.fst.val.data.toStr.length ≤ 9223372036854775807)) then bif (decide (([108, 105, 115, 116, 32] ++ rh.fst.val.data.toStr ++ [46, 46] ++
  rh_1.fst.val.data.toStr).length + 4 ≤ 9223372036854775807)) then (run none 96 [AV.agg [(num ((a0_4.getD 0 E.nili).cell 0).toInt), AV.e (E.int IntKind.i64
  ((a0_4.getD 0 E.nili).cell 1).toInt), (num ((a0_4.getD 0 E.nili).cell 2).toInt), AV.e (E.sl 9 ((a0_4.getD 0 E.nili).cell 3).toList), AV.e (E.sl 27 ((a0_4.getD
  0 E.nili).cell 4).toList), AV.e (E.sl 81 ((a0_4.getD 0 E.nili).cell 5).toList)]] []).bind fun rh_2 => bif okHeap [] rh_2.2 then bif okRes PP 9 rh_2.fst then bif (decide
  (([108, 105, 115, 116, 32] ++ rh.fst.val.data.toStr ++ [46, 46] ++ rh_1.fst.val.data.toStr ++ [32, 111, 102, 32]).length + rh_2.fst.val.data.toStr.length ≤ 9223372036854775807))
  then some (Res.ret ((str ([108, 105, 115, 116, 32] ++ rh.fst.val.data.toStr ++ [46, 46] ++ rh_1.fst.val.data.toStr ++ [32, 111, 102, 32] ++ rh_2.fst.val.data.toStr))), [])
  else none else none else none else none else none else none else none else none else none else none else none else none else (loop 96 0 lc_96_22 ([uu, AV.ptr 0 0, uu,
  (str []), uu, (num 0)] ++ List.replicate 95 uu) [Ob.box [(num a0_0), (num a0_1), AV.e (E.int
  IntKind.i64 a0_2), AV.e (E.sl 9 a0_3), AV.e (E.sl 27 a0_4), AV.e (E.sl 81 a0_5)]]).bind fun o => bif o.ex.isWay (Way.exit 3) then bif okFr ([uu, uu, uu, AV.e
  (E.str [])] ++ List.replicate 97 uu) o.2 && okHeap [] o.3 then bif (decide (1 + (List.getD o.fr 3 uu).data.toStr.length ≤ 9223372036854775807)) then bif (decide
  (([123] ++ (List.getD o.fr 3 uu).data.toStr).length + 1 ≤ 9223372036854775807)) then some (Res.ret ((str ([123] ++ (List.getD o.fr 3 uu).data.toStr ++
  [125]))), []) else none else none else none else none := by kernel_rfl
theorem eq_rtextL13 (run : RunF) (loop : LoopF) (t3 : List UInt8) (t4 : Int) (t1_0 : Int) (t1_1 : Int) (t1_2 : Int) (t1_3 : List E) (t1_4 : List E) (t1_5 : List E) : bodyLoop
  PP HH run loop 96 0 lc_96_13 ((((List.replicate 101 uu).set 1 (.ptr 0 0)).set 3 (.e (.str t3))).set 4 (.e (.int .i64 t4))) [.box [.e (.int .i64 t1_0), .e
  (.int .i64 t1_1), .e (.int .i64 t1_2), .e (.sl 9 t1_3), .e (.sl 27 t1_4), .e (.sl 81 t1_5)]] = bif decide (t4 < (↑t1_3.length : Int)) then bif decide (0 < t4) then bif (decide
  (t3.length + 1 ≤ 9223372036854775807)) then bif decide (0 ≤ t4) && decide (t4 < (↑t1_3.length : Int)) then bif (decide ((t3 ++ [124]).length + ((t1_3.getD t4.toNat E.nili).cell
  0).toStr.length ≤ 9223372036854775807)) then (loop 96 0 lc_96_13 ([uu, AV.ptr 0 0, uu, (str (t3 ++ [124] ++ ((t1_3.getD t4.toNat E.nili).cell 0).toStr)), AV.e
  (E.int IntKind.i64 (IntKind.i64.wrap (t4 + 1)))] ++ List.replicate 96 uu) [Ob.box [(num t1_0), (num t1_1), AV.e (E.int IntKind.i64
  t1_2), AV.e (E.sl 9 t1_3), AV.e (E.sl 27 t1_4), AV.e (E.sl 81 t1_5)]]).bind fun o => some o else none else none else none else bif decide (0 ≤ t4) && decide (t4 < (↑t1_3.length :
  Int)) then bif (decide (t3.length + ((t1_3.getD t4.toNat E.nili).cell 0).toStr.length ≤ 9223372036854775807)) then (loop 96 0 lc_96_13 ([uu, AV.ptr 0 0, uu, AV.e
  (E.str (t3 ++ ((t1_3.getD t4.toNat E.nili).cell 0).toStr)), (num (IntKind.i64.wrap (t4 + 1)))] ++ List.replicate 96 uu) [Ob.box [AV.e (E.int IntKind.i64
  t1_0), (num t1_1), (num t1_2), AV.e (E.sl 9 t1_3), AV.e (E.sl 27 t1_4), AV.e (E.sl 81 t1_5)]]).bind fun o => some o else none else none else
  some (Out.mk (Ex.exit 1) (([uu, uu, uu, (str t3)] ++ List.replicate 97 uu)) ([]) ([])) := by kernel_rfl
theorem eq_rtextL22 (run : RunF) (loop : LoopF) (t3 : List UInt8) (t5 : Int) (t1_0 : Int) (t1_1 : Int) (t1_2 : Int) (t1_3 : List E) (t1_4 : List E) (t1_5 : List E) : bodyLoop
  PP HH run loop 96 0 lc_96_22 ((((List.replicate 101 uu).set 1 (.ptr 0 0)).set 3 (.e (.str t3))).set 5 (.e (.int .i64 t5))) [.box [.e (.int .i64 t1_0), .e
  (.int .i64 t1_1), .e (.int .i64 t1_2), .e (.sl 9 t1_3), .e (.sl 27 t1_4), .e (.sl 81 t1_5)]] = bif decide (t5 < (↑t1_5.length : Int)) then bif decide (0 < t5) then bif (decide
  (t3.length + 2 ≤ 9223372036854775807)) then bif decide (0 ≤ t5) && decide (t5 < (↑t1_5.length : Int)) then bif (decide ((t3 ++ [44, 32]).length + ((t1_5.getD t5.toNat
  E.nili).cell 0).toStr.length ≤ 9223372036854775807)) then bif decide (0 ≤ t5) && decide (t5 < (↑t1_5.length : Int)) then bif ((t1_5.getD t5.toNat E.nili).cell 1).toBool then bif
  (decide ((t3 ++ [44, 32] ++ ((t1_5.getD t5.toNat E.nili).cell 0).toStr).length + 1 ≤ 9223372036854775807)) then bif decide (0 ≤ t5) && decide (t5 < (↑t1_5.length : Int)) then
  (run none 96 [AV.agg [(num ((t1_5.getD t5.toNat E.nili).cell 2).toInt), (num ((t1_5.getD t5.toNat E.nili).cell 3).toInt), AV.e (E.int
  IntKind.i64 ((t1_5.getD t5.toNat E.nili).cell 4).toInt), AV.e (E.sl 9 ((t1_5.getD t5.toNat E.nili).cell 5).toList), AV.e (E.sl 27 ((t1_5.getD t5.toNat E.nili).cell 6).toList),
  AV.e (E.sl 81 ((t1_5.getD t5.toNat E.nili).cell 7).toList)]] []).bind fun rh => bif okHeap [] rh.2 then bif okRes PP 9 rh.fst then bif (decide (2 +
  rh.fst.val.data.toStr.length ≤ 9223372036854775807)) then bif (decide ((t3 ++ [44, 32] ++ ((t1_5.getD t5.toNat E.nili).cell 0).toStr ++ [63]).length + ([58, 32] ++
  rh.fst.val.data.toStr).length ≤ 9223372036854775807)) then (loop 96 0 lc_96_22 ([uu, AV.ptr 0 0, uu, (str (t3 ++ [44, 32] ++ ((t1_5.getD t5.toNat E.nili).cell
  0).toStr ++ [63] ++ ([58, 32] ++ rh.fst.val.data.toStr))), uu, (num (IntKind.i64.wrap (t5 + 1)))] ++ List.replicate 95 uu) [Ob.box [AV.e (E.int
  IntKind.i64 t1_0), (num t1_1), (num t1_2), AV.e (E.sl 9 t1_3), AV.e (E.sl 27 t1_4), AV.e (E.sl 81 t1_5)]]).bind fun o => some o else none
  else none else none else none else none else none else bif decide (0 ≤ t5) && decide (t5 < (↑t1_5.length : Int)) then (run none 96 [AV.agg [(num ((t1_5.getD
  t5.toNat E.nili).cell 2).toInt), (num ((t1_5.getD t5.toNat E.nili).cell 3).toInt), (num ((t1_5.getD t5.toNat E.nili).cell 4).toInt), AV.e
  (E.sl 9 ((t1_5.getD t5.toNat E.nili).cell 5).toList), AV.e (E.sl 27 ((t1_5.getD t5.toNat E.nili).cell 6).toList), AV.e (E.sl 81 ((t1_5.getD t5.toNat E.nili).cell 7).toList)]]
  []).bind fun rh => bif okHeap [] rh.2 then bif okRes PP 9 rh.fst then bif (decide (2 + rh.fst.val.data.toStr.length ≤ 9223372036854775807)) then bif (decide ((t3 ++ [44,
  32] ++ ((t1_5.getD t5.toNat E.nili).cell 0).toStr).length + ([58, 32] ++ rh.fst.val.data.toStr).length ≤ 9223372036854775807)) then (loop 96 0 lc_96_22 ([uu, AV.ptr 0 0,
  uu, (str (t3 ++ [44, 32] ++ ((t1_5.getD t5.toNat E.nili).cell 0).toStr ++ ([58, 32] ++ rh.fst.val.data.toStr))), uu, (num (IntKind.i64.wrap
  (t5 + 1)))] ++ List.replicate 95 uu) [Ob.box [(num t1_0), (num t1_1), (num t1_2), AV.e (E.sl 9 t1_3), AV.e (E.sl 27
  t1_4), AV.e (E.sl 81 t1_5)]]).bind fun o => some o else none else none else none else none else none else none else none else none else none else bif decide (0 ≤ t5) && decide
  (t5 < (↑t1_5.length : Int)) then bif (decide (t3.length + ((t1_5.getD t5.toNat E.nili).cell 0).toStr.length ≤ 9223372036854775807)) then bif decide (0 ≤ t5) && decide (t5 <
  (↑t1_5.length : Int)) then bif ((t1_5.getD t5.toNat E.nili).cell 1).toBool then bif (decide ((t3 ++ ((t1_5.getD t5.toNat E.nili).cell 0).toStr).length + 1 ≤ 9223372036854775807))
  then bif decide (0 ≤ t5) && decide (t5 < (↑t1_5.length : Int)) then (run none 96 [AV.agg [(num ((t1_5.getD t5.toNat E.nili).cell 2).toInt), AV.e (E.int
  IntKind.i64 ((t1_5.getD t5.toNat E.nili).cell 3).toInt), (num ((t1_5.getD t5.toNat E.nili).cell 4).toInt), AV.e (E.sl 9 ((t1_5.getD t5.toNat E.nili).cell
  5).toList), AV.e (E.sl 27 ((t1_5.getD t5.toNat E.nili).cell 6).toList), AV.e (E.sl 81 ((t1_5.getD t5.toNat E.nili).cell 7).toList)]] []).bind fun rh => bif okHeap [] rh.2 then
  bif okRes PP 9 rh.fst then bif (decide (2 + rh.fst.val.data.toStr.length ≤ 9223372036854775807)) then bif (decide ((t3 ++ ((t1_5.getD t5.toNat E.nili).cell 0).toStr ++
  [63]).length + ([58, 32] ++ rh.fst.val.data.toStr).length ≤ 9223372036854775807)) then (loop 96 0 lc_96_22 ([uu, AV.ptr 0 0, uu, (str (t3 ++ ((t1_5.getD
  t5.toNat E.nili).cell 0).toStr ++ [63] ++ ([58, 32] ++ rh.fst.val.data.toStr))), uu, (num (IntKind.i64.wrap (t5 + 1)))] ++ List.replicate 95 uu)
  [Ob.box [(num t1_0), (num t1_1), (num t1_2), AV.e (E.sl 9 t1_3), AV.e (E.sl 27 t1_4), AV.e (E.sl 81 t1_5)]]).bind fun o
  => some o else none else none else none else none else none else none else bif decide (0 ≤ t5) && decide (t5 < (↑t1_5.length : Int)) then (run none 96 [AV.agg [AV.e (E.int
  IntKind.i64 ((t1_5.getD t5.toNat E.nili).cell 2).toInt), (num ((t1_5.getD t5.toNat E.nili).cell 3).toInt), (num ((t1_5.getD t5.toNat
  E.nili).cell 4).toInt), AV.e (E.sl 9 ((t1_5.getD t5.toNat E.nili).cell 5).toList), AV.e (E.sl 27 ((t1_5.getD t5.toNat E.nili).cell 6).toList), AV.e (E.sl 81 ((t1_5.getD t5.toNat
  E.nili).cell 7).toList)]] []).bind fun rh => bif okHeap [] rh.2 then bif okRes PP 9 rh.fst then bif (decide (2 + rh.fst.val.data.toStr.length ≤ 9223372036854775807)) then
  bif (decide ((t3 ++ ((t1_5.getD t5.toNat E.nili).cell 0).toStr).length + ([58, 32] ++ rh.fst.val.data.toStr).length ≤ 9223372036854775807)) then (loop 96 0 lc_96_22 ([uu,
  AV.ptr 0 0, uu, (str (t3 ++ ((t1_5.getD t5.toNat E.nili).cell 0).toStr ++ ([58, 32] ++ rh.fst.val.data.toStr))), uu, (num (IntKind.i64.wrap
  (t5 + 1)))] ++ List.replicate 95 uu) [Ob.box [(num t1_0), (num t1_1), (num t1_2), AV.e (E.sl 9 t1_3), AV.e (E.sl 27
  t1_4), AV.e (E.sl 81 t1_5)]]).bind fun o => some o else none else none else none else none else none else none else none else none else some (Out.mk (Ex.exit 3) (([uu,
  uu, uu, (str t3)] ++ List.replicate 97 uu)) ([]) ([])) := by kernel_rfl
theorem eq_rbtext (run : RunF) (loop : LoopF) (a0 : List UInt8) (a1_0 : Int) (a1_1 : Int) (a1_2 : Int) (a1_3 : List E) (a1_4 : List E) (a1_5 : List E) (a2 : Int) (a3 : Int) :
  bodyRun PP HH run loop none 141 [.e (.str a0), .agg [.e (.int .i64 a1_0), .e (.int .i64 a1_1), .e (.int .i64 a1_2), .e (.sl 9 a1_3), .e (.sl 27 a1_4), .e (.sl 81
  a1_5)], .e (.int .i64 a2), .e (.int .i64 a3)] [] = bif bif a1_1 == a2 then a1_2 == a3 else false then some (Res.ret ((str a0)), []) else bif (decide (a0.length + 1 ≤
  9223372036854775807)) then (run none 142 [(num a1_1)] []).bind fun rh => bif okHeap [] rh.2 then bif okRes PP 9 rh.fst then bif (decide ((a0 ++
  [32]).length + rh.fst.val.data.toStr.length ≤ 9223372036854775807)) then bif (decide ((a0 ++ [32] ++ rh.fst.val.data.toStr).length + 2 ≤ 9223372036854775807)) then (run none 142
  [(num a1_2)] []).bind fun rh_1 => bif okHeap [] rh_1.2 then bif okRes PP 9 rh_1.fst then bif (decide ((a0 ++ [32] ++ rh.fst.val.data.toStr ++ [46,
  46]).length + rh_1.fst.val.data.toStr.length ≤ 9223372036854775807)) then some (Res.ret ((str (a0 ++ [32] ++ rh.fst.val.data.toStr ++ [46, 46] ++
  rh_1.fst.val.data.toStr))), []) else none else none else none else none else none else none else none else none := by kernel_rfl
theorem eq_SameT (run : RunF) (loop : LoopF) (a0_0 : Int) (a0_1 : Int) (a0_2 : Int) (a0_3 : List E) (a0_4 : List E) (a0_5 : List E) (a1_0 : Int) (a1_1 : Int) (a1_2 : Int) (a1_3 :
  List E) (a1_4 : List E) (a1_5 : List E) : bodyRun PP HH run loop none 15 [.agg [.e (.int .i64 a0_0), .e (.int .i64 a0_1), .e (.int .i64 a0_2), .e (.sl 9 a0_3),
  .e (.sl 27 a0_4), .e (.sl 81 a0_5)], .agg [.e (.int .i64 a1_0), .e (.int .i64 a1_1), .e (.int .i64 a1_2), .e (.sl 9 a1_3), .e (.sl 27 a1_4), .e (.sl 81 a1_5)]] [] = bif (bif bif
  !a0_0 == a1_0 then true else !a0_1 == a1_1 then true else !a0_2 == a1_2) == false then (run none 49 [AV.e (E.sl 9 a0_3), AV.e (E.sl 9 a1_3)] []).bind fun rh => bif okHeap [] rh.2
  then bif okRes PP 4 rh.fst then bif bif bif !rh.fst.val.data.toBool then true else !(↑a0_4.length : Int) == (↑a1_4.length : Int) then true else !(↑a0_5.length : Int) ==
  (↑a1_5.length : Int) then some (Res.ret ((yes false)), []) else (loop 15 0 lc_15_4 ([uu, uu, AV.ptr 0 0, AV.ptr 1 0, uu, (num 0)] ++
  List.replicate 116 uu) [Ob.box [(num a0_0), (num a0_1), (num a0_2), AV.e (E.sl 9 a0_3), AV.e (E.sl 27 a0_4), AV.e
  (E.sl 81 a0_5)], Ob.box [(num a1_0), (num a1_1), (num a1_2), AV.e (E.sl 9 a1_3), AV.e (E.sl 27 a1_4), AV.e (E.sl 81
  a1_5)]]).bind fun o => bif o.ex.isWay (Way.exit 0) then bif okFr ([uu, uu, AV.ptr 0 0, AV.ptr 1 0] ++ List.replicate 118 uu) o.2 && okHeap [Ob.box [AV.e (E.int
  IntKind.i64 0), (num 0), (num 0), AV.e (E.sl 9 []), AV.e (E.sl 27 []), AV.e (E.sl 81 [])], Ob.box [(num 0), AV.e (E.int
  IntKind.i64 0), (num 0), AV.e (E.sl 9 []), AV.e (E.sl 27 []), AV.e (E.sl 81 [])]] o.3 then (loop 15 0 lc_15_9 ([uu, uu, AV.ptr 0 0, AV.ptr 1 0,
  uu, uu, (num 0)] ++ List.replicate 115 uu) [Ob.box [(num ((o.hp.ob 0).cell 0).data.toInt), AV.e (E.int IntKind.i64
  ((o.hp.ob 0).cell 1).data.toInt), (num ((o.hp.ob 0).cell 2).data.toInt), AV.e (E.sl 9 ((o.hp.ob 0).cell 3).data.toList), AV.e (E.sl 27 ((o.hp.ob 0).cell
  4).data.toList), AV.e (E.sl 81 ((o.hp.ob 0).cell 5).data.toList)], Ob.box [(num ((o.hp.ob 1).cell 0).data.toInt), (num ((o.hp.ob 1).cell
  1).data.toInt), (num ((o.hp.ob 1).cell 2).data.toInt), AV.e (E.sl 9 ((o.hp.ob 1).cell 3).data.toList), AV.e (E.sl 27 ((o.hp.ob 1).cell 4).data.toList), AV.e
  (E.sl 81 ((o.hp.ob 1).cell 5).data.toList)]]).bind fun o => bif o.ex.isWay (Way.exit 2) then bif okFr (List.replicate 122 uu) o.2 && okHeap [] o.3 then some (Res.ret (AV.e
  (E.bool true)), []) else none else bif o.ex.isWay Way.ret then bif okFr ([uu, uu, uu, uu, (yes false)] ++ List.replicate 117 uu) o.2 &&
  okHeap [] o.3 then some (Res.ret ((yes (List.getD o.fr 4 uu).data.toBool)), []) else none else none else none else bif o.ex.isWay Way.ret then bif okFr ([uu,
  uu, uu, uu, (yes false)] ++ List.replicate 117 uu) o.2 && okHeap [] o.3 then some (Res.ret ((yes (List.getD o.fr 4
  uu).data.toBool)), []) else none else none else none else none else some (Res.ret ((yes false)), []) := by kernel_rfl
theorem eq_SameTL4 (run : RunF) (loop : LoopF) (t5 : Int) (t2_0 : Int) (t2_1 : Int) (t2_2 : Int) (t2_3 : List E) (t2_4 : List E) (t2_5 : List E) (t3_0 : Int) (t3_1 : Int) (t3_2 :
  Int) (t3_3 : List E) (t3_4 : List E) (t3_5 : List E) : bodyLoop PP HH run loop 15 0 lc_15_4 ((((List.replicate 122 uu).set 2 (.ptr 0 0)).set 3 (.ptr 1
  0)).set 5 (.e (.int .i64 t5))) [.box [.e (.int .i64 t2_0), .e (.int .i64 t2_1), .e (.int .i64 t2_2), .e (.sl 9 t2_3), .e (.sl 27 t2_4), .e (.sl 81 t2_5)], .box [.e (.int .i64
  t3_0), .e (.int .i64 t3_1), .e (.int .i64 t3_2), .e (.sl 9 t3_3), .e (.sl 27 t3_4), .e (.sl 81 t3_5)]] = bif decide (t5 < (↑t2_4.length : Int)) then bif decide (0 ≤ t5) && decide
  (t5 < (↑t2_4.length : Int)) then bif decide (0 ≤ t5) && decide (t5 < (↑t3_4.length : Int)) then (run none 15 [AV.agg [(num ((t2_4.getD t5.toNat E.nili).cell
  0).toInt), (num ((t2_4.getD t5.toNat E.nili).cell 1).toInt), (num ((t2_4.getD t5.toNat E.nili).cell 2).toInt), AV.e (E.sl 9 ((t2_4.getD
  t5.toNat E.nili).cell 3).toList), AV.e (E.sl 27 ((t2_4.getD t5.toNat E.nili).cell 4).toList), AV.e (E.sl 81 ((t2_4.getD t5.toNat E.nili).cell 5).toList)], AV.agg [AV.e (E.int
  IntKind.i64 ((t3_4.getD t5.toNat E.nili).cell 0).toInt), (num ((t3_4.getD t5.toNat E.nili).cell 1).toInt), (num ((t3_4.getD t5.toNat
  E.nili).cell 2).toInt), AV.e (E.sl 9 ((t3_4.getD t5.toNat E.nili).cell 3).toList), AV.e (E.sl 27 ((t3_4.getD t5.toNat E.nili).cell 4).toList), AV.e (E.sl 81 ((t3_4.getD t5.toNat
  E.nili).cell 5).toList)]] []).bind fun rh => bif okHeap [] rh.2 then bif okRes PP 4 rh.fst then bif !rh.fst.val.data.toBool then some (Out.mk (Ex.ret) (([uu,
  uu, uu, uu, (yes false)] ++ List.replicate 117 uu)) ([]) ([])) else (loop 15 0 lc_15_4 ([uu, uu, AV.ptr 0 0, AV.ptr 1 0, uu,
  (num (IntKind.i64.wrap (t5 + 1)))] ++ List.replicate 116 uu) [Ob.box [(num t2_0), (num t2_1), AV.e (E.int
  IntKind.i64 t2_2), AV.e (E.sl 9 t2_3), AV.e (E.sl 27 t2_4), AV.e (E.sl 81 t2_5)], Ob.box [(num t3_0), (num t3_1), AV.e (E.int IntKind.i64
  t3_2), AV.e (E.sl 9 t3_3), AV.e (E.sl 27 t3_4), AV.e (E.sl 81 t3_5)]]).bind fun o => some o else none else none else none else none else some (Out.mk (Ex.exit 0) (([uu,
  uu, AV.ptr 0 0, AV.ptr 1 0] ++ List.replicate 118 uu)) ([Ob.box [(num t2_0), (num t2_1), (num t2_2), AV.e
  (E.sl 9 t2_3), AV.e (E.sl 27 t2_4), AV.e (E.sl 81 t2_5)], Ob.box [(num t3_0), (num t3_1), (num t3_2), AV.e (E.sl 9 t3_3),
  AV.e (E.sl 27 t3_4), AV.e (E.sl 81 t3_5)]]) ([])) := by kernel_rfl
theorem eq_SameTL9 (run : RunF) (loop : LoopF) (t6 : Int) (t2_0 : Int) (t2_1 : Int) (t2_2 : Int) (t2_3 : List E) (t2_4 : List E) (t2_5 : List E) (t3_0 : Int) (t3_1 : Int) (t3_2 :
  Int) (t3_3 : List E) (t3_4 : List E) (t3_5 : List E) : bodyLoop PP HH run loop 15 0 lc_15_9 ((((List.replicate 122 uu).set 2 (.ptr 0 0)).set 3 (.ptr 1
  0)).set 6 (.e (.int .i64 t6))) [.box [.e (.int .i64 t2_0), .e (.int .i64 t2_1), .e (.int .i64 t2_2), .e (.sl 9 t2_3), .e (.sl 27 t2_4), .e (.sl 81 t2_5)], .box [.e (.int .i64
  t3_0), .e (.int .i64 t3_1), .e (.int .i64 t3_2), .e (.sl 9 t3_3), .e (.sl 27 t3_4), .e (.sl 81 t3_5)]] = bif decide (t6 < (↑t2_5.length : Int)) then bif decide (0 ≤ t6) && decide
  (t6 < (↑t2_5.length : Int)) then bif decide (0 ≤ t6) && decide (t6 < (↑t3_5.length : Int)) then bif (!strEq ((t2_5.getD t6.toNat E.nili).cell 0).toStr ((t3_5.getD t6.toNat
  E.nili).cell 0).toStr) == false then bif decide (0 ≤ t6) && decide (t6 < (↑t2_5.length : Int)) then bif decide (0 ≤ t6) && decide (t6 < (↑t3_5.length : Int)) then bif
  (!((t2_5.getD t6.toNat E.nili).cell 1).toBool == ((t3_5.getD t6.toNat E.nili).cell 1).toBool) == false then bif decide (0 ≤ t6) && decide (t6 < (↑t2_5.length : Int)) then bif
  decide (0 ≤ t6) && decide (t6 < (↑t3_5.length : Int)) then (run none 15 [AV.agg [(num ((t2_5.getD t6.toNat E.nili).cell 2).toInt), AV.e (E.int IntKind.i64
  ((t2_5.getD t6.toNat E.nili).cell 3).toInt), (num ((t2_5.getD t6.toNat E.nili).cell 4).toInt), AV.e (E.sl 9 ((t2_5.getD t6.toNat E.nili).cell 5).toList), AV.e
  (E.sl 27 ((t2_5.getD t6.toNat E.nili).cell 6).toList), AV.e (E.sl 81 ((t2_5.getD t6.toNat E.nili).cell 7).toList)], AV.agg [(num ((t3_5.getD t6.toNat
  E.nili).cell 2).toInt), (num ((t3_5.getD t6.toNat E.nili).cell 3).toInt), (num ((t3_5.getD t6.toNat E.nili).cell 4).toInt), AV.e (E.sl 9
  ((t3_5.getD t6.toNat E.nili).cell 5).toList), AV.e (E.sl 27 ((t3_5.getD t6.toNat E.nili).cell 6).toList), AV.e (E.sl 81 ((t3_5.getD t6.toNat E.nili).cell 7).toList)]] []).bind
  fun rh => bif okHeap [] rh.2 then bif okRes PP 4 rh.fst then bif !rh.fst.val.data.toBool then some (Out.mk (Ex.ret) (([uu, uu, uu, uu, AV.e (E.bool
  false)] ++ List.replicate 117 uu)) ([]) ([])) else (loop 15 0 lc_15_9 ([uu, uu, AV.ptr 0 0, AV.ptr 1 0, uu, uu, AV.e (E.int IntKind.i64
  (IntKind.i64.wrap (t6 + 1)))] ++ List.replicate 115 uu) [Ob.box [(num t2_0), (num t2_1), (num t2_2), AV.e (E.sl 9
  t2_3), AV.e (E.sl 27 t2_4), AV.e (E.sl 81 t2_5)], Ob.box [(num t3_0), (num t3_1), (num t3_2), AV.e (E.sl 9 t3_3), AV.e
  (E.sl 27 t3_4), AV.e (E.sl 81 t3_5)]]).bind fun o => some o else none else none else none else none else some (Out.mk (Ex.ret) (([uu, uu, uu, uu, AV.e
  (E.bool false)] ++ List.replicate 117 uu)) ([]) ([])) else none else none else some (Out.mk (Ex.ret) (([uu, uu, uu, uu, (yes false)] ++
  List.replicate 117 uu)) ([]) ([])) else none else none else some (Out.mk (Ex.exit 2) ((List.replicate 122 uu)) ([]) ([])) := by kernel_rfl

end Go.Proofs.YtghdhhmlmdohkaaGreatDoor
