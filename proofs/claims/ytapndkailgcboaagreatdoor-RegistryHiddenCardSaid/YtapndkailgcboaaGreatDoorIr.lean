/- The equations of functions, as a program of mine prints them. -/
import Derived.Test.YtapndkailgcboaaGreatDoorBase
namespace Go.Proofs.YtapndkailgcboaaGreatDoor
open Go Go.Den
set_option maxRecDepth 100000
set_option maxHeartbeats 0

theorem eq_RIncludes (run : RunF) (loop : LoopF) (a0_0 : Int) (a0_1 : Int) (a0_2 : Int) (a0_3 : List E) (a0_4 : List E) (a0_5 : List E) (a1_0 : Int) (a1_1 : Int) (a1_2 : Int) (a1_3
  : List E) (a1_4 : List E) (a1_5 : List E) : bodyRun PP HH run loop none 40 [.agg [.e (.int .i64 a0_0), .e (.int .i64 a0_1), .e (.int .i64 a0_2), .e (.sl 9 a0_3),
  .e (.sl 31 a0_4), .e (.sl 65 a0_5)], .agg [.e (.int .i64 a1_0), .e (.int .i64 a1_1), .e (.int .i64 a1_2), .e (.sl 9 a1_3), .e (.sl 31 a1_4), .e (.sl 65 a1_5)]] [] = bif a0_0 == 7
  then some (Res.ret ((yes true)), []) else bif bif a0_0 == 2 then a1_0 == 4 else false then (run none 67 [AV.agg [(num a0_0), AV.e (E.int IntKind.i64
  a0_1), (num a0_2), AV.e (E.sl 9 a0_3), AV.e (E.sl 31 a0_4), AV.e (E.sl 65 a0_5)], AV.e (E.sl 9 a1_3)] []).bind fun rh => bif okHeap [] rh.2 then bif okRes
  PP 4 rh.fst then some (Res.ret ((yes rh.fst.val.data.toBool)), []) else none else none else bif !a0_0 == a1_0 then some (Res.ret ((yes false)), []) else
  bif a0_0 == 1 then bif a0_0 == 1 then (run none 64 [(num a1_1), (num a1_2), (num a0_1), (num a0_2)]
  []).bind fun rh => bif okHeap [] rh.2 then bif okRes PP 4 rh.fst then some (Res.ret ((yes rh.fst.val.data.toBool)), []) else none else none else bif a0_0 == 4 then
  (loop 40 0 lc_40_13 ([uu, uu, AV.ptr 0 0, AV.ptr 1 0, uu, (num 0)] ++ List.replicate 86 uu) [Ob.box [(num a0_0),
  (num a0_1), (num a0_2), AV.e (E.sl 9 a0_3), AV.e (E.sl 31 a0_4), AV.e (E.sl 65 a0_5)], Ob.box [(num a1_0), AV.e (E.int
  IntKind.i64 a1_1), (num a1_2), AV.e (E.sl 9 a1_3), AV.e (E.sl 31 a1_4), AV.e (E.sl 65 a1_5)]]).bind fun o => bif o.ex.isWay (Way.exit 1) then bif okFr
  (List.replicate 92 uu) o.2 && okHeap [] o.3 then some (Res.ret ((yes true)), []) else none else bif o.ex.isWay Way.ret then bif okFr ([uu, uu, uu,
  uu, (yes false)] ++ List.replicate 87 uu) o.2 && okHeap [] o.3 then some (Res.ret ((yes (List.getD o.fr 4 uu).data.toBool)), []) else none else
  none else bif a0_0 == 5 then (run none 64 [(num a1_1), (num a1_2), (num a0_1), (num a0_2)] []).bind
  fun rh => bif okHeap [] rh.2 then bif okRes PP 4 rh.fst then bif rh.fst.val.data.toBool == true then bif (a1_2 == 0) == false then bif decide (0 < (↑a0_4.length : Int))
  then bif decide (0 < (↑a1_4.length : Int)) then (run none 40 [AV.agg [(num ((a0_4.getD 0 E.nili).cell 0).toInt), (num ((a0_4.getD 0
  E.nili).cell 1).toInt), (num ((a0_4.getD 0 E.nili).cell 2).toInt), AV.e (E.sl 9 ((a0_4.getD 0 E.nili).cell 3).toList), AV.e (E.sl 31 ((a0_4.getD 0 E.nili).cell
  4).toList), AV.e (E.sl 65 ((a0_4.getD 0 E.nili).cell 5).toList)], AV.agg [(num ((a1_4.getD 0 E.nili).cell 0).toInt), (num ((a1_4.getD 0
  E.nili).cell 1).toInt), (num ((a1_4.getD 0 E.nili).cell 2).toInt), AV.e (E.sl 9 ((a1_4.getD 0 E.nili).cell 3).toList), AV.e (E.sl 31 ((a1_4.getD 0 E.nili).cell
  4).toList), AV.e (E.sl 65 ((a1_4.getD 0 E.nili).cell 5).toList)]] []).bind fun rh => bif okHeap [] rh.2 then bif okRes PP 4 rh.fst then some (Res.ret (AV.e (E.bool
  rh.fst.val.data.toBool)), []) else none else none else none else none else some (Res.ret ((yes true)), []) else some (Res.ret ((yes false)), []) else none else
  none else bif a0_0 == 6 then (run none 69 [AV.e (E.sl 65 a0_5), AV.e (E.sl 65 a1_5)] []).bind fun rh => bif okHeap [] rh.2 then bif okRes PP 4 rh.fst then some (Res.ret
  ((yes rh.fst.val.data.toBool)), []) else none else none else some (Res.ret ((yes true)), []) else bif a0_0 == 2 then (run none 64 [(num a1_1),
  (num a1_2), (num a0_1), (num a0_2)] []).bind fun rh => bif okHeap [] rh.2 then bif okRes PP 4 rh.fst then some
  (Res.ret ((yes rh.fst.val.data.toBool)), []) else none else none else bif a0_0 == 4 then (loop 40 0 lc_40_13 ([uu, uu, AV.ptr 0 0, AV.ptr 1 0, uu, AV.e
  (E.int IntKind.i64 0)] ++ List.replicate 86 uu) [Ob.box [(num a0_0), (num a0_1), (num a0_2), AV.e (E.sl 9 a0_3),
  AV.e (E.sl 31 a0_4), AV.e (E.sl 65 a0_5)], Ob.box [(num a1_0), (num a1_1), (num a1_2), AV.e (E.sl 9 a1_3), AV.e (E.sl 31
  a1_4), AV.e (E.sl 65 a1_5)]]).bind fun o => bif o.ex.isWay (Way.exit 1) then bif okFr (List.replicate 92 uu) o.2 && okHeap [] o.3 then some (Res.ret ((yes true)),
  []) else none else bif o.ex.isWay Way.ret then bif okFr ([uu, uu, uu, uu, (yes false)] ++ List.replicate 87 uu) o.2 && okHeap [] o.3 then
  some (Res.ret ((yes (List.getD o.fr 4 uu).data.toBool)), []) else none else none else bif a0_0 == 5 then (run none 64 [(num a1_1), AV.e (E.int
  IntKind.i64 a1_2), (num a0_1), (num a0_2)] []).bind fun rh => bif okHeap [] rh.2 then bif okRes PP 4 rh.fst then bif
  rh.fst.val.data.toBool == true then bif (a1_2 == 0) == false then bif decide (0 < (↑a0_4.length : Int)) then bif decide (0 < (↑a1_4.length : Int)) then (run none 40 [AV.agg [AV.e
  (E.int IntKind.i64 ((a0_4.getD 0 E.nili).cell 0).toInt), (num ((a0_4.getD 0 E.nili).cell 1).toInt), (num ((a0_4.getD 0 E.nili).cell
  2).toInt), AV.e (E.sl 9 ((a0_4.getD 0 E.nili).cell 3).toList), AV.e (E.sl 31 ((a0_4.getD 0 E.nili).cell 4).toList), AV.e (E.sl 65 ((a0_4.getD 0 E.nili).cell 5).toList)], AV.agg
  [(num ((a1_4.getD 0 E.nili).cell 0).toInt), (num ((a1_4.getD 0 E.nili).cell 1).toInt), (num ((a1_4.getD 0 E.nili).cell
  2).toInt), AV.e (E.sl 9 ((a1_4.getD 0 E.nili).cell 3).toList), AV.e (E.sl 31 ((a1_4.getD 0 E.nili).cell 4).toList), AV.e (E.sl 65 ((a1_4.getD 0 E.nili).cell 5).toList)]] []).bind
  fun rh => bif okHeap [] rh.2 then bif okRes PP 4 rh.fst then some (Res.ret ((yes rh.fst.val.data.toBool)), []) else none else none else none else none else some
  (Res.ret ((yes true)), []) else some (Res.ret ((yes false)), []) else none else none else bif a0_0 == 6 then (run none 69 [AV.e (E.sl 65 a0_5), AV.e (E.sl 65
  a1_5)] []).bind fun rh => bif okHeap [] rh.2 then bif okRes PP 4 rh.fst then some (Res.ret ((yes rh.fst.val.data.toBool)), []) else none else none else some
  (Res.ret ((yes true)), []) := by kernel_rfl
theorem eq_covers (run : RunF) (loop : LoopF) (a0_0 : Int) (a0_1 : Int) (a0_2 : Int) (a0_3 : List E) (a0_4 : List E) (a0_5 : List E) (a1 : List E) : bodyRun PP HH
  run loop none 67 [.agg [.e (.int .i64 a0_0), .e (.int .i64 a0_1), .e (.int .i64 a0_2), .e (.sl 9 a0_3), .e (.sl 31 a0_4), .e (.sl 65 a0_5)], .e (.sl 9 a1)] [] = (loop 67 0
  lc_67_2 ([uu, AV.e (E.sl 9 a1), AV.ptr 0 0, uu, uu, (num 0)] ++ List.replicate 24 uu) [Ob.box [(num a0_0), AV.e
  (E.int IntKind.i64 a0_1), (num a0_2), AV.e (E.sl 9 a0_3), AV.e (E.sl 31 a0_4), AV.e (E.sl 65 a0_5)]]).bind fun o => bif o.ex.isWay (Way.exit 0) then bif okFr
  (List.replicate 30 uu) o.2 && okHeap [] o.3 then some (Res.ret ((yes true)), []) else none else bif o.ex.isWay Way.ret then bif okFr ([uu, uu, uu,
  uu, (yes false)] ++ List.replicate 25 uu) o.2 && okHeap [] o.3 then some (Res.ret ((yes (List.getD o.fr 4 uu).data.toBool)), []) else none else
  none := by kernel_rfl
theorem eq_coversL (run : RunF) (loop : LoopF) (t1 : List E) (t5 : Int) (t2_0 : Int) (t2_1 : Int) (t2_2 : Int) (t2_3 : List E) (t2_4 : List E) (t2_5 : List E) : bodyLoop
  PP HH run loop 67 0 lc_67_2 ((((List.replicate 30 uu).set 1 (.e (.sl 9 t1))).set 2 (.ptr 0 0)).set 5 (.e (.int .i64 t5))) [.box [.e (.int .i64 t2_0), .e
  (.int .i64 t2_1), .e (.int .i64 t2_2), .e (.sl 9 t2_3), .e (.sl 31 t2_4), .e (.sl 65 t2_5)]] = bif decide (t5 < (↑t1.length : Int)) then bif decide (0 ≤ t5) && decide (t5 <
  (↑t1.length : Int)) then bif decide ((↑((t1.getD t5.toNat E.nili).cell 0).toStr.length : Int) < t2_1) == false then bif decide (0 ≤ t5) && decide (t5 < (↑t1.length : Int)) then
  bif decide (t2_2 < (↑((t1.getD t5.toNat E.nili).cell 0).toStr.length : Int)) then some (Out.mk (Ex.ret) (([uu, uu, uu, uu, (yes false)] ++
  List.replicate 25 uu)) ([]) ([])) else (loop 67 0 lc_67_2 ([uu, AV.e (E.sl 9 t1), AV.ptr 0 0, uu, uu, (num (IntKind.i64.wrap (t5 +
  1)))] ++ List.replicate 24 uu) [Ob.box [(num t2_0), (num t2_1), (num t2_2), AV.e (E.sl 9 t2_3), AV.e (E.sl 31
  t2_4), AV.e (E.sl 65 t2_5)]]).bind fun o => some o else none else some (Out.mk (Ex.ret) (([uu, uu, uu, uu, (yes false)] ++ List.replicate 25
  uu)) ([]) ([])) else none else some (Out.mk (Ex.exit 0) ((List.replicate 30 uu)) ([]) ([])) := by kernel_rfl
theorem eq_records (run : RunF) (loop : LoopF) (a0 : List E) (a1 : List E) : bodyRun PP HH run loop none 69 [.e (.sl 65 a0), .e (.sl 65 a1)] [] = (loop 69 0
  lc_69_2 ([AV.e (E.sl 65 a0), AV.e (E.sl 65 a1), uu, uu, uu, (num 0)] ++ List.replicate 62 uu) []).bind fun o => bif o.ex.isWay
  (Way.exit 0) then bif okFr ([AV.e (E.sl 65 []), AV.e (E.sl 65 [])] ++ List.replicate 66 uu) o.2 && okHeap [] o.3 then (loop 69 0 lc_69_8 ([AV.e (E.sl 65 (List.getD o.fr 0
  uu).data.toList), AV.e (E.sl 65 (List.getD o.fr 1 uu).data.toList), uu, uu, uu, uu, uu, (num 0)] ++ List.replicate 60
  uu) []).bind fun o => bif o.ex.isWay (Way.exit 2) then bif okFr (List.replicate 68 uu) o.2 && okHeap [] o.3 then some (Res.ret ((yes true)), []) else none
  else bif o.ex.isWay Way.ret then bif okFr ([uu, uu, uu, uu, (yes false)] ++ List.replicate 63 uu) o.2 && okHeap [] o.3 then some (Res.ret
  ((yes (List.getD o.fr 4 uu).data.toBool)), []) else none else none else none else bif o.ex.isWay Way.ret then bif okFr ([uu, uu, uu, uu,
  (yes false)] ++ List.replicate 63 uu) o.2 && okHeap [] o.3 then some (Res.ret ((yes (List.getD o.fr 4 uu).data.toBool)), []) else none else none := by
  kernel_rfl
theorem eq_recordsL2 (run : RunF) (loop : LoopF) (t0 : List E) (t1 : List E) (t5 : Int) : bodyLoop PP HH run loop 69 0 lc_69_2 ((((List.replicate 68 uu).set
  0 (.e (.sl 65 t0))).set 1 (.e (.sl 65 t1))).set 5 (.e (.int .i64 t5))) [] = bif decide (t5 < (↑t1.length : Int)) then bif decide (0 ≤ t5) && decide (t5 < (↑t1.length : Int)) then
  (run none 86 [AV.e (E.sl 65 t0), (str ((t1.getD t5.toNat E.nili).cell 0).toStr)] []).bind fun rh => bif okHeap [] rh.2 then bif okRes PP 3 rh.fst then bif decide
  (rh.fst.val.data.toInt < 0) == false then bif decide (0 ≤ rh.fst.val.data.toInt) && decide (rh.fst.val.data.toInt < (↑t0.length : Int)) then bif decide (0 ≤ t5) && decide (t5 <
  (↑t1.length : Int)) then (run none 40 [AV.agg [(num ((t0.getD rh.fst.val.data.toInt.toNat E.nili).cell 2).toInt), (num ((t0.getD
  rh.fst.val.data.toInt.toNat E.nili).cell 3).toInt), (num ((t0.getD rh.fst.val.data.toInt.toNat E.nili).cell 4).toInt), AV.e (E.sl 9 ((t0.getD
  rh.fst.val.data.toInt.toNat E.nili).cell 5).toList), AV.e (E.sl 31 ((t0.getD rh.fst.val.data.toInt.toNat E.nili).cell 6).toList), AV.e (E.sl 65 ((t0.getD
  rh.fst.val.data.toInt.toNat E.nili).cell 7).toList)], AV.agg [(num ((t1.getD t5.toNat E.nili).cell 2).toInt), (num ((t1.getD t5.toNat
  E.nili).cell 3).toInt), (num ((t1.getD t5.toNat E.nili).cell 4).toInt), AV.e (E.sl 9 ((t1.getD t5.toNat E.nili).cell 5).toList), AV.e (E.sl 31 ((t1.getD
  t5.toNat E.nili).cell 6).toList), AV.e (E.sl 65 ((t1.getD t5.toNat E.nili).cell 7).toList)]] []).bind fun rh => bif okHeap [] rh.2 then bif okRes PP 4 rh.fst then bif
  !rh.fst.val.data.toBool then some (Out.mk (Ex.ret) (([uu, uu, uu, uu, (yes false)] ++ List.replicate 63 uu)) ([]) ([])) else (loop 69 0
  lc_69_2 ([AV.e (E.sl 65 t0), AV.e (E.sl 65 t1), uu, uu, uu, (num (IntKind.i64.wrap (t5 + 1)))] ++ List.replicate 62 uu) []).bind fun o
  => some o else none else none else none else none else some (Out.mk (Ex.ret) (([uu, uu, uu, uu, (yes false)] ++ List.replicate 63 uu)) ([])
  ([])) else none else none else none else some (Out.mk (Ex.exit 0) (([AV.e (E.sl 65 t0), AV.e (E.sl 65 t1)] ++ List.replicate 66 uu)) ([]) ([])) := by kernel_rfl
theorem eq_recordsL8 (run : RunF) (loop : LoopF) (t0 : List E) (t1 : List E) (t7 : Int) : bodyLoop PP HH run loop 69 0 lc_69_8 ((((List.replicate 68 uu).set
  0 (.e (.sl 65 t0))).set 1 (.e (.sl 65 t1))).set 7 (.e (.int .i64 t7))) [] = bif decide (t7 < (↑t0.length : Int)) then bif decide (0 ≤ t7) && decide (t7 < (↑t0.length : Int)) then
  (run none 86 [AV.e (E.sl 65 t1), (str ((t0.getD t7.toNat E.nili).cell 0).toStr)] []).bind fun rh => bif okHeap [] rh.2 then bif okRes PP 3 rh.fst then bif decide (0
  ≤ t7) && decide (t7 < (↑t0.length : Int)) then bif (!((t0.getD t7.toNat E.nili).cell 1).toBool) == true then bif decide (rh.fst.val.data.toInt < 0) == false then bif decide (0 ≤
  rh.fst.val.data.toInt) && decide (rh.fst.val.data.toInt < (↑t1.length : Int)) then bif ((t1.getD rh.fst.val.data.toInt.toNat E.nili).cell 1).toBool then some (Out.mk (Ex.ret)
  (([uu, uu, uu, uu, (yes false)] ++ List.replicate 63 uu)) ([]) ([])) else (loop 69 0 lc_69_8 ([AV.e (E.sl 65 t0), AV.e (E.sl 65 t1),
  uu, uu, uu, uu, uu, (num (IntKind.i64.wrap (t7 + 1)))] ++ List.replicate 60 uu) []).bind fun o => some o else none else
  some (Out.mk (Ex.ret) (([uu, uu, uu, uu, (yes false)] ++ List.replicate 63 uu)) ([]) ([])) else (loop 69 0 lc_69_8 ([AV.e (E.sl 65 t0), AV.e
  (E.sl 65 t1), uu, uu, uu, uu, uu, (num (IntKind.i64.wrap (t7 + 1)))] ++ List.replicate 60 uu) []).bind fun o => some o else
  none else none else none else none else some (Out.mk (Ex.exit 2) ((List.replicate 68 uu)) ([]) ([])) := by kernel_rfl
theorem eq_rfield (run : RunF) (loop : LoopF) (a0 : List E) (a1 : List UInt8) : bodyRun PP HH run loop none 86 [.e (.sl 65 a0), .e (.str a1)] [] = (loop 86 0
  lc_86_2 ([AV.e (E.sl 65 a0), (str a1), uu, uu, uu, (num 0)] ++ List.replicate 14 uu) []).bind fun o => bif o.ex.isWay (Way.exit
  0) then bif okFr (List.replicate 20 uu) o.2 && okHeap [] o.3 then some (Res.ret ((num (-1))), []) else none else bif o.ex.isWay Way.ret then bif okFr
  ([uu, uu, uu, uu, (num 0)] ++ List.replicate 15 uu) o.2 && okHeap [] o.3 then some (Res.ret ((num (List.getD
  o.fr 4 uu).data.toInt)), []) else none else none := by kernel_rfl
theorem eq_rfieldL (run : RunF) (loop : LoopF) (t0 : List E) (t1 : List UInt8) (t5 : Int) : bodyLoop PP HH run loop 86 0 lc_86_2 ((((List.replicate 20
  uu).set 0 (.e (.sl 65 t0))).set 1 (.e (.str t1))).set 5 (.e (.int .i64 t5))) [] = bif decide (t5 < (↑t0.length : Int)) then bif decide (0 ≤ t5) && decide (t5 < (↑t0.length
  : Int)) then bif strEq ((t0.getD t5.toNat E.nili).cell 0).toStr t1 then some (Out.mk (Ex.ret) (([uu, uu, uu, uu, (num t5)] ++
  List.replicate 15 uu)) ([]) ([])) else (loop 86 0 lc_86_2 ([AV.e (E.sl 65 t0), (str t1), uu, uu, uu, (num (IntKind.i64.wrap (t5
  + 1)))] ++ List.replicate 14 uu) []).bind fun o => some o else none else some (Out.mk (Ex.exit 0) ((List.replicate 20 uu)) ([]) ([])) := by kernel_rfl
theorem eq_RIncludesL13 (run : RunF) (loop : LoopF) (t5 : Int) (t2_0 : Int) (t2_1 : Int) (t2_2 : Int) (t2_3 : List E) (t2_4 : List E) (t2_5 : List E) (t3_0 : Int) (t3_1 : Int)
  (t3_2 : Int) (t3_3 : List E) (t3_4 : List E) (t3_5 : List E) : bodyLoop PP HH run loop 40 0 lc_40_13 ((((List.replicate 92 uu).set 2 (.ptr 0 0)).set 3
  (.ptr 1 0)).set 5 (.e (.int .i64 t5))) [.box [.e (.int .i64 t2_0), .e (.int .i64 t2_1), .e (.int .i64 t2_2), .e (.sl 9 t2_3), .e (.sl 31 t2_4), .e (.sl 65 t2_5)], .box [.e (.int
  .i64 t3_0), .e (.int .i64 t3_1), .e (.int .i64 t3_2), .e (.sl 9 t3_3), .e (.sl 31 t3_4), .e (.sl 65 t3_5)]] = bif decide (t5 < (↑t3_3.length : Int)) then bif decide (0 ≤ t5) &&
  decide (t5 < (↑t3_3.length : Int)) then (run none 68 [AV.e (E.sl 9 t2_3), (str ((t3_3.getD t5.toNat E.nili).cell 0).toStr)] []).bind fun rh => bif okHeap [] rh.2 then bif
  okRes PP 4 rh.fst then bif !rh.fst.val.data.toBool then some (Out.mk (Ex.ret) (([uu, uu, uu, uu, (yes false)] ++ List.replicate 87
  uu)) ([]) ([])) else (loop 40 0 lc_40_13 ([uu, uu, AV.ptr 0 0, AV.ptr 1 0, uu, (num (IntKind.i64.wrap (t5 + 1)))] ++ List.replicate 86
  uu) [Ob.box [(num t2_0), (num t2_1), (num t2_2), AV.e (E.sl 9 t2_3), AV.e (E.sl 31 t2_4), AV.e (E.sl 65 t2_5)],
  Ob.box [(num t3_0), (num t3_1), (num t3_2), AV.e (E.sl 9 t3_3), AV.e (E.sl 31 t3_4), AV.e (E.sl 65 t3_5)]]).bind fun o =>
  some o else none else none else none else some (Out.mk (Ex.exit 1) ((List.replicate 92 uu)) ([]) ([])) := by kernel_rfl

end Go.Proofs.YtapndkailgcboaaGreatDoor
