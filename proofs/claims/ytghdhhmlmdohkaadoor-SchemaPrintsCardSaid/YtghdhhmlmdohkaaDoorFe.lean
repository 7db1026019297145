/- The equations of functions, as a program of mine prints them. -/
import Derived.Test.YtghdhhmlmdohkaaDoorBase
namespace Go.Proofs.YtghdhhmlmdohkaaDoor
open Go Go.Den
set_option maxRecDepth 100000
set_option maxHeartbeats 0

theorem eq_small (run : RunF) (loop : LoopF) (a0_0 : Int) (a0_1 : Int) (a0_2 : List UInt8) (a0_3 : List E) (a0_4 : List E) : bodyRun PP HH run loop none 20 [.agg
  [.e (.int .i64 a0_0), .e (.int .i64 a0_1), .e (.str a0_2), .e (.sl 9 a0_3), .e (.sl 38 a0_4)]] [] = (run none 44 [AV.agg [(num a0_0), AV.e (E.int IntKind.i64
  a0_1), (str a0_2), AV.e (E.sl 9 a0_3), AV.e (E.sl 38 a0_4)], (num 0)] []).bind fun rh => bif okHeap [] rh.2 then bif okRes PP 3 rh.fst then some
  (Res.ret ((yes (decide (rh.fst.val.data.toInt < 3000)))), []) else none else none := by kernel_rfl
theorem eq_parts (run : RunF) (loop : LoopF) (a0_0 : Int) (a0_1 : Int) (a0_2 : List UInt8) (a0_3 : List E) (a0_4 : List E) (a1 : Int) : bodyRun PP HH run loop none
  44 [.agg [.e (.int .i64 a0_0), .e (.int .i64 a0_1), .e (.str a0_2), .e (.sl 9 a0_3), .e (.sl 38 a0_4)], .e (.int .i64 a1)] [] = (loop 44 0 lc_44_3 ([uu, AV.e (E.int
  IntKind.i64 (IntKind.i64.wrap (a1 + IntKind.i64.wrap (IntKind.i64.wrap (IntKind.i64.wrap (1 + (↑a0_2.length : Int)) + (↑a0_3.length : Int)) + (↑a0_4.length : Int))))), AV.ptr 0
  0, uu, uu, (num 0)] ++ List.replicate 33 uu) [Ob.box [(num a0_0), (num a0_1), (str a0_2), AV.e
  (E.sl 9 a0_3), AV.e (E.sl 38 a0_4)]]).bind fun o => bif o.ex.isWay (Way.exit 0) then bif okFr ([uu, (num 0)] ++ List.replicate 37 uu) o.2 && okHeap
  [] o.3 then some (Res.ret ((num (List.getD o.fr 1 uu).data.toInt)), []) else none else none := by kernel_rfl
theorem eq_partsL3 (run : RunF) (loop : LoopF) (t1 : Int) (t5 : Int) (t2_0 : Int) (t2_1 : Int) (t2_2 : List UInt8) (t2_3 : List E) (t2_4 : List E) : bodyLoop PP HH
  run loop 44 0 lc_44_3 ((((List.replicate 39 uu).set 1 (.e (.int .i64 t1))).set 2 (.ptr 0 0)).set 5 (.e (.int .i64 t5))) [.box [.e (.int .i64 t2_0), .e (.int .i64 t2_1), .e
  (.str t2_2), .e (.sl 9 t2_3), .e (.sl 38 t2_4)]] = bif bif decide (t5 < (↑t2_4.length : Int)) then decide (t1 < 3000) else false then bif decide (0 ≤ t5) && decide (t5 <
  (↑t2_4.length : Int)) then (run none 44 [AV.agg [(num ((t2_4.getD t5.toNat E.nili).cell 0).toInt), (num ((t2_4.getD t5.toNat E.nili).cell
  1).toInt), (str ((t2_4.getD t5.toNat E.nili).cell 2).toStr), AV.e (E.sl 9 ((t2_4.getD t5.toNat E.nili).cell 3).toList), AV.e (E.sl 38 ((t2_4.getD t5.toNat E.nili).cell
  4).toList)], (num t1)] []).bind fun rh => bif okHeap [] rh.2 then bif okRes PP 3 rh.fst then (loop 44 0 lc_44_3 ([uu, AV.e (E.int IntKind.i64
  rh.fst.val.data.toInt), AV.ptr 0 0, uu, uu, (num (IntKind.i64.wrap (t5 + 1)))] ++ List.replicate 33 uu) [Ob.box [AV.e (E.int IntKind.i64
  t2_0), (num t2_1), (str t2_2), AV.e (E.sl 9 t2_3), AV.e (E.sl 38 t2_4)]]).bind fun o => some o else none else none else none else some (Out.mk (Ex.exit
  0) (([uu, (num t1)] ++ List.replicate 37 uu)) ([]) ([])) := by kernel_rfl
theorem eq_CheckValue (run : RunF) (loop : LoopF) (a0_0 : Int) (a0_1 : Int) (a0_2 : List UInt8) (a0_3 : List E) (a0_4 : List E) : bodyRun PP HH run loop none 26
  [.agg [.e (.int .i64 a0_0), .e (.int .i64 a0_1), .e (.str a0_2), .e (.sl 9 a0_3), .e (.sl 38 a0_4)]] [] = (run none 54 [AV.agg [(num a0_0), AV.e (E.int
  IntKind.i64 a0_1), (str a0_2), AV.e (E.sl 9 a0_3), AV.e (E.sl 38 a0_4)], (num 1)] []).bind fun rh => bif okHeap [] rh.2 then bif okRes PP 4
  rh.fst then bif rh.fst.val.data.toBool then some (Res.ret ((num 27)), []) else (run none 55 [AV.agg [(num a0_0), AV.e (E.int IntKind.i64
  a0_1), (str a0_2), AV.e (E.sl 9 a0_3), AV.e (E.sl 38 a0_4)]] []).bind fun rh => bif okHeap [] rh.2 then bif okRes PP 29 rh.fst then some (Res.ret (AV.e (E.int
  IntKind.i64 rh.fst.val.data.toInt)), []) else none else none else none else none := by kernel_rfl
theorem eq_DeepValue (run : RunF) (loop : LoopF) (a0_0 : Int) (a0_1 : Int) (a0_2 : List UInt8) (a0_3 : List E) (a0_4 : List E) (a1 : Int) : bodyRun PP HH run loop
  none 54 [.agg [.e (.int .i64 a0_0), .e (.int .i64 a0_1), .e (.str a0_2), .e (.sl 9 a0_3), .e (.sl 38 a0_4)], .e (.int .i64 a1)] [] = bif decide (6 < a1) then some (Res.ret (AV.e
  (E.bool true)), []) else (loop 54 0 lc_54_4 ([uu, (num a1), AV.ptr 0 0, uu, uu, (num 0)] ++ List.replicate 27 uu)
  [Ob.box [(num a0_0), (num a0_1), (str a0_2), AV.e (E.sl 9 a0_3), AV.e (E.sl 38 a0_4)]]).bind fun o => bif o.ex.isWay (Way.exit 0)
  then bif okFr (List.replicate 33 uu) o.2 && okHeap [] o.3 then some (Res.ret ((yes false)), []) else none else bif o.ex.isWay Way.ret then bif okFr ([uu,
  uu, uu, uu, (yes false)] ++ List.replicate 28 uu) o.2 && okHeap [] o.3 then some (Res.ret ((yes (List.getD o.fr 4 uu).data.toBool)),
  []) else none else none := by kernel_rfl
theorem eq_DeepValueL4 (run : RunF) (loop : LoopF) (t1 : Int) (t5 : Int) (t2_0 : Int) (t2_1 : Int) (t2_2 : List UInt8) (t2_3 : List E) (t2_4 : List E) : bodyLoop
  PP HH run loop 54 0 lc_54_4 ((((List.replicate 33 uu).set 1 (.e (.int .i64 t1))).set 2 (.ptr 0 0)).set 5 (.e (.int .i64 t5))) [.box [.e (.int .i64 t2_0),
  .e (.int .i64 t2_1), .e (.str t2_2), .e (.sl 9 t2_3), .e (.sl 38 t2_4)]] = bif decide (t5 < (↑t2_4.length : Int)) == true then bif (t2_0 == 5) == false then bif t2_0 == 6 then
  bif decide (0 ≤ t5) && decide (t5 < (↑t2_4.length : Int)) then (run none 54 [AV.agg [(num ((t2_4.getD t5.toNat E.nili).cell 0).toInt), AV.e (E.int IntKind.i64
  ((t2_4.getD t5.toNat E.nili).cell 1).toInt), (str ((t2_4.getD t5.toNat E.nili).cell 2).toStr), AV.e (E.sl 9 ((t2_4.getD t5.toNat E.nili).cell 3).toList), AV.e (E.sl 38
  ((t2_4.getD t5.toNat E.nili).cell 4).toList)], (num (IntKind.i64.wrap (t1 + 1)))] []).bind fun rh => bif okHeap [] rh.2 then bif okRes PP 4 rh.fst then
  bif rh.fst.val.data.toBool then some (Out.mk (Ex.ret) (([uu, uu, uu, uu, (yes true)] ++ List.replicate 28 uu)) ([]) ([])) else (loop 54 0
  lc_54_4 ([uu, (num t1), AV.ptr 0 0, uu, uu, (num (IntKind.i64.wrap (t5 + 1)))] ++ List.replicate 27 uu) [Ob.box
  [(num t2_0), (num t2_1), (str t2_2), AV.e (E.sl 9 t2_3), AV.e (E.sl 38 t2_4)]]).bind fun o => some o else none else none else none
  else some (Out.mk (Ex.exit 0) ((List.replicate 33 uu)) ([]) ([])) else bif decide (0 ≤ t5) && decide (t5 < (↑t2_4.length : Int)) then (run none 54 [AV.agg [AV.e (E.int
  IntKind.i64 ((t2_4.getD t5.toNat E.nili).cell 0).toInt), (num ((t2_4.getD t5.toNat E.nili).cell 1).toInt), (str ((t2_4.getD t5.toNat E.nili).cell
  2).toStr), AV.e (E.sl 9 ((t2_4.getD t5.toNat E.nili).cell 3).toList), AV.e (E.sl 38 ((t2_4.getD t5.toNat E.nili).cell 4).toList)], (num (IntKind.i64.wrap (t1 +
  1)))] []).bind fun rh => bif okHeap [] rh.2 then bif okRes PP 4 rh.fst then bif rh.fst.val.data.toBool then some (Out.mk (Ex.ret) (([uu, uu, uu,
  uu, (yes true)] ++ List.replicate 28 uu)) ([]) ([])) else (loop 54 0 lc_54_4 ([uu, (num t1), AV.ptr 0 0, uu, uu, AV.e
  (E.int IntKind.i64 (IntKind.i64.wrap (t5 + 1)))] ++ List.replicate 27 uu) [Ob.box [(num t2_0), (num t2_1), (str t2_2), AV.e
  (E.sl 9 t2_3), AV.e (E.sl 38 t2_4)]]).bind fun o => some o else none else none else none else some (Out.mk (Ex.exit 0) ((List.replicate 33 uu)) ([]) ([])) := by kernel_rfl
theorem eq_checkValue (run : RunF) (loop : LoopF) (a0_0 : Int) (a0_1 : Int) (a0_2 : List UInt8) (a0_3 : List E) (a0_4 : List E) : bodyRun PP HH run loop none 55
  [.agg [.e (.int .i64 a0_0), .e (.int .i64 a0_1), .e (.str a0_2), .e (.sl 9 a0_3), .e (.sl 38 a0_4)]] [] = bif bif bif decide (a0_0 < 1) then true else decide (6 < a0_0) then true
  else a0_0 == 4 then some (Res.ret ((num 10)), []) else (run none 100 [AV.agg [(num a0_0), (num a0_1), (str a0_2),
  AV.e (E.sl 9 a0_3), AV.e (E.sl 38 a0_4)]] []).bind fun rh => bif okHeap [] rh.2 then bif okRes PP 4 rh.fst then bif rh.fst.val.data.toBool then some (Res.ret (AV.e (E.int
  IntKind.i64 28)), []) else bif (a0_0 == 1) == true then (run none 62 [(num a0_1), (num a0_1), AV.e (E.int IntKind.i64
  (-4611686018427387904)), (num 4611686018427387904)] []).bind fun rh => bif okHeap [] rh.2 then bif okRes PP 4 rh.fst then bif (!rh.fst.val.data.toBool)
  == false then bif (a0_0 == 3) == true then bif (!a0_1 == 0) == true then bif !a0_1 == 1 then some (Res.ret ((num 1)), []) else (loop 55 0 lc_55_8 ([uu,
  AV.ptr 0 0, uu, (num 0)] ++ List.replicate 91 uu) [Ob.box [(num a0_0), (num a0_1), (str a0_2), AV.e
  (E.sl 9 a0_3), AV.e (E.sl 38 a0_4)]]).bind fun o => bif o.ex.isWay (Way.exit 0) then bif okFr (List.replicate 95 uu) o.2 && okHeap [] o.3 then some (Res.ret (AV.e (E.int
  IntKind.i64 0)), []) else none else bif o.ex.isWay Way.ret then bif okFr ([uu, uu, (num 0)] ++ List.replicate 92 uu) o.2 && okHeap [] o.3
  then some (Res.ret ((num (List.getD o.fr 2 uu).data.toInt)), []) else none else none else (loop 55 0 lc_55_8 ([uu, AV.ptr 0 0, uu, AV.e
  (E.int IntKind.i64 0)] ++ List.replicate 91 uu) [Ob.box [(num a0_0), (num a0_1), (str a0_2), AV.e (E.sl 9 a0_3), AV.e (E.sl 38
  a0_4)]]).bind fun o => bif o.ex.isWay (Way.exit 0) then bif okFr (List.replicate 95 uu) o.2 && okHeap [] o.3 then some (Res.ret ((num 0)), []) else none
  else bif o.ex.isWay Way.ret then bif okFr ([uu, uu, (num 0)] ++ List.replicate 92 uu) o.2 && okHeap [] o.3 then some (Res.ret (AV.e (E.int
  IntKind.i64 (List.getD o.fr 2 uu).data.toInt)), []) else none else none else (loop 55 0 lc_55_8 ([uu, AV.ptr 0 0, uu, (num 0)] ++
  List.replicate 91 uu) [Ob.box [(num a0_0), (num a0_1), (str a0_2), AV.e (E.sl 9 a0_3), AV.e (E.sl 38 a0_4)]]).bind fun o => bif
  o.ex.isWay (Way.exit 0) then bif okFr (List.replicate 95 uu) o.2 && okHeap [] o.3 then some (Res.ret ((num 0)), []) else none else bif o.ex.isWay Way.ret
  then bif okFr ([uu, uu, (num 0)] ++ List.replicate 92 uu) o.2 && okHeap [] o.3 then some (Res.ret ((num (List.getD o.fr 2
  uu).data.toInt)), []) else none else none else some (Res.ret ((num 1)), []) else none else none else bif (a0_0 == 3) == true then bif (!a0_1 == 0) ==
  true then bif !a0_1 == 1 then some (Res.ret ((num 1)), []) else (loop 55 0 lc_55_8 ([uu, AV.ptr 0 0, uu, (num 0)] ++
  List.replicate 91 uu) [Ob.box [(num a0_0), (num a0_1), (str a0_2), AV.e (E.sl 9 a0_3), AV.e (E.sl 38 a0_4)]]).bind fun o => bif
  o.ex.isWay (Way.exit 0) then bif okFr (List.replicate 95 uu) o.2 && okHeap [] o.3 then some (Res.ret ((num 0)), []) else none else bif o.ex.isWay Way.ret
  then bif okFr ([uu, uu, (num 0)] ++ List.replicate 92 uu) o.2 && okHeap [] o.3 then some (Res.ret ((num (List.getD o.fr 2
  uu).data.toInt)), []) else none else none else (loop 55 0 lc_55_8 ([uu, AV.ptr 0 0, uu, (num 0)] ++ List.replicate 91 uu) [Ob.box [AV.e
  (E.int IntKind.i64 a0_0), (num a0_1), (str a0_2), AV.e (E.sl 9 a0_3), AV.e (E.sl 38 a0_4)]]).bind fun o => bif o.ex.isWay (Way.exit 0) then bif okFr
  (List.replicate 95 uu) o.2 && okHeap [] o.3 then some (Res.ret ((num 0)), []) else none else bif o.ex.isWay Way.ret then bif okFr ([uu, uu,
  (num 0)] ++ List.replicate 92 uu) o.2 && okHeap [] o.3 then some (Res.ret ((num (List.getD o.fr 2 uu).data.toInt)), []) else
  none else none else (loop 55 0 lc_55_8 ([uu, AV.ptr 0 0, uu, (num 0)] ++ List.replicate 91 uu) [Ob.box [(num a0_0), AV.e
  (E.int IntKind.i64 a0_1), (str a0_2), AV.e (E.sl 9 a0_3), AV.e (E.sl 38 a0_4)]]).bind fun o => bif o.ex.isWay (Way.exit 0) then bif okFr (List.replicate 95 uu) o.2
  && okHeap [] o.3 then some (Res.ret ((num 0)), []) else none else bif o.ex.isWay Way.ret then bif okFr ([uu, uu, (num 0)] ++
  List.replicate 92 uu) o.2 && okHeap [] o.3 then some (Res.ret ((num (List.getD o.fr 2 uu).data.toInt)), []) else none else none else none else none
  := by kernel_rfl
theorem eq_checkValueL8 (run : RunF) (loop : LoopF) (t3 : Int) (t1_0 : Int) (t1_1 : Int) (t1_2 : List UInt8) (t1_3 : List E) (t1_4 : List E) : bodyLoop PP HH run
  loop 55 0 lc_55_8 (((List.replicate 95 uu).set 1 (.ptr 0 0)).set 3 (.e (.int .i64 t3))) [.box [.e (.int .i64 t1_0), .e (.int .i64 t1_1), .e (.str t1_2), .e (.sl 9 t1_3), .e
  (.sl 38 t1_4)]] = bif decide (t3 < (↑t1_4.length : Int)) then bif (t1_0 == 6) == true then bif decide (0 ≤ t3) && decide (t3 < (↑t1_3.length : Int)) then (run none 101 [AV.e
  (E.str ((t1_3.getD t3.toNat E.nili).cell 0).toStr)] []).bind fun rh => bif okHeap [] rh.2 then bif okRes PP 4 rh.fst then bif !rh.fst.val.data.toBool then some (Out.mk
  (Ex.ret) (([uu, uu, (num 11)] ++ List.replicate 92 uu)) ([]) ([])) else bif (t1_0 == 6) == true then bif decide (0 < t3) == true then bif
  decide (0 ≤ t3) && decide (t3 < (↑t1_3.length : Int)) then bif decide (0 ≤ IntKind.i64.wrap (t3 - 1)) && decide (IntKind.i64.wrap (t3 - 1) < (↑t1_3.length : Int)) then bif
  Op.bytesLess ((t1_3.getD t3.toNat E.nili).cell 0).toStr ((t1_3.getD (IntKind.i64.wrap (t3 - 1)).toNat E.nili).cell 0).toStr || strEq ((t1_3.getD t3.toNat E.nili).cell 0).toStr
  ((t1_3.getD (IntKind.i64.wrap (t3 - 1)).toNat E.nili).cell 0).toStr then some (Out.mk (Ex.ret) (([uu, uu, (num 22)] ++ List.replicate 92 uu))
  ([]) ([])) else bif decide (0 ≤ t3) && decide (t3 < (↑t1_4.length : Int)) then (run none 55 [AV.agg [(num ((t1_4.getD t3.toNat E.nili).cell 0).toInt), AV.e
  (E.int IntKind.i64 ((t1_4.getD t3.toNat E.nili).cell 1).toInt), (str ((t1_4.getD t3.toNat E.nili).cell 2).toStr), AV.e (E.sl 9 ((t1_4.getD t3.toNat E.nili).cell
  3).toList), AV.e (E.sl 38 ((t1_4.getD t3.toNat E.nili).cell 4).toList)]] []).bind fun rh => bif okHeap [] rh.2 then bif okRes PP 29 rh.fst then bif !rh.fst.val.data.toInt
  == 0 then some (Out.mk (Ex.ret) (([uu, uu, (num rh.fst.val.data.toInt)] ++ List.replicate 92 uu)) ([]) ([])) else (loop 55 0 lc_55_8
  ([uu, AV.ptr 0 0, uu, (num (IntKind.i64.wrap (t3 + 1)))] ++ List.replicate 91 uu) [Ob.box [(num t1_0), AV.e (E.int
  IntKind.i64 t1_1), (str t1_2), AV.e (E.sl 9 t1_3), AV.e (E.sl 38 t1_4)]]).bind fun o => some o else none else none else none else none else none else bif decide (0 ≤ t3)
  && decide (t3 < (↑t1_4.length : Int)) then (run none 55 [AV.agg [(num ((t1_4.getD t3.toNat E.nili).cell 0).toInt), (num ((t1_4.getD t3.toNat
  E.nili).cell 1).toInt), (str ((t1_4.getD t3.toNat E.nili).cell 2).toStr), AV.e (E.sl 9 ((t1_4.getD t3.toNat E.nili).cell 3).toList), AV.e (E.sl 38 ((t1_4.getD t3.toNat
  E.nili).cell 4).toList)]] []).bind fun rh => bif okHeap [] rh.2 then bif okRes PP 29 rh.fst then bif !rh.fst.val.data.toInt == 0 then some (Out.mk (Ex.ret) (([uu,
  uu, (num rh.fst.val.data.toInt)] ++ List.replicate 92 uu)) ([]) ([])) else (loop 55 0 lc_55_8 ([uu, AV.ptr 0 0, uu, AV.e (E.int
  IntKind.i64 (IntKind.i64.wrap (t3 + 1)))] ++ List.replicate 91 uu) [Ob.box [(num t1_0), (num t1_1), (str t1_2), AV.e (E.sl 9
  t1_3), AV.e (E.sl 38 t1_4)]]).bind fun o => some o else none else none else none else bif decide (0 ≤ t3) && decide (t3 < (↑t1_4.length : Int)) then (run none 55 [AV.agg [AV.e
  (E.int IntKind.i64 ((t1_4.getD t3.toNat E.nili).cell 0).toInt), (num ((t1_4.getD t3.toNat E.nili).cell 1).toInt), (str ((t1_4.getD t3.toNat E.nili).cell
  2).toStr), AV.e (E.sl 9 ((t1_4.getD t3.toNat E.nili).cell 3).toList), AV.e (E.sl 38 ((t1_4.getD t3.toNat E.nili).cell 4).toList)]] []).bind fun rh => bif okHeap [] rh.2 then bif
  okRes PP 29 rh.fst then bif !rh.fst.val.data.toInt == 0 then some (Out.mk (Ex.ret) (([uu, uu, (num rh.fst.val.data.toInt)] ++ List.replicate
  92 uu)) ([]) ([])) else (loop 55 0 lc_55_8 ([uu, AV.ptr 0 0, uu, (num (IntKind.i64.wrap (t3 + 1)))] ++ List.replicate 91 uu) [Ob.box
  [(num t1_0), (num t1_1), (str t1_2), AV.e (E.sl 9 t1_3), AV.e (E.sl 38 t1_4)]]).bind fun o => some o else none else none else none
  else none else none else none else bif (t1_0 == 6) == true then bif decide (0 < t3) == true then bif decide (0 ≤ t3) && decide (t3 < (↑t1_3.length : Int)) then bif decide (0 ≤
  IntKind.i64.wrap (t3 - 1)) && decide (IntKind.i64.wrap (t3 - 1) < (↑t1_3.length : Int)) then bif Op.bytesLess ((t1_3.getD t3.toNat E.nili).cell 0).toStr ((t1_3.getD
  (IntKind.i64.wrap (t3 - 1)).toNat E.nili).cell 0).toStr || strEq ((t1_3.getD t3.toNat E.nili).cell 0).toStr ((t1_3.getD (IntKind.i64.wrap (t3 - 1)).toNat E.nili).cell 0).toStr
  then some (Out.mk (Ex.ret) (([uu, uu, (num 22)] ++ List.replicate 92 uu)) ([]) ([])) else bif decide (0 ≤ t3) && decide (t3 < (↑t1_4.length :
  Int)) then (run none 55 [AV.agg [(num ((t1_4.getD t3.toNat E.nili).cell 0).toInt), (num ((t1_4.getD t3.toNat E.nili).cell 1).toInt), AV.e
  (E.str ((t1_4.getD t3.toNat E.nili).cell 2).toStr), AV.e (E.sl 9 ((t1_4.getD t3.toNat E.nili).cell 3).toList), AV.e (E.sl 38 ((t1_4.getD t3.toNat E.nili).cell 4).toList)]]
  []).bind fun rh => bif okHeap [] rh.2 then bif okRes PP 29 rh.fst then bif !rh.fst.val.data.toInt == 0 then some (Out.mk (Ex.ret) (([uu, uu, AV.e (E.int
  IntKind.i64 rh.fst.val.data.toInt)] ++ List.replicate 92 uu)) ([]) ([])) else (loop 55 0 lc_55_8 ([uu, AV.ptr 0 0, uu, (num (IntKind.i64.wrap
  (t3 + 1)))] ++ List.replicate 91 uu) [Ob.box [(num t1_0), (num t1_1), (str t1_2), AV.e (E.sl 9 t1_3), AV.e (E.sl 38
  t1_4)]]).bind fun o => some o else none else none else none else none else none else bif decide (0 ≤ t3) && decide (t3 < (↑t1_4.length : Int)) then (run none 55 [AV.agg [AV.e
  (E.int IntKind.i64 ((t1_4.getD t3.toNat E.nili).cell 0).toInt), (num ((t1_4.getD t3.toNat E.nili).cell 1).toInt), (str ((t1_4.getD t3.toNat E.nili).cell
  2).toStr), AV.e (E.sl 9 ((t1_4.getD t3.toNat E.nili).cell 3).toList), AV.e (E.sl 38 ((t1_4.getD t3.toNat E.nili).cell 4).toList)]] []).bind fun rh => bif okHeap [] rh.2 then bif
  okRes PP 29 rh.fst then bif !rh.fst.val.data.toInt == 0 then some (Out.mk (Ex.ret) (([uu, uu, (num rh.fst.val.data.toInt)] ++ List.replicate
  92 uu)) ([]) ([])) else (loop 55 0 lc_55_8 ([uu, AV.ptr 0 0, uu, (num (IntKind.i64.wrap (t3 + 1)))] ++ List.replicate 91 uu) [Ob.box
  [(num t1_0), (num t1_1), (str t1_2), AV.e (E.sl 9 t1_3), AV.e (E.sl 38 t1_4)]]).bind fun o => some o else none else none else none
  else bif decide (0 ≤ t3) && decide (t3 < (↑t1_4.length : Int)) then (run none 55 [AV.agg [(num ((t1_4.getD t3.toNat E.nili).cell 0).toInt), AV.e (E.int
  IntKind.i64 ((t1_4.getD t3.toNat E.nili).cell 1).toInt), (str ((t1_4.getD t3.toNat E.nili).cell 2).toStr), AV.e (E.sl 9 ((t1_4.getD t3.toNat E.nili).cell 3).toList), AV.e
  (E.sl 38 ((t1_4.getD t3.toNat E.nili).cell 4).toList)]] []).bind fun rh => bif okHeap [] rh.2 then bif okRes PP 29 rh.fst then bif !rh.fst.val.data.toInt == 0 then some
  (Out.mk (Ex.ret) (([uu, uu, (num rh.fst.val.data.toInt)] ++ List.replicate 92 uu)) ([]) ([])) else (loop 55 0 lc_55_8 ([uu, AV.ptr 0 0,
  uu, (num (IntKind.i64.wrap (t3 + 1)))] ++ List.replicate 91 uu) [Ob.box [(num t1_0), (num t1_1), AV.e (E.str
  t1_2), AV.e (E.sl 9 t1_3), AV.e (E.sl 38 t1_4)]]).bind fun o => some o else none else none else none else some (Out.mk (Ex.exit 0) ((List.replicate 95 uu)) ([]) ([])) := by
  kernel_rfl
theorem eq_odd (run : RunF) (loop : LoopF) (a0_0 : Int) (a0_1 : Int) (a0_2 : List UInt8) (a0_3 : List E) (a0_4 : List E) : bodyRun PP HH run loop none 100 [.agg
  [.e (.int .i64 a0_0), .e (.int .i64 a0_1), .e (.str a0_2), .e (.sl 9 a0_3), .e (.sl 38 a0_4)]] [] = bif (bif !bif a0_0 == 1 then true else a0_0 == 3 then !a0_1 == 0 else false)
  == false then bif (!a0_0 == 2) == true then bif (!strEq a0_2 ([] : List UInt8)) == false then bif (!bif a0_0 == 5 then true else a0_0 == 6) == true then bif decide (0 <
  (↑a0_4.length : Int)) == false then bif (!a0_0 == 6) == true then bif decide (0 < (↑a0_3.length : Int)) == false then bif (a0_0 == 6) == true then some (Res.ret (AV.e (E.bool
  !(↑a0_3.length : Int) == (↑a0_4.length : Int))), []) else some (Res.ret ((yes false)), []) else some (Res.ret ((yes true)), []) else bif (a0_0 == 6) == true then
  some (Res.ret ((yes !(↑a0_3.length : Int) == (↑a0_4.length : Int))), []) else some (Res.ret ((yes false)), []) else some (Res.ret ((yes true)), []) else
  bif (!a0_0 == 6) == true then bif decide (0 < (↑a0_3.length : Int)) == false then bif (a0_0 == 6) == true then some (Res.ret ((yes !(↑a0_3.length : Int) == (↑a0_4.length
  : Int))), []) else some (Res.ret ((yes false)), []) else some (Res.ret ((yes true)), []) else bif (a0_0 == 6) == true then some (Res.ret (AV.e (E.bool
  !(↑a0_3.length : Int) == (↑a0_4.length : Int))), []) else some (Res.ret ((yes false)), []) else some (Res.ret ((yes true)), []) else bif (!bif a0_0 == 5 then true
  else a0_0 == 6) == true then bif decide (0 < (↑a0_4.length : Int)) == false then bif (!a0_0 == 6) == true then bif decide (0 < (↑a0_3.length : Int)) == false then bif (a0_0 == 6)
  == true then some (Res.ret ((yes !(↑a0_3.length : Int) == (↑a0_4.length : Int))), []) else some (Res.ret ((yes false)), []) else some (Res.ret (AV.e (E.bool
  true)), []) else bif (a0_0 == 6) == true then some (Res.ret ((yes !(↑a0_3.length : Int) == (↑a0_4.length : Int))), []) else some (Res.ret ((yes false)), []) else
  some (Res.ret ((yes true)), []) else bif (!a0_0 == 6) == true then bif decide (0 < (↑a0_3.length : Int)) == false then bif (a0_0 == 6) == true then some (Res.ret (AV.e
  (E.bool !(↑a0_3.length : Int) == (↑a0_4.length : Int))), []) else some (Res.ret ((yes false)), []) else some (Res.ret ((yes true)), []) else bif (a0_0 == 6) ==
  true then some (Res.ret ((yes !(↑a0_3.length : Int) == (↑a0_4.length : Int))), []) else some (Res.ret ((yes false)), []) else some (Res.ret ((yes true)),
  []) := by kernel_rfl

end Go.Proofs.YtghdhhmlmdohkaaDoor
