/- The equations of functions, as a program of mine prints them. -/
import Derived.Test.YtghdhhmlmdohkaaGreatDoorBase
namespace Go.Proofs.YtghdhhmlmdohkaaGreatDoor
open Go Go.Den
set_option maxRecDepth 100000
set_option maxHeartbeats 0

theorem eq_Fits (run : RunF) (loop : LoopF) (a0_0 : Int) (a0_1 : Int) (a0_2 : Int) (a0_3 : List E) (a0_4 : List E) (a0_5 : List E) (a1_0 : Int) (a1_1 : Int) (a1_2 : List UInt8)
  (a1_3 : List E) (a1_4 : List E) : bodyRun PP HH run loop none 20 [.agg [.e (.int .i64 a0_0), .e (.int .i64 a0_1), .e (.int .i64 a0_2), .e (.sl 9 a0_3), .e (.sl
  27 a0_4), .e (.sl 81 a0_5)], .agg [.e (.int .i64 a1_0), .e (.int .i64 a1_1), .e (.str a1_2), .e (.sl 9 a1_3), .e (.sl 39 a1_4)]] [] = bif a0_0 == 7 then some (Res.ret (AV.tup
  [(str []), (yes true)]), []) else bif a0_0 == 1 then some (Res.ret (AV.tup [(str []), (yes (bif bif a1_0 == 1 then decide (a0_1 ≤ a1_1) else false
  then decide (a1_1 ≤ a0_2) else false))]), []) else bif a0_0 == 2 then some (Res.ret (AV.tup [(str []), (yes (bif bif a1_0 == 2 then decide (a0_1 ≤ (↑a1_2.length :
  Int)) else false then decide ((↑a1_2.length : Int) ≤ a0_2) else false))]), []) else bif a0_0 == 3 then some (Res.ret (AV.tup [(str []), (yes (a1_0 == 3))]), [])
  else bif a0_0 == 4 then bif (a1_0 == 2) == true then (run none 55 [AV.e (E.sl 9 a0_3), (str a1_2)] []).bind fun rh => bif okHeap [] rh.2 then bif okRes PP 4 rh.fst
  then some (Res.ret (AV.tup [(str []), (yes rh.fst.val.data.toBool)]), []) else none else none else some (Res.ret (AV.tup [(str []), (yes false)]),
  []) else bif a0_0 == 5 then bif bif bif a1_0 == 5 then decide (a0_1 ≤ (↑a1_4.length : Int)) else false then decide ((↑a1_4.length : Int) ≤ a0_2) else false then bif decide (0 <
  (↑a0_4.length : Int)) then (run none 56 [AV.agg [(num ((a0_4.getD 0 E.nili).cell 0).toInt), (num ((a0_4.getD 0 E.nili).cell 1).toInt), AV.e
  (E.int IntKind.i64 ((a0_4.getD 0 E.nili).cell 2).toInt), AV.e (E.sl 9 ((a0_4.getD 0 E.nili).cell 3).toList), AV.e (E.sl 27 ((a0_4.getD 0 E.nili).cell 4).toList), AV.e (E.sl 81
  ((a0_4.getD 0 E.nili).cell 5).toList)], AV.agg [(num a1_0), (num a1_1), (str a1_2), AV.e (E.sl 9 a1_3), AV.e (E.sl 39 a1_4)]]
  []).bind fun rh => bif okHeap [] rh.2 then bif okRes PP 42 rh.fst then some (Res.ret (AV.tup [(str (rh.fst.val.comp 0).data.toStr), (yes (rh.fst.val.comp
  1).data.toBool)]), []) else none else none else none else some (Res.ret (AV.tup [(str []), (yes false)]), []) else bif a0_0 == 6 then bif a1_0 == 6 then (run none
  57 [AV.agg [(num a0_0), (num a0_1), (num a0_2), AV.e (E.sl 9 a0_3), AV.e (E.sl 27 a0_4), AV.e (E.sl 81 a0_5)], AV.agg
  [(num a1_0), (num a1_1), (str a1_2), AV.e (E.sl 9 a1_3), AV.e (E.sl 39 a1_4)]] []).bind fun rh => bif okHeap [] rh.2 then bif okRes
  PP 42 rh.fst then some (Res.ret (AV.tup [(str (rh.fst.val.comp 0).data.toStr), (yes (rh.fst.val.comp 1).data.toBool)]), []) else none else none else some
  (Res.ret (AV.tup [(str []), (yes false)]), []) else some (Res.ret (AV.tup [(str []), (yes false)]), []) := by kernel_rfl
theorem eq_elements (run : RunF) (loop : LoopF) (a0_0 : Int) (a0_1 : Int) (a0_2 : Int) (a0_3 : List E) (a0_4 : List E) (a0_5 : List E) (a1_0 : Int) (a1_1 : Int) (a1_2 : List UInt8)
  (a1_3 : List E) (a1_4 : List E) : bodyRun PP HH run loop none 56 [.agg [.e (.int .i64 a0_0), .e (.int .i64 a0_1), .e (.int .i64 a0_2), .e (.sl 9 a0_3), .e (.sl
  27 a0_4), .e (.sl 81 a0_5)], .agg [.e (.int .i64 a1_0), .e (.int .i64 a1_1), .e (.str a1_2), .e (.sl 9 a1_3), .e (.sl 39 a1_4)]] [] = (loop 56 0 lc_56_2 ([uu, uu,
  AV.ptr 0 0] ++ List.replicate 8 uu ++ [AV.e (E.sl 39 a1_4), (num (↑a1_4.length : Int)), (num 0)] ++ List.replicate 19 uu)
  [Ob.box [(num a0_0), (num a0_1), (num a0_2), AV.e (E.sl 9 a0_3), AV.e (E.sl 27 a0_4), AV.e (E.sl 81 a0_5)]]).bind fun o
  => bif o.ex.isWay (Way.exit 0) then bif okFr (List.replicate 33 uu) o.2 && okHeap [] o.3 then some (Res.ret (AV.tup [(str []), (yes true)]), []) else none
  else bif o.ex.isWay Way.ret then bif okFr ([uu, uu, uu, uu, (str []), (yes false)] ++ List.replicate 27 uu) o.2 && okHeap [] o.3 then
  some (Res.ret (AV.tup [(str (List.getD o.fr 4 uu).data.toStr), (yes (List.getD o.fr 5 uu).data.toBool)]), []) else none else none := by kernel_rfl
theorem eq_elementsL2 (run : RunF) (loop : LoopF) (t11 : List E) (t12 : Int) (t13 : Int) (t2_0 : Int) (t2_1 : Int) (t2_2 : Int) (t2_3 : List E) (t2_4 : List E) (t2_5 : List E) :
  bodyLoop PP HH run loop 56 0 lc_56_2 (((((List.replicate 33 uu).set 2 (.ptr 0 0)).set 11 (.e (.sl 39 t11))).set 12 (.e (.int .i64 t12))).set 13 (.e (.int
  .i64 t13))) [.box [.e (.int .i64 t2_0), .e (.int .i64 t2_1), .e (.int .i64 t2_2), .e (.sl 9 t2_3), .e (.sl 27 t2_4), .e (.sl 81 t2_5)]] = bif decide (t13 < t12) then bif decide
  (0 ≤ t13) && decide (t13 < (↑t11.length : Int)) then (run none 20 [AV.agg [(num t2_0), (num t2_1), (num t2_2), AV.e (E.sl
  9 t2_3), AV.e (E.sl 27 t2_4), AV.e (E.sl 81 t2_5)], AV.agg [(num ((t11.getD t13.toNat E.nili).cell 0).toInt), (num ((t11.getD t13.toNat
  E.nili).cell 1).toInt), (str ((t11.getD t13.toNat E.nili).cell 2).toStr), AV.e (E.sl 9 ((t11.getD t13.toNat E.nili).cell 3).toList), AV.e (E.sl 39 ((t11.getD t13.toNat
  E.nili).cell 4).toList)]] []).bind fun rh => bif okHeap [] rh.2 then bif okRes PP 42 rh.fst then bif !(rh.fst.val.comp 1).data.toBool then bif decide (-9223372036854775808
  ≤ t13) && decide (t13 ≤ 9223372036854775807) then bif (decide (1 + (Lib.itoa t13).length ≤ 9223372036854775807)) then bif (decide (([91] ++ Lib.itoa t13).length + 1 ≤
  9223372036854775807)) then bif (decide (([91] ++ Lib.itoa t13 ++ [93]).length + (rh.fst.val.comp 0).data.toStr.length ≤ 9223372036854775807)) then some (Out.mk (Ex.ret)
  (([uu, uu, uu, uu, (str ([91] ++ Lib.itoa t13 ++ [93] ++ (rh.fst.val.comp 0).data.toStr)), (yes false)] ++ List.replicate 27 uu))
  ([]) ([])) else none else none else none else none else (loop 56 0 lc_56_2 ([uu, uu, AV.ptr 0 0] ++ List.replicate 8 uu ++ [AV.e (E.sl 39 t11), AV.e (E.int
  IntKind.i64 t12), (num (IntKind.i64.wrap (t13 + 1)))] ++ List.replicate 19 uu) [Ob.box [(num t2_0), (num t2_1),
  (num t2_2), AV.e (E.sl 9 t2_3), AV.e (E.sl 27 t2_4), AV.e (E.sl 81 t2_5)]]).bind fun o => some o else none else none else none else some (Out.mk (Ex.exit 0)
  ((List.replicate 33 uu)) ([]) ([])) := by kernel_rfl
theorem eq_members (run : RunF) (loop : LoopF) (a0_0 : Int) (a0_1 : Int) (a0_2 : Int) (a0_3 : List E) (a0_4 : List E) (a0_5 : List E) (a1_0 : Int) (a1_1 : Int) (a1_2 : List UInt8)
  (a1_3 : List E) (a1_4 : List E) : bodyRun PP HH run loop none 57 [.agg [.e (.int .i64 a0_0), .e (.int .i64 a0_1), .e (.int .i64 a0_2), .e (.sl 9 a0_3), .e (.sl
  27 a0_4), .e (.sl 81 a0_5)], .agg [.e (.int .i64 a1_0), .e (.int .i64 a1_1), .e (.str a1_2), .e (.sl 9 a1_3), .e (.sl 39 a1_4)]] [] = (loop 57 0 lc_57_2 ([uu, uu,
  AV.ptr 0 0, AV.ptr 1 0, uu, uu, (num 0), (num 0)] ++ List.replicate 112 uu) [Ob.box [(num a0_0), AV.e
  (E.int IntKind.i64 a0_1), (num a0_2), AV.e (E.sl 9 a0_3), AV.e (E.sl 27 a0_4), AV.e (E.sl 81 a0_5)], Ob.box [(num a1_0), AV.e (E.int
  IntKind.i64 a1_1), (str a1_2), AV.e (E.sl 9 a1_3), AV.e (E.sl 39 a1_4)]]).bind fun o => bif o.ex.isWay (Way.exit 0) then bif okFr (List.replicate 120 uu) o.2 &&
  okHeap [] o.3 then some (Res.ret (AV.tup [(str []), (yes true)]), []) else none else bif o.ex.isWay Way.ret then bif okFr ([uu, uu, uu, uu,
  (str []), (yes false)] ++ List.replicate 114 uu) o.2 && okHeap [] o.3 then some (Res.ret (AV.tup [(str (List.getD o.fr 4 uu).data.toStr), AV.e
  (E.bool (List.getD o.fr 5 uu).data.toBool)]), []) else none else none := by kernel_rfl
theorem eq_membersL2 (run : RunF) (loop : LoopF) (t6 : Int) (t7 : Int) (t2_0 : Int) (t2_1 : Int) (t2_2 : Int) (t2_3 : List E) (t2_4 : List E) (t2_5 : List E) (t3_0 : Int) (t3_1 :
  Int) (t3_2 : List UInt8) (t3_3 : List E) (t3_4 : List E) : bodyLoop PP HH run loop 57 0 lc_57_2 (((((List.replicate 120 uu).set 2 (.ptr 0 0)).set 3 (.ptr 1
  0)).set 6 (.e (.int .i64 t6))).set 7 (.e (.int .i64 t7))) [.box [.e (.int .i64 t2_0), .e (.int .i64 t2_1), .e (.int .i64 t2_2), .e (.sl 9 t2_3), .e (.sl 27 t2_4), .e (.sl 81
  t2_5)], .box [.e (.int .i64 t3_0), .e (.int .i64 t3_1), .e (.str t3_2), .e (.sl 9 t3_3), .e (.sl 39 t3_4)]] = bif bif decide (t6 < (↑t2_5.length : Int)) then true else decide (t7
  < (↑t3_3.length : Int)) then bif (t7 == (↑t3_3.length : Int)) == false then bif decide (t6 < (↑t2_5.length : Int)) == true then bif decide (0 ≤ t6) && decide (t6 < (↑t2_5.length
  : Int)) then bif decide (0 ≤ t7) && decide (t7 < (↑t3_3.length : Int)) then bif Op.bytesLess ((t2_5.getD t6.toNat E.nili).cell 0).toStr ((t3_3.getD t7.toNat E.nili).cell 0).toStr
  then bif decide (0 ≤ t6) && decide (t6 < (↑t2_5.length : Int)) then bif !((t2_5.getD t6.toNat E.nili).cell 1).toBool then bif decide (0 ≤ t6) && decide (t6 < (↑t2_5.length :
  Int)) then bif (decide (1 + ((t2_5.getD t6.toNat E.nili).cell 0).toStr.length ≤ 9223372036854775807)) then some (Out.mk (Ex.ret) (([uu, uu, uu, uu, AV.e
  (E.str ([46] ++ ((t2_5.getD t6.toNat E.nili).cell 0).toStr)), (yes false)] ++ List.replicate 114 uu)) ([]) ([])) else none else none else (loop 57 0 lc_57_2
  ([uu, uu, AV.ptr 0 0, AV.ptr 1 0, uu, uu, (num (IntKind.i64.wrap (t6 + 1))), (num t7)] ++ List.replicate 112
  uu) [Ob.box [(num t2_0), (num t2_1), (num t2_2), AV.e (E.sl 9 t2_3), AV.e (E.sl 27 t2_4), AV.e (E.sl 81 t2_5)],
  Ob.box [(num t3_0), (num t3_1), (str t3_2), AV.e (E.sl 9 t3_3), AV.e (E.sl 39 t3_4)]]).bind fun o => some o else none else bif (t6 ==
  (↑t2_5.length : Int)) == false then bif decide (0 ≤ t7) && decide (t7 < (↑t3_3.length : Int)) then bif decide (0 ≤ t6) && decide (t6 < (↑t2_5.length : Int)) then bif Op.bytesLess
  ((t3_3.getD t7.toNat E.nili).cell 0).toStr ((t2_5.getD t6.toNat E.nili).cell 0).toStr then bif decide (0 ≤ t7) && decide (t7 < (↑t3_3.length : Int)) then bif (decide (1 +
  ((t3_3.getD t7.toNat E.nili).cell 0).toStr.length ≤ 9223372036854775807)) then some (Out.mk (Ex.ret) (([uu, uu, uu, uu, (str ([46] ++ ((t3_3.getD
  t7.toNat E.nili).cell 0).toStr)), (yes false)] ++ List.replicate 114 uu)) ([]) ([])) else none else none else bif decide (0 ≤ t6) && decide (t6 < (↑t2_5.length :
  Int)) then bif decide (0 ≤ t7) && decide (t7 < (↑t3_4.length : Int)) then (run none 20 [AV.agg [(num ((t2_5.getD t6.toNat E.nili).cell 2).toInt), AV.e (E.int
  IntKind.i64 ((t2_5.getD t6.toNat E.nili).cell 3).toInt), (num ((t2_5.getD t6.toNat E.nili).cell 4).toInt), AV.e (E.sl 9 ((t2_5.getD t6.toNat E.nili).cell
  5).toList), AV.e (E.sl 27 ((t2_5.getD t6.toNat E.nili).cell 6).toList), AV.e (E.sl 81 ((t2_5.getD t6.toNat E.nili).cell 7).toList)], AV.agg [(num ((t3_4.getD
  t7.toNat E.nili).cell 0).toInt), (num ((t3_4.getD t7.toNat E.nili).cell 1).toInt), (str ((t3_4.getD t7.toNat E.nili).cell 2).toStr), AV.e (E.sl 9
  ((t3_4.getD t7.toNat E.nili).cell 3).toList), AV.e (E.sl 39 ((t3_4.getD t7.toNat E.nili).cell 4).toList)]] []).bind fun rh => bif okHeap [] rh.2 then bif okRes PP 42
  rh.fst then bif !(rh.fst.val.comp 1).data.toBool then bif decide (0 ≤ t7) && decide (t7 < (↑t3_3.length : Int)) then bif (decide (1 + ((t3_3.getD t7.toNat E.nili).cell
  0).toStr.length ≤ 9223372036854775807)) then bif (decide (([46] ++ ((t3_3.getD t7.toNat E.nili).cell 0).toStr).length + (rh.fst.val.comp 0).data.toStr.length ≤
  9223372036854775807)) then some (Out.mk (Ex.ret) (([uu, uu, uu, uu, (str ([46] ++ ((t3_3.getD t7.toNat E.nili).cell 0).toStr ++ (rh.fst.val.comp
  0).data.toStr)), (yes false)] ++ List.replicate 114 uu)) ([]) ([])) else none else none else none else (loop 57 0 lc_57_2 ([uu, uu, AV.ptr 0 0, AV.ptr 1
  0, uu, uu, (num (IntKind.i64.wrap (t6 + 1))), (num (IntKind.i64.wrap (t7 + 1)))] ++ List.replicate 112 uu) [Ob.box [AV.e
  (E.int IntKind.i64 t2_0), (num t2_1), (num t2_2), AV.e (E.sl 9 t2_3), AV.e (E.sl 27 t2_4), AV.e (E.sl 81 t2_5)], Ob.box [AV.e (E.int
  IntKind.i64 t3_0), (num t3_1), (str t3_2), AV.e (E.sl 9 t3_3), AV.e (E.sl 39 t3_4)]]).bind fun o => some o else none else none else none else none else
  none else none else bif decide (0 ≤ t7) && decide (t7 < (↑t3_3.length : Int)) then bif (decide (1 + ((t3_3.getD t7.toNat E.nili).cell 0).toStr.length ≤ 9223372036854775807)) then
  some (Out.mk (Ex.ret) (([uu, uu, uu, uu, (str ([46] ++ ((t3_3.getD t7.toNat E.nili).cell 0).toStr)), (yes false)] ++ List.replicate 114
  uu)) ([]) ([])) else none else none else none else none else bif (t6 == (↑t2_5.length : Int)) == false then bif decide (0 ≤ t7) && decide (t7 < (↑t3_3.length : Int)) then
  bif decide (0 ≤ t6) && decide (t6 < (↑t2_5.length : Int)) then bif Op.bytesLess ((t3_3.getD t7.toNat E.nili).cell 0).toStr ((t2_5.getD t6.toNat E.nili).cell 0).toStr then bif
  decide (0 ≤ t7) && decide (t7 < (↑t3_3.length : Int)) then bif (decide (1 + ((t3_3.getD t7.toNat E.nili).cell 0).toStr.length ≤ 9223372036854775807)) then some (Out.mk (Ex.ret)
  (([uu, uu, uu, uu, (str ([46] ++ ((t3_3.getD t7.toNat E.nili).cell 0).toStr)), (yes false)] ++ List.replicate 114 uu)) ([]) ([]))
  else none else none else bif decide (0 ≤ t6) && decide (t6 < (↑t2_5.length : Int)) then bif decide (0 ≤ t7) && decide (t7 < (↑t3_4.length : Int)) then (run none 20 [AV.agg [AV.e
  (E.int IntKind.i64 ((t2_5.getD t6.toNat E.nili).cell 2).toInt), (num ((t2_5.getD t6.toNat E.nili).cell 3).toInt), (num ((t2_5.getD t6.toNat
  E.nili).cell 4).toInt), AV.e (E.sl 9 ((t2_5.getD t6.toNat E.nili).cell 5).toList), AV.e (E.sl 27 ((t2_5.getD t6.toNat E.nili).cell 6).toList), AV.e (E.sl 81 ((t2_5.getD t6.toNat
  E.nili).cell 7).toList)], AV.agg [(num ((t3_4.getD t7.toNat E.nili).cell 0).toInt), (num ((t3_4.getD t7.toNat E.nili).cell 1).toInt), AV.e
  (E.str ((t3_4.getD t7.toNat E.nili).cell 2).toStr), AV.e (E.sl 9 ((t3_4.getD t7.toNat E.nili).cell 3).toList), AV.e (E.sl 39 ((t3_4.getD t7.toNat E.nili).cell 4).toList)]]
  []).bind fun rh => bif okHeap [] rh.2 then bif okRes PP 42 rh.fst then bif !(rh.fst.val.comp 1).data.toBool then bif decide (0 ≤ t7) && decide (t7 < (↑t3_3.length : Int))
  then bif (decide (1 + ((t3_3.getD t7.toNat E.nili).cell 0).toStr.length ≤ 9223372036854775807)) then bif (decide (([46] ++ ((t3_3.getD t7.toNat E.nili).cell 0).toStr).length +
  (rh.fst.val.comp 0).data.toStr.length ≤ 9223372036854775807)) then some (Out.mk (Ex.ret) (([uu, uu, uu, uu, (str ([46] ++ ((t3_3.getD t7.toNat
  E.nili).cell 0).toStr ++ (rh.fst.val.comp 0).data.toStr)), (yes false)] ++ List.replicate 114 uu)) ([]) ([])) else none else none else none else (loop 57 0 lc_57_2
  ([uu, uu, AV.ptr 0 0, AV.ptr 1 0, uu, uu, (num (IntKind.i64.wrap (t6 + 1))), (num (IntKind.i64.wrap (t7 + 1)))] ++
  List.replicate 112 uu) [Ob.box [(num t2_0), (num t2_1), (num t2_2), AV.e (E.sl 9 t2_3), AV.e (E.sl 27 t2_4), AV.e
  (E.sl 81 t2_5)], Ob.box [(num t3_0), (num t3_1), (str t3_2), AV.e (E.sl 9 t3_3), AV.e (E.sl 39 t3_4)]]).bind fun o => some o else
  none else none else none else none else none else none else bif decide (0 ≤ t7) && decide (t7 < (↑t3_3.length : Int)) then bif (decide (1 + ((t3_3.getD t7.toNat E.nili).cell
  0).toStr.length ≤ 9223372036854775807)) then some (Out.mk (Ex.ret) (([uu, uu, uu, uu, (str ([46] ++ ((t3_3.getD t7.toNat E.nili).cell 0).toStr)),
  (yes false)] ++ List.replicate 114 uu)) ([]) ([])) else none else none else bif decide (0 ≤ t6) && decide (t6 < (↑t2_5.length : Int)) then bif !((t2_5.getD t6.toNat
  E.nili).cell 1).toBool then bif decide (0 ≤ t6) && decide (t6 < (↑t2_5.length : Int)) then bif (decide (1 + ((t2_5.getD t6.toNat E.nili).cell 0).toStr.length ≤
  9223372036854775807)) then some (Out.mk (Ex.ret) (([uu, uu, uu, uu, (str ([46] ++ ((t2_5.getD t6.toNat E.nili).cell 0).toStr)), AV.e (E.bool
  false)] ++ List.replicate 114 uu)) ([]) ([])) else none else none else (loop 57 0 lc_57_2 ([uu, uu, AV.ptr 0 0, AV.ptr 1 0, uu, uu, AV.e (E.int
  IntKind.i64 (IntKind.i64.wrap (t6 + 1))), (num t7)] ++ List.replicate 112 uu) [Ob.box [(num t2_0), (num t2_1), AV.e
  (E.int IntKind.i64 t2_2), AV.e (E.sl 9 t2_3), AV.e (E.sl 27 t2_4), AV.e (E.sl 81 t2_5)], Ob.box [(num t3_0), (num t3_1), (str t3_2),
  AV.e (E.sl 9 t3_3), AV.e (E.sl 39 t3_4)]]).bind fun o => some o else none else some (Out.mk (Ex.exit 0) ((List.replicate 120 uu)) ([]) ([])) := by kernel_rfl

end Go.Proofs.YtghdhhmlmdohkaaGreatDoor
