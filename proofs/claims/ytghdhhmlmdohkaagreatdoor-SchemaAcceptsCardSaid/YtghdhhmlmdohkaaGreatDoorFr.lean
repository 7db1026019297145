/- The equations of functions, as a program of mine prints them. -/
import Derived.Test.YtghdhhmlmdohkaaGreatDoorBase
namespace Go.Proofs.YtghdhhmlmdohkaaGreatDoor
open Go Go.Den
set_option maxRecDepth 100000
set_option maxHeartbeats 0

theorem eq_RFits (run : RunF) (loop : LoopF) (a0_0 : Int) (a0_1 : Int) (a0_2 : Int) (a0_3 : List E) (a0_4 : List E) (a0_5 : List E) (a1_0 : Int) (a1_1 : Int) (a1_2 : List UInt8)
  (a1_3 : List E) (a1_4 : List E) : bodyRun PP HH run loop none 59 [.agg [.e (.int .i64 a0_0), .e (.int .i64 a0_1), .e (.int .i64 a0_2), .e (.sl 9 a0_3), .e (.sl
  27 a0_4), .e (.sl 81 a0_5)], .agg [.e (.int .i64 a1_0), .e (.int .i64 a1_1), .e (.str a1_2), .e (.sl 9 a1_3), .e (.sl 39 a1_4)]] [] = (run none 106 [AV.agg [AV.e (E.int
  IntKind.i64 a0_0), (num a0_1), (num a0_2), AV.e (E.sl 9 a0_3), AV.e (E.sl 27 a0_4), AV.e (E.sl 81 a0_5)], AV.agg [AV.e (E.int IntKind.i64
  a1_0), (num a1_1), (str a1_2), AV.e (E.sl 9 a1_3), AV.e (E.sl 39 a1_4)], (str [])] []).bind fun rh => bif okHeap [] rh.2 then bif okRes PP
  42 rh.fst then some (Res.ret (AV.tup [(str (rh.fst.val.comp 0).data.toStr), (yes (rh.fst.val.comp 1).data.toBool)]), []) else none else none := by kernel_rfl
theorem eq_rfits (run : RunF) (loop : LoopF) (a0_0 : Int) (a0_1 : Int) (a0_2 : Int) (a0_3 : List E) (a0_4 : List E) (a0_5 : List E) (a1_0 : Int) (a1_1 : Int) (a1_2 : List UInt8)
  (a1_3 : List E) (a1_4 : List E) (a2 : List UInt8) : bodyRun PP HH run loop none 106 [.agg [.e (.int .i64 a0_0), .e (.int .i64 a0_1), .e (.int .i64 a0_2), .e (.sl
  9 a0_3), .e (.sl 27 a0_4), .e (.sl 81 a0_5)], .agg [.e (.int .i64 a1_0), .e (.int .i64 a1_1), .e (.str a1_2), .e (.sl 9 a1_3), .e (.sl 39 a1_4)], .e (.str a2)] [] = bif a0_0 == 7
  then some (Res.ret (AV.tup [(str []), (yes true)]), []) else bif a0_0 == 1 then bif (a0_0 == a1_0) == true then (run none 100 [(num a1_1), AV.e
  (E.int IntKind.i64 a1_1), (num a0_1), (num a0_2)] []).bind fun rh => bif okHeap [] rh.2 then bif okRes PP 4 rh.fst then bif
  !rh.fst.val.data.toBool then some (Res.ret (AV.tup [(str a2), (yes false)]), []) else some (Res.ret (AV.tup [(str []), (yes true)]), []) else none
  else none else some (Res.ret (AV.tup [(str a2), (yes false)]), []) else bif a0_0 == 2 then bif (a0_0 == a1_0) == true then (run none 100 [AV.e (E.int IntKind.i64
  (↑a1_2.length : Int)), (num (↑a1_2.length : Int)), (num a0_1), (num a0_2)] []).bind fun rh => bif okHeap [] rh.2 then bif
  okRes PP 4 rh.fst then bif !rh.fst.val.data.toBool then some (Res.ret (AV.tup [(str a2), (yes false)]), []) else some (Res.ret (AV.tup [(str []),
  (yes true)]), []) else none else none else some (Res.ret (AV.tup [(str a2), (yes false)]), []) else bif a0_0 == 4 then bif (a1_0 == 2) == true then (run
  none 154 [AV.e (E.sl 9 a0_3), (str a1_2)] []).bind fun rh => bif okHeap [] rh.2 then bif okRes PP 3 rh.fst then bif !decide (0 ≤ rh.fst.val.data.toInt) then some
  (Res.ret (AV.tup [(str a2), (yes false)]), []) else some (Res.ret (AV.tup [(str []), (yes true)]), []) else none else none else some (Res.ret
  (AV.tup [(str a2), (yes false)]), []) else bif a0_0 == 5 then bif (a0_0 == a1_0) == true then (run none 100 [(num (↑a1_4.length : Int)), AV.e
  (E.int IntKind.i64 (↑a1_4.length : Int)), (num a0_1), (num a0_2)] []).bind fun rh => bif okHeap [] rh.2 then bif okRes PP 4 rh.fst
  then (loop 106 0 lc_106_14 ([uu, uu, (str a2), AV.ptr 0 0, AV.ptr 1 0, uu, uu, uu, (yes rh.fst.val.data.toBool), AV.e (E.int
  IntKind.i64 0)] ++ List.replicate 115 uu) [Ob.box [(num a0_0), (num a0_1), (num a0_2), AV.e (E.sl 9 a0_3), AV.e
  (E.sl 27 a0_4), AV.e (E.sl 81 a0_5)], Ob.box [(num a1_0), (num a1_1), (str a1_2), AV.e (E.sl 9 a1_3), AV.e (E.sl 39 a1_4)]]).bind fun
  o => bif o.ex.isWay (Way.exit 1) then bif okFr ([uu, uu, (str []), uu, uu, uu, uu, uu, (yes false)] ++ List.replicate 116
  uu) o.2 && okHeap [] o.3 then bif !(List.getD o.fr 8 uu).data.toBool then some (Res.ret (AV.tup [(str (List.getD o.fr 2 uu).data.toStr), AV.e (E.bool
  false)]), []) else some (Res.ret (AV.tup [(str []), (yes true)]), []) else none else bif o.ex.isWay Way.ret then bif okFr (List.replicate 6 uu ++ [AV.e
  (E.str []), (yes false)] ++ List.replicate 117 uu) o.2 && okHeap [] o.3 then some (Res.ret (AV.tup [(str (List.getD o.fr 6 uu).data.toStr), AV.e
  (E.bool (List.getD o.fr 7 uu).data.toBool)]), []) else none else none else none else none else (loop 106 0 lc_106_14 ([uu, uu, (str a2), AV.ptr 0 0,
  AV.ptr 1 0, uu, uu, uu, (yes false), (num 0)] ++ List.replicate 115 uu) [Ob.box [(num a0_0), AV.e (E.int
  IntKind.i64 a0_1), (num a0_2), AV.e (E.sl 9 a0_3), AV.e (E.sl 27 a0_4), AV.e (E.sl 81 a0_5)], Ob.box [(num a1_0), AV.e (E.int IntKind.i64
  a1_1), (str a1_2), AV.e (E.sl 9 a1_3), AV.e (E.sl 39 a1_4)]]).bind fun o => bif o.ex.isWay (Way.exit 1) then bif okFr ([uu, uu, (str []), uu,
  uu, uu, uu, uu, (yes false)] ++ List.replicate 116 uu) o.2 && okHeap [] o.3 then bif !(List.getD o.fr 8 uu).data.toBool then some
  (Res.ret (AV.tup [(str (List.getD o.fr 2 uu).data.toStr), (yes false)]), []) else some (Res.ret (AV.tup [(str []), (yes true)]), []) else none
  else bif o.ex.isWay Way.ret then bif okFr (List.replicate 6 uu ++ [(str []), (yes false)] ++ List.replicate 117 uu) o.2 && okHeap [] o.3 then some
  (Res.ret (AV.tup [(str (List.getD o.fr 6 uu).data.toStr), (yes (List.getD o.fr 7 uu).data.toBool)]), []) else none else none else bif a0_0 == 6 then
  bif a0_0 == a1_0 then (run none 155 [AV.e (E.sl 81 a0_5), AV.agg [(num a1_0), (num a1_1), (str a1_2), AV.e (E.sl 9 a1_3), AV.e (E.sl
  39 a1_4)], (str a2)] []).bind fun rh => bif okHeap [] rh.2 then bif okRes PP 42 rh.fst then some (Res.ret (AV.tup [(str (rh.fst.val.comp 0).data.toStr), AV.e
  (E.bool (rh.fst.val.comp 1).data.toBool)]), []) else none else none else bif !a0_0 == a1_0 then some (Res.ret (AV.tup [(str a2), (yes false)]), []) else some
  (Res.ret (AV.tup [(str []), (yes true)]), []) else bif !a0_0 == a1_0 then some (Res.ret (AV.tup [(str a2), (yes false)]), []) else some (Res.ret
  (AV.tup [(str []), (yes true)]), []) := by kernel_rfl
theorem eq_rfitsL14 (run : RunF) (loop : LoopF) (t2 : List UInt8) (t8 : Bool) (t9 : Int) (t3_0 : Int) (t3_1 : Int) (t3_2 : Int) (t3_3 : List E) (t3_4 : List E) (t3_5 : List E)
  (t4_0 : Int) (t4_1 : Int) (t4_2 : List UInt8) (t4_3 : List E) (t4_4 : List E) : bodyLoop PP HH run loop 106 0 lc_106_14 ((((((List.replicate 125 uu).set 2
  (.e (.str t2))).set 3 (.ptr 0 0)).set 4 (.ptr 1 0)).set 8 (.e (.bool t8))).set 9 (.e (.int .i64 t9))) [.box [.e (.int .i64 t3_0), .e (.int .i64 t3_1), .e (.int .i64 t3_2), .e
  (.sl 9 t3_3), .e (.sl 27 t3_4), .e (.sl 81 t3_5)], .box [.e (.int .i64 t4_0), .e (.int .i64 t4_1), .e (.str t4_2), .e (.sl 9 t4_3), .e (.sl 39 t4_4)]] = bif bif t8 then decide
  (t9 < (↑t4_4.length : Int)) else false then bif decide (0 < (↑t3_4.length : Int)) then bif decide (0 ≤ t9) && decide (t9 < (↑t4_4.length : Int)) then bif (decide (t2.length + 1 ≤
  9223372036854775807)) then (run none 142 [(num t9)] []).bind fun rh => bif okHeap [] rh.2 then bif okRes PP 9 rh.fst then bif (decide ((t2 ++
  [91]).length + rh.fst.val.data.toStr.length ≤ 9223372036854775807)) then bif (decide ((t2 ++ [91] ++ rh.fst.val.data.toStr).length + 1 ≤ 9223372036854775807)) then (run none 106
  [AV.agg [(num ((t3_4.getD 0 E.nili).cell 0).toInt), (num ((t3_4.getD 0 E.nili).cell 1).toInt), (num ((t3_4.getD 0
  E.nili).cell 2).toInt), AV.e (E.sl 9 ((t3_4.getD 0 E.nili).cell 3).toList), AV.e (E.sl 27 ((t3_4.getD 0 E.nili).cell 4).toList), AV.e (E.sl 81 ((t3_4.getD 0 E.nili).cell
  5).toList)], AV.agg [(num ((t4_4.getD t9.toNat E.nili).cell 0).toInt), (num ((t4_4.getD t9.toNat E.nili).cell 1).toInt), AV.e (E.str
  ((t4_4.getD t9.toNat E.nili).cell 2).toStr), AV.e (E.sl 9 ((t4_4.getD t9.toNat E.nili).cell 3).toList), AV.e (E.sl 39 ((t4_4.getD t9.toNat E.nili).cell 4).toList)], AV.e (E.str
  (t2 ++ [91] ++ rh.fst.val.data.toStr ++ [93]))] []).bind fun rh => bif okHeap [] rh.2 then bif okRes PP 42 rh.fst then bif !(rh.fst.val.comp 1).data.toBool then some
  (Out.mk (Ex.ret) ((List.replicate 6 uu ++ [(str (rh.fst.val.comp 0).data.toStr), (yes false)] ++ List.replicate 117 uu)) ([]) ([])) else (loop 106 0
  lc_106_14 ([uu, uu, (str t2), AV.ptr 0 0, AV.ptr 1 0, uu, uu, uu, (yes t8), (num (IntKind.i64.wrap (t9 + 1)))] ++
  List.replicate 115 uu) [Ob.box [(num t3_0), (num t3_1), (num t3_2), AV.e (E.sl 9 t3_3), AV.e (E.sl 27 t3_4), AV.e
  (E.sl 81 t3_5)], Ob.box [(num t4_0), (num t4_1), (str t4_2), AV.e (E.sl 9 t4_3), AV.e (E.sl 39 t4_4)]]).bind fun o => some o else
  none else none else none else none else none else none else none else none else none else some (Out.mk (Ex.exit 1) (([uu, uu, (str t2), uu, uu,
  uu, uu, uu, (yes t8)] ++ List.replicate 116 uu)) ([]) ([])) := by kernel_rfl
theorem eq_entry (run : RunF) (loop : LoopF) (a0 : List E) (a1 : List UInt8) : bodyRun PP HH run loop none 154 [.e (.sl 9 a0), .e (.str a1)] [] = (loop 154 0
  lc_154_2 ([AV.e (E.sl 9 a0), (str a1), uu, uu, uu, (num 0)] ++ List.replicate 13 uu) []).bind fun o => bif o.ex.isWay (Way.exit
  0) then bif okFr (List.replicate 19 uu) o.2 && okHeap [] o.3 then some (Res.ret ((num (-1))), []) else none else bif o.ex.isWay Way.ret then bif okFr
  ([uu, uu, uu, uu, (num 0)] ++ List.replicate 14 uu) o.2 && okHeap [] o.3 then some (Res.ret ((num (List.getD
  o.fr 4 uu).data.toInt)), []) else none else none := by kernel_rfl
theorem eq_entryL2 (run : RunF) (loop : LoopF) (t0 : List E) (t1 : List UInt8) (t5 : Int) : bodyLoop PP HH run loop 154 0 lc_154_2 ((((List.replicate 19
  uu).set 0 (.e (.sl 9 t0))).set 1 (.e (.str t1))).set 5 (.e (.int .i64 t5))) [] = bif decide (t5 < (↑t0.length : Int)) then bif decide (0 ≤ t5) && decide (t5 < (↑t0.length :
  Int)) then bif strEq ((t0.getD t5.toNat E.nili).cell 0).toStr t1 then some (Out.mk (Ex.ret) (([uu, uu, uu, uu, (num t5)] ++
  List.replicate 14 uu)) ([]) ([])) else (loop 154 0 lc_154_2 ([AV.e (E.sl 9 t0), (str t1), uu, uu, uu, (num (IntKind.i64.wrap (t5
  + 1)))] ++ List.replicate 13 uu) []).bind fun o => some o else none else some (Out.mk (Ex.exit 0) ((List.replicate 19 uu)) ([]) ([])) := by kernel_rfl
theorem eq_fitsRecord (run : RunF) (loop : LoopF) (a0 : List E) (a1_0 : Int) (a1_1 : Int) (a1_2 : List UInt8) (a1_3 : List E) (a1_4 : List E) (a2 : List UInt8) : bodyRun
  PP HH run loop none 155 [.e (.sl 81 a0), .agg [.e (.int .i64 a1_0), .e (.int .i64 a1_1), .e (.str a1_2), .e (.sl 9 a1_3), .e (.sl 39 a1_4)], .e (.str a2)] [] =
  (loop 155 0 lc_155_2 ([AV.e (E.sl 81 a0), uu, (str a2), uu, AV.ptr 0 0, uu, uu, uu, (num 0), (num 0)]
  ++ List.replicate 108 uu) [Ob.box [(num a1_0), (num a1_1), (str a1_2), AV.e (E.sl 9 a1_3), AV.e (E.sl 39 a1_4)]]).bind fun o =>
  bif o.ex.isWay (Way.exit 0) then bif okFr (List.replicate 118 uu) o.2 && okHeap [] o.3 then some (Res.ret (AV.tup [(str []), (yes true)]), []) else none else
  bif o.ex.isWay Way.ret then bif okFr (List.replicate 6 uu ++ [(str []), (yes false)] ++ List.replicate 110 uu) o.2 && okHeap [] o.3 then some (Res.ret
  (AV.tup [(str (List.getD o.fr 6 uu).data.toStr), (yes (List.getD o.fr 7 uu).data.toBool)]), []) else none else none := by kernel_rfl
theorem eq_fitsRecordL2 (run : RunF) (loop : LoopF) (t0 : List E) (t2 : List UInt8) (t8 : Int) (t9 : Int) (t4_0 : Int) (t4_1 : Int) (t4_2 : List UInt8) (t4_3 : List E) (t4_4 : List
  E) : bodyLoop PP HH run loop 155 0 lc_155_2 ((((((List.replicate 118 uu).set 0 (.e (.sl 81 t0))).set 2 (.e (.str t2))).set 4 (.ptr 0 0)).set 8 (.e (.int
  .i64 t8))).set 9 (.e (.int .i64 t9))) [.box [.e (.int .i64 t4_0), .e (.int .i64 t4_1), .e (.str t4_2), .e (.sl 9 t4_3), .e (.sl 39 t4_4)]] = bif bif decide (t8 < (↑t0.length :
  Int)) then true else decide (t9 < (↑t4_3.length : Int)) then bif (t8 == (↑t0.length : Int)) == false then bif decide (t9 < (↑t4_3.length : Int)) == true then bif decide (0 ≤ t9)
  && decide (t9 < (↑t4_3.length : Int)) then bif decide (0 ≤ t8) && decide (t8 < (↑t0.length : Int)) then bif Op.bytesLess ((t4_3.getD t9.toNat E.nili).cell 0).toStr ((t0.getD
  t8.toNat E.nili).cell 0).toStr then bif (decide (t2.length + 1 ≤ 9223372036854775807)) then bif decide (0 ≤ t9) && decide (t9 < (↑t4_3.length : Int)) then bif (decide ((t2 ++
  [46]).length + ((t4_3.getD t9.toNat E.nili).cell 0).toStr.length ≤ 9223372036854775807)) then some (Out.mk (Ex.ret) ((List.replicate 6 uu ++ [(str (t2 ++ [46] ++
  ((t4_3.getD t9.toNat E.nili).cell 0).toStr)), (yes false)] ++ List.replicate 110 uu)) ([]) ([])) else none else none else none else bif (t9 == (↑t4_3.length : Int))
  == false then bif decide (0 ≤ t8) && decide (t8 < (↑t0.length : Int)) then bif decide (0 ≤ t9) && decide (t9 < (↑t4_3.length : Int)) then bif Op.bytesLess ((t0.getD t8.toNat
  E.nili).cell 0).toStr ((t4_3.getD t9.toNat E.nili).cell 0).toStr then bif decide (0 ≤ t8) && decide (t8 < (↑t0.length : Int)) then bif !((t0.getD t8.toNat E.nili).cell 1).toBool
  then bif (decide (t2.length + 1 ≤ 9223372036854775807)) then bif decide (0 ≤ t8) && decide (t8 < (↑t0.length : Int)) then bif (decide ((t2 ++ [46]).length + ((t0.getD t8.toNat
  E.nili).cell 0).toStr.length ≤ 9223372036854775807)) then some (Out.mk (Ex.ret) ((List.replicate 6 uu ++ [(str (t2 ++ [46] ++ ((t0.getD t8.toNat E.nili).cell
  0).toStr)), (yes false)] ++ List.replicate 110 uu)) ([]) ([])) else none else none else none else (loop 155 0 lc_155_2 ([AV.e (E.sl 81 t0), uu, AV.e (E.str
  t2), uu, AV.ptr 0 0, uu, uu, uu, (num (IntKind.i64.wrap (t8 + 1))), (num t9)] ++ List.replicate 108 uu)
  [Ob.box [(num t4_0), (num t4_1), (str t4_2), AV.e (E.sl 9 t4_3), AV.e (E.sl 39 t4_4)]]).bind fun o => some o else none else bif
  decide (0 ≤ t8) && decide (t8 < (↑t0.length : Int)) then bif decide (0 ≤ t9) && decide (t9 < (↑t4_4.length : Int)) then bif (decide (t2.length + 1 ≤ 9223372036854775807)) then
  bif decide (0 ≤ t8) && decide (t8 < (↑t0.length : Int)) then bif (decide ((t2 ++ [46]).length + ((t0.getD t8.toNat E.nili).cell 0).toStr.length ≤ 9223372036854775807)) then (run
  none 106 [AV.agg [(num ((t0.getD t8.toNat E.nili).cell 2).toInt), (num ((t0.getD t8.toNat E.nili).cell 3).toInt), AV.e (E.int IntKind.i64
  ((t0.getD t8.toNat E.nili).cell 4).toInt), AV.e (E.sl 9 ((t0.getD t8.toNat E.nili).cell 5).toList), AV.e (E.sl 27 ((t0.getD t8.toNat E.nili).cell 6).toList), AV.e (E.sl 81
  ((t0.getD t8.toNat E.nili).cell 7).toList)], AV.agg [(num ((t4_4.getD t9.toNat E.nili).cell 0).toInt), (num ((t4_4.getD t9.toNat
  E.nili).cell 1).toInt), (str ((t4_4.getD t9.toNat E.nili).cell 2).toStr), AV.e (E.sl 9 ((t4_4.getD t9.toNat E.nili).cell 3).toList), AV.e (E.sl 39 ((t4_4.getD t9.toNat
  E.nili).cell 4).toList)], (str (t2 ++ [46] ++ ((t0.getD t8.toNat E.nili).cell 0).toStr))] []).bind fun rh => bif okHeap [] rh.2 then bif okRes PP 42 rh.fst then bif
  !(rh.fst.val.comp 1).data.toBool then some (Out.mk (Ex.ret) ((List.replicate 6 uu ++ [(str (rh.fst.val.comp 0).data.toStr), (yes false)] ++ List.replicate
  110 uu)) ([]) ([])) else (loop 155 0 lc_155_2 ([AV.e (E.sl 81 t0), uu, (str t2), uu, AV.ptr 0 0, uu, uu, uu, AV.e (E.int IntKind.i64
  (IntKind.i64.wrap (t8 + 1))), (num (IntKind.i64.wrap (t9 + 1)))] ++ List.replicate 108 uu) [Ob.box [(num t4_0), AV.e (E.int
  IntKind.i64 t4_1), (str t4_2), AV.e (E.sl 9 t4_3), AV.e (E.sl 39 t4_4)]]).bind fun o => some o else none else none else none else none else none else none else none else
  none else none else bif decide (0 ≤ t8) && decide (t8 < (↑t0.length : Int)) then bif !((t0.getD t8.toNat E.nili).cell 1).toBool then bif (decide (t2.length + 1 ≤
  9223372036854775807)) then bif decide (0 ≤ t8) && decide (t8 < (↑t0.length : Int)) then bif (decide ((t2 ++ [46]).length + ((t0.getD t8.toNat E.nili).cell 0).toStr.length ≤
  9223372036854775807)) then some (Out.mk (Ex.ret) ((List.replicate 6 uu ++ [(str (t2 ++ [46] ++ ((t0.getD t8.toNat E.nili).cell 0).toStr)), (yes false)] ++
  List.replicate 110 uu)) ([]) ([])) else none else none else none else (loop 155 0 lc_155_2 ([AV.e (E.sl 81 t0), uu, (str t2), uu, AV.ptr 0 0, uu,
  uu, uu, (num (IntKind.i64.wrap (t8 + 1))), (num t9)] ++ List.replicate 108 uu) [Ob.box [(num t4_0),
  (num t4_1), (str t4_2), AV.e (E.sl 9 t4_3), AV.e (E.sl 39 t4_4)]]).bind fun o => some o else none else none else none else bif (t9 == (↑t4_3.length :
  Int)) == false then bif decide (0 ≤ t8) && decide (t8 < (↑t0.length : Int)) then bif decide (0 ≤ t9) && decide (t9 < (↑t4_3.length : Int)) then bif Op.bytesLess ((t0.getD
  t8.toNat E.nili).cell 0).toStr ((t4_3.getD t9.toNat E.nili).cell 0).toStr then bif decide (0 ≤ t8) && decide (t8 < (↑t0.length : Int)) then bif !((t0.getD t8.toNat E.nili).cell
  1).toBool then bif (decide (t2.length + 1 ≤ 9223372036854775807)) then bif decide (0 ≤ t8) && decide (t8 < (↑t0.length : Int)) then bif (decide ((t2 ++ [46]).length + ((t0.getD
  t8.toNat E.nili).cell 0).toStr.length ≤ 9223372036854775807)) then some (Out.mk (Ex.ret) ((List.replicate 6 uu ++ [(str (t2 ++ [46] ++ ((t0.getD t8.toNat
  E.nili).cell 0).toStr)), (yes false)] ++ List.replicate 110 uu)) ([]) ([])) else none else none else none else (loop 155 0 lc_155_2 ([AV.e (E.sl 81 t0), uu,
  (str t2), uu, AV.ptr 0 0, uu, uu, uu, (num (IntKind.i64.wrap (t8 + 1))), (num t9)] ++ List.replicate 108
  uu) [Ob.box [(num t4_0), (num t4_1), (str t4_2), AV.e (E.sl 9 t4_3), AV.e (E.sl 39 t4_4)]]).bind fun o => some o else none else
  bif decide (0 ≤ t8) && decide (t8 < (↑t0.length : Int)) then bif decide (0 ≤ t9) && decide (t9 < (↑t4_4.length : Int)) then bif (decide (t2.length + 1 ≤ 9223372036854775807))
  then bif decide (0 ≤ t8) && decide (t8 < (↑t0.length : Int)) then bif (decide ((t2 ++ [46]).length + ((t0.getD t8.toNat E.nili).cell 0).toStr.length ≤ 9223372036854775807)) then
  (run none 106 [AV.agg [(num ((t0.getD t8.toNat E.nili).cell 2).toInt), (num ((t0.getD t8.toNat E.nili).cell 3).toInt), AV.e (E.int
  IntKind.i64 ((t0.getD t8.toNat E.nili).cell 4).toInt), AV.e (E.sl 9 ((t0.getD t8.toNat E.nili).cell 5).toList), AV.e (E.sl 27 ((t0.getD t8.toNat E.nili).cell 6).toList), AV.e
  (E.sl 81 ((t0.getD t8.toNat E.nili).cell 7).toList)], AV.agg [(num ((t4_4.getD t9.toNat E.nili).cell 0).toInt), (num ((t4_4.getD t9.toNat
  E.nili).cell 1).toInt), (str ((t4_4.getD t9.toNat E.nili).cell 2).toStr), AV.e (E.sl 9 ((t4_4.getD t9.toNat E.nili).cell 3).toList), AV.e (E.sl 39 ((t4_4.getD t9.toNat
  E.nili).cell 4).toList)], (str (t2 ++ [46] ++ ((t0.getD t8.toNat E.nili).cell 0).toStr))] []).bind fun rh => bif okHeap [] rh.2 then bif okRes PP 42 rh.fst then bif
  !(rh.fst.val.comp 1).data.toBool then some (Out.mk (Ex.ret) ((List.replicate 6 uu ++ [(str (rh.fst.val.comp 0).data.toStr), (yes false)] ++ List.replicate
  110 uu)) ([]) ([])) else (loop 155 0 lc_155_2 ([AV.e (E.sl 81 t0), uu, (str t2), uu, AV.ptr 0 0, uu, uu, uu, AV.e (E.int IntKind.i64
  (IntKind.i64.wrap (t8 + 1))), (num (IntKind.i64.wrap (t9 + 1)))] ++ List.replicate 108 uu) [Ob.box [(num t4_0), AV.e (E.int
  IntKind.i64 t4_1), (str t4_2), AV.e (E.sl 9 t4_3), AV.e (E.sl 39 t4_4)]]).bind fun o => some o else none else none else none else none else none else none else none else
  none else none else bif decide (0 ≤ t8) && decide (t8 < (↑t0.length : Int)) then bif !((t0.getD t8.toNat E.nili).cell 1).toBool then bif (decide (t2.length + 1 ≤
  9223372036854775807)) then bif decide (0 ≤ t8) && decide (t8 < (↑t0.length : Int)) then bif (decide ((t2 ++ [46]).length + ((t0.getD t8.toNat E.nili).cell 0).toStr.length ≤
  9223372036854775807)) then some (Out.mk (Ex.ret) ((List.replicate 6 uu ++ [(str (t2 ++ [46] ++ ((t0.getD t8.toNat E.nili).cell 0).toStr)), (yes false)] ++
  List.replicate 110 uu)) ([]) ([])) else none else none else none else (loop 155 0 lc_155_2 ([AV.e (E.sl 81 t0), uu, (str t2), uu, AV.ptr 0 0, uu,
  uu, uu, (num (IntKind.i64.wrap (t8 + 1))), (num t9)] ++ List.replicate 108 uu) [Ob.box [(num t4_0),
  (num t4_1), (str t4_2), AV.e (E.sl 9 t4_3), AV.e (E.sl 39 t4_4)]]).bind fun o => some o else none else bif (decide (t2.length + 1 ≤
  9223372036854775807)) then bif decide (0 ≤ t9) && decide (t9 < (↑t4_3.length : Int)) then bif (decide ((t2 ++ [46]).length + ((t4_3.getD t9.toNat E.nili).cell 0).toStr.length ≤
  9223372036854775807)) then some (Out.mk (Ex.ret) ((List.replicate 6 uu ++ [(str (t2 ++ [46] ++ ((t4_3.getD t9.toNat E.nili).cell 0).toStr)), (yes false)] ++
  List.replicate 110 uu)) ([]) ([])) else none else none else none else some (Out.mk (Ex.exit 0) ((List.replicate 118 uu)) ([]) ([])) := by kernel_rfl

end Go.Proofs.YtghdhhmlmdohkaaGreatDoor
