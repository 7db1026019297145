/- The equations of functions, as a program of mine prints them. -/
import Derived.Test.YtmocefjnplmibaaGreatDoorBase
namespace Go.Proofs.YtmocefjnplmibaaGreatDoor
open Go Go.Den
set_option maxRecDepth 100000
set_option maxHeartbeats 0

theorem eq_word (run : RunF) (loop : LoopF) (a0 : Int) : bodyRun PP HH run loop none 40 [.e (.int .i64 a0)] [] = bif a0 == 1 then some (Res.ret ((str [101,
  120, 99, 104, 97, 110, 103, 101])), []) else bif a0 == 2 then some (Res.ret ((str [113, 117, 101, 117, 101])), []) else bif a0 == 3 then some (Res.ret ((str [98,
  105, 110, 100])), []) else bif a0 == 4 then some (Res.ret ((str [117, 110, 98, 105, 110, 100])), []) else bif a0 == 5 then some (Res.ret ((str [112, 117, 98, 108,
  105, 115, 104])), []) else bif a0 == 6 then some (Res.ret ((str [99, 111, 110, 115, 117, 109, 101])), []) else bif a0 == 7 then some (Res.ret ((str [99, 97, 110,
  99, 101, 108])), []) else bif a0 == 8 then some (Res.ret ((str [97, 99, 107])), []) else bif a0 == 9 then some (Res.ret ((str [110, 97, 99, 107])), []) else bif a0
  == 10 then some (Res.ret ((str [98, 101, 103, 105, 110])), []) else bif a0 == 11 then some (Res.ret ((str [99, 111, 109, 109, 105, 116])), []) else bif a0 == 12
  then some (Res.ret ((str [114, 111, 108, 108, 98, 97, 99, 107])), []) else bif a0 == 13 then some (Res.ret ((str [112, 117, 114, 103, 101])), []) else bif a0 == 14
  then some (Res.ret ((str [100, 101, 108, 101, 116, 101])), []) else bif a0 == 15 then some (Res.ret ((str [100, 101, 115, 99, 114, 105, 98, 101])), []) else some
  (Res.ret ((str [])), []) := by kernel_rfl
theorem eq_exWord (run : RunF) (loop : LoopF) (a0 : Int) : bodyRun PP HH run loop none 42 [.e (.int .i64 a0)] [] = bif a0 == 1 then some (Res.ret (AV.e (E.str
  [100, 105, 114, 101, 99, 116])), []) else bif a0 == 2 then some (Res.ret ((str [102, 97, 110, 111, 117, 116])), []) else bif a0 == 3 then some (Res.ret ((str [116,
  111, 112, 105, 99])), []) else bif a0 == 4 then some (Res.ret ((str [104, 101, 97, 100, 101, 114, 115])), []) else some (Res.ret ((str [])), []) := by kernel_rfl
theorem eq_truth (run : RunF) (loop : LoopF) (a0 : Bool) : bodyRun PP HH run loop none 44 [.e (.bool a0)] [] = bif a0 then some (Res.ret ((str [121, 101,
  115])), []) else some (Res.ret ((str [110, 111])), []) := by kernel_rfl
theorem eq_maybe (run : RunF) (loop : LoopF) (a0 : List UInt8) : bodyRun PP HH run loop none 43 [.e (.str a0)] [] = bif strEq a0 ([] : List UInt8) then some
  (Res.ret ((str [45])), []) else some (Res.ret ((str a0)), []) := by kernel_rfl
theorem eq_properties (run : RunF) (loop : LoopF) (a0 : List E) : bodyRun PP HH run loop none 45 [.e (.sl 97 a0)] [] = (loop 45 0 lc_45_3 ([uu, uu,
  uu, AV.own 0 9 [], uu, uu, AV.e (E.sl 97 a0), (num (↑a0.length : Int)), (num 0)] ++ List.replicate 15 uu) [Ob.vec 9
  0]).bind fun o => bif o.ex.isWay (Way.exit 0) then bif okFr ([uu, uu, uu, AV.own 0 9 []] ++ List.replicate 20 uu) o.2 && okHeap [Ob.vec 9 0] o.3 then some
  (Res.ret (AV.e (E.sl 9 (List.getD o.fr 3 uu).data.toList)), []) else none else none := by kernel_rfl
theorem eq_propertiesL3 (run : RunF) (loop : LoopF) (t3 : List E) (t6 : List E) (t7 : Int) (t8 : Int) : bodyLoop PP HH run loop 45 0 lc_45_3 (((((List.replicate 24
  uu).set 3 (.own 0 9 t3)).set 6 (.e (.sl 97 t6))).set 7 (.e (.int .i64 t7))).set 8 (.e (.int .i64 t8))) [.vec 9 t3.length] = bif decide (t8 < t7) then bif decide (0 ≤ t8) &&
  decide (t8 < (↑t6.length : Int)) then bif (decide (((t6.getD t8.toNat E.nili).cell 0).toStr.length + 1 ≤ 9223372036854775807)) then (run none 14 [(str ((t6.getD t8.toNat
  E.nili).cell 1).toStr)] []).bind fun rh => bif okHeap [] rh.2 then bif okRes PP 9 rh.fst then bif (decide ((((t6.getD t8.toNat E.nili).cell 0).toStr ++ [61]).length +
  rh.fst.val.data.toStr.length ≤ 9223372036854775807)) then bif decide (t3.length = t3.length) && decide ((t3.length + (9, [E.str (((t6.getD t8.toNat E.nili).cell 0).toStr ++ [61]
  ++ rh.fst.val.data.toStr)]).snd.length) * 16 ≤ 140737488355328) then (loop 45 0 lc_45_3 ([uu, uu, uu, AV.own 0 9 (t3 ++ (9, [E.str (((t6.getD t8.toNat
  E.nili).cell 0).toStr ++ [61] ++ rh.fst.val.data.toStr)]).snd), uu, uu, AV.e (E.sl 97 t6), (num t7), (num (IntKind.i64.wrap (t8
  + 1)))] ++ List.replicate 15 uu) [Ob.vec 9 (t3 ++ (9, [E.str (((t6.getD t8.toNat E.nili).cell 0).toStr ++ [61] ++ rh.fst.val.data.toStr)]).snd).length]).bind fun o => some
  o else none else none else none else none else none else none else some (Out.mk (Ex.exit 0) (([uu, uu, uu, AV.own 0 9 t3] ++ List.replicate 20 uu))
  ([Ob.vec 9 t3.length]) ([])) := by kernel_rfl
theorem eq_mfields (run : RunF) (loop : LoopF) (a0_0 : List UInt8) (a0_1 : List UInt8) (a0_2 : Int) (a0_3 : Bool) (a0_4 : Int) (a0_5 : Int) (a0_6 : List UInt8) (a0_7 : Int) (a0_8 :
  List E) : bodyRun PP HH run loop none 46 [.agg [.e (.str a0_0), .e (.str a0_1), .e (.int .i64 a0_2), .e (.bool a0_3), .e (.int .i64 a0_4), .e (.int .i64 a0_5),
  .e (.str a0_6), .e (.int .i64 a0_7), .e (.sl 97 a0_8)]] [] = (run none 14 [(str a0_0)] []).bind fun rh => bif okHeap [] rh.2 then bif okRes PP 9 rh.fst then (run
  none 14 [(str a0_1)] []).bind fun rh_1 => bif okHeap [] rh_1.2 then bif okRes PP 9 rh_1.fst then bif decide (-9223372036854775808 ≤ a0_2) && decide (a0_2 ≤
  9223372036854775807) then (run none 44 [(yes a0_3)] []).bind fun rh_2 => bif okHeap [] rh_2.2 then bif okRes PP 9 rh_2.fst then bif decide (-9223372036854775808 ≤
  a0_4) && decide (a0_4 ≤ 9223372036854775807) then bif decide (-9223372036854775808 ≤ a0_5) && decide (a0_5 ≤ 9223372036854775807) then (run none 43 [(str a0_6)] []).bind
  fun rh_3 => bif okHeap [] rh_3.2 then bif okRes PP 9 rh_3.fst then bif decide (-9223372036854775808 ≤ a0_7) && decide (a0_7 ≤ 9223372036854775807) then (run none 45 [AV.e
  (E.sl 97 a0_8)] []).bind fun rh_4 => bif okHeap [] rh_4.2 then bif okRes PP 66 rh_4.fst then bif decide (((elems PP 9 1 8 [E.str (Lib.itoa a0_7), E.str
  rh_3.fst.val.data.toStr, E.str (Lib.itoa a0_5), E.str (Lib.itoa a0_4), E.str rh_2.fst.val.data.toStr, E.str (Lib.itoa a0_2), E.str rh_1.fst.val.data.toStr, E.str
  rh.fst.val.data.toStr].reverse).length + rh_4.fst.val.data.toList.length) * 16 ≤ 140737488355328) then some (Res.ret (AV.e (E.sl 9 (elems PP 9 1 8 [E.str (Lib.itoa a0_7),
  E.str rh_3.fst.val.data.toStr, E.str (Lib.itoa a0_5), E.str (Lib.itoa a0_4), E.str rh_2.fst.val.data.toStr, E.str (Lib.itoa a0_2), E.str rh_1.fst.val.data.toStr, E.str
  rh.fst.val.data.toStr].reverse ++ rh_4.fst.val.data.toList))), []) else none else none else none else none else none else none else none else none else none else none else none
  else none else none else none else none := by kernel_rfl
theorem eq_RequestK1 (run : RunF) (loop : LoopF) (a0_1 : Int) (a0_2 : Int) (a0_3 : Int) (a0_4 : Int) (a0_5 : Bool) (a0_6 : List UInt8) (a0_7 : List UInt8) (a0_8 : List UInt8) (a0_9
  : Int) (a0_10 : List UInt8) (a0_11 : List UInt8) (a0_12 : Int) (a0_13 : Int) (a0_14 : Int) (a0_15 : List UInt8) (a0_16 : List UInt8) (a0_17 : List UInt8) (a0_18 : List UInt8)
  (a0_19 : Bool) (a0_20 : List E) (a0_21 : List UInt8) (a0_22 : List UInt8) (a0_23 : Int) (a0_24 : Bool) (a0_25 : Int) (a0_26 : Int) (a0_27 : List UInt8) (a0_28 : Int) (a0_29 :
  List E) : bodyRun PP HH run loop none 19 [.agg [.e (.int .i64 1), .e (.int .i64 a0_1), .e (.int .i64 a0_2), .e (.int .i64 a0_3), .e (.int .i64 a0_4), .e (.bool
  a0_5), .e (.str a0_6), .e (.str a0_7), .e (.str a0_8), .e (.int .i64 a0_9), .e (.str a0_10), .e (.str a0_11), .e (.int .i64 a0_12), .e (.int .i64 a0_13), .e (.int .i64 a0_14), .e
  (.str a0_15), .e (.str a0_16), .e (.str a0_17), .e (.str a0_18), .e (.bool a0_19), .e (.sl 97 a0_20), .e (.str a0_21), .e (.str a0_22), .e (.int .i64 a0_23), .e (.bool a0_24), .e
  (.int .i64 a0_25), .e (.int .i64 a0_26), .e (.str a0_27), .e (.int .i64 a0_28), .e (.sl 97 a0_29)]] [] = (run none 17 [AV.agg [(num 1), AV.e (E.int IntKind.i64
  a0_1), (num a0_2), (num a0_3), (num a0_4), (yes a0_5), (str a0_6), (str a0_7), (str a0_8),
  (num a0_9), (str a0_10), (str a0_11), (num a0_12), (num a0_13), (num a0_14), AV.e (E.str
  a0_15), (str a0_16), (str a0_17), (str a0_18), (yes a0_19), AV.e (E.sl 97 a0_20), (str a0_21), (str a0_22), AV.e (E.int IntKind.i64
  a0_23), (yes a0_24), (num a0_25), (num a0_26), (str a0_27), (num a0_28), AV.e (E.sl 97 a0_29)]] []).bind
  fun rh => bif okHeap [] rh.2 then bif okRes PP 23 rh.fst then bif !rh.fst.val.data.toInt == 0 then some (Res.ret (AV.tup [(str []), AV.e (E.int IntKind.i64
  rh.fst.val.data.toInt)]), []) else (run none 40 [(num 1)] []).bind fun rh => bif okHeap [] rh.2 then bif okRes PP 9 rh.fst then bif decide
  (-9223372036854775808 ≤ a0_1) && decide (a0_1 ≤ 9223372036854775807) then bif decide (-9223372036854775808 ≤ a0_2) && decide (a0_2 ≤ 9223372036854775807) then (run none 42 [AV.e
  (E.int IntKind.i64 a0_9)] []).bind fun rh_1 => bif okHeap [] rh_1.2 then bif okRes PP 9 rh_1.fst then (run none 43 [(str a0_10)] []).bind fun rh_2 => bif okHeap []
  rh_2.2 then bif okRes PP 9 rh_2.fst then bif decide ((Lib.join (List.map E.toStr (elems PP 9 1 3 [E.str (Lib.itoa a0_2), E.str (Lib.itoa a0_1), E.str
  rh.fst.val.data.toStr].reverse ++ (9, elems PP 9 1 3 [E.str rh_2.fst.val.data.toStr, E.str rh_1.fst.val.data.toStr, E.str a0_8].reverse).snd)) ([32] : List UInt8)).length
  ≤ 140737488355328) then some (Res.ret (AV.tup [(str (Lib.join (List.map E.toStr (elems PP 9 1 3 [E.str (Lib.itoa a0_2), E.str (Lib.itoa a0_1), E.str
  rh.fst.val.data.toStr].reverse ++ (9, elems PP 9 1 3 [E.str rh_2.fst.val.data.toStr, E.str rh_1.fst.val.data.toStr, E.str a0_8].reverse).snd)) ([32] : List UInt8))), AV.e
  (E.int IntKind.i64 0)]), []) else none else none else none else none else none else none else none else none else none else none else none := by kernel_rfl
theorem eq_RequestK2 (run : RunF) (loop : LoopF) (a0_1 : Int) (a0_2 : Int) (a0_3 : Int) (a0_4 : Int) (a0_5 : Bool) (a0_6 : List UInt8) (a0_7 : List UInt8) (a0_8 : List UInt8) (a0_9
  : Int) (a0_10 : List UInt8) (a0_11 : List UInt8) (a0_12 : Int) (a0_13 : Int) (a0_14 : Int) (a0_15 : List UInt8) (a0_16 : List UInt8) (a0_17 : List UInt8) (a0_18 : List UInt8)
  (a0_19 : Bool) (a0_20 : List E) (a0_21 : List UInt8) (a0_22 : List UInt8) (a0_23 : Int) (a0_24 : Bool) (a0_25 : Int) (a0_26 : Int) (a0_27 : List UInt8) (a0_28 : Int) (a0_29 :
  List E) : bodyRun PP HH run loop none 19 [.agg [.e (.int .i64 2), .e (.int .i64 a0_1), .e (.int .i64 a0_2), .e (.int .i64 a0_3), .e (.int .i64 a0_4), .e (.bool
  a0_5), .e (.str a0_6), .e (.str a0_7), .e (.str a0_8), .e (.int .i64 a0_9), .e (.str a0_10), .e (.str a0_11), .e (.int .i64 a0_12), .e (.int .i64 a0_13), .e (.int .i64 a0_14), .e
  (.str a0_15), .e (.str a0_16), .e (.str a0_17), .e (.str a0_18), .e (.bool a0_19), .e (.sl 97 a0_20), .e (.str a0_21), .e (.str a0_22), .e (.int .i64 a0_23), .e (.bool a0_24), .e
  (.int .i64 a0_25), .e (.int .i64 a0_26), .e (.str a0_27), .e (.int .i64 a0_28), .e (.sl 97 a0_29)]] [] = (run none 17 [AV.agg [(num 2), AV.e (E.int IntKind.i64
  a0_1), (num a0_2), (num a0_3), (num a0_4), (yes a0_5), (str a0_6), (str a0_7), (str a0_8),
  (num a0_9), (str a0_10), (str a0_11), (num a0_12), (num a0_13), (num a0_14), AV.e (E.str
  a0_15), (str a0_16), (str a0_17), (str a0_18), (yes a0_19), AV.e (E.sl 97 a0_20), (str a0_21), (str a0_22), AV.e (E.int IntKind.i64
  a0_23), (yes a0_24), (num a0_25), (num a0_26), (str a0_27), (num a0_28), AV.e (E.sl 97 a0_29)]] []).bind
  fun rh => bif okHeap [] rh.2 then bif okRes PP 23 rh.fst then bif !rh.fst.val.data.toInt == 0 then some (Res.ret (AV.tup [(str []), AV.e (E.int IntKind.i64
  rh.fst.val.data.toInt)]), []) else (run none 40 [(num 2)] []).bind fun rh => bif okHeap [] rh.2 then bif okRes PP 9 rh.fst then bif decide
  (-9223372036854775808 ≤ a0_1) && decide (a0_1 ≤ 9223372036854775807) then bif decide (-9223372036854775808 ≤ a0_2) && decide (a0_2 ≤ 9223372036854775807) then bif decide
  (-9223372036854775808 ≤ a0_12) && decide (a0_12 ≤ 9223372036854775807) then bif decide (-9223372036854775808 ≤ a0_13) && decide (a0_13 ≤ 9223372036854775807) then bif decide
  (-9223372036854775808 ≤ a0_14) && decide (a0_14 ≤ 9223372036854775807) then (run none 43 [(str a0_15)] []).bind fun rh_1 => bif okHeap [] rh_1.2 then bif okRes PP 9
  rh_1.fst then bif decide ((Lib.join (List.map E.toStr (elems PP 9 1 3 [E.str (Lib.itoa a0_2), E.str (Lib.itoa a0_1), E.str rh.fst.val.data.toStr].reverse ++ (9, elems
  PP 9 1 5 [E.str rh_1.fst.val.data.toStr, E.str (Lib.itoa a0_14), E.str (Lib.itoa a0_13), E.str (Lib.itoa a0_12), E.str a0_11].reverse).snd)) ([32] : List UInt8)).length ≤
  140737488355328) then some (Res.ret (AV.tup [(str (Lib.join (List.map E.toStr (elems PP 9 1 3 [E.str (Lib.itoa a0_2), E.str (Lib.itoa a0_1), E.str
  rh.fst.val.data.toStr].reverse ++ (9, elems PP 9 1 5 [E.str rh_1.fst.val.data.toStr, E.str (Lib.itoa a0_14), E.str (Lib.itoa a0_13), E.str (Lib.itoa a0_12), E.str
  a0_11].reverse).snd)) ([32] : List UInt8))), (num 0)]), []) else none else none else none else none else none else none else none else none else none else none
  else none else none := by kernel_rfl
theorem eq_RequestK3 (run : RunF) (loop : LoopF) (a0_1 : Int) (a0_2 : Int) (a0_3 : Int) (a0_4 : Int) (a0_5 : Bool) (a0_6 : List UInt8) (a0_7 : List UInt8) (a0_8 : List UInt8) (a0_9
  : Int) (a0_10 : List UInt8) (a0_11 : List UInt8) (a0_12 : Int) (a0_13 : Int) (a0_14 : Int) (a0_15 : List UInt8) (a0_16 : List UInt8) (a0_17 : List UInt8) (a0_18 : List UInt8)
  (a0_19 : Bool) (a0_20 : List E) (a0_21 : List UInt8) (a0_22 : List UInt8) (a0_23 : Int) (a0_24 : Bool) (a0_25 : Int) (a0_26 : Int) (a0_27 : List UInt8) (a0_28 : Int) (a0_29 :
  List E) : bodyRun PP HH run loop none 19 [.agg [.e (.int .i64 3), .e (.int .i64 a0_1), .e (.int .i64 a0_2), .e (.int .i64 a0_3), .e (.int .i64 a0_4), .e (.bool
  a0_5), .e (.str a0_6), .e (.str a0_7), .e (.str a0_8), .e (.int .i64 a0_9), .e (.str a0_10), .e (.str a0_11), .e (.int .i64 a0_12), .e (.int .i64 a0_13), .e (.int .i64 a0_14), .e
  (.str a0_15), .e (.str a0_16), .e (.str a0_17), .e (.str a0_18), .e (.bool a0_19), .e (.sl 97 a0_20), .e (.str a0_21), .e (.str a0_22), .e (.int .i64 a0_23), .e (.bool a0_24), .e
  (.int .i64 a0_25), .e (.int .i64 a0_26), .e (.str a0_27), .e (.int .i64 a0_28), .e (.sl 97 a0_29)]] [] = (run none 17 [AV.agg [(num 3), AV.e (E.int IntKind.i64
  a0_1), (num a0_2), (num a0_3), (num a0_4), (yes a0_5), (str a0_6), (str a0_7), (str a0_8),
  (num a0_9), (str a0_10), (str a0_11), (num a0_12), (num a0_13), (num a0_14), AV.e (E.str
  a0_15), (str a0_16), (str a0_17), (str a0_18), (yes a0_19), AV.e (E.sl 97 a0_20), (str a0_21), (str a0_22), AV.e (E.int IntKind.i64
  a0_23), (yes a0_24), (num a0_25), (num a0_26), (str a0_27), (num a0_28), AV.e (E.sl 97 a0_29)]] []).bind
  fun rh => bif okHeap [] rh.2 then bif okRes PP 23 rh.fst then bif !rh.fst.val.data.toInt == 0 then some (Res.ret (AV.tup [(str []), AV.e (E.int IntKind.i64
  rh.fst.val.data.toInt)]), []) else (run none 40 [(num 3)] []).bind fun rh => bif okHeap [] rh.2 then bif okRes PP 9 rh.fst then bif decide
  (-9223372036854775808 ≤ a0_1) && decide (a0_1 ≤ 9223372036854775807) then bif decide (-9223372036854775808 ≤ a0_2) && decide (a0_2 ≤ 9223372036854775807) then (run none 14 [AV.e
  (E.str a0_18)] []).bind fun rh_1 => bif okHeap [] rh_1.2 then bif okRes PP 9 rh_1.fst then (run none 44 [(yes a0_19)] []).bind fun rh_2 => bif okHeap [] rh_2.2
  then bif okRes PP 9 rh_2.fst then (run none 45 [AV.e (E.sl 97 a0_20)] []).bind fun rh_3 => bif okHeap [] rh_3.2 then bif okRes PP 66 rh_3.fst then bif decide
  (((elems PP 9 1 3 [E.str (Lib.itoa a0_2), E.str (Lib.itoa a0_1), E.str rh.fst.val.data.toStr].reverse ++ (9, elems PP 9 1 4 [E.str rh_2.fst.val.data.toStr, E.str
  rh_1.fst.val.data.toStr, E.str a0_17, E.str a0_16].reverse).snd).length + rh_3.fst.val.data.toList.length) * 16 ≤ 140737488355328) then bif (elems PP 9 1 3 [E.str
  (Lib.itoa a0_2), E.str (Lib.itoa a0_1), E.str rh.fst.val.data.toStr].reverse ++ (9, elems PP 9 1 4 [E.str rh_2.fst.val.data.toStr, E.str rh_1.fst.val.data.toStr, E.str
  a0_17, E.str a0_16].reverse).snd ++ rh_3.fst.val.data.toList).all isStr && decide ((elems PP 9 1 3 [E.str (Lib.itoa a0_2), E.str (Lib.itoa a0_1), E.str
  rh.fst.val.data.toStr].reverse ++ (9, elems PP 9 1 4 [E.str rh_2.fst.val.data.toStr, E.str rh_1.fst.val.data.toStr, E.str a0_17, E.str a0_16].reverse).snd ++
  rh_3.fst.val.data.toList).length ≤ 140737488355328) && decide ((Lib.join (List.map E.toStr (elems PP 9 1 3 [E.str (Lib.itoa a0_2), E.str (Lib.itoa a0_1), E.str
  rh.fst.val.data.toStr].reverse ++ (9, elems PP 9 1 4 [E.str rh_2.fst.val.data.toStr, E.str rh_1.fst.val.data.toStr, E.str a0_17, E.str a0_16].reverse).snd ++
  rh_3.fst.val.data.toList)) ([32] : List UInt8)).length ≤ 140737488355328) then some (Res.ret (AV.tup [(str (Lib.join (List.map E.toStr (elems PP 9 1 3 [E.str
  (Lib.itoa a0_2), E.str (Lib.itoa a0_1), E.str rh.fst.val.data.toStr].reverse ++ (9, elems PP 9 1 4 [E.str rh_2.fst.val.data.toStr, E.str rh_1.fst.val.data.toStr, E.str
  a0_17, E.str a0_16].reverse).snd ++ rh_3.fst.val.data.toList)) ([32] : List UInt8))), (num 0)]), []) else none else none else none else none else none else
  none else none else none else none else none else none else none else none else none := by kernel_rfl
theorem eq_RequestK4 (run : RunF) (loop : LoopF) (a0_1 : Int) (a0_2 : Int) (a0_3 : Int) (a0_4 : Int) (a0_5 : Bool) (a0_6 : List UInt8) (a0_7 : List UInt8) (a0_8 : List UInt8) (a0_9
  : Int) (a0_10 : List UInt8) (a0_11 : List UInt8) (a0_12 : Int) (a0_13 : Int) (a0_14 : Int) (a0_15 : List UInt8) (a0_16 : List UInt8) (a0_17 : List UInt8) (a0_18 : List UInt8)
  (a0_19 : Bool) (a0_20 : List E) (a0_21 : List UInt8) (a0_22 : List UInt8) (a0_23 : Int) (a0_24 : Bool) (a0_25 : Int) (a0_26 : Int) (a0_27 : List UInt8) (a0_28 : Int) (a0_29 :
  List E) : bodyRun PP HH run loop none 19 [.agg [.e (.int .i64 4), .e (.int .i64 a0_1), .e (.int .i64 a0_2), .e (.int .i64 a0_3), .e (.int .i64 a0_4), .e (.bool
  a0_5), .e (.str a0_6), .e (.str a0_7), .e (.str a0_8), .e (.int .i64 a0_9), .e (.str a0_10), .e (.str a0_11), .e (.int .i64 a0_12), .e (.int .i64 a0_13), .e (.int .i64 a0_14), .e
  (.str a0_15), .e (.str a0_16), .e (.str a0_17), .e (.str a0_18), .e (.bool a0_19), .e (.sl 97 a0_20), .e (.str a0_21), .e (.str a0_22), .e (.int .i64 a0_23), .e (.bool a0_24), .e
  (.int .i64 a0_25), .e (.int .i64 a0_26), .e (.str a0_27), .e (.int .i64 a0_28), .e (.sl 97 a0_29)]] [] = (run none 17 [AV.agg [(num 4), AV.e (E.int IntKind.i64
  a0_1), (num a0_2), (num a0_3), (num a0_4), (yes a0_5), (str a0_6), (str a0_7), (str a0_8),
  (num a0_9), (str a0_10), (str a0_11), (num a0_12), (num a0_13), (num a0_14), AV.e (E.str
  a0_15), (str a0_16), (str a0_17), (str a0_18), (yes a0_19), AV.e (E.sl 97 a0_20), (str a0_21), (str a0_22), AV.e (E.int IntKind.i64
  a0_23), (yes a0_24), (num a0_25), (num a0_26), (str a0_27), (num a0_28), AV.e (E.sl 97 a0_29)]] []).bind
  fun rh => bif okHeap [] rh.2 then bif okRes PP 23 rh.fst then bif !rh.fst.val.data.toInt == 0 then some (Res.ret (AV.tup [(str []), AV.e (E.int IntKind.i64
  rh.fst.val.data.toInt)]), []) else (run none 40 [(num 4)] []).bind fun rh => bif okHeap [] rh.2 then bif okRes PP 9 rh.fst then bif decide
  (-9223372036854775808 ≤ a0_1) && decide (a0_1 ≤ 9223372036854775807) then bif decide (-9223372036854775808 ≤ a0_2) && decide (a0_2 ≤ 9223372036854775807) then (run none 14 [AV.e
  (E.str a0_18)] []).bind fun rh_1 => bif okHeap [] rh_1.2 then bif okRes PP 9 rh_1.fst then (run none 44 [(yes a0_19)] []).bind fun rh_2 => bif okHeap [] rh_2.2
  then bif okRes PP 9 rh_2.fst then (run none 45 [AV.e (E.sl 97 a0_20)] []).bind fun rh_3 => bif okHeap [] rh_3.2 then bif okRes PP 66 rh_3.fst then bif decide
  (((elems PP 9 1 3 [E.str (Lib.itoa a0_2), E.str (Lib.itoa a0_1), E.str rh.fst.val.data.toStr].reverse ++ (9, elems PP 9 1 4 [E.str rh_2.fst.val.data.toStr, E.str
  rh_1.fst.val.data.toStr, E.str a0_17, E.str a0_16].reverse).snd).length + rh_3.fst.val.data.toList.length) * 16 ≤ 140737488355328) then bif (elems PP 9 1 3 [E.str
  (Lib.itoa a0_2), E.str (Lib.itoa a0_1), E.str rh.fst.val.data.toStr].reverse ++ (9, elems PP 9 1 4 [E.str rh_2.fst.val.data.toStr, E.str rh_1.fst.val.data.toStr, E.str
  a0_17, E.str a0_16].reverse).snd ++ rh_3.fst.val.data.toList).all isStr && decide ((elems PP 9 1 3 [E.str (Lib.itoa a0_2), E.str (Lib.itoa a0_1), E.str
  rh.fst.val.data.toStr].reverse ++ (9, elems PP 9 1 4 [E.str rh_2.fst.val.data.toStr, E.str rh_1.fst.val.data.toStr, E.str a0_17, E.str a0_16].reverse).snd ++
  rh_3.fst.val.data.toList).length ≤ 140737488355328) && decide ((Lib.join (List.map E.toStr (elems PP 9 1 3 [E.str (Lib.itoa a0_2), E.str (Lib.itoa a0_1), E.str
  rh.fst.val.data.toStr].reverse ++ (9, elems PP 9 1 4 [E.str rh_2.fst.val.data.toStr, E.str rh_1.fst.val.data.toStr, E.str a0_17, E.str a0_16].reverse).snd ++
  rh_3.fst.val.data.toList)) ([32] : List UInt8)).length ≤ 140737488355328) then some (Res.ret (AV.tup [(str (Lib.join (List.map E.toStr (elems PP 9 1 3 [E.str
  (Lib.itoa a0_2), E.str (Lib.itoa a0_1), E.str rh.fst.val.data.toStr].reverse ++ (9, elems PP 9 1 4 [E.str rh_2.fst.val.data.toStr, E.str rh_1.fst.val.data.toStr, E.str
  a0_17, E.str a0_16].reverse).snd ++ rh_3.fst.val.data.toList)) ([32] : List UInt8))), (num 0)]), []) else none else none else none else none else none else
  none else none else none else none else none else none else none else none else none := by kernel_rfl
theorem eq_RequestK5 (run : RunF) (loop : LoopF) (a0_1 : Int) (a0_2 : Int) (a0_3 : Int) (a0_4 : Int) (a0_5 : Bool) (a0_6 : List UInt8) (a0_7 : List UInt8) (a0_8 : List UInt8) (a0_9
  : Int) (a0_10 : List UInt8) (a0_11 : List UInt8) (a0_12 : Int) (a0_13 : Int) (a0_14 : Int) (a0_15 : List UInt8) (a0_16 : List UInt8) (a0_17 : List UInt8) (a0_18 : List UInt8)
  (a0_19 : Bool) (a0_20 : List E) (a0_21 : List UInt8) (a0_22 : List UInt8) (a0_23 : Int) (a0_24 : Bool) (a0_25 : Int) (a0_26 : Int) (a0_27 : List UInt8) (a0_28 : Int) (a0_29 :
  List E) : bodyRun PP HH run loop none 19 [.agg [.e (.int .i64 5), .e (.int .i64 a0_1), .e (.int .i64 a0_2), .e (.int .i64 a0_3), .e (.int .i64 a0_4), .e (.bool
  a0_5), .e (.str a0_6), .e (.str a0_7), .e (.str a0_8), .e (.int .i64 a0_9), .e (.str a0_10), .e (.str a0_11), .e (.int .i64 a0_12), .e (.int .i64 a0_13), .e (.int .i64 a0_14), .e
  (.str a0_15), .e (.str a0_16), .e (.str a0_17), .e (.str a0_18), .e (.bool a0_19), .e (.sl 97 a0_20), .e (.str a0_21), .e (.str a0_22), .e (.int .i64 a0_23), .e (.bool a0_24), .e
  (.int .i64 a0_25), .e (.int .i64 a0_26), .e (.str a0_27), .e (.int .i64 a0_28), .e (.sl 97 a0_29)]] [] = (run none 17 [AV.agg [(num 5), AV.e (E.int IntKind.i64
  a0_1), (num a0_2), (num a0_3), (num a0_4), (yes a0_5), (str a0_6), (str a0_7), (str a0_8),
  (num a0_9), (str a0_10), (str a0_11), (num a0_12), (num a0_13), (num a0_14), AV.e (E.str
  a0_15), (str a0_16), (str a0_17), (str a0_18), (yes a0_19), AV.e (E.sl 97 a0_20), (str a0_21), (str a0_22), AV.e (E.int IntKind.i64
  a0_23), (yes a0_24), (num a0_25), (num a0_26), (str a0_27), (num a0_28), AV.e (E.sl 97 a0_29)]] []).bind
  fun rh => bif okHeap [] rh.2 then bif okRes PP 23 rh.fst then bif !rh.fst.val.data.toInt == 0 then some (Res.ret (AV.tup [(str []), AV.e (E.int IntKind.i64
  rh.fst.val.data.toInt)]), []) else (run none 40 [(num 5)] []).bind fun rh => bif okHeap [] rh.2 then bif okRes PP 9 rh.fst then bif decide
  (-9223372036854775808 ≤ a0_1) && decide (a0_1 ≤ 9223372036854775807) then bif decide (-9223372036854775808 ≤ a0_2) && decide (a0_2 ≤ 9223372036854775807) then (run none 43 [AV.e
  (E.str a0_6)] []).bind fun rh_1 => bif okHeap [] rh_1.2 then bif okRes PP 9 rh_1.fst then (run none 14 [(str a0_7)] []).bind fun rh_2 => bif okHeap [] rh_2.2 then
  bif okRes PP 9 rh_2.fst then (run none 46 [AV.agg [(str a0_21), (str a0_22), (num a0_23), (yes a0_24), AV.e (E.int IntKind.i64
  a0_25), (num a0_26), (str a0_27), (num a0_28), AV.e (E.sl 97 a0_29)]] []).bind fun rh_3 => bif okHeap [] rh_3.2 then bif okRes
  PP 66 rh_3.fst then bif decide (((elems PP 9 1 3 [E.str (Lib.itoa a0_2), E.str (Lib.itoa a0_1), E.str rh.fst.val.data.toStr].reverse ++ (9, elems PP 9 1 2
  [E.str rh_2.fst.val.data.toStr, E.str rh_1.fst.val.data.toStr].reverse).snd).length + rh_3.fst.val.data.toList.length) * 16 ≤ 140737488355328) then bif (elems PP 9 1 3
  [E.str (Lib.itoa a0_2), E.str (Lib.itoa a0_1), E.str rh.fst.val.data.toStr].reverse ++ (9, elems PP 9 1 2 [E.str rh_2.fst.val.data.toStr, E.str
  rh_1.fst.val.data.toStr].reverse).snd ++ rh_3.fst.val.data.toList).all isStr && decide ((elems PP 9 1 3 [E.str (Lib.itoa a0_2), E.str (Lib.itoa a0_1), E.str
  rh.fst.val.data.toStr].reverse ++ (9, elems PP 9 1 2 [E.str rh_2.fst.val.data.toStr, E.str rh_1.fst.val.data.toStr].reverse).snd ++ rh_3.fst.val.data.toList).length ≤
  140737488355328) && decide ((Lib.join (List.map E.toStr (elems PP 9 1 3 [E.str (Lib.itoa a0_2), E.str (Lib.itoa a0_1), E.str rh.fst.val.data.toStr].reverse ++ (9, elems
  PP 9 1 2 [E.str rh_2.fst.val.data.toStr, E.str rh_1.fst.val.data.toStr].reverse).snd ++ rh_3.fst.val.data.toList)) ([32] : List UInt8)).length ≤ 140737488355328) then some
  (Res.ret (AV.tup [(str (Lib.join (List.map E.toStr (elems PP 9 1 3 [E.str (Lib.itoa a0_2), E.str (Lib.itoa a0_1), E.str rh.fst.val.data.toStr].reverse ++ (9, elems
  PP 9 1 2 [E.str rh_2.fst.val.data.toStr, E.str rh_1.fst.val.data.toStr].reverse).snd ++ rh_3.fst.val.data.toList)) ([32] : List UInt8))), (num 0)]), [])
  else none else none else none else none else none else none else none else none else none else none else none else none else none else none := by kernel_rfl
theorem eq_RequestK6 (run : RunF) (loop : LoopF) (a0_1 : Int) (a0_2 : Int) (a0_3 : Int) (a0_4 : Int) (a0_5 : Bool) (a0_6 : List UInt8) (a0_7 : List UInt8) (a0_8 : List UInt8) (a0_9
  : Int) (a0_10 : List UInt8) (a0_11 : List UInt8) (a0_12 : Int) (a0_13 : Int) (a0_14 : Int) (a0_15 : List UInt8) (a0_16 : List UInt8) (a0_17 : List UInt8) (a0_18 : List UInt8)
  (a0_19 : Bool) (a0_20 : List E) (a0_21 : List UInt8) (a0_22 : List UInt8) (a0_23 : Int) (a0_24 : Bool) (a0_25 : Int) (a0_26 : Int) (a0_27 : List UInt8) (a0_28 : Int) (a0_29 :
  List E) : bodyRun PP HH run loop none 19 [.agg [.e (.int .i64 6), .e (.int .i64 a0_1), .e (.int .i64 a0_2), .e (.int .i64 a0_3), .e (.int .i64 a0_4), .e (.bool
  a0_5), .e (.str a0_6), .e (.str a0_7), .e (.str a0_8), .e (.int .i64 a0_9), .e (.str a0_10), .e (.str a0_11), .e (.int .i64 a0_12), .e (.int .i64 a0_13), .e (.int .i64 a0_14), .e
  (.str a0_15), .e (.str a0_16), .e (.str a0_17), .e (.str a0_18), .e (.bool a0_19), .e (.sl 97 a0_20), .e (.str a0_21), .e (.str a0_22), .e (.int .i64 a0_23), .e (.bool a0_24), .e
  (.int .i64 a0_25), .e (.int .i64 a0_26), .e (.str a0_27), .e (.int .i64 a0_28), .e (.sl 97 a0_29)]] [] = (run none 17 [AV.agg [(num 6), AV.e (E.int IntKind.i64
  a0_1), (num a0_2), (num a0_3), (num a0_4), (yes a0_5), (str a0_6), (str a0_7), (str a0_8),
  (num a0_9), (str a0_10), (str a0_11), (num a0_12), (num a0_13), (num a0_14), AV.e (E.str
  a0_15), (str a0_16), (str a0_17), (str a0_18), (yes a0_19), AV.e (E.sl 97 a0_20), (str a0_21), (str a0_22), AV.e (E.int IntKind.i64
  a0_23), (yes a0_24), (num a0_25), (num a0_26), (str a0_27), (num a0_28), AV.e (E.sl 97 a0_29)]] []).bind
  fun rh => bif okHeap [] rh.2 then bif okRes PP 23 rh.fst then bif !rh.fst.val.data.toInt == 0 then some (Res.ret (AV.tup [(str []), AV.e (E.int IntKind.i64
  rh.fst.val.data.toInt)]), []) else (run none 40 [(num 6)] []).bind fun rh => bif okHeap [] rh.2 then bif okRes PP 9 rh.fst then bif decide
  (-9223372036854775808 ≤ a0_1) && decide (a0_1 ≤ 9223372036854775807) then bif decide (-9223372036854775808 ≤ a0_2) && decide (a0_2 ≤ 9223372036854775807) then bif decide
  (-9223372036854775808 ≤ a0_3) && decide (a0_3 ≤ 9223372036854775807) then bif decide (-9223372036854775808 ≤ a0_4) && decide (a0_4 ≤ 9223372036854775807) then bif decide
  ((Lib.join (List.map E.toStr (elems PP 9 1 3 [E.str (Lib.itoa a0_2), E.str (Lib.itoa a0_1), E.str rh.fst.val.data.toStr].reverse ++ (9, elems PP 9 1 3 [E.str
  (Lib.itoa a0_4), E.str a0_6, E.str (Lib.itoa a0_3)].reverse).snd)) ([32] : List UInt8)).length ≤ 140737488355328) then some (Res.ret (AV.tup [(str (Lib.join (List.map
  E.toStr (elems PP 9 1 3 [E.str (Lib.itoa a0_2), E.str (Lib.itoa a0_1), E.str rh.fst.val.data.toStr].reverse ++ (9, elems PP 9 1 3 [E.str (Lib.itoa a0_4), E.str
  a0_6, E.str (Lib.itoa a0_3)].reverse).snd)) ([32] : List UInt8))), (num 0)]), []) else none else none else none else none else none else none else none else
  none else none := by kernel_rfl
theorem eq_RequestK7 (run : RunF) (loop : LoopF) (a0_1 : Int) (a0_2 : Int) (a0_3 : Int) (a0_4 : Int) (a0_5 : Bool) (a0_6 : List UInt8) (a0_7 : List UInt8) (a0_8 : List UInt8) (a0_9
  : Int) (a0_10 : List UInt8) (a0_11 : List UInt8) (a0_12 : Int) (a0_13 : Int) (a0_14 : Int) (a0_15 : List UInt8) (a0_16 : List UInt8) (a0_17 : List UInt8) (a0_18 : List UInt8)
  (a0_19 : Bool) (a0_20 : List E) (a0_21 : List UInt8) (a0_22 : List UInt8) (a0_23 : Int) (a0_24 : Bool) (a0_25 : Int) (a0_26 : Int) (a0_27 : List UInt8) (a0_28 : Int) (a0_29 :
  List E) : bodyRun PP HH run loop none 19 [.agg [.e (.int .i64 7), .e (.int .i64 a0_1), .e (.int .i64 a0_2), .e (.int .i64 a0_3), .e (.int .i64 a0_4), .e (.bool
  a0_5), .e (.str a0_6), .e (.str a0_7), .e (.str a0_8), .e (.int .i64 a0_9), .e (.str a0_10), .e (.str a0_11), .e (.int .i64 a0_12), .e (.int .i64 a0_13), .e (.int .i64 a0_14), .e
  (.str a0_15), .e (.str a0_16), .e (.str a0_17), .e (.str a0_18), .e (.bool a0_19), .e (.sl 97 a0_20), .e (.str a0_21), .e (.str a0_22), .e (.int .i64 a0_23), .e (.bool a0_24), .e
  (.int .i64 a0_25), .e (.int .i64 a0_26), .e (.str a0_27), .e (.int .i64 a0_28), .e (.sl 97 a0_29)]] [] = (run none 17 [AV.agg [(num 7), AV.e (E.int IntKind.i64
  a0_1), (num a0_2), (num a0_3), (num a0_4), (yes a0_5), (str a0_6), (str a0_7), (str a0_8),
  (num a0_9), (str a0_10), (str a0_11), (num a0_12), (num a0_13), (num a0_14), AV.e (E.str
  a0_15), (str a0_16), (str a0_17), (str a0_18), (yes a0_19), AV.e (E.sl 97 a0_20), (str a0_21), (str a0_22), AV.e (E.int IntKind.i64
  a0_23), (yes a0_24), (num a0_25), (num a0_26), (str a0_27), (num a0_28), AV.e (E.sl 97 a0_29)]] []).bind
  fun rh => bif okHeap [] rh.2 then bif okRes PP 23 rh.fst then bif !rh.fst.val.data.toInt == 0 then some (Res.ret (AV.tup [(str []), AV.e (E.int IntKind.i64
  rh.fst.val.data.toInt)]), []) else (run none 40 [(num 7)] []).bind fun rh => bif okHeap [] rh.2 then bif okRes PP 9 rh.fst then bif decide
  (-9223372036854775808 ≤ a0_1) && decide (a0_1 ≤ 9223372036854775807) then bif decide (-9223372036854775808 ≤ a0_2) && decide (a0_2 ≤ 9223372036854775807) then bif decide
  (-9223372036854775808 ≤ a0_3) && decide (a0_3 ≤ 9223372036854775807) then bif decide ((Lib.join (List.map E.toStr (elems PP 9 1 3 [E.str (Lib.itoa a0_2), E.str (Lib.itoa
  a0_1), E.str rh.fst.val.data.toStr].reverse ++ (9, [E.str (Lib.itoa a0_3)]).snd)) ([32] : List UInt8)).length ≤ 140737488355328) then some (Res.ret (AV.tup [(str (Lib.join
  (List.map E.toStr (elems PP 9 1 3 [E.str (Lib.itoa a0_2), E.str (Lib.itoa a0_1), E.str rh.fst.val.data.toStr].reverse ++ (9, [E.str (Lib.itoa a0_3)]).snd)) ([32] : List
  UInt8))), (num 0)]), []) else none else none else none else none else none else none else none else none := by kernel_rfl
theorem eq_RequestK8 (run : RunF) (loop : LoopF) (a0_1 : Int) (a0_2 : Int) (a0_3 : Int) (a0_4 : Int) (a0_5 : Bool) (a0_6 : List UInt8) (a0_7 : List UInt8) (a0_8 : List UInt8) (a0_9
  : Int) (a0_10 : List UInt8) (a0_11 : List UInt8) (a0_12 : Int) (a0_13 : Int) (a0_14 : Int) (a0_15 : List UInt8) (a0_16 : List UInt8) (a0_17 : List UInt8) (a0_18 : List UInt8)
  (a0_19 : Bool) (a0_20 : List E) (a0_21 : List UInt8) (a0_22 : List UInt8) (a0_23 : Int) (a0_24 : Bool) (a0_25 : Int) (a0_26 : Int) (a0_27 : List UInt8) (a0_28 : Int) (a0_29 :
  List E) : bodyRun PP HH run loop none 19 [.agg [.e (.int .i64 8), .e (.int .i64 a0_1), .e (.int .i64 a0_2), .e (.int .i64 a0_3), .e (.int .i64 a0_4), .e (.bool
  a0_5), .e (.str a0_6), .e (.str a0_7), .e (.str a0_8), .e (.int .i64 a0_9), .e (.str a0_10), .e (.str a0_11), .e (.int .i64 a0_12), .e (.int .i64 a0_13), .e (.int .i64 a0_14), .e
  (.str a0_15), .e (.str a0_16), .e (.str a0_17), .e (.str a0_18), .e (.bool a0_19), .e (.sl 97 a0_20), .e (.str a0_21), .e (.str a0_22), .e (.int .i64 a0_23), .e (.bool a0_24), .e
  (.int .i64 a0_25), .e (.int .i64 a0_26), .e (.str a0_27), .e (.int .i64 a0_28), .e (.sl 97 a0_29)]] [] = (run none 17 [AV.agg [(num 8), AV.e (E.int IntKind.i64
  a0_1), (num a0_2), (num a0_3), (num a0_4), (yes a0_5), (str a0_6), (str a0_7), (str a0_8),
  (num a0_9), (str a0_10), (str a0_11), (num a0_12), (num a0_13), (num a0_14), AV.e (E.str
  a0_15), (str a0_16), (str a0_17), (str a0_18), (yes a0_19), AV.e (E.sl 97 a0_20), (str a0_21), (str a0_22), AV.e (E.int IntKind.i64
  a0_23), (yes a0_24), (num a0_25), (num a0_26), (str a0_27), (num a0_28), AV.e (E.sl 97 a0_29)]] []).bind
  fun rh => bif okHeap [] rh.2 then bif okRes PP 23 rh.fst then bif !rh.fst.val.data.toInt == 0 then some (Res.ret (AV.tup [(str []), AV.e (E.int IntKind.i64
  rh.fst.val.data.toInt)]), []) else (run none 40 [(num 8)] []).bind fun rh => bif okHeap [] rh.2 then bif okRes PP 9 rh.fst then bif decide
  (-9223372036854775808 ≤ a0_1) && decide (a0_1 ≤ 9223372036854775807) then bif decide (-9223372036854775808 ≤ a0_2) && decide (a0_2 ≤ 9223372036854775807) then bif decide
  (-9223372036854775808 ≤ a0_3) && decide (a0_3 ≤ 9223372036854775807) then (run none 44 [(yes a0_5)] []).bind fun rh_1 => bif okHeap [] rh_1.2 then bif okRes PP 9
  rh_1.fst then bif decide ((Lib.join (List.map E.toStr (elems PP 9 1 3 [E.str (Lib.itoa a0_2), E.str (Lib.itoa a0_1), E.str rh.fst.val.data.toStr].reverse ++ (9, elems
  PP 9 1 2 [E.str rh_1.fst.val.data.toStr, E.str (Lib.itoa a0_3)].reverse).snd)) ([32] : List UInt8)).length ≤ 140737488355328) then some (Res.ret (AV.tup [AV.e (E.str
  (Lib.join (List.map E.toStr (elems PP 9 1 3 [E.str (Lib.itoa a0_2), E.str (Lib.itoa a0_1), E.str rh.fst.val.data.toStr].reverse ++ (9, elems PP 9 1 2 [E.str
  rh_1.fst.val.data.toStr, E.str (Lib.itoa a0_3)].reverse).snd)) ([32] : List UInt8))), (num 0)]), []) else none else none else none else none else none else
  none else none else none else none else none := by kernel_rfl
theorem eq_RequestK9 (run : RunF) (loop : LoopF) (a0_1 : Int) (a0_2 : Int) (a0_3 : Int) (a0_4 : Int) (a0_5 : Bool) (a0_6 : List UInt8) (a0_7 : List UInt8) (a0_8 : List UInt8) (a0_9
  : Int) (a0_10 : List UInt8) (a0_11 : List UInt8) (a0_12 : Int) (a0_13 : Int) (a0_14 : Int) (a0_15 : List UInt8) (a0_16 : List UInt8) (a0_17 : List UInt8) (a0_18 : List UInt8)
  (a0_19 : Bool) (a0_20 : List E) (a0_21 : List UInt8) (a0_22 : List UInt8) (a0_23 : Int) (a0_24 : Bool) (a0_25 : Int) (a0_26 : Int) (a0_27 : List UInt8) (a0_28 : Int) (a0_29 :
  List E) : bodyRun PP HH run loop none 19 [.agg [.e (.int .i64 9), .e (.int .i64 a0_1), .e (.int .i64 a0_2), .e (.int .i64 a0_3), .e (.int .i64 a0_4), .e (.bool
  a0_5), .e (.str a0_6), .e (.str a0_7), .e (.str a0_8), .e (.int .i64 a0_9), .e (.str a0_10), .e (.str a0_11), .e (.int .i64 a0_12), .e (.int .i64 a0_13), .e (.int .i64 a0_14), .e
  (.str a0_15), .e (.str a0_16), .e (.str a0_17), .e (.str a0_18), .e (.bool a0_19), .e (.sl 97 a0_20), .e (.str a0_21), .e (.str a0_22), .e (.int .i64 a0_23), .e (.bool a0_24), .e
  (.int .i64 a0_25), .e (.int .i64 a0_26), .e (.str a0_27), .e (.int .i64 a0_28), .e (.sl 97 a0_29)]] [] = (run none 17 [AV.agg [(num 9), AV.e (E.int IntKind.i64
  a0_1), (num a0_2), (num a0_3), (num a0_4), (yes a0_5), (str a0_6), (str a0_7), (str a0_8),
  (num a0_9), (str a0_10), (str a0_11), (num a0_12), (num a0_13), (num a0_14), AV.e (E.str
  a0_15), (str a0_16), (str a0_17), (str a0_18), (yes a0_19), AV.e (E.sl 97 a0_20), (str a0_21), (str a0_22), AV.e (E.int IntKind.i64
  a0_23), (yes a0_24), (num a0_25), (num a0_26), (str a0_27), (num a0_28), AV.e (E.sl 97 a0_29)]] []).bind
  fun rh => bif okHeap [] rh.2 then bif okRes PP 23 rh.fst then bif !rh.fst.val.data.toInt == 0 then some (Res.ret (AV.tup [(str []), AV.e (E.int IntKind.i64
  rh.fst.val.data.toInt)]), []) else (run none 40 [(num 9)] []).bind fun rh => bif okHeap [] rh.2 then bif okRes PP 9 rh.fst then bif decide
  (-9223372036854775808 ≤ a0_1) && decide (a0_1 ≤ 9223372036854775807) then bif decide (-9223372036854775808 ≤ a0_2) && decide (a0_2 ≤ 9223372036854775807) then bif decide
  (-9223372036854775808 ≤ a0_3) && decide (a0_3 ≤ 9223372036854775807) then (run none 44 [(yes a0_5)] []).bind fun rh_1 => bif okHeap [] rh_1.2 then bif okRes PP 9
  rh_1.fst then bif decide ((Lib.join (List.map E.toStr (elems PP 9 1 3 [E.str (Lib.itoa a0_2), E.str (Lib.itoa a0_1), E.str rh.fst.val.data.toStr].reverse ++ (9, elems
  PP 9 1 2 [E.str rh_1.fst.val.data.toStr, E.str (Lib.itoa a0_3)].reverse).snd)) ([32] : List UInt8)).length ≤ 140737488355328) then some (Res.ret (AV.tup [AV.e (E.str
  (Lib.join (List.map E.toStr (elems PP 9 1 3 [E.str (Lib.itoa a0_2), E.str (Lib.itoa a0_1), E.str rh.fst.val.data.toStr].reverse ++ (9, elems PP 9 1 2 [E.str
  rh_1.fst.val.data.toStr, E.str (Lib.itoa a0_3)].reverse).snd)) ([32] : List UInt8))), (num 0)]), []) else none else none else none else none else none else
  none else none else none else none else none := by kernel_rfl
theorem eq_RequestK10 (run : RunF) (loop : LoopF) (a0_1 : Int) (a0_2 : Int) (a0_3 : Int) (a0_4 : Int) (a0_5 : Bool) (a0_6 : List UInt8) (a0_7 : List UInt8) (a0_8 : List UInt8)
  (a0_9 : Int) (a0_10 : List UInt8) (a0_11 : List UInt8) (a0_12 : Int) (a0_13 : Int) (a0_14 : Int) (a0_15 : List UInt8) (a0_16 : List UInt8) (a0_17 : List UInt8) (a0_18 : List
  UInt8) (a0_19 : Bool) (a0_20 : List E) (a0_21 : List UInt8) (a0_22 : List UInt8) (a0_23 : Int) (a0_24 : Bool) (a0_25 : Int) (a0_26 : Int) (a0_27 : List UInt8) (a0_28 : Int)
  (a0_29 : List E) : bodyRun PP HH run loop none 19 [.agg [.e (.int .i64 10), .e (.int .i64 a0_1), .e (.int .i64 a0_2), .e (.int .i64 a0_3), .e (.int .i64 a0_4),
  .e (.bool a0_5), .e (.str a0_6), .e (.str a0_7), .e (.str a0_8), .e (.int .i64 a0_9), .e (.str a0_10), .e (.str a0_11), .e (.int .i64 a0_12), .e (.int .i64 a0_13), .e (.int .i64
  a0_14), .e (.str a0_15), .e (.str a0_16), .e (.str a0_17), .e (.str a0_18), .e (.bool a0_19), .e (.sl 97 a0_20), .e (.str a0_21), .e (.str a0_22), .e (.int .i64 a0_23), .e (.bool
  a0_24), .e (.int .i64 a0_25), .e (.int .i64 a0_26), .e (.str a0_27), .e (.int .i64 a0_28), .e (.sl 97 a0_29)]] [] = (run none 17 [AV.agg [(num 10), AV.e (E.int
  IntKind.i64 a0_1), (num a0_2), (num a0_3), (num a0_4), (yes a0_5), (str a0_6), (str a0_7), AV.e
  (E.str a0_8), (num a0_9), (str a0_10), (str a0_11), (num a0_12), (num a0_13), AV.e (E.int IntKind.i64
  a0_14), (str a0_15), (str a0_16), (str a0_17), (str a0_18), (yes a0_19), AV.e (E.sl 97 a0_20), (str a0_21), (str a0_22), AV.e
  (E.int IntKind.i64 a0_23), (yes a0_24), (num a0_25), (num a0_26), (str a0_27), (num a0_28), AV.e (E.sl 97
  a0_29)]] []).bind fun rh => bif okHeap [] rh.2 then bif okRes PP 23 rh.fst then bif !rh.fst.val.data.toInt == 0 then some (Res.ret (AV.tup [(str []), AV.e (E.int
  IntKind.i64 rh.fst.val.data.toInt)]), []) else (run none 40 [(num 10)] []).bind fun rh => bif okHeap [] rh.2 then bif okRes PP 9 rh.fst then bif decide
  (-9223372036854775808 ≤ a0_1) && decide (a0_1 ≤ 9223372036854775807) then bif decide (-9223372036854775808 ≤ a0_2) && decide (a0_2 ≤ 9223372036854775807) then bif decide
  ((Lib.join (List.map E.toStr (elems PP 9 1 3 [E.str (Lib.itoa a0_2), E.str (Lib.itoa a0_1), E.str rh.fst.val.data.toStr].reverse)) ([32] : List UInt8)).length ≤
  140737488355328) then some (Res.ret (AV.tup [(str (Lib.join (List.map E.toStr (elems PP 9 1 3 [E.str (Lib.itoa a0_2), E.str (Lib.itoa a0_1), E.str
  rh.fst.val.data.toStr].reverse)) ([32] : List UInt8))), (num 0)]), []) else none else none else none else none else none else none else none := by kernel_rfl
theorem eq_RequestK11 (run : RunF) (loop : LoopF) (a0_1 : Int) (a0_2 : Int) (a0_3 : Int) (a0_4 : Int) (a0_5 : Bool) (a0_6 : List UInt8) (a0_7 : List UInt8) (a0_8 : List UInt8)
  (a0_9 : Int) (a0_10 : List UInt8) (a0_11 : List UInt8) (a0_12 : Int) (a0_13 : Int) (a0_14 : Int) (a0_15 : List UInt8) (a0_16 : List UInt8) (a0_17 : List UInt8) (a0_18 : List
  UInt8) (a0_19 : Bool) (a0_20 : List E) (a0_21 : List UInt8) (a0_22 : List UInt8) (a0_23 : Int) (a0_24 : Bool) (a0_25 : Int) (a0_26 : Int) (a0_27 : List UInt8) (a0_28 : Int)
  (a0_29 : List E) : bodyRun PP HH run loop none 19 [.agg [.e (.int .i64 11), .e (.int .i64 a0_1), .e (.int .i64 a0_2), .e (.int .i64 a0_3), .e (.int .i64 a0_4),
  .e (.bool a0_5), .e (.str a0_6), .e (.str a0_7), .e (.str a0_8), .e (.int .i64 a0_9), .e (.str a0_10), .e (.str a0_11), .e (.int .i64 a0_12), .e (.int .i64 a0_13), .e (.int .i64
  a0_14), .e (.str a0_15), .e (.str a0_16), .e (.str a0_17), .e (.str a0_18), .e (.bool a0_19), .e (.sl 97 a0_20), .e (.str a0_21), .e (.str a0_22), .e (.int .i64 a0_23), .e (.bool
  a0_24), .e (.int .i64 a0_25), .e (.int .i64 a0_26), .e (.str a0_27), .e (.int .i64 a0_28), .e (.sl 97 a0_29)]] [] = (run none 17 [AV.agg [(num 11), AV.e (E.int
  IntKind.i64 a0_1), (num a0_2), (num a0_3), (num a0_4), (yes a0_5), (str a0_6), (str a0_7), AV.e
  (E.str a0_8), (num a0_9), (str a0_10), (str a0_11), (num a0_12), (num a0_13), AV.e (E.int IntKind.i64
  a0_14), (str a0_15), (str a0_16), (str a0_17), (str a0_18), (yes a0_19), AV.e (E.sl 97 a0_20), (str a0_21), (str a0_22), AV.e
  (E.int IntKind.i64 a0_23), (yes a0_24), (num a0_25), (num a0_26), (str a0_27), (num a0_28), AV.e (E.sl 97
  a0_29)]] []).bind fun rh => bif okHeap [] rh.2 then bif okRes PP 23 rh.fst then bif !rh.fst.val.data.toInt == 0 then some (Res.ret (AV.tup [(str []), AV.e (E.int
  IntKind.i64 rh.fst.val.data.toInt)]), []) else (run none 40 [(num 11)] []).bind fun rh => bif okHeap [] rh.2 then bif okRes PP 9 rh.fst then bif decide
  (-9223372036854775808 ≤ a0_1) && decide (a0_1 ≤ 9223372036854775807) then bif decide (-9223372036854775808 ≤ a0_2) && decide (a0_2 ≤ 9223372036854775807) then bif decide
  ((Lib.join (List.map E.toStr (elems PP 9 1 3 [E.str (Lib.itoa a0_2), E.str (Lib.itoa a0_1), E.str rh.fst.val.data.toStr].reverse)) ([32] : List UInt8)).length ≤
  140737488355328) then some (Res.ret (AV.tup [(str (Lib.join (List.map E.toStr (elems PP 9 1 3 [E.str (Lib.itoa a0_2), E.str (Lib.itoa a0_1), E.str
  rh.fst.val.data.toStr].reverse)) ([32] : List UInt8))), (num 0)]), []) else none else none else none else none else none else none else none := by kernel_rfl
theorem eq_RequestK12 (run : RunF) (loop : LoopF) (a0_1 : Int) (a0_2 : Int) (a0_3 : Int) (a0_4 : Int) (a0_5 : Bool) (a0_6 : List UInt8) (a0_7 : List UInt8) (a0_8 : List UInt8)
  (a0_9 : Int) (a0_10 : List UInt8) (a0_11 : List UInt8) (a0_12 : Int) (a0_13 : Int) (a0_14 : Int) (a0_15 : List UInt8) (a0_16 : List UInt8) (a0_17 : List UInt8) (a0_18 : List
  UInt8) (a0_19 : Bool) (a0_20 : List E) (a0_21 : List UInt8) (a0_22 : List UInt8) (a0_23 : Int) (a0_24 : Bool) (a0_25 : Int) (a0_26 : Int) (a0_27 : List UInt8) (a0_28 : Int)
  (a0_29 : List E) : bodyRun PP HH run loop none 19 [.agg [.e (.int .i64 12), .e (.int .i64 a0_1), .e (.int .i64 a0_2), .e (.int .i64 a0_3), .e (.int .i64 a0_4),
  .e (.bool a0_5), .e (.str a0_6), .e (.str a0_7), .e (.str a0_8), .e (.int .i64 a0_9), .e (.str a0_10), .e (.str a0_11), .e (.int .i64 a0_12), .e (.int .i64 a0_13), .e (.int .i64
  a0_14), .e (.str a0_15), .e (.str a0_16), .e (.str a0_17), .e (.str a0_18), .e (.bool a0_19), .e (.sl 97 a0_20), .e (.str a0_21), .e (.str a0_22), .e (.int .i64 a0_23), .e (.bool
  a0_24), .e (.int .i64 a0_25), .e (.int .i64 a0_26), .e (.str a0_27), .e (.int .i64 a0_28), .e (.sl 97 a0_29)]] [] = (run none 17 [AV.agg [(num 12), AV.e (E.int
  IntKind.i64 a0_1), (num a0_2), (num a0_3), (num a0_4), (yes a0_5), (str a0_6), (str a0_7), AV.e
  (E.str a0_8), (num a0_9), (str a0_10), (str a0_11), (num a0_12), (num a0_13), AV.e (E.int IntKind.i64
  a0_14), (str a0_15), (str a0_16), (str a0_17), (str a0_18), (yes a0_19), AV.e (E.sl 97 a0_20), (str a0_21), (str a0_22), AV.e
  (E.int IntKind.i64 a0_23), (yes a0_24), (num a0_25), (num a0_26), (str a0_27), (num a0_28), AV.e (E.sl 97
  a0_29)]] []).bind fun rh => bif okHeap [] rh.2 then bif okRes PP 23 rh.fst then bif !rh.fst.val.data.toInt == 0 then some (Res.ret (AV.tup [(str []), AV.e (E.int
  IntKind.i64 rh.fst.val.data.toInt)]), []) else (run none 40 [(num 12)] []).bind fun rh => bif okHeap [] rh.2 then bif okRes PP 9 rh.fst then bif decide
  (-9223372036854775808 ≤ a0_1) && decide (a0_1 ≤ 9223372036854775807) then bif decide (-9223372036854775808 ≤ a0_2) && decide (a0_2 ≤ 9223372036854775807) then bif decide
  ((Lib.join (List.map E.toStr (elems PP 9 1 3 [E.str (Lib.itoa a0_2), E.str (Lib.itoa a0_1), E.str rh.fst.val.data.toStr].reverse)) ([32] : List UInt8)).length ≤
  140737488355328) then some (Res.ret (AV.tup [(str (Lib.join (List.map E.toStr (elems PP 9 1 3 [E.str (Lib.itoa a0_2), E.str (Lib.itoa a0_1), E.str
  rh.fst.val.data.toStr].reverse)) ([32] : List UInt8))), (num 0)]), []) else none else none else none else none else none else none else none := by kernel_rfl
theorem eq_RequestK13 (run : RunF) (loop : LoopF) (a0_1 : Int) (a0_2 : Int) (a0_3 : Int) (a0_4 : Int) (a0_5 : Bool) (a0_6 : List UInt8) (a0_7 : List UInt8) (a0_8 : List UInt8)
  (a0_9 : Int) (a0_10 : List UInt8) (a0_11 : List UInt8) (a0_12 : Int) (a0_13 : Int) (a0_14 : Int) (a0_15 : List UInt8) (a0_16 : List UInt8) (a0_17 : List UInt8) (a0_18 : List
  UInt8) (a0_19 : Bool) (a0_20 : List E) (a0_21 : List UInt8) (a0_22 : List UInt8) (a0_23 : Int) (a0_24 : Bool) (a0_25 : Int) (a0_26 : Int) (a0_27 : List UInt8) (a0_28 : Int)
  (a0_29 : List E) : bodyRun PP HH run loop none 19 [.agg [.e (.int .i64 13), .e (.int .i64 a0_1), .e (.int .i64 a0_2), .e (.int .i64 a0_3), .e (.int .i64 a0_4),
  .e (.bool a0_5), .e (.str a0_6), .e (.str a0_7), .e (.str a0_8), .e (.int .i64 a0_9), .e (.str a0_10), .e (.str a0_11), .e (.int .i64 a0_12), .e (.int .i64 a0_13), .e (.int .i64
  a0_14), .e (.str a0_15), .e (.str a0_16), .e (.str a0_17), .e (.str a0_18), .e (.bool a0_19), .e (.sl 97 a0_20), .e (.str a0_21), .e (.str a0_22), .e (.int .i64 a0_23), .e (.bool
  a0_24), .e (.int .i64 a0_25), .e (.int .i64 a0_26), .e (.str a0_27), .e (.int .i64 a0_28), .e (.sl 97 a0_29)]] [] = (run none 17 [AV.agg [(num 13), AV.e (E.int
  IntKind.i64 a0_1), (num a0_2), (num a0_3), (num a0_4), (yes a0_5), (str a0_6), (str a0_7), AV.e
  (E.str a0_8), (num a0_9), (str a0_10), (str a0_11), (num a0_12), (num a0_13), AV.e (E.int IntKind.i64
  a0_14), (str a0_15), (str a0_16), (str a0_17), (str a0_18), (yes a0_19), AV.e (E.sl 97 a0_20), (str a0_21), (str a0_22), AV.e
  (E.int IntKind.i64 a0_23), (yes a0_24), (num a0_25), (num a0_26), (str a0_27), (num a0_28), AV.e (E.sl 97
  a0_29)]] []).bind fun rh => bif okHeap [] rh.2 then bif okRes PP 23 rh.fst then bif !rh.fst.val.data.toInt == 0 then some (Res.ret (AV.tup [(str []), AV.e (E.int
  IntKind.i64 rh.fst.val.data.toInt)]), []) else (run none 40 [(num 13)] []).bind fun rh => bif okHeap [] rh.2 then bif okRes PP 9 rh.fst then bif decide
  (-9223372036854775808 ≤ a0_1) && decide (a0_1 ≤ 9223372036854775807) then bif decide (-9223372036854775808 ≤ a0_2) && decide (a0_2 ≤ 9223372036854775807) then bif decide
  ((Lib.join (List.map E.toStr (elems PP 9 1 3 [E.str (Lib.itoa a0_2), E.str (Lib.itoa a0_1), E.str rh.fst.val.data.toStr].reverse ++ (9, [E.str a0_6]).snd)) ([32] : List
  UInt8)).length ≤ 140737488355328) then some (Res.ret (AV.tup [(str (Lib.join (List.map E.toStr (elems PP 9 1 3 [E.str (Lib.itoa a0_2), E.str (Lib.itoa a0_1), E.str
  rh.fst.val.data.toStr].reverse ++ (9, [E.str a0_6]).snd)) ([32] : List UInt8))), (num 0)]), []) else none else none else none else none else none else none
  else none := by kernel_rfl
theorem eq_RequestK14 (run : RunF) (loop : LoopF) (a0_1 : Int) (a0_2 : Int) (a0_3 : Int) (a0_4 : Int) (a0_5 : Bool) (a0_6 : List UInt8) (a0_7 : List UInt8) (a0_8 : List UInt8)
  (a0_9 : Int) (a0_10 : List UInt8) (a0_11 : List UInt8) (a0_12 : Int) (a0_13 : Int) (a0_14 : Int) (a0_15 : List UInt8) (a0_16 : List UInt8) (a0_17 : List UInt8) (a0_18 : List
  UInt8) (a0_19 : Bool) (a0_20 : List E) (a0_21 : List UInt8) (a0_22 : List UInt8) (a0_23 : Int) (a0_24 : Bool) (a0_25 : Int) (a0_26 : Int) (a0_27 : List UInt8) (a0_28 : Int)
  (a0_29 : List E) : bodyRun PP HH run loop none 19 [.agg [.e (.int .i64 14), .e (.int .i64 a0_1), .e (.int .i64 a0_2), .e (.int .i64 a0_3), .e (.int .i64 a0_4),
  .e (.bool a0_5), .e (.str a0_6), .e (.str a0_7), .e (.str a0_8), .e (.int .i64 a0_9), .e (.str a0_10), .e (.str a0_11), .e (.int .i64 a0_12), .e (.int .i64 a0_13), .e (.int .i64
  a0_14), .e (.str a0_15), .e (.str a0_16), .e (.str a0_17), .e (.str a0_18), .e (.bool a0_19), .e (.sl 97 a0_20), .e (.str a0_21), .e (.str a0_22), .e (.int .i64 a0_23), .e (.bool
  a0_24), .e (.int .i64 a0_25), .e (.int .i64 a0_26), .e (.str a0_27), .e (.int .i64 a0_28), .e (.sl 97 a0_29)]] [] = (run none 17 [AV.agg [(num 14), AV.e (E.int
  IntKind.i64 a0_1), (num a0_2), (num a0_3), (num a0_4), (yes a0_5), (str a0_6), (str a0_7), AV.e
  (E.str a0_8), (num a0_9), (str a0_10), (str a0_11), (num a0_12), (num a0_13), AV.e (E.int IntKind.i64
  a0_14), (str a0_15), (str a0_16), (str a0_17), (str a0_18), (yes a0_19), AV.e (E.sl 97 a0_20), (str a0_21), (str a0_22), AV.e
  (E.int IntKind.i64 a0_23), (yes a0_24), (num a0_25), (num a0_26), (str a0_27), (num a0_28), AV.e (E.sl 97
  a0_29)]] []).bind fun rh => bif okHeap [] rh.2 then bif okRes PP 23 rh.fst then bif !rh.fst.val.data.toInt == 0 then some (Res.ret (AV.tup [(str []), AV.e (E.int
  IntKind.i64 rh.fst.val.data.toInt)]), []) else (run none 40 [(num 14)] []).bind fun rh => bif okHeap [] rh.2 then bif okRes PP 9 rh.fst then bif decide
  (-9223372036854775808 ≤ a0_1) && decide (a0_1 ≤ 9223372036854775807) then bif decide (-9223372036854775808 ≤ a0_2) && decide (a0_2 ≤ 9223372036854775807) then bif decide
  ((Lib.join (List.map E.toStr (elems PP 9 1 3 [E.str (Lib.itoa a0_2), E.str (Lib.itoa a0_1), E.str rh.fst.val.data.toStr].reverse ++ (9, [E.str a0_6]).snd)) ([32] : List
  UInt8)).length ≤ 140737488355328) then some (Res.ret (AV.tup [(str (Lib.join (List.map E.toStr (elems PP 9 1 3 [E.str (Lib.itoa a0_2), E.str (Lib.itoa a0_1), E.str
  rh.fst.val.data.toStr].reverse ++ (9, [E.str a0_6]).snd)) ([32] : List UInt8))), (num 0)]), []) else none else none else none else none else none else none
  else none := by kernel_rfl
theorem eq_RequestK15 (run : RunF) (loop : LoopF) (a0_1 : Int) (a0_2 : Int) (a0_3 : Int) (a0_4 : Int) (a0_5 : Bool) (a0_6 : List UInt8) (a0_7 : List UInt8) (a0_8 : List UInt8)
  (a0_9 : Int) (a0_10 : List UInt8) (a0_11 : List UInt8) (a0_12 : Int) (a0_13 : Int) (a0_14 : Int) (a0_15 : List UInt8) (a0_16 : List UInt8) (a0_17 : List UInt8) (a0_18 : List
  UInt8) (a0_19 : Bool) (a0_20 : List E) (a0_21 : List UInt8) (a0_22 : List UInt8) (a0_23 : Int) (a0_24 : Bool) (a0_25 : Int) (a0_26 : Int) (a0_27 : List UInt8) (a0_28 : Int)
  (a0_29 : List E) : bodyRun PP HH run loop none 19 [.agg [.e (.int .i64 15), .e (.int .i64 a0_1), .e (.int .i64 a0_2), .e (.int .i64 a0_3), .e (.int .i64 a0_4),
  .e (.bool a0_5), .e (.str a0_6), .e (.str a0_7), .e (.str a0_8), .e (.int .i64 a0_9), .e (.str a0_10), .e (.str a0_11), .e (.int .i64 a0_12), .e (.int .i64 a0_13), .e (.int .i64
  a0_14), .e (.str a0_15), .e (.str a0_16), .e (.str a0_17), .e (.str a0_18), .e (.bool a0_19), .e (.sl 97 a0_20), .e (.str a0_21), .e (.str a0_22), .e (.int .i64 a0_23), .e (.bool
  a0_24), .e (.int .i64 a0_25), .e (.int .i64 a0_26), .e (.str a0_27), .e (.int .i64 a0_28), .e (.sl 97 a0_29)]] [] = (run none 17 [AV.agg [(num 15), AV.e (E.int
  IntKind.i64 a0_1), (num a0_2), (num a0_3), (num a0_4), (yes a0_5), (str a0_6), (str a0_7), AV.e
  (E.str a0_8), (num a0_9), (str a0_10), (str a0_11), (num a0_12), (num a0_13), AV.e (E.int IntKind.i64
  a0_14), (str a0_15), (str a0_16), (str a0_17), (str a0_18), (yes a0_19), AV.e (E.sl 97 a0_20), (str a0_21), (str a0_22), AV.e
  (E.int IntKind.i64 a0_23), (yes a0_24), (num a0_25), (num a0_26), (str a0_27), (num a0_28), AV.e (E.sl 97
  a0_29)]] []).bind fun rh => bif okHeap [] rh.2 then bif okRes PP 23 rh.fst then bif !rh.fst.val.data.toInt == 0 then some (Res.ret (AV.tup [(str []), AV.e (E.int
  IntKind.i64 rh.fst.val.data.toInt)]), []) else (run none 40 [(num 15)] []).bind fun rh => bif okHeap [] rh.2 then bif okRes PP 9 rh.fst then bif decide
  (-9223372036854775808 ≤ a0_1) && decide (a0_1 ≤ 9223372036854775807) then bif decide (-9223372036854775808 ≤ a0_2) && decide (a0_2 ≤ 9223372036854775807) then bif decide
  ((Lib.join (List.map E.toStr (elems PP 9 1 3 [E.str (Lib.itoa a0_2), E.str (Lib.itoa a0_1), E.str rh.fst.val.data.toStr].reverse ++ (9, [E.str a0_6]).snd)) ([32] : List
  UInt8)).length ≤ 140737488355328) then some (Res.ret (AV.tup [(str (Lib.join (List.map E.toStr (elems PP 9 1 3 [E.str (Lib.itoa a0_2), E.str (Lib.itoa a0_1), E.str
  rh.fst.val.data.toStr].reverse ++ (9, [E.str a0_6]).snd)) ([32] : List UInt8))), (num 0)]), []) else none else none else none else none else none else none
  else none := by kernel_rfl
end Go.Proofs.YtmocefjnplmibaaGreatDoor
