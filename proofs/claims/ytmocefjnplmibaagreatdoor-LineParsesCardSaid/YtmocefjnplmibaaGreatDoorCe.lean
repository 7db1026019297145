/- The equations of functions, as a program of mine prints them. -/
import Derived.Test.YtmocefjnplmibaaGreatDoorBase
namespace Go.Proofs.YtmocefjnplmibaaGreatDoor
open Go Go.Den
set_option maxRecDepth 100000
set_option maxHeartbeats 0

theorem eq_Check (run : RunF) (loop : LoopF) (a0_0 a0_1 a0_2 a0_3 a0_4 : Int) (a0_5 : Bool) (a0_6 a0_7 a0_8 : List UInt8) (a0_9 : Int) (a0_10 a0_11 : List UInt8) (a0_12 a0_13
  a0_14 : Int) (a0_15 a0_16 a0_17 a0_18 : List UInt8) (a0_19 : Bool) (a0_20 : List E) (a0_21 a0_22 : List UInt8) (a0_23 : Int) (a0_24 : Bool) (a0_25 a0_26 : Int) (a0_27 : List
  UInt8) (a0_28 : Int) (a0_29 : List E) : bodyRun PP HH run loop none 17 [.agg [num a0_0, num a0_1, num a0_2, num a0_3, num a0_4, yes a0_5, str a0_6, str a0_7, str a0_8, num
  a0_9, str a0_10, str a0_11, num a0_12, num a0_13, num a0_14, str a0_15, str a0_16, str a0_17, str a0_18, yes a0_19, .e (.sl 97 a0_20), str a0_21, str a0_22, num a0_23, yes
  a0_24, num a0_25, num a0_26, str a0_27, num a0_28, .e (.sl 97 a0_29)]] [] = (run none 32 [num a0_0, num 1, num 15] []).bind fun rh => bif okHeap [] rh.2 then bif okRes PP 4
  rh.fst then bif !rh.fst.val.data.toBool then some (Res.ret (num 10), []) else (loop 17 0 lc_17_4 ([uu, AV.ptr 0 0] ++ List.replicate 16 uu ++ [AV.own 1 3 (elems PP 3 1 4
  [E.int IntKind.i64 a0_4, E.int IntKind.i64 a0_3, E.int IntKind.i64 a0_2, E.int IntKind.i64 a0_1].reverse), (num (↑(elems PP 3 1 4 [E.int IntKind.i64 a0_4, E.int IntKind.i64
  a0_3, E.int IntKind.i64 a0_2, E.int IntKind.i64 a0_1].reverse).length : Int)), num 0] ++ List.replicate 17 uu) [Ob.box [num a0_0, num a0_1, num a0_2, num a0_3, num a0_4, yes
  a0_5, str a0_6, str a0_7, str a0_8, num a0_9, str a0_10, str a0_11, num a0_12, num a0_13, num a0_14, str a0_15, str a0_16, str a0_17, str a0_18, yes a0_19, AV.e (E.sl 97
  a0_20), str a0_21, str a0_22, num a0_23, yes a0_24, num a0_25, num a0_26, str a0_27, num a0_28, AV.e (E.sl 97 a0_29)], Ob.vec 3 4]).bind fun o => bif o.ex.isWay (Way.exit 0)
  then bif okFr ([uu, AV.ptr 0 0] ++ List.replicate 36 uu) o.2 && okHeap [Ob.box [num 0, num 0, num 0, num 0, num 0, yes false, str [], str [], str [], num 0, str [], str [],
  num 0, num 0, num 0, str [], str [], str [], str [], yes false, AV.e (E.sl 97 []), str [], str [], num 0, yes false, num 0, num 0, str [], num 0, AV.e (E.sl 97 [])]] o.3
  then (run none 33 [AV.agg [(num ((o.hp.ob 0).cell 0).data.toInt), (num ((o.hp.ob 0).cell 1).data.toInt), (num ((o.hp.ob 0).cell 2).data.toInt), (num ((o.hp.ob 0).cell
  3).data.toInt), (num ((o.hp.ob 0).cell 4).data.toInt), (yes ((o.hp.ob 0).cell 5).data.toBool), (str ((o.hp.ob 0).cell 6).data.toStr), (str ((o.hp.ob 0).cell 7).data.toStr),
  (str ((o.hp.ob 0).cell 8).data.toStr), (num ((o.hp.ob 0).cell 9).data.toInt), (str ((o.hp.ob 0).cell 10).data.toStr), (str ((o.hp.ob 0).cell 11).data.toStr), (num ((o.hp.ob
  0).cell 12).data.toInt), (num ((o.hp.ob 0).cell 13).data.toInt), (num ((o.hp.ob 0).cell 14).data.toInt), (str ((o.hp.ob 0).cell 15).data.toStr), (str ((o.hp.ob 0).cell
  16).data.toStr), (str ((o.hp.ob 0).cell 17).data.toStr), (str ((o.hp.ob 0).cell 18).data.toStr), (yes ((o.hp.ob 0).cell 19).data.toBool), AV.e (E.sl 97 ((o.hp.ob 0).cell
  20).data.toList), (str ((o.hp.ob 0).cell 21).data.toStr), (str ((o.hp.ob 0).cell 22).data.toStr), (num ((o.hp.ob 0).cell 23).data.toInt), (yes ((o.hp.ob 0).cell
  24).data.toBool), (num ((o.hp.ob 0).cell 25).data.toInt), (num ((o.hp.ob 0).cell 26).data.toInt), (str ((o.hp.ob 0).cell 27).data.toStr), (num ((o.hp.ob 0).cell
  28).data.toInt), AV.e (E.sl 97 ((o.hp.ob 0).cell 29).data.toList)]] []).bind fun rh => bif okHeap [] rh.2 then bif okRes PP 23 rh.fst then bif !rh.fst.val.data.toInt == 0
  then some (Res.ret ((num rh.fst.val.data.toInt)), []) else (run none 35 [AV.agg [(num ((o.hp.ob 0).cell 0).data.toInt), (num ((o.hp.ob 0).cell 1).data.toInt), (num ((o.hp.ob
  0).cell 2).data.toInt), (num ((o.hp.ob 0).cell 3).data.toInt), (num ((o.hp.ob 0).cell 4).data.toInt), (yes ((o.hp.ob 0).cell 5).data.toBool), (str ((o.hp.ob 0).cell
  6).data.toStr), (str ((o.hp.ob 0).cell 7).data.toStr), (str ((o.hp.ob 0).cell 8).data.toStr), (num ((o.hp.ob 0).cell 9).data.toInt), (str ((o.hp.ob 0).cell 10).data.toStr),
  (str ((o.hp.ob 0).cell 11).data.toStr), (num ((o.hp.ob 0).cell 12).data.toInt), (num ((o.hp.ob 0).cell 13).data.toInt), (num ((o.hp.ob 0).cell 14).data.toInt), (str
  ((o.hp.ob 0).cell 15).data.toStr), (str ((o.hp.ob 0).cell 16).data.toStr), (str ((o.hp.ob 0).cell 17).data.toStr), (str ((o.hp.ob 0).cell 18).data.toStr), (yes ((o.hp.ob
  0).cell 19).data.toBool), AV.e (E.sl 97 ((o.hp.ob 0).cell 20).data.toList), (str ((o.hp.ob 0).cell 21).data.toStr), (str ((o.hp.ob 0).cell 22).data.toStr), (num ((o.hp.ob
  0).cell 23).data.toInt), (yes ((o.hp.ob 0).cell 24).data.toBool), (num ((o.hp.ob 0).cell 25).data.toInt), (num ((o.hp.ob 0).cell 26).data.toInt), (str ((o.hp.ob 0).cell
  27).data.toStr), (num ((o.hp.ob 0).cell 28).data.toInt), AV.e (E.sl 97 ((o.hp.ob 0).cell 29).data.toList)]] []).bind fun rh => bif okHeap [] rh.2 then bif okRes PP 39 rh.fst
  then (run none 34 [AV.agg [(num ((o.hp.ob 0).cell 0).data.toInt), (num ((o.hp.ob 0).cell 1).data.toInt), (num ((o.hp.ob 0).cell 2).data.toInt), (num ((o.hp.ob 0).cell
  3).data.toInt), (num ((o.hp.ob 0).cell 4).data.toInt), (yes ((o.hp.ob 0).cell 5).data.toBool), (str ((o.hp.ob 0).cell 6).data.toStr), (str ((o.hp.ob 0).cell 7).data.toStr),
  (str ((o.hp.ob 0).cell 8).data.toStr), (num ((o.hp.ob 0).cell 9).data.toInt), (str ((o.hp.ob 0).cell 10).data.toStr), (str ((o.hp.ob 0).cell 11).data.toStr), (num ((o.hp.ob
  0).cell 12).data.toInt), (num ((o.hp.ob 0).cell 13).data.toInt), (num ((o.hp.ob 0).cell 14).data.toInt), (str ((o.hp.ob 0).cell 15).data.toStr), (str ((o.hp.ob 0).cell
  16).data.toStr), (str ((o.hp.ob 0).cell 17).data.toStr), (str ((o.hp.ob 0).cell 18).data.toStr), (yes ((o.hp.ob 0).cell 19).data.toBool), AV.e (E.sl 97 ((o.hp.ob 0).cell
  20).data.toList), (str ((o.hp.ob 0).cell 21).data.toStr), (str ((o.hp.ob 0).cell 22).data.toStr), (num ((o.hp.ob 0).cell 23).data.toInt), (yes ((o.hp.ob 0).cell
  24).data.toBool), (num ((o.hp.ob 0).cell 25).data.toInt), (num ((o.hp.ob 0).cell 26).data.toInt), (str ((o.hp.ob 0).cell 27).data.toStr), (num ((o.hp.ob 0).cell
  28).data.toInt), AV.e (E.sl 97 ((o.hp.ob 0).cell 29).data.toList)], AV.agg [(num (rh.fst.val.data.cell 0).toInt), (num (rh.fst.val.data.cell 1).toInt), (num
  (rh.fst.val.data.cell 2).toInt), (num (rh.fst.val.data.cell 3).toInt), (num (rh.fst.val.data.cell 4).toInt), (yes (rh.fst.val.data.cell 5).toBool), (str
  (rh.fst.val.data.cell 6).toStr), (str (rh.fst.val.data.cell 7).toStr), (str (rh.fst.val.data.cell 8).toStr), (num (rh.fst.val.data.cell 9).toInt), (str (rh.fst.val.data.cell
  10).toStr), (str (rh.fst.val.data.cell 11).toStr), (num (rh.fst.val.data.cell 12).toInt), (num (rh.fst.val.data.cell 13).toInt), (num (rh.fst.val.data.cell 14).toInt), (str
  (rh.fst.val.data.cell 15).toStr), (str (rh.fst.val.data.cell 16).toStr), (str (rh.fst.val.data.cell 17).toStr), (str (rh.fst.val.data.cell 18).toStr), (yes
  (rh.fst.val.data.cell 19).toBool), AV.e (E.sl 97 (rh.fst.val.data.cell 20).toList), (str (rh.fst.val.data.cell 21).toStr), (str (rh.fst.val.data.cell 22).toStr), (num
  (rh.fst.val.data.cell 23).toInt), (yes (rh.fst.val.data.cell 24).toBool), (num (rh.fst.val.data.cell 25).toInt), (num (rh.fst.val.data.cell 26).toInt), (str
  (rh.fst.val.data.cell 27).toStr), (num (rh.fst.val.data.cell 28).toInt), AV.e (E.sl 97 (rh.fst.val.data.cell 29).toList)]] []).bind fun rh => bif okHeap [] rh.2 then bif
  okRes PP 4 rh.fst then bif !rh.fst.val.data.toBool then some (Res.ret ((num 28)), []) else some (Res.ret ((num 0)), []) else none else none else none else none else none
  else none else none else bif o.ex.isWay Way.ret then bif okFr ([uu, uu, num 0] ++ List.replicate 35 uu) o.2 && okHeap [] o.3 then some (Res.ret ((num (List.getD o.fr 2
  uu).data.toInt)), []) else none else none else none else none := by kernel_rfl
theorem eq_CheckL4 (run : RunF) (loop : LoopF) (t18 : List E) (t19 t20 t1_0 t1_1 t1_2 t1_3 t1_4 : Int) (t1_5 : Bool) (t1_6 t1_7 t1_8 : List UInt8) (t1_9 : Int) (t1_10 t1_11 :
  List UInt8) (t1_12 t1_13 t1_14 : Int) (t1_15 t1_16 t1_17 t1_18 : List UInt8) (t1_19 : Bool) (t1_20 : List E) (t1_21 t1_22 : List UInt8) (t1_23 : Int) (t1_24 : Bool) (t1_25
  t1_26 : Int) (t1_27 : List UInt8) (t1_28 : Int) (t1_29 : List E) : bodyLoop PP HH run loop 17 0 lc_17_4 (((((List.replicate 38 uu).set 1 (.ptr 0 0)).set 18 (.own 1 3
  t18)).set 19 (num t19)).set 20 (num t20)) [.box [num t1_0, num t1_1, num t1_2, num t1_3, num t1_4, yes t1_5, str t1_6, str t1_7, str t1_8, num t1_9, str t1_10, str t1_11,
  num t1_12, num t1_13, num t1_14, str t1_15, str t1_16, str t1_17, str t1_18, yes t1_19, .e (.sl 97 t1_20), str t1_21, str t1_22, num t1_23, yes t1_24, num t1_25, num t1_26,
  str t1_27, num t1_28, .e (.sl 97 t1_29)], .vec 3 t18.length] = bif decide (t20 < t19) then bif decide (0 ≤ t20) && decide (t20 < (↑t18.length : Int)) then (run none 32 [(num
  ((t18.getD t20.toNat E.nili).cell 0).toInt), num 0, num 1099511627776] []).bind fun rh => bif okHeap [] rh.2 then bif okRes PP 4 rh.fst then bif !rh.fst.val.data.toBool then
  some (Out.mk (Ex.ret) (([uu, uu, num 1] ++ List.replicate 35 uu)) ([]) ([])) else (loop 17 0 lc_17_4 ([uu, AV.ptr 0 0] ++ List.replicate 16 uu ++ [AV.own 1 3 t18, num t19,
  (num (IntKind.i64.wrap (t20 + 1)))] ++ List.replicate 17 uu) [Ob.box [num t1_0, num t1_1, num t1_2, num t1_3, num t1_4, yes t1_5, str t1_6, str t1_7, str t1_8, num t1_9, str
  t1_10, str t1_11, num t1_12, num t1_13, num t1_14, str t1_15, str t1_16, str t1_17, str t1_18, yes t1_19, AV.e (E.sl 97 t1_20), str t1_21, str t1_22, num t1_23, yes t1_24,
  num t1_25, num t1_26, str t1_27, num t1_28, AV.e (E.sl 97 t1_29)], Ob.vec 3 t18.length]).bind fun o => some o else none else none else none else some (Out.mk (Ex.exit 0)
  (([uu, AV.ptr 0 0] ++ List.replicate 36 uu)) ([Ob.box [num t1_0, num t1_1, num t1_2, num t1_3, num t1_4, yes t1_5, str t1_6, str t1_7, str t1_8, num t1_9, str t1_10, str
  t1_11, num t1_12, num t1_13, num t1_14, str t1_15, str t1_16, str t1_17, str t1_18, yes t1_19, AV.e (E.sl 97 t1_20), str t1_21, str t1_22, num t1_23, yes t1_24, num t1_25,
  num t1_26, str t1_27, num t1_28, AV.e (E.sl 97 t1_29)]]) ([])) := by kernel_rfl
theorem eq_isB (run : RunF) (loop : LoopF) (a0 a1 a2 : Int) : bodyRun PP HH run loop none 32 [num a0, num a1, num a2] [] = some (Res.ret ((yes (bif decide (a1 ≤ a0) then
  decide (a0 ≤ a2) else false))), []) := by kernel_rfl
theorem eq_fieldsE (run : RunF) (loop : LoopF) (a0_0 a0_1 a0_2 a0_3 a0_4 : Int) (a0_5 : Bool) (a0_6 a0_7 a0_8 : List UInt8) (a0_9 : Int) (a0_10 a0_11 : List UInt8) (a0_12
  a0_13 a0_14 : Int) (a0_15 a0_16 a0_17 a0_18 : List UInt8) (a0_19 : Bool) (a0_20 : List E) (a0_21 a0_22 : List UInt8) (a0_23 : Int) (a0_24 : Bool) (a0_25 a0_26 : Int) (a0_27
  : List UInt8) (a0_28 : Int) (a0_29 : List E) : bodyRun PP HH run loop none 33 [.agg [num a0_0, num a0_1, num a0_2, num a0_3, num a0_4, yes a0_5, str a0_6, str a0_7, str
  a0_8, num a0_9, str a0_10, str a0_11, num a0_12, num a0_13, num a0_14, str a0_15, str a0_16, str a0_17, str a0_18, yes a0_19, .e (.sl 97 a0_20), str a0_21, str a0_22, num
  a0_23, yes a0_24, num a0_25, num a0_26, str a0_27, num a0_28, .e (.sl 97 a0_29)]] [] = bif a0_0 == 1 then (run none 71 [AV.agg [str a0_8, num a0_9, str a0_10]] []).bind fun
  rh => bif okHeap [] rh.2 then bif okRes PP 23 rh.fst then some (Res.ret (num rh.fst.val.data.toInt), []) else none else none else bif a0_0 == 2 then (run none 72 [AV.agg
  [str a0_11, num a0_12, num a0_13, num a0_14, str a0_15]] []).bind fun rh => bif okHeap [] rh.2 then bif okRes PP 23 rh.fst then some (Res.ret (num rh.fst.val.data.toInt),
  []) else none else none else bif a0_0 == 3 then bif a0_0 == 3 then (run none 73 [str a0_16] []).bind fun rh => bif okHeap [] rh.2 then bif okRes PP 4 rh.fst then bif
  (!rh.fst.val.data.toBool) == false then (run none 73 [str a0_17] []).bind fun rh => bif okHeap [] rh.2 then bif okRes PP 4 rh.fst then bif !rh.fst.val.data.toBool then some
  (Res.ret ((num 11)), []) else (run none 74 [str a0_18] []).bind fun rh => bif okHeap [] rh.2 then bif okRes PP 23 rh.fst then bif !rh.fst.val.data.toInt == 0 then some
  (Res.ret ((num rh.fst.val.data.toInt)), []) else (run none 75 [AV.e (E.sl 97 a0_20)] []).bind fun rh => bif okHeap [] rh.2 then bif okRes PP 23 rh.fst then some (Res.ret
  ((num rh.fst.val.data.toInt)), []) else none else none else none else none else none else none else some (Res.ret ((num 11)), []) else none else none else bif a0_0 == 5 then
  (run none 76 [str a0_6] []).bind fun rh => bif okHeap [] rh.2 then bif okRes PP 4 rh.fst then bif !rh.fst.val.data.toBool then some (Res.ret ((num 11)), []) else (run none
  74 [str a0_7] []).bind fun rh => bif okHeap [] rh.2 then bif okRes PP 23 rh.fst then bif !rh.fst.val.data.toInt == 0 then some (Res.ret (num rh.fst.val.data.toInt), []) else
  (run none 77 [AV.agg [str a0_21, str a0_22, num a0_23, yes a0_24, num a0_25, num a0_26, str a0_27, num a0_28, AV.e (E.sl 97 a0_29)]] []).bind fun rh => bif okHeap [] rh.2
  then bif okRes PP 23 rh.fst then some (Res.ret ((num rh.fst.val.data.toInt)), []) else none else none else none else none else none else none else bif a0_0 == 6 then bif
  a0_0 == 6 then (run none 73 [str a0_6] []).bind fun rh => bif okHeap [] rh.2 then bif okRes PP 4 rh.fst then bif !rh.fst.val.data.toBool then some (Res.ret (num 11), [])
  else some (Res.ret ((num 0)), []) else none else none else some (Res.ret ((num 0)), []) else bif a0_0 == 13 then bif a0_0 == 13 then (run none 73 [str a0_6] []).bind fun rh
  => bif okHeap [] rh.2 then bif okRes PP 4 rh.fst then bif !rh.fst.val.data.toBool then some (Res.ret (num 11), []) else some (Res.ret ((num 0)), []) else none else none else
  some (Res.ret ((num 0)), []) else bif a0_0 == 14 then bif a0_0 == 14 then (run none 73 [str a0_6] []).bind fun rh => bif okHeap [] rh.2 then bif okRes PP 4 rh.fst then bif
  !rh.fst.val.data.toBool then some (Res.ret ((num 11)), []) else some (Res.ret ((num 0)), []) else none else none else some (Res.ret ((num 0)), []) else bif a0_0 == 15 then
  (run none 73 [str a0_6] []).bind fun rh => bif okHeap [] rh.2 then bif okRes PP 4 rh.fst then bif !rh.fst.val.data.toBool then some (Res.ret (num 11), []) else some (Res.ret
  ((num 0)), []) else none else none else some (Res.ret ((num 0)), []) else bif a0_0 == 4 then (run none 73 [str a0_16] []).bind fun rh => bif okHeap [] rh.2 then bif okRes PP
  4 rh.fst then bif (!rh.fst.val.data.toBool) == false then (run none 73 [str a0_17] []).bind fun rh => bif okHeap [] rh.2 then bif okRes PP 4 rh.fst then bif
  !rh.fst.val.data.toBool then some (Res.ret ((num 11)), []) else (run none 74 [str a0_18] []).bind fun rh => bif okHeap [] rh.2 then bif okRes PP 23 rh.fst then bif
  !rh.fst.val.data.toInt == 0 then some (Res.ret (num rh.fst.val.data.toInt), []) else (run none 75 [AV.e (E.sl 97 a0_20)] []).bind fun rh => bif okHeap [] rh.2 then bif okRes
  PP 23 rh.fst then some (Res.ret ((num rh.fst.val.data.toInt)), []) else none else none else none else none else none else none else some (Res.ret ((num 11)), []) else none
  else none else bif a0_0 == 5 then (run none 76 [str a0_6] []).bind fun rh => bif okHeap [] rh.2 then bif okRes PP 4 rh.fst then bif !rh.fst.val.data.toBool then some
  (Res.ret ((num 11)), []) else (run none 74 [str a0_7] []).bind fun rh => bif okHeap [] rh.2 then bif okRes PP 23 rh.fst then bif !rh.fst.val.data.toInt == 0 then some
  (Res.ret ((num rh.fst.val.data.toInt)), []) else (run none 77 [AV.agg [str a0_21, str a0_22, num a0_23, yes a0_24, num a0_25, num a0_26, str a0_27, num a0_28, AV.e (E.sl 97
  a0_29)]] []).bind fun rh => bif okHeap [] rh.2 then bif okRes PP 23 rh.fst then some (Res.ret ((num rh.fst.val.data.toInt)), []) else none else none else none else none else
  none else none else bif a0_0 == 6 then bif a0_0 == 6 then (run none 73 [str a0_6] []).bind fun rh => bif okHeap [] rh.2 then bif okRes PP 4 rh.fst then bif
  !rh.fst.val.data.toBool then some (Res.ret ((num 11)), []) else some (Res.ret ((num 0)), []) else none else none else some (Res.ret ((num 0)), []) else bif a0_0 == 13 then
  bif a0_0 == 13 then (run none 73 [str a0_6] []).bind fun rh => bif okHeap [] rh.2 then bif okRes PP 4 rh.fst then bif !rh.fst.val.data.toBool then some (Res.ret ((num 11)),
  []) else some (Res.ret ((num 0)), []) else none else none else some (Res.ret ((num 0)), []) else bif a0_0 == 14 then bif a0_0 == 14 then (run none 73 [str a0_6] []).bind fun
  rh => bif okHeap [] rh.2 then bif okRes PP 4 rh.fst then bif !rh.fst.val.data.toBool then some (Res.ret ((num 11)), []) else some (Res.ret ((num 0)), []) else none else none
  else some (Res.ret ((num 0)), []) else bif a0_0 == 15 then (run none 73 [str a0_6] []).bind fun rh => bif okHeap [] rh.2 then bif okRes PP 4 rh.fst then bif
  !rh.fst.val.data.toBool then some (Res.ret ((num 11)), []) else some (Res.ret ((num 0)), []) else none else none else some (Res.ret ((num 0)), []) := by kernel_rfl
theorem eq_same (run : RunF) (loop : LoopF) (a0_0 a0_1 a0_2 a0_3 a0_4 : Int) (a0_5 : Bool) (a0_6 a0_7 a0_8 : List UInt8) (a0_9 : Int) (a0_10 a0_11 : List UInt8) (a0_12 a0_13
  a0_14 : Int) (a0_15 a0_16 a0_17 a0_18 : List UInt8) (a0_19 : Bool) (a0_20 : List E) (a0_21 a0_22 : List UInt8) (a0_23 : Int) (a0_24 : Bool) (a0_25 a0_26 : Int) (a0_27 : List
  UInt8) (a0_28 : Int) (a0_29 : List E) (a1_0 a1_1 a1_2 a1_3 a1_4 : Int) (a1_5 : Bool) (a1_6 a1_7 a1_8 : List UInt8) (a1_9 : Int) (a1_10 a1_11 : List UInt8) (a1_12 a1_13 a1_14
  : Int) (a1_15 a1_16 a1_17 a1_18 : List UInt8) (a1_19 : Bool) (a1_20 : List E) (a1_21 a1_22 : List UInt8) (a1_23 : Int) (a1_24 : Bool) (a1_25 a1_26 : Int) (a1_27 : List
  UInt8) (a1_28 : Int) (a1_29 : List E) : bodyRun PP HH run loop none 34 [.agg [num a0_0, num a0_1, num a0_2, num a0_3, num a0_4, yes a0_5, str a0_6, str a0_7, str a0_8, num
  a0_9, str a0_10, str a0_11, num a0_12, num a0_13, num a0_14, str a0_15, str a0_16, str a0_17, str a0_18, yes a0_19, .e (.sl 97 a0_20), str a0_21, str a0_22, num a0_23, yes
  a0_24, num a0_25, num a0_26, str a0_27, num a0_28, .e (.sl 97 a0_29)], .agg [num a1_0, num a1_1, num a1_2, num a1_3, num a1_4, yes a1_5, str a1_6, str a1_7, str a1_8, num
  a1_9, str a1_10, str a1_11, num a1_12, num a1_13, num a1_14, str a1_15, str a1_16, str a1_17, str a1_18, yes a1_19, .e (.sl 97 a1_20), str a1_21, str a1_22, num a1_23, yes
  a1_24, num a1_25, num a1_26, str a1_27, num a1_28, .e (.sl 97 a1_29)]] [] = bif (bif bif bif bif bif bif bif bif bif a0_0 == a1_0 then a0_1 == a1_1 else false then a0_2 ==
  a1_2 else false then a0_3 == a1_3 else false then a0_4 == a1_4 else false then a0_5 == a1_5 else false then strEq a0_6 a1_6 else false then strEq a0_7 a1_7 else false then
  strEq a0_8 a1_8 && (a0_9 == a1_9 && (strEq a0_10 a1_10 && true)) else false then strEq a0_11 a1_11 && (a0_12 == a1_12 && (a0_13 == a1_13 && (a0_14 == a1_14 && (strEq a0_15
  a1_15 && true)))) else false) == true then (run none 78 [AV.agg [str a0_16, str a0_17, str a0_18, yes a0_19, AV.e (E.sl 97 a0_20)], AV.agg [str a1_16, str a1_17, str a1_18,
  yes a1_19, AV.e (E.sl 97 a1_20)]] []).bind fun rh => bif okHeap [] rh.2 then bif okRes PP 4 rh.fst then bif rh.fst.val.data.toBool == true then (run none 79 [AV.agg [str
  a0_21, str a0_22, num a0_23, yes a0_24, num a0_25, num a0_26, str a0_27, num a0_28, AV.e (E.sl 97 a0_29)], AV.agg [str a1_21, str a1_22, num a1_23, yes a1_24, num a1_25, num
  a1_26, str a1_27, num a1_28, AV.e (E.sl 97 a1_29)]] []).bind fun rh => bif okHeap [] rh.2 then bif okRes PP 4 rh.fst then some (Res.ret (yes rh.fst.val.data.toBool), [])
  else none else none else some (Res.ret ((yes false)), []) else none else none else some (Res.ret ((yes false)), []) := by kernel_rfl
theorem eq_exchange (run : RunF) (loop : LoopF) (a0_0 : List UInt8) (a0_1 : Int) (a0_2 : List UInt8) : bodyRun PP HH run loop none 71 [.agg [str a0_0, num a0_1, str a0_2]] []
  = (run none 73 [str a0_0] []).bind fun rh => bif okHeap [] rh.2 then bif okRes PP 4 rh.fst then bif !rh.fst.val.data.toBool then some (Res.ret ((num 11)), []) else (run none
  32 [num a0_1, num 1, num 4] []).bind fun rh => bif okHeap [] rh.2 then bif okRes PP 4 rh.fst then bif !rh.fst.val.data.toBool then some (Res.ret ((num 10)), []) else (run
  none 76 [str a0_2] []).bind fun rh => bif okHeap [] rh.2 then bif okRes PP 4 rh.fst then bif !rh.fst.val.data.toBool then some (Res.ret ((num 11)), []) else some (Res.ret
  ((num 0)), []) else none else none else none else none else none else none := by kernel_rfl
theorem eq_spec (run : RunF) (loop : LoopF) (a0_0 : List UInt8) (a0_1 a0_2 a0_3 : Int) (a0_4 : List UInt8) : bodyRun PP HH run loop none 72 [.agg [str a0_0, num a0_1, num
  a0_2, num a0_3, str a0_4]] [] = (run none 73 [str a0_0] []).bind fun rh => bif okHeap [] rh.2 then bif okRes PP 4 rh.fst then bif !rh.fst.val.data.toBool then some (Res.ret
  ((num 11)), []) else (run none 32 [num a0_1, num 1, num 256] []).bind fun rh => bif okHeap [] rh.2 then bif okRes PP 4 rh.fst then bif (!rh.fst.val.data.toBool) == false
  then (run none 32 [num a0_2, num 0, num 1099511627776] []).bind fun rh => bif okHeap [] rh.2 then bif okRes PP 4 rh.fst then bif (!rh.fst.val.data.toBool) == false then (run
  none 32 [num a0_3, num 0, num 1099511627776] []).bind fun rh => bif okHeap [] rh.2 then bif okRes PP 4 rh.fst then bif !rh.fst.val.data.toBool then some (Res.ret ((num 1)),
  []) else (run none 76 [str a0_4] []).bind fun rh => bif okHeap [] rh.2 then bif okRes PP 4 rh.fst then bif !rh.fst.val.data.toBool then some (Res.ret ((num 11)), []) else
  some (Res.ret ((num 0)), []) else none else none else none else none else some (Res.ret ((num 1)), []) else none else none else some (Res.ret ((num 1)), []) else none else
  none else none else none := by kernel_rfl
theorem eq_key (run : RunF) (loop : LoopF) (a0 : List UInt8) : bodyRun PP HH run loop none 74 [str a0] [] = bif decide (64 < (↑a0.length : Int)) then some (Res.ret ((num 5)),
  []) else bif decide (0 ≤ Lib.indexByte a0 (Nat.toUInt8 0)) then some (Res.ret ((num 12)), []) else some (Res.ret (num 0), []) := by kernel_rfl
theorem eq_optional (run : RunF) (loop : LoopF) (a0 : List UInt8) : bodyRun PP HH run loop none 76 [str a0] [] = bif strEq a0 ([] : List UInt8) == false then (run none 73 [str
  a0] []).bind fun rh => bif okHeap [] rh.2 then bif okRes PP 4 rh.fst then some (Res.ret ((yes rh.fst.val.data.toBool)), []) else none else none else some (Res.ret ((yes
  true)), []) := by kernel_rfl
theorem eq_bindings (run : RunF) (loop : LoopF) (a0_0 a0_1 a0_2 : List UInt8) (a0_3 : Bool) (a0_4 : List E) (a1_0 a1_1 a1_2 : List UInt8) (a1_3 : Bool) (a1_4 : List E) :
  bodyRun PP HH run loop none 78 [.agg [str a0_0, str a0_1, str a0_2, yes a0_3, .e (.sl 97 a0_4)], .agg [str a1_0, str a1_1, str a1_2, yes a1_3, .e (.sl 97 a1_4)]] [] = bif
  bif bif bif bif !strEq a0_0 a1_0 then true else !strEq a0_1 a1_1 then true else !strEq a0_2 a1_2 then true else !a0_3 == a1_3 then true else !(↑a0_4.length : Int) ==
  (↑a1_4.length : Int) then some (Res.ret ((yes false)), []) else (loop 78 0 lc_78_4 ([uu, uu, uu, AV.ptr 0 0] ++ List.replicate 39 uu ++ [AV.e (E.sl 97 a0_4), (num
  (↑a0_4.length : Int)), num 0] ++ List.replicate 12 uu) [Ob.box [str a1_0, str a1_1, str a1_2, yes a1_3, AV.e (E.sl 97 a1_4)]]).bind fun o => bif o.ex.isWay (Way.exit 0) then
  bif okFr (List.replicate 58 uu) o.2 && okHeap [] o.3 then some (Res.ret ((yes true)), []) else none else bif o.ex.isWay Way.ret then bif okFr ([uu, uu, uu, uu, yes false] ++
  List.replicate 53 uu) o.2 && okHeap [] o.3 then some (Res.ret ((yes (List.getD o.fr 4 uu).data.toBool)), []) else none else none := by kernel_rfl
theorem eq_bindingsL4 (run : RunF) (loop : LoopF) (t43 : List E) (t44 t45 : Int) (t3_0 t3_1 t3_2 : List UInt8) (t3_3 : Bool) (t3_4 : List E) : bodyLoop PP HH run loop 78 0
  lc_78_4 (((((List.replicate 58 uu).set 3 (.ptr 0 0)).set 43 (.e (.sl 97 t43))).set 44 (num t44)).set 45 (num t45)) [.box [str t3_0, str t3_1, str t3_2, yes t3_3, .e (.sl 97
  t3_4)]] = bif decide (t45 < t44) then bif decide (0 ≤ t45) && decide (t45 < (↑t43.length : Int)) then bif decide (0 ≤ t45) && decide (t45 < (↑t3_4.length : Int)) then bif
  !(strEq ((t43.getD t45.toNat E.nili).cell 0).toStr ((t3_4.getD t45.toNat E.nili).cell 0).toStr && (strEq ((t43.getD t45.toNat E.nili).cell 1).toStr ((t3_4.getD t45.toNat
  E.nili).cell 1).toStr && true)) then some (Out.mk (Ex.ret) (([uu, uu, uu, uu, yes false] ++ List.replicate 53 uu)) ([]) ([])) else (loop 78 0 lc_78_4 ([uu, uu, uu, AV.ptr 0
  0] ++ List.replicate 39 uu ++ [AV.e (E.sl 97 t43), num t44, (num (IntKind.i64.wrap (t45 + 1)))] ++ List.replicate 12 uu) [Ob.box [str t3_0, str t3_1, str t3_2, yes t3_3,
  AV.e (E.sl 97 t3_4)]]).bind fun o => some o else none else none else some (Out.mk (Ex.exit 0) ((List.replicate 58 uu)) ([]) ([])) := by kernel_rfl
theorem eq_Name (run : RunF) (loop : LoopF) (a0 : List UInt8) : bodyRun PP HH run loop none 73 [str a0] [] = bif bif decide ((↑a0.length : Int) < 1) then true else decide (16
  < (↑a0.length : Int)) then some (Res.ret ((yes false)), []) else (loop 73 0 lc_73_4 (List.replicate 15 uu ++ [AV.itr 0] ++ List.replicate 28 uu) [Ob.raw (Raw.iter a0
  0)]).bind fun o => bif o.ex.isWay (Way.exit 0) then bif okFr (List.replicate 44 uu) o.2 && okHeap [] o.3 then some (Res.ret (yes true), []) else none else bif o.ex.isWay
  Way.ret then bif okFr ([uu, uu, yes false] ++ List.replicate 41 uu) o.2 && okHeap [] o.3 then some (Res.ret ((yes (List.getD o.fr 2 uu).data.toBool)), []) else none else
  none := by kernel_rfl
theorem eq_NameL4 (run : RunF) (loop : LoopF) (x15 : List UInt8) (y15 : Nat) : bodyLoop PP HH run loop 73 0 lc_73_4 ((List.replicate 44 uu).set 15 (.itr 0)) [.raw (.iter x15
  y15)] = bif decide (y15 < x15.length) then bif (!bif decide (97 ≤ (↑(Utf8.decode (ByteArray.mk x15.toArray) y15).fst : Int)) then decide ((↑(Utf8.decode (ByteArray.mk
  x15.toArray) y15).fst : Int) ≤ 122) else false) == true then bif ((↑y15 : Int) == 0) == false then bif (!(↑(Utf8.decode (ByteArray.mk x15.toArray) y15).fst : Int) == 45) ==
  true then bif decide ((↑(Utf8.decode (ByteArray.mk x15.toArray) y15).fst : Int) < 48) == false then bif decide (57 < (↑(Utf8.decode (ByteArray.mk x15.toArray) y15).fst :
  Int)) then some (Out.mk (Ex.ret) (([uu, uu, yes false] ++ List.replicate 41 uu)) ([]) ([])) else (loop 73 0 lc_73_4 (List.replicate 15 uu ++ [AV.itr 0] ++ List.replicate 28
  uu) [Ob.raw (Raw.iter x15 (y15 + (Utf8.decode (ByteArray.mk x15.toArray) y15).snd))]).bind fun o => some o else some (Out.mk (Ex.ret) (([uu, uu, yes false] ++ List.replicate
  41 uu)) ([]) ([])) else (loop 73 0 lc_73_4 (List.replicate 15 uu ++ [AV.itr 0] ++ List.replicate 28 uu) [Ob.raw (Raw.iter x15 (y15 + (Utf8.decode (ByteArray.mk x15.toArray)
  y15).snd))]).bind fun o => some o else some (Out.mk (Ex.ret) (([uu, uu, yes false] ++ List.replicate 41 uu)) ([]) ([])) else (loop 73 0 lc_73_4 (List.replicate 15 uu ++
  [AV.itr 0] ++ List.replicate 28 uu) [Ob.raw (Raw.iter x15 (y15 + (Utf8.decode (ByteArray.mk x15.toArray) y15).snd))]).bind fun o => some o else some (Out.mk (Ex.exit 0)
  ((List.replicate 44 uu)) ([]) ([])) := by kernel_rfl
theorem eq_Valid (run : RunF) (loop : LoopF) (a0 : List UInt8) : bodyRun PP HH run loop none 109 [str a0] [] = (run none 127 [str a0] []).bind fun rh => bif okHeap [] rh.2
  then bif okRes PP 4 rh.fst then bif !rh.fst.val.data.toBool then some (Res.ret ((yes false)), []) else (loop 109 0 lc_109_4 (List.replicate 9 uu ++ [AV.itr 0] ++
  List.replicate 9 uu) [Ob.raw (Raw.iter a0 0)]).bind fun o => bif o.ex.isWay (Way.exit 0) then bif okFr (List.replicate 19 uu) o.2 && okHeap [] o.3 then some (Res.ret ((yes
  true)), []) else none else bif o.ex.isWay Way.ret then bif okFr ([uu, uu, yes false] ++ List.replicate 16 uu) o.2 && okHeap [] o.3 then some (Res.ret ((yes (List.getD o.fr 2
  uu).data.toBool)), []) else none else none else none else none := by kernel_rfl
theorem eq_ValidL4 (run : RunF) (loop : LoopF) (x9 : List UInt8) (y9 : Nat) : bodyLoop PP HH run loop 109 0 lc_109_4 ((List.replicate 19 uu).set 9 (.itr 0)) [.raw (.iter x9
  y9)] = bif decide (y9 < x9.length) then bif bif (↑(Utf8.decode (ByteArray.mk x9.toArray) y9).fst : Int) == 43 then true else (↑(Utf8.decode (ByteArray.mk x9.toArray) y9).fst
  : Int) == 35 then some (Out.mk (Ex.ret) (([uu, uu, yes false] ++ List.replicate 16 uu)) ([]) ([])) else (loop 109 0 lc_109_4 (List.replicate 9 uu ++ [AV.itr 0] ++
  List.replicate 9 uu) [Ob.raw (Raw.iter x9 (y9 + (Utf8.decode (ByteArray.mk x9.toArray) y9).snd))]).bind fun o => some o else some (Out.mk (Ex.exit 0) ((List.replicate 19
  uu)) ([]) ([])) := by kernel_rfl
theorem eq_sized (run : RunF) (loop : LoopF) (a0 : List UInt8) : bodyRun PP HH run loop none 127 [str a0] [] = bif bif decide ((↑a0.length : Int) < 1) then true else decide
  (64 < (↑a0.length : Int)) then some (Res.ret ((yes false)), []) else (loop 127 0 lc_127_5 ([uu, uu, uu, num 1] ++ List.replicate 11 uu ++ [AV.itr 0] ++ List.replicate 12 uu)
  [Ob.raw (Raw.iter a0 0)]).bind fun o => bif o.ex.isWay (Way.exit 0) then bif okFr ([uu, uu, uu, num 0] ++ List.replicate 24 uu) o.2 && okHeap [] o.3 then some (Res.ret ((yes
  (decide ((List.getD o.fr 3 uu).data.toInt ≤ 8)))), []) else none else bif o.ex.isWay Way.ret then bif okFr ([uu, uu, yes false] ++ List.replicate 25 uu) o.2 && okHeap [] o.3
  then some (Res.ret ((yes (List.getD o.fr 2 uu).data.toBool)), []) else none else none := by kernel_rfl
theorem eq_sizedL5 (run : RunF) (loop : LoopF) (t3 : Int) (x15 : List UInt8) (y15 : Nat) : bodyLoop PP HH run loop 127 0 lc_127_5 (((List.replicate 28 uu).set 3 (num t3)).set
  15 (.itr 0)) [.raw (.iter x15 y15)] = bif decide (y15 < x15.length) then bif (↑(Utf8.decode (ByteArray.mk x15.toArray) y15).fst : Int) == 0 then some (Out.mk (Ex.ret) (([uu,
  uu, yes false] ++ List.replicate 25 uu)) ([]) ([])) else bif (↑(Utf8.decode (ByteArray.mk x15.toArray) y15).fst : Int) == 47 then (loop 127 0 lc_127_5 ([uu, uu, uu, (num
  (IntKind.i64.wrap (t3 + 1)))] ++ List.replicate 11 uu ++ [AV.itr 0] ++ List.replicate 12 uu) [Ob.raw (Raw.iter x15 (y15 + (Utf8.decode (ByteArray.mk x15.toArray)
  y15).snd))]).bind fun o => some o else (loop 127 0 lc_127_5 ([uu, uu, uu, num t3] ++ List.replicate 11 uu ++ [AV.itr 0] ++ List.replicate 12 uu) [Ob.raw (Raw.iter x15 (y15 +
  (Utf8.decode (ByteArray.mk x15.toArray) y15).snd))]).bind fun o => some o else some (Out.mk (Ex.exit 0) (([uu, uu, uu, num t3] ++ List.replicate 24 uu)) ([]) ([])) := by
  kernel_rfl
theorem eq_MProps (run : RunF) (loop : LoopF) (a0 : List E) : bodyRun PP HH run loop none 75 [.e (.sl 97 a0)] [] = bif decide (8 < (↑a0.length : Int)) then some (Res.ret ((num
  5)), []) else (loop 75 0 lc_75_4 ([AV.e (E.sl 97 a0)] ++ List.replicate 7 uu ++ [AV.e (E.sl 97 a0), (num (↑a0.length : Int)), num 0] ++ List.replicate 29 uu) []).bind fun o
  => bif o.ex.isWay (Way.exit 0) then bif okFr (List.replicate 40 uu) o.2 && okHeap [] o.3 then some (Res.ret ((num 0)), []) else none else bif o.ex.isWay Way.ret then bif
  okFr ([uu, uu, num 0] ++ List.replicate 37 uu) o.2 && okHeap [] o.3 then some (Res.ret ((num (List.getD o.fr 2 uu).data.toInt)), []) else none else none := by kernel_rfl
theorem eq_MPropsL4 (run : RunF) (loop : LoopF) (t0 t8 : List E) (t9 t10 : Int) : bodyLoop PP HH run loop 75 0 lc_75_4 (((((List.replicate 40 uu).set 0 (.e (.sl 97 t0))).set 8
  (.e (.sl 97 t8))).set 9 (num t9)).set 10 (num t10)) [] = bif decide (t10 < t9) then bif decide (0 ≤ t10) && decide (t10 < (↑t8.length : Int)) then (run none 108 [(str
  ((t8.getD t10.toNat E.nili).cell 0).toStr)] []).bind fun rh => bif okHeap [] rh.2 then bif okRes PP 4 rh.fst then bif !rh.fst.val.data.toBool then some (Out.mk (Ex.ret)
  (([uu, uu, num 16] ++ List.replicate 37 uu)) ([]) ([])) else bif decide (160 < (↑((t8.getD t10.toNat E.nili).cell 1).toStr.length : Int)) then some (Out.mk (Ex.ret) (([uu,
  uu, num 5] ++ List.replicate 37 uu)) ([]) ([])) else bif decide (0 < t10) == true then bif decide (0 ≤ IntKind.i64.wrap (t10 - 1)) && decide (IntKind.i64.wrap (t10 - 1) <
  (↑t0.length : Int)) then bif Op.bytesLess ((t8.getD t10.toNat E.nili).cell 0).toStr ((t0.getD (IntKind.i64.wrap (t10 - 1)).toNat E.nili).cell 0).toStr || strEq ((t8.getD
  t10.toNat E.nili).cell 0).toStr ((t0.getD (IntKind.i64.wrap (t10 - 1)).toNat E.nili).cell 0).toStr then some (Out.mk (Ex.ret) (([uu, uu, num 16] ++ List.replicate 37 uu))
  ([]) ([])) else (loop 75 0 lc_75_4 ([AV.e (E.sl 97 t0)] ++ List.replicate 7 uu ++ [AV.e (E.sl 97 t8), num t9, (num (IntKind.i64.wrap (t10 + 1)))] ++ List.replicate 29 uu)
  []).bind fun o => some o else none else (loop 75 0 lc_75_4 ([AV.e (E.sl 97 t0)] ++ List.replicate 7 uu ++ [AV.e (E.sl 97 t8), num t9, (num (IntKind.i64.wrap (t10 + 1)))] ++
  List.replicate 29 uu) []).bind fun o => some o else none else none else none else some (Out.mk (Ex.exit 0) ((List.replicate 40 uu)) ([]) ([])) := by kernel_rfl
theorem eq_MCheck (run : RunF) (loop : LoopF) (a0_0 a0_1 : List UInt8) (a0_2 : Int) (a0_3 : Bool) (a0_4 a0_5 : Int) (a0_6 : List UInt8) (a0_7 : Int) (a0_8 : List E) : bodyRun
  PP HH run loop none 77 [.agg [str a0_0, str a0_1, num a0_2, yes a0_3, num a0_4, num a0_5, str a0_6, num a0_7, .e (.sl 97 a0_8)]] [] = (run none 109 [str a0_0] []).bind fun
  rh => bif okHeap [] rh.2 then bif okRes PP 4 rh.fst then bif !rh.fst.val.data.toBool then some (Res.ret ((num 12)), []) else bif decide (256 < (↑a0_1.length : Int)) then
  some (Res.ret ((num 5)), []) else (run none 110 [num a0_2, num 2] []).bind fun rh => bif okHeap [] rh.2 then bif okRes PP 4 rh.fst then bif !rh.fst.val.data.toBool then some
  (Res.ret ((num 14)), []) else (run none 110 [num a0_4, num 9] []).bind fun rh => bif okHeap [] rh.2 then bif okRes PP 4 rh.fst then bif !rh.fst.val.data.toBool then bif
  !rh.fst.val.data.toBool then some (Res.ret ((num 1)), []) else bif (!strEq a0_6 ([] : List UInt8)) == true then (run none 73 [str a0_6] []).bind fun rh => bif okHeap [] rh.2
  then bif okRes PP 4 rh.fst then bif !rh.fst.val.data.toBool then some (Res.ret ((num 11)), []) else (run none 110 [num a0_7, num 1099511627776] []).bind fun rh => bif okHeap
  [] rh.2 then bif okRes PP 4 rh.fst then bif !rh.fst.val.data.toBool then some (Res.ret ((num 1)), []) else (run none 75 [AV.e (E.sl 97 a0_8)] []).bind fun rh => bif okHeap
  [] rh.2 then bif okRes PP 23 rh.fst then some (Res.ret ((num rh.fst.val.data.toInt)), []) else none else none else none else none else none else none else (run none 110 [num
  a0_7, num 1099511627776] []).bind fun rh => bif okHeap [] rh.2 then bif okRes PP 4 rh.fst then bif !rh.fst.val.data.toBool then some (Res.ret ((num 1)), []) else (run none
  75 [AV.e (E.sl 97 a0_8)] []).bind fun rh => bif okHeap [] rh.2 then bif okRes PP 23 rh.fst then some (Res.ret ((num rh.fst.val.data.toInt)), []) else none else none else
  none else none else (run none 110 [num a0_5, num 1099511627776] []).bind fun rh => bif okHeap [] rh.2 then bif okRes PP 4 rh.fst then bif !rh.fst.val.data.toBool then some
  (Res.ret ((num 1)), []) else bif (!strEq a0_6 ([] : List UInt8)) == true then (run none 73 [str a0_6] []).bind fun rh => bif okHeap [] rh.2 then bif okRes PP 4 rh.fst then
  bif !rh.fst.val.data.toBool then some (Res.ret ((num 11)), []) else (run none 110 [num a0_7, num 1099511627776] []).bind fun rh => bif okHeap [] rh.2 then bif okRes PP 4
  rh.fst then bif !rh.fst.val.data.toBool then some (Res.ret ((num 1)), []) else (run none 75 [AV.e (E.sl 97 a0_8)] []).bind fun rh => bif okHeap [] rh.2 then bif okRes PP 23
  rh.fst then some (Res.ret ((num rh.fst.val.data.toInt)), []) else none else none else none else none else none else none else (run none 110 [num a0_7, num 1099511627776]
  []).bind fun rh => bif okHeap [] rh.2 then bif okRes PP 4 rh.fst then bif !rh.fst.val.data.toBool then some (Res.ret (num 1), []) else (run none 75 [AV.e (E.sl 97 a0_8)]
  []).bind fun rh => bif okHeap [] rh.2 then bif okRes PP 23 rh.fst then some (Res.ret (num rh.fst.val.data.toInt), []) else none else none else none else none else none else
  none else none else none else none else none else none else none := by kernel_rfl
theorem eq_MSame (run : RunF) (loop : LoopF) (a0_0 a0_1 : List UInt8) (a0_2 : Int) (a0_3 : Bool) (a0_4 a0_5 : Int) (a0_6 : List UInt8) (a0_7 : Int) (a0_8 : List E) (a1_0 a1_1
  : List UInt8) (a1_2 : Int) (a1_3 : Bool) (a1_4 a1_5 : Int) (a1_6 : List UInt8) (a1_7 : Int) (a1_8 : List E) : bodyRun PP HH run loop none 79 [.agg [str a0_0, str a0_1, num
  a0_2, yes a0_3, num a0_4, num a0_5, str a0_6, num a0_7, .e (.sl 97 a0_8)], .agg [str a1_0, str a1_1, num a1_2, yes a1_3, num a1_4, num a1_5, str a1_6, num a1_7, .e (.sl 97
  a1_8)]] [] = bif bif bif bif bif bif bif bif bif !strEq a0_0 a1_0 then true else !strEq a0_1 a1_1 then true else !a0_2 == a1_2 then true else !a0_3 == a1_3 then true else
  !a0_4 == a1_4 then true else !a0_5 == a1_5 then true else !strEq a0_6 a1_6 then true else !a0_7 == a1_7 then true else !(↑a0_8.length : Int) == (↑a1_8.length : Int) then
  some (Res.ret ((yes false)), []) else (loop 79 0 lc_79_4 ([uu, uu, uu, AV.ptr 0 0] ++ List.replicate 67 uu ++ [AV.e (E.sl 97 a0_8), (num (↑a0_8.length : Int)), num 0] ++
  List.replicate 12 uu) [Ob.box [str a1_0, str a1_1, num a1_2, yes a1_3, num a1_4, num a1_5, str a1_6, num a1_7, AV.e (E.sl 97 a1_8)]]).bind fun o => bif o.ex.isWay (Way.exit
  0) then bif okFr (List.replicate 86 uu) o.2 && okHeap [] o.3 then some (Res.ret ((yes true)), []) else none else bif o.ex.isWay Way.ret then bif okFr ([uu, uu, uu, uu, yes
  false] ++ List.replicate 81 uu) o.2 && okHeap [] o.3 then some (Res.ret (yes (List.getD o.fr 4 uu).data.toBool), []) else none else none := by kernel_rfl
theorem eq_MSameL4 (run : RunF) (loop : LoopF) (t71 : List E) (t72 t73 : Int) (t3_0 t3_1 : List UInt8) (t3_2 : Int) (t3_3 : Bool) (t3_4 t3_5 : Int) (t3_6 : List UInt8) (t3_7 :
  Int) (t3_8 : List E) : bodyLoop PP HH run loop 79 0 lc_79_4 (((((List.replicate 86 uu).set 3 (.ptr 0 0)).set 71 (.e (.sl 97 t71))).set 72 (num t72)).set 73 (num t73)) [.box
  [str t3_0, str t3_1, num t3_2, yes t3_3, num t3_4, num t3_5, str t3_6, num t3_7, .e (.sl 97 t3_8)]] = bif decide (t73 < t72) then bif decide (0 ≤ t73) && decide (t73 <
  (↑t71.length : Int)) then bif decide (0 ≤ t73) && decide (t73 < (↑t3_8.length : Int)) then bif !(strEq ((t71.getD t73.toNat E.nili).cell 0).toStr ((t3_8.getD t73.toNat
  E.nili).cell 0).toStr && (strEq ((t71.getD t73.toNat E.nili).cell 1).toStr ((t3_8.getD t73.toNat E.nili).cell 1).toStr && true)) then some (Out.mk (Ex.ret) (([uu, uu, uu,
  uu, yes false] ++ List.replicate 81 uu)) ([]) ([])) else (loop 79 0 lc_79_4 ([uu, uu, uu, AV.ptr 0 0] ++ List.replicate 67 uu ++ [AV.e (E.sl 97 t71), num t72, (num
  (IntKind.i64.wrap (t73 + 1)))] ++ List.replicate 12 uu) [Ob.box [str t3_0, str t3_1, num t3_2, yes t3_3, num t3_4, num t3_5, str t3_6, num t3_7, AV.e (E.sl 97 t3_8)]]).bind
  fun o => some o else none else none else some (Out.mk (Ex.exit 0) ((List.replicate 86 uu)) ([]) ([])) := by kernel_rfl
theorem eq_mkey (run : RunF) (loop : LoopF) (a0 : List UInt8) : bodyRun PP HH run loop none 108 [str a0] [] = bif bif decide ((↑a0.length : Int) < 1) then true else decide (16
  < (↑a0.length : Int)) then some (Res.ret ((yes false)), []) else (loop 108 0 lc_108_4 ([str a0, uu, uu, num 0] ++ List.replicate 36 uu) []).bind fun o => bif o.ex.isWay
  (Way.exit 0) then bif okFr (List.replicate 40 uu) o.2 && okHeap [] o.3 then some (Res.ret (yes true), []) else none else bif o.ex.isWay Way.ret then bif okFr ([uu, uu, yes
  false] ++ List.replicate 37 uu) o.2 && okHeap [] o.3 then some (Res.ret ((yes (List.getD o.fr 2 uu).data.toBool)), []) else none else none := by kernel_rfl
theorem eq_mkeyL4 (run : RunF) (loop : LoopF) (t0 : List UInt8) (t3 : Int) : bodyLoop PP HH run loop 108 0 lc_108_4 (((List.replicate 40 uu).set 0 (str t0)).set 3 (num t3)) []
  = bif decide (t3 < (↑t0.length : Int)) then bif decide (0 ≤ t3) && decide (t3 < (↑t0.length : Int)) then bif (bif decide ((↑(t0.getD t3.toNat 0).toNat : Int) < 97) then true
  else decide (122 < (↑(t0.getD t3.toNat 0).toNat : Int))) == true then bif decide ((↑(t0.getD t3.toNat 0).toNat : Int) < 48) == false then bif bif decide (57 < (↑(t0.getD
  t3.toNat 0).toNat : Int)) then !(↑(t0.getD t3.toNat 0).toNat : Int) == 45 else false then some (Out.mk (Ex.ret) (([uu, uu, yes false] ++ List.replicate 37 uu)) ([]) ([]))
  else (loop 108 0 lc_108_4 ([str t0, uu, uu, (num (IntKind.i64.wrap (t3 + 1)))] ++ List.replicate 36 uu) []).bind fun o => some o else bif !(↑(t0.getD t3.toNat 0).toNat :
  Int) == 45 then some (Out.mk (Ex.ret) (([uu, uu, yes false] ++ List.replicate 37 uu)) ([]) ([])) else (loop 108 0 lc_108_4 ([str t0, uu, uu, (num (IntKind.i64.wrap (t3 +
  1)))] ++ List.replicate 36 uu) []).bind fun o => some o else (loop 108 0 lc_108_4 ([str t0, uu, uu, (num (IntKind.i64.wrap (t3 + 1)))] ++ List.replicate 36 uu) []).bind fun
  o => some o else none else some (Out.mk (Ex.exit 0) ((List.replicate 40 uu)) ([]) ([])) := by kernel_rfl
theorem eq_mis (run : RunF) (loop : LoopF) (a0 a1 : Int) : bodyRun PP HH run loop none 110 [num a0, num a1] [] = some (Res.ret (yes (bif decide (0 ≤ a0) then decide (a0 ≤ a1)
  else false)), []) := by kernel_rfl
theorem eq_RCheck (run : RunF) (loop : LoopF) (a0_0 a0_1 a0_2 a0_3 a0_4 : Int) (a0_5 : Bool) (a0_6 a0_7 a0_8 : List UInt8) (a0_9 : Int) (a0_10 a0_11 : List UInt8) (a0_12 a0_13
  a0_14 : Int) (a0_15 a0_16 a0_17 a0_18 : List UInt8) (a0_19 : Bool) (a0_20 : List E) (a0_21 a0_22 : List UInt8) (a0_23 : Int) (a0_24 : Bool) (a0_25 a0_26 : Int) (a0_27 : List
  UInt8) (a0_28 : Int) (a0_29 : List E) : bodyRun PP HH run loop none 18 [.agg [num a0_0, num a0_1, num a0_2, num a0_3, num a0_4, yes a0_5, str a0_6, str a0_7, str a0_8, num
  a0_9, str a0_10, str a0_11, num a0_12, num a0_13, num a0_14, str a0_15, str a0_16, str a0_17, str a0_18, yes a0_19, .e (.sl 97 a0_20), str a0_21, str a0_22, num a0_23, yes
  a0_24, num a0_25, num a0_26, str a0_27, num a0_28, .e (.sl 97 a0_29)]] [] = (run none 36 [num a0_0] []).bind fun rh => bif okHeap [] rh.2 then bif okRes PP 9 rh.fst then bif
  strEq rh.fst.val.data.toStr ([] : List UInt8) then some (Res.ret ((num 10)), []) else (run none 37 [num a0_1, num 1099511627776] []).bind fun rh => bif okHeap [] rh.2 then
  bif okRes PP 4 rh.fst then bif (!rh.fst.val.data.toBool) == false then (run none 37 [num a0_2, num 1099511627776] []).bind fun rh => bif okHeap [] rh.2 then bif okRes PP 4
  rh.fst then bif (!rh.fst.val.data.toBool) == false then (run none 37 [num a0_3, num 1099511627776] []).bind fun rh => bif okHeap [] rh.2 then bif okRes PP 4 rh.fst then bif
  (!rh.fst.val.data.toBool) == false then (run none 37 [num a0_4, num 1099511627776] []).bind fun rh => bif okHeap [] rh.2 then bif okRes PP 4 rh.fst then bif
  !rh.fst.val.data.toBool then some (Res.ret ((num 1)), []) else (run none 38 [AV.agg [num a0_0, num a0_1, num a0_2, num a0_3, num a0_4, yes a0_5, str a0_6, str a0_7, str
  a0_8, num a0_9, str a0_10, str a0_11, num a0_12, num a0_13, num a0_14, str a0_15, str a0_16, str a0_17, str a0_18, yes a0_19, AV.e (E.sl 97 a0_20), str a0_21, str a0_22, num
  a0_23, yes a0_24, num a0_25, num a0_26, str a0_27, num a0_28, AV.e (E.sl 97 a0_29)]] []).bind fun rh => bif okHeap [] rh.2 then bif okRes PP 23 rh.fst then bif
  !rh.fst.val.data.toInt == 0 then some (Res.ret ((num rh.fst.val.data.toInt)), []) else (run none 39 [AV.agg [num a0_0, num a0_1, num a0_2, num a0_3, num a0_4, yes a0_5, str
  a0_6, str a0_7, str a0_8, num a0_9, str a0_10, str a0_11, num a0_12, num a0_13, num a0_14, str a0_15, str a0_16, str a0_17, str a0_18, yes a0_19, AV.e (E.sl 97 a0_20), str
  a0_21, str a0_22, num a0_23, yes a0_24, num a0_25, num a0_26, str a0_27, num a0_28, AV.e (E.sl 97 a0_29)]] []).bind fun rh => bif okHeap [] rh.2 then bif okRes PP 39 rh.fst
  then (run none 23 [AV.agg [num a0_0, num a0_1, num a0_2, num a0_3, num a0_4, yes a0_5, str a0_6, str a0_7, str a0_8, num a0_9, str a0_10, str a0_11, num a0_12, num a0_13,
  num a0_14, str a0_15, str a0_16, str a0_17, str a0_18, yes a0_19, AV.e (E.sl 97 a0_20), str a0_21, str a0_22, num a0_23, yes a0_24, num a0_25, num a0_26, str a0_27, num
  a0_28, AV.e (E.sl 97 a0_29)], AV.agg [(num (rh.fst.val.data.cell 0).toInt), (num (rh.fst.val.data.cell 1).toInt), (num (rh.fst.val.data.cell 2).toInt), (num
  (rh.fst.val.data.cell 3).toInt), (num (rh.fst.val.data.cell 4).toInt), (yes (rh.fst.val.data.cell 5).toBool), (str (rh.fst.val.data.cell 6).toStr), (str
  (rh.fst.val.data.cell 7).toStr), (str (rh.fst.val.data.cell 8).toStr), (num (rh.fst.val.data.cell 9).toInt), (str (rh.fst.val.data.cell 10).toStr), (str
  (rh.fst.val.data.cell 11).toStr), (num (rh.fst.val.data.cell 12).toInt), (num (rh.fst.val.data.cell 13).toInt), (num (rh.fst.val.data.cell 14).toInt), (str
  (rh.fst.val.data.cell 15).toStr), (str (rh.fst.val.data.cell 16).toStr), (str (rh.fst.val.data.cell 17).toStr), (str (rh.fst.val.data.cell 18).toStr), (yes
  (rh.fst.val.data.cell 19).toBool), AV.e (E.sl 97 (rh.fst.val.data.cell 20).toList), (str (rh.fst.val.data.cell 21).toStr), (str (rh.fst.val.data.cell 22).toStr), (num
  (rh.fst.val.data.cell 23).toInt), (yes (rh.fst.val.data.cell 24).toBool), (num (rh.fst.val.data.cell 25).toInt), (num (rh.fst.val.data.cell 26).toInt), (str
  (rh.fst.val.data.cell 27).toStr), (num (rh.fst.val.data.cell 28).toInt), AV.e (E.sl 97 (rh.fst.val.data.cell 29).toList)]] []).bind fun rh => bif okHeap [] rh.2 then bif
  okRes PP 4 rh.fst then bif !rh.fst.val.data.toBool then some (Res.ret ((num 28)), []) else some (Res.ret (num 0), []) else none else none else none else none else none else
  none else none else none else some (Res.ret ((num 1)), []) else none else none else some (Res.ret ((num 1)), []) else none else none else some (Res.ret ((num 1)), []) else
  none else none else none else none := by kernel_rfl
theorem eq_RWord (run : RunF) (loop : LoopF) (a0 : Int) : bodyRun PP HH run loop none 36 [num a0] [] = bif bif decide (a0 < 1) then true else decide ((↑16 : Int) ≤ a0) then
  some (Res.ret ((str [])), []) else bif decide (0 ≤ a0) && decide (a0 < (↑16 : Int)) then some (Res.ret ((str (([E.str [], E.str [101, 120, 99, 104, 97, 110, 103, 101], E.str
  [113, 117, 101, 117, 101], E.str [98, 105, 110, 100], E.str [117, 110, 98, 105, 110, 100], E.str [112, 117, 98, 108, 105, 115, 104], E.str [99, 111, 110, 115, 117, 109,
  101], E.str [99, 97, 110, 99, 101, 108], E.str [97, 99, 107], E.str [110, 97, 99, 107], E.str [98, 101, 103, 105, 110], E.str [99, 111, 109, 109, 105, 116], E.str [114, 111,
  108, 108, 98, 97, 99, 107], E.str [112, 117, 114, 103, 101], E.str [100, 101, 108, 101, 116, 101], E.str [100, 101, 115, 99, 114, 105, 98, 101]].getD a0.toNat E.nili).cell
  0).toStr)), []) else none := by kernel_rfl
theorem eq_from (run : RunF) (loop : LoopF) (a0 a1 : Int) : bodyRun PP HH run loop none 37 [num a0, num a1] [] = some (Res.ret (yes (bif decide (0 ≤ a0) then decide (a0 ≤ a1)
  else false)), []) := by kernel_rfl
theorem eq_inner (run : RunF) (loop : LoopF) (a0_0 a0_1 a0_2 a0_3 a0_4 : Int) (a0_5 : Bool) (a0_6 a0_7 a0_8 : List UInt8) (a0_9 : Int) (a0_10 a0_11 : List UInt8) (a0_12 a0_13
  a0_14 : Int) (a0_15 a0_16 a0_17 a0_18 : List UInt8) (a0_19 : Bool) (a0_20 : List E) (a0_21 a0_22 : List UInt8) (a0_23 : Int) (a0_24 : Bool) (a0_25 a0_26 : Int) (a0_27 : List
  UInt8) (a0_28 : Int) (a0_29 : List E) : bodyRun PP HH run loop none 38 [.agg [num a0_0, num a0_1, num a0_2, num a0_3, num a0_4, yes a0_5, str a0_6, str a0_7, str a0_8, num
  a0_9, str a0_10, str a0_11, num a0_12, num a0_13, num a0_14, str a0_15, str a0_16, str a0_17, str a0_18, yes a0_19, .e (.sl 97 a0_20), str a0_21, str a0_22, num a0_23, yes
  a0_24, num a0_25, num a0_26, str a0_27, num a0_28, .e (.sl 97 a0_29)]] [] = bif a0_0 == 1 then (run none 80 [str a0_8] []).bind fun rh => bif okHeap [] rh.2 then bif okRes
  PP 4 rh.fst then bif !rh.fst.val.data.toBool then some (Res.ret ((num 11)), []) else (run none 49 [num a0_9] []).bind fun rh => bif okHeap [] rh.2 then bif okRes PP 9 rh.fst
  then bif strEq rh.fst.val.data.toStr ([] : List UInt8) then some (Res.ret (num 10), []) else (run none 81 [str a0_10] []).bind fun rh => bif okHeap [] rh.2 then bif okRes PP
  4 rh.fst then bif !rh.fst.val.data.toBool then some (Res.ret ((num 11)), []) else bif a0_0 == 2 then (run none 82 [AV.agg [str a0_11, num a0_12, num a0_13, num a0_14, str
  a0_15]] []).bind fun rh => bif okHeap [] rh.2 then bif okRes PP 23 rh.fst then some (Res.ret (num rh.fst.val.data.toInt), []) else none else none else bif bif a0_0 == 3 then
  true else a0_0 == 4 then (run none 83 [AV.agg [str a0_16, str a0_17, str a0_18, yes a0_19, AV.e (E.sl 97 a0_20)]] []).bind fun rh => bif okHeap [] rh.2 then bif okRes PP 23
  rh.fst then some (Res.ret (num rh.fst.val.data.toInt), []) else none else none else bif a0_0 == 5 then (run none 81 [str a0_6] []).bind fun rh => bif okHeap [] rh.2 then bif
  okRes PP 4 rh.fst then bif !rh.fst.val.data.toBool then some (Res.ret ((num 11)), []) else (run none 84 [str a0_7] []).bind fun rh => bif okHeap [] rh.2 then bif okRes PP 23
  rh.fst then bif !rh.fst.val.data.toInt == 0 then some (Res.ret ((num rh.fst.val.data.toInt)), []) else (run none 85 [AV.agg [str a0_21, str a0_22, num a0_23, yes a0_24, num
  a0_25, num a0_26, str a0_27, num a0_28, AV.e (E.sl 97 a0_29)]] []).bind fun rh => bif okHeap [] rh.2 then bif okRes PP 23 rh.fst then some (Res.ret (num
  rh.fst.val.data.toInt), []) else none else none else none else none else none else none else bif (bif a0_0 == 6 then true else decide (13 ≤ a0_0)) == true then (run none 80
  [str a0_6] []).bind fun rh => bif okHeap [] rh.2 then bif okRes PP 4 rh.fst then bif !rh.fst.val.data.toBool then some (Res.ret ((num 11)), []) else some (Res.ret ((num 0)),
  []) else none else none else some (Res.ret ((num 0)), []) else none else none else none else none else none else none else bif a0_0 == 2 then (run none 82 [AV.agg [str
  a0_11, num a0_12, num a0_13, num a0_14, str a0_15]] []).bind fun rh => bif okHeap [] rh.2 then bif okRes PP 23 rh.fst then some (Res.ret ((num rh.fst.val.data.toInt)), [])
  else none else none else bif bif a0_0 == 3 then true else a0_0 == 4 then (run none 83 [AV.agg [str a0_16, str a0_17, str a0_18, yes a0_19, AV.e (E.sl 97 a0_20)]] []).bind
  fun rh => bif okHeap [] rh.2 then bif okRes PP 23 rh.fst then some (Res.ret ((num rh.fst.val.data.toInt)), []) else none else none else bif a0_0 == 5 then (run none 81 [str
  a0_6] []).bind fun rh => bif okHeap [] rh.2 then bif okRes PP 4 rh.fst then bif !rh.fst.val.data.toBool then some (Res.ret ((num 11)), []) else (run none 84 [str a0_7]
  []).bind fun rh => bif okHeap [] rh.2 then bif okRes PP 23 rh.fst then bif !rh.fst.val.data.toInt == 0 then some (Res.ret ((num rh.fst.val.data.toInt)), []) else (run none
  85 [AV.agg [str a0_21, str a0_22, num a0_23, yes a0_24, num a0_25, num a0_26, str a0_27, num a0_28, AV.e (E.sl 97 a0_29)]] []).bind fun rh => bif okHeap [] rh.2 then bif
  okRes PP 23 rh.fst then some (Res.ret ((num rh.fst.val.data.toInt)), []) else none else none else none else none else none else none else bif (bif a0_0 == 6 then true else
  decide (13 ≤ a0_0)) == true then (run none 80 [str a0_6] []).bind fun rh => bif okHeap [] rh.2 then bif okRes PP 4 rh.fst then bif !rh.fst.val.data.toBool then some (Res.ret
  ((num 11)), []) else some (Res.ret ((num 0)), []) else none else none else some (Res.ret ((num 0)), []) := by kernel_rfl
theorem eq_RSame (run : RunF) (loop : LoopF) (a0_0 a0_1 a0_2 a0_3 a0_4 : Int) (a0_5 : Bool) (a0_6 a0_7 a0_8 : List UInt8) (a0_9 : Int) (a0_10 a0_11 : List UInt8) (a0_12 a0_13
  a0_14 : Int) (a0_15 a0_16 a0_17 a0_18 : List UInt8) (a0_19 : Bool) (a0_20 : List E) (a0_21 a0_22 : List UInt8) (a0_23 : Int) (a0_24 : Bool) (a0_25 a0_26 : Int) (a0_27 : List
  UInt8) (a0_28 : Int) (a0_29 : List E) (a1_0 a1_1 a1_2 a1_3 a1_4 : Int) (a1_5 : Bool) (a1_6 a1_7 a1_8 : List UInt8) (a1_9 : Int) (a1_10 a1_11 : List UInt8) (a1_12 a1_13 a1_14
  : Int) (a1_15 a1_16 a1_17 a1_18 : List UInt8) (a1_19 : Bool) (a1_20 : List E) (a1_21 a1_22 : List UInt8) (a1_23 : Int) (a1_24 : Bool) (a1_25 a1_26 : Int) (a1_27 : List
  UInt8) (a1_28 : Int) (a1_29 : List E) : bodyRun PP HH run loop none 23 [.agg [num a0_0, num a0_1, num a0_2, num a0_3, num a0_4, yes a0_5, str a0_6, str a0_7, str a0_8, num
  a0_9, str a0_10, str a0_11, num a0_12, num a0_13, num a0_14, str a0_15, str a0_16, str a0_17, str a0_18, yes a0_19, .e (.sl 97 a0_20), str a0_21, str a0_22, num a0_23, yes
  a0_24, num a0_25, num a0_26, str a0_27, num a0_28, .e (.sl 97 a0_29)], .agg [num a1_0, num a1_1, num a1_2, num a1_3, num a1_4, yes a1_5, str a1_6, str a1_7, str a1_8, num
  a1_9, str a1_10, str a1_11, num a1_12, num a1_13, num a1_14, str a1_15, str a1_16, str a1_17, str a1_18, yes a1_19, .e (.sl 97 a1_20), str a1_21, str a1_22, num a1_23, yes
  a1_24, num a1_25, num a1_26, str a1_27, num a1_28, .e (.sl 97 a1_29)]] [] = bif bif bif bif bif bif !a0_0 == a1_0 then true else !a0_1 == a1_1 then true else !a0_2 == a1_2
  then true else !a0_3 == a1_3 then true else !a0_4 == a1_4 then true else !a0_5 == a1_5 then some (Res.ret (yes false), []) else bif (bif bif bif strEq a0_6 a1_6 then strEq
  a0_7 a1_7 else false then strEq a0_8 a1_8 && (a0_9 == a1_9 && (strEq a0_10 a1_10 && true)) else false then strEq a0_11 a1_11 && (a0_12 == a1_12 && (a0_13 == a1_13 && (a0_14
  == a1_14 && (strEq a0_15 a1_15 && true)))) else false) == true then (run none 68 [AV.agg [str a0_16, str a0_17, str a0_18, yes a0_19, AV.e (E.sl 97 a0_20)], AV.agg [str
  a1_16, str a1_17, str a1_18, yes a1_19, AV.e (E.sl 97 a1_20)]] []).bind fun rh => bif okHeap [] rh.2 then bif okRes PP 4 rh.fst then bif rh.fst.val.data.toBool == true then
  (run none 27 [AV.agg [str a0_21, str a0_22, num a0_23, yes a0_24, num a0_25, num a0_26, str a0_27, num a0_28, AV.e (E.sl 97 a0_29)], AV.agg [str a1_21, str a1_22, num a1_23,
  yes a1_24, num a1_25, num a1_26, str a1_27, num a1_28, AV.e (E.sl 97 a1_29)]] []).bind fun rh => bif okHeap [] rh.2 then bif okRes PP 4 rh.fst then some (Res.ret ((yes
  rh.fst.val.data.toBool)), []) else none else none else some (Res.ret ((yes false)), []) else none else none else some (Res.ret (yes false), []) := by kernel_rfl
theorem eq_RSameBinding (run : RunF) (loop : LoopF) (a0_0 a0_1 a0_2 : List UInt8) (a0_3 : Bool) (a0_4 : List E) (a1_0 a1_1 a1_2 : List UInt8) (a1_3 : Bool) (a1_4 : List E) :
  bodyRun PP HH run loop none 68 [.agg [str a0_0, str a0_1, str a0_2, yes a0_3, .e (.sl 97 a0_4)], .agg [str a1_0, str a1_1, str a1_2, yes a1_3, .e (.sl 97 a1_4)]] [] = bif
  (bif bif bif strEq a0_0 a1_0 then strEq a0_1 a1_1 else false then strEq a0_2 a1_2 else false then a0_3 == a1_3 else false) == true then (run none 69 [AV.e (E.sl 97 a0_4),
  AV.e (E.sl 97 a1_4)] []).bind fun rh => bif okHeap [] rh.2 then bif okRes PP 4 rh.fst then some (Res.ret ((yes rh.fst.val.data.toBool)), []) else none else none else some
  (Res.ret ((yes false)), []) := by kernel_rfl
theorem eq_RExchange (run : RunF) (loop : LoopF) (a0 : Int) : bodyRun PP HH run loop none 49 [num a0] [] = bif bif decide (a0 < 1) then true else decide ((↑5 : Int) ≤ a0) then
  some (Res.ret ((str [])), []) else bif decide (0 ≤ a0) && decide (a0 < (↑5 : Int)) then some (Res.ret ((str (([E.str [], E.str [100, 105, 114, 101, 99, 116], E.str [102, 97,
  110, 111, 117, 116], E.str [116, 111, 112, 105, 99], E.str [104, 101, 97, 100, 101, 114, 115]].getD a0.toNat E.nili).cell 0).toStr)), []) else none := by kernel_rfl
theorem eq_Roptional (run : RunF) (loop : LoopF) (a0 : List UInt8) : bodyRun PP HH run loop none 81 [str a0] [] = bif strEq a0 ([] : List UInt8) == false then (run none 80
  [str a0] []).bind fun rh => bif okHeap [] rh.2 then bif okRes PP 4 rh.fst then some (Res.ret ((yes rh.fst.val.data.toBool)), []) else none else none else some (Res.ret ((yes
  true)), []) := by kernel_rfl
theorem eq_Rkey (run : RunF) (loop : LoopF) (a0 : List UInt8) : bodyRun PP HH run loop none 84 [str a0] [] = bif decide (64 < (↑a0.length : Int)) then some (Res.ret ((num 5)),
  []) else (run none 114 [str a0, AV.e (E.int IntKind.u8 0)] []).bind fun rh => bif okHeap [] rh.2 then bif okRes PP 4 rh.fst then bif rh.fst.val.data.toBool then some
  (Res.ret ((num 12)), []) else some (Res.ret ((num 0)), []) else none else none := by kernel_rfl
theorem eq_RSpec (run : RunF) (loop : LoopF) (a0_0 : List UInt8) (a0_1 a0_2 a0_3 : Int) (a0_4 : List UInt8) : bodyRun PP HH run loop none 82 [.agg [str a0_0, num a0_1, num
  a0_2, num a0_3, str a0_4]] [] = (run none 80 [str a0_0] []).bind fun rh => bif okHeap [] rh.2 then bif okRes PP 4 rh.fst then bif !rh.fst.val.data.toBool then some (Res.ret
  ((num 11)), []) else bif (bif decide (a0_1 < 1) then true else decide (256 < a0_1)) == false then (run none 37 [num a0_2, num 1099511627776] []).bind fun rh => bif okHeap []
  rh.2 then bif okRes PP 4 rh.fst then bif (!rh.fst.val.data.toBool) == false then (run none 37 [num a0_3, num 1099511627776] []).bind fun rh => bif okHeap [] rh.2 then bif
  okRes PP 4 rh.fst then bif !rh.fst.val.data.toBool then some (Res.ret ((num 1)), []) else (run none 81 [str a0_4] []).bind fun rh => bif okHeap [] rh.2 then bif okRes PP 4
  rh.fst then bif !rh.fst.val.data.toBool then some (Res.ret ((num 11)), []) else some (Res.ret (num 0), []) else none else none else none else none else some (Res.ret ((num
  1)), []) else none else none else some (Res.ret (num 1), []) else none else none := by kernel_rfl
theorem eq_Rbinding (run : RunF) (loop : LoopF) (a0_0 a0_1 a0_2 : List UInt8) (a0_3 : Bool) (a0_4 : List E) : bodyRun PP HH run loop none 83 [.agg [str a0_0, str a0_1, str
  a0_2, yes a0_3, .e (.sl 97 a0_4)]] [] = (run none 80 [str a0_0] []).bind fun rh => bif okHeap [] rh.2 then bif okRes PP 4 rh.fst then bif (!rh.fst.val.data.toBool) == false
  then (run none 80 [str a0_1] []).bind fun rh => bif okHeap [] rh.2 then bif okRes PP 4 rh.fst then bif !rh.fst.val.data.toBool then some (Res.ret ((num 11)), []) else (run
  none 84 [str a0_2] []).bind fun rh => bif okHeap [] rh.2 then bif okRes PP 23 rh.fst then bif !rh.fst.val.data.toInt == 0 then some (Res.ret ((num rh.fst.val.data.toInt)),
  []) else (run none 113 [AV.e (E.sl 97 a0_4)] []).bind fun rh => bif okHeap [] rh.2 then bif okRes PP 23 rh.fst then some (Res.ret ((num rh.fst.val.data.toInt)), []) else
  none else none else none else none else none else none else some (Res.ret ((num 11)), []) else none else none := by kernel_rfl
theorem eq_R1Name (run : RunF) (loop : LoopF) (a0 : List UInt8) : bodyRun PP HH run loop none 80 [str a0] [] = bif (bif decide ((↑a0.length : Int) < 1) then true else decide
  (16 < (↑a0.length : Int))) == false then bif decide (0 < (↑a0.length : Int)) then (run none 111 [AV.e (E.int IntKind.u8 (↑(a0.getD 0 0).toNat : Int))] []).bind fun rh => bif
  okHeap [] rh.2 then bif okRes PP 4 rh.fst then bif !rh.fst.val.data.toBool then some (Res.ret ((yes false)), []) else (loop 80 0 lc_80_4 ([str a0, uu, uu, num 0] ++
  List.replicate 38 uu) []).bind fun o => bif o.ex.isWay (Way.exit 0) then bif okFr (List.replicate 42 uu) o.2 && okHeap [] o.3 then some (Res.ret ((yes true)), []) else none
  else bif o.ex.isWay Way.ret then bif okFr ([uu, uu, yes false] ++ List.replicate 39 uu) o.2 && okHeap [] o.3 then some (Res.ret ((yes (List.getD o.fr 2 uu).data.toBool)),
  []) else none else none else none else none else none else some (Res.ret ((yes false)), []) := by kernel_rfl
theorem eq_R1NameL4 (run : RunF) (loop : LoopF) (t0 : List UInt8) (t3 : Int) : bodyLoop PP HH run loop 80 0 lc_80_4 (((List.replicate 42 uu).set 0 (str t0)).set 3 (num t3)) []
  = bif decide (t3 < (↑t0.length : Int)) then bif decide (0 ≤ t3) && decide (t3 < (↑t0.length : Int)) then (run none 111 [AV.e (E.int IntKind.u8 (↑(t0.getD t3.toNat 0).toNat :
  Int))] []).bind fun rh => bif okHeap [] rh.2 then bif okRes PP 4 rh.fst then bif (!rh.fst.val.data.toBool) == true then bif decide (0 ≤ t3) && decide (t3 < (↑t0.length :
  Int)) then (run none 112 [AV.e (E.int IntKind.u8 (↑(t0.getD t3.toNat 0).toNat : Int))] []).bind fun rh => bif okHeap [] rh.2 then bif okRes PP 4 rh.fst then bif
  (!rh.fst.val.data.toBool) == true then bif decide (0 ≤ t3) && decide (t3 < (↑t0.length : Int)) then bif !(↑(t0.getD t3.toNat 0).toNat : Int) == 45 then some (Out.mk (Ex.ret)
  (([uu, uu, yes false] ++ List.replicate 39 uu)) ([]) ([])) else (loop 80 0 lc_80_4 ([str t0, uu, uu, (num (IntKind.i64.wrap (t3 + 1)))] ++ List.replicate 38 uu) []).bind fun
  o => some o else none else (loop 80 0 lc_80_4 ([str t0, uu, uu, (num (IntKind.i64.wrap (t3 + 1)))] ++ List.replicate 38 uu) []).bind fun o => some o else none else none else
  none else (loop 80 0 lc_80_4 ([str t0, uu, uu, (num (IntKind.i64.wrap (t3 + 1)))] ++ List.replicate 38 uu) []).bind fun o => some o else none else none else none else some
  (Out.mk (Ex.exit 0) ((List.replicate 42 uu)) ([]) ([])) := by kernel_rfl
theorem eq_R1Has (run : RunF) (loop : LoopF) (a0 : List UInt8) (a1 : Int) : bodyRun PP HH run loop none 114 [str a0, .e (.int .u8 a1)] [] = (loop 114 0 lc_114_2 ([str a0, AV.e
  (E.int IntKind.u8 a1), uu, uu, uu, num 0] ++ List.replicate 11 uu) []).bind fun o => bif o.ex.isWay (Way.exit 0) then bif okFr (List.replicate 17 uu) o.2 && okHeap [] o.3
  then some (Res.ret ((yes false)), []) else none else bif o.ex.isWay Way.ret then bif okFr ([uu, uu, uu, uu, yes false] ++ List.replicate 12 uu) o.2 && okHeap [] o.3 then
  some (Res.ret ((yes (List.getD o.fr 4 uu).data.toBool)), []) else none else none := by kernel_rfl
theorem eq_R1HasL2 (run : RunF) (loop : LoopF) (t0 : List UInt8) (t1 t5 : Int) : bodyLoop PP HH run loop 114 0 lc_114_2 ((((List.replicate 17 uu).set 0 (str t0)).set 1 (.e
  (.int .u8 t1))).set 5 (num t5)) [] = bif decide (t5 < (↑t0.length : Int)) then bif decide (0 ≤ t5) && decide (t5 < (↑t0.length : Int)) then bif (↑(t0.getD t5.toNat 0).toNat
  : Int) == t1 then some (Out.mk (Ex.ret) (([uu, uu, uu, uu, yes true] ++ List.replicate 12 uu)) ([]) ([])) else (loop 114 0 lc_114_2 ([str t0, AV.e (E.int IntKind.u8 t1), uu,
  uu, uu, (num (IntKind.i64.wrap (t5 + 1)))] ++ List.replicate 11 uu) []).bind fun o => some o else none else some (Out.mk (Ex.exit 0) ((List.replicate 17 uu)) ([]) ([])) :=
  by kernel_rfl
theorem eq_R1Valid (run : RunF) (loop : LoopF) (a0 : List UInt8) : bodyRun PP HH run loop none 115 [str a0] [] = (run none 129 [str a0] []).bind fun rh => bif okHeap [] rh.2
  then bif okRes PP 4 rh.fst then bif rh.fst.val.data.toBool == true then (run none 114 [str a0, AV.e (E.int IntKind.u8 43)] []).bind fun rh => bif okHeap [] rh.2 then bif
  okRes PP 4 rh.fst then bif (!rh.fst.val.data.toBool) == true then (run none 114 [str a0, AV.e (E.int IntKind.u8 35)] []).bind fun rh => bif okHeap [] rh.2 then bif okRes PP
  4 rh.fst then some (Res.ret ((yes !rh.fst.val.data.toBool)), []) else none else none else some (Res.ret (yes false), []) else none else none else some (Res.ret ((yes
  false)), []) else none else none := by kernel_rfl
theorem eq_R1sized (run : RunF) (loop : LoopF) (a0 : List UInt8) : bodyRun PP HH run loop none 129 [str a0] [] = bif (bif decide (1 ≤ (↑a0.length : Int)) then decide
  ((↑a0.length : Int) ≤ 64) else false) == true then (run none 114 [str a0, AV.e (E.int IntKind.u8 0)] []).bind fun rh => bif okHeap [] rh.2 then bif okRes PP 4 rh.fst then
  bif (!rh.fst.val.data.toBool) == true then (run none 144 [str a0] []).bind fun rh => bif okHeap [] rh.2 then bif okRes PP 66 rh.fst then some (Res.ret ((yes (decide
  ((↑rh.fst.val.data.toList.length : Int) ≤ 8)))), []) else none else none else some (Res.ret ((yes false)), []) else none else none else some (Res.ret ((yes false)), []) :=
  by kernel_rfl
theorem eq_R1Levels (run : RunF) (loop : LoopF) (a0 : List UInt8) : bodyRun PP HH run loop none 144 [str a0] [] = (loop 144 0 lc_144_4 ([str a0, uu, uu, AV.own 0 9 [], num 0,
  num 0] ++ List.replicate 25 uu) [Ob.vec 9 0]).bind fun o => bif o.ex.isWay (Way.exit 0) then bif okFr ([str [], uu, uu, AV.own 0 9 [], num 0] ++ List.replicate 26 uu) o.2 &&
  okHeap [Ob.vec 9 0] o.3 then bif decide (0 ≤ (List.getD o.fr 4 uu).data.toInt) && decide ((List.getD o.fr 4 uu).data.toInt ≤ (↑(List.getD o.fr 0 uu).data.toStr.length :
  Int)) && decide ((↑(List.getD o.fr 0 uu).data.toStr.length : Int) ≤ (↑(List.getD o.fr 0 uu).data.toStr.length : Int)) then bif decide ((o.hp.ob 0).len = (List.getD o.fr 3
  uu).data.toList.length) && decide (((List.getD o.fr 3 uu).data.toList.length + (9, [E.str (List.drop (List.getD o.fr 4 uu).data.toInt.toNat (List.take (↑(List.getD o.fr 0
  uu).data.toStr.length : Int).toNat (List.getD o.fr 0 uu).data.toStr))]).snd.length) * 16 ≤ 140737488355328) then some (Res.ret (AV.e (E.sl 9 ((List.getD o.fr 3
  uu).data.toList ++ (9, [E.str (List.drop (List.getD o.fr 4 uu).data.toInt.toNat (List.take (↑(List.getD o.fr 0 uu).data.toStr.length : Int).toNat (List.getD o.fr 0
  uu).data.toStr))]).snd))), []) else none else none else none else none := by kernel_rfl
theorem eq_R1LevelsL4 (run : RunF) (loop : LoopF) (t0 : List UInt8) (t3 : List E) (t4 t5 : Int) : bodyLoop PP HH run loop 144 0 lc_144_4 (((((List.replicate 31 uu).set 0 (str
  t0)).set 3 (.own 0 9 t3)).set 4 (num t4)).set 5 (num t5)) [.vec 9 t3.length] = bif decide (t5 < (↑t0.length : Int)) then bif decide (0 ≤ t5) && decide (t5 < (↑t0.length :
  Int)) then bif (↑(t0.getD t5.toNat 0).toNat : Int) == 47 then bif decide (0 ≤ t4) && decide (t4 ≤ t5) && decide (t5 ≤ (↑t0.length : Int)) then bif decide (t3.length =
  t3.length) && decide ((t3.length + (9, [E.str (List.drop t4.toNat (List.take t5.toNat t0))]).snd.length) * 16 ≤ 140737488355328) then (loop 144 0 lc_144_4 ([str t0, uu, uu,
  AV.own 0 9 (t3 ++ (9, [E.str (List.drop t4.toNat (List.take t5.toNat t0))]).snd), (num (IntKind.i64.wrap (t5 + 1))), (num (IntKind.i64.wrap (t5 + 1)))] ++ List.replicate 25
  uu) [Ob.vec 9 (t3 ++ (9, [E.str (List.drop t4.toNat (List.take t5.toNat t0))]).snd).length]).bind fun o => some o else none else none else (loop 144 0 lc_144_4 ([str t0, uu,
  uu, AV.own 0 9 t3, num t4, (num (IntKind.i64.wrap (t5 + 1)))] ++ List.replicate 25 uu) [Ob.vec 9 t3.length]).bind fun o => some o else none else some (Out.mk (Ex.exit 0)
  (([str t0, uu, uu, AV.own 0 9 t3, num t4] ++ List.replicate 26 uu)) ([Ob.vec 9 t3.length]) ([])) := by kernel_rfl
theorem eq_lower (run : RunF) (loop : LoopF) (a0 : Int) : bodyRun PP HH run loop none 111 [.e (.int .u8 a0)] [] = some (Res.ret ((yes (bif decide (97 ≤ a0) then decide (a0 ≤
  122) else false))), []) := by kernel_rfl
theorem eq_digit (run : RunF) (loop : LoopF) (a0 : Int) : bodyRun PP HH run loop none 112 [.e (.int .u8 a0)] [] = some (Res.ret ((yes (bif decide (48 ≤ a0) then decide (a0 ≤
  57) else false))), []) := by kernel_rfl
theorem eq_R5Check (run : RunF) (loop : LoopF) (a0_0 a0_1 : List UInt8) (a0_2 : Int) (a0_3 : Bool) (a0_4 a0_5 : Int) (a0_6 : List UInt8) (a0_7 : Int) (a0_8 : List E) : bodyRun
  PP HH run loop none 85 [.agg [str a0_0, str a0_1, num a0_2, yes a0_3, num a0_4, num a0_5, str a0_6, num a0_7, .e (.sl 97 a0_8)]] [] = (run none 115 [str a0_0] []).bind fun
  rh => bif okHeap [] rh.2 then bif okRes PP 4 rh.fst then bif !rh.fst.val.data.toBool then some (Res.ret ((num 12)), []) else bif decide (256 < (↑a0_1.length : Int)) then
  some (Res.ret ((num 5)), []) else bif bif decide (a0_2 < 0) then true else decide (2 < a0_2) then some (Res.ret ((num 14)), []) else bif bif bif bif decide (a0_4 < 0) then
  true else decide (9 < a0_4) then true else decide (a0_5 < 0) then true else decide (1099511627776 < a0_5) then some (Res.ret ((num 1)), []) else bif (!strEq a0_6 ([] : List
  UInt8)) == true then (run none 80 [str a0_6] []).bind fun rh => bif okHeap [] rh.2 then bif okRes PP 4 rh.fst then bif !rh.fst.val.data.toBool then some (Res.ret ((num 11)),
  []) else bif bif decide (a0_7 < 0) then true else decide (1099511627776 < a0_7) then some (Res.ret ((num 1)), []) else (run none 113 [AV.e (E.sl 97 a0_8)] []).bind fun rh =>
  bif okHeap [] rh.2 then bif okRes PP 23 rh.fst then some (Res.ret ((num rh.fst.val.data.toInt)), []) else none else none else none else none else bif bif decide (a0_7 < 0)
  then true else decide (1099511627776 < a0_7) then some (Res.ret ((num 1)), []) else (run none 113 [AV.e (E.sl 97 a0_8)] []).bind fun rh => bif okHeap [] rh.2 then bif okRes
  PP 23 rh.fst then some (Res.ret ((num rh.fst.val.data.toInt)), []) else none else none else none else none := by kernel_rfl
theorem eq_R5Props (run : RunF) (loop : LoopF) (a0 : List E) : bodyRun PP HH run loop none 113 [.e (.sl 97 a0)] [] = bif decide (8 < (↑a0.length : Int)) then some (Res.ret
  ((num 5)), []) else (loop 113 0 lc_113_4 ([AV.e (E.sl 97 a0), uu, uu, num 0] ++ List.replicate 39 uu) []).bind fun o => bif o.ex.isWay (Way.exit 0) then bif okFr
  (List.replicate 43 uu) o.2 && okHeap [] o.3 then some (Res.ret ((num 0)), []) else none else bif o.ex.isWay Way.ret then bif okFr ([uu, uu, num 0] ++ List.replicate 40 uu)
  o.2 && okHeap [] o.3 then some (Res.ret (num (List.getD o.fr 2 uu).data.toInt), []) else none else none := by kernel_rfl
theorem eq_R5PropsL4 (run : RunF) (loop : LoopF) (t0 : List E) (t3 : Int) : bodyLoop PP HH run loop 113 0 lc_113_4 (((List.replicate 43 uu).set 0 (.e (.sl 97 t0))).set 3 (num
  t3)) [] = bif decide (t3 < (↑t0.length : Int)) then bif decide (0 ≤ t3) && decide (t3 < (↑t0.length : Int)) then (run none 128 [(str ((t0.getD t3.toNat E.nili).cell
  0).toStr)] []).bind fun rh => bif okHeap [] rh.2 then bif okRes PP 4 rh.fst then bif !rh.fst.val.data.toBool then some (Out.mk (Ex.ret) (([uu, uu, num 16] ++ List.replicate
  40 uu)) ([]) ([])) else bif decide (0 ≤ t3) && decide (t3 < (↑t0.length : Int)) then bif decide (160 < (↑((t0.getD t3.toNat E.nili).cell 1).toStr.length : Int)) then some
  (Out.mk (Ex.ret) (([uu, uu, num 5] ++ List.replicate 40 uu)) ([]) ([])) else bif decide (0 < t3) == true then bif decide (0 ≤ t3) && decide (t3 < (↑t0.length : Int)) then
  bif decide (0 ≤ IntKind.i64.wrap (t3 - 1)) && decide (IntKind.i64.wrap (t3 - 1) < (↑t0.length : Int)) then bif Op.bytesLess ((t0.getD t3.toNat E.nili).cell 0).toStr
  ((t0.getD (IntKind.i64.wrap (t3 - 1)).toNat E.nili).cell 0).toStr || strEq ((t0.getD t3.toNat E.nili).cell 0).toStr ((t0.getD (IntKind.i64.wrap (t3 - 1)).toNat E.nili).cell
  0).toStr then some (Out.mk (Ex.ret) (([uu, uu, num 16] ++ List.replicate 40 uu)) ([]) ([])) else (loop 113 0 lc_113_4 ([AV.e (E.sl 97 t0), uu, uu, (num (IntKind.i64.wrap (t3
  + 1)))] ++ List.replicate 39 uu) []).bind fun o => some o else none else none else (loop 113 0 lc_113_4 ([AV.e (E.sl 97 t0), uu, uu, (num (IntKind.i64.wrap (t3 + 1)))] ++
  List.replicate 39 uu) []).bind fun o => some o else none else none else none else none else some (Out.mk (Ex.exit 0) ((List.replicate 43 uu)) ([]) ([])) := by kernel_rfl
theorem eq_R5Key (run : RunF) (loop : LoopF) (a0 : List UInt8) : bodyRun PP HH run loop none 128 [str a0] [] = bif bif decide ((↑a0.length : Int) < 1) then true else decide
  (16 < (↑a0.length : Int)) then some (Res.ret ((yes false)), []) else (loop 128 0 lc_128_4 ([str a0, uu, uu, num 0] ++ List.replicate 38 uu) []).bind fun o => bif o.ex.isWay
  (Way.exit 0) then bif okFr (List.replicate 42 uu) o.2 && okHeap [] o.3 then some (Res.ret (yes true), []) else none else bif o.ex.isWay Way.ret then bif okFr ([uu, uu, yes
  false] ++ List.replicate 39 uu) o.2 && okHeap [] o.3 then some (Res.ret ((yes (List.getD o.fr 2 uu).data.toBool)), []) else none else none := by kernel_rfl
theorem eq_R5KeyL4 (run : RunF) (loop : LoopF) (t0 : List UInt8) (t3 : Int) : bodyLoop PP HH run loop 128 0 lc_128_4 (((List.replicate 42 uu).set 0 (str t0)).set 3 (num t3))
  [] = bif decide (t3 < (↑t0.length : Int)) then bif decide (0 ≤ t3) && decide (t3 < (↑t0.length : Int)) then bif (!bif decide (97 ≤ (↑(t0.getD t3.toNat 0).toNat : Int)) then
  decide ((↑(t0.getD t3.toNat 0).toNat : Int) ≤ 122) else false) == true then bif decide (48 ≤ (↑(t0.getD t3.toNat 0).toNat : Int)) == true then bif bif !decide ((↑(t0.getD
  t3.toNat 0).toNat : Int) ≤ 57) then !(↑(t0.getD t3.toNat 0).toNat : Int) == 45 else false then some (Out.mk (Ex.ret) (([uu, uu, yes false] ++ List.replicate 39 uu)) ([])
  ([])) else (loop 128 0 lc_128_4 ([str t0, uu, uu, (num (IntKind.i64.wrap (t3 + 1)))] ++ List.replicate 38 uu) []).bind fun o => some o else bif !(↑(t0.getD t3.toNat 0).toNat
  : Int) == 45 then some (Out.mk (Ex.ret) (([uu, uu, yes false] ++ List.replicate 39 uu)) ([]) ([])) else (loop 128 0 lc_128_4 ([str t0, uu, uu, (num (IntKind.i64.wrap (t3 +
  1)))] ++ List.replicate 38 uu) []).bind fun o => some o else (loop 128 0 lc_128_4 ([str t0, uu, uu, (num (IntKind.i64.wrap (t3 + 1)))] ++ List.replicate 38 uu) []).bind fun
  o => some o else none else some (Out.mk (Ex.exit 0) ((List.replicate 42 uu)) ([]) ([])) := by kernel_rfl
theorem eq_R5SameProps (run : RunF) (loop : LoopF) (a0 a1 : List E) : bodyRun PP HH run loop none 69 [.e (.sl 97 a0), .e (.sl 97 a1)] [] = bif !(↑a0.length : Int) ==
  (↑a1.length : Int) then some (Res.ret ((yes false)), []) else (loop 69 0 lc_69_4 ([AV.e (E.sl 97 a0), AV.e (E.sl 97 a1), uu, uu, uu, num 0] ++ List.replicate 20 uu) []).bind
  fun o => bif o.ex.isWay (Way.exit 0) then bif okFr (List.replicate 26 uu) o.2 && okHeap [] o.3 then some (Res.ret ((yes true)), []) else none else bif o.ex.isWay Way.ret
  then bif okFr ([uu, uu, uu, uu, yes false] ++ List.replicate 21 uu) o.2 && okHeap [] o.3 then some (Res.ret ((yes (List.getD o.fr 4 uu).data.toBool)), []) else none else
  none := by kernel_rfl
theorem eq_R5SamePropsL4 (run : RunF) (loop : LoopF) (t0 t1 : List E) (t5 : Int) : bodyLoop PP HH run loop 69 0 lc_69_4 ((((List.replicate 26 uu).set 0 (.e (.sl 97 t0))).set 1
  (.e (.sl 97 t1))).set 5 (num t5)) [] = bif decide (t5 < (↑t0.length : Int)) then bif decide (0 ≤ t5) && decide (t5 < (↑t0.length : Int)) then bif decide (0 ≤ t5) && decide
  (t5 < (↑t1.length : Int)) then bif !(strEq ((t0.getD t5.toNat E.nili).cell 0).toStr ((t1.getD t5.toNat E.nili).cell 0).toStr && (strEq ((t0.getD t5.toNat E.nili).cell
  1).toStr ((t1.getD t5.toNat E.nili).cell 1).toStr && true)) then some (Out.mk (Ex.ret) (([uu, uu, uu, uu, yes false] ++ List.replicate 21 uu)) ([]) ([])) else (loop 69 0
  lc_69_4 ([AV.e (E.sl 97 t0), AV.e (E.sl 97 t1), uu, uu, uu, (num (IntKind.i64.wrap (t5 + 1)))] ++ List.replicate 20 uu) []).bind fun o => some o else none else none else
  some (Out.mk (Ex.exit 0) ((List.replicate 26 uu)) ([]) ([])) := by kernel_rfl
theorem eq_R5Same (run : RunF) (loop : LoopF) (a0_0 a0_1 : List UInt8) (a0_2 : Int) (a0_3 : Bool) (a0_4 a0_5 : Int) (a0_6 : List UInt8) (a0_7 : Int) (a0_8 : List E) (a1_0 a1_1
  : List UInt8) (a1_2 : Int) (a1_3 : Bool) (a1_4 a1_5 : Int) (a1_6 : List UInt8) (a1_7 : Int) (a1_8 : List E) : bodyRun PP HH run loop none 27 [.agg [str a0_0, str a0_1, num
  a0_2, yes a0_3, num a0_4, num a0_5, str a0_6, num a0_7, .e (.sl 97 a0_8)], .agg [str a1_0, str a1_1, num a1_2, yes a1_3, num a1_4, num a1_5, str a1_6, num a1_7, .e (.sl 97
  a1_8)]] [] = bif (bif bif bif bif bif bif bif strEq a0_0 a1_0 then strEq a0_1 a1_1 else false then a0_2 == a1_2 else false then a0_3 == a1_3 else false then a0_4 == a1_4
  else false then a0_5 == a1_5 else false then strEq a0_6 a1_6 else false then a0_7 == a1_7 else false) == true then (run none 69 [AV.e (E.sl 97 a0_8), AV.e (E.sl 97 a1_8)]
  []).bind fun rh => bif okHeap [] rh.2 then bif okRes PP 4 rh.fst then some (Res.ret ((yes rh.fst.val.data.toBool)), []) else none else none else some (Res.ret ((yes false)),
  []) := by kernel_rfl
theorem eq_usedK1 (run : RunF) (loop : LoopF) (a0_1 a0_2 a0_3 a0_4 : Int) (a0_5 : Bool) (a0_6 a0_7 a0_8 : List UInt8) (a0_9 : Int) (a0_10 a0_11 : List UInt8) (a0_12 a0_13
  a0_14 : Int) (a0_15 a0_16 a0_17 a0_18 : List UInt8) (a0_19 : Bool) (a0_20 : List E) (a0_21 a0_22 : List UInt8) (a0_23 : Int) (a0_24 : Bool) (a0_25 a0_26 : Int) (a0_27 : List
  UInt8) (a0_28 : Int) (a0_29 : List E) : bodyRun PP HH run loop none 35 [.agg [num 1, num a0_1, num a0_2, num a0_3, num a0_4, yes a0_5, str a0_6, str a0_7, str a0_8, num
  a0_9, str a0_10, str a0_11, num a0_12, num a0_13, num a0_14, str a0_15, str a0_16, str a0_17, str a0_18, yes a0_19, .e (.sl 97 a0_20), str a0_21, str a0_22, num a0_23, yes
  a0_24, num a0_25, num a0_26, str a0_27, num a0_28, .e (.sl 97 a0_29)]] [] = some (Res.ret (AV.agg [num 1, num a0_1, num a0_2, num 0, num 0, yes false, str [], str [], str
  a0_8, num a0_9, str a0_10, str [], num 0, num 0, num 0, str [], str [], str [], str [], yes false, AV.e (E.sl 97 []), str [], str [], num 0, yes false, num 0, num 0, str [],
  num 0, AV.e (E.sl 97 [])]), []) := by kernel_rfl
theorem eq_usedK2 (run : RunF) (loop : LoopF) (a0_1 a0_2 a0_3 a0_4 : Int) (a0_5 : Bool) (a0_6 a0_7 a0_8 : List UInt8) (a0_9 : Int) (a0_10 a0_11 : List UInt8) (a0_12 a0_13
  a0_14 : Int) (a0_15 a0_16 a0_17 a0_18 : List UInt8) (a0_19 : Bool) (a0_20 : List E) (a0_21 a0_22 : List UInt8) (a0_23 : Int) (a0_24 : Bool) (a0_25 a0_26 : Int) (a0_27 : List
  UInt8) (a0_28 : Int) (a0_29 : List E) : bodyRun PP HH run loop none 35 [.agg [num 2, num a0_1, num a0_2, num a0_3, num a0_4, yes a0_5, str a0_6, str a0_7, str a0_8, num
  a0_9, str a0_10, str a0_11, num a0_12, num a0_13, num a0_14, str a0_15, str a0_16, str a0_17, str a0_18, yes a0_19, .e (.sl 97 a0_20), str a0_21, str a0_22, num a0_23, yes
  a0_24, num a0_25, num a0_26, str a0_27, num a0_28, .e (.sl 97 a0_29)]] [] = some (Res.ret (AV.agg [num 2, num a0_1, num a0_2, num 0, num 0, yes false, str [], str [], str
  [], num 0, str [], str a0_11, num a0_12, num a0_13, num a0_14, str a0_15, str [], str [], str [], yes false, AV.e (E.sl 97 []), str [], str [], num 0, yes false, num 0, num
  0, str [], num 0, AV.e (E.sl 97 [])]), []) := by kernel_rfl
theorem eq_usedK3 (run : RunF) (loop : LoopF) (a0_1 a0_2 a0_3 a0_4 : Int) (a0_5 : Bool) (a0_6 a0_7 a0_8 : List UInt8) (a0_9 : Int) (a0_10 a0_11 : List UInt8) (a0_12 a0_13
  a0_14 : Int) (a0_15 a0_16 a0_17 a0_18 : List UInt8) (a0_19 : Bool) (a0_20 : List E) (a0_21 a0_22 : List UInt8) (a0_23 : Int) (a0_24 : Bool) (a0_25 a0_26 : Int) (a0_27 : List
  UInt8) (a0_28 : Int) (a0_29 : List E) : bodyRun PP HH run loop none 35 [.agg [num 3, num a0_1, num a0_2, num a0_3, num a0_4, yes a0_5, str a0_6, str a0_7, str a0_8, num
  a0_9, str a0_10, str a0_11, num a0_12, num a0_13, num a0_14, str a0_15, str a0_16, str a0_17, str a0_18, yes a0_19, .e (.sl 97 a0_20), str a0_21, str a0_22, num a0_23, yes
  a0_24, num a0_25, num a0_26, str a0_27, num a0_28, .e (.sl 97 a0_29)]] [] = some (Res.ret (AV.agg [num 3, num a0_1, num a0_2, num 0, num 0, yes false, str [], str [], str
  [], num 0, str [], str [], num 0, num 0, num 0, str [], str a0_16, str a0_17, str a0_18, yes a0_19, AV.e (E.sl 97 a0_20), str [], str [], num 0, yes false, num 0, num 0, str
  [], num 0, AV.e (E.sl 97 [])]), []) := by kernel_rfl
theorem eq_usedK4 (run : RunF) (loop : LoopF) (a0_1 a0_2 a0_3 a0_4 : Int) (a0_5 : Bool) (a0_6 a0_7 a0_8 : List UInt8) (a0_9 : Int) (a0_10 a0_11 : List UInt8) (a0_12 a0_13
  a0_14 : Int) (a0_15 a0_16 a0_17 a0_18 : List UInt8) (a0_19 : Bool) (a0_20 : List E) (a0_21 a0_22 : List UInt8) (a0_23 : Int) (a0_24 : Bool) (a0_25 a0_26 : Int) (a0_27 : List
  UInt8) (a0_28 : Int) (a0_29 : List E) : bodyRun PP HH run loop none 35 [.agg [num 4, num a0_1, num a0_2, num a0_3, num a0_4, yes a0_5, str a0_6, str a0_7, str a0_8, num
  a0_9, str a0_10, str a0_11, num a0_12, num a0_13, num a0_14, str a0_15, str a0_16, str a0_17, str a0_18, yes a0_19, .e (.sl 97 a0_20), str a0_21, str a0_22, num a0_23, yes
  a0_24, num a0_25, num a0_26, str a0_27, num a0_28, .e (.sl 97 a0_29)]] [] = some (Res.ret (AV.agg [num 4, num a0_1, num a0_2, num 0, num 0, yes false, str [], str [], str
  [], num 0, str [], str [], num 0, num 0, num 0, str [], str a0_16, str a0_17, str a0_18, yes a0_19, AV.e (E.sl 97 a0_20), str [], str [], num 0, yes false, num 0, num 0, str
  [], num 0, AV.e (E.sl 97 [])]), []) := by kernel_rfl
theorem eq_usedK5 (run : RunF) (loop : LoopF) (a0_1 a0_2 a0_3 a0_4 : Int) (a0_5 : Bool) (a0_6 a0_7 a0_8 : List UInt8) (a0_9 : Int) (a0_10 a0_11 : List UInt8) (a0_12 a0_13
  a0_14 : Int) (a0_15 a0_16 a0_17 a0_18 : List UInt8) (a0_19 : Bool) (a0_20 : List E) (a0_21 a0_22 : List UInt8) (a0_23 : Int) (a0_24 : Bool) (a0_25 a0_26 : Int) (a0_27 : List
  UInt8) (a0_28 : Int) (a0_29 : List E) : bodyRun PP HH run loop none 35 [.agg [num 5, num a0_1, num a0_2, num a0_3, num a0_4, yes a0_5, str a0_6, str a0_7, str a0_8, num
  a0_9, str a0_10, str a0_11, num a0_12, num a0_13, num a0_14, str a0_15, str a0_16, str a0_17, str a0_18, yes a0_19, .e (.sl 97 a0_20), str a0_21, str a0_22, num a0_23, yes
  a0_24, num a0_25, num a0_26, str a0_27, num a0_28, .e (.sl 97 a0_29)]] [] = some (Res.ret (AV.agg [num 5, num a0_1, num a0_2, num 0, num 0, yes false, str a0_6, str a0_7,
  str [], num 0, str [], str [], num 0, num 0, num 0, str [], str [], str [], str [], yes false, AV.e (E.sl 97 []), str a0_21, str a0_22, num a0_23, yes a0_24, num a0_25, num
  a0_26, str a0_27, num a0_28, AV.e (E.sl 97 a0_29)]), []) := by kernel_rfl
theorem eq_usedK6 (run : RunF) (loop : LoopF) (a0_1 a0_2 a0_3 a0_4 : Int) (a0_5 : Bool) (a0_6 a0_7 a0_8 : List UInt8) (a0_9 : Int) (a0_10 a0_11 : List UInt8) (a0_12 a0_13
  a0_14 : Int) (a0_15 a0_16 a0_17 a0_18 : List UInt8) (a0_19 : Bool) (a0_20 : List E) (a0_21 a0_22 : List UInt8) (a0_23 : Int) (a0_24 : Bool) (a0_25 a0_26 : Int) (a0_27 : List
  UInt8) (a0_28 : Int) (a0_29 : List E) : bodyRun PP HH run loop none 35 [.agg [num 6, num a0_1, num a0_2, num a0_3, num a0_4, yes a0_5, str a0_6, str a0_7, str a0_8, num
  a0_9, str a0_10, str a0_11, num a0_12, num a0_13, num a0_14, str a0_15, str a0_16, str a0_17, str a0_18, yes a0_19, .e (.sl 97 a0_20), str a0_21, str a0_22, num a0_23, yes
  a0_24, num a0_25, num a0_26, str a0_27, num a0_28, .e (.sl 97 a0_29)]] [] = some (Res.ret (AV.agg [num 6, num a0_1, num a0_2, num a0_3, num a0_4, yes false, str a0_6, str
  [], str [], num 0, str [], str [], num 0, num 0, num 0, str [], str [], str [], str [], yes false, AV.e (E.sl 97 []), str [], str [], num 0, yes false, num 0, num 0, str [],
  num 0, AV.e (E.sl 97 [])]), []) := by kernel_rfl
theorem eq_usedK7 (run : RunF) (loop : LoopF) (a0_1 a0_2 a0_3 a0_4 : Int) (a0_5 : Bool) (a0_6 a0_7 a0_8 : List UInt8) (a0_9 : Int) (a0_10 a0_11 : List UInt8) (a0_12 a0_13
  a0_14 : Int) (a0_15 a0_16 a0_17 a0_18 : List UInt8) (a0_19 : Bool) (a0_20 : List E) (a0_21 a0_22 : List UInt8) (a0_23 : Int) (a0_24 : Bool) (a0_25 a0_26 : Int) (a0_27 : List
  UInt8) (a0_28 : Int) (a0_29 : List E) : bodyRun PP HH run loop none 35 [.agg [num 7, num a0_1, num a0_2, num a0_3, num a0_4, yes a0_5, str a0_6, str a0_7, str a0_8, num
  a0_9, str a0_10, str a0_11, num a0_12, num a0_13, num a0_14, str a0_15, str a0_16, str a0_17, str a0_18, yes a0_19, .e (.sl 97 a0_20), str a0_21, str a0_22, num a0_23, yes
  a0_24, num a0_25, num a0_26, str a0_27, num a0_28, .e (.sl 97 a0_29)]] [] = some (Res.ret (AV.agg [num 7, num a0_1, num a0_2, num a0_3, num 0, yes false, str [], str [], str
  [], num 0, str [], str [], num 0, num 0, num 0, str [], str [], str [], str [], yes false, AV.e (E.sl 97 []), str [], str [], num 0, yes false, num 0, num 0, str [], num 0,
  AV.e (E.sl 97 [])]), []) := by kernel_rfl
theorem eq_usedK8 (run : RunF) (loop : LoopF) (a0_1 a0_2 a0_3 a0_4 : Int) (a0_5 : Bool) (a0_6 a0_7 a0_8 : List UInt8) (a0_9 : Int) (a0_10 a0_11 : List UInt8) (a0_12 a0_13
  a0_14 : Int) (a0_15 a0_16 a0_17 a0_18 : List UInt8) (a0_19 : Bool) (a0_20 : List E) (a0_21 a0_22 : List UInt8) (a0_23 : Int) (a0_24 : Bool) (a0_25 a0_26 : Int) (a0_27 : List
  UInt8) (a0_28 : Int) (a0_29 : List E) : bodyRun PP HH run loop none 35 [.agg [num 8, num a0_1, num a0_2, num a0_3, num a0_4, yes a0_5, str a0_6, str a0_7, str a0_8, num
  a0_9, str a0_10, str a0_11, num a0_12, num a0_13, num a0_14, str a0_15, str a0_16, str a0_17, str a0_18, yes a0_19, .e (.sl 97 a0_20), str a0_21, str a0_22, num a0_23, yes
  a0_24, num a0_25, num a0_26, str a0_27, num a0_28, .e (.sl 97 a0_29)]] [] = some (Res.ret (AV.agg [num 8, num a0_1, num a0_2, num a0_3, num 0, yes a0_5, str [], str [], str
  [], num 0, str [], str [], num 0, num 0, num 0, str [], str [], str [], str [], yes false, AV.e (E.sl 97 []), str [], str [], num 0, yes false, num 0, num 0, str [], num 0,
  AV.e (E.sl 97 [])]), []) := by kernel_rfl
theorem eq_usedK9 (run : RunF) (loop : LoopF) (a0_1 a0_2 a0_3 a0_4 : Int) (a0_5 : Bool) (a0_6 a0_7 a0_8 : List UInt8) (a0_9 : Int) (a0_10 a0_11 : List UInt8) (a0_12 a0_13
  a0_14 : Int) (a0_15 a0_16 a0_17 a0_18 : List UInt8) (a0_19 : Bool) (a0_20 : List E) (a0_21 a0_22 : List UInt8) (a0_23 : Int) (a0_24 : Bool) (a0_25 a0_26 : Int) (a0_27 : List
  UInt8) (a0_28 : Int) (a0_29 : List E) : bodyRun PP HH run loop none 35 [.agg [num 9, num a0_1, num a0_2, num a0_3, num a0_4, yes a0_5, str a0_6, str a0_7, str a0_8, num
  a0_9, str a0_10, str a0_11, num a0_12, num a0_13, num a0_14, str a0_15, str a0_16, str a0_17, str a0_18, yes a0_19, .e (.sl 97 a0_20), str a0_21, str a0_22, num a0_23, yes
  a0_24, num a0_25, num a0_26, str a0_27, num a0_28, .e (.sl 97 a0_29)]] [] = some (Res.ret (AV.agg [num 9, num a0_1, num a0_2, num a0_3, num 0, yes a0_5, str [], str [], str
  [], num 0, str [], str [], num 0, num 0, num 0, str [], str [], str [], str [], yes false, AV.e (E.sl 97 []), str [], str [], num 0, yes false, num 0, num 0, str [], num 0,
  AV.e (E.sl 97 [])]), []) := by kernel_rfl
theorem eq_usedK10 (run : RunF) (loop : LoopF) (a0_1 a0_2 a0_3 a0_4 : Int) (a0_5 : Bool) (a0_6 a0_7 a0_8 : List UInt8) (a0_9 : Int) (a0_10 a0_11 : List UInt8) (a0_12 a0_13
  a0_14 : Int) (a0_15 a0_16 a0_17 a0_18 : List UInt8) (a0_19 : Bool) (a0_20 : List E) (a0_21 a0_22 : List UInt8) (a0_23 : Int) (a0_24 : Bool) (a0_25 a0_26 : Int) (a0_27 : List
  UInt8) (a0_28 : Int) (a0_29 : List E) : bodyRun PP HH run loop none 35 [.agg [num 10, num a0_1, num a0_2, num a0_3, num a0_4, yes a0_5, str a0_6, str a0_7, str a0_8, num
  a0_9, str a0_10, str a0_11, num a0_12, num a0_13, num a0_14, str a0_15, str a0_16, str a0_17, str a0_18, yes a0_19, .e (.sl 97 a0_20), str a0_21, str a0_22, num a0_23, yes
  a0_24, num a0_25, num a0_26, str a0_27, num a0_28, .e (.sl 97 a0_29)]] [] = some (Res.ret (AV.agg [num 10, num a0_1, num a0_2, num 0, num 0, yes false, str [], str [], str
  [], num 0, str [], str [], num 0, num 0, num 0, str [], str [], str [], str [], yes false, AV.e (E.sl 97 []), str [], str [], num 0, yes false, num 0, num 0, str [], num 0,
  AV.e (E.sl 97 [])]), []) := by kernel_rfl
theorem eq_usedK11 (run : RunF) (loop : LoopF) (a0_1 a0_2 a0_3 a0_4 : Int) (a0_5 : Bool) (a0_6 a0_7 a0_8 : List UInt8) (a0_9 : Int) (a0_10 a0_11 : List UInt8) (a0_12 a0_13
  a0_14 : Int) (a0_15 a0_16 a0_17 a0_18 : List UInt8) (a0_19 : Bool) (a0_20 : List E) (a0_21 a0_22 : List UInt8) (a0_23 : Int) (a0_24 : Bool) (a0_25 a0_26 : Int) (a0_27 : List
  UInt8) (a0_28 : Int) (a0_29 : List E) : bodyRun PP HH run loop none 35 [.agg [num 11, num a0_1, num a0_2, num a0_3, num a0_4, yes a0_5, str a0_6, str a0_7, str a0_8, num
  a0_9, str a0_10, str a0_11, num a0_12, num a0_13, num a0_14, str a0_15, str a0_16, str a0_17, str a0_18, yes a0_19, .e (.sl 97 a0_20), str a0_21, str a0_22, num a0_23, yes
  a0_24, num a0_25, num a0_26, str a0_27, num a0_28, .e (.sl 97 a0_29)]] [] = some (Res.ret (AV.agg [num 11, num a0_1, num a0_2, num 0, num 0, yes false, str [], str [], str
  [], num 0, str [], str [], num 0, num 0, num 0, str [], str [], str [], str [], yes false, AV.e (E.sl 97 []), str [], str [], num 0, yes false, num 0, num 0, str [], num 0,
  AV.e (E.sl 97 [])]), []) := by kernel_rfl
theorem eq_usedK12 (run : RunF) (loop : LoopF) (a0_1 a0_2 a0_3 a0_4 : Int) (a0_5 : Bool) (a0_6 a0_7 a0_8 : List UInt8) (a0_9 : Int) (a0_10 a0_11 : List UInt8) (a0_12 a0_13
  a0_14 : Int) (a0_15 a0_16 a0_17 a0_18 : List UInt8) (a0_19 : Bool) (a0_20 : List E) (a0_21 a0_22 : List UInt8) (a0_23 : Int) (a0_24 : Bool) (a0_25 a0_26 : Int) (a0_27 : List
  UInt8) (a0_28 : Int) (a0_29 : List E) : bodyRun PP HH run loop none 35 [.agg [num 12, num a0_1, num a0_2, num a0_3, num a0_4, yes a0_5, str a0_6, str a0_7, str a0_8, num
  a0_9, str a0_10, str a0_11, num a0_12, num a0_13, num a0_14, str a0_15, str a0_16, str a0_17, str a0_18, yes a0_19, .e (.sl 97 a0_20), str a0_21, str a0_22, num a0_23, yes
  a0_24, num a0_25, num a0_26, str a0_27, num a0_28, .e (.sl 97 a0_29)]] [] = some (Res.ret (AV.agg [num 12, num a0_1, num a0_2, num 0, num 0, yes false, str [], str [], str
  [], num 0, str [], str [], num 0, num 0, num 0, str [], str [], str [], str [], yes false, AV.e (E.sl 97 []), str [], str [], num 0, yes false, num 0, num 0, str [], num 0,
  AV.e (E.sl 97 [])]), []) := by kernel_rfl
theorem eq_usedK13 (run : RunF) (loop : LoopF) (a0_1 a0_2 a0_3 a0_4 : Int) (a0_5 : Bool) (a0_6 a0_7 a0_8 : List UInt8) (a0_9 : Int) (a0_10 a0_11 : List UInt8) (a0_12 a0_13
  a0_14 : Int) (a0_15 a0_16 a0_17 a0_18 : List UInt8) (a0_19 : Bool) (a0_20 : List E) (a0_21 a0_22 : List UInt8) (a0_23 : Int) (a0_24 : Bool) (a0_25 a0_26 : Int) (a0_27 : List
  UInt8) (a0_28 : Int) (a0_29 : List E) : bodyRun PP HH run loop none 35 [.agg [num 13, num a0_1, num a0_2, num a0_3, num a0_4, yes a0_5, str a0_6, str a0_7, str a0_8, num
  a0_9, str a0_10, str a0_11, num a0_12, num a0_13, num a0_14, str a0_15, str a0_16, str a0_17, str a0_18, yes a0_19, .e (.sl 97 a0_20), str a0_21, str a0_22, num a0_23, yes
  a0_24, num a0_25, num a0_26, str a0_27, num a0_28, .e (.sl 97 a0_29)]] [] = some (Res.ret (AV.agg [num 13, num a0_1, num a0_2, num 0, num 0, yes false, str a0_6, str [], str
  [], num 0, str [], str [], num 0, num 0, num 0, str [], str [], str [], str [], yes false, AV.e (E.sl 97 []), str [], str [], num 0, yes false, num 0, num 0, str [], num 0,
  AV.e (E.sl 97 [])]), []) := by kernel_rfl
theorem eq_usedK14 (run : RunF) (loop : LoopF) (a0_1 a0_2 a0_3 a0_4 : Int) (a0_5 : Bool) (a0_6 a0_7 a0_8 : List UInt8) (a0_9 : Int) (a0_10 a0_11 : List UInt8) (a0_12 a0_13
  a0_14 : Int) (a0_15 a0_16 a0_17 a0_18 : List UInt8) (a0_19 : Bool) (a0_20 : List E) (a0_21 a0_22 : List UInt8) (a0_23 : Int) (a0_24 : Bool) (a0_25 a0_26 : Int) (a0_27 : List
  UInt8) (a0_28 : Int) (a0_29 : List E) : bodyRun PP HH run loop none 35 [.agg [num 14, num a0_1, num a0_2, num a0_3, num a0_4, yes a0_5, str a0_6, str a0_7, str a0_8, num
  a0_9, str a0_10, str a0_11, num a0_12, num a0_13, num a0_14, str a0_15, str a0_16, str a0_17, str a0_18, yes a0_19, .e (.sl 97 a0_20), str a0_21, str a0_22, num a0_23, yes
  a0_24, num a0_25, num a0_26, str a0_27, num a0_28, .e (.sl 97 a0_29)]] [] = some (Res.ret (AV.agg [num 14, num a0_1, num a0_2, num 0, num 0, yes false, str a0_6, str [], str
  [], num 0, str [], str [], num 0, num 0, num 0, str [], str [], str [], str [], yes false, AV.e (E.sl 97 []), str [], str [], num 0, yes false, num 0, num 0, str [], num 0,
  AV.e (E.sl 97 [])]), []) := by kernel_rfl
theorem eq_usedK15 (run : RunF) (loop : LoopF) (a0_1 a0_2 a0_3 a0_4 : Int) (a0_5 : Bool) (a0_6 a0_7 a0_8 : List UInt8) (a0_9 : Int) (a0_10 a0_11 : List UInt8) (a0_12 a0_13
  a0_14 : Int) (a0_15 a0_16 a0_17 a0_18 : List UInt8) (a0_19 : Bool) (a0_20 : List E) (a0_21 a0_22 : List UInt8) (a0_23 : Int) (a0_24 : Bool) (a0_25 a0_26 : Int) (a0_27 : List
  UInt8) (a0_28 : Int) (a0_29 : List E) : bodyRun PP HH run loop none 35 [.agg [num 15, num a0_1, num a0_2, num a0_3, num a0_4, yes a0_5, str a0_6, str a0_7, str a0_8, num
  a0_9, str a0_10, str a0_11, num a0_12, num a0_13, num a0_14, str a0_15, str a0_16, str a0_17, str a0_18, yes a0_19, .e (.sl 97 a0_20), str a0_21, str a0_22, num a0_23, yes
  a0_24, num a0_25, num a0_26, str a0_27, num a0_28, .e (.sl 97 a0_29)]] [] = some (Res.ret (AV.agg [num 15, num a0_1, num a0_2, num 0, num 0, yes false, str a0_6, str [], str
  [], num 0, str [], str [], num 0, num 0, num 0, str [], str [], str [], str [], yes false, AV.e (E.sl 97 []), str [], str [], num 0, yes false, num 0, num 0, str [], num 0,
  AV.e (E.sl 97 [])]), []) := by kernel_rfl
theorem eq_UsedK1 (run : RunF) (loop : LoopF) (a0_1 a0_2 a0_3 a0_4 : Int) (a0_5 : Bool) (a0_6 a0_7 a0_8 : List UInt8) (a0_9 : Int) (a0_10 a0_11 : List UInt8) (a0_12 a0_13
  a0_14 : Int) (a0_15 a0_16 a0_17 a0_18 : List UInt8) (a0_19 : Bool) (a0_20 : List E) (a0_21 a0_22 : List UInt8) (a0_23 : Int) (a0_24 : Bool) (a0_25 a0_26 : Int) (a0_27 : List
  UInt8) (a0_28 : Int) (a0_29 : List E) : bodyRun PP HH run loop none 39 [.agg [num 1, num a0_1, num a0_2, num a0_3, num a0_4, yes a0_5, str a0_6, str a0_7, str a0_8, num
  a0_9, str a0_10, str a0_11, num a0_12, num a0_13, num a0_14, str a0_15, str a0_16, str a0_17, str a0_18, yes a0_19, .e (.sl 97 a0_20), str a0_21, str a0_22, num a0_23, yes
  a0_24, num a0_25, num a0_26, str a0_27, num a0_28, .e (.sl 97 a0_29)]] [] = some (Res.ret (AV.agg [num 1, num a0_1, num a0_2, num 0, num 0, yes false, str [], str [], str
  a0_8, num a0_9, str a0_10, str [], num 0, num 0, num 0, str [], str [], str [], str [], yes false, AV.e (E.sl 97 []), str [], str [], num 0, yes false, num 0, num 0, str [],
  num 0, AV.e (E.sl 97 [])]), []) := by kernel_rfl
theorem eq_UsedK2 (run : RunF) (loop : LoopF) (a0_1 a0_2 a0_3 a0_4 : Int) (a0_5 : Bool) (a0_6 a0_7 a0_8 : List UInt8) (a0_9 : Int) (a0_10 a0_11 : List UInt8) (a0_12 a0_13
  a0_14 : Int) (a0_15 a0_16 a0_17 a0_18 : List UInt8) (a0_19 : Bool) (a0_20 : List E) (a0_21 a0_22 : List UInt8) (a0_23 : Int) (a0_24 : Bool) (a0_25 a0_26 : Int) (a0_27 : List
  UInt8) (a0_28 : Int) (a0_29 : List E) : bodyRun PP HH run loop none 39 [.agg [num 2, num a0_1, num a0_2, num a0_3, num a0_4, yes a0_5, str a0_6, str a0_7, str a0_8, num
  a0_9, str a0_10, str a0_11, num a0_12, num a0_13, num a0_14, str a0_15, str a0_16, str a0_17, str a0_18, yes a0_19, .e (.sl 97 a0_20), str a0_21, str a0_22, num a0_23, yes
  a0_24, num a0_25, num a0_26, str a0_27, num a0_28, .e (.sl 97 a0_29)]] [] = some (Res.ret (AV.agg [num 2, num a0_1, num a0_2, num 0, num 0, yes false, str [], str [], str
  [], num 0, str [], str a0_11, num a0_12, num a0_13, num a0_14, str a0_15, str [], str [], str [], yes false, AV.e (E.sl 97 []), str [], str [], num 0, yes false, num 0, num
  0, str [], num 0, AV.e (E.sl 97 [])]), []) := by kernel_rfl
theorem eq_UsedK3 (run : RunF) (loop : LoopF) (a0_1 a0_2 a0_3 a0_4 : Int) (a0_5 : Bool) (a0_6 a0_7 a0_8 : List UInt8) (a0_9 : Int) (a0_10 a0_11 : List UInt8) (a0_12 a0_13
  a0_14 : Int) (a0_15 a0_16 a0_17 a0_18 : List UInt8) (a0_19 : Bool) (a0_20 : List E) (a0_21 a0_22 : List UInt8) (a0_23 : Int) (a0_24 : Bool) (a0_25 a0_26 : Int) (a0_27 : List
  UInt8) (a0_28 : Int) (a0_29 : List E) : bodyRun PP HH run loop none 39 [.agg [num 3, num a0_1, num a0_2, num a0_3, num a0_4, yes a0_5, str a0_6, str a0_7, str a0_8, num
  a0_9, str a0_10, str a0_11, num a0_12, num a0_13, num a0_14, str a0_15, str a0_16, str a0_17, str a0_18, yes a0_19, .e (.sl 97 a0_20), str a0_21, str a0_22, num a0_23, yes
  a0_24, num a0_25, num a0_26, str a0_27, num a0_28, .e (.sl 97 a0_29)]] [] = some (Res.ret (AV.agg [num 3, num a0_1, num a0_2, num 0, num 0, yes false, str [], str [], str
  [], num 0, str [], str [], num 0, num 0, num 0, str [], str a0_16, str a0_17, str a0_18, yes a0_19, AV.e (E.sl 97 a0_20), str [], str [], num 0, yes false, num 0, num 0, str
  [], num 0, AV.e (E.sl 97 [])]), []) := by kernel_rfl
theorem eq_UsedK4 (run : RunF) (loop : LoopF) (a0_1 a0_2 a0_3 a0_4 : Int) (a0_5 : Bool) (a0_6 a0_7 a0_8 : List UInt8) (a0_9 : Int) (a0_10 a0_11 : List UInt8) (a0_12 a0_13
  a0_14 : Int) (a0_15 a0_16 a0_17 a0_18 : List UInt8) (a0_19 : Bool) (a0_20 : List E) (a0_21 a0_22 : List UInt8) (a0_23 : Int) (a0_24 : Bool) (a0_25 a0_26 : Int) (a0_27 : List
  UInt8) (a0_28 : Int) (a0_29 : List E) : bodyRun PP HH run loop none 39 [.agg [num 4, num a0_1, num a0_2, num a0_3, num a0_4, yes a0_5, str a0_6, str a0_7, str a0_8, num
  a0_9, str a0_10, str a0_11, num a0_12, num a0_13, num a0_14, str a0_15, str a0_16, str a0_17, str a0_18, yes a0_19, .e (.sl 97 a0_20), str a0_21, str a0_22, num a0_23, yes
  a0_24, num a0_25, num a0_26, str a0_27, num a0_28, .e (.sl 97 a0_29)]] [] = some (Res.ret (AV.agg [num 4, num a0_1, num a0_2, num 0, num 0, yes false, str [], str [], str
  [], num 0, str [], str [], num 0, num 0, num 0, str [], str a0_16, str a0_17, str a0_18, yes a0_19, AV.e (E.sl 97 a0_20), str [], str [], num 0, yes false, num 0, num 0, str
  [], num 0, AV.e (E.sl 97 [])]), []) := by kernel_rfl
theorem eq_UsedK5 (run : RunF) (loop : LoopF) (a0_1 a0_2 a0_3 a0_4 : Int) (a0_5 : Bool) (a0_6 a0_7 a0_8 : List UInt8) (a0_9 : Int) (a0_10 a0_11 : List UInt8) (a0_12 a0_13
  a0_14 : Int) (a0_15 a0_16 a0_17 a0_18 : List UInt8) (a0_19 : Bool) (a0_20 : List E) (a0_21 a0_22 : List UInt8) (a0_23 : Int) (a0_24 : Bool) (a0_25 a0_26 : Int) (a0_27 : List
  UInt8) (a0_28 : Int) (a0_29 : List E) : bodyRun PP HH run loop none 39 [.agg [num 5, num a0_1, num a0_2, num a0_3, num a0_4, yes a0_5, str a0_6, str a0_7, str a0_8, num
  a0_9, str a0_10, str a0_11, num a0_12, num a0_13, num a0_14, str a0_15, str a0_16, str a0_17, str a0_18, yes a0_19, .e (.sl 97 a0_20), str a0_21, str a0_22, num a0_23, yes
  a0_24, num a0_25, num a0_26, str a0_27, num a0_28, .e (.sl 97 a0_29)]] [] = some (Res.ret (AV.agg [num 5, num a0_1, num a0_2, num 0, num 0, yes false, str a0_6, str a0_7,
  str [], num 0, str [], str [], num 0, num 0, num 0, str [], str [], str [], str [], yes false, AV.e (E.sl 97 []), str a0_21, str a0_22, num a0_23, yes a0_24, num a0_25, num
  a0_26, str a0_27, num a0_28, AV.e (E.sl 97 a0_29)]), []) := by kernel_rfl
theorem eq_UsedK6 (run : RunF) (loop : LoopF) (a0_1 a0_2 a0_3 a0_4 : Int) (a0_5 : Bool) (a0_6 a0_7 a0_8 : List UInt8) (a0_9 : Int) (a0_10 a0_11 : List UInt8) (a0_12 a0_13
  a0_14 : Int) (a0_15 a0_16 a0_17 a0_18 : List UInt8) (a0_19 : Bool) (a0_20 : List E) (a0_21 a0_22 : List UInt8) (a0_23 : Int) (a0_24 : Bool) (a0_25 a0_26 : Int) (a0_27 : List
  UInt8) (a0_28 : Int) (a0_29 : List E) : bodyRun PP HH run loop none 39 [.agg [num 6, num a0_1, num a0_2, num a0_3, num a0_4, yes a0_5, str a0_6, str a0_7, str a0_8, num
  a0_9, str a0_10, str a0_11, num a0_12, num a0_13, num a0_14, str a0_15, str a0_16, str a0_17, str a0_18, yes a0_19, .e (.sl 97 a0_20), str a0_21, str a0_22, num a0_23, yes
  a0_24, num a0_25, num a0_26, str a0_27, num a0_28, .e (.sl 97 a0_29)]] [] = some (Res.ret (AV.agg [num 6, num a0_1, num a0_2, num a0_3, num a0_4, yes false, str a0_6, str
  [], str [], num 0, str [], str [], num 0, num 0, num 0, str [], str [], str [], str [], yes false, AV.e (E.sl 97 []), str [], str [], num 0, yes false, num 0, num 0, str [],
  num 0, AV.e (E.sl 97 [])]), []) := by kernel_rfl
theorem eq_UsedK7 (run : RunF) (loop : LoopF) (a0_1 a0_2 a0_3 a0_4 : Int) (a0_5 : Bool) (a0_6 a0_7 a0_8 : List UInt8) (a0_9 : Int) (a0_10 a0_11 : List UInt8) (a0_12 a0_13
  a0_14 : Int) (a0_15 a0_16 a0_17 a0_18 : List UInt8) (a0_19 : Bool) (a0_20 : List E) (a0_21 a0_22 : List UInt8) (a0_23 : Int) (a0_24 : Bool) (a0_25 a0_26 : Int) (a0_27 : List
  UInt8) (a0_28 : Int) (a0_29 : List E) : bodyRun PP HH run loop none 39 [.agg [num 7, num a0_1, num a0_2, num a0_3, num a0_4, yes a0_5, str a0_6, str a0_7, str a0_8, num
  a0_9, str a0_10, str a0_11, num a0_12, num a0_13, num a0_14, str a0_15, str a0_16, str a0_17, str a0_18, yes a0_19, .e (.sl 97 a0_20), str a0_21, str a0_22, num a0_23, yes
  a0_24, num a0_25, num a0_26, str a0_27, num a0_28, .e (.sl 97 a0_29)]] [] = some (Res.ret (AV.agg [num 7, num a0_1, num a0_2, num a0_3, num 0, yes false, str [], str [], str
  [], num 0, str [], str [], num 0, num 0, num 0, str [], str [], str [], str [], yes false, AV.e (E.sl 97 []), str [], str [], num 0, yes false, num 0, num 0, str [], num 0,
  AV.e (E.sl 97 [])]), []) := by kernel_rfl
theorem eq_UsedK8 (run : RunF) (loop : LoopF) (a0_1 a0_2 a0_3 a0_4 : Int) (a0_5 : Bool) (a0_6 a0_7 a0_8 : List UInt8) (a0_9 : Int) (a0_10 a0_11 : List UInt8) (a0_12 a0_13
  a0_14 : Int) (a0_15 a0_16 a0_17 a0_18 : List UInt8) (a0_19 : Bool) (a0_20 : List E) (a0_21 a0_22 : List UInt8) (a0_23 : Int) (a0_24 : Bool) (a0_25 a0_26 : Int) (a0_27 : List
  UInt8) (a0_28 : Int) (a0_29 : List E) : bodyRun PP HH run loop none 39 [.agg [num 8, num a0_1, num a0_2, num a0_3, num a0_4, yes a0_5, str a0_6, str a0_7, str a0_8, num
  a0_9, str a0_10, str a0_11, num a0_12, num a0_13, num a0_14, str a0_15, str a0_16, str a0_17, str a0_18, yes a0_19, .e (.sl 97 a0_20), str a0_21, str a0_22, num a0_23, yes
  a0_24, num a0_25, num a0_26, str a0_27, num a0_28, .e (.sl 97 a0_29)]] [] = some (Res.ret (AV.agg [num 8, num a0_1, num a0_2, num a0_3, num 0, yes a0_5, str [], str [], str
  [], num 0, str [], str [], num 0, num 0, num 0, str [], str [], str [], str [], yes false, AV.e (E.sl 97 []), str [], str [], num 0, yes false, num 0, num 0, str [], num 0,
  AV.e (E.sl 97 [])]), []) := by kernel_rfl
theorem eq_UsedK9 (run : RunF) (loop : LoopF) (a0_1 a0_2 a0_3 a0_4 : Int) (a0_5 : Bool) (a0_6 a0_7 a0_8 : List UInt8) (a0_9 : Int) (a0_10 a0_11 : List UInt8) (a0_12 a0_13
  a0_14 : Int) (a0_15 a0_16 a0_17 a0_18 : List UInt8) (a0_19 : Bool) (a0_20 : List E) (a0_21 a0_22 : List UInt8) (a0_23 : Int) (a0_24 : Bool) (a0_25 a0_26 : Int) (a0_27 : List
  UInt8) (a0_28 : Int) (a0_29 : List E) : bodyRun PP HH run loop none 39 [.agg [num 9, num a0_1, num a0_2, num a0_3, num a0_4, yes a0_5, str a0_6, str a0_7, str a0_8, num
  a0_9, str a0_10, str a0_11, num a0_12, num a0_13, num a0_14, str a0_15, str a0_16, str a0_17, str a0_18, yes a0_19, .e (.sl 97 a0_20), str a0_21, str a0_22, num a0_23, yes
  a0_24, num a0_25, num a0_26, str a0_27, num a0_28, .e (.sl 97 a0_29)]] [] = some (Res.ret (AV.agg [num 9, num a0_1, num a0_2, num a0_3, num 0, yes a0_5, str [], str [], str
  [], num 0, str [], str [], num 0, num 0, num 0, str [], str [], str [], str [], yes false, AV.e (E.sl 97 []), str [], str [], num 0, yes false, num 0, num 0, str [], num 0,
  AV.e (E.sl 97 [])]), []) := by kernel_rfl
theorem eq_UsedK10 (run : RunF) (loop : LoopF) (a0_1 a0_2 a0_3 a0_4 : Int) (a0_5 : Bool) (a0_6 a0_7 a0_8 : List UInt8) (a0_9 : Int) (a0_10 a0_11 : List UInt8) (a0_12 a0_13
  a0_14 : Int) (a0_15 a0_16 a0_17 a0_18 : List UInt8) (a0_19 : Bool) (a0_20 : List E) (a0_21 a0_22 : List UInt8) (a0_23 : Int) (a0_24 : Bool) (a0_25 a0_26 : Int) (a0_27 : List
  UInt8) (a0_28 : Int) (a0_29 : List E) : bodyRun PP HH run loop none 39 [.agg [num 10, num a0_1, num a0_2, num a0_3, num a0_4, yes a0_5, str a0_6, str a0_7, str a0_8, num
  a0_9, str a0_10, str a0_11, num a0_12, num a0_13, num a0_14, str a0_15, str a0_16, str a0_17, str a0_18, yes a0_19, .e (.sl 97 a0_20), str a0_21, str a0_22, num a0_23, yes
  a0_24, num a0_25, num a0_26, str a0_27, num a0_28, .e (.sl 97 a0_29)]] [] = some (Res.ret (AV.agg [num 10, num a0_1, num a0_2, num 0, num 0, yes false, str [], str [], str
  [], num 0, str [], str [], num 0, num 0, num 0, str [], str [], str [], str [], yes false, AV.e (E.sl 97 []), str [], str [], num 0, yes false, num 0, num 0, str [], num 0,
  AV.e (E.sl 97 [])]), []) := by kernel_rfl
theorem eq_UsedK11 (run : RunF) (loop : LoopF) (a0_1 a0_2 a0_3 a0_4 : Int) (a0_5 : Bool) (a0_6 a0_7 a0_8 : List UInt8) (a0_9 : Int) (a0_10 a0_11 : List UInt8) (a0_12 a0_13
  a0_14 : Int) (a0_15 a0_16 a0_17 a0_18 : List UInt8) (a0_19 : Bool) (a0_20 : List E) (a0_21 a0_22 : List UInt8) (a0_23 : Int) (a0_24 : Bool) (a0_25 a0_26 : Int) (a0_27 : List
  UInt8) (a0_28 : Int) (a0_29 : List E) : bodyRun PP HH run loop none 39 [.agg [num 11, num a0_1, num a0_2, num a0_3, num a0_4, yes a0_5, str a0_6, str a0_7, str a0_8, num
  a0_9, str a0_10, str a0_11, num a0_12, num a0_13, num a0_14, str a0_15, str a0_16, str a0_17, str a0_18, yes a0_19, .e (.sl 97 a0_20), str a0_21, str a0_22, num a0_23, yes
  a0_24, num a0_25, num a0_26, str a0_27, num a0_28, .e (.sl 97 a0_29)]] [] = some (Res.ret (AV.agg [num 11, num a0_1, num a0_2, num 0, num 0, yes false, str [], str [], str
  [], num 0, str [], str [], num 0, num 0, num 0, str [], str [], str [], str [], yes false, AV.e (E.sl 97 []), str [], str [], num 0, yes false, num 0, num 0, str [], num 0,
  AV.e (E.sl 97 [])]), []) := by kernel_rfl
theorem eq_UsedK12 (run : RunF) (loop : LoopF) (a0_1 a0_2 a0_3 a0_4 : Int) (a0_5 : Bool) (a0_6 a0_7 a0_8 : List UInt8) (a0_9 : Int) (a0_10 a0_11 : List UInt8) (a0_12 a0_13
  a0_14 : Int) (a0_15 a0_16 a0_17 a0_18 : List UInt8) (a0_19 : Bool) (a0_20 : List E) (a0_21 a0_22 : List UInt8) (a0_23 : Int) (a0_24 : Bool) (a0_25 a0_26 : Int) (a0_27 : List
  UInt8) (a0_28 : Int) (a0_29 : List E) : bodyRun PP HH run loop none 39 [.agg [num 12, num a0_1, num a0_2, num a0_3, num a0_4, yes a0_5, str a0_6, str a0_7, str a0_8, num
  a0_9, str a0_10, str a0_11, num a0_12, num a0_13, num a0_14, str a0_15, str a0_16, str a0_17, str a0_18, yes a0_19, .e (.sl 97 a0_20), str a0_21, str a0_22, num a0_23, yes
  a0_24, num a0_25, num a0_26, str a0_27, num a0_28, .e (.sl 97 a0_29)]] [] = some (Res.ret (AV.agg [num 12, num a0_1, num a0_2, num 0, num 0, yes false, str [], str [], str
  [], num 0, str [], str [], num 0, num 0, num 0, str [], str [], str [], str [], yes false, AV.e (E.sl 97 []), str [], str [], num 0, yes false, num 0, num 0, str [], num 0,
  AV.e (E.sl 97 [])]), []) := by kernel_rfl
theorem eq_UsedK13 (run : RunF) (loop : LoopF) (a0_1 a0_2 a0_3 a0_4 : Int) (a0_5 : Bool) (a0_6 a0_7 a0_8 : List UInt8) (a0_9 : Int) (a0_10 a0_11 : List UInt8) (a0_12 a0_13
  a0_14 : Int) (a0_15 a0_16 a0_17 a0_18 : List UInt8) (a0_19 : Bool) (a0_20 : List E) (a0_21 a0_22 : List UInt8) (a0_23 : Int) (a0_24 : Bool) (a0_25 a0_26 : Int) (a0_27 : List
  UInt8) (a0_28 : Int) (a0_29 : List E) : bodyRun PP HH run loop none 39 [.agg [num 13, num a0_1, num a0_2, num a0_3, num a0_4, yes a0_5, str a0_6, str a0_7, str a0_8, num
  a0_9, str a0_10, str a0_11, num a0_12, num a0_13, num a0_14, str a0_15, str a0_16, str a0_17, str a0_18, yes a0_19, .e (.sl 97 a0_20), str a0_21, str a0_22, num a0_23, yes
  a0_24, num a0_25, num a0_26, str a0_27, num a0_28, .e (.sl 97 a0_29)]] [] = some (Res.ret (AV.agg [num 13, num a0_1, num a0_2, num 0, num 0, yes false, str a0_6, str [], str
  [], num 0, str [], str [], num 0, num 0, num 0, str [], str [], str [], str [], yes false, AV.e (E.sl 97 []), str [], str [], num 0, yes false, num 0, num 0, str [], num 0,
  AV.e (E.sl 97 [])]), []) := by kernel_rfl
theorem eq_UsedK14 (run : RunF) (loop : LoopF) (a0_1 a0_2 a0_3 a0_4 : Int) (a0_5 : Bool) (a0_6 a0_7 a0_8 : List UInt8) (a0_9 : Int) (a0_10 a0_11 : List UInt8) (a0_12 a0_13
  a0_14 : Int) (a0_15 a0_16 a0_17 a0_18 : List UInt8) (a0_19 : Bool) (a0_20 : List E) (a0_21 a0_22 : List UInt8) (a0_23 : Int) (a0_24 : Bool) (a0_25 a0_26 : Int) (a0_27 : List
  UInt8) (a0_28 : Int) (a0_29 : List E) : bodyRun PP HH run loop none 39 [.agg [num 14, num a0_1, num a0_2, num a0_3, num a0_4, yes a0_5, str a0_6, str a0_7, str a0_8, num
  a0_9, str a0_10, str a0_11, num a0_12, num a0_13, num a0_14, str a0_15, str a0_16, str a0_17, str a0_18, yes a0_19, .e (.sl 97 a0_20), str a0_21, str a0_22, num a0_23, yes
  a0_24, num a0_25, num a0_26, str a0_27, num a0_28, .e (.sl 97 a0_29)]] [] = some (Res.ret (AV.agg [num 14, num a0_1, num a0_2, num 0, num 0, yes false, str a0_6, str [], str
  [], num 0, str [], str [], num 0, num 0, num 0, str [], str [], str [], str [], yes false, AV.e (E.sl 97 []), str [], str [], num 0, yes false, num 0, num 0, str [], num 0,
  AV.e (E.sl 97 [])]), []) := by kernel_rfl
theorem eq_UsedK15 (run : RunF) (loop : LoopF) (a0_1 a0_2 a0_3 a0_4 : Int) (a0_5 : Bool) (a0_6 a0_7 a0_8 : List UInt8) (a0_9 : Int) (a0_10 a0_11 : List UInt8) (a0_12 a0_13
  a0_14 : Int) (a0_15 a0_16 a0_17 a0_18 : List UInt8) (a0_19 : Bool) (a0_20 : List E) (a0_21 a0_22 : List UInt8) (a0_23 : Int) (a0_24 : Bool) (a0_25 a0_26 : Int) (a0_27 : List
  UInt8) (a0_28 : Int) (a0_29 : List E) : bodyRun PP HH run loop none 39 [.agg [num 15, num a0_1, num a0_2, num a0_3, num a0_4, yes a0_5, str a0_6, str a0_7, str a0_8, num
  a0_9, str a0_10, str a0_11, num a0_12, num a0_13, num a0_14, str a0_15, str a0_16, str a0_17, str a0_18, yes a0_19, .e (.sl 97 a0_20), str a0_21, str a0_22, num a0_23, yes
  a0_24, num a0_25, num a0_26, str a0_27, num a0_28, .e (.sl 97 a0_29)]] [] = some (Res.ret (AV.agg [num 15, num a0_1, num a0_2, num 0, num 0, yes false, str a0_6, str [], str
  [], num 0, str [], str [], num 0, num 0, num 0, str [], str [], str [], str [], yes false, AV.e (E.sl 97 []), str [], str [], num 0, yes false, num 0, num 0, str [], num 0,
  AV.e (E.sl 97 [])]), []) := by kernel_rfl
end Go.Proofs.YtmocefjnplmibaaGreatDoor
