/- The equations of functions, as a program of mine prints them. -/
import Derived.Test.YtmocefjnplmibaaGreatDoorBase
namespace Go.Proofs.YtmocefjnplmibaaGreatDoor
open Go Go.Den
set_option maxRecDepth 100000
set_option maxHeartbeats 0

theorem eq_Check (run : RunF) (loop : LoopF) (a0_0 : Int) (a0_1 : Int) (a0_2 : Int) (a0_3 : Int) (a0_4 : Int) (a0_5 : Bool) (a0_6 : List UInt8) (a0_7 : List UInt8) (a0_8 : List
  UInt8) (a0_9 : Int) (a0_10 : List UInt8) (a0_11 : List UInt8) (a0_12 : Int) (a0_13 : Int) (a0_14 : Int) (a0_15 : List UInt8) (a0_16 : List UInt8) (a0_17 : List UInt8) (a0_18 :
  List UInt8) (a0_19 : Bool) (a0_20 : List E) (a0_21 : List UInt8) (a0_22 : List UInt8) (a0_23 : Int) (a0_24 : Bool) (a0_25 : Int) (a0_26 : Int) (a0_27 : List UInt8) (a0_28 : Int)
  (a0_29 : List E) : bodyRun PP HH run loop none 17 [.agg [.e (.int .i64 a0_0), .e (.int .i64 a0_1), .e (.int .i64 a0_2), .e (.int .i64 a0_3), .e (.int .i64 a0_4),
  .e (.bool a0_5), .e (.str a0_6), .e (.str a0_7), .e (.str a0_8), .e (.int .i64 a0_9), .e (.str a0_10), .e (.str a0_11), .e (.int .i64 a0_12), .e (.int .i64 a0_13), .e (.int .i64
  a0_14), .e (.str a0_15), .e (.str a0_16), .e (.str a0_17), .e (.str a0_18), .e (.bool a0_19), .e (.sl 97 a0_20), .e (.str a0_21), .e (.str a0_22), .e (.int .i64 a0_23), .e (.bool
  a0_24), .e (.int .i64 a0_25), .e (.int .i64 a0_26), .e (.str a0_27), .e (.int .i64 a0_28), .e (.sl 97 a0_29)]] [] = (run none 32 [(num a0_0), AV.e (E.int
  IntKind.i64 1), (num 15)] []).bind fun rh => bif okHeap [] rh.2 then bif okRes PP 4 rh.fst then bif !rh.fst.val.data.toBool then some (Res.ret (AV.e
  (E.int IntKind.i64 10)), []) else (loop 17 0 lc_17_4 ([uu, AV.ptr 0 0] ++ List.replicate 16 uu ++ [AV.own 1 3 (elems PP 3 1 4 [E.int IntKind.i64 a0_4, E.int
  IntKind.i64 a0_3, E.int IntKind.i64 a0_2, E.int IntKind.i64 a0_1].reverse), (num (↑(elems PP 3 1 4 [E.int IntKind.i64 a0_4, E.int IntKind.i64 a0_3,
  E.int IntKind.i64 a0_2, E.int IntKind.i64 a0_1].reverse).length : Int)), (num 0)] ++ List.replicate 17 uu) [Ob.box [(num a0_0), AV.e
  (E.int IntKind.i64 a0_1), (num a0_2), (num a0_3), (num a0_4), (yes a0_5), (str a0_6), (str a0_7),
  (str a0_8), (num a0_9), (str a0_10), (str a0_11), (num a0_12), (num a0_13), AV.e (E.int IntKind.i64
  a0_14), (str a0_15), (str a0_16), (str a0_17), (str a0_18), (yes a0_19), AV.e (E.sl 97 a0_20), (str a0_21), (str a0_22), AV.e
  (E.int IntKind.i64 a0_23), (yes a0_24), (num a0_25), (num a0_26), (str a0_27), (num a0_28), AV.e (E.sl 97
  a0_29)], Ob.vec 3 4]).bind fun o => bif o.ex.isWay (Way.exit 0) then bif okFr ([uu, AV.ptr 0 0] ++ List.replicate 36 uu) o.2 && okHeap [Ob.box [AV.e (E.int
  IntKind.i64 0), (num 0), (num 0), (num 0), (num 0), (yes false), (str []), AV.e (E.str
  []), (str []), (num 0), (str []), (str []), (num 0), (num 0), (num 0), AV.e
  (E.str []), (str []), (str []), (str []), (yes false), AV.e (E.sl 97 []), (str []), (str []), (num 0), AV.e (E.bool
  false), (num 0), (num 0), (str []), (num 0), AV.e (E.sl 97 [])]] o.3 then (run none 33 [AV.agg [AV.e (E.int
  IntKind.i64 ((o.hp.ob 0).cell 0).data.toInt), (num ((o.hp.ob 0).cell 1).data.toInt), (num ((o.hp.ob 0).cell 2).data.toInt), AV.e (E.int
  IntKind.i64 ((o.hp.ob 0).cell 3).data.toInt), (num ((o.hp.ob 0).cell 4).data.toInt), (yes ((o.hp.ob 0).cell 5).data.toBool), (str ((o.hp.ob
  0).cell 6).data.toStr), (str ((o.hp.ob 0).cell 7).data.toStr), (str ((o.hp.ob 0).cell 8).data.toStr), (num ((o.hp.ob 0).cell 9).data.toInt), AV.e
  (E.str ((o.hp.ob 0).cell 10).data.toStr), (str ((o.hp.ob 0).cell 11).data.toStr), (num ((o.hp.ob 0).cell 12).data.toInt), AV.e (E.int IntKind.i64
  ((o.hp.ob 0).cell 13).data.toInt), (num ((o.hp.ob 0).cell 14).data.toInt), (str ((o.hp.ob 0).cell 15).data.toStr), (str ((o.hp.ob 0).cell
  16).data.toStr), (str ((o.hp.ob 0).cell 17).data.toStr), (str ((o.hp.ob 0).cell 18).data.toStr), (yes ((o.hp.ob 0).cell 19).data.toBool), AV.e (E.sl 97
  ((o.hp.ob 0).cell 20).data.toList), (str ((o.hp.ob 0).cell 21).data.toStr), (str ((o.hp.ob 0).cell 22).data.toStr), (num ((o.hp.ob 0).cell
  23).data.toInt), (yes ((o.hp.ob 0).cell 24).data.toBool), (num ((o.hp.ob 0).cell 25).data.toInt), (num ((o.hp.ob 0).cell
  26).data.toInt), (str ((o.hp.ob 0).cell 27).data.toStr), (num ((o.hp.ob 0).cell 28).data.toInt), AV.e (E.sl 97 ((o.hp.ob 0).cell 29).data.toList)]]
  []).bind fun rh => bif okHeap [] rh.2 then bif okRes PP 23 rh.fst then bif !rh.fst.val.data.toInt == 0 then some (Res.ret ((num rh.fst.val.data.toInt)),
  []) else (run none 35 [AV.agg [(num ((o.hp.ob 0).cell 0).data.toInt), (num ((o.hp.ob 0).cell 1).data.toInt), AV.e (E.int IntKind.i64
  ((o.hp.ob 0).cell 2).data.toInt), (num ((o.hp.ob 0).cell 3).data.toInt), (num ((o.hp.ob 0).cell 4).data.toInt), (yes ((o.hp.ob
  0).cell 5).data.toBool), (str ((o.hp.ob 0).cell 6).data.toStr), (str ((o.hp.ob 0).cell 7).data.toStr), (str ((o.hp.ob 0).cell 8).data.toStr), AV.e (E.int
  IntKind.i64 ((o.hp.ob 0).cell 9).data.toInt), (str ((o.hp.ob 0).cell 10).data.toStr), (str ((o.hp.ob 0).cell 11).data.toStr), (num ((o.hp.ob
  0).cell 12).data.toInt), (num ((o.hp.ob 0).cell 13).data.toInt), (num ((o.hp.ob 0).cell 14).data.toInt), (str ((o.hp.ob 0).cell
  15).data.toStr), (str ((o.hp.ob 0).cell 16).data.toStr), (str ((o.hp.ob 0).cell 17).data.toStr), (str ((o.hp.ob 0).cell 18).data.toStr), AV.e (E.bool
  ((o.hp.ob 0).cell 19).data.toBool), AV.e (E.sl 97 ((o.hp.ob 0).cell 20).data.toList), (str ((o.hp.ob 0).cell 21).data.toStr), (str ((o.hp.ob 0).cell
  22).data.toStr), (num ((o.hp.ob 0).cell 23).data.toInt), (yes ((o.hp.ob 0).cell 24).data.toBool), (num ((o.hp.ob 0).cell
  25).data.toInt), (num ((o.hp.ob 0).cell 26).data.toInt), (str ((o.hp.ob 0).cell 27).data.toStr), (num ((o.hp.ob 0).cell
  28).data.toInt), AV.e (E.sl 97 ((o.hp.ob 0).cell 29).data.toList)]] []).bind fun rh => bif okHeap [] rh.2 then bif okRes PP 39 rh.fst then (run none 34 [AV.agg [AV.e
  (E.int IntKind.i64 ((o.hp.ob 0).cell 0).data.toInt), (num ((o.hp.ob 0).cell 1).data.toInt), (num ((o.hp.ob 0).cell 2).data.toInt), AV.e
  (E.int IntKind.i64 ((o.hp.ob 0).cell 3).data.toInt), (num ((o.hp.ob 0).cell 4).data.toInt), (yes ((o.hp.ob 0).cell 5).data.toBool), AV.e (E.str
  ((o.hp.ob 0).cell 6).data.toStr), (str ((o.hp.ob 0).cell 7).data.toStr), (str ((o.hp.ob 0).cell 8).data.toStr), (num ((o.hp.ob 0).cell
  9).data.toInt), (str ((o.hp.ob 0).cell 10).data.toStr), (str ((o.hp.ob 0).cell 11).data.toStr), (num ((o.hp.ob 0).cell 12).data.toInt), AV.e
  (E.int IntKind.i64 ((o.hp.ob 0).cell 13).data.toInt), (num ((o.hp.ob 0).cell 14).data.toInt), (str ((o.hp.ob 0).cell 15).data.toStr), AV.e (E.str
  ((o.hp.ob 0).cell 16).data.toStr), (str ((o.hp.ob 0).cell 17).data.toStr), (str ((o.hp.ob 0).cell 18).data.toStr), (yes ((o.hp.ob 0).cell 19).data.toBool),
  AV.e (E.sl 97 ((o.hp.ob 0).cell 20).data.toList), (str ((o.hp.ob 0).cell 21).data.toStr), (str ((o.hp.ob 0).cell 22).data.toStr), (num ((o.hp.ob
  0).cell 23).data.toInt), (yes ((o.hp.ob 0).cell 24).data.toBool), (num ((o.hp.ob 0).cell 25).data.toInt), (num ((o.hp.ob 0).cell
  26).data.toInt), (str ((o.hp.ob 0).cell 27).data.toStr), (num ((o.hp.ob 0).cell 28).data.toInt), AV.e (E.sl 97 ((o.hp.ob 0).cell 29).data.toList)],
  AV.agg [(num (rh.fst.val.data.cell 0).toInt), (num (rh.fst.val.data.cell 1).toInt), (num (rh.fst.val.data.cell 2).toInt),
  (num (rh.fst.val.data.cell 3).toInt), (num (rh.fst.val.data.cell 4).toInt), (yes (rh.fst.val.data.cell 5).toBool), AV.e (E.str
  (rh.fst.val.data.cell 6).toStr), (str (rh.fst.val.data.cell 7).toStr), (str (rh.fst.val.data.cell 8).toStr), (num (rh.fst.val.data.cell
  9).toInt), (str (rh.fst.val.data.cell 10).toStr), (str (rh.fst.val.data.cell 11).toStr), (num (rh.fst.val.data.cell 12).toInt), AV.e (E.int
  IntKind.i64 (rh.fst.val.data.cell 13).toInt), (num (rh.fst.val.data.cell 14).toInt), (str (rh.fst.val.data.cell 15).toStr), AV.e (E.str
  (rh.fst.val.data.cell 16).toStr), (str (rh.fst.val.data.cell 17).toStr), (str (rh.fst.val.data.cell 18).toStr), (yes (rh.fst.val.data.cell 19).toBool), AV.e
  (E.sl 97 (rh.fst.val.data.cell 20).toList), (str (rh.fst.val.data.cell 21).toStr), (str (rh.fst.val.data.cell 22).toStr), AV.e (E.int IntKind.i64
  (rh.fst.val.data.cell 23).toInt), (yes (rh.fst.val.data.cell 24).toBool), (num (rh.fst.val.data.cell 25).toInt), AV.e (E.int IntKind.i64
  (rh.fst.val.data.cell 26).toInt), (str (rh.fst.val.data.cell 27).toStr), (num (rh.fst.val.data.cell 28).toInt), AV.e (E.sl 97 (rh.fst.val.data.cell
  29).toList)]] []).bind fun rh => bif okHeap [] rh.2 then bif okRes PP 4 rh.fst then bif !rh.fst.val.data.toBool then some (Res.ret ((num 28)), []) else
  some (Res.ret ((num 0)), []) else none else none else none else none else none else none else none else bif o.ex.isWay Way.ret then bif okFr ([uu,
  uu, (num 0)] ++ List.replicate 35 uu) o.2 && okHeap [] o.3 then some (Res.ret ((num (List.getD o.fr 2 uu).data.toInt)),
  []) else none else none else none else none := by kernel_rfl
theorem eq_CheckL4 (run : RunF) (loop : LoopF) (t18 : List E) (t19 : Int) (t20 : Int) (t1_0 : Int) (t1_1 : Int) (t1_2 : Int) (t1_3 : Int) (t1_4 : Int) (t1_5 : Bool) (t1_6 : List
  UInt8) (t1_7 : List UInt8) (t1_8 : List UInt8) (t1_9 : Int) (t1_10 : List UInt8) (t1_11 : List UInt8) (t1_12 : Int) (t1_13 : Int) (t1_14 : Int) (t1_15 : List UInt8) (t1_16 : List
  UInt8) (t1_17 : List UInt8) (t1_18 : List UInt8) (t1_19 : Bool) (t1_20 : List E) (t1_21 : List UInt8) (t1_22 : List UInt8) (t1_23 : Int) (t1_24 : Bool) (t1_25 : Int) (t1_26 :
  Int) (t1_27 : List UInt8) (t1_28 : Int) (t1_29 : List E) : bodyLoop PP HH run loop 17 0 lc_17_4 (((((List.replicate 38 uu).set 1 (.ptr 0 0)).set 18 (.own 1
  3 t18)).set 19 (.e (.int .i64 t19))).set 20 (.e (.int .i64 t20))) [.box [.e (.int .i64 t1_0), .e (.int .i64 t1_1), .e (.int .i64 t1_2), .e (.int .i64 t1_3), .e (.int .i64 t1_4),
  .e (.bool t1_5), .e (.str t1_6), .e (.str t1_7), .e (.str t1_8), .e (.int .i64 t1_9), .e (.str t1_10), .e (.str t1_11), .e (.int .i64 t1_12), .e (.int .i64 t1_13), .e (.int .i64
  t1_14), .e (.str t1_15), .e (.str t1_16), .e (.str t1_17), .e (.str t1_18), .e (.bool t1_19), .e (.sl 97 t1_20), .e (.str t1_21), .e (.str t1_22), .e (.int .i64 t1_23), .e (.bool
  t1_24), .e (.int .i64 t1_25), .e (.int .i64 t1_26), .e (.str t1_27), .e (.int .i64 t1_28), .e (.sl 97 t1_29)], .vec 3 t18.length] = bif decide (t20 < t19) then bif decide (0 ≤
  t20) && decide (t20 < (↑t18.length : Int)) then (run none 32 [(num ((t18.getD t20.toNat E.nili).cell 0).toInt), (num 0), AV.e (E.int
  IntKind.i64 1099511627776)] []).bind fun rh => bif okHeap [] rh.2 then bif okRes PP 4 rh.fst then bif !rh.fst.val.data.toBool then some (Out.mk (Ex.ret) (([uu,
  uu, (num 1)] ++ List.replicate 35 uu)) ([]) ([])) else (loop 17 0 lc_17_4 ([uu, AV.ptr 0 0] ++ List.replicate 16 uu ++ [AV.own 1 3 t18,
  (num t19), (num (IntKind.i64.wrap (t20 + 1)))] ++ List.replicate 17 uu) [Ob.box [(num t1_0), AV.e (E.int
  IntKind.i64 t1_1), (num t1_2), (num t1_3), (num t1_4), (yes t1_5), (str t1_6), (str t1_7), AV.e
  (E.str t1_8), (num t1_9), (str t1_10), (str t1_11), (num t1_12), (num t1_13), AV.e (E.int IntKind.i64
  t1_14), (str t1_15), (str t1_16), (str t1_17), (str t1_18), (yes t1_19), AV.e (E.sl 97 t1_20), (str t1_21), (str t1_22), AV.e
  (E.int IntKind.i64 t1_23), (yes t1_24), (num t1_25), (num t1_26), (str t1_27), (num t1_28), AV.e (E.sl 97
  t1_29)], Ob.vec 3 t18.length]).bind fun o => some o else none else none else none else some (Out.mk (Ex.exit 0) (([uu, AV.ptr 0 0] ++ List.replicate 36 uu)) ([Ob.box
  [(num t1_0), (num t1_1), (num t1_2), (num t1_3), (num t1_4), (yes t1_5),
  (str t1_6), (str t1_7), (str t1_8), (num t1_9), (str t1_10), (str t1_11), (num t1_12), AV.e (E.int
  IntKind.i64 t1_13), (num t1_14), (str t1_15), (str t1_16), (str t1_17), (str t1_18), (yes t1_19), AV.e (E.sl 97 t1_20),
  (str t1_21), (str t1_22), (num t1_23), (yes t1_24), (num t1_25), (num t1_26), (str t1_27),
  (num t1_28), AV.e (E.sl 97 t1_29)]]) ([])) := by kernel_rfl
theorem eq_isB (run : RunF) (loop : LoopF) (a0 : Int) (a1 : Int) (a2 : Int) : bodyRun PP HH run loop none 32 [.e (.int .i64 a0), .e (.int .i64 a1), .e (.int .i64
  a2)] [] = some (Res.ret ((yes (bif decide (a1 ≤ a0) then decide (a0 ≤ a2) else false))), []) := by kernel_rfl
theorem eq_fieldsE (run : RunF) (loop : LoopF) (a0_0 : Int) (a0_1 : Int) (a0_2 : Int) (a0_3 : Int) (a0_4 : Int) (a0_5 : Bool) (a0_6 : List UInt8) (a0_7 : List UInt8) (a0_8 : List
  UInt8) (a0_9 : Int) (a0_10 : List UInt8) (a0_11 : List UInt8) (a0_12 : Int) (a0_13 : Int) (a0_14 : Int) (a0_15 : List UInt8) (a0_16 : List UInt8) (a0_17 : List UInt8) (a0_18 :
  List UInt8) (a0_19 : Bool) (a0_20 : List E) (a0_21 : List UInt8) (a0_22 : List UInt8) (a0_23 : Int) (a0_24 : Bool) (a0_25 : Int) (a0_26 : Int) (a0_27 : List UInt8) (a0_28 : Int)
  (a0_29 : List E) : bodyRun PP HH run loop none 33 [.agg [.e (.int .i64 a0_0), .e (.int .i64 a0_1), .e (.int .i64 a0_2), .e (.int .i64 a0_3), .e (.int .i64 a0_4),
  .e (.bool a0_5), .e (.str a0_6), .e (.str a0_7), .e (.str a0_8), .e (.int .i64 a0_9), .e (.str a0_10), .e (.str a0_11), .e (.int .i64 a0_12), .e (.int .i64 a0_13), .e (.int .i64
  a0_14), .e (.str a0_15), .e (.str a0_16), .e (.str a0_17), .e (.str a0_18), .e (.bool a0_19), .e (.sl 97 a0_20), .e (.str a0_21), .e (.str a0_22), .e (.int .i64 a0_23), .e (.bool
  a0_24), .e (.int .i64 a0_25), .e (.int .i64 a0_26), .e (.str a0_27), .e (.int .i64 a0_28), .e (.sl 97 a0_29)]] [] = bif a0_0 == 1 then (run none 71 [AV.agg [(str a0_8),
  (num a0_9), (str a0_10)]] []).bind fun rh => bif okHeap [] rh.2 then bif okRes PP 23 rh.fst then some (Res.ret (AV.e (E.int IntKind.i64
  rh.fst.val.data.toInt)), []) else none else none else bif a0_0 == 2 then (run none 72 [AV.agg [(str a0_11), (num a0_12), (num a0_13),
  (num a0_14), (str a0_15)]] []).bind fun rh => bif okHeap [] rh.2 then bif okRes PP 23 rh.fst then some (Res.ret (AV.e (E.int IntKind.i64
  rh.fst.val.data.toInt)), []) else none else none else bif a0_0 == 3 then bif a0_0 == 3 then (run none 73 [(str a0_16)] []).bind fun rh => bif okHeap [] rh.2 then bif okRes
  PP 4 rh.fst then bif (!rh.fst.val.data.toBool) == false then (run none 73 [(str a0_17)] []).bind fun rh => bif okHeap [] rh.2 then bif okRes PP 4 rh.fst then
  bif !rh.fst.val.data.toBool then some (Res.ret ((num 11)), []) else (run none 74 [(str a0_18)] []).bind fun rh => bif okHeap [] rh.2 then bif okRes
  PP 23 rh.fst then bif !rh.fst.val.data.toInt == 0 then some (Res.ret ((num rh.fst.val.data.toInt)), []) else (run none 75 [AV.e (E.sl 97 a0_20)]
  []).bind fun rh => bif okHeap [] rh.2 then bif okRes PP 23 rh.fst then some (Res.ret ((num rh.fst.val.data.toInt)), []) else none else none else none
  else none else none else none else some (Res.ret ((num 11)), []) else none else none else bif a0_0 == 5 then (run none 76 [(str a0_6)] []).bind fun rh
  => bif okHeap [] rh.2 then bif okRes PP 4 rh.fst then bif !rh.fst.val.data.toBool then some (Res.ret ((num 11)), []) else (run none 74 [AV.e (E.str
  a0_7)] []).bind fun rh => bif okHeap [] rh.2 then bif okRes PP 23 rh.fst then bif !rh.fst.val.data.toInt == 0 then some (Res.ret (AV.e (E.int IntKind.i64
  rh.fst.val.data.toInt)), []) else (run none 77 [AV.agg [(str a0_21), (str a0_22), (num a0_23), (yes a0_24), AV.e (E.int IntKind.i64
  a0_25), (num a0_26), (str a0_27), (num a0_28), AV.e (E.sl 97 a0_29)]] []).bind fun rh => bif okHeap [] rh.2 then bif okRes PP
  23 rh.fst then some (Res.ret ((num rh.fst.val.data.toInt)), []) else none else none else none else none else none else none else bif a0_0 == 6 then bif a0_0 ==
  6 then (run none 73 [(str a0_6)] []).bind fun rh => bif okHeap [] rh.2 then bif okRes PP 4 rh.fst then bif !rh.fst.val.data.toBool then some (Res.ret (AV.e (E.int
  IntKind.i64 11)), []) else some (Res.ret ((num 0)), []) else none else none else some (Res.ret ((num 0)), []) else bif a0_0 == 13 then bif
  a0_0 == 13 then (run none 73 [(str a0_6)] []).bind fun rh => bif okHeap [] rh.2 then bif okRes PP 4 rh.fst then bif !rh.fst.val.data.toBool then some (Res.ret (AV.e
  (E.int IntKind.i64 11)), []) else some (Res.ret ((num 0)), []) else none else none else some (Res.ret ((num 0)), []) else bif a0_0 == 14
  then bif a0_0 == 14 then (run none 73 [(str a0_6)] []).bind fun rh => bif okHeap [] rh.2 then bif okRes PP 4 rh.fst then bif !rh.fst.val.data.toBool then some
  (Res.ret ((num 11)), []) else some (Res.ret ((num 0)), []) else none else none else some (Res.ret ((num 0)), []) else bif
  a0_0 == 15 then (run none 73 [(str a0_6)] []).bind fun rh => bif okHeap [] rh.2 then bif okRes PP 4 rh.fst then bif !rh.fst.val.data.toBool then some (Res.ret (AV.e
  (E.int IntKind.i64 11)), []) else some (Res.ret ((num 0)), []) else none else none else some (Res.ret ((num 0)), []) else bif a0_0 == 4 then
  (run none 73 [(str a0_16)] []).bind fun rh => bif okHeap [] rh.2 then bif okRes PP 4 rh.fst then bif (!rh.fst.val.data.toBool) == false then (run none 73 [AV.e
  (E.str a0_17)] []).bind fun rh => bif okHeap [] rh.2 then bif okRes PP 4 rh.fst then bif !rh.fst.val.data.toBool then some (Res.ret ((num 11)), []) else
  (run none 74 [(str a0_18)] []).bind fun rh => bif okHeap [] rh.2 then bif okRes PP 23 rh.fst then bif !rh.fst.val.data.toInt == 0 then some (Res.ret (AV.e (E.int
  IntKind.i64 rh.fst.val.data.toInt)), []) else (run none 75 [AV.e (E.sl 97 a0_20)] []).bind fun rh => bif okHeap [] rh.2 then bif okRes PP 23 rh.fst then some (Res.ret
  ((num rh.fst.val.data.toInt)), []) else none else none else none else none else none else none else some (Res.ret ((num 11)), []) else none
  else none else bif a0_0 == 5 then (run none 76 [(str a0_6)] []).bind fun rh => bif okHeap [] rh.2 then bif okRes PP 4 rh.fst then bif !rh.fst.val.data.toBool then
  some (Res.ret ((num 11)), []) else (run none 74 [(str a0_7)] []).bind fun rh => bif okHeap [] rh.2 then bif okRes PP 23 rh.fst then bif
  !rh.fst.val.data.toInt == 0 then some (Res.ret ((num rh.fst.val.data.toInt)), []) else (run none 77 [AV.agg [(str a0_21), (str a0_22), AV.e
  (E.int IntKind.i64 a0_23), (yes a0_24), (num a0_25), (num a0_26), (str a0_27), (num a0_28), AV.e (E.sl 97
  a0_29)]] []).bind fun rh => bif okHeap [] rh.2 then bif okRes PP 23 rh.fst then some (Res.ret ((num rh.fst.val.data.toInt)), []) else none else none
  else none else none else none else none else bif a0_0 == 6 then bif a0_0 == 6 then (run none 73 [(str a0_6)] []).bind fun rh => bif okHeap [] rh.2 then bif okRes PP
  4 rh.fst then bif !rh.fst.val.data.toBool then some (Res.ret ((num 11)), []) else some (Res.ret ((num 0)), []) else none else none else some
  (Res.ret ((num 0)), []) else bif a0_0 == 13 then bif a0_0 == 13 then (run none 73 [(str a0_6)] []).bind fun rh => bif okHeap [] rh.2 then bif okRes
  PP 4 rh.fst then bif !rh.fst.val.data.toBool then some (Res.ret ((num 11)), []) else some (Res.ret ((num 0)), []) else none else none
  else some (Res.ret ((num 0)), []) else bif a0_0 == 14 then bif a0_0 == 14 then (run none 73 [(str a0_6)] []).bind fun rh => bif okHeap [] rh.2 then bif
  okRes PP 4 rh.fst then bif !rh.fst.val.data.toBool then some (Res.ret ((num 11)), []) else some (Res.ret ((num 0)), []) else none
  else none else some (Res.ret ((num 0)), []) else bif a0_0 == 15 then (run none 73 [(str a0_6)] []).bind fun rh => bif okHeap [] rh.2 then bif okRes
  PP 4 rh.fst then bif !rh.fst.val.data.toBool then some (Res.ret ((num 11)), []) else some (Res.ret ((num 0)), []) else none else none
  else some (Res.ret ((num 0)), []) := by kernel_rfl
theorem eq_same (run : RunF) (loop : LoopF) (a0_0 : Int) (a0_1 : Int) (a0_2 : Int) (a0_3 : Int) (a0_4 : Int) (a0_5 : Bool) (a0_6 : List UInt8) (a0_7 : List UInt8) (a0_8 : List
  UInt8) (a0_9 : Int) (a0_10 : List UInt8) (a0_11 : List UInt8) (a0_12 : Int) (a0_13 : Int) (a0_14 : Int) (a0_15 : List UInt8) (a0_16 : List UInt8) (a0_17 : List UInt8) (a0_18 :
  List UInt8) (a0_19 : Bool) (a0_20 : List E) (a0_21 : List UInt8) (a0_22 : List UInt8) (a0_23 : Int) (a0_24 : Bool) (a0_25 : Int) (a0_26 : Int) (a0_27 : List UInt8) (a0_28 : Int)
  (a0_29 : List E) (a1_0 : Int) (a1_1 : Int) (a1_2 : Int) (a1_3 : Int) (a1_4 : Int) (a1_5 : Bool) (a1_6 : List UInt8) (a1_7 : List UInt8) (a1_8 : List UInt8) (a1_9 : Int) (a1_10 :
  List UInt8) (a1_11 : List UInt8) (a1_12 : Int) (a1_13 : Int) (a1_14 : Int) (a1_15 : List UInt8) (a1_16 : List UInt8) (a1_17 : List UInt8) (a1_18 : List UInt8) (a1_19 : Bool)
  (a1_20 : List E) (a1_21 : List UInt8) (a1_22 : List UInt8) (a1_23 : Int) (a1_24 : Bool) (a1_25 : Int) (a1_26 : Int) (a1_27 : List UInt8) (a1_28 : Int) (a1_29 : List E) : bodyRun
  PP HH run loop none 34 [.agg [.e (.int .i64 a0_0), .e (.int .i64 a0_1), .e (.int .i64 a0_2), .e (.int .i64 a0_3), .e (.int .i64 a0_4), .e (.bool a0_5), .e (.str
  a0_6), .e (.str a0_7), .e (.str a0_8), .e (.int .i64 a0_9), .e (.str a0_10), .e (.str a0_11), .e (.int .i64 a0_12), .e (.int .i64 a0_13), .e (.int .i64 a0_14), .e (.str a0_15),
  .e (.str a0_16), .e (.str a0_17), .e (.str a0_18), .e (.bool a0_19), .e (.sl 97 a0_20), .e (.str a0_21), .e (.str a0_22), .e (.int .i64 a0_23), .e (.bool a0_24), .e (.int .i64
  a0_25), .e (.int .i64 a0_26), .e (.str a0_27), .e (.int .i64 a0_28), .e (.sl 97 a0_29)], .agg [.e (.int .i64 a1_0), .e (.int .i64 a1_1), .e (.int .i64 a1_2), .e (.int .i64 a1_3),
  .e (.int .i64 a1_4), .e (.bool a1_5), .e (.str a1_6), .e (.str a1_7), .e (.str a1_8), .e (.int .i64 a1_9), .e (.str a1_10), .e (.str a1_11), .e (.int .i64 a1_12), .e (.int .i64
  a1_13), .e (.int .i64 a1_14), .e (.str a1_15), .e (.str a1_16), .e (.str a1_17), .e (.str a1_18), .e (.bool a1_19), .e (.sl 97 a1_20), .e (.str a1_21), .e (.str a1_22), .e (.int
  .i64 a1_23), .e (.bool a1_24), .e (.int .i64 a1_25), .e (.int .i64 a1_26), .e (.str a1_27), .e (.int .i64 a1_28), .e (.sl 97 a1_29)]] [] = bif (bif bif bif bif bif bif bif bif
  bif a0_0 == a1_0 then a0_1 == a1_1 else false then a0_2 == a1_2 else false then a0_3 == a1_3 else false then a0_4 == a1_4 else false then a0_5 == a1_5 else false then strEq a0_6
  a1_6 else false then strEq a0_7 a1_7 else false then strEq a0_8 a1_8 && (a0_9 == a1_9 && (strEq a0_10 a1_10 && true)) else false then strEq a0_11 a1_11 && (a0_12 == a1_12 &&
  (a0_13 == a1_13 && (a0_14 == a1_14 && (strEq a0_15 a1_15 && true)))) else false) == true then (run none 78 [AV.agg [(str a0_16), (str a0_17), (str a0_18),
  (yes a0_19), AV.e (E.sl 97 a0_20)], AV.agg [(str a1_16), (str a1_17), (str a1_18), (yes a1_19), AV.e (E.sl 97 a1_20)]] []).bind fun rh => bif
  okHeap [] rh.2 then bif okRes PP 4 rh.fst then bif rh.fst.val.data.toBool == true then (run none 79 [AV.agg [(str a0_21), (str a0_22), AV.e (E.int
  IntKind.i64 a0_23), (yes a0_24), (num a0_25), (num a0_26), (str a0_27), (num a0_28), AV.e (E.sl 97
  a0_29)], AV.agg [(str a1_21), (str a1_22), (num a1_23), (yes a1_24), (num a1_25), (num a1_26), AV.e
  (E.str a1_27), (num a1_28), AV.e (E.sl 97 a1_29)]] []).bind fun rh => bif okHeap [] rh.2 then bif okRes PP 4 rh.fst then some (Res.ret (AV.e (E.bool
  rh.fst.val.data.toBool)), []) else none else none else some (Res.ret ((yes false)), []) else none else none else some (Res.ret ((yes false)), []) := by kernel_rfl
theorem eq_exchange (run : RunF) (loop : LoopF) (a0_0 : List UInt8) (a0_1 : Int) (a0_2 : List UInt8) : bodyRun PP HH run loop none 71 [.agg [.e (.str a0_0), .e
  (.int .i64 a0_1), .e (.str a0_2)]] [] = (run none 73 [(str a0_0)] []).bind fun rh => bif okHeap [] rh.2 then bif okRes PP 4 rh.fst then bif !rh.fst.val.data.toBool
  then some (Res.ret ((num 11)), []) else (run none 32 [(num a0_1), (num 1), (num 4)] []).bind fun rh =>
  bif okHeap [] rh.2 then bif okRes PP 4 rh.fst then bif !rh.fst.val.data.toBool then some (Res.ret ((num 10)), []) else (run none 76 [(str a0_2)]
  []).bind fun rh => bif okHeap [] rh.2 then bif okRes PP 4 rh.fst then bif !rh.fst.val.data.toBool then some (Res.ret ((num 11)), []) else some (Res.ret
  ((num 0)), []) else none else none else none else none else none else none := by kernel_rfl
theorem eq_spec (run : RunF) (loop : LoopF) (a0_0 : List UInt8) (a0_1 : Int) (a0_2 : Int) (a0_3 : Int) (a0_4 : List UInt8) : bodyRun PP HH run loop none 72 [.agg
  [.e (.str a0_0), .e (.int .i64 a0_1), .e (.int .i64 a0_2), .e (.int .i64 a0_3), .e (.str a0_4)]] [] = (run none 73 [(str a0_0)] []).bind fun rh => bif okHeap [] rh.2 then
  bif okRes PP 4 rh.fst then bif !rh.fst.val.data.toBool then some (Res.ret ((num 11)), []) else (run none 32 [(num a0_1), AV.e (E.int
  IntKind.i64 1), (num 256)] []).bind fun rh => bif okHeap [] rh.2 then bif okRes PP 4 rh.fst then bif (!rh.fst.val.data.toBool) == false then (run none
  32 [(num a0_2), (num 0), (num 1099511627776)] []).bind fun rh => bif okHeap [] rh.2 then bif okRes PP 4 rh.fst
  then bif (!rh.fst.val.data.toBool) == false then (run none 32 [(num a0_3), (num 0), (num 1099511627776)] []).bind fun rh
  => bif okHeap [] rh.2 then bif okRes PP 4 rh.fst then bif !rh.fst.val.data.toBool then some (Res.ret ((num 1)), []) else (run none 76 [AV.e (E.str
  a0_4)] []).bind fun rh => bif okHeap [] rh.2 then bif okRes PP 4 rh.fst then bif !rh.fst.val.data.toBool then some (Res.ret ((num 11)), []) else some
  (Res.ret ((num 0)), []) else none else none else none else none else some (Res.ret ((num 1)), []) else none else none else some (Res.ret
  ((num 1)), []) else none else none else none else none := by kernel_rfl
theorem eq_key (run : RunF) (loop : LoopF) (a0 : List UInt8) : bodyRun PP HH run loop none 74 [.e (.str a0)] [] = bif decide (64 < (↑a0.length : Int)) then some
  (Res.ret ((num 5)), []) else bif decide (0 ≤ Lib.indexByte a0 (Nat.toUInt8 0)) then some (Res.ret ((num 12)), []) else some (Res.ret (AV.e
  (E.int IntKind.i64 0)), []) := by kernel_rfl
theorem eq_optional (run : RunF) (loop : LoopF) (a0 : List UInt8) : bodyRun PP HH run loop none 76 [.e (.str a0)] [] = bif strEq a0 ([] : List UInt8) == false then
  (run none 73 [(str a0)] []).bind fun rh => bif okHeap [] rh.2 then bif okRes PP 4 rh.fst then some (Res.ret ((yes rh.fst.val.data.toBool)), []) else none
  else none else some (Res.ret ((yes true)), []) := by kernel_rfl
theorem eq_bindings (run : RunF) (loop : LoopF) (a0_0 : List UInt8) (a0_1 : List UInt8) (a0_2 : List UInt8) (a0_3 : Bool) (a0_4 : List E) (a1_0 : List UInt8) (a1_1 : List UInt8)
  (a1_2 : List UInt8) (a1_3 : Bool) (a1_4 : List E) : bodyRun PP HH run loop none 78 [.agg [.e (.str a0_0), .e (.str a0_1), .e (.str a0_2), .e (.bool a0_3), .e
  (.sl 97 a0_4)], .agg [.e (.str a1_0), .e (.str a1_1), .e (.str a1_2), .e (.bool a1_3), .e (.sl 97 a1_4)]] [] = bif bif bif bif bif !strEq a0_0 a1_0 then true else !strEq a0_1
  a1_1 then true else !strEq a0_2 a1_2 then true else !a0_3 == a1_3 then true else !(↑a0_4.length : Int) == (↑a1_4.length : Int) then some (Res.ret ((yes false)), []) else
  (loop 78 0 lc_78_4 ([uu, uu, uu, AV.ptr 0 0] ++ List.replicate 39 uu ++ [AV.e (E.sl 97 a0_4), (num (↑a0_4.length : Int)), AV.e (E.int
  IntKind.i64 0)] ++ List.replicate 12 uu) [Ob.box [(str a1_0), (str a1_1), (str a1_2), (yes a1_3), AV.e (E.sl 97 a1_4)]]).bind fun o => bif
  o.ex.isWay (Way.exit 0) then bif okFr (List.replicate 58 uu) o.2 && okHeap [] o.3 then some (Res.ret ((yes true)), []) else none else bif o.ex.isWay Way.ret then
  bif okFr ([uu, uu, uu, uu, (yes false)] ++ List.replicate 53 uu) o.2 && okHeap [] o.3 then some (Res.ret ((yes (List.getD o.fr 4
  uu).data.toBool)), []) else none else none := by kernel_rfl
theorem eq_bindingsL4 (run : RunF) (loop : LoopF) (t43 : List E) (t44 : Int) (t45 : Int) (t3_0 : List UInt8) (t3_1 : List UInt8) (t3_2 : List UInt8) (t3_3 : Bool) (t3_4 : List E) :
  bodyLoop PP HH run loop 78 0 lc_78_4 (((((List.replicate 58 uu).set 3 (.ptr 0 0)).set 43 (.e (.sl 97 t43))).set 44 (.e (.int .i64 t44))).set 45 (.e (.int
  .i64 t45))) [.box [.e (.str t3_0), .e (.str t3_1), .e (.str t3_2), .e (.bool t3_3), .e (.sl 97 t3_4)]] = bif decide (t45 < t44) then bif decide (0 ≤ t45) && decide (t45 <
  (↑t43.length : Int)) then bif decide (0 ≤ t45) && decide (t45 < (↑t3_4.length : Int)) then bif !(strEq ((t43.getD t45.toNat E.nili).cell 0).toStr ((t3_4.getD t45.toNat
  E.nili).cell 0).toStr && (strEq ((t43.getD t45.toNat E.nili).cell 1).toStr ((t3_4.getD t45.toNat E.nili).cell 1).toStr && true)) then some (Out.mk (Ex.ret) (([uu, uu,
  uu, uu, (yes false)] ++ List.replicate 53 uu)) ([]) ([])) else (loop 78 0 lc_78_4 ([uu, uu, uu, AV.ptr 0 0] ++ List.replicate 39
  uu ++ [AV.e (E.sl 97 t43), (num t44), (num (IntKind.i64.wrap (t45 + 1)))] ++ List.replicate 12 uu) [Ob.box [(str t3_0),
  (str t3_1), (str t3_2), (yes t3_3), AV.e (E.sl 97 t3_4)]]).bind fun o => some o else none else none else some (Out.mk (Ex.exit 0) ((List.replicate 58
  uu)) ([]) ([])) := by kernel_rfl
theorem eq_Name (run : RunF) (loop : LoopF) (a0 : List UInt8) : bodyRun PP HH run loop none 73 [.e (.str a0)] [] = bif bif decide ((↑a0.length : Int) < 1) then
  true else decide (16 < (↑a0.length : Int)) then some (Res.ret ((yes false)), []) else (loop 73 0 lc_73_4 (List.replicate 15 uu ++ [AV.itr 0] ++ List.replicate 28
  uu) [Ob.raw (Raw.iter a0 0)]).bind fun o => bif o.ex.isWay (Way.exit 0) then bif okFr (List.replicate 44 uu) o.2 && okHeap [] o.3 then some (Res.ret (AV.e (E.bool
  true)), []) else none else bif o.ex.isWay Way.ret then bif okFr ([uu, uu, (yes false)] ++ List.replicate 41 uu) o.2 && okHeap [] o.3 then some (Res.ret
  ((yes (List.getD o.fr 2 uu).data.toBool)), []) else none else none := by kernel_rfl
theorem eq_NameL4 (run : RunF) (loop : LoopF) (x15 : List UInt8) (y15 : Nat) : bodyLoop PP HH run loop 73 0 lc_73_4 ((List.replicate 44 uu).set 15 (.itr 0))
  [.raw (.iter x15 y15)] = bif decide (y15 < x15.length) then bif (!bif decide (97 ≤ (↑(Utf8.decode (ByteArray.mk x15.toArray) y15).fst : Int)) then decide ((↑(Utf8.decode
  (ByteArray.mk x15.toArray) y15).fst : Int) ≤ 122) else false) == true then bif ((↑y15 : Int) == 0) == false then bif (!(↑(Utf8.decode (ByteArray.mk x15.toArray) y15).fst : Int)
  == 45) == true then bif decide ((↑(Utf8.decode (ByteArray.mk x15.toArray) y15).fst : Int) < 48) == false then bif decide (57 < (↑(Utf8.decode (ByteArray.mk x15.toArray) y15).fst
  : Int)) then some (Out.mk (Ex.ret) (([uu, uu, (yes false)] ++ List.replicate 41 uu)) ([]) ([])) else (loop 73 0 lc_73_4 (List.replicate 15 uu ++
  [AV.itr 0] ++ List.replicate 28 uu) [Ob.raw (Raw.iter x15 (y15 + (Utf8.decode (ByteArray.mk x15.toArray) y15).snd))]).bind fun o => some o else some (Out.mk (Ex.ret)
  (([uu, uu, (yes false)] ++ List.replicate 41 uu)) ([]) ([])) else (loop 73 0 lc_73_4 (List.replicate 15 uu ++ [AV.itr 0] ++ List.replicate 28
  uu) [Ob.raw (Raw.iter x15 (y15 + (Utf8.decode (ByteArray.mk x15.toArray) y15).snd))]).bind fun o => some o else some (Out.mk (Ex.ret) (([uu, uu, AV.e (E.bool
  false)] ++ List.replicate 41 uu)) ([]) ([])) else (loop 73 0 lc_73_4 (List.replicate 15 uu ++ [AV.itr 0] ++ List.replicate 28 uu) [Ob.raw (Raw.iter x15 (y15 +
  (Utf8.decode (ByteArray.mk x15.toArray) y15).snd))]).bind fun o => some o else some (Out.mk (Ex.exit 0) ((List.replicate 44 uu)) ([]) ([])) := by kernel_rfl
theorem eq_Valid (run : RunF) (loop : LoopF) (a0 : List UInt8) : bodyRun PP HH run loop none 109 [.e (.str a0)] [] = (run none 127 [(str a0)] []).bind fun
  rh => bif okHeap [] rh.2 then bif okRes PP 4 rh.fst then bif !rh.fst.val.data.toBool then some (Res.ret ((yes false)), []) else (loop 109 0 lc_109_4
  (List.replicate 9 uu ++ [AV.itr 0] ++ List.replicate 9 uu) [Ob.raw (Raw.iter a0 0)]).bind fun o => bif o.ex.isWay (Way.exit 0) then bif okFr (List.replicate 19
  uu) o.2 && okHeap [] o.3 then some (Res.ret ((yes true)), []) else none else bif o.ex.isWay Way.ret then bif okFr ([uu, uu, (yes false)] ++
  List.replicate 16 uu) o.2 && okHeap [] o.3 then some (Res.ret ((yes (List.getD o.fr 2 uu).data.toBool)), []) else none else none else none else none := by
  kernel_rfl
theorem eq_ValidL4 (run : RunF) (loop : LoopF) (x9 : List UInt8) (y9 : Nat) : bodyLoop PP HH run loop 109 0 lc_109_4 ((List.replicate 19 uu).set 9 (.itr 0))
  [.raw (.iter x9 y9)] = bif decide (y9 < x9.length) then bif bif (↑(Utf8.decode (ByteArray.mk x9.toArray) y9).fst : Int) == 43 then true else (↑(Utf8.decode (ByteArray.mk
  x9.toArray) y9).fst : Int) == 35 then some (Out.mk (Ex.ret) (([uu, uu, (yes false)] ++ List.replicate 16 uu)) ([]) ([])) else (loop 109 0 lc_109_4
  (List.replicate 9 uu ++ [AV.itr 0] ++ List.replicate 9 uu) [Ob.raw (Raw.iter x9 (y9 + (Utf8.decode (ByteArray.mk x9.toArray) y9).snd))]).bind fun o => some o else
  some (Out.mk (Ex.exit 0) ((List.replicate 19 uu)) ([]) ([])) := by kernel_rfl
theorem eq_sized (run : RunF) (loop : LoopF) (a0 : List UInt8) : bodyRun PP HH run loop none 127 [.e (.str a0)] [] = bif bif decide ((↑a0.length : Int) < 1) then
  true else decide (64 < (↑a0.length : Int)) then some (Res.ret ((yes false)), []) else (loop 127 0 lc_127_5 ([uu, uu, uu, (num 1)] ++
  List.replicate 11 uu ++ [AV.itr 0] ++ List.replicate 12 uu) [Ob.raw (Raw.iter a0 0)]).bind fun o => bif o.ex.isWay (Way.exit 0) then bif okFr ([uu, uu,
  uu, (num 0)] ++ List.replicate 24 uu) o.2 && okHeap [] o.3 then some (Res.ret ((yes (decide ((List.getD o.fr 3 uu).data.toInt ≤
  8)))), []) else none else bif o.ex.isWay Way.ret then bif okFr ([uu, uu, (yes false)] ++ List.replicate 25 uu) o.2 && okHeap [] o.3 then some (Res.ret
  ((yes (List.getD o.fr 2 uu).data.toBool)), []) else none else none := by kernel_rfl
theorem eq_sizedL5 (run : RunF) (loop : LoopF) (t3 : Int) (x15 : List UInt8) (y15 : Nat) : bodyLoop PP HH run loop 127 0 lc_127_5 (((List.replicate 28
  uu).set 3 (.e (.int .i64 t3))).set 15 (.itr 0)) [.raw (.iter x15 y15)] = bif decide (y15 < x15.length) then bif (↑(Utf8.decode (ByteArray.mk x15.toArray) y15).fst : Int) ==
  0 then some (Out.mk (Ex.ret) (([uu, uu, (yes false)] ++ List.replicate 25 uu)) ([]) ([])) else bif (↑(Utf8.decode (ByteArray.mk x15.toArray) y15).fst :
  Int) == 47 then (loop 127 0 lc_127_5 ([uu, uu, uu, (num (IntKind.i64.wrap (t3 + 1)))] ++ List.replicate 11 uu ++ [AV.itr 0] ++
  List.replicate 12 uu) [Ob.raw (Raw.iter x15 (y15 + (Utf8.decode (ByteArray.mk x15.toArray) y15).snd))]).bind fun o => some o else (loop 127 0 lc_127_5 ([uu, uu,
  uu, (num t3)] ++ List.replicate 11 uu ++ [AV.itr 0] ++ List.replicate 12 uu) [Ob.raw (Raw.iter x15 (y15 + (Utf8.decode (ByteArray.mk
  x15.toArray) y15).snd))]).bind fun o => some o else some (Out.mk (Ex.exit 0) (([uu, uu, uu, (num t3)] ++ List.replicate 24 uu)) ([])
  ([])) := by kernel_rfl
theorem eq_MProps (run : RunF) (loop : LoopF) (a0 : List E) : bodyRun PP HH run loop none 75 [.e (.sl 97 a0)] [] = bif decide (8 < (↑a0.length : Int)) then some
  (Res.ret ((num 5)), []) else (loop 75 0 lc_75_4 ([AV.e (E.sl 97 a0)] ++ List.replicate 7 uu ++ [AV.e (E.sl 97 a0), (num (↑a0.length :
  Int)), (num 0)] ++ List.replicate 29 uu) []).bind fun o => bif o.ex.isWay (Way.exit 0) then bif okFr (List.replicate 40 uu) o.2 && okHeap [] o.3
  then some (Res.ret ((num 0)), []) else none else bif o.ex.isWay Way.ret then bif okFr ([uu, uu, (num 0)] ++ List.replicate 37
  uu) o.2 && okHeap [] o.3 then some (Res.ret ((num (List.getD o.fr 2 uu).data.toInt)), []) else none else none := by kernel_rfl
theorem eq_MPropsL4 (run : RunF) (loop : LoopF) (t0 : List E) (t8 : List E) (t9 : Int) (t10 : Int) : bodyLoop PP HH run loop 75 0 lc_75_4 (((((List.replicate 40
  uu).set 0 (.e (.sl 97 t0))).set 8 (.e (.sl 97 t8))).set 9 (.e (.int .i64 t9))).set 10 (.e (.int .i64 t10))) [] = bif decide (t10 < t9) then bif decide (0 ≤ t10) && decide
  (t10 < (↑t8.length : Int)) then (run none 108 [(str ((t8.getD t10.toNat E.nili).cell 0).toStr)] []).bind fun rh => bif okHeap [] rh.2 then bif okRes PP 4 rh.fst
  then bif !rh.fst.val.data.toBool then some (Out.mk (Ex.ret) (([uu, uu, (num 16)] ++ List.replicate 37 uu)) ([]) ([])) else bif decide (160 <
  (↑((t8.getD t10.toNat E.nili).cell 1).toStr.length : Int)) then some (Out.mk (Ex.ret) (([uu, uu, (num 5)] ++ List.replicate 37 uu)) ([])
  ([])) else bif decide (0 < t10) == true then bif decide (0 ≤ IntKind.i64.wrap (t10 - 1)) && decide (IntKind.i64.wrap (t10 - 1) < (↑t0.length : Int)) then bif Op.bytesLess
  ((t8.getD t10.toNat E.nili).cell 0).toStr ((t0.getD (IntKind.i64.wrap (t10 - 1)).toNat E.nili).cell 0).toStr || strEq ((t8.getD t10.toNat E.nili).cell 0).toStr ((t0.getD
  (IntKind.i64.wrap (t10 - 1)).toNat E.nili).cell 0).toStr then some (Out.mk (Ex.ret) (([uu, uu, (num 16)] ++ List.replicate 37 uu)) ([]) ([]))
  else (loop 75 0 lc_75_4 ([AV.e (E.sl 97 t0)] ++ List.replicate 7 uu ++ [AV.e (E.sl 97 t8), (num t9), (num (IntKind.i64.wrap (t10 +
  1)))] ++ List.replicate 29 uu) []).bind fun o => some o else none else (loop 75 0 lc_75_4 ([AV.e (E.sl 97 t0)] ++ List.replicate 7 uu ++ [AV.e (E.sl 97 t8), AV.e
  (E.int IntKind.i64 t9), (num (IntKind.i64.wrap (t10 + 1)))] ++ List.replicate 29 uu) []).bind fun o => some o else none else none else none else some
  (Out.mk (Ex.exit 0) ((List.replicate 40 uu)) ([]) ([])) := by kernel_rfl
theorem eq_MCheck (run : RunF) (loop : LoopF) (a0_0 : List UInt8) (a0_1 : List UInt8) (a0_2 : Int) (a0_3 : Bool) (a0_4 : Int) (a0_5 : Int) (a0_6 : List UInt8) (a0_7 : Int) (a0_8 :
  List E) : bodyRun PP HH run loop none 77 [.agg [.e (.str a0_0), .e (.str a0_1), .e (.int .i64 a0_2), .e (.bool a0_3), .e (.int .i64 a0_4), .e (.int .i64 a0_5),
  .e (.str a0_6), .e (.int .i64 a0_7), .e (.sl 97 a0_8)]] [] = (run none 109 [(str a0_0)] []).bind fun rh => bif okHeap [] rh.2 then bif okRes PP 4 rh.fst then bif
  !rh.fst.val.data.toBool then some (Res.ret ((num 12)), []) else bif decide (256 < (↑a0_1.length : Int)) then some (Res.ret ((num 5)), [])
  else (run none 110 [(num a0_2), (num 2)] []).bind fun rh => bif okHeap [] rh.2 then bif okRes PP 4 rh.fst then bif
  !rh.fst.val.data.toBool then some (Res.ret ((num 14)), []) else (run none 110 [(num a0_4), (num 9)] []).bind fun rh =>
  bif okHeap [] rh.2 then bif okRes PP 4 rh.fst then bif !rh.fst.val.data.toBool then bif !rh.fst.val.data.toBool then some (Res.ret ((num 1)), []) else
  bif (!strEq a0_6 ([] : List UInt8)) == true then (run none 73 [(str a0_6)] []).bind fun rh => bif okHeap [] rh.2 then bif okRes PP 4 rh.fst then bif
  !rh.fst.val.data.toBool then some (Res.ret ((num 11)), []) else (run none 110 [(num a0_7), (num 1099511627776)] []).bind
  fun rh => bif okHeap [] rh.2 then bif okRes PP 4 rh.fst then bif !rh.fst.val.data.toBool then some (Res.ret ((num 1)), []) else (run none 75 [AV.e (E.sl
  97 a0_8)] []).bind fun rh => bif okHeap [] rh.2 then bif okRes PP 23 rh.fst then some (Res.ret ((num rh.fst.val.data.toInt)), []) else none else none
  else none else none else none else none else (run none 110 [(num a0_7), (num 1099511627776)] []).bind fun rh => bif okHeap [] rh.2 then bif
  okRes PP 4 rh.fst then bif !rh.fst.val.data.toBool then some (Res.ret ((num 1)), []) else (run none 75 [AV.e (E.sl 97 a0_8)] []).bind fun rh => bif
  okHeap [] rh.2 then bif okRes PP 23 rh.fst then some (Res.ret ((num rh.fst.val.data.toInt)), []) else none else none else none else none else (run none
  110 [(num a0_5), (num 1099511627776)] []).bind fun rh => bif okHeap [] rh.2 then bif okRes PP 4 rh.fst then bif
  !rh.fst.val.data.toBool then some (Res.ret ((num 1)), []) else bif (!strEq a0_6 ([] : List UInt8)) == true then (run none 73 [(str a0_6)] []).bind fun
  rh => bif okHeap [] rh.2 then bif okRes PP 4 rh.fst then bif !rh.fst.val.data.toBool then some (Res.ret ((num 11)), []) else (run none 110 [AV.e (E.int
  IntKind.i64 a0_7), (num 1099511627776)] []).bind fun rh => bif okHeap [] rh.2 then bif okRes PP 4 rh.fst then bif !rh.fst.val.data.toBool then some
  (Res.ret ((num 1)), []) else (run none 75 [AV.e (E.sl 97 a0_8)] []).bind fun rh => bif okHeap [] rh.2 then bif okRes PP 23 rh.fst then some (Res.ret
  ((num rh.fst.val.data.toInt)), []) else none else none else none else none else none else none else (run none 110 [(num a0_7), AV.e (E.int
  IntKind.i64 1099511627776)] []).bind fun rh => bif okHeap [] rh.2 then bif okRes PP 4 rh.fst then bif !rh.fst.val.data.toBool then some (Res.ret (AV.e (E.int IntKind.i64
  1)), []) else (run none 75 [AV.e (E.sl 97 a0_8)] []).bind fun rh => bif okHeap [] rh.2 then bif okRes PP 23 rh.fst then some (Res.ret (AV.e (E.int IntKind.i64
  rh.fst.val.data.toInt)), []) else none else none else none else none else none else none else none else none else none else none else none else none := by kernel_rfl
theorem eq_MSame (run : RunF) (loop : LoopF) (a0_0 : List UInt8) (a0_1 : List UInt8) (a0_2 : Int) (a0_3 : Bool) (a0_4 : Int) (a0_5 : Int) (a0_6 : List UInt8) (a0_7 : Int) (a0_8 :
  List E) (a1_0 : List UInt8) (a1_1 : List UInt8) (a1_2 : Int) (a1_3 : Bool) (a1_4 : Int) (a1_5 : Int) (a1_6 : List UInt8) (a1_7 : Int) (a1_8 : List E) : bodyRun
  PP HH run loop none 79 [.agg [.e (.str a0_0), .e (.str a0_1), .e (.int .i64 a0_2), .e (.bool a0_3), .e (.int .i64 a0_4), .e (.int .i64 a0_5), .e (.str a0_6), .e
  (.int .i64 a0_7), .e (.sl 97 a0_8)], .agg [.e (.str a1_0), .e (.str a1_1), .e (.int .i64 a1_2), .e (.bool a1_3), .e (.int .i64 a1_4), .e (.int .i64 a1_5), .e (.str a1_6), .e
  (.int .i64 a1_7), .e (.sl 97 a1_8)]] [] = bif bif bif bif bif bif bif bif bif !strEq a0_0 a1_0 then true else !strEq a0_1 a1_1 then true else !a0_2 == a1_2 then true else !a0_3
  == a1_3 then true else !a0_4 == a1_4 then true else !a0_5 == a1_5 then true else !strEq a0_6 a1_6 then true else !a0_7 == a1_7 then true else !(↑a0_8.length : Int) ==
  (↑a1_8.length : Int) then some (Res.ret ((yes false)), []) else (loop 79 0 lc_79_4 ([uu, uu, uu, AV.ptr 0 0] ++ List.replicate 67 uu ++ [AV.e
  (E.sl 97 a0_8), (num (↑a0_8.length : Int)), (num 0)] ++ List.replicate 12 uu) [Ob.box [(str a1_0), (str a1_1), AV.e
  (E.int IntKind.i64 a1_2), (yes a1_3), (num a1_4), (num a1_5), (str a1_6), (num a1_7), AV.e (E.sl 97
  a1_8)]]).bind fun o => bif o.ex.isWay (Way.exit 0) then bif okFr (List.replicate 86 uu) o.2 && okHeap [] o.3 then some (Res.ret ((yes true)), []) else none else bif
  o.ex.isWay Way.ret then bif okFr ([uu, uu, uu, uu, (yes false)] ++ List.replicate 81 uu) o.2 && okHeap [] o.3 then some (Res.ret (AV.e
  (E.bool (List.getD o.fr 4 uu).data.toBool)), []) else none else none := by kernel_rfl
theorem eq_MSameL4 (run : RunF) (loop : LoopF) (t71 : List E) (t72 : Int) (t73 : Int) (t3_0 : List UInt8) (t3_1 : List UInt8) (t3_2 : Int) (t3_3 : Bool) (t3_4 : Int) (t3_5 : Int)
  (t3_6 : List UInt8) (t3_7 : Int) (t3_8 : List E) : bodyLoop PP HH run loop 79 0 lc_79_4 (((((List.replicate 86 uu).set 3 (.ptr 0 0)).set 71 (.e (.sl 97
  t71))).set 72 (.e (.int .i64 t72))).set 73 (.e (.int .i64 t73))) [.box [.e (.str t3_0), .e (.str t3_1), .e (.int .i64 t3_2), .e (.bool t3_3), .e (.int .i64 t3_4), .e (.int .i64
  t3_5), .e (.str t3_6), .e (.int .i64 t3_7), .e (.sl 97 t3_8)]] = bif decide (t73 < t72) then bif decide (0 ≤ t73) && decide (t73 < (↑t71.length : Int)) then bif decide (0 ≤ t73)
  && decide (t73 < (↑t3_8.length : Int)) then bif !(strEq ((t71.getD t73.toNat E.nili).cell 0).toStr ((t3_8.getD t73.toNat E.nili).cell 0).toStr && (strEq ((t71.getD t73.toNat
  E.nili).cell 1).toStr ((t3_8.getD t73.toNat E.nili).cell 1).toStr && true)) then some (Out.mk (Ex.ret) (([uu, uu, uu, uu, (yes false)] ++
  List.replicate 81 uu)) ([]) ([])) else (loop 79 0 lc_79_4 ([uu, uu, uu, AV.ptr 0 0] ++ List.replicate 67 uu ++ [AV.e (E.sl 97 t71), AV.e (E.int
  IntKind.i64 t72), (num (IntKind.i64.wrap (t73 + 1)))] ++ List.replicate 12 uu) [Ob.box [(str t3_0), (str t3_1), AV.e (E.int IntKind.i64
  t3_2), (yes t3_3), (num t3_4), (num t3_5), (str t3_6), (num t3_7), AV.e (E.sl 97 t3_8)]]).bind fun o =>
  some o else none else none else some (Out.mk (Ex.exit 0) ((List.replicate 86 uu)) ([]) ([])) := by kernel_rfl
theorem eq_mkey (run : RunF) (loop : LoopF) (a0 : List UInt8) : bodyRun PP HH run loop none 108 [.e (.str a0)] [] = bif bif decide ((↑a0.length : Int) < 1) then
  true else decide (16 < (↑a0.length : Int)) then some (Res.ret ((yes false)), []) else (loop 108 0 lc_108_4 ([(str a0), uu, uu, AV.e (E.int IntKind.i64
  0)] ++ List.replicate 36 uu) []).bind fun o => bif o.ex.isWay (Way.exit 0) then bif okFr (List.replicate 40 uu) o.2 && okHeap [] o.3 then some (Res.ret (AV.e (E.bool
  true)), []) else none else bif o.ex.isWay Way.ret then bif okFr ([uu, uu, (yes false)] ++ List.replicate 37 uu) o.2 && okHeap [] o.3 then some (Res.ret
  ((yes (List.getD o.fr 2 uu).data.toBool)), []) else none else none := by kernel_rfl
theorem eq_mkeyL4 (run : RunF) (loop : LoopF) (t0 : List UInt8) (t3 : Int) : bodyLoop PP HH run loop 108 0 lc_108_4 (((List.replicate 40 uu).set 0 (.e (.str
  t0))).set 3 (.e (.int .i64 t3))) [] = bif decide (t3 < (↑t0.length : Int)) then bif decide (0 ≤ t3) && decide (t3 < (↑t0.length : Int)) then bif (bif decide ((↑(t0.getD t3.toNat
  0).toNat : Int) < 97) then true else decide (122 < (↑(t0.getD t3.toNat 0).toNat : Int))) == true then bif decide ((↑(t0.getD t3.toNat 0).toNat : Int) < 48) == false then bif bif
  decide (57 < (↑(t0.getD t3.toNat 0).toNat : Int)) then !(↑(t0.getD t3.toNat 0).toNat : Int) == 45 else false then some (Out.mk (Ex.ret) (([uu, uu, AV.e (E.bool
  false)] ++ List.replicate 37 uu)) ([]) ([])) else (loop 108 0 lc_108_4 ([(str t0), uu, uu, (num (IntKind.i64.wrap (t3 + 1)))] ++
  List.replicate 36 uu) []).bind fun o => some o else bif !(↑(t0.getD t3.toNat 0).toNat : Int) == 45 then some (Out.mk (Ex.ret) (([uu, uu, (yes false)] ++
  List.replicate 37 uu)) ([]) ([])) else (loop 108 0 lc_108_4 ([(str t0), uu, uu, (num (IntKind.i64.wrap (t3 + 1)))] ++ List.replicate
  36 uu) []).bind fun o => some o else (loop 108 0 lc_108_4 ([(str t0), uu, uu, (num (IntKind.i64.wrap (t3 + 1)))] ++ List.replicate 36
  uu) []).bind fun o => some o else none else some (Out.mk (Ex.exit 0) ((List.replicate 40 uu)) ([]) ([])) := by kernel_rfl
theorem eq_mis (run : RunF) (loop : LoopF) (a0 : Int) (a1 : Int) : bodyRun PP HH run loop none 110 [.e (.int .i64 a0), .e (.int .i64 a1)] [] = some (Res.ret (AV.e
  (E.bool (bif decide (0 ≤ a0) then decide (a0 ≤ a1) else false))), []) := by kernel_rfl
theorem eq_R5SameProps (run : RunF) (loop : LoopF) (a0 : List E) (a1 : List E) : bodyRun PP HH run loop none 69 [.e (.sl 97 a0), .e (.sl 97 a1)] [] = bif
  !(↑a0.length : Int) == (↑a1.length : Int) then some (Res.ret ((yes false)), []) else (loop 69 0 lc_69_4 ([AV.e (E.sl 97 a0), AV.e (E.sl 97 a1), uu, uu,
  uu, (num 0)] ++ List.replicate 20 uu) []).bind fun o => bif o.ex.isWay (Way.exit 0) then bif okFr (List.replicate 26 uu) o.2 && okHeap [] o.3
  then some (Res.ret ((yes true)), []) else none else bif o.ex.isWay Way.ret then bif okFr ([uu, uu, uu, uu, (yes false)] ++ List.replicate
  21 uu) o.2 && okHeap [] o.3 then some (Res.ret ((yes (List.getD o.fr 4 uu).data.toBool)), []) else none else none := by kernel_rfl
theorem eq_R5SamePropsL4 (run : RunF) (loop : LoopF) (t0 : List E) (t1 : List E) (t5 : Int) : bodyLoop PP HH run loop 69 0 lc_69_4 ((((List.replicate 26
  uu).set 0 (.e (.sl 97 t0))).set 1 (.e (.sl 97 t1))).set 5 (.e (.int .i64 t5))) [] = bif decide (t5 < (↑t0.length : Int)) then bif decide (0 ≤ t5) && decide (t5 <
  (↑t0.length : Int)) then bif decide (0 ≤ t5) && decide (t5 < (↑t1.length : Int)) then bif !(strEq ((t0.getD t5.toNat E.nili).cell 0).toStr ((t1.getD t5.toNat E.nili).cell
  0).toStr && (strEq ((t0.getD t5.toNat E.nili).cell 1).toStr ((t1.getD t5.toNat E.nili).cell 1).toStr && true)) then some (Out.mk (Ex.ret) (([uu, uu, uu,
  uu, (yes false)] ++ List.replicate 21 uu)) ([]) ([])) else (loop 69 0 lc_69_4 ([AV.e (E.sl 97 t0), AV.e (E.sl 97 t1), uu, uu, uu, AV.e
  (E.int IntKind.i64 (IntKind.i64.wrap (t5 + 1)))] ++ List.replicate 20 uu) []).bind fun o => some o else none else none else some (Out.mk (Ex.exit 0) ((List.replicate 26
  uu)) ([]) ([])) := by kernel_rfl
theorem eq_R5Same (run : RunF) (loop : LoopF) (a0_0 : List UInt8) (a0_1 : List UInt8) (a0_2 : Int) (a0_3 : Bool) (a0_4 : Int) (a0_5 : Int) (a0_6 : List UInt8) (a0_7 : Int) (a0_8 :
  List E) (a1_0 : List UInt8) (a1_1 : List UInt8) (a1_2 : Int) (a1_3 : Bool) (a1_4 : Int) (a1_5 : Int) (a1_6 : List UInt8) (a1_7 : Int) (a1_8 : List E) : bodyRun
  PP HH run loop none 27 [.agg [.e (.str a0_0), .e (.str a0_1), .e (.int .i64 a0_2), .e (.bool a0_3), .e (.int .i64 a0_4), .e (.int .i64 a0_5), .e (.str a0_6), .e
  (.int .i64 a0_7), .e (.sl 97 a0_8)], .agg [.e (.str a1_0), .e (.str a1_1), .e (.int .i64 a1_2), .e (.bool a1_3), .e (.int .i64 a1_4), .e (.int .i64 a1_5), .e (.str a1_6), .e
  (.int .i64 a1_7), .e (.sl 97 a1_8)]] [] = bif (bif bif bif bif bif bif bif strEq a0_0 a1_0 then strEq a0_1 a1_1 else false then a0_2 == a1_2 else false then a0_3 == a1_3 else
  false then a0_4 == a1_4 else false then a0_5 == a1_5 else false then strEq a0_6 a1_6 else false then a0_7 == a1_7 else false) == true then (run none 69 [AV.e (E.sl 97 a0_8), AV.e
  (E.sl 97 a1_8)] []).bind fun rh => bif okHeap [] rh.2 then bif okRes PP 4 rh.fst then some (Res.ret ((yes rh.fst.val.data.toBool)), []) else none else none else
  some (Res.ret ((yes false)), []) := by kernel_rfl
theorem eq_usedK1 (run : RunF) (loop : LoopF) (a0_1 : Int) (a0_2 : Int) (a0_3 : Int) (a0_4 : Int) (a0_5 : Bool) (a0_6 : List UInt8) (a0_7 : List UInt8) (a0_8 : List UInt8) (a0_9 :
  Int) (a0_10 : List UInt8) (a0_11 : List UInt8) (a0_12 : Int) (a0_13 : Int) (a0_14 : Int) (a0_15 : List UInt8) (a0_16 : List UInt8) (a0_17 : List UInt8) (a0_18 : List UInt8)
  (a0_19 : Bool) (a0_20 : List E) (a0_21 : List UInt8) (a0_22 : List UInt8) (a0_23 : Int) (a0_24 : Bool) (a0_25 : Int) (a0_26 : Int) (a0_27 : List UInt8) (a0_28 : Int) (a0_29 :
  List E) : bodyRun PP HH run loop none 35 [.agg [.e (.int .i64 1), .e (.int .i64 a0_1), .e (.int .i64 a0_2), .e (.int .i64 a0_3), .e (.int .i64 a0_4), .e (.bool
  a0_5), .e (.str a0_6), .e (.str a0_7), .e (.str a0_8), .e (.int .i64 a0_9), .e (.str a0_10), .e (.str a0_11), .e (.int .i64 a0_12), .e (.int .i64 a0_13), .e (.int .i64 a0_14), .e
  (.str a0_15), .e (.str a0_16), .e (.str a0_17), .e (.str a0_18), .e (.bool a0_19), .e (.sl 97 a0_20), .e (.str a0_21), .e (.str a0_22), .e (.int .i64 a0_23), .e (.bool a0_24), .e
  (.int .i64 a0_25), .e (.int .i64 a0_26), .e (.str a0_27), .e (.int .i64 a0_28), .e (.sl 97 a0_29)]] [] = some (Res.ret (AV.agg [(num 1), AV.e (E.int
  IntKind.i64 a0_1), (num a0_2), (num 0), (num 0), (yes false), (str []), (str []), AV.e (E.str
  a0_8), (num a0_9), (str a0_10), (str []), (num 0), (num 0), (num 0), (str []),
  (str []), (str []), (str []), (yes false), AV.e (E.sl 97 []), (str []), (str []), (num 0), (yes false), AV.e
  (E.int IntKind.i64 0), (num 0), (str []), (num 0), AV.e (E.sl 97 [])]), []) := by kernel_rfl
theorem eq_usedK2 (run : RunF) (loop : LoopF) (a0_1 : Int) (a0_2 : Int) (a0_3 : Int) (a0_4 : Int) (a0_5 : Bool) (a0_6 : List UInt8) (a0_7 : List UInt8) (a0_8 : List UInt8) (a0_9 :
  Int) (a0_10 : List UInt8) (a0_11 : List UInt8) (a0_12 : Int) (a0_13 : Int) (a0_14 : Int) (a0_15 : List UInt8) (a0_16 : List UInt8) (a0_17 : List UInt8) (a0_18 : List UInt8)
  (a0_19 : Bool) (a0_20 : List E) (a0_21 : List UInt8) (a0_22 : List UInt8) (a0_23 : Int) (a0_24 : Bool) (a0_25 : Int) (a0_26 : Int) (a0_27 : List UInt8) (a0_28 : Int) (a0_29 :
  List E) : bodyRun PP HH run loop none 35 [.agg [.e (.int .i64 2), .e (.int .i64 a0_1), .e (.int .i64 a0_2), .e (.int .i64 a0_3), .e (.int .i64 a0_4), .e (.bool
  a0_5), .e (.str a0_6), .e (.str a0_7), .e (.str a0_8), .e (.int .i64 a0_9), .e (.str a0_10), .e (.str a0_11), .e (.int .i64 a0_12), .e (.int .i64 a0_13), .e (.int .i64 a0_14), .e
  (.str a0_15), .e (.str a0_16), .e (.str a0_17), .e (.str a0_18), .e (.bool a0_19), .e (.sl 97 a0_20), .e (.str a0_21), .e (.str a0_22), .e (.int .i64 a0_23), .e (.bool a0_24), .e
  (.int .i64 a0_25), .e (.int .i64 a0_26), .e (.str a0_27), .e (.int .i64 a0_28), .e (.sl 97 a0_29)]] [] = some (Res.ret (AV.agg [(num 2), AV.e (E.int
  IntKind.i64 a0_1), (num a0_2), (num 0), (num 0), (yes false), (str []), (str []), (str []),
  (num 0), (str []), (str a0_11), (num a0_12), (num a0_13), (num a0_14), AV.e (E.str
  a0_15), (str []), (str []), (str []), (yes false), AV.e (E.sl 97 []), (str []), (str []), (num 0), AV.e (E.bool
  false), (num 0), (num 0), (str []), (num 0), AV.e (E.sl 97 [])]), []) := by kernel_rfl
theorem eq_usedK3 (run : RunF) (loop : LoopF) (a0_1 : Int) (a0_2 : Int) (a0_3 : Int) (a0_4 : Int) (a0_5 : Bool) (a0_6 : List UInt8) (a0_7 : List UInt8) (a0_8 : List UInt8) (a0_9 :
  Int) (a0_10 : List UInt8) (a0_11 : List UInt8) (a0_12 : Int) (a0_13 : Int) (a0_14 : Int) (a0_15 : List UInt8) (a0_16 : List UInt8) (a0_17 : List UInt8) (a0_18 : List UInt8)
  (a0_19 : Bool) (a0_20 : List E) (a0_21 : List UInt8) (a0_22 : List UInt8) (a0_23 : Int) (a0_24 : Bool) (a0_25 : Int) (a0_26 : Int) (a0_27 : List UInt8) (a0_28 : Int) (a0_29 :
  List E) : bodyRun PP HH run loop none 35 [.agg [.e (.int .i64 3), .e (.int .i64 a0_1), .e (.int .i64 a0_2), .e (.int .i64 a0_3), .e (.int .i64 a0_4), .e (.bool
  a0_5), .e (.str a0_6), .e (.str a0_7), .e (.str a0_8), .e (.int .i64 a0_9), .e (.str a0_10), .e (.str a0_11), .e (.int .i64 a0_12), .e (.int .i64 a0_13), .e (.int .i64 a0_14), .e
  (.str a0_15), .e (.str a0_16), .e (.str a0_17), .e (.str a0_18), .e (.bool a0_19), .e (.sl 97 a0_20), .e (.str a0_21), .e (.str a0_22), .e (.int .i64 a0_23), .e (.bool a0_24), .e
  (.int .i64 a0_25), .e (.int .i64 a0_26), .e (.str a0_27), .e (.int .i64 a0_28), .e (.sl 97 a0_29)]] [] = some (Res.ret (AV.agg [(num 3), AV.e (E.int
  IntKind.i64 a0_1), (num a0_2), (num 0), (num 0), (yes false), (str []), (str []), (str []),
  (num 0), (str []), (str []), (num 0), (num 0), (num 0), (str []), AV.e (E.str
  a0_16), (str a0_17), (str a0_18), (yes a0_19), AV.e (E.sl 97 a0_20), (str []), (str []), (num 0), (yes false), AV.e
  (E.int IntKind.i64 0), (num 0), (str []), (num 0), AV.e (E.sl 97 [])]), []) := by kernel_rfl
theorem eq_usedK4 (run : RunF) (loop : LoopF) (a0_1 : Int) (a0_2 : Int) (a0_3 : Int) (a0_4 : Int) (a0_5 : Bool) (a0_6 : List UInt8) (a0_7 : List UInt8) (a0_8 : List UInt8) (a0_9 :
  Int) (a0_10 : List UInt8) (a0_11 : List UInt8) (a0_12 : Int) (a0_13 : Int) (a0_14 : Int) (a0_15 : List UInt8) (a0_16 : List UInt8) (a0_17 : List UInt8) (a0_18 : List UInt8)
  (a0_19 : Bool) (a0_20 : List E) (a0_21 : List UInt8) (a0_22 : List UInt8) (a0_23 : Int) (a0_24 : Bool) (a0_25 : Int) (a0_26 : Int) (a0_27 : List UInt8) (a0_28 : Int) (a0_29 :
  List E) : bodyRun PP HH run loop none 35 [.agg [.e (.int .i64 4), .e (.int .i64 a0_1), .e (.int .i64 a0_2), .e (.int .i64 a0_3), .e (.int .i64 a0_4), .e (.bool
  a0_5), .e (.str a0_6), .e (.str a0_7), .e (.str a0_8), .e (.int .i64 a0_9), .e (.str a0_10), .e (.str a0_11), .e (.int .i64 a0_12), .e (.int .i64 a0_13), .e (.int .i64 a0_14), .e
  (.str a0_15), .e (.str a0_16), .e (.str a0_17), .e (.str a0_18), .e (.bool a0_19), .e (.sl 97 a0_20), .e (.str a0_21), .e (.str a0_22), .e (.int .i64 a0_23), .e (.bool a0_24), .e
  (.int .i64 a0_25), .e (.int .i64 a0_26), .e (.str a0_27), .e (.int .i64 a0_28), .e (.sl 97 a0_29)]] [] = some (Res.ret (AV.agg [(num 4), AV.e (E.int
  IntKind.i64 a0_1), (num a0_2), (num 0), (num 0), (yes false), (str []), (str []), (str []),
  (num 0), (str []), (str []), (num 0), (num 0), (num 0), (str []), AV.e (E.str
  a0_16), (str a0_17), (str a0_18), (yes a0_19), AV.e (E.sl 97 a0_20), (str []), (str []), (num 0), (yes false), AV.e
  (E.int IntKind.i64 0), (num 0), (str []), (num 0), AV.e (E.sl 97 [])]), []) := by kernel_rfl
theorem eq_usedK5 (run : RunF) (loop : LoopF) (a0_1 : Int) (a0_2 : Int) (a0_3 : Int) (a0_4 : Int) (a0_5 : Bool) (a0_6 : List UInt8) (a0_7 : List UInt8) (a0_8 : List UInt8) (a0_9 :
  Int) (a0_10 : List UInt8) (a0_11 : List UInt8) (a0_12 : Int) (a0_13 : Int) (a0_14 : Int) (a0_15 : List UInt8) (a0_16 : List UInt8) (a0_17 : List UInt8) (a0_18 : List UInt8)
  (a0_19 : Bool) (a0_20 : List E) (a0_21 : List UInt8) (a0_22 : List UInt8) (a0_23 : Int) (a0_24 : Bool) (a0_25 : Int) (a0_26 : Int) (a0_27 : List UInt8) (a0_28 : Int) (a0_29 :
  List E) : bodyRun PP HH run loop none 35 [.agg [.e (.int .i64 5), .e (.int .i64 a0_1), .e (.int .i64 a0_2), .e (.int .i64 a0_3), .e (.int .i64 a0_4), .e (.bool
  a0_5), .e (.str a0_6), .e (.str a0_7), .e (.str a0_8), .e (.int .i64 a0_9), .e (.str a0_10), .e (.str a0_11), .e (.int .i64 a0_12), .e (.int .i64 a0_13), .e (.int .i64 a0_14), .e
  (.str a0_15), .e (.str a0_16), .e (.str a0_17), .e (.str a0_18), .e (.bool a0_19), .e (.sl 97 a0_20), .e (.str a0_21), .e (.str a0_22), .e (.int .i64 a0_23), .e (.bool a0_24), .e
  (.int .i64 a0_25), .e (.int .i64 a0_26), .e (.str a0_27), .e (.int .i64 a0_28), .e (.sl 97 a0_29)]] [] = some (Res.ret (AV.agg [(num 5), AV.e (E.int
  IntKind.i64 a0_1), (num a0_2), (num 0), (num 0), (yes false), (str a0_6), (str a0_7), AV.e (E.str
  []), (num 0), (str []), (str []), (num 0), (num 0), (num 0), (str []), AV.e
  (E.str []), (str []), (str []), (yes false), AV.e (E.sl 97 []), (str a0_21), (str a0_22), (num a0_23), (yes a0_24),
  (num a0_25), (num a0_26), (str a0_27), (num a0_28), AV.e (E.sl 97 a0_29)]), []) := by kernel_rfl
theorem eq_usedK6 (run : RunF) (loop : LoopF) (a0_1 : Int) (a0_2 : Int) (a0_3 : Int) (a0_4 : Int) (a0_5 : Bool) (a0_6 : List UInt8) (a0_7 : List UInt8) (a0_8 : List UInt8) (a0_9 :
  Int) (a0_10 : List UInt8) (a0_11 : List UInt8) (a0_12 : Int) (a0_13 : Int) (a0_14 : Int) (a0_15 : List UInt8) (a0_16 : List UInt8) (a0_17 : List UInt8) (a0_18 : List UInt8)
  (a0_19 : Bool) (a0_20 : List E) (a0_21 : List UInt8) (a0_22 : List UInt8) (a0_23 : Int) (a0_24 : Bool) (a0_25 : Int) (a0_26 : Int) (a0_27 : List UInt8) (a0_28 : Int) (a0_29 :
  List E) : bodyRun PP HH run loop none 35 [.agg [.e (.int .i64 6), .e (.int .i64 a0_1), .e (.int .i64 a0_2), .e (.int .i64 a0_3), .e (.int .i64 a0_4), .e (.bool
  a0_5), .e (.str a0_6), .e (.str a0_7), .e (.str a0_8), .e (.int .i64 a0_9), .e (.str a0_10), .e (.str a0_11), .e (.int .i64 a0_12), .e (.int .i64 a0_13), .e (.int .i64 a0_14), .e
  (.str a0_15), .e (.str a0_16), .e (.str a0_17), .e (.str a0_18), .e (.bool a0_19), .e (.sl 97 a0_20), .e (.str a0_21), .e (.str a0_22), .e (.int .i64 a0_23), .e (.bool a0_24), .e
  (.int .i64 a0_25), .e (.int .i64 a0_26), .e (.str a0_27), .e (.int .i64 a0_28), .e (.sl 97 a0_29)]] [] = some (Res.ret (AV.agg [(num 6), AV.e (E.int
  IntKind.i64 a0_1), (num a0_2), (num a0_3), (num a0_4), (yes false), (str a0_6), (str []), AV.e
  (E.str []), (num 0), (str []), (str []), (num 0), (num 0), (num 0), (str []),
  (str []), (str []), (str []), (yes false), AV.e (E.sl 97 []), (str []), (str []), (num 0), (yes false), AV.e
  (E.int IntKind.i64 0), (num 0), (str []), (num 0), AV.e (E.sl 97 [])]), []) := by kernel_rfl
theorem eq_usedK7 (run : RunF) (loop : LoopF) (a0_1 : Int) (a0_2 : Int) (a0_3 : Int) (a0_4 : Int) (a0_5 : Bool) (a0_6 : List UInt8) (a0_7 : List UInt8) (a0_8 : List UInt8) (a0_9 :
  Int) (a0_10 : List UInt8) (a0_11 : List UInt8) (a0_12 : Int) (a0_13 : Int) (a0_14 : Int) (a0_15 : List UInt8) (a0_16 : List UInt8) (a0_17 : List UInt8) (a0_18 : List UInt8)
  (a0_19 : Bool) (a0_20 : List E) (a0_21 : List UInt8) (a0_22 : List UInt8) (a0_23 : Int) (a0_24 : Bool) (a0_25 : Int) (a0_26 : Int) (a0_27 : List UInt8) (a0_28 : Int) (a0_29 :
  List E) : bodyRun PP HH run loop none 35 [.agg [.e (.int .i64 7), .e (.int .i64 a0_1), .e (.int .i64 a0_2), .e (.int .i64 a0_3), .e (.int .i64 a0_4), .e (.bool
  a0_5), .e (.str a0_6), .e (.str a0_7), .e (.str a0_8), .e (.int .i64 a0_9), .e (.str a0_10), .e (.str a0_11), .e (.int .i64 a0_12), .e (.int .i64 a0_13), .e (.int .i64 a0_14), .e
  (.str a0_15), .e (.str a0_16), .e (.str a0_17), .e (.str a0_18), .e (.bool a0_19), .e (.sl 97 a0_20), .e (.str a0_21), .e (.str a0_22), .e (.int .i64 a0_23), .e (.bool a0_24), .e
  (.int .i64 a0_25), .e (.int .i64 a0_26), .e (.str a0_27), .e (.int .i64 a0_28), .e (.sl 97 a0_29)]] [] = some (Res.ret (AV.agg [(num 7), AV.e (E.int
  IntKind.i64 a0_1), (num a0_2), (num a0_3), (num 0), (yes false), (str []), (str []), AV.e (E.str
  []), (num 0), (str []), (str []), (num 0), (num 0), (num 0), (str []), AV.e
  (E.str []), (str []), (str []), (yes false), AV.e (E.sl 97 []), (str []), (str []), (num 0), (yes false), AV.e
  (E.int IntKind.i64 0), (num 0), (str []), (num 0), AV.e (E.sl 97 [])]), []) := by kernel_rfl
theorem eq_usedK8 (run : RunF) (loop : LoopF) (a0_1 : Int) (a0_2 : Int) (a0_3 : Int) (a0_4 : Int) (a0_5 : Bool) (a0_6 : List UInt8) (a0_7 : List UInt8) (a0_8 : List UInt8) (a0_9 :
  Int) (a0_10 : List UInt8) (a0_11 : List UInt8) (a0_12 : Int) (a0_13 : Int) (a0_14 : Int) (a0_15 : List UInt8) (a0_16 : List UInt8) (a0_17 : List UInt8) (a0_18 : List UInt8)
  (a0_19 : Bool) (a0_20 : List E) (a0_21 : List UInt8) (a0_22 : List UInt8) (a0_23 : Int) (a0_24 : Bool) (a0_25 : Int) (a0_26 : Int) (a0_27 : List UInt8) (a0_28 : Int) (a0_29 :
  List E) : bodyRun PP HH run loop none 35 [.agg [.e (.int .i64 8), .e (.int .i64 a0_1), .e (.int .i64 a0_2), .e (.int .i64 a0_3), .e (.int .i64 a0_4), .e (.bool
  a0_5), .e (.str a0_6), .e (.str a0_7), .e (.str a0_8), .e (.int .i64 a0_9), .e (.str a0_10), .e (.str a0_11), .e (.int .i64 a0_12), .e (.int .i64 a0_13), .e (.int .i64 a0_14), .e
  (.str a0_15), .e (.str a0_16), .e (.str a0_17), .e (.str a0_18), .e (.bool a0_19), .e (.sl 97 a0_20), .e (.str a0_21), .e (.str a0_22), .e (.int .i64 a0_23), .e (.bool a0_24), .e
  (.int .i64 a0_25), .e (.int .i64 a0_26), .e (.str a0_27), .e (.int .i64 a0_28), .e (.sl 97 a0_29)]] [] = some (Res.ret (AV.agg [(num 8), AV.e (E.int
  IntKind.i64 a0_1), (num a0_2), (num a0_3), (num 0), (yes a0_5), (str []), (str []), AV.e (E.str
  []), (num 0), (str []), (str []), (num 0), (num 0), (num 0), (str []), AV.e
  (E.str []), (str []), (str []), (yes false), AV.e (E.sl 97 []), (str []), (str []), (num 0), (yes false), AV.e
  (E.int IntKind.i64 0), (num 0), (str []), (num 0), AV.e (E.sl 97 [])]), []) := by kernel_rfl
theorem eq_usedK9 (run : RunF) (loop : LoopF) (a0_1 : Int) (a0_2 : Int) (a0_3 : Int) (a0_4 : Int) (a0_5 : Bool) (a0_6 : List UInt8) (a0_7 : List UInt8) (a0_8 : List UInt8) (a0_9 :
  Int) (a0_10 : List UInt8) (a0_11 : List UInt8) (a0_12 : Int) (a0_13 : Int) (a0_14 : Int) (a0_15 : List UInt8) (a0_16 : List UInt8) (a0_17 : List UInt8) (a0_18 : List UInt8)
  (a0_19 : Bool) (a0_20 : List E) (a0_21 : List UInt8) (a0_22 : List UInt8) (a0_23 : Int) (a0_24 : Bool) (a0_25 : Int) (a0_26 : Int) (a0_27 : List UInt8) (a0_28 : Int) (a0_29 :
  List E) : bodyRun PP HH run loop none 35 [.agg [.e (.int .i64 9), .e (.int .i64 a0_1), .e (.int .i64 a0_2), .e (.int .i64 a0_3), .e (.int .i64 a0_4), .e (.bool
  a0_5), .e (.str a0_6), .e (.str a0_7), .e (.str a0_8), .e (.int .i64 a0_9), .e (.str a0_10), .e (.str a0_11), .e (.int .i64 a0_12), .e (.int .i64 a0_13), .e (.int .i64 a0_14), .e
  (.str a0_15), .e (.str a0_16), .e (.str a0_17), .e (.str a0_18), .e (.bool a0_19), .e (.sl 97 a0_20), .e (.str a0_21), .e (.str a0_22), .e (.int .i64 a0_23), .e (.bool a0_24), .e
  (.int .i64 a0_25), .e (.int .i64 a0_26), .e (.str a0_27), .e (.int .i64 a0_28), .e (.sl 97 a0_29)]] [] = some (Res.ret (AV.agg [(num 9), AV.e (E.int
  IntKind.i64 a0_1), (num a0_2), (num a0_3), (num 0), (yes a0_5), (str []), (str []), AV.e (E.str
  []), (num 0), (str []), (str []), (num 0), (num 0), (num 0), (str []), AV.e
  (E.str []), (str []), (str []), (yes false), AV.e (E.sl 97 []), (str []), (str []), (num 0), (yes false), AV.e
  (E.int IntKind.i64 0), (num 0), (str []), (num 0), AV.e (E.sl 97 [])]), []) := by kernel_rfl
theorem eq_usedK10 (run : RunF) (loop : LoopF) (a0_1 : Int) (a0_2 : Int) (a0_3 : Int) (a0_4 : Int) (a0_5 : Bool) (a0_6 : List UInt8) (a0_7 : List UInt8) (a0_8 : List UInt8) (a0_9 :
  Int) (a0_10 : List UInt8) (a0_11 : List UInt8) (a0_12 : Int) (a0_13 : Int) (a0_14 : Int) (a0_15 : List UInt8) (a0_16 : List UInt8) (a0_17 : List UInt8) (a0_18 : List UInt8)
  (a0_19 : Bool) (a0_20 : List E) (a0_21 : List UInt8) (a0_22 : List UInt8) (a0_23 : Int) (a0_24 : Bool) (a0_25 : Int) (a0_26 : Int) (a0_27 : List UInt8) (a0_28 : Int) (a0_29 :
  List E) : bodyRun PP HH run loop none 35 [.agg [.e (.int .i64 10), .e (.int .i64 a0_1), .e (.int .i64 a0_2), .e (.int .i64 a0_3), .e (.int .i64 a0_4), .e (.bool
  a0_5), .e (.str a0_6), .e (.str a0_7), .e (.str a0_8), .e (.int .i64 a0_9), .e (.str a0_10), .e (.str a0_11), .e (.int .i64 a0_12), .e (.int .i64 a0_13), .e (.int .i64 a0_14), .e
  (.str a0_15), .e (.str a0_16), .e (.str a0_17), .e (.str a0_18), .e (.bool a0_19), .e (.sl 97 a0_20), .e (.str a0_21), .e (.str a0_22), .e (.int .i64 a0_23), .e (.bool a0_24), .e
  (.int .i64 a0_25), .e (.int .i64 a0_26), .e (.str a0_27), .e (.int .i64 a0_28), .e (.sl 97 a0_29)]] [] = some (Res.ret (AV.agg [(num 10), AV.e (E.int
  IntKind.i64 a0_1), (num a0_2), (num 0), (num 0), (yes false), (str []), (str []), (str []),
  (num 0), (str []), (str []), (num 0), (num 0), (num 0), (str []), AV.e (E.str
  []), (str []), (str []), (yes false), AV.e (E.sl 97 []), (str []), (str []), (num 0), (yes false), AV.e (E.int
  IntKind.i64 0), (num 0), (str []), (num 0), AV.e (E.sl 97 [])]), []) := by kernel_rfl
theorem eq_usedK11 (run : RunF) (loop : LoopF) (a0_1 : Int) (a0_2 : Int) (a0_3 : Int) (a0_4 : Int) (a0_5 : Bool) (a0_6 : List UInt8) (a0_7 : List UInt8) (a0_8 : List UInt8) (a0_9 :
  Int) (a0_10 : List UInt8) (a0_11 : List UInt8) (a0_12 : Int) (a0_13 : Int) (a0_14 : Int) (a0_15 : List UInt8) (a0_16 : List UInt8) (a0_17 : List UInt8) (a0_18 : List UInt8)
  (a0_19 : Bool) (a0_20 : List E) (a0_21 : List UInt8) (a0_22 : List UInt8) (a0_23 : Int) (a0_24 : Bool) (a0_25 : Int) (a0_26 : Int) (a0_27 : List UInt8) (a0_28 : Int) (a0_29 :
  List E) : bodyRun PP HH run loop none 35 [.agg [.e (.int .i64 11), .e (.int .i64 a0_1), .e (.int .i64 a0_2), .e (.int .i64 a0_3), .e (.int .i64 a0_4), .e (.bool
  a0_5), .e (.str a0_6), .e (.str a0_7), .e (.str a0_8), .e (.int .i64 a0_9), .e (.str a0_10), .e (.str a0_11), .e (.int .i64 a0_12), .e (.int .i64 a0_13), .e (.int .i64 a0_14), .e
  (.str a0_15), .e (.str a0_16), .e (.str a0_17), .e (.str a0_18), .e (.bool a0_19), .e (.sl 97 a0_20), .e (.str a0_21), .e (.str a0_22), .e (.int .i64 a0_23), .e (.bool a0_24), .e
  (.int .i64 a0_25), .e (.int .i64 a0_26), .e (.str a0_27), .e (.int .i64 a0_28), .e (.sl 97 a0_29)]] [] = some (Res.ret (AV.agg [(num 11), AV.e (E.int
  IntKind.i64 a0_1), (num a0_2), (num 0), (num 0), (yes false), (str []), (str []), (str []),
  (num 0), (str []), (str []), (num 0), (num 0), (num 0), (str []), AV.e (E.str
  []), (str []), (str []), (yes false), AV.e (E.sl 97 []), (str []), (str []), (num 0), (yes false), AV.e (E.int
  IntKind.i64 0), (num 0), (str []), (num 0), AV.e (E.sl 97 [])]), []) := by kernel_rfl
theorem eq_usedK12 (run : RunF) (loop : LoopF) (a0_1 : Int) (a0_2 : Int) (a0_3 : Int) (a0_4 : Int) (a0_5 : Bool) (a0_6 : List UInt8) (a0_7 : List UInt8) (a0_8 : List UInt8) (a0_9 :
  Int) (a0_10 : List UInt8) (a0_11 : List UInt8) (a0_12 : Int) (a0_13 : Int) (a0_14 : Int) (a0_15 : List UInt8) (a0_16 : List UInt8) (a0_17 : List UInt8) (a0_18 : List UInt8)
  (a0_19 : Bool) (a0_20 : List E) (a0_21 : List UInt8) (a0_22 : List UInt8) (a0_23 : Int) (a0_24 : Bool) (a0_25 : Int) (a0_26 : Int) (a0_27 : List UInt8) (a0_28 : Int) (a0_29 :
  List E) : bodyRun PP HH run loop none 35 [.agg [.e (.int .i64 12), .e (.int .i64 a0_1), .e (.int .i64 a0_2), .e (.int .i64 a0_3), .e (.int .i64 a0_4), .e (.bool
  a0_5), .e (.str a0_6), .e (.str a0_7), .e (.str a0_8), .e (.int .i64 a0_9), .e (.str a0_10), .e (.str a0_11), .e (.int .i64 a0_12), .e (.int .i64 a0_13), .e (.int .i64 a0_14), .e
  (.str a0_15), .e (.str a0_16), .e (.str a0_17), .e (.str a0_18), .e (.bool a0_19), .e (.sl 97 a0_20), .e (.str a0_21), .e (.str a0_22), .e (.int .i64 a0_23), .e (.bool a0_24), .e
  (.int .i64 a0_25), .e (.int .i64 a0_26), .e (.str a0_27), .e (.int .i64 a0_28), .e (.sl 97 a0_29)]] [] = some (Res.ret (AV.agg [(num 12), AV.e (E.int
  IntKind.i64 a0_1), (num a0_2), (num 0), (num 0), (yes false), (str []), (str []), (str []),
  (num 0), (str []), (str []), (num 0), (num 0), (num 0), (str []), AV.e (E.str
  []), (str []), (str []), (yes false), AV.e (E.sl 97 []), (str []), (str []), (num 0), (yes false), AV.e (E.int
  IntKind.i64 0), (num 0), (str []), (num 0), AV.e (E.sl 97 [])]), []) := by kernel_rfl
theorem eq_usedK13 (run : RunF) (loop : LoopF) (a0_1 : Int) (a0_2 : Int) (a0_3 : Int) (a0_4 : Int) (a0_5 : Bool) (a0_6 : List UInt8) (a0_7 : List UInt8) (a0_8 : List UInt8) (a0_9 :
  Int) (a0_10 : List UInt8) (a0_11 : List UInt8) (a0_12 : Int) (a0_13 : Int) (a0_14 : Int) (a0_15 : List UInt8) (a0_16 : List UInt8) (a0_17 : List UInt8) (a0_18 : List UInt8)
  (a0_19 : Bool) (a0_20 : List E) (a0_21 : List UInt8) (a0_22 : List UInt8) (a0_23 : Int) (a0_24 : Bool) (a0_25 : Int) (a0_26 : Int) (a0_27 : List UInt8) (a0_28 : Int) (a0_29 :
  List E) : bodyRun PP HH run loop none 35 [.agg [.e (.int .i64 13), .e (.int .i64 a0_1), .e (.int .i64 a0_2), .e (.int .i64 a0_3), .e (.int .i64 a0_4), .e (.bool
  a0_5), .e (.str a0_6), .e (.str a0_7), .e (.str a0_8), .e (.int .i64 a0_9), .e (.str a0_10), .e (.str a0_11), .e (.int .i64 a0_12), .e (.int .i64 a0_13), .e (.int .i64 a0_14), .e
  (.str a0_15), .e (.str a0_16), .e (.str a0_17), .e (.str a0_18), .e (.bool a0_19), .e (.sl 97 a0_20), .e (.str a0_21), .e (.str a0_22), .e (.int .i64 a0_23), .e (.bool a0_24), .e
  (.int .i64 a0_25), .e (.int .i64 a0_26), .e (.str a0_27), .e (.int .i64 a0_28), .e (.sl 97 a0_29)]] [] = some (Res.ret (AV.agg [(num 13), AV.e (E.int
  IntKind.i64 a0_1), (num a0_2), (num 0), (num 0), (yes false), (str a0_6), (str []), AV.e (E.str
  []), (num 0), (str []), (str []), (num 0), (num 0), (num 0), (str []), AV.e
  (E.str []), (str []), (str []), (yes false), AV.e (E.sl 97 []), (str []), (str []), (num 0), (yes false), AV.e
  (E.int IntKind.i64 0), (num 0), (str []), (num 0), AV.e (E.sl 97 [])]), []) := by kernel_rfl
theorem eq_usedK14 (run : RunF) (loop : LoopF) (a0_1 : Int) (a0_2 : Int) (a0_3 : Int) (a0_4 : Int) (a0_5 : Bool) (a0_6 : List UInt8) (a0_7 : List UInt8) (a0_8 : List UInt8) (a0_9 :
  Int) (a0_10 : List UInt8) (a0_11 : List UInt8) (a0_12 : Int) (a0_13 : Int) (a0_14 : Int) (a0_15 : List UInt8) (a0_16 : List UInt8) (a0_17 : List UInt8) (a0_18 : List UInt8)
  (a0_19 : Bool) (a0_20 : List E) (a0_21 : List UInt8) (a0_22 : List UInt8) (a0_23 : Int) (a0_24 : Bool) (a0_25 : Int) (a0_26 : Int) (a0_27 : List UInt8) (a0_28 : Int) (a0_29 :
  List E) : bodyRun PP HH run loop none 35 [.agg [.e (.int .i64 14), .e (.int .i64 a0_1), .e (.int .i64 a0_2), .e (.int .i64 a0_3), .e (.int .i64 a0_4), .e (.bool
  a0_5), .e (.str a0_6), .e (.str a0_7), .e (.str a0_8), .e (.int .i64 a0_9), .e (.str a0_10), .e (.str a0_11), .e (.int .i64 a0_12), .e (.int .i64 a0_13), .e (.int .i64 a0_14), .e
  (.str a0_15), .e (.str a0_16), .e (.str a0_17), .e (.str a0_18), .e (.bool a0_19), .e (.sl 97 a0_20), .e (.str a0_21), .e (.str a0_22), .e (.int .i64 a0_23), .e (.bool a0_24), .e
  (.int .i64 a0_25), .e (.int .i64 a0_26), .e (.str a0_27), .e (.int .i64 a0_28), .e (.sl 97 a0_29)]] [] = some (Res.ret (AV.agg [(num 14), AV.e (E.int
  IntKind.i64 a0_1), (num a0_2), (num 0), (num 0), (yes false), (str a0_6), (str []), AV.e (E.str
  []), (num 0), (str []), (str []), (num 0), (num 0), (num 0), (str []), AV.e
  (E.str []), (str []), (str []), (yes false), AV.e (E.sl 97 []), (str []), (str []), (num 0), (yes false), AV.e
  (E.int IntKind.i64 0), (num 0), (str []), (num 0), AV.e (E.sl 97 [])]), []) := by kernel_rfl
theorem eq_usedK15 (run : RunF) (loop : LoopF) (a0_1 : Int) (a0_2 : Int) (a0_3 : Int) (a0_4 : Int) (a0_5 : Bool) (a0_6 : List UInt8) (a0_7 : List UInt8) (a0_8 : List UInt8) (a0_9 :
  Int) (a0_10 : List UInt8) (a0_11 : List UInt8) (a0_12 : Int) (a0_13 : Int) (a0_14 : Int) (a0_15 : List UInt8) (a0_16 : List UInt8) (a0_17 : List UInt8) (a0_18 : List UInt8)
  (a0_19 : Bool) (a0_20 : List E) (a0_21 : List UInt8) (a0_22 : List UInt8) (a0_23 : Int) (a0_24 : Bool) (a0_25 : Int) (a0_26 : Int) (a0_27 : List UInt8) (a0_28 : Int) (a0_29 :
  List E) : bodyRun PP HH run loop none 35 [.agg [.e (.int .i64 15), .e (.int .i64 a0_1), .e (.int .i64 a0_2), .e (.int .i64 a0_3), .e (.int .i64 a0_4), .e (.bool
  a0_5), .e (.str a0_6), .e (.str a0_7), .e (.str a0_8), .e (.int .i64 a0_9), .e (.str a0_10), .e (.str a0_11), .e (.int .i64 a0_12), .e (.int .i64 a0_13), .e (.int .i64 a0_14), .e
  (.str a0_15), .e (.str a0_16), .e (.str a0_17), .e (.str a0_18), .e (.bool a0_19), .e (.sl 97 a0_20), .e (.str a0_21), .e (.str a0_22), .e (.int .i64 a0_23), .e (.bool a0_24), .e
  (.int .i64 a0_25), .e (.int .i64 a0_26), .e (.str a0_27), .e (.int .i64 a0_28), .e (.sl 97 a0_29)]] [] = some (Res.ret (AV.agg [(num 15), AV.e (E.int
  IntKind.i64 a0_1), (num a0_2), (num 0), (num 0), (yes false), (str a0_6), (str []), AV.e (E.str
  []), (num 0), (str []), (str []), (num 0), (num 0), (num 0), (str []), AV.e
  (E.str []), (str []), (str []), (yes false), AV.e (E.sl 97 []), (str []), (str []), (num 0), (yes false), AV.e
  (E.int IntKind.i64 0), (num 0), (str []), (num 0), AV.e (E.sl 97 [])]), []) := by kernel_rfl
end Go.Proofs.YtmocefjnplmibaaGreatDoor
