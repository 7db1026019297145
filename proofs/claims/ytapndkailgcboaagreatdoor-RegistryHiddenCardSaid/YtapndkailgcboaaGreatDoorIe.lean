/- The equations of functions, as a program of mine prints them. -/
import Derived.Test.YtapndkailgcboaaGreatDoorBase
namespace Go.Proofs.YtapndkailgcboaaGreatDoor
open Go Go.Den
set_option maxRecDepth 100000
set_option maxHeartbeats 0

theorem eq_Includes (run : RunF) (loop : LoopF) (a0_0 : Int) (a0_1 : Int) (a0_2 : Int) (a0_3 : List E) (a0_4 : List E) (a0_5 : List E) (a1_0 : Int) (a1_1 : Int) (a1_2 : Int) (a1_3
  : List E) (a1_4 : List E) (a1_5 : List E) : bodyRun PP HH run loop none 178 [.agg [.e (.int .i64 a0_0), .e (.int .i64 a0_1), .e (.int .i64 a0_2), .e (.sl 9
  a0_3), .e (.sl 31 a0_4), .e (.sl 65 a0_5)], .agg [.e (.int .i64 a1_0), .e (.int .i64 a1_1), .e (.int .i64 a1_2), .e (.sl 9 a1_3), .e (.sl 31 a1_4), .e (.sl 65 a1_5)]] [] = bif
  a0_0 == 7 then some (Res.ret ((yes true)), []) else bif bif a0_0 == 2 then a1_0 == 4 else false then (loop 178 0 lc_178_6 ([uu, uu, AV.ptr 0 0] ++
  List.replicate 31 uu ++ [AV.e (E.sl 9 a1_3), (num (↑a1_3.length : Int)), (num 0)] ++ List.replicate 66 uu) [Ob.box [AV.e (E.int
  IntKind.i64 a0_0), (num a0_1), (num a0_2), AV.e (E.sl 9 a0_3), AV.e (E.sl 31 a0_4), AV.e (E.sl 65 a0_5)]]).bind fun o => bif o.ex.isWay
  (Way.exit 0) then bif okFr (List.replicate 103 uu) o.2 && okHeap [] o.3 then some (Res.ret ((yes true)), []) else none else bif o.ex.isWay Way.ret then bif okFr
  ([uu, uu, uu, uu, (yes false)] ++ List.replicate 98 uu) o.2 && okHeap [] o.3 then some (Res.ret ((yes (List.getD o.fr 4
  uu).data.toBool)), []) else none else none else bif !a0_0 == a1_0 then some (Res.ret ((yes false)), []) else bif a0_0 == 1 then bif a0_0 == 1 then some (Res.ret
  ((yes (bif decide (a0_1 ≤ a1_1) then decide (a1_2 ≤ a0_2) else false))), []) else bif a0_0 == 4 then (loop 178 0 lc_178_20 ([uu, uu, AV.ptr 0 0] ++
  List.replicate 64 uu ++ [AV.e (E.sl 9 a1_3), (num (↑a1_3.length : Int)), (num 0)] ++ List.replicate 33 uu) [Ob.box [AV.e (E.int
  IntKind.i64 a0_0), (num a0_1), (num a0_2), AV.e (E.sl 9 a0_3), AV.e (E.sl 31 a0_4), AV.e (E.sl 65 a0_5)]]).bind fun o => bif o.ex.isWay
  (Way.exit 3) then bif okFr (List.replicate 103 uu) o.2 && okHeap [] o.3 then some (Res.ret ((yes true)), []) else none else bif o.ex.isWay Way.ret then bif okFr
  ([uu, uu, uu, uu, (yes false)] ++ List.replicate 98 uu) o.2 && okHeap [] o.3 then some (Res.ret ((yes (List.getD o.fr 4
  uu).data.toBool)), []) else none else none else bif a0_0 == 5 then bif (bif decide (a0_1 ≤ a1_1) then decide (a1_2 ≤ a0_2) else false) == true then bif (a1_2 == 0) == false
  then bif decide (0 < (↑a0_4.length : Int)) then bif decide (0 < (↑a1_4.length : Int)) then (run none 178 [AV.agg [(num ((a0_4.getD 0 E.nili).cell 0).toInt),
  (num ((a0_4.getD 0 E.nili).cell 1).toInt), (num ((a0_4.getD 0 E.nili).cell 2).toInt), AV.e (E.sl 9 ((a0_4.getD 0 E.nili).cell 3).toList),
  AV.e (E.sl 31 ((a0_4.getD 0 E.nili).cell 4).toList), AV.e (E.sl 65 ((a0_4.getD 0 E.nili).cell 5).toList)], AV.agg [(num ((a1_4.getD 0 E.nili).cell 0).toInt),
  (num ((a1_4.getD 0 E.nili).cell 1).toInt), (num ((a1_4.getD 0 E.nili).cell 2).toInt), AV.e (E.sl 9 ((a1_4.getD 0 E.nili).cell 3).toList),
  AV.e (E.sl 31 ((a1_4.getD 0 E.nili).cell 4).toList), AV.e (E.sl 65 ((a1_4.getD 0 E.nili).cell 5).toList)]] []).bind fun rh => bif okHeap [] rh.2 then bif okRes PP 4 rh.fst
  then some (Res.ret ((yes rh.fst.val.data.toBool)), []) else none else none else none else none else some (Res.ret ((yes true)), []) else some (Res.ret (AV.e
  (E.bool false)), []) else bif a0_0 == 6 then (run none 179 [AV.agg [(num a0_0), (num a0_1), (num a0_2), AV.e (E.sl 9
  a0_3), AV.e (E.sl 31 a0_4), AV.e (E.sl 65 a0_5)], AV.agg [(num a1_0), (num a1_1), (num a1_2), AV.e (E.sl 9 a1_3), AV.e
  (E.sl 31 a1_4), AV.e (E.sl 65 a1_5)]] []).bind fun rh => bif okHeap [] rh.2 then bif okRes PP 4 rh.fst then some (Res.ret ((yes rh.fst.val.data.toBool)), []) else
  none else none else some (Res.ret ((yes true)), []) else bif a0_0 == 2 then some (Res.ret ((yes (bif decide (a0_1 ≤ a1_1) then decide (a1_2 ≤ a0_2) else false))),
  []) else bif a0_0 == 4 then (loop 178 0 lc_178_20 ([uu, uu, AV.ptr 0 0] ++ List.replicate 64 uu ++ [AV.e (E.sl 9 a1_3), (num (↑a1_3.length :
  Int)), (num 0)] ++ List.replicate 33 uu) [Ob.box [(num a0_0), (num a0_1), (num a0_2), AV.e (E.sl
  9 a0_3), AV.e (E.sl 31 a0_4), AV.e (E.sl 65 a0_5)]]).bind fun o => bif o.ex.isWay (Way.exit 3) then bif okFr (List.replicate 103 uu) o.2 && okHeap [] o.3 then some (Res.ret
  ((yes true)), []) else none else bif o.ex.isWay Way.ret then bif okFr ([uu, uu, uu, uu, (yes false)] ++ List.replicate 98 uu) o.2 &&
  okHeap [] o.3 then some (Res.ret ((yes (List.getD o.fr 4 uu).data.toBool)), []) else none else none else bif a0_0 == 5 then bif (bif decide (a0_1 ≤ a1_1) then
  decide (a1_2 ≤ a0_2) else false) == true then bif (a1_2 == 0) == false then bif decide (0 < (↑a0_4.length : Int)) then bif decide (0 < (↑a1_4.length : Int)) then (run none 178
  [AV.agg [(num ((a0_4.getD 0 E.nili).cell 0).toInt), (num ((a0_4.getD 0 E.nili).cell 1).toInt), (num ((a0_4.getD 0
  E.nili).cell 2).toInt), AV.e (E.sl 9 ((a0_4.getD 0 E.nili).cell 3).toList), AV.e (E.sl 31 ((a0_4.getD 0 E.nili).cell 4).toList), AV.e (E.sl 65 ((a0_4.getD 0 E.nili).cell
  5).toList)], AV.agg [(num ((a1_4.getD 0 E.nili).cell 0).toInt), (num ((a1_4.getD 0 E.nili).cell 1).toInt), AV.e (E.int IntKind.i64
  ((a1_4.getD 0 E.nili).cell 2).toInt), AV.e (E.sl 9 ((a1_4.getD 0 E.nili).cell 3).toList), AV.e (E.sl 31 ((a1_4.getD 0 E.nili).cell 4).toList), AV.e (E.sl 65 ((a1_4.getD 0
  E.nili).cell 5).toList)]] []).bind fun rh => bif okHeap [] rh.2 then bif okRes PP 4 rh.fst then some (Res.ret ((yes rh.fst.val.data.toBool)), []) else none else
  none else none else none else some (Res.ret ((yes true)), []) else some (Res.ret ((yes false)), []) else bif a0_0 == 6 then (run none 179 [AV.agg [AV.e (E.int
  IntKind.i64 a0_0), (num a0_1), (num a0_2), AV.e (E.sl 9 a0_3), AV.e (E.sl 31 a0_4), AV.e (E.sl 65 a0_5)], AV.agg [AV.e (E.int IntKind.i64
  a1_0), (num a1_1), (num a1_2), AV.e (E.sl 9 a1_3), AV.e (E.sl 31 a1_4), AV.e (E.sl 65 a1_5)]] []).bind fun rh => bif okHeap [] rh.2 then bif
  okRes PP 4 rh.fst then some (Res.ret ((yes rh.fst.val.data.toBool)), []) else none else none else some (Res.ret ((yes true)), []) := by kernel_rfl
theorem eq_flds (run : RunF) (loop : LoopF) (a0_0 : Int) (a0_1 : Int) (a0_2 : Int) (a0_3 : List E) (a0_4 : List E) (a0_5 : List E) (a1_0 : Int) (a1_1 : Int) (a1_2 : Int) (a1_3 :
  List E) (a1_4 : List E) (a1_5 : List E) : bodyRun PP HH run loop none 179 [.agg [.e (.int .i64 a0_0), .e (.int .i64 a0_1), .e (.int .i64 a0_2), .e (.sl 9 a0_3),
  .e (.sl 31 a0_4), .e (.sl 65 a0_5)], .agg [.e (.int .i64 a1_0), .e (.int .i64 a1_1), .e (.int .i64 a1_2), .e (.sl 9 a1_3), .e (.sl 31 a1_4), .e (.sl 65 a1_5)]] [] = (loop 179 0
  lc_179_2 ([uu, uu, AV.ptr 0 0, AV.ptr 1 0] ++ List.replicate 10 uu ++ [AV.e (E.sl 65 a1_5), (num (↑a1_5.length : Int)), AV.e (E.int
  IntKind.i64 0)] ++ List.replicate 47 uu) [Ob.box [(num a0_0), (num a0_1), (num a0_2), AV.e (E.sl 9 a0_3), AV.e
  (E.sl 31 a0_4), AV.e (E.sl 65 a0_5)], Ob.box [(num a1_0), (num a1_1), (num a1_2), AV.e (E.sl 9 a1_3), AV.e (E.sl 31
  a1_4), AV.e (E.sl 65 a1_5)]]).bind fun o => bif o.ex.isWay (Way.exit 0) then bif okFr ([uu, uu, AV.ptr 0 0, AV.ptr 1 0] ++ List.replicate 60 uu) o.2 && okHeap
  [Ob.box [(num 0), (num 0), (num 0), AV.e (E.sl 9 []), AV.e (E.sl 31 []), AV.e (E.sl 65 [])], Ob.box [AV.e (E.int
  IntKind.i64 0), (num 0), (num 0), AV.e (E.sl 9 []), AV.e (E.sl 31 []), AV.e (E.sl 65 [])]] o.3 then (loop 179 0 lc_179_9 ([uu,
  uu, uu, AV.ptr 0 0] ++ List.replicate 35 uu ++ [AV.e (E.sl 65 ((o.hp.ob 0).cell 5).data.toList), (num (↑((o.hp.ob 0).cell
  5).data.toList.length : Int)), (num 0)] ++ List.replicate 22 uu) [Ob.box [(num ((o.hp.ob 1).cell 0).data.toInt), AV.e (E.int
  IntKind.i64 ((o.hp.ob 1).cell 1).data.toInt), (num ((o.hp.ob 1).cell 2).data.toInt), AV.e (E.sl 9 ((o.hp.ob 1).cell 3).data.toList), AV.e (E.sl 31 ((o.hp.ob
  1).cell 4).data.toList), AV.e (E.sl 65 ((o.hp.ob 1).cell 5).data.toList)]]).bind fun o => bif o.ex.isWay (Way.exit 2) then bif okFr (List.replicate 64 uu) o.2 && okHeap []
  o.3 then some (Res.ret ((yes true)), []) else none else bif o.ex.isWay Way.ret then bif okFr ([uu, uu, uu, uu, (yes false)] ++
  List.replicate 59 uu) o.2 && okHeap [] o.3 then some (Res.ret ((yes (List.getD o.fr 4 uu).data.toBool)), []) else none else none else none else bif o.ex.isWay
  Way.ret then bif okFr ([uu, uu, uu, uu, (yes false)] ++ List.replicate 59 uu) o.2 && okHeap [] o.3 then some (Res.ret (AV.e (E.bool
  (List.getD o.fr 4 uu).data.toBool)), []) else none else none := by kernel_rfl
theorem eq_fldsL2 (run : RunF) (loop : LoopF) (t14 : List E) (t15 : Int) (t16 : Int) (t2_0 : Int) (t2_1 : Int) (t2_2 : Int) (t2_3 : List E) (t2_4 : List E) (t2_5 : List E) (t3_0 :
  Int) (t3_1 : Int) (t3_2 : Int) (t3_3 : List E) (t3_4 : List E) (t3_5 : List E) : bodyLoop PP HH run loop 179 0 lc_179_2 ((((((List.replicate 64 uu).set 2
  (.ptr 0 0)).set 3 (.ptr 1 0)).set 14 (.e (.sl 65 t14))).set 15 (.e (.int .i64 t15))).set 16 (.e (.int .i64 t16))) [.box [.e (.int .i64 t2_0), .e (.int .i64 t2_1), .e (.int .i64
  t2_2), .e (.sl 9 t2_3), .e (.sl 31 t2_4), .e (.sl 65 t2_5)], .box [.e (.int .i64 t3_0), .e (.int .i64 t3_1), .e (.int .i64 t3_2), .e (.sl 9 t3_3), .e (.sl 31 t3_4), .e (.sl 65
  t3_5)]] = bif decide (t16 < t15) then bif decide (0 ≤ t16) && decide (t16 < (↑t14.length : Int)) then (run none 180 [AV.agg [(num t2_0), AV.e (E.int
  IntKind.i64 t2_1), (num t2_2), AV.e (E.sl 9 t2_3), AV.e (E.sl 31 t2_4), AV.e (E.sl 65 t2_5)], (str ((t14.getD t16.toNat E.nili).cell 0).toStr)] []).bind
  fun rh => bif okHeap [] rh.2 then bif okRes PP 187 rh.fst then bif (!(rh.fst.val.comp 1).data.toBool) == false then (run none 178 [AV.agg [AV.e (E.int IntKind.i64
  ((rh.fst.val.comp 0).data.cell 2).toInt), (num ((rh.fst.val.comp 0).data.cell 3).toInt), (num ((rh.fst.val.comp 0).data.cell 4).toInt), AV.e
  (E.sl 9 ((rh.fst.val.comp 0).data.cell 5).toList), AV.e (E.sl 31 ((rh.fst.val.comp 0).data.cell 6).toList), AV.e (E.sl 65 ((rh.fst.val.comp 0).data.cell 7).toList)], AV.agg [AV.e
  (E.int IntKind.i64 ((t14.getD t16.toNat E.nili).cell 2).toInt), (num ((t14.getD t16.toNat E.nili).cell 3).toInt), (num ((t14.getD t16.toNat
  E.nili).cell 4).toInt), AV.e (E.sl 9 ((t14.getD t16.toNat E.nili).cell 5).toList), AV.e (E.sl 31 ((t14.getD t16.toNat E.nili).cell 6).toList), AV.e (E.sl 65 ((t14.getD t16.toNat
  E.nili).cell 7).toList)]] []).bind fun rh => bif okHeap [] rh.2 then bif okRes PP 4 rh.fst then bif !rh.fst.val.data.toBool then some (Out.mk (Ex.ret) (([uu,
  uu, uu, uu, (yes false)] ++ List.replicate 59 uu)) ([]) ([])) else (loop 179 0 lc_179_2 ([uu, uu, AV.ptr 0 0, AV.ptr 1 0] ++
  List.replicate 10 uu ++ [AV.e (E.sl 65 t14), (num t15), (num (IntKind.i64.wrap (t16 + 1)))] ++ List.replicate 47 uu) [Ob.box
  [(num t2_0), (num t2_1), (num t2_2), AV.e (E.sl 9 t2_3), AV.e (E.sl 31 t2_4), AV.e (E.sl 65 t2_5)], Ob.box [AV.e (E.int
  IntKind.i64 t3_0), (num t3_1), (num t3_2), AV.e (E.sl 9 t3_3), AV.e (E.sl 31 t3_4), AV.e (E.sl 65 t3_5)]]).bind fun o => some o else none
  else none else some (Out.mk (Ex.ret) (([uu, uu, uu, uu, (yes false)] ++ List.replicate 59 uu)) ([]) ([])) else none else none else none else
  some (Out.mk (Ex.exit 0) (([uu, uu, AV.ptr 0 0, AV.ptr 1 0] ++ List.replicate 60 uu)) ([Ob.box [(num t2_0), (num t2_1),
  (num t2_2), AV.e (E.sl 9 t2_3), AV.e (E.sl 31 t2_4), AV.e (E.sl 65 t2_5)], Ob.box [(num t3_0), (num t3_1), AV.e (E.int
  IntKind.i64 t3_2), AV.e (E.sl 9 t3_3), AV.e (E.sl 31 t3_4), AV.e (E.sl 65 t3_5)]]) ([])) := by kernel_rfl
theorem eq_fldsL9 (run : RunF) (loop : LoopF) (t39 : List E) (t40 : Int) (t41 : Int) (t3_0 : Int) (t3_1 : Int) (t3_2 : Int) (t3_3 : List E) (t3_4 : List E) (t3_5 : List E) :
  bodyLoop PP HH run loop 179 0 lc_179_9 (((((List.replicate 64 uu).set 3 (.ptr 0 0)).set 39 (.e (.sl 65 t39))).set 40 (.e (.int .i64 t40))).set 41 (.e (.int
  .i64 t41))) [.box [.e (.int .i64 t3_0), .e (.int .i64 t3_1), .e (.int .i64 t3_2), .e (.sl 9 t3_3), .e (.sl 31 t3_4), .e (.sl 65 t3_5)]] = bif decide (t41 < t40) then bif decide
  (0 ≤ t41) && decide (t41 < (↑t39.length : Int)) then (run none 180 [AV.agg [(num t3_0), (num t3_1), (num t3_2), AV.e
  (E.sl 9 t3_3), AV.e (E.sl 31 t3_4), AV.e (E.sl 65 t3_5)], (str ((t39.getD t41.toNat E.nili).cell 0).toStr)] []).bind fun rh => bif okHeap [] rh.2 then bif okRes PP
  187 rh.fst then bif (!((t39.getD t41.toNat E.nili).cell 1).toBool) == true then bif (!(rh.fst.val.comp 1).data.toBool) == false then bif ((rh.fst.val.comp 0).data.cell 1).toBool
  then some (Out.mk (Ex.ret) (([uu, uu, uu, uu, (yes false)] ++ List.replicate 59 uu)) ([]) ([])) else (loop 179 0 lc_179_9 ([uu,
  uu, uu, AV.ptr 0 0] ++ List.replicate 35 uu ++ [AV.e (E.sl 65 t39), (num t40), (num (IntKind.i64.wrap (t41 + 1)))] ++
  List.replicate 22 uu) [Ob.box [(num t3_0), (num t3_1), (num t3_2), AV.e (E.sl 9 t3_3), AV.e (E.sl 31 t3_4), AV.e
  (E.sl 65 t3_5)]]).bind fun o => some o else some (Out.mk (Ex.ret) (([uu, uu, uu, uu, (yes false)] ++ List.replicate 59 uu)) ([]) ([])) else
  (loop 179 0 lc_179_9 ([uu, uu, uu, AV.ptr 0 0] ++ List.replicate 35 uu ++ [AV.e (E.sl 65 t39), (num t40), AV.e (E.int IntKind.i64
  (IntKind.i64.wrap (t41 + 1)))] ++ List.replicate 22 uu) [Ob.box [(num t3_0), (num t3_1), (num t3_2), AV.e (E.sl 9
  t3_3), AV.e (E.sl 31 t3_4), AV.e (E.sl 65 t3_5)]]).bind fun o => some o else none else none else none else some (Out.mk (Ex.exit 2) ((List.replicate 64 uu)) ([]) ([])) :=
  by kernel_rfl
theorem eq_field (run : RunF) (loop : LoopF) (a0_0 : Int) (a0_1 : Int) (a0_2 : Int) (a0_3 : List E) (a0_4 : List E) (a0_5 : List E) (a1 : List UInt8) : bodyRun PP
  HH run loop none 180 [.agg [.e (.int .i64 a0_0), .e (.int .i64 a0_1), .e (.int .i64 a0_2), .e (.sl 9 a0_3), .e (.sl 31 a0_4), .e (.sl 65 a0_5)], .e (.str a1)] [] = (loop 180 0
  lc_180_2 ([uu, (str a1), uu, uu, AV.ptr 0 0, uu, uu, uu, uu, AV.e (E.sl 65 a0_5), (num (↑a0_5.length : Int)),
  (num 0)] ++ List.replicate 10 uu) [Ob.box [(str []), (yes false), (num 0), (num 0), AV.e (E.int
  IntKind.i64 0), AV.own 1 9 [], AV.own 2 31 [], AV.own 3 65 []], Ob.vec 9 0, Ob.vec 31 0, Ob.vec 65 0]).bind fun o => bif o.ex.isWay (Way.exit 0) then bif okFr ([uu,
  uu, uu, uu, AV.ptr 0 0] ++ List.replicate 17 uu) o.2 && okHeap [Ob.box [(str []), (yes false), (num 0), AV.e (E.int
  IntKind.i64 0), (num 0), AV.own 1 9 [], AV.own 2 31 [], AV.own 3 65 []], Ob.vec 9 0, Ob.vec 31 0, Ob.vec 65 0] o.3 then some (Res.ret (AV.tup [AV.agg [AV.e
  (E.str []), (yes false), (num 0), (num 0), (num 0), AV.e (E.sl 9 []), AV.e (E.sl 31 []), AV.e (E.sl 65 [])], AV.e
  (E.bool false)]), []) else none else bif o.ex.isWay Way.ret then bif okFr ([uu, uu, uu, uu, AV.ptr 0 0, (yes false)] ++ List.replicate 16
  uu) o.2 && okHeap [Ob.box [(str []), (yes false), (num 0), (num 0), (num 0), AV.e (E.sl 9 []), AV.e
  (E.sl 31 []), AV.e (E.sl 65 [])]] o.3 then some (Res.ret (AV.tup [AV.agg [(str ((o.hp.ob 0).cell 0).data.toStr), (yes ((o.hp.ob 0).cell 1).data.toBool), AV.e
  (E.int IntKind.i64 ((o.hp.ob 0).cell 2).data.toInt), (num ((o.hp.ob 0).cell 3).data.toInt), (num ((o.hp.ob 0).cell 4).data.toInt), AV.e
  (E.sl 9 ((o.hp.ob 0).cell 5).data.toList), AV.e (E.sl 31 ((o.hp.ob 0).cell 6).data.toList), AV.e (E.sl 65 ((o.hp.ob 0).cell 7).data.toList)], (yes (List.getD o.fr 5
  uu).data.toBool)]), []) else none else none := by kernel_rfl
theorem eq_fieldL (run : RunF) (loop : LoopF) (t1 : List UInt8) (t9 : List E) (t10 : Int) (t11 : Int) (t4_0 : List UInt8) (t4_1 : Bool) (t4_2 : Int) (t4_3 : Int) (t4_4 : Int) (t4_5
  : List E) (t4_6 : List E) (t4_7 : List E) : bodyLoop PP HH run loop 180 0 lc_180_2 ((((((List.replicate 22 uu).set 1 (.e (.str t1))).set 4 (.ptr 0 0)).set
  9 (.e (.sl 65 t9))).set 10 (.e (.int .i64 t10))).set 11 (.e (.int .i64 t11))) [.box [.e (.str t4_0), .e (.bool t4_1), .e (.int .i64 t4_2), .e (.int .i64 t4_3), .e (.int .i64
  t4_4), .own 1 9 t4_5, .own 2 31 t4_6, .own 3 65 t4_7], .vec 9 t4_5.length, .vec 31 t4_6.length, .vec 65 t4_7.length] = bif decide (t11 < t10) then bif decide (0 ≤ t11) && decide
  (t11 < (↑t9.length : Int)) then bif strEq ((t9.getD t11.toNat E.nili).cell 0).toStr t1 then some (Out.mk (Ex.ret) (([uu, uu, uu, uu, AV.ptr 0 0, AV.e
  (E.bool true)] ++ List.replicate 16 uu)) ([Ob.box [(str ((t9.getD t11.toNat E.nili).cell 0).toStr), (yes ((t9.getD t11.toNat E.nili).cell 1).toBool), AV.e
  (E.int IntKind.i64 ((t9.getD t11.toNat E.nili).cell 2).toInt), (num ((t9.getD t11.toNat E.nili).cell 3).toInt), (num ((t9.getD t11.toNat
  E.nili).cell 4).toInt), AV.e (E.sl 9 ((t9.getD t11.toNat E.nili).cell 5).toList), AV.e (E.sl 31 ((t9.getD t11.toNat E.nili).cell 6).toList), AV.e (E.sl 65 ((t9.getD t11.toNat
  E.nili).cell 7).toList)]]) ([])) else (loop 180 0 lc_180_2 ([uu, (str t1), uu, uu, AV.ptr 0 0, uu, uu, uu, uu, AV.e (E.sl 65 t9),
  (num t10), (num (IntKind.i64.wrap (t11 + 1)))] ++ List.replicate 10 uu) [Ob.box [(str t4_0), (yes t4_1), AV.e (E.int
  IntKind.i64 t4_2), (num t4_3), (num t4_4), AV.own 1 9 t4_5, AV.own 2 31 t4_6, AV.own 3 65 t4_7], Ob.vec 9 t4_5.length, Ob.vec 31
  t4_6.length, Ob.vec 65 t4_7.length]).bind fun o => some o else none else some (Out.mk (Ex.exit 0) (([uu, uu, uu, uu, AV.ptr 0 0] ++ List.replicate 17
  uu)) ([Ob.box [(str t4_0), (yes t4_1), (num t4_2), (num t4_3), (num t4_4), AV.own 1 9 t4_5, AV.own 2
  31 t4_6, AV.own 3 65 t4_7], Ob.vec 9 t4_5.length, Ob.vec 31 t4_6.length, Ob.vec 65 t4_7.length]) ([])) := by kernel_rfl
theorem eq_IncludesL20 (run : RunF) (loop : LoopF) (t67 : List E) (t68 : Int) (t69 : Int) (t2_0 : Int) (t2_1 : Int) (t2_2 : Int) (t2_3 : List E) (t2_4 : List E) (t2_5 : List E) :
  bodyLoop PP HH run loop 178 0 lc_178_20 (((((List.replicate 103 uu).set 2 (.ptr 0 0)).set 67 (.e (.sl 9 t67))).set 68 (.e (.int .i64 t68))).set 69 (.e
  (.int .i64 t69))) [.box [.e (.int .i64 t2_0), .e (.int .i64 t2_1), .e (.int .i64 t2_2), .e (.sl 9 t2_3), .e (.sl 31 t2_4), .e (.sl 65 t2_5)]] = bif decide (t69 < t68) then bif
  decide (0 ≤ t69) && decide (t69 < (↑t67.length : Int)) then (run none 91 [AV.e (E.sl 9 t2_3), (str ((t67.getD t69.toNat E.nili).cell 0).toStr)] []).bind fun rh => bif
  okHeap [] rh.2 then bif okRes PP 4 rh.fst then bif !rh.fst.val.data.toBool then some (Out.mk (Ex.ret) (([uu, uu, uu, uu, (yes false)] ++
  List.replicate 98 uu)) ([]) ([])) else (loop 178 0 lc_178_20 ([uu, uu, AV.ptr 0 0] ++ List.replicate 64 uu ++ [AV.e (E.sl 9 t67), AV.e (E.int IntKind.i64
  t68), (num (IntKind.i64.wrap (t69 + 1)))] ++ List.replicate 33 uu) [Ob.box [(num t2_0), (num t2_1), AV.e (E.int
  IntKind.i64 t2_2), AV.e (E.sl 9 t2_3), AV.e (E.sl 31 t2_4), AV.e (E.sl 65 t2_5)]]).bind fun o => some o else none else none else none else some (Out.mk (Ex.exit 3)
  ((List.replicate 103 uu)) ([]) ([])) := by kernel_rfl
theorem eq_IncludesL6 (run : RunF) (loop : LoopF) (t34 : List E) (t35 : Int) (t36 : Int) (t2_0 : Int) (t2_1 : Int) (t2_2 : Int) (t2_3 : List E) (t2_4 : List E) (t2_5 : List E) :
  bodyLoop PP HH run loop 178 0 lc_178_6 (((((List.replicate 103 uu).set 2 (.ptr 0 0)).set 34 (.e (.sl 9 t34))).set 35 (.e (.int .i64 t35))).set 36 (.e (.int
  .i64 t36))) [.box [.e (.int .i64 t2_0), .e (.int .i64 t2_1), .e (.int .i64 t2_2), .e (.sl 9 t2_3), .e (.sl 31 t2_4), .e (.sl 65 t2_5)]] = bif decide (t36 < t35) then bif decide
  (0 ≤ t36) && decide (t36 < (↑t34.length : Int)) then bif bif decide ((↑((t34.getD t36.toNat E.nili).cell 0).toStr.length : Int) < t2_1) then true else decide (t2_2 < (↑((t34.getD
  t36.toNat E.nili).cell 0).toStr.length : Int)) then some (Out.mk (Ex.ret) (([uu, uu, uu, uu, (yes false)] ++ List.replicate 98 uu)) ([])
  ([])) else (loop 178 0 lc_178_6 ([uu, uu, AV.ptr 0 0] ++ List.replicate 31 uu ++ [AV.e (E.sl 9 t34), (num t35), AV.e (E.int IntKind.i64
  (IntKind.i64.wrap (t36 + 1)))] ++ List.replicate 66 uu) [Ob.box [(num t2_0), (num t2_1), (num t2_2), AV.e (E.sl 9
  t2_3), AV.e (E.sl 31 t2_4), AV.e (E.sl 65 t2_5)]]).bind fun o => some o else none else some (Out.mk (Ex.exit 0) ((List.replicate 103 uu)) ([]) ([])) := by kernel_rfl

end Go.Proofs.YtapndkailgcboaaGreatDoor
