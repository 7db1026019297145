/- The equations of functions, as a program of mine prints them. -/
import Derived.Test.YtapndkailgcboaaGreatDoorBase
namespace Go.Proofs.YtapndkailgcboaaGreatDoor
open Go Go.Den
set_option maxRecDepth 100000
set_option maxHeartbeats 0

theorem eq_clone (run : RunF) (loop : LoopF) (a0_0 : Int) (a0_1 : Int) (a0_2 : Int) (a0_3 : List E) (a0_4 : List E) (a0_5 : List E) : bodyRun PP HH run loop none
  43 [.agg [.e (.int .i64 a0_0), .e (.int .i64 a0_1), .e (.int .i64 a0_2), .e (.sl 9 a0_3), .e (.sl 31 a0_4), .e (.sl 65 a0_5)]] [] = bif decide (a0_3.length * 16 ≤
  140737488355328) then (loop 43 0 lc_43_5 ([uu, AV.ptr 0 0, AV.ptr 1 0, AV.ptr 2 0] ++ List.replicate 11 uu ++ [AV.e (E.sl 31 a0_4), AV.e (E.int IntKind.i64
  (↑a0_4.length : Int)), (num 0)] ++ List.replicate 31 uu) [Ob.box [(num a0_0), (num a0_1), AV.e (E.int IntKind.i64
  a0_2), AV.e (E.sl 9 a0_3), AV.e (E.sl 31 a0_4), AV.e (E.sl 65 a0_5)], Ob.box [(num 0), (num 0), (num 0), AV.own 3 9 [],
  AV.own 4 31 [], AV.own 5 65 []], Ob.box [(num a0_0), (num a0_1), (num a0_2), AV.e (E.sl 9 a0_3), AV.own 6 31 [], AV.e
  (E.sl 65 a0_5)], Ob.vec 9 0, Ob.vec 31 0, Ob.vec 65 0, Ob.vec 31 0]).bind fun o => bif o.ex.isWay (Way.exit 0) then bif okFr ([uu, AV.ptr 0 0, AV.ptr 1 0, AV.ptr 2 0] ++
  List.replicate 45 uu) o.2 && okHeap [Ob.box [(num 0), (num 0), (num 0), AV.e (E.sl 9 []), AV.e (E.sl 31 []), AV.e
  (E.sl 65 [])], Ob.box [(num 0), (num 0), (num 0), AV.own 3 9 [], AV.own 4 31 [], AV.own 5 65 []], Ob.box [AV.e (E.int
  IntKind.i64 0), (num 0), (num 0), AV.e (E.sl 9 []), AV.own 6 31 [], AV.e (E.sl 65 [])], Ob.vec 9 0, Ob.vec 31 0, Ob.vec 65 0, Ob.vec 31 0]
  o.3 then (loop 43 0 lc_43_11 ([uu, uu, AV.ptr 0 0, AV.ptr 1 0] ++ List.replicate 27 uu ++ [AV.e (E.sl 65 ((o.hp.ob 0).cell 5).data.toList), AV.e (E.int
  IntKind.i64 (↑((o.hp.ob 0).cell 5).data.toList.length : Int)), (num 0)] ++ List.replicate 15 uu) [Ob.box [(num ((o.hp.ob 1).cell
  0).data.toInt), (num ((o.hp.ob 1).cell 1).data.toInt), (num ((o.hp.ob 1).cell 2).data.toInt), AV.own 2 9 ((o.hp.ob 1).cell 3).data.toList,
  AV.own 3 31 ((o.hp.ob 1).cell 4).data.toList, AV.own 4 65 ((o.hp.ob 1).cell 5).data.toList], Ob.box [(num ((o.hp.ob 2).cell 0).data.toInt), AV.e (E.int
  IntKind.i64 ((o.hp.ob 2).cell 1).data.toInt), (num ((o.hp.ob 2).cell 2).data.toInt), AV.e (E.sl 9 ((o.hp.ob 2).cell 3).data.toList), AV.own 5 31 ((o.hp.ob
  2).cell 4).data.toList, AV.own 6 65 []], Ob.vec 9 (o.hp.ob 3).len, Ob.vec 31 (o.hp.ob 4).len, Ob.vec 65 (o.hp.ob 5).len, Ob.vec 31 (o.hp.ob 6).len, Ob.vec 65 0]).bind fun o =>
  bif o.ex.isWay (Way.exit 2) then bif okFr ([uu, uu, AV.ptr 0 0, AV.ptr 1 0] ++ List.replicate 45 uu) o.2 && okHeap [Ob.box [(num 0), AV.e
  (E.int IntKind.i64 0), (num 0), AV.own 2 9 [], AV.own 3 31 [], AV.own 4 65 []], Ob.box [(num 0), (num 0), AV.e (E.int
  IntKind.i64 0), AV.e (E.sl 9 []), AV.own 5 31 [], AV.own 6 65 []], Ob.vec 9 0, Ob.vec 31 0, Ob.vec 65 0, Ob.vec 31 0, Ob.vec 65 0] o.3 then some (Res.ret (AV.agg [AV.e (E.int
  IntKind.i64 ((o.hp.ob 1).cell 0).data.toInt), (num ((o.hp.ob 1).cell 1).data.toInt), (num ((o.hp.ob 1).cell 2).data.toInt), AV.e (E.sl 9
  ((o.hp.ob 1).cell 3).data.toList), AV.e (E.sl 31 ((o.hp.ob 1).cell 4).data.toList), AV.e (E.sl 65 ((o.hp.ob 1).cell 5).data.toList)]), []) else none else none else none else none
  else none := by kernel_rfl
theorem eq_cloneL11 (run : RunF) (loop : LoopF) (t31 : List E) (t32 : Int) (t33 : Int) (t2_0 : Int) (t2_1 : Int) (t2_2 : Int) (t2_3 : List E) (t2_4 : List E) (t2_5 : List E) (t3_0
  : Int) (t3_1 : Int) (t3_2 : Int) (t3_3 : List E) (t3_4 : List E) (t3_5 : List E) : bodyLoop PP HH run loop 43 0 lc_43_11 ((((((List.replicate 49 uu).set 2
  (.ptr 0 0)).set 3 (.ptr 1 0)).set 31 (.e (.sl 65 t31))).set 32 (.e (.int .i64 t32))).set 33 (.e (.int .i64 t33))) [.box [.e (.int .i64 t2_0), .e (.int .i64 t2_1), .e (.int .i64
  t2_2), .own 2 9 t2_3, .own 3 31 t2_4, .own 4 65 t2_5], .box [.e (.int .i64 t3_0), .e (.int .i64 t3_1), .e (.int .i64 t3_2), .e (.sl 9 t3_3), .own 5 31 t3_4, .own 6 65 t3_5], .vec
  9 t2_3.length, .vec 31 t2_4.length, .vec 65 t2_5.length, .vec 31 t3_4.length, .vec 65 t3_5.length] = bif decide (t33 < t32) then bif decide (0 ≤ t33) && decide (t33 <
  (↑t31.length : Int)) then (run none 43 [AV.agg [(num ((t31.getD t33.toNat E.nili).cell 2).toInt), (num ((t31.getD t33.toNat E.nili).cell
  3).toInt), (num ((t31.getD t33.toNat E.nili).cell 4).toInt), AV.e (E.sl 9 ((t31.getD t33.toNat E.nili).cell 5).toList), AV.e (E.sl 31 ((t31.getD t33.toNat
  E.nili).cell 6).toList), AV.e (E.sl 65 ((t31.getD t33.toNat E.nili).cell 7).toList)]] []).bind fun rh => bif okHeap [] rh.2 then bif okRes PP 31 rh.fst then bif decide
  (t3_5.length = t3_5.length) && decide ((t3_5.length + (65, elems PP 65 8 1 [E.sl 65 (rh.fst.val.data.cell 5).toList, E.sl 31 (rh.fst.val.data.cell 4).toList, E.sl 9
  (rh.fst.val.data.cell 3).toList, E.int IntKind.i64 (rh.fst.val.data.cell 2).toInt, E.int IntKind.i64 (rh.fst.val.data.cell 1).toInt, E.int IntKind.i64 (rh.fst.val.data.cell
  0).toInt, E.bool ((t31.getD t33.toNat E.nili).cell 1).toBool, E.str ((t31.getD t33.toNat E.nili).cell 0).toStr].reverse).snd.length) * 120 ≤ 140737488355328) then (loop 43 0
  lc_43_11 ([uu, uu, AV.ptr 0 0, AV.ptr 1 0] ++ List.replicate 27 uu ++ [AV.e (E.sl 65 t31), (num t32), AV.e (E.int IntKind.i64
  (IntKind.i64.wrap (t33 + 1)))] ++ List.replicate 15 uu) [Ob.box [(num t2_0), (num t2_1), (num t2_2), AV.own 2 9
  t2_3, AV.own 3 31 t2_4, AV.own 4 65 t2_5], Ob.box [(num t3_0), (num t3_1), (num t3_2), AV.e (E.sl 9 t3_3), AV.own 5 31
  t3_4, AV.own 6 65 (t3_5 ++ (65, elems PP 65 8 1 [E.sl 65 (rh.fst.val.data.cell 5).toList, E.sl 31 (rh.fst.val.data.cell 4).toList, E.sl 9 (rh.fst.val.data.cell 3).toList,
  E.int IntKind.i64 (rh.fst.val.data.cell 2).toInt, E.int IntKind.i64 (rh.fst.val.data.cell 1).toInt, E.int IntKind.i64 (rh.fst.val.data.cell 0).toInt, E.bool ((t31.getD t33.toNat
  E.nili).cell 1).toBool, E.str ((t31.getD t33.toNat E.nili).cell 0).toStr].reverse).snd)], Ob.vec 9 t2_3.length, Ob.vec 31 t2_4.length, Ob.vec 65 t2_5.length, Ob.vec 31
  t3_4.length, Ob.vec 65 (t3_5 ++ (65, elems PP 65 8 1 [E.sl 65 (rh.fst.val.data.cell 5).toList, E.sl 31 (rh.fst.val.data.cell 4).toList, E.sl 9 (rh.fst.val.data.cell
  3).toList, E.int IntKind.i64 (rh.fst.val.data.cell 2).toInt, E.int IntKind.i64 (rh.fst.val.data.cell 1).toInt, E.int IntKind.i64 (rh.fst.val.data.cell 0).toInt, E.bool ((t31.getD
  t33.toNat E.nili).cell 1).toBool, E.str ((t31.getD t33.toNat E.nili).cell 0).toStr].reverse).snd).length]).bind fun o => some o else none else none else none else none else some
  (Out.mk (Ex.exit 2) (([uu, uu, AV.ptr 0 0, AV.ptr 1 0] ++ List.replicate 45 uu)) ([Ob.box [(num t2_0), (num t2_1), AV.e
  (E.int IntKind.i64 t2_2), AV.own 2 9 t2_3, AV.own 3 31 t2_4, AV.own 4 65 t2_5], Ob.box [(num t3_0), (num t3_1), AV.e (E.int IntKind.i64
  t3_2), AV.e (E.sl 9 t3_3), AV.own 5 31 t3_4, AV.own 6 65 t3_5], Ob.vec 9 t2_3.length, Ob.vec 31 t2_4.length, Ob.vec 65 t2_5.length, Ob.vec 31 t3_4.length, Ob.vec 65 t3_5.length])
  ([])) := by kernel_rfl
theorem eq_cloneL5 (run : RunF) (loop : LoopF) (t15 : List E) (t16 : Int) (t17 : Int) (t1_0 : Int) (t1_1 : Int) (t1_2 : Int) (t1_3 : List E) (t1_4 : List E) (t1_5 : List E) (t2_0 :
  Int) (t2_1 : Int) (t2_2 : Int) (t2_3 : List E) (t2_4 : List E) (t2_5 : List E) (t3_0 : Int) (t3_1 : Int) (t3_2 : Int) (t3_3 : List E) (t3_4 : List E) (t3_5 : List E) : bodyLoop
  PP HH run loop 43 0 lc_43_5 (((((((List.replicate 49 uu).set 1 (.ptr 0 0)).set 2 (.ptr 1 0)).set 3 (.ptr 2 0)).set 15 (.e (.sl 31 t15))).set 16 (.e (.int
  .i64 t16))).set 17 (.e (.int .i64 t17))) [.box [.e (.int .i64 t1_0), .e (.int .i64 t1_1), .e (.int .i64 t1_2), .e (.sl 9 t1_3), .e (.sl 31 t1_4), .e (.sl 65 t1_5)], .box [.e
  (.int .i64 t2_0), .e (.int .i64 t2_1), .e (.int .i64 t2_2), .own 3 9 t2_3, .own 4 31 t2_4, .own 5 65 t2_5], .box [.e (.int .i64 t3_0), .e (.int .i64 t3_1), .e (.int .i64 t3_2),
  .e (.sl 9 t3_3), .own 6 31 t3_4, .e (.sl 65 t3_5)], .vec 9 t2_3.length, .vec 31 t2_4.length, .vec 65 t2_5.length, .vec 31 t3_4.length] = bif decide (t17 < t16) then bif decide (0
  ≤ t17) && decide (t17 < (↑t15.length : Int)) then (run none 43 [AV.agg [(num ((t15.getD t17.toNat E.nili).cell 0).toInt), (num ((t15.getD
  t17.toNat E.nili).cell 1).toInt), (num ((t15.getD t17.toNat E.nili).cell 2).toInt), AV.e (E.sl 9 ((t15.getD t17.toNat E.nili).cell 3).toList), AV.e (E.sl 31
  ((t15.getD t17.toNat E.nili).cell 4).toList), AV.e (E.sl 65 ((t15.getD t17.toNat E.nili).cell 5).toList)]] []).bind fun rh => bif okHeap [] rh.2 then bif okRes PP 31
  rh.fst then bif decide (t3_4.length = t3_4.length) && decide ((t3_4.length + (31, elems PP 31 6 1 [E.sl 65 (rh.fst.val.data.cell 5).toList, E.sl 31 (rh.fst.val.data.cell
  4).toList, E.sl 9 (rh.fst.val.data.cell 3).toList, E.int IntKind.i64 (rh.fst.val.data.cell 2).toInt, E.int IntKind.i64 (rh.fst.val.data.cell 1).toInt, E.int IntKind.i64
  (rh.fst.val.data.cell 0).toInt].reverse).snd.length) * 96 ≤ 140737488355328) then (loop 43 0 lc_43_5 ([uu, AV.ptr 0 0, AV.ptr 1 0, AV.ptr 2 0] ++ List.replicate 11 uu
  ++ [AV.e (E.sl 31 t15), (num t16), (num (IntKind.i64.wrap (t17 + 1)))] ++ List.replicate 31 uu) [Ob.box [AV.e (E.int IntKind.i64
  t1_0), (num t1_1), (num t1_2), AV.e (E.sl 9 t1_3), AV.e (E.sl 31 t1_4), AV.e (E.sl 65 t1_5)], Ob.box [(num t2_0), AV.e
  (E.int IntKind.i64 t2_1), (num t2_2), AV.own 3 9 t2_3, AV.own 4 31 t2_4, AV.own 5 65 t2_5], Ob.box [(num t3_0), AV.e (E.int IntKind.i64
  t3_1), (num t3_2), AV.e (E.sl 9 t3_3), AV.own 6 31 (t3_4 ++ (31, elems PP 31 6 1 [E.sl 65 (rh.fst.val.data.cell 5).toList, E.sl 31 (rh.fst.val.data.cell
  4).toList, E.sl 9 (rh.fst.val.data.cell 3).toList, E.int IntKind.i64 (rh.fst.val.data.cell 2).toInt, E.int IntKind.i64 (rh.fst.val.data.cell 1).toInt, E.int IntKind.i64
  (rh.fst.val.data.cell 0).toInt].reverse).snd), AV.e (E.sl 65 t3_5)], Ob.vec 9 t2_3.length, Ob.vec 31 t2_4.length, Ob.vec 65 t2_5.length, Ob.vec 31 (t3_4 ++ (31, elems PP
  31 6 1 [E.sl 65 (rh.fst.val.data.cell 5).toList, E.sl 31 (rh.fst.val.data.cell 4).toList, E.sl 9 (rh.fst.val.data.cell 3).toList, E.int IntKind.i64 (rh.fst.val.data.cell
  2).toInt, E.int IntKind.i64 (rh.fst.val.data.cell 1).toInt, E.int IntKind.i64 (rh.fst.val.data.cell 0).toInt].reverse).snd).length]).bind fun o => some o else none else none else
  none else none else some (Out.mk (Ex.exit 0) (([uu, AV.ptr 0 0, AV.ptr 1 0, AV.ptr 2 0] ++ List.replicate 45 uu)) ([Ob.box [(num t1_0), AV.e (E.int
  IntKind.i64 t1_1), (num t1_2), AV.e (E.sl 9 t1_3), AV.e (E.sl 31 t1_4), AV.e (E.sl 65 t1_5)], Ob.box [(num t2_0), AV.e (E.int IntKind.i64
  t2_1), (num t2_2), AV.own 3 9 t2_3, AV.own 4 31 t2_4, AV.own 5 65 t2_5], Ob.box [(num t3_0), (num t3_1), AV.e (E.int
  IntKind.i64 t3_2), AV.e (E.sl 9 t3_3), AV.own 6 31 t3_4, AV.e (E.sl 65 t3_5)], Ob.vec 9 t2_3.length, Ob.vec 31 t2_4.length, Ob.vec 65 t2_5.length, Ob.vec 31 t3_4.length]) ([]))
  := by kernel_rfl
theorem eq_copies (run : RunF) (loop : LoopF) (a0 : List E) : bodyRun PP HH run loop none 41 [.e (.sl 46 a0)] [] = bif decide (0 ≤ IntKind.i64.wrap ((↑a0.length :
  Int) + 1)) && decide (IntKind.i64.wrap ((↑a0.length : Int) + 1) * (↑64 : Int) ≤ 140737488355328) then (loop 41 0 lc_41_3 ([uu, uu, uu, AV.own 0 46 []] ++
  List.replicate 9 uu ++ [AV.e (E.sl 46 a0), (num (↑a0.length : Int)), (num 0)] ++ List.replicate 24 uu) [Ob.vec 46 0]).bind fun o
  => bif o.ex.isWay (Way.exit 0) then bif okFr ([uu, uu, uu, AV.own 0 46 []] ++ List.replicate 36 uu) o.2 && okHeap [Ob.vec 46 0] o.3 then some (Res.ret
  (AV.own 0 46 (List.getD o.fr 3 uu).data.toList), [Ob.vec 46 (o.hp.ob 0).len]) else none else none else none := by kernel_rfl
theorem eq_copiesL7 (run : RunF) (loop : LoopF) (t3 : List E) (t6 : List E) (t13 : List E) (t14 : Int) (t15 : Int) (t20 : List E) (t21 : Int) (t22 : Int) (t5_0 : List UInt8) (t5_1
  : List UInt8) (t5_2 : Int) (t5_3 : List E) : bodyLoop PP HH run loop 41 0 lc_41_7 ((((((((((List.replicate 40 uu).set 3 (.own 0 46 t3)).set 5 (.ptr 1
  0)).set 6 (.own 2 31 t6)).set 13 (.e (.sl 46 t13))).set 14 (.e (.int .i64 t14))).set 15 (.e (.int .i64 t15))).set 20 (.e (.sl 31 t20))).set 21 (.e (.int .i64 t21))).set 22 (.e
  (.int .i64 t22))) [.vec 46 t3.length, .box [.e (.str t5_0), .e (.str t5_1), .e (.int .i64 t5_2), .e (.sl 31 t5_3)], .vec 31 t6.length] = bif decide (t22 < t21) then bif decide (0
  ≤ t22) && decide (t22 < (↑t20.length : Int)) then (run none 43 [AV.agg [(num ((t20.getD t22.toNat E.nili).cell 0).toInt), (num ((t20.getD
  t22.toNat E.nili).cell 1).toInt), (num ((t20.getD t22.toNat E.nili).cell 2).toInt), AV.e (E.sl 9 ((t20.getD t22.toNat E.nili).cell 3).toList), AV.e (E.sl 31
  ((t20.getD t22.toNat E.nili).cell 4).toList), AV.e (E.sl 65 ((t20.getD t22.toNat E.nili).cell 5).toList)]] []).bind fun rh => bif okHeap [] rh.2 then bif okRes PP 31
  rh.fst then bif decide (t6.length = t6.length) && decide ((t6.length + (31, elems PP 31 6 1 [E.sl 65 (rh.fst.val.data.cell 5).toList, E.sl 31 (rh.fst.val.data.cell
  4).toList, E.sl 9 (rh.fst.val.data.cell 3).toList, E.int IntKind.i64 (rh.fst.val.data.cell 2).toInt, E.int IntKind.i64 (rh.fst.val.data.cell 1).toInt, E.int IntKind.i64
  (rh.fst.val.data.cell 0).toInt].reverse).snd.length) * 96 ≤ 140737488355328) then (loop 41 0 lc_41_7 ([uu, uu, uu, AV.own 0 46 t3, uu, AV.ptr 1 0, AV.own
  2 31 (t6 ++ (31, elems PP 31 6 1 [E.sl 65 (rh.fst.val.data.cell 5).toList, E.sl 31 (rh.fst.val.data.cell 4).toList, E.sl 9 (rh.fst.val.data.cell 3).toList, E.int
  IntKind.i64 (rh.fst.val.data.cell 2).toInt, E.int IntKind.i64 (rh.fst.val.data.cell 1).toInt, E.int IntKind.i64 (rh.fst.val.data.cell 0).toInt].reverse).snd)] ++ List.replicate 6
  uu ++ [AV.e (E.sl 46 t13), (num t14), (num t15), uu, uu, uu, uu, AV.e (E.sl 31 t20), AV.e (E.int IntKind.i64
  t21), (num (IntKind.i64.wrap (t22 + 1)))] ++ List.replicate 17 uu) [Ob.vec 46 t3.length, Ob.box [(str t5_0), (str t5_1), AV.e (E.int
  IntKind.i64 t5_2), AV.e (E.sl 31 t5_3)], Ob.vec 31 (t6 ++ (31, elems PP 31 6 1 [E.sl 65 (rh.fst.val.data.cell 5).toList, E.sl 31 (rh.fst.val.data.cell 4).toList, E.sl 9
  (rh.fst.val.data.cell 3).toList, E.int IntKind.i64 (rh.fst.val.data.cell 2).toInt, E.int IntKind.i64 (rh.fst.val.data.cell 1).toInt, E.int IntKind.i64 (rh.fst.val.data.cell
  0).toInt].reverse).snd).length]).bind fun o => some o else none else none else none else none else some (Out.mk (Ex.exit 2) (([uu, uu, uu, AV.own 0 46 t3,
  uu, AV.ptr 1 0, AV.own 2 31 t6] ++ List.replicate 6 uu ++ [AV.e (E.sl 46 t13), (num t14), (num t15)] ++ List.replicate 24
  uu)) ([Ob.vec 46 t3.length, Ob.box [(str t5_0), (str t5_1), (num t5_2), AV.e (E.sl 31 t5_3)], Ob.vec 31 t6.length]) ([])) := by kernel_rfl
theorem eq_copiesL3 (run : RunF) (loop : LoopF) (t3 : List E) (t13 : List E) (t14 : Int) (t15 : Int) : bodyLoop PP HH run loop 41 0 lc_41_3 (((((List.replicate 40
  uu).set 3 (.own 0 46 t3)).set 13 (.e (.sl 46 t13))).set 14 (.e (.int .i64 t14))).set 15 (.e (.int .i64 t15))) [.vec 46 t3.length] = bif decide (t15 < t14) then bif decide
  (0 ≤ t15) && decide (t15 < (↑t13.length : Int)) then (loop 41 0 lc_41_7 ([uu, uu, uu, AV.own 0 46 t3, uu, AV.ptr 1 0, AV.own 2 31 []] ++ List.replicate 6
  uu ++ [AV.e (E.sl 46 t13), (num t14), (num t15), uu, uu, uu, uu, AV.e (E.sl 31 ((t13.getD t15.toNat
  E.nili).cell 3).toList), (num (↑((t13.getD t15.toNat E.nili).cell 3).toList.length : Int)), (num 0)] ++ List.replicate 17 uu) [Ob.vec
  46 t3.length, Ob.box [(str ((t13.getD t15.toNat E.nili).cell 0).toStr), (str ((t13.getD t15.toNat E.nili).cell 1).toStr), (num ((t13.getD
  t15.toNat E.nili).cell 2).toInt), AV.e (E.sl 31 ((t13.getD t15.toNat E.nili).cell 3).toList)], Ob.vec 31 0]).bind fun o => bif o.ex.isWay (Way.exit 2) then bif okFr ([uu,
  uu, uu, AV.own 0 46 [], uu, AV.ptr 1 0, AV.own 2 31 []] ++ List.replicate 6 uu ++ [AV.e (E.sl 46 []), (num 0), AV.e (E.int IntKind.i64
  0)] ++ List.replicate 24 uu) o.2 && okHeap [Ob.vec 46 0, Ob.box [(str []), (str []), (num 0), AV.e (E.sl 31 [])], Ob.vec 31 0] o.3 then bif
  decide ((o.hp.ob 0).len = (List.getD o.fr 3 uu).data.toList.length) && decide (((List.getD o.fr 3 uu).data.toList.length + (46, elems PP 46 4 1 [E.sl 31
  (List.getD o.fr 6 uu).data.toList, E.int IntKind.i64 ((o.hp.ob 1).cell 2).data.toInt, E.str ((o.hp.ob 1).cell 1).data.toStr, E.str ((o.hp.ob 1).cell
  0).data.toStr].reverse).snd.length) * 64 ≤ 140737488355328) then (loop 41 0 lc_41_3 ([uu, uu, uu, AV.own 0 46 ((List.getD o.fr 3 uu).data.toList ++ (46,
  elems PP 46 4 1 [E.sl 31 (List.getD o.fr 6 uu).data.toList, E.int IntKind.i64 ((o.hp.ob 1).cell 2).data.toInt, E.str ((o.hp.ob 1).cell 1).data.toStr, E.str ((o.hp.ob
  1).cell 0).data.toStr].reverse).snd)] ++ List.replicate 9 uu ++ [AV.e (E.sl 46 (List.getD o.fr 13 uu).data.toList), (num (List.getD o.fr 14
  uu).data.toInt), (num (IntKind.i64.wrap ((List.getD o.fr 15 uu).data.toInt + 1)))] ++ List.replicate 24 uu) [Ob.vec 46 ((List.getD o.fr 3
  uu).data.toList ++ (46, elems PP 46 4 1 [E.sl 31 (List.getD o.fr 6 uu).data.toList, E.int IntKind.i64 ((o.hp.ob 1).cell 2).data.toInt, E.str ((o.hp.ob 1).cell
  1).data.toStr, E.str ((o.hp.ob 1).cell 0).data.toStr].reverse).snd).length]).bind fun o => some o else none else none else none else none else some (Out.mk (Ex.exit 0)
  (([uu, uu, uu, AV.own 0 46 t3] ++ List.replicate 36 uu)) ([Ob.vec 46 t3.length]) ([])) := by kernel_rfl
theorem eq_Find (run : RunF) (loop : LoopF) (a0 : List E) (a1 : List UInt8) : bodyRun PP HH run loop none 23 [.e (.sl 46 a0), .e (.str a1)] [] = (run none 44 [AV.e
  (E.sl 46 a0), AV.clo 45 [(0, 0)]] [Ob.box [(str a1)]]).bind fun rh => bif okHeap [Ob.box [(str a1)]] rh.2 then bif okRes PP 3 rh.fst then bif decide
  (rh.fst.val.data.toInt < 0) then some (Res.ret (AV.tup [AV.agg [(str []), (str []), (num 0), AV.e (E.sl 31 [])], (yes false)]), []) else
  bif decide (0 ≤ rh.fst.val.data.toInt) && decide (rh.fst.val.data.toInt ≤ IntKind.i64.wrap (rh.fst.val.data.toInt + 1)) && decide (IntKind.i64.wrap (rh.fst.val.data.toInt + 1) ≤
  (↑a0.length : Int)) then (run none 41 [AV.e (E.sl 46 (List.drop rh.fst.val.data.toInt.toNat (List.take (IntKind.i64.wrap (rh.fst.val.data.toInt + 1)).toNat a0)))] []).bind fun rh
  => bif okHeap [Ob.vec 46 0] rh.2 then bif rh.fst.isPan then none else bif rh.fst.isRet && okVal (AV.own 0 46 []) rh.fst.val then bif decide (0 < (↑rh.fst.val.data.toList.length :
  Int)) then some (Res.ret (AV.tup [AV.agg [(str ((rh.fst.val.data.toList.getD 0 E.nili).cell 0).toStr), (str ((rh.fst.val.data.toList.getD 0 E.nili).cell 1).toStr),
  (num ((rh.fst.val.data.toList.getD 0 E.nili).cell 2).toInt), AV.e (E.sl 31 ((rh.fst.val.data.toList.getD 0 E.nili).cell 3).toList)], (yes true)]), [])
  else none else none else none else none else none else none := by kernel_rfl
theorem eq_LHidden (run : RunF) (loop : LoopF) (a0 : List E) (a1 : List UInt8) : bodyRun PP HH run loop none 8 [.e (.sl 46 a0), .e (.str a1)] [] = (run none 10
  [AV.e (E.sl 46 a0)] []).bind fun rh => bif okHeap [] rh.2 then bif okRes PP 4 rh.fst then bif (!rh.fst.val.data.toBool) == false then (run none 13 [AV.e (E.sl 46 a0)]
  []).bind fun rh => bif okHeap [] rh.2 then bif okRes PP 25 rh.fst then bif !rh.fst.val.data.toInt == 0 then some (Res.ret ((yes true)), []) else (run none 23 [AV.e
  (E.sl 46 a0), (str a1)] []).bind fun rh => bif okHeap [] rh.2 then bif okRes PP 47 rh.fst then (loop 8 0 lc_8_5 ([AV.e (E.sl 46 a0), uu, uu, uu,
  uu, AV.ptr 0 0, (yes (rh.fst.val.comp 1).data.toBool), (num 0)] ++ List.replicate 52 uu) [Ob.box [(str ((rh.fst.val.comp
  0).data.cell 0).toStr), (str ((rh.fst.val.comp 0).data.cell 1).toStr), (num ((rh.fst.val.comp 0).data.cell 2).toInt), AV.e (E.sl 31 ((rh.fst.val.comp
  0).data.cell 3).toList)]]).bind fun o => bif o.ex.isWay (Way.exit 0) then bif okFr (List.replicate 60 uu) o.2 && okHeap [] o.3 then some (Res.ret ((yes true)), [])
  else none else bif o.ex.isWay Way.ret then bif okFr ([uu, uu, uu, uu, (yes false)] ++ List.replicate 55 uu) o.2 && okHeap [] o.3 then some
  (Res.ret ((yes (List.getD o.fr 4 uu).data.toBool)), []) else none else none else none else none else none else none else some (Res.ret ((yes true)), [])
  else none else none := by kernel_rfl
theorem eq_LHiddenL8 (run : RunF) (loop : LoopF) (t0 : List E) (t6 : Bool) (t7 : Int) (t8 : Int) (t5_0 : List UInt8) (t5_1 : List UInt8) (t5_2 : Int) (t5_3 : List E) : bodyLoop
  PP HH run loop 8 0 lc_8_8 ((((((List.replicate 60 uu).set 0 (.e (.sl 46 t0))).set 5 (.ptr 0 0)).set 6 (.e (.bool t6))).set 7 (.e (.int .i64 t7))).set 8 (.e
  (.int .i64 t8))) [.box [.e (.str t5_0), .e (.str t5_1), .e (.int .i64 t5_2), .e (.sl 31 t5_3)]] = bif decide (t8 < t7) then bif decide (0 ≤ t7) && decide (t7 < (↑t0.length :
  Int)) then bif strEq ((t0.getD t7.toNat E.nili).cell 0).toStr t5_0 == true then bif decide (0 ≤ t8) && decide (t8 < (↑t0.length : Int)) then bif decide (0 ≤ t7) && decide (t7 <
  (↑t0.length : Int)) then (run none 28 [(str ((t0.getD t8.toNat E.nili).cell 1).toStr), (str ((t0.getD t7.toNat E.nili).cell 1).toStr)] []).bind fun rh => bif okHeap
  [] rh.2 then bif okRes PP 4 rh.fst then bif rh.fst.val.data.toBool then some (Out.mk (Ex.ret) (([uu, uu, uu, uu, (yes false)] ++
  List.replicate 55 uu)) ([]) ([])) else (loop 8 0 lc_8_8 ([AV.e (E.sl 46 t0), uu, uu, uu, uu, AV.ptr 0 0, (yes t6), AV.e (E.int IntKind.i64
  t7), (num (IntKind.i64.wrap (t8 + 1)))] ++ List.replicate 51 uu) [Ob.box [(str t5_0), (str t5_1), (num t5_2), AV.e (E.sl
  31 t5_3)]]).bind fun o => some o else none else none else none else none else (loop 8 0 lc_8_8 ([AV.e (E.sl 46 t0), uu, uu, uu, uu, AV.ptr 0 0, AV.e
  (E.bool t6), (num t7), (num (IntKind.i64.wrap (t8 + 1)))] ++ List.replicate 51 uu) [Ob.box [(str t5_0), (str t5_1), AV.e
  (E.int IntKind.i64 t5_2), AV.e (E.sl 31 t5_3)]]).bind fun o => some o else none else some (Out.mk (Ex.exit 2) (([AV.e (E.sl 46 t0), uu, uu, uu, uu, AV.ptr
  0 0, (yes t6), (num t7)] ++ List.replicate 52 uu)) ([Ob.box [(str t5_0), (str t5_1), (num t5_2), AV.e (E.sl 31
  t5_3)]]) ([])) := by kernel_rfl
theorem eq_LHiddenL5 (run : RunF) (loop : LoopF) (t0 : List E) (t6 : Bool) (t7 : Int) (t5_0 : List UInt8) (t5_1 : List UInt8) (t5_2 : Int) (t5_3 : List E) : bodyLoop
  PP HH run loop 8 0 lc_8_5 (((((List.replicate 60 uu).set 0 (.e (.sl 46 t0))).set 5 (.ptr 0 0)).set 6 (.e (.bool t6))).set 7 (.e (.int .i64 t7))) [.box [.e
  (.str t5_0), .e (.str t5_1), .e (.int .i64 t5_2), .e (.sl 31 t5_3)]] = bif bif t6 then decide (t7 < (↑t0.length : Int)) else false then (loop 8 0 lc_8_8 ([AV.e (E.sl 46 t0),
  uu, uu, uu, uu, AV.ptr 0 0, (yes t6), (num t7), (num 0)] ++ List.replicate 51 uu) [Ob.box [AV.e (E.str
  t5_0), (str t5_1), (num t5_2), AV.e (E.sl 31 t5_3)]]).bind fun o => bif o.ex.isWay (Way.exit 2) then bif okFr ([AV.e (E.sl 46 []), uu, uu,
  uu, uu, AV.ptr 0 0, (yes false), (num 0)] ++ List.replicate 52 uu) o.2 && okHeap [Ob.box [(str []), (str []), AV.e
  (E.int IntKind.i64 0), AV.e (E.sl 31 [])]] o.3 then (loop 8 0 lc_8_5 ([AV.e (E.sl 46 (List.getD o.fr 0 uu).data.toList), uu, uu, uu, uu, AV.ptr 0 0,
  (yes (List.getD o.fr 6 uu).data.toBool), (num (IntKind.i64.wrap ((List.getD o.fr 7 uu).data.toInt + 1)))] ++ List.replicate 52 uu)
  [Ob.box [(str ((o.hp.ob 0).cell 0).data.toStr), (str ((o.hp.ob 0).cell 1).data.toStr), (num ((o.hp.ob 0).cell 2).data.toInt), AV.e (E.sl 31
  ((o.hp.ob 0).cell 3).data.toList)]]).bind fun o => some o else none else bif o.ex.isWay Way.ret then bif okFr ([uu, uu, uu, uu, (yes false)] ++
  List.replicate 55 uu) o.2 && okHeap [] o.3 then some (Out.mk (Ex.ret) (([uu, uu, uu, uu, (yes (List.getD o.fr 4 uu).data.toBool)] ++
  List.replicate 55 uu)) ([]) ([])) else none else none else some (Out.mk (Ex.exit 0) ((List.replicate 60 uu)) ([]) ([])) := by kernel_rfl
theorem eq_idxG (run : RunF) (loop : LoopF) (xs : List E) (n : List UInt8) : bodyRun PP HH run loop none 44 [.e (.sl 46 xs), .clo 45 [(0, 0)]] [.box [.e (.str n)]]
  = (loop 44 1 lc_44_2 ([AV.e (E.sl 46 xs), AV.clo 45 [(0, 0)], uu, uu, uu, uu, uu, (num (↑xs.length : Int)), AV.e (E.int
  IntKind.i64 0)] ++ List.replicate 10 uu) [Ob.box [(str n)]]).bind fun o => bif o.ex.isWay (Way.exit 0) then bif okFr (List.replicate 19 uu) o.2 && okHeap
  [Ob.box [(str [])]] o.3 then some (Res.ret ((num (-1))), [Ob.box [(str ((o.hp.ob 0).cell 0).data.toStr)]]) else none else bif o.ex.isWay Way.ret
  then bif okFr ([uu, uu, uu, uu, (num 0)] ++ List.replicate 14 uu) o.2 && okHeap [Ob.box [(str [])]] o.3 then some (Res.ret
  ((num (List.getD o.fr 4 uu).data.toInt)), [Ob.box [(str ((o.hp.ob 0).cell 0).data.toStr)]]) else none else none := by kernel_rfl
theorem eq_idxGL2 (run : RunF) (loop : LoopF) (xs : List E) (l i : Int) (n : List UInt8) : bodyLoop PP HH run loop 44 1 lc_44_2 (((((List.replicate 19
  uu).set 0 (.e (.sl 46 xs))).set 1 (.clo 45 [(0, 0)])).set 7 (.e (.int .i64 l))).set 8 (.e (.int .i64 i))) [.box [.e (.str n)]] = bif decide (i < l) then bif decide (0 ≤ i)
  && decide (i < (↑xs.length : Int)) then (run none 45 [AV.agg [(str ((xs.getD i.toNat E.nili).cell 0).toStr), (str ((xs.getD i.toNat E.nili).cell 1).toStr), AV.e
  (E.int IntKind.i64 ((xs.getD i.toNat E.nili).cell 2).toInt), AV.e (E.sl 31 ((xs.getD i.toNat E.nili).cell 3).toList)], AV.ptr 0 0] [Ob.box [(str n)]]).bind fun rh => bif
  okHeap [Ob.box [(str n)]] rh.2 then bif okRes PP 4 rh.fst then bif rh.fst.val.data.toBool then some (Out.mk (Ex.ret) (([uu, uu, uu, uu, AV.e
  (E.int IntKind.i64 i)] ++ List.replicate 14 uu)) ([Ob.box [(str ((rh.snd.ob 0).cell 0).data.toStr)]]) ([])) else (loop 44 1 lc_44_2 ([AV.e (E.sl 46 xs), AV.clo 45
  [(0, 0)], uu, uu, uu, uu, uu, (num l), (num (IntKind.i64.wrap (i + 1)))] ++ List.replicate 10 uu)
  [Ob.box [(str ((rh.snd.ob 0).cell 0).data.toStr)]]).bind fun o => some o else none else none else none else some (Out.mk (Ex.exit 0) ((List.replicate 19 uu))
  ([Ob.box [(str n)]]) ([])) := by kernel_rfl
theorem eq_idxGC (run : RunF) (loop : LoopF) (n : List UInt8) (s f : List UInt8) (m : Int) (vs : List E) : bodyRun PP HH run loop none 45 [.agg [.e (.str s), .e
  (.str f), .e (.int .i64 m), .e (.sl 31 vs)], .ptr 0 0] [.box [.e (.str n)]] = (run none 46 [(str f), (str n)] []).bind fun rh => bif okHeap [] rh.2 then bif okRes
  PP 4 rh.fst then some (Res.ret ((yes rh.fst.val.data.toBool)), [Ob.box [(str n)]]) else none else none := by kernel_rfl

end Go.Proofs.YtapndkailgcboaaGreatDoor
