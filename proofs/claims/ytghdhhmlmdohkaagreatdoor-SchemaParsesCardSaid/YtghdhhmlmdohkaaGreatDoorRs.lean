/- The equations of functions, as a program of mine prints them. -/
import Derived.Test.YtghdhhmlmdohkaaGreatDoorBase
namespace Go.Proofs.YtghdhhmlmdohkaaGreatDoor
open Go Go.Den
set_option maxRecDepth 100000
set_option maxHeartbeats 0

theorem eq_rschema (run : RunF) (loop : LoopF) (p0_0 : List UInt8) (p0_1 : Int) (p0_2 : Int) (p0_3 : Int) (a1 : Int) : bodyRun PP HH run loop none 45 [.ptr 0 0, .e
  (.int .i64 a1)] [.box [.e (.str p0_0), .e (.int .i64 p0_1), .e (.int .i64 p0_2), .e (.int .i64 p0_3)]] = bif decide (6 < a1) then some (Res.ret (AV.agg [AV.e (E.int IntKind.i64
  0), (num 0), (num 0), AV.e (E.sl 9 []), AV.e (E.sl 27 []), AV.e (E.sl 81 [])]), [Ob.box [(str p0_0), (num p0_1),
  (num (bif p0_2 == 0 then 27 else p0_2)), (num (bif p0_2 == 0 then p0_1 else p0_3))]]) else bif decide (0 ≤ p0_1) then bif decide (p0_1 <
  (↑p0_0.length : Int)) && pk p0_0 p0_1 == 105 then (run none 91 [AV.ptr 0 0, (str [105, 110, 116])] [Ob.box [(str p0_0), (num p0_1), AV.e (E.int
  IntKind.i64 p0_2), (num p0_3)]]).bind fun rh => bif okHeap [Ob.box [(str p0_0), (num p0_1), (num p0_2), AV.e
  (E.int IntKind.i64 p0_3)]] rh.2 then bif okRes PP 0 rh.fst then (run none 92 [AV.ptr 0 0, AV.agg [(num 1), (num 0), AV.e (E.int
  IntKind.i64 0), AV.e (E.sl 9 []), AV.e (E.sl 27 []), AV.e (E.sl 81 [])], (num (-4611686018427387904)), (num 4611686018427387904)] [Ob.box
  [(str ((rh.snd.ob 0).cell 0).data.toStr), (num ((rh.snd.ob 0).cell 1).data.toInt), (num ((rh.snd.ob 0).cell 2).data.toInt), AV.e
  (E.int IntKind.i64 ((rh.snd.ob 0).cell 3).data.toInt)]]).bind fun rh_1 => bif okHeap [Ob.box [(str ((rh.snd.ob 0).cell 0).data.toStr), (num ((rh.snd.ob
  0).cell 1).data.toInt), (num ((rh.snd.ob 0).cell 2).data.toInt), (num ((rh.snd.ob 0).cell 3).data.toInt)]] rh_1.2 then bif okRes PP
  27 rh_1.fst then some (Res.ret (AV.agg [(num (rh_1.fst.val.data.cell 0).toInt), (num (rh_1.fst.val.data.cell 1).toInt), AV.e (E.int
  IntKind.i64 (rh_1.fst.val.data.cell 2).toInt), AV.e (E.sl 9 (rh_1.fst.val.data.cell 3).toList), AV.e (E.sl 27 (rh_1.fst.val.data.cell 4).toList), AV.e (E.sl 81
  (rh_1.fst.val.data.cell 5).toList)]), [Ob.box [(str ((rh_1.snd.ob 0).cell 0).data.toStr), (num ((rh_1.snd.ob 0).cell 1).data.toInt), AV.e (E.int
  IntKind.i64 ((rh_1.snd.ob 0).cell 2).data.toInt), (num ((rh_1.snd.ob 0).cell 3).data.toInt)]]) else none else none else none else none else bif decide (0 ≤
  p0_1) then bif decide (p0_1 < (↑p0_0.length : Int)) && pk p0_0 p0_1 == 116 then (run none 91 [AV.ptr 0 0, (str [116, 101, 120, 116])] [Ob.box [(str p0_0), AV.e
  (E.int IntKind.i64 p0_1), (num p0_2), (num p0_3)]]).bind fun rh => bif okHeap [Ob.box [(str p0_0), (num p0_1),
  (num p0_2), (num p0_3)]] rh.2 then bif okRes PP 0 rh.fst then (run none 92 [AV.ptr 0 0, AV.agg [(num 2), AV.e
  (E.int IntKind.i64 0), (num 0), AV.e (E.sl 9 []), AV.e (E.sl 27 []), AV.e (E.sl 81 [])], (num 0), (num 256)] [Ob.box
  [(str ((rh.snd.ob 0).cell 0).data.toStr), (num ((rh.snd.ob 0).cell 1).data.toInt), (num ((rh.snd.ob 0).cell 2).data.toInt), AV.e
  (E.int IntKind.i64 ((rh.snd.ob 0).cell 3).data.toInt)]]).bind fun rh_1 => bif okHeap [Ob.box [(str ((rh.snd.ob 0).cell 0).data.toStr), (num ((rh.snd.ob
  0).cell 1).data.toInt), (num ((rh.snd.ob 0).cell 2).data.toInt), (num ((rh.snd.ob 0).cell 3).data.toInt)]] rh_1.2 then bif okRes PP
  27 rh_1.fst then some (Res.ret (AV.agg [(num (rh_1.fst.val.data.cell 0).toInt), (num (rh_1.fst.val.data.cell 1).toInt), AV.e (E.int
  IntKind.i64 (rh_1.fst.val.data.cell 2).toInt), AV.e (E.sl 9 (rh_1.fst.val.data.cell 3).toList), AV.e (E.sl 27 (rh_1.fst.val.data.cell 4).toList), AV.e (E.sl 81
  (rh_1.fst.val.data.cell 5).toList)]), [Ob.box [(str ((rh_1.snd.ob 0).cell 0).data.toStr), (num ((rh_1.snd.ob 0).cell 1).data.toInt), AV.e (E.int
  IntKind.i64 ((rh_1.snd.ob 0).cell 2).data.toInt), (num ((rh_1.snd.ob 0).cell 3).data.toInt)]]) else none else none else none else none else bif decide (0 ≤
  p0_1) then bif decide (p0_1 < (↑p0_0.length : Int)) && pk p0_0 p0_1 == 98 then (run none 91 [AV.ptr 0 0, (str [98, 111, 111, 108])] [Ob.box [(str p0_0), AV.e (E.int
  IntKind.i64 p0_1), (num p0_2), (num p0_3)]]).bind fun rh => bif okHeap [Ob.box [(str p0_0), (num p0_1), AV.e
  (E.int IntKind.i64 p0_2), (num p0_3)]] rh.2 then bif okRes PP 0 rh.fst then some (Res.ret (AV.agg [(num 3), AV.e (E.int IntKind.i64
  0), (num 0), AV.e (E.sl 9 []), AV.e (E.sl 27 []), AV.e (E.sl 81 [])]), [Ob.box [(str ((rh.snd.ob 0).cell 0).data.toStr), AV.e (E.int IntKind.i64
  ((rh.snd.ob 0).cell 1).data.toInt), (num ((rh.snd.ob 0).cell 2).data.toInt), (num ((rh.snd.ob 0).cell 3).data.toInt)]]) else none else none
  else bif decide (0 ≤ p0_1) then bif decide (p0_1 < (↑p0_0.length : Int)) && pk p0_0 p0_1 == 97 then (run none 91 [AV.ptr 0 0, (str [97, 110, 121])] [Ob.box [AV.e (E.str
  p0_0), (num p0_1), (num p0_2), (num p0_3)]]).bind fun rh => bif okHeap [Ob.box [(str p0_0), AV.e (E.int
  IntKind.i64 p0_1), (num p0_2), (num p0_3)]] rh.2 then bif okRes PP 0 rh.fst then some (Res.ret (AV.agg [(num 7),
  (num 0), (num 0), AV.e (E.sl 9 []), AV.e (E.sl 27 []), AV.e (E.sl 81 [])]), [Ob.box [(str ((rh.snd.ob 0).cell 0).data.toStr), AV.e
  (E.int IntKind.i64 ((rh.snd.ob 0).cell 1).data.toInt), (num ((rh.snd.ob 0).cell 2).data.toInt), (num ((rh.snd.ob 0).cell 3).data.toInt)]])
  else none else none else bif decide (0 ≤ p0_1) then bif decide (p0_1 < (↑p0_0.length : Int)) && pk p0_0 p0_1 == 101 then (run none 93 [AV.ptr 0 0, AV.agg [AV.e (E.int IntKind.i64
  4), (num 0), (num 0), AV.nils 9, AV.nils 27, AV.nils 81]] [Ob.box [(str p0_0), (num p0_1), AV.e (E.int IntKind.i64
  p0_2), (num p0_3)]]).bind fun rh => bif okHeap [Ob.box [(str p0_0), (num p0_1), (num p0_2), AV.e (E.int
  IntKind.i64 p0_3)]] rh.2 then bif okRes PP 27 rh.fst then some (Res.ret (AV.agg [(num (rh.fst.val.data.cell 0).toInt), AV.e (E.int IntKind.i64
  (rh.fst.val.data.cell 1).toInt), (num (rh.fst.val.data.cell 2).toInt), AV.e (E.sl 9 (rh.fst.val.data.cell 3).toList), AV.e (E.sl 27 (rh.fst.val.data.cell
  4).toList), AV.e (E.sl 81 (rh.fst.val.data.cell 5).toList)]), [Ob.box [(str ((rh.snd.ob 0).cell 0).data.toStr), (num ((rh.snd.ob 0).cell 1).data.toInt),
  (num ((rh.snd.ob 0).cell 2).data.toInt), (num ((rh.snd.ob 0).cell 3).data.toInt)]]) else none else none else bif decide (0 ≤ p0_1) then bif
  decide (p0_1 < (↑p0_0.length : Int)) && pk p0_0 p0_1 == 108 then (run none 94 [AV.ptr 0 0, AV.agg [(num 5), (num 0), AV.e (E.int IntKind.i64
  0), AV.e (E.sl 9 []), AV.e (E.sl 27 []), AV.e (E.sl 81 [])], (num a1)] [Ob.box [(str p0_0), (num p0_1), AV.e (E.int IntKind.i64
  p0_2), (num p0_3)]]).bind fun rh => bif okHeap [Ob.box [(str p0_0), (num p0_1), (num p0_2), AV.e (E.int
  IntKind.i64 p0_3)]] rh.2 then bif okRes PP 27 rh.fst then some (Res.ret (AV.agg [(num (rh.fst.val.data.cell 0).toInt), AV.e (E.int IntKind.i64
  (rh.fst.val.data.cell 1).toInt), (num (rh.fst.val.data.cell 2).toInt), AV.e (E.sl 9 (rh.fst.val.data.cell 3).toList), AV.e (E.sl 27 (rh.fst.val.data.cell
  4).toList), AV.e (E.sl 81 (rh.fst.val.data.cell 5).toList)]), [Ob.box [(str ((rh.snd.ob 0).cell 0).data.toStr), (num ((rh.snd.ob 0).cell 1).data.toInt),
  (num ((rh.snd.ob 0).cell 2).data.toInt), (num ((rh.snd.ob 0).cell 3).data.toInt)]]) else none else none else bif decide (0 ≤ p0_1) then bif
  decide (p0_1 < (↑p0_0.length : Int)) && pk p0_0 p0_1 == 123 then (run none 95 [AV.ptr 0 0, AV.agg [(num 6), (num 0), AV.e (E.int IntKind.i64
  0), AV.nils 9, AV.nils 27, AV.nils 81], (num a1)] [Ob.box [(str p0_0), (num p0_1), (num p0_2), AV.e (E.int
  IntKind.i64 p0_3)]]).bind fun rh => bif okHeap [Ob.box [(str p0_0), (num p0_1), (num p0_2), (num p0_3)]] rh.2 then
  bif okRes PP 27 rh.fst then some (Res.ret (AV.agg [(num (rh.fst.val.data.cell 0).toInt), (num (rh.fst.val.data.cell 1).toInt), AV.e
  (E.int IntKind.i64 (rh.fst.val.data.cell 2).toInt), AV.e (E.sl 9 (rh.fst.val.data.cell 3).toList), AV.e (E.sl 27 (rh.fst.val.data.cell 4).toList), AV.e (E.sl 81
  (rh.fst.val.data.cell 5).toList)]), [Ob.box [(str ((rh.snd.ob 0).cell 0).data.toStr), (num ((rh.snd.ob 0).cell 1).data.toInt), AV.e (E.int IntKind.i64
  ((rh.snd.ob 0).cell 2).data.toInt), (num ((rh.snd.ob 0).cell 3).data.toInt)]]) else none else none else some (Res.ret (AV.agg [(num 0), AV.e
  (E.int IntKind.i64 0), (num 0), AV.e (E.sl 9 []), AV.e (E.sl 27 []), AV.e (E.sl 81 [])]), [Ob.box [(str p0_0), (num p0_1), AV.e
  (E.int IntKind.i64 (bif p0_2 == 0 then 2 else p0_2)), (num (bif p0_2 == 0 then p0_1 else p0_3))]]) else none else none else none else none else none else none
  else none := by kernel_rfl
theorem eq_rrecord (run : RunF) (loop : LoopF) (p0_0 : List UInt8) (p0_1 : Int) (p0_2 : Int) (p0_3 : Int) (a1_0 : Int) (a1_1 : Int) (a1_2 : Int) (a2 : Int) : bodyRun
  PP HH run loop none 95 [.ptr 0 0, .agg [.e (.int .i64 a1_0), .e (.int .i64 a1_1), .e (.int .i64 a1_2), .nils 9, .nils 27, .nils 81], .e (.int .i64 a2)] [.box [.e
  (.str p0_0), .e (.int .i64 p0_1), .e (.int .i64 p0_2), .e (.int .i64 p0_3)]] = bif decide (0 ≤ IntKind.i64.wrap (p0_1 + 1)) then bif decide (IntKind.i64.wrap (p0_1 + 1) <
  (↑p0_0.length : Int)) && pk p0_0 (IntKind.i64.wrap (p0_1 + 1)) == 125 then some (Res.ret (AV.agg [(num a1_0), (num a1_1), AV.e (E.int
  IntKind.i64 a1_2), AV.e (E.sl 9 []), AV.e (E.sl 27 []), AV.e (E.sl 81 [])]), [Ob.box [(str p0_0), (num (IntKind.i64.wrap (IntKind.i64.wrap (p0_1 + 1) +
  1))), (num p0_2), (num p0_3)]]) else (loop 95 1 lc_95_5 ([AV.ptr 0 0, uu, (num a2), uu, AV.ptr 1 0, uu,
  AV.ptr 2 0] ++ List.replicate 67 uu) [Ob.box [(str p0_0), (num (IntKind.i64.wrap (p0_1 + 1))), (num p0_2), AV.e (E.int
  IntKind.i64 p0_3)], Ob.box [(num a1_0), (num a1_1), (num a1_2), AV.own 3 9 [], AV.own 4 27 [], AV.own 5 81 []], Ob.box
  [(num 0), (num 0), (num 0), AV.own 6 9 [], AV.own 7 27 [], AV.own 8 81 []], Ob.vec 9 0, Ob.vec 27 0, Ob.vec 81 0, Ob.vec
  9 0, Ob.vec 27 0, Ob.vec 81 0]).bind fun o => bif o.ex.isWay (Way.exit 0) then bif okFr ([AV.ptr 0 0, uu, uu, uu, AV.ptr 1 0, uu, AV.ptr 2 0] ++
  List.replicate 67 uu) o.2 && okHeap [Ob.box [(str []), (num 0), (num 0), (num 0)], Ob.box [AV.e (E.int
  IntKind.i64 0), (num 0), (num 0), AV.own 3 9 [], AV.own 4 27 [], AV.own 5 81 []], Ob.box [(num 0), AV.e (E.int
  IntKind.i64 0), (num 0), AV.own 6 9 [], AV.own 7 27 [], AV.own 8 81 []], Ob.vec 9 0, Ob.vec 27 0, Ob.vec 81 0, Ob.vec 9 0, Ob.vec 27 0, Ob.vec 81 0] o.3 then
  (run none 91 [AV.ptr 0 0, (str [125])] [Ob.box [(str ((o.hp.ob 0).cell 0).data.toStr), (num ((o.hp.ob 0).cell 1).data.toInt), AV.e (E.int
  IntKind.i64 ((o.hp.ob 0).cell 2).data.toInt), (num ((o.hp.ob 0).cell 3).data.toInt)]]).bind fun rh => bif okHeap [Ob.box [(str ((o.hp.ob 0).cell
  0).data.toStr), (num ((o.hp.ob 0).cell 1).data.toInt), (num ((o.hp.ob 0).cell 2).data.toInt), (num ((o.hp.ob 0).cell
  3).data.toInt)]] rh.2 then bif okRes PP 0 rh.fst then some (Res.ret (AV.agg [(num ((o.hp.ob 1).cell 0).data.toInt), (num ((o.hp.ob
  1).cell 1).data.toInt), (num ((o.hp.ob 1).cell 2).data.toInt), AV.e (E.sl 9 ((o.hp.ob 1).cell 3).data.toList), AV.e (E.sl 27 ((o.hp.ob 1).cell 4).data.toList),
  AV.e (E.sl 81 ((o.hp.ob 1).cell 5).data.toList)]), [Ob.box [(str ((rh.snd.ob 0).cell 0).data.toStr), (num ((rh.snd.ob 0).cell 1).data.toInt), AV.e
  (E.int IntKind.i64 ((rh.snd.ob 0).cell 2).data.toInt), (num ((rh.snd.ob 0).cell 3).data.toInt)]]) else none else none else none else bif o.ex.isWay Way.ret
  then bif okFr (List.replicate 6 uu ++ [AV.ptr 1 0] ++ List.replicate 67 uu) o.2 && okHeap [Ob.box [(str []), (num 0), AV.e (E.int
  IntKind.i64 0), (num 0)], Ob.box [(num 0), (num 0), (num 0), AV.own 2 9 [], AV.own 3 27 [], AV.own 4
  81 []], Ob.vec 9 0, Ob.vec 27 0, Ob.vec 81 0] o.3 then some (Res.ret (AV.agg [(num ((o.hp.ob 1).cell 0).data.toInt), (num ((o.hp.ob 1).cell
  1).data.toInt), (num ((o.hp.ob 1).cell 2).data.toInt), AV.e (E.sl 9 ((o.hp.ob 1).cell 3).data.toList), AV.e (E.sl 27 ((o.hp.ob 1).cell 4).data.toList), AV.e
  (E.sl 81 ((o.hp.ob 1).cell 5).data.toList)]), [Ob.box [(str ((o.hp.ob 0).cell 0).data.toStr), (num ((o.hp.ob 0).cell 1).data.toInt), AV.e (E.int
  IntKind.i64 ((o.hp.ob 0).cell 2).data.toInt), (num ((o.hp.ob 0).cell 3).data.toInt)]]) else none else none else none := by kernel_rfl
theorem eq_rrecordL5 (run : RunF) (loop : LoopF) (p0_0 : List UInt8) (p0_1 : Int) (p0_2 : Int) (p0_3 : Int) (t2 : Int) (t4_0 : Int) (t4_1 : Int) (t4_2 : Int) (t4_3 : List E) (t4_4
  : List E) (t4_5 : List E) (t6_0 : Int) (t6_1 : Int) (t6_2 : Int) (t6_3 : List E) (t6_4 : List E) (t6_5 : List E) : bodyLoop PP HH run loop 95 1 lc_95_5
  (((((List.replicate 74 uu).set 0 (.ptr 0 0)).set 2 (.e (.int .i64 t2))).set 4 (.ptr 1 0)).set 6 (.ptr 2 0)) [.box [.e (.str p0_0), .e (.int .i64 p0_1), .e (.int .i64 p0_2),
  .e (.int .i64 p0_3)], .box [.e (.int .i64 t4_0), .e (.int .i64 t4_1), .e (.int .i64 t4_2), .own 3 9 t4_3, .own 4 27 t4_4, .own 5 81 t4_5], .box [.e (.int .i64 t6_0), .e (.int
  .i64 t6_1), .e (.int .i64 t6_2), .own 6 9 t6_3, .own 7 27 t6_4, .own 8 81 t6_5], .vec 9 t4_3.length, .vec 27 t4_4.length, .vec 81 t4_5.length, .vec 9 t6_3.length, .vec 27
  t6_4.length, .vec 81 t6_5.length] = bif p0_2 == 0 then (run none 140 [AV.ptr 0 0] [Ob.box [(str p0_0), (num p0_1), (num p0_2), AV.e
  (E.int IntKind.i64 p0_3)]]).bind fun rh => bif okHeap [Ob.box [(str p0_0), (num p0_1), (num p0_2), (num p0_3)]]
  rh.2 then bif okRes PP 9 rh.fst then bif (((rh.snd.ob 0).cell 2).data.toInt == 0) == true then bif decide (0 ≤ ((rh.snd.ob 0).cell 1).data.toInt) then bif decide
  (((rh.snd.ob 0).cell 1).data.toInt < (↑((rh.snd.ob 0).cell 0).data.toStr.length : Int)) && pk ((rh.snd.ob 0).cell 0).data.toStr ((rh.snd.ob 0).cell 1).data.toInt == 63 then (run
  none 91 [AV.ptr 0 0, (str [58, 32])] [Ob.box [(str ((rh.snd.ob 0).cell 0).data.toStr), (num (IntKind.i64.wrap (((rh.snd.ob 0).cell 1).data.toInt
  + 1))), (num ((rh.snd.ob 0).cell 2).data.toInt), (num ((rh.snd.ob 0).cell 3).data.toInt)]]).bind fun rh_1 => bif okHeap [Ob.box [AV.e (E.str
  ((rh.snd.ob 0).cell 0).data.toStr), (num (IntKind.i64.wrap (((rh.snd.ob 0).cell 1).data.toInt + 1))), (num ((rh.snd.ob 0).cell
  2).data.toInt), (num ((rh.snd.ob 0).cell 3).data.toInt)]] rh_1.2 then bif okRes PP 0 rh_1.fst then bif !((rh_1.snd.ob 0).cell 2).data.toInt == 0 then
  some (Out.mk (Ex.ret) ((List.replicate 6 uu ++ [AV.ptr 1 0] ++ List.replicate 67 uu)) ([Ob.box [(str ((rh_1.snd.ob 0).cell 0).data.toStr), AV.e (E.int
  IntKind.i64 ((rh_1.snd.ob 0).cell 1).data.toInt), (num ((rh_1.snd.ob 0).cell 2).data.toInt), (num ((rh_1.snd.ob 0).cell 3).data.toInt)],
  Ob.box [(num t4_0), (num t4_1), (num t4_2), AV.own 2 9 t4_3, AV.own 3 27 t4_4, AV.own 4 81 t4_5], Ob.vec 9 t4_3.length,
  Ob.vec 27 t4_4.length, Ob.vec 81 t4_5.length]) ([])) else (run none 45 [AV.ptr 0 0, (num (IntKind.i64.wrap (t2 + 1)))] [Ob.box [(str ((rh_1.snd.ob
  0).cell 0).data.toStr), (num ((rh_1.snd.ob 0).cell 1).data.toInt), (num ((rh_1.snd.ob 0).cell 2).data.toInt), AV.e (E.int IntKind.i64
  ((rh_1.snd.ob 0).cell 3).data.toInt)]]).bind fun rh_2 => bif okHeap [Ob.box [(str ((rh_1.snd.ob 0).cell 0).data.toStr), (num ((rh_1.snd.ob 0).cell
  1).data.toInt), (num ((rh_1.snd.ob 0).cell 2).data.toInt), (num ((rh_1.snd.ob 0).cell 3).data.toInt)]] rh_2.2 then bif okRes PP 27
  rh_2.fst then bif decide (t4_5.length = t4_5.length) && decide ((t4_5.length + (81, elems PP 81 8 1 [E.sl 81 (rh_2.fst.val.data.cell 5).toList, E.sl 27
  (rh_2.fst.val.data.cell 4).toList, E.sl 9 (rh_2.fst.val.data.cell 3).toList, E.int IntKind.i64 (rh_2.fst.val.data.cell 2).toInt, E.int IntKind.i64 (rh_2.fst.val.data.cell
  1).toInt, E.int IntKind.i64 (rh_2.fst.val.data.cell 0).toInt, E.bool true, E.str rh.fst.val.data.toStr].reverse).snd.length) * 120 ≤ 140737488355328) then bif (!((rh_2.snd.ob
  0).cell 2).data.toInt == 0) == false then bif decide (0 ≤ ((rh_2.snd.ob 0).cell 1).data.toInt) then bif !(decide (((rh_2.snd.ob 0).cell 1).data.toInt < (↑((rh_2.snd.ob 0).cell
  0).data.toStr.length : Int)) && pk ((rh_2.snd.ob 0).cell 0).data.toStr ((rh_2.snd.ob 0).cell 1).data.toInt == 44) then some (Out.mk (Ex.exit 0) (([AV.ptr 0 0, uu, uu,
  uu, AV.ptr 1 0, uu, AV.ptr 2 0] ++ List.replicate 67 uu)) ([Ob.box [(str ((rh_2.snd.ob 0).cell 0).data.toStr), (num ((rh_2.snd.ob
  0).cell 1).data.toInt), (num ((rh_2.snd.ob 0).cell 2).data.toInt), (num ((rh_2.snd.ob 0).cell 3).data.toInt)], Ob.box [AV.e (E.int
  IntKind.i64 t4_0), (num t4_1), (num t4_2), AV.own 3 9 t4_3, AV.own 4 27 t4_4, AV.own 5 81 (t4_5 ++ (81, elems PP 81 8 1 [E.sl 81
  (rh_2.fst.val.data.cell 5).toList, E.sl 27 (rh_2.fst.val.data.cell 4).toList, E.sl 9 (rh_2.fst.val.data.cell 3).toList, E.int IntKind.i64 (rh_2.fst.val.data.cell 2).toInt, E.int
  IntKind.i64 (rh_2.fst.val.data.cell 1).toInt, E.int IntKind.i64 (rh_2.fst.val.data.cell 0).toInt, E.bool true, E.str rh.fst.val.data.toStr].reverse).snd)], Ob.box [AV.e (E.int
  IntKind.i64 t6_0), (num t6_1), (num t6_2), AV.own 6 9 t6_3, AV.own 7 27 t6_4, AV.own 8 81 t6_5], Ob.vec 9 t4_3.length, Ob.vec 27
  t4_4.length, Ob.vec 81 (t4_5 ++ (81, elems PP 81 8 1 [E.sl 81 (rh_2.fst.val.data.cell 5).toList, E.sl 27 (rh_2.fst.val.data.cell 4).toList, E.sl 9 (rh_2.fst.val.data.cell
  3).toList, E.int IntKind.i64 (rh_2.fst.val.data.cell 2).toInt, E.int IntKind.i64 (rh_2.fst.val.data.cell 1).toInt, E.int IntKind.i64 (rh_2.fst.val.data.cell 0).toInt, E.bool
  true, E.str rh.fst.val.data.toStr].reverse).snd).length, Ob.vec 9 t6_3.length, Ob.vec 27 t6_4.length, Ob.vec 81 t6_5.length]) ([])) else (run none 91 [AV.ptr 0 0, AV.e (E.str
  [44, 32])] [Ob.box [(str ((rh_2.snd.ob 0).cell 0).data.toStr), (num ((rh_2.snd.ob 0).cell 1).data.toInt), (num ((rh_2.snd.ob 0).cell
  2).data.toInt), (num ((rh_2.snd.ob 0).cell 3).data.toInt)]]).bind fun rh_3 => bif okHeap [Ob.box [(str ((rh_2.snd.ob 0).cell 0).data.toStr), AV.e (E.int
  IntKind.i64 ((rh_2.snd.ob 0).cell 1).data.toInt), (num ((rh_2.snd.ob 0).cell 2).data.toInt), (num ((rh_2.snd.ob 0).cell 3).data.toInt)]]
  rh_3.2 then bif okRes PP 0 rh_3.fst then (loop 95 1 lc_95_5 ([AV.ptr 0 0, uu, (num t2), uu, AV.ptr 1 0, uu, AV.ptr 2 0] ++
  List.replicate 67 uu) [Ob.box [(str ((rh_3.snd.ob 0).cell 0).data.toStr), (num ((rh_3.snd.ob 0).cell 1).data.toInt), AV.e (E.int IntKind.i64
  ((rh_3.snd.ob 0).cell 2).data.toInt), (num ((rh_3.snd.ob 0).cell 3).data.toInt)], Ob.box [(num t4_0), (num t4_1), AV.e
  (E.int IntKind.i64 t4_2), AV.own 3 9 t4_3, AV.own 4 27 t4_4, AV.own 5 81 (t4_5 ++ (81, elems PP 81 8 1 [E.sl 81 (rh_2.fst.val.data.cell 5).toList, E.sl 27
  (rh_2.fst.val.data.cell 4).toList, E.sl 9 (rh_2.fst.val.data.cell 3).toList, E.int IntKind.i64 (rh_2.fst.val.data.cell 2).toInt, E.int IntKind.i64 (rh_2.fst.val.data.cell
  1).toInt, E.int IntKind.i64 (rh_2.fst.val.data.cell 0).toInt, E.bool true, E.str rh.fst.val.data.toStr].reverse).snd)], Ob.box [(num t6_0), AV.e (E.int
  IntKind.i64 t6_1), (num t6_2), AV.own 6 9 t6_3, AV.own 7 27 t6_4, AV.own 8 81 t6_5], Ob.vec 9 t4_3.length, Ob.vec 27 t4_4.length, Ob.vec 81 (t4_5 ++ (81, elems
  PP 81 8 1 [E.sl 81 (rh_2.fst.val.data.cell 5).toList, E.sl 27 (rh_2.fst.val.data.cell 4).toList, E.sl 9 (rh_2.fst.val.data.cell 3).toList, E.int IntKind.i64
  (rh_2.fst.val.data.cell 2).toInt, E.int IntKind.i64 (rh_2.fst.val.data.cell 1).toInt, E.int IntKind.i64 (rh_2.fst.val.data.cell 0).toInt, E.bool true, E.str
  rh.fst.val.data.toStr].reverse).snd).length, Ob.vec 9 t6_3.length, Ob.vec 27 t6_4.length, Ob.vec 81 t6_5.length]).bind fun o => some o else none else none else none else some
  (Out.mk (Ex.exit 0) (([AV.ptr 0 0, uu, uu, uu, AV.ptr 1 0, uu, AV.ptr 2 0] ++ List.replicate 67 uu)) ([Ob.box [(str ((rh_2.snd.ob 0).cell
  0).data.toStr), (num ((rh_2.snd.ob 0).cell 1).data.toInt), (num ((rh_2.snd.ob 0).cell 2).data.toInt), (num ((rh_2.snd.ob
  0).cell 3).data.toInt)], Ob.box [(num t4_0), (num t4_1), (num t4_2), AV.own 3 9 t4_3, AV.own 4 27 t4_4, AV.own 5 81 (t4_5
  ++ (81, elems PP 81 8 1 [E.sl 81 (rh_2.fst.val.data.cell 5).toList, E.sl 27 (rh_2.fst.val.data.cell 4).toList, E.sl 9 (rh_2.fst.val.data.cell 3).toList, E.int IntKind.i64
  (rh_2.fst.val.data.cell 2).toInt, E.int IntKind.i64 (rh_2.fst.val.data.cell 1).toInt, E.int IntKind.i64 (rh_2.fst.val.data.cell 0).toInt, E.bool true, E.str
  rh.fst.val.data.toStr].reverse).snd)], Ob.box [(num t6_0), (num t6_1), (num t6_2), AV.own 6 9 t6_3, AV.own 7 27 t6_4,
  AV.own 8 81 t6_5], Ob.vec 9 t4_3.length, Ob.vec 27 t4_4.length, Ob.vec 81 (t4_5 ++ (81, elems PP 81 8 1 [E.sl 81 (rh_2.fst.val.data.cell 5).toList, E.sl 27
  (rh_2.fst.val.data.cell 4).toList, E.sl 9 (rh_2.fst.val.data.cell 3).toList, E.int IntKind.i64 (rh_2.fst.val.data.cell 2).toInt, E.int IntKind.i64 (rh_2.fst.val.data.cell
  1).toInt, E.int IntKind.i64 (rh_2.fst.val.data.cell 0).toInt, E.bool true, E.str rh.fst.val.data.toStr].reverse).snd).length, Ob.vec 9 t6_3.length, Ob.vec 27 t6_4.length, Ob.vec
  81 t6_5.length]) ([])) else none else none else none else none else none else (run none 91 [AV.ptr 0 0, (str [58, 32])] [Ob.box [(str ((rh.snd.ob 0).cell
  0).data.toStr), (num ((rh.snd.ob 0).cell 1).data.toInt), (num ((rh.snd.ob 0).cell 2).data.toInt), (num ((rh.snd.ob
  0).cell 3).data.toInt)]]).bind fun rh_1 => bif okHeap [Ob.box [(str ((rh.snd.ob 0).cell 0).data.toStr), (num ((rh.snd.ob 0).cell 1).data.toInt), AV.e
  (E.int IntKind.i64 ((rh.snd.ob 0).cell 2).data.toInt), (num ((rh.snd.ob 0).cell 3).data.toInt)]] rh_1.2 then bif okRes PP 0 rh_1.fst then bif
  !((rh_1.snd.ob 0).cell 2).data.toInt == 0 then some (Out.mk (Ex.ret) ((List.replicate 6 uu ++ [AV.ptr 1 0] ++ List.replicate 67 uu)) ([Ob.box [AV.e (E.str
  ((rh_1.snd.ob 0).cell 0).data.toStr), (num ((rh_1.snd.ob 0).cell 1).data.toInt), (num ((rh_1.snd.ob 0).cell 2).data.toInt), AV.e (E.int
  IntKind.i64 ((rh_1.snd.ob 0).cell 3).data.toInt)], Ob.box [(num t4_0), (num t4_1), (num t4_2), AV.own 2 9 t4_3, AV.own 3
  27 t4_4, AV.own 4 81 t4_5], Ob.vec 9 t4_3.length, Ob.vec 27 t4_4.length, Ob.vec 81 t4_5.length]) ([])) else (run none 45 [AV.ptr 0 0, (num (IntKind.i64.wrap
  (t2 + 1)))] [Ob.box [(str ((rh_1.snd.ob 0).cell 0).data.toStr), (num ((rh_1.snd.ob 0).cell 1).data.toInt), (num ((rh_1.snd.ob 0).cell
  2).data.toInt), (num ((rh_1.snd.ob 0).cell 3).data.toInt)]]).bind fun rh_2 => bif okHeap [Ob.box [(str ((rh_1.snd.ob 0).cell 0).data.toStr), AV.e (E.int
  IntKind.i64 ((rh_1.snd.ob 0).cell 1).data.toInt), (num ((rh_1.snd.ob 0).cell 2).data.toInt), (num ((rh_1.snd.ob 0).cell 3).data.toInt)]]
  rh_2.2 then bif okRes PP 27 rh_2.fst then bif decide (t4_5.length = t4_5.length) && decide ((t4_5.length + (81, elems PP 81 8 1 [E.sl 81 (rh_2.fst.val.data.cell
  5).toList, E.sl 27 (rh_2.fst.val.data.cell 4).toList, E.sl 9 (rh_2.fst.val.data.cell 3).toList, E.int IntKind.i64 (rh_2.fst.val.data.cell 2).toInt, E.int IntKind.i64
  (rh_2.fst.val.data.cell 1).toInt, E.int IntKind.i64 (rh_2.fst.val.data.cell 0).toInt, E.bool false, E.str rh.fst.val.data.toStr].reverse).snd.length) * 120 ≤ 140737488355328)
  then bif (!((rh_2.snd.ob 0).cell 2).data.toInt == 0) == false then bif decide (0 ≤ ((rh_2.snd.ob 0).cell 1).data.toInt) then bif !(decide (((rh_2.snd.ob 0).cell 1).data.toInt <
  (↑((rh_2.snd.ob 0).cell 0).data.toStr.length : Int)) && pk ((rh_2.snd.ob 0).cell 0).data.toStr ((rh_2.snd.ob 0).cell 1).data.toInt == 44) then some (Out.mk (Ex.exit 0) (([AV.ptr
  0 0, uu, uu, uu, AV.ptr 1 0, uu, AV.ptr 2 0] ++ List.replicate 67 uu)) ([Ob.box [(str ((rh_2.snd.ob 0).cell 0).data.toStr), AV.e (E.int
  IntKind.i64 ((rh_2.snd.ob 0).cell 1).data.toInt), (num ((rh_2.snd.ob 0).cell 2).data.toInt), (num ((rh_2.snd.ob 0).cell 3).data.toInt)],
  Ob.box [(num t4_0), (num t4_1), (num t4_2), AV.own 3 9 t4_3, AV.own 4 27 t4_4, AV.own 5 81 (t4_5 ++ (81, elems PP
  81 8 1 [E.sl 81 (rh_2.fst.val.data.cell 5).toList, E.sl 27 (rh_2.fst.val.data.cell 4).toList, E.sl 9 (rh_2.fst.val.data.cell 3).toList, E.int IntKind.i64 (rh_2.fst.val.data.cell
  2).toInt, E.int IntKind.i64 (rh_2.fst.val.data.cell 1).toInt, E.int IntKind.i64 (rh_2.fst.val.data.cell 0).toInt, E.bool false, E.str rh.fst.val.data.toStr].reverse).snd)],
  Ob.box [(num t6_0), (num t6_1), (num t6_2), AV.own 6 9 t6_3, AV.own 7 27 t6_4, AV.own 8 81 t6_5], Ob.vec 9 t4_3.length,
  Ob.vec 27 t4_4.length, Ob.vec 81 (t4_5 ++ (81, elems PP 81 8 1 [E.sl 81 (rh_2.fst.val.data.cell 5).toList, E.sl 27 (rh_2.fst.val.data.cell 4).toList, E.sl 9
  (rh_2.fst.val.data.cell 3).toList, E.int IntKind.i64 (rh_2.fst.val.data.cell 2).toInt, E.int IntKind.i64 (rh_2.fst.val.data.cell 1).toInt, E.int IntKind.i64
  (rh_2.fst.val.data.cell 0).toInt, E.bool false, E.str rh.fst.val.data.toStr].reverse).snd).length, Ob.vec 9 t6_3.length, Ob.vec 27 t6_4.length, Ob.vec 81 t6_5.length]) ([])) else
  (run none 91 [AV.ptr 0 0, (str [44, 32])] [Ob.box [(str ((rh_2.snd.ob 0).cell 0).data.toStr), (num ((rh_2.snd.ob 0).cell 1).data.toInt), AV.e
  (E.int IntKind.i64 ((rh_2.snd.ob 0).cell 2).data.toInt), (num ((rh_2.snd.ob 0).cell 3).data.toInt)]]).bind fun rh_3 => bif okHeap [Ob.box [AV.e (E.str
  ((rh_2.snd.ob 0).cell 0).data.toStr), (num ((rh_2.snd.ob 0).cell 1).data.toInt), (num ((rh_2.snd.ob 0).cell 2).data.toInt), AV.e (E.int
  IntKind.i64 ((rh_2.snd.ob 0).cell 3).data.toInt)]] rh_3.2 then bif okRes PP 0 rh_3.fst then (loop 95 1 lc_95_5 ([AV.ptr 0 0, uu, (num t2),
  uu, AV.ptr 1 0, uu, AV.ptr 2 0] ++ List.replicate 67 uu) [Ob.box [(str ((rh_3.snd.ob 0).cell 0).data.toStr), (num ((rh_3.snd.ob
  0).cell 1).data.toInt), (num ((rh_3.snd.ob 0).cell 2).data.toInt), (num ((rh_3.snd.ob 0).cell 3).data.toInt)], Ob.box [AV.e (E.int
  IntKind.i64 t4_0), (num t4_1), (num t4_2), AV.own 3 9 t4_3, AV.own 4 27 t4_4, AV.own 5 81 (t4_5 ++ (81, elems PP 81 8 1 [E.sl 81
  (rh_2.fst.val.data.cell 5).toList, E.sl 27 (rh_2.fst.val.data.cell 4).toList, E.sl 9 (rh_2.fst.val.data.cell 3).toList, E.int IntKind.i64 (rh_2.fst.val.data.cell 2).toInt, E.int
  IntKind.i64 (rh_2.fst.val.data.cell 1).toInt, E.int IntKind.i64 (rh_2.fst.val.data.cell 0).toInt, E.bool false, E.str rh.fst.val.data.toStr].reverse).snd)], Ob.box [AV.e (E.int
  IntKind.i64 t6_0), (num t6_1), (num t6_2), AV.own 6 9 t6_3, AV.own 7 27 t6_4, AV.own 8 81 t6_5], Ob.vec 9 t4_3.length, Ob.vec 27
  t4_4.length, Ob.vec 81 (t4_5 ++ (81, elems PP 81 8 1 [E.sl 81 (rh_2.fst.val.data.cell 5).toList, E.sl 27 (rh_2.fst.val.data.cell 4).toList, E.sl 9 (rh_2.fst.val.data.cell
  3).toList, E.int IntKind.i64 (rh_2.fst.val.data.cell 2).toInt, E.int IntKind.i64 (rh_2.fst.val.data.cell 1).toInt, E.int IntKind.i64 (rh_2.fst.val.data.cell 0).toInt, E.bool
  false, E.str rh.fst.val.data.toStr].reverse).snd).length, Ob.vec 9 t6_3.length, Ob.vec 27 t6_4.length, Ob.vec 81 t6_5.length]).bind fun o => some o else none else none else none
  else some (Out.mk (Ex.exit 0) (([AV.ptr 0 0, uu, uu, uu, AV.ptr 1 0, uu, AV.ptr 2 0] ++ List.replicate 67 uu)) ([Ob.box [(str ((rh_2.snd.ob
  0).cell 0).data.toStr), (num ((rh_2.snd.ob 0).cell 1).data.toInt), (num ((rh_2.snd.ob 0).cell 2).data.toInt), AV.e (E.int IntKind.i64
  ((rh_2.snd.ob 0).cell 3).data.toInt)], Ob.box [(num t4_0), (num t4_1), (num t4_2), AV.own 3 9 t4_3, AV.own 4 27 t4_4,
  AV.own 5 81 (t4_5 ++ (81, elems PP 81 8 1 [E.sl 81 (rh_2.fst.val.data.cell 5).toList, E.sl 27 (rh_2.fst.val.data.cell 4).toList, E.sl 9 (rh_2.fst.val.data.cell 3).toList,
  E.int IntKind.i64 (rh_2.fst.val.data.cell 2).toInt, E.int IntKind.i64 (rh_2.fst.val.data.cell 1).toInt, E.int IntKind.i64 (rh_2.fst.val.data.cell 0).toInt, E.bool false, E.str
  rh.fst.val.data.toStr].reverse).snd)], Ob.box [(num t6_0), (num t6_1), (num t6_2), AV.own 6 9 t6_3, AV.own 7 27 t6_4,
  AV.own 8 81 t6_5], Ob.vec 9 t4_3.length, Ob.vec 27 t4_4.length, Ob.vec 81 (t4_5 ++ (81, elems PP 81 8 1 [E.sl 81 (rh_2.fst.val.data.cell 5).toList, E.sl 27
  (rh_2.fst.val.data.cell 4).toList, E.sl 9 (rh_2.fst.val.data.cell 3).toList, E.int IntKind.i64 (rh_2.fst.val.data.cell 2).toInt, E.int IntKind.i64 (rh_2.fst.val.data.cell
  1).toInt, E.int IntKind.i64 (rh_2.fst.val.data.cell 0).toInt, E.bool false, E.str rh.fst.val.data.toStr].reverse).snd).length, Ob.vec 9 t6_3.length, Ob.vec 27 t6_4.length, Ob.vec
  81 t6_5.length]) ([])) else none else none else none else none else none else none else (run none 91 [AV.ptr 0 0, (str [58, 32])] [Ob.box [(str ((rh.snd.ob 0).cell
  0).data.toStr), (num ((rh.snd.ob 0).cell 1).data.toInt), (num ((rh.snd.ob 0).cell 2).data.toInt), (num ((rh.snd.ob
  0).cell 3).data.toInt)]]).bind fun rh_1 => bif okHeap [Ob.box [(str ((rh.snd.ob 0).cell 0).data.toStr), (num ((rh.snd.ob 0).cell 1).data.toInt), AV.e
  (E.int IntKind.i64 ((rh.snd.ob 0).cell 2).data.toInt), (num ((rh.snd.ob 0).cell 3).data.toInt)]] rh_1.2 then bif okRes PP 0 rh_1.fst then bif
  !((rh_1.snd.ob 0).cell 2).data.toInt == 0 then some (Out.mk (Ex.ret) ((List.replicate 6 uu ++ [AV.ptr 1 0] ++ List.replicate 67 uu)) ([Ob.box [AV.e (E.str
  ((rh_1.snd.ob 0).cell 0).data.toStr), (num ((rh_1.snd.ob 0).cell 1).data.toInt), (num ((rh_1.snd.ob 0).cell 2).data.toInt), AV.e (E.int
  IntKind.i64 ((rh_1.snd.ob 0).cell 3).data.toInt)], Ob.box [(num t4_0), (num t4_1), (num t4_2), AV.own 2 9 t4_3, AV.own 3
  27 t4_4, AV.own 4 81 t4_5], Ob.vec 9 t4_3.length, Ob.vec 27 t4_4.length, Ob.vec 81 t4_5.length]) ([])) else (run none 45 [AV.ptr 0 0, (num (IntKind.i64.wrap
  (t2 + 1)))] [Ob.box [(str ((rh_1.snd.ob 0).cell 0).data.toStr), (num ((rh_1.snd.ob 0).cell 1).data.toInt), (num ((rh_1.snd.ob 0).cell
  2).data.toInt), (num ((rh_1.snd.ob 0).cell 3).data.toInt)]]).bind fun rh_2 => bif okHeap [Ob.box [(str ((rh_1.snd.ob 0).cell 0).data.toStr), AV.e (E.int
  IntKind.i64 ((rh_1.snd.ob 0).cell 1).data.toInt), (num ((rh_1.snd.ob 0).cell 2).data.toInt), (num ((rh_1.snd.ob 0).cell 3).data.toInt)]]
  rh_2.2 then bif okRes PP 27 rh_2.fst then bif decide (t4_5.length = t4_5.length) && decide ((t4_5.length + (81, elems PP 81 8 1 [E.sl 81 (rh_2.fst.val.data.cell
  5).toList, E.sl 27 (rh_2.fst.val.data.cell 4).toList, E.sl 9 (rh_2.fst.val.data.cell 3).toList, E.int IntKind.i64 (rh_2.fst.val.data.cell 2).toInt, E.int IntKind.i64
  (rh_2.fst.val.data.cell 1).toInt, E.int IntKind.i64 (rh_2.fst.val.data.cell 0).toInt, E.bool false, E.str rh.fst.val.data.toStr].reverse).snd.length) * 120 ≤ 140737488355328)
  then bif (!((rh_2.snd.ob 0).cell 2).data.toInt == 0) == false then bif decide (0 ≤ ((rh_2.snd.ob 0).cell 1).data.toInt) then bif !(decide (((rh_2.snd.ob 0).cell 1).data.toInt <
  (↑((rh_2.snd.ob 0).cell 0).data.toStr.length : Int)) && pk ((rh_2.snd.ob 0).cell 0).data.toStr ((rh_2.snd.ob 0).cell 1).data.toInt == 44) then some (Out.mk (Ex.exit 0) (([AV.ptr
  0 0, uu, uu, uu, AV.ptr 1 0, uu, AV.ptr 2 0] ++ List.replicate 67 uu)) ([Ob.box [(str ((rh_2.snd.ob 0).cell 0).data.toStr), AV.e (E.int
  IntKind.i64 ((rh_2.snd.ob 0).cell 1).data.toInt), (num ((rh_2.snd.ob 0).cell 2).data.toInt), (num ((rh_2.snd.ob 0).cell 3).data.toInt)],
  Ob.box [(num t4_0), (num t4_1), (num t4_2), AV.own 3 9 t4_3, AV.own 4 27 t4_4, AV.own 5 81 (t4_5 ++ (81, elems PP
  81 8 1 [E.sl 81 (rh_2.fst.val.data.cell 5).toList, E.sl 27 (rh_2.fst.val.data.cell 4).toList, E.sl 9 (rh_2.fst.val.data.cell 3).toList, E.int IntKind.i64 (rh_2.fst.val.data.cell
  2).toInt, E.int IntKind.i64 (rh_2.fst.val.data.cell 1).toInt, E.int IntKind.i64 (rh_2.fst.val.data.cell 0).toInt, E.bool false, E.str rh.fst.val.data.toStr].reverse).snd)],
  Ob.box [(num t6_0), (num t6_1), (num t6_2), AV.own 6 9 t6_3, AV.own 7 27 t6_4, AV.own 8 81 t6_5], Ob.vec 9 t4_3.length,
  Ob.vec 27 t4_4.length, Ob.vec 81 (t4_5 ++ (81, elems PP 81 8 1 [E.sl 81 (rh_2.fst.val.data.cell 5).toList, E.sl 27 (rh_2.fst.val.data.cell 4).toList, E.sl 9
  (rh_2.fst.val.data.cell 3).toList, E.int IntKind.i64 (rh_2.fst.val.data.cell 2).toInt, E.int IntKind.i64 (rh_2.fst.val.data.cell 1).toInt, E.int IntKind.i64
  (rh_2.fst.val.data.cell 0).toInt, E.bool false, E.str rh.fst.val.data.toStr].reverse).snd).length, Ob.vec 9 t6_3.length, Ob.vec 27 t6_4.length, Ob.vec 81 t6_5.length]) ([])) else
  (run none 91 [AV.ptr 0 0, (str [44, 32])] [Ob.box [(str ((rh_2.snd.ob 0).cell 0).data.toStr), (num ((rh_2.snd.ob 0).cell 1).data.toInt), AV.e
  (E.int IntKind.i64 ((rh_2.snd.ob 0).cell 2).data.toInt), (num ((rh_2.snd.ob 0).cell 3).data.toInt)]]).bind fun rh_3 => bif okHeap [Ob.box [AV.e (E.str
  ((rh_2.snd.ob 0).cell 0).data.toStr), (num ((rh_2.snd.ob 0).cell 1).data.toInt), (num ((rh_2.snd.ob 0).cell 2).data.toInt), AV.e (E.int
  IntKind.i64 ((rh_2.snd.ob 0).cell 3).data.toInt)]] rh_3.2 then bif okRes PP 0 rh_3.fst then (loop 95 1 lc_95_5 ([AV.ptr 0 0, uu, (num t2),
  uu, AV.ptr 1 0, uu, AV.ptr 2 0] ++ List.replicate 67 uu) [Ob.box [(str ((rh_3.snd.ob 0).cell 0).data.toStr), (num ((rh_3.snd.ob
  0).cell 1).data.toInt), (num ((rh_3.snd.ob 0).cell 2).data.toInt), (num ((rh_3.snd.ob 0).cell 3).data.toInt)], Ob.box [AV.e (E.int
  IntKind.i64 t4_0), (num t4_1), (num t4_2), AV.own 3 9 t4_3, AV.own 4 27 t4_4, AV.own 5 81 (t4_5 ++ (81, elems PP 81 8 1 [E.sl 81
  (rh_2.fst.val.data.cell 5).toList, E.sl 27 (rh_2.fst.val.data.cell 4).toList, E.sl 9 (rh_2.fst.val.data.cell 3).toList, E.int IntKind.i64 (rh_2.fst.val.data.cell 2).toInt, E.int
  IntKind.i64 (rh_2.fst.val.data.cell 1).toInt, E.int IntKind.i64 (rh_2.fst.val.data.cell 0).toInt, E.bool false, E.str rh.fst.val.data.toStr].reverse).snd)], Ob.box [AV.e (E.int
  IntKind.i64 t6_0), (num t6_1), (num t6_2), AV.own 6 9 t6_3, AV.own 7 27 t6_4, AV.own 8 81 t6_5], Ob.vec 9 t4_3.length, Ob.vec 27
  t4_4.length, Ob.vec 81 (t4_5 ++ (81, elems PP 81 8 1 [E.sl 81 (rh_2.fst.val.data.cell 5).toList, E.sl 27 (rh_2.fst.val.data.cell 4).toList, E.sl 9 (rh_2.fst.val.data.cell
  3).toList, E.int IntKind.i64 (rh_2.fst.val.data.cell 2).toInt, E.int IntKind.i64 (rh_2.fst.val.data.cell 1).toInt, E.int IntKind.i64 (rh_2.fst.val.data.cell 0).toInt, E.bool
  false, E.str rh.fst.val.data.toStr].reverse).snd).length, Ob.vec 9 t6_3.length, Ob.vec 27 t6_4.length, Ob.vec 81 t6_5.length]).bind fun o => some o else none else none else none
  else some (Out.mk (Ex.exit 0) (([AV.ptr 0 0, uu, uu, uu, AV.ptr 1 0, uu, AV.ptr 2 0] ++ List.replicate 67 uu)) ([Ob.box [(str ((rh_2.snd.ob
  0).cell 0).data.toStr), (num ((rh_2.snd.ob 0).cell 1).data.toInt), (num ((rh_2.snd.ob 0).cell 2).data.toInt), AV.e (E.int IntKind.i64
  ((rh_2.snd.ob 0).cell 3).data.toInt)], Ob.box [(num t4_0), (num t4_1), (num t4_2), AV.own 3 9 t4_3, AV.own 4 27 t4_4,
  AV.own 5 81 (t4_5 ++ (81, elems PP 81 8 1 [E.sl 81 (rh_2.fst.val.data.cell 5).toList, E.sl 27 (rh_2.fst.val.data.cell 4).toList, E.sl 9 (rh_2.fst.val.data.cell 3).toList,
  E.int IntKind.i64 (rh_2.fst.val.data.cell 2).toInt, E.int IntKind.i64 (rh_2.fst.val.data.cell 1).toInt, E.int IntKind.i64 (rh_2.fst.val.data.cell 0).toInt, E.bool false, E.str
  rh.fst.val.data.toStr].reverse).snd)], Ob.box [(num t6_0), (num t6_1), (num t6_2), AV.own 6 9 t6_3, AV.own 7 27 t6_4,
  AV.own 8 81 t6_5], Ob.vec 9 t4_3.length, Ob.vec 27 t4_4.length, Ob.vec 81 (t4_5 ++ (81, elems PP 81 8 1 [E.sl 81 (rh_2.fst.val.data.cell 5).toList, E.sl 27
  (rh_2.fst.val.data.cell 4).toList, E.sl 9 (rh_2.fst.val.data.cell 3).toList, E.int IntKind.i64 (rh_2.fst.val.data.cell 2).toInt, E.int IntKind.i64 (rh_2.fst.val.data.cell
  1).toInt, E.int IntKind.i64 (rh_2.fst.val.data.cell 0).toInt, E.bool false, E.str rh.fst.val.data.toStr].reverse).snd).length, Ob.vec 9 t6_3.length, Ob.vec 27 t6_4.length, Ob.vec
  81 t6_5.length]) ([])) else none else none else none else none else none else none else none else some (Out.mk (Ex.exit 0) (([AV.ptr 0 0, uu, uu, uu, AV.ptr 1
  0, uu, AV.ptr 2 0] ++ List.replicate 67 uu)) ([Ob.box [(str p0_0), (num p0_1), (num p0_2), AV.e (E.int IntKind.i64
  p0_3)], Ob.box [(num t4_0), (num t4_1), (num t4_2), AV.own 3 9 t4_3, AV.own 4 27 t4_4, AV.own 5 81 t4_5], Ob.box [AV.e
  (E.int IntKind.i64 t6_0), (num t6_1), (num t6_2), AV.own 6 9 t6_3, AV.own 7 27 t6_4, AV.own 8 81 t6_5], Ob.vec 9 t4_3.length, Ob.vec 27
  t4_4.length, Ob.vec 81 t4_5.length, Ob.vec 9 t6_3.length, Ob.vec 27 t6_4.length, Ob.vec 81 t6_5.length]) ([])) := by kernel_rfl
theorem eq_rlist (run : RunF) (loop : LoopF) (p0_0 : List UInt8) (p0_1 : Int) (p0_2 : Int) (p0_3 : Int) (a1_0 : Int) (a1_1 : Int) (a1_2 : Int) (a1_3 : List E) (a1_4 : List E) (a1_5
  : List E) (a2 : Int) : bodyRun PP HH run loop none 94 [.ptr 0 0, .agg [.e (.int .i64 a1_0), .e (.int .i64 a1_1), .e (.int .i64 a1_2), .e (.sl 9 a1_3), .e (.sl 27
  a1_4), .e (.sl 81 a1_5)], .e (.int .i64 a2)] [.box [.e (.str p0_0), .e (.int .i64 p0_1), .e (.int .i64 p0_2), .e (.int .i64 p0_3)]] = (run none 91 [AV.ptr 0 0, (str [108,
  105, 115, 116, 32])] [Ob.box [(str p0_0), (num p0_1), (num p0_2), (num p0_3)]]).bind fun rh => bif okHeap [Ob.box
  [(str p0_0), (num p0_1), (num p0_2), (num p0_3)]] rh.2 then bif okRes PP 0 rh.fst then bif ((rh.snd.ob
  0).cell 2).data.toInt == 0 then (run none 139 [AV.ptr 0 0] [Ob.box [(str ((rh.snd.ob 0).cell 0).data.toStr), (num ((rh.snd.ob 0).cell 1).data.toInt),
  (num ((rh.snd.ob 0).cell 2).data.toInt), (num ((rh.snd.ob 0).cell 3).data.toInt)]]).bind fun rh_1 => bif okHeap [Ob.box [AV.e (E.str
  ((rh.snd.ob 0).cell 0).data.toStr), (num ((rh.snd.ob 0).cell 1).data.toInt), (num ((rh.snd.ob 0).cell 2).data.toInt), AV.e (E.int
  IntKind.i64 ((rh.snd.ob 0).cell 3).data.toInt)]] rh_1.2 then bif okRes PP 154 rh_1.fst then bif ((rh_1.snd.ob 0).cell 2).data.toInt == 0 then (run none 91 [AV.ptr 0 0,
  (str [32, 111, 102, 32])] [Ob.box [(str ((rh_1.snd.ob 0).cell 0).data.toStr), (num ((rh_1.snd.ob 0).cell 1).data.toInt), AV.e (E.int IntKind.i64
  ((rh_1.snd.ob 0).cell 2).data.toInt), (num ((rh_1.snd.ob 0).cell 3).data.toInt)]]).bind fun rh => bif okHeap [Ob.box [(str ((rh_1.snd.ob 0).cell
  0).data.toStr), (num ((rh_1.snd.ob 0).cell 1).data.toInt), (num ((rh_1.snd.ob 0).cell 2).data.toInt), (num ((rh_1.snd.ob
  0).cell 3).data.toInt)]] rh.2 then bif okRes PP 0 rh.fst then bif ((rh.snd.ob 0).cell 2).data.toInt == 0 then (run none 45 [AV.ptr 0 0, AV.e (E.int IntKind.i64
  (IntKind.i64.wrap (a2 + 1)))] [Ob.box [(str ((rh.snd.ob 0).cell 0).data.toStr), (num ((rh.snd.ob 0).cell 1).data.toInt), AV.e (E.int IntKind.i64
  ((rh.snd.ob 0).cell 2).data.toInt), (num ((rh.snd.ob 0).cell 3).data.toInt)]]).bind fun rh_2 => bif okHeap [Ob.box [(str ((rh.snd.ob 0).cell
  0).data.toStr), (num ((rh.snd.ob 0).cell 1).data.toInt), (num ((rh.snd.ob 0).cell 2).data.toInt), (num ((rh.snd.ob
  0).cell 3).data.toInt)]] rh_2.2 then bif okRes PP 27 rh_2.fst then some (Res.ret (AV.agg [(num a1_0), (num (rh_1.fst.val.comp
  0).data.toInt), (num (rh_1.fst.val.comp 1).data.toInt), AV.e (E.sl 9 a1_3), AV.e (E.sl 27 (elems PP 27 6 1 [E.sl 81 (rh_2.fst.val.data.cell 5).toList,
  E.sl 27 (rh_2.fst.val.data.cell 4).toList, E.sl 9 (rh_2.fst.val.data.cell 3).toList, E.int IntKind.i64 (rh_2.fst.val.data.cell 2).toInt, E.int IntKind.i64 (rh_2.fst.val.data.cell
  1).toInt, E.int IntKind.i64 (rh_2.fst.val.data.cell 0).toInt].reverse)), AV.e (E.sl 81 a1_5)]), [Ob.box [(str ((rh_2.snd.ob 0).cell 0).data.toStr), AV.e (E.int IntKind.i64
  ((rh_2.snd.ob 0).cell 1).data.toInt), (num ((rh_2.snd.ob 0).cell 2).data.toInt), (num ((rh_2.snd.ob 0).cell 3).data.toInt)]]) else none else
  none else some (Res.ret (AV.agg [(num a1_0), (num (rh_1.fst.val.comp 0).data.toInt), (num (rh_1.fst.val.comp
  1).data.toInt), AV.e (E.sl 9 a1_3), AV.e (E.sl 27 a1_4), AV.e (E.sl 81 a1_5)]), [Ob.box [(str ((rh.snd.ob 0).cell 0).data.toStr), (num ((rh.snd.ob
  0).cell 1).data.toInt), (num ((rh.snd.ob 0).cell 2).data.toInt), (num ((rh.snd.ob 0).cell 3).data.toInt)]]) else none else none else bif
  ((rh_1.snd.ob 0).cell 2).data.toInt == 0 then (run none 45 [AV.ptr 0 0, (num (IntKind.i64.wrap (a2 + 1)))] [Ob.box [(str ((rh_1.snd.ob 0).cell
  0).data.toStr), (num ((rh_1.snd.ob 0).cell 1).data.toInt), (num ((rh_1.snd.ob 0).cell 2).data.toInt), (num ((rh_1.snd.ob
  0).cell 3).data.toInt)]]).bind fun rh => bif okHeap [Ob.box [(str ((rh_1.snd.ob 0).cell 0).data.toStr), (num ((rh_1.snd.ob 0).cell 1).data.toInt), AV.e
  (E.int IntKind.i64 ((rh_1.snd.ob 0).cell 2).data.toInt), (num ((rh_1.snd.ob 0).cell 3).data.toInt)]] rh.2 then bif okRes PP 27 rh.fst then some (Res.ret
  (AV.agg [(num a1_0), (num (rh_1.fst.val.comp 0).data.toInt), (num (rh_1.fst.val.comp 1).data.toInt), AV.e (E.sl 9 a1_3),
  AV.e (E.sl 27 (elems PP 27 6 1 [E.sl 81 (rh.fst.val.data.cell 5).toList, E.sl 27 (rh.fst.val.data.cell 4).toList, E.sl 9 (rh.fst.val.data.cell 3).toList, E.int IntKind.i64
  (rh.fst.val.data.cell 2).toInt, E.int IntKind.i64 (rh.fst.val.data.cell 1).toInt, E.int IntKind.i64 (rh.fst.val.data.cell 0).toInt].reverse)), AV.e (E.sl 81 a1_5)]), [Ob.box
  [(str ((rh.snd.ob 0).cell 0).data.toStr), (num ((rh.snd.ob 0).cell 1).data.toInt), (num ((rh.snd.ob 0).cell 2).data.toInt), AV.e
  (E.int IntKind.i64 ((rh.snd.ob 0).cell 3).data.toInt)]]) else none else none else some (Res.ret (AV.agg [(num a1_0), (num (rh_1.fst.val.comp
  0).data.toInt), (num (rh_1.fst.val.comp 1).data.toInt), AV.e (E.sl 9 a1_3), AV.e (E.sl 27 a1_4), AV.e (E.sl 81 a1_5)]), [Ob.box [(str ((rh_1.snd.ob
  0).cell 0).data.toStr), (num ((rh_1.snd.ob 0).cell 1).data.toInt), (num ((rh_1.snd.ob 0).cell 2).data.toInt), AV.e (E.int IntKind.i64
  ((rh_1.snd.ob 0).cell 3).data.toInt)]]) else none else none else bif ((rh.snd.ob 0).cell 2).data.toInt == 0 then (run none 91 [AV.ptr 0 0, (str [32, 111, 102, 32])]
  [Ob.box [(str ((rh.snd.ob 0).cell 0).data.toStr), (num ((rh.snd.ob 0).cell 1).data.toInt), (num ((rh.snd.ob 0).cell 2).data.toInt),
  (num ((rh.snd.ob 0).cell 3).data.toInt)]]).bind fun rh_1 => bif okHeap [Ob.box [(str ((rh.snd.ob 0).cell 0).data.toStr), AV.e (E.int IntKind.i64
  ((rh.snd.ob 0).cell 1).data.toInt), (num ((rh.snd.ob 0).cell 2).data.toInt), (num ((rh.snd.ob 0).cell 3).data.toInt)]] rh_1.2 then bif okRes
  PP 0 rh_1.fst then bif ((rh_1.snd.ob 0).cell 2).data.toInt == 0 then (run none 45 [AV.ptr 0 0, (num (IntKind.i64.wrap (a2 + 1)))] [Ob.box [AV.e (E.str
  ((rh_1.snd.ob 0).cell 0).data.toStr), (num ((rh_1.snd.ob 0).cell 1).data.toInt), (num ((rh_1.snd.ob 0).cell 2).data.toInt), AV.e (E.int
  IntKind.i64 ((rh_1.snd.ob 0).cell 3).data.toInt)]]).bind fun rh => bif okHeap [Ob.box [(str ((rh_1.snd.ob 0).cell 0).data.toStr), (num ((rh_1.snd.ob
  0).cell 1).data.toInt), (num ((rh_1.snd.ob 0).cell 2).data.toInt), (num ((rh_1.snd.ob 0).cell 3).data.toInt)]] rh.2 then bif okRes PP
  27 rh.fst then some (Res.ret (AV.agg [(num a1_0), (num a1_1), (num a1_2), AV.e (E.sl 9 a1_3), AV.e (E.sl 27 (elems
  PP 27 6 1 [E.sl 81 (rh.fst.val.data.cell 5).toList, E.sl 27 (rh.fst.val.data.cell 4).toList, E.sl 9 (rh.fst.val.data.cell 3).toList, E.int IntKind.i64
  (rh.fst.val.data.cell 2).toInt, E.int IntKind.i64 (rh.fst.val.data.cell 1).toInt, E.int IntKind.i64 (rh.fst.val.data.cell 0).toInt].reverse)), AV.e (E.sl 81 a1_5)]), [Ob.box
  [(str ((rh.snd.ob 0).cell 0).data.toStr), (num ((rh.snd.ob 0).cell 1).data.toInt), (num ((rh.snd.ob 0).cell 2).data.toInt), AV.e
  (E.int IntKind.i64 ((rh.snd.ob 0).cell 3).data.toInt)]]) else none else none else some (Res.ret (AV.agg [(num a1_0), (num a1_1), AV.e (E.int
  IntKind.i64 a1_2), AV.e (E.sl 9 a1_3), AV.e (E.sl 27 a1_4), AV.e (E.sl 81 a1_5)]), [Ob.box [(str ((rh_1.snd.ob 0).cell 0).data.toStr), AV.e (E.int IntKind.i64
  ((rh_1.snd.ob 0).cell 1).data.toInt), (num ((rh_1.snd.ob 0).cell 2).data.toInt), (num ((rh_1.snd.ob 0).cell 3).data.toInt)]]) else none else
  none else bif ((rh.snd.ob 0).cell 2).data.toInt == 0 then (run none 45 [AV.ptr 0 0, (num (IntKind.i64.wrap (a2 + 1)))] [Ob.box [(str ((rh.snd.ob 0).cell
  0).data.toStr), (num ((rh.snd.ob 0).cell 1).data.toInt), (num ((rh.snd.ob 0).cell 2).data.toInt), (num ((rh.snd.ob
  0).cell 3).data.toInt)]]).bind fun rh_1 => bif okHeap [Ob.box [(str ((rh.snd.ob 0).cell 0).data.toStr), (num ((rh.snd.ob 0).cell 1).data.toInt), AV.e
  (E.int IntKind.i64 ((rh.snd.ob 0).cell 2).data.toInt), (num ((rh.snd.ob 0).cell 3).data.toInt)]] rh_1.2 then bif okRes PP 27 rh_1.fst then some (Res.ret
  (AV.agg [(num a1_0), (num a1_1), (num a1_2), AV.e (E.sl 9 a1_3), AV.e (E.sl 27 (elems PP 27 6 1 [E.sl 81
  (rh_1.fst.val.data.cell 5).toList, E.sl 27 (rh_1.fst.val.data.cell 4).toList, E.sl 9 (rh_1.fst.val.data.cell 3).toList, E.int IntKind.i64 (rh_1.fst.val.data.cell 2).toInt, E.int
  IntKind.i64 (rh_1.fst.val.data.cell 1).toInt, E.int IntKind.i64 (rh_1.fst.val.data.cell 0).toInt].reverse)), AV.e (E.sl 81 a1_5)]), [Ob.box [(str ((rh_1.snd.ob 0).cell
  0).data.toStr), (num ((rh_1.snd.ob 0).cell 1).data.toInt), (num ((rh_1.snd.ob 0).cell 2).data.toInt), (num ((rh_1.snd.ob
  0).cell 3).data.toInt)]]) else none else none else some (Res.ret (AV.agg [(num a1_0), (num a1_1), (num a1_2), AV.e (E.sl
  9 a1_3), AV.e (E.sl 27 a1_4), AV.e (E.sl 81 a1_5)]), [Ob.box [(str ((rh.snd.ob 0).cell 0).data.toStr), (num ((rh.snd.ob 0).cell 1).data.toInt), AV.e
  (E.int IntKind.i64 ((rh.snd.ob 0).cell 2).data.toInt), (num ((rh.snd.ob 0).cell 3).data.toInt)]]) else none else none := by kernel_rfl
theorem eq_renum (run : RunF) (loop : LoopF) (p0_0 : List UInt8) (p0_1 : Int) (p0_2 : Int) (p0_3 : Int) (a1_0 : Int) (a1_1 : Int) (a1_2 : Int) : bodyRun PP HH run
  loop none 93 [.ptr 0 0, .agg [.e (.int .i64 a1_0), .e (.int .i64 a1_1), .e (.int .i64 a1_2), .nils 9, .nils 27, .nils 81]] [.box [.e (.str p0_0), .e (.int .i64 p0_1), .e (.int
  .i64 p0_2), .e (.int .i64 p0_3)]] = (run none 91 [AV.ptr 0 0, (str [101, 110, 117, 109, 40])] [Ob.box [(str p0_0), (num p0_1), AV.e (E.int
  IntKind.i64 p0_2), (num p0_3)]]).bind fun rh => bif okHeap [Ob.box [(str p0_0), (num p0_1), (num p0_2), AV.e
  (E.int IntKind.i64 p0_3)]] rh.2 then bif okRes PP 0 rh.fst then (loop 93 1 lc_93_2 ([AV.ptr 0 0, uu, uu, AV.ptr 1 0, AV.ptr 2 0] ++ List.replicate 29 uu)
  [Ob.box [(str ((rh.snd.ob 0).cell 0).data.toStr), (num ((rh.snd.ob 0).cell 1).data.toInt), (num ((rh.snd.ob 0).cell 2).data.toInt),
  (num ((rh.snd.ob 0).cell 3).data.toInt)], Ob.box [(num a1_0), (num a1_1), (num a1_2), AV.own 3 9 [],
  AV.own 4 27 [], AV.own 5 81 []], Ob.box [(num 0), (num 0), (num 0), AV.own 6 9 [], AV.own 7 27 [], AV.own 8 81 []],
  Ob.vec 9 0, Ob.vec 27 0, Ob.vec 81 0, Ob.vec 9 0, Ob.vec 27 0, Ob.vec 81 0]).bind fun o => bif o.ex.isWay (Way.exit 0) then bif okFr ([AV.ptr 0 0, uu, uu, AV.ptr 1 0,
  AV.ptr 2 0] ++ List.replicate 29 uu) o.2 && okHeap [Ob.box [(str []), (num 0), (num 0), (num 0)], Ob.box
  [(num 0), (num 0), (num 0), AV.own 3 9 [], AV.own 4 27 [], AV.own 5 81 []], Ob.box [(num 0), AV.e
  (E.int IntKind.i64 0), (num 0), AV.own 6 9 [], AV.own 7 27 [], AV.own 8 81 []], Ob.vec 9 0, Ob.vec 27 0, Ob.vec 81 0, Ob.vec 9 0, Ob.vec 27 0, Ob.vec 81 0] o.3
  then (run none 91 [AV.ptr 0 0, (str [41])] [Ob.box [(str ((o.hp.ob 0).cell 0).data.toStr), (num ((o.hp.ob 0).cell 1).data.toInt), AV.e (E.int
  IntKind.i64 ((o.hp.ob 0).cell 2).data.toInt), (num ((o.hp.ob 0).cell 3).data.toInt)]]).bind fun rh => bif okHeap [Ob.box [(str ((o.hp.ob 0).cell
  0).data.toStr), (num ((o.hp.ob 0).cell 1).data.toInt), (num ((o.hp.ob 0).cell 2).data.toInt), (num ((o.hp.ob 0).cell
  3).data.toInt)]] rh.2 then bif okRes PP 0 rh.fst then some (Res.ret (AV.agg [(num ((o.hp.ob 1).cell 0).data.toInt), (num ((o.hp.ob
  1).cell 1).data.toInt), (num ((o.hp.ob 1).cell 2).data.toInt), AV.e (E.sl 9 ((o.hp.ob 1).cell 3).data.toList), AV.e (E.sl 27 ((o.hp.ob 1).cell 4).data.toList),
  AV.e (E.sl 81 ((o.hp.ob 1).cell 5).data.toList)]), [Ob.box [(str ((rh.snd.ob 0).cell 0).data.toStr), (num ((rh.snd.ob 0).cell 1).data.toInt), AV.e
  (E.int IntKind.i64 ((rh.snd.ob 0).cell 2).data.toInt), (num ((rh.snd.ob 0).cell 3).data.toInt)]]) else none else none else none else none else none else none
  := by kernel_rfl
theorem eq_renumL2 (run : RunF) (loop : LoopF) (p0_0 : List UInt8) (p0_1 : Int) (p0_2 : Int) (p0_3 : Int) (t3_0 : Int) (t3_1 : Int) (t3_2 : Int) (t3_3 : List E) (t3_4 : List E)
  (t3_5 : List E) (t4_0 : Int) (t4_1 : Int) (t4_2 : Int) (t4_3 : List E) (t4_4 : List E) (t4_5 : List E) : bodyLoop PP HH run loop 93 1 lc_93_2 ((((List.replicate
  34 uu).set 0 (.ptr 0 0)).set 3 (.ptr 1 0)).set 4 (.ptr 2 0)) [.box [.e (.str p0_0), .e (.int .i64 p0_1), .e (.int .i64 p0_2), .e (.int .i64 p0_3)], .box [.e (.int .i64
  t3_0), .e (.int .i64 t3_1), .e (.int .i64 t3_2), .own 3 9 t3_3, .own 4 27 t3_4, .own 5 81 t3_5], .box [.e (.int .i64 t4_0), .e (.int .i64 t4_1), .e (.int .i64 t4_2), .own 6 9
  t4_3, .own 7 27 t4_4, .own 8 81 t4_5], .vec 9 t3_3.length, .vec 27 t3_4.length, .vec 81 t3_5.length, .vec 9 t4_3.length, .vec 27 t4_4.length, .vec 81 t4_5.length] = bif p0_2 == 0
  then (run none 140 [AV.ptr 0 0] [Ob.box [(str p0_0), (num p0_1), (num p0_2), (num p0_3)]]).bind fun rh => bif
  okHeap [Ob.box [(str p0_0), (num p0_1), (num p0_2), (num p0_3)]] rh.2 then bif okRes PP 9 rh.fst then bif
  decide (t3_3.length = t3_3.length) && decide ((t3_3.length + (9, [E.str rh.fst.val.data.toStr]).snd.length) * 16 ≤ 140737488355328) then bif (!((rh.snd.ob 0).cell 2).data.toInt
  == 0) == false then bif decide (0 ≤ ((rh.snd.ob 0).cell 1).data.toInt) then bif !(decide (((rh.snd.ob 0).cell 1).data.toInt < (↑((rh.snd.ob 0).cell 0).data.toStr.length : Int))
  && pk ((rh.snd.ob 0).cell 0).data.toStr ((rh.snd.ob 0).cell 1).data.toInt == 124) then some (Out.mk (Ex.exit 0) (([AV.ptr 0 0, uu, uu, AV.ptr 1 0, AV.ptr 2 0] ++
  List.replicate 29 uu)) ([Ob.box [(str ((rh.snd.ob 0).cell 0).data.toStr), (num ((rh.snd.ob 0).cell 1).data.toInt), AV.e (E.int IntKind.i64
  ((rh.snd.ob 0).cell 2).data.toInt), (num ((rh.snd.ob 0).cell 3).data.toInt)], Ob.box [(num t3_0), (num t3_1), AV.e (E.int
  IntKind.i64 t3_2), AV.own 3 9 (t3_3 ++ (9, [E.str rh.fst.val.data.toStr]).snd), AV.own 4 27 t3_4, AV.own 5 81 t3_5], Ob.box [(num t4_0), AV.e (E.int
  IntKind.i64 t4_1), (num t4_2), AV.own 6 9 t4_3, AV.own 7 27 t4_4, AV.own 8 81 t4_5], Ob.vec 9 (t3_3 ++ (9, [E.str rh.fst.val.data.toStr]).snd).length, Ob.vec
  27 t3_4.length, Ob.vec 81 t3_5.length, Ob.vec 9 t4_3.length, Ob.vec 27 t4_4.length, Ob.vec 81 t4_5.length]) ([])) else (loop 93 1 lc_93_2 ([AV.ptr 0 0, uu, uu, AV.ptr
  1 0, AV.ptr 2 0] ++ List.replicate 29 uu) [Ob.box [(str ((rh.snd.ob 0).cell 0).data.toStr), (num (IntKind.i64.wrap (((rh.snd.ob 0).cell
  1).data.toInt + 1))), (num ((rh.snd.ob 0).cell 2).data.toInt), (num ((rh.snd.ob 0).cell 3).data.toInt)], Ob.box [AV.e (E.int IntKind.i64
  t3_0), (num t3_1), (num t3_2), AV.own 3 9 (t3_3 ++ (9, [E.str rh.fst.val.data.toStr]).snd), AV.own 4 27 t3_4, AV.own 5 81 t3_5], Ob.box
  [(num t4_0), (num t4_1), (num t4_2), AV.own 6 9 t4_3, AV.own 7 27 t4_4, AV.own 8 81 t4_5], Ob.vec 9 (t3_3 ++ (9, [E.str
  rh.fst.val.data.toStr]).snd).length, Ob.vec 27 t3_4.length, Ob.vec 81 t3_5.length, Ob.vec 9 t4_3.length, Ob.vec 27 t4_4.length, Ob.vec 81 t4_5.length]).bind fun o => some o else
  none else some (Out.mk (Ex.exit 0) (([AV.ptr 0 0, uu, uu, AV.ptr 1 0, AV.ptr 2 0] ++ List.replicate 29 uu)) ([Ob.box [(str ((rh.snd.ob 0).cell
  0).data.toStr), (num ((rh.snd.ob 0).cell 1).data.toInt), (num ((rh.snd.ob 0).cell 2).data.toInt), (num ((rh.snd.ob
  0).cell 3).data.toInt)], Ob.box [(num t3_0), (num t3_1), (num t3_2), AV.own 3 9 (t3_3 ++ (9, [E.str
  rh.fst.val.data.toStr]).snd), AV.own 4 27 t3_4, AV.own 5 81 t3_5], Ob.box [(num t4_0), (num t4_1), (num t4_2), AV.own 6 9
  t4_3, AV.own 7 27 t4_4, AV.own 8 81 t4_5], Ob.vec 9 (t3_3 ++ (9, [E.str rh.fst.val.data.toStr]).snd).length, Ob.vec 27 t3_4.length, Ob.vec 81 t3_5.length, Ob.vec 9 t4_3.length,
  Ob.vec 27 t4_4.length, Ob.vec 81 t4_5.length]) ([])) else none else none else none else some (Out.mk (Ex.exit 0) (([AV.ptr 0 0, uu, uu, AV.ptr 1 0, AV.ptr 2 0] ++
  List.replicate 29 uu)) ([Ob.box [(str p0_0), (num p0_1), (num p0_2), (num p0_3)], Ob.box [AV.e (E.int
  IntKind.i64 t3_0), (num t3_1), (num t3_2), AV.own 3 9 t3_3, AV.own 4 27 t3_4, AV.own 5 81 t3_5], Ob.box [(num t4_0), AV.e
  (E.int IntKind.i64 t4_1), (num t4_2), AV.own 6 9 t4_3, AV.own 7 27 t4_4, AV.own 8 81 t4_5], Ob.vec 9 t3_3.length, Ob.vec 27 t3_4.length, Ob.vec 81 t3_5.length,
  Ob.vec 9 t4_3.length, Ob.vec 27 t4_4.length, Ob.vec 81 t4_5.length]) ([])) := by kernel_rfl
theorem eq_rbounded (run : RunF) (loop : LoopF) (p0_0 : List UInt8) (p0_1 : Int) (p0_2 : Int) (p0_3 : Int) (a1_0 : Int) (a1_1 : Int) (a1_2 : Int) (a1_3 : List E) (a1_4 : List E)
  (a1_5 : List E) (a2 : Int) (a3 : Int) : bodyRun PP HH run loop none 92 [.ptr 0 0, .agg [.e (.int .i64 a1_0), .e (.int .i64 a1_1), .e (.int .i64 a1_2), .e (.sl 9
  a1_3), .e (.sl 27 a1_4), .e (.sl 81 a1_5)], .e (.int .i64 a2), .e (.int .i64 a3)] [.box [.e (.str p0_0), .e (.int .i64 p0_1), .e (.int .i64 p0_2), .e (.int .i64 p0_3)]] = bif
  (p0_2 == 0) == true then bif decide (0 ≤ p0_1) then bif decide (p0_1 < (↑p0_0.length : Int)) && pk p0_0 p0_1 == 32 then (run none 139 [AV.ptr 0 0] [Ob.box [(str p0_0),
  (num (IntKind.i64.wrap (p0_1 + 1))), (num p0_2), (num p0_3)]]).bind fun rh => bif okHeap [Ob.box [(str p0_0), AV.e
  (E.int IntKind.i64 (IntKind.i64.wrap (p0_1 + 1))), (num p0_2), (num p0_3)]] rh.2 then bif okRes PP 154 rh.fst then some (Res.ret
  (AV.agg [(num a1_0), (num (rh.fst.val.comp 0).data.toInt), (num (rh.fst.val.comp 1).data.toInt), AV.e (E.sl 9 a1_3), AV.e
  (E.sl 27 a1_4), AV.e (E.sl 81 a1_5)]), [Ob.box [(str ((rh.snd.ob 0).cell 0).data.toStr), (num ((rh.snd.ob 0).cell 1).data.toInt), AV.e (E.int
  IntKind.i64 ((rh.snd.ob 0).cell 2).data.toInt), (num ((rh.snd.ob 0).cell 3).data.toInt)]]) else none else none else some (Res.ret (AV.agg [AV.e (E.int
  IntKind.i64 a1_0), (num a2), (num a3), AV.e (E.sl 9 a1_3), AV.e (E.sl 27 a1_4), AV.e (E.sl 81 a1_5)]), [Ob.box [(str p0_0), AV.e
  (E.int IntKind.i64 p0_1), (num p0_2), (num p0_3)]]) else none else some (Res.ret (AV.agg [(num a1_0), AV.e (E.int
  IntKind.i64 a2), (num a3), AV.e (E.sl 9 a1_3), AV.e (E.sl 27 a1_4), AV.e (E.sl 81 a1_5)]), [Ob.box [(str p0_0), (num p0_1), AV.e
  (E.int IntKind.i64 p0_2), (num p0_3)]]) := by kernel_rfl
theorem eq_rpair (run : RunF) (loop : LoopF) (p0_0 : List UInt8) (p0_1 : Int) (p0_2 : Int) (p0_3 : Int) : bodyRun PP HH run loop none 139 [.ptr 0 0] [.box [.e
  (.str p0_0), .e (.int .i64 p0_1), .e (.int .i64 p0_2), .e (.int .i64 p0_3)]] = (run none 153 [AV.ptr 0 0] [Ob.box [(str p0_0), (num p0_1), AV.e (E.int
  IntKind.i64 p0_2), (num p0_3)]]).bind fun rh => bif okHeap [Ob.box [(str p0_0), (num p0_1), (num p0_2), AV.e
  (E.int IntKind.i64 p0_3)]] rh.2 then bif okRes PP 3 rh.fst then bif ((rh.snd.ob 0).cell 2).data.toInt == 0 then (run none 91 [AV.ptr 0 0, (str [46, 46])] [Ob.box
  [(str ((rh.snd.ob 0).cell 0).data.toStr), (num ((rh.snd.ob 0).cell 1).data.toInt), (num ((rh.snd.ob 0).cell 2).data.toInt), AV.e
  (E.int IntKind.i64 ((rh.snd.ob 0).cell 3).data.toInt)]]).bind fun rh_1 => bif okHeap [Ob.box [(str ((rh.snd.ob 0).cell 0).data.toStr), (num ((rh.snd.ob
  0).cell 1).data.toInt), (num ((rh.snd.ob 0).cell 2).data.toInt), (num ((rh.snd.ob 0).cell 3).data.toInt)]] rh_1.2 then bif okRes PP 0
  rh_1.fst then bif !((rh_1.snd.ob 0).cell 2).data.toInt == 0 then some (Res.ret (AV.tup [(num 0), (num 0)]), [Ob.box [AV.e (E.str
  ((rh_1.snd.ob 0).cell 0).data.toStr), (num ((rh_1.snd.ob 0).cell 1).data.toInt), (num ((rh_1.snd.ob 0).cell 2).data.toInt), AV.e (E.int
  IntKind.i64 ((rh_1.snd.ob 0).cell 3).data.toInt)]]) else (run none 153 [AV.ptr 0 0] [Ob.box [(str ((rh_1.snd.ob 0).cell 0).data.toStr), AV.e (E.int IntKind.i64
  ((rh_1.snd.ob 0).cell 1).data.toInt), (num ((rh_1.snd.ob 0).cell 2).data.toInt), (num ((rh_1.snd.ob 0).cell 3).data.toInt)]]).bind fun rh_2
  => bif okHeap [Ob.box [(str ((rh_1.snd.ob 0).cell 0).data.toStr), (num ((rh_1.snd.ob 0).cell 1).data.toInt), (num ((rh_1.snd.ob
  0).cell 2).data.toInt), (num ((rh_1.snd.ob 0).cell 3).data.toInt)]] rh_2.2 then bif okRes PP 3 rh_2.fst then some (Res.ret (AV.tup [AV.e (E.int
  IntKind.i64 rh.fst.val.data.toInt), (num rh_2.fst.val.data.toInt)]), [Ob.box [(str ((rh_2.snd.ob 0).cell 0).data.toStr), AV.e (E.int IntKind.i64
  ((rh_2.snd.ob 0).cell 1).data.toInt), (num ((rh_2.snd.ob 0).cell 2).data.toInt), (num ((rh_2.snd.ob 0).cell 3).data.toInt)]]) else none else
  none else none else none else bif !((rh.snd.ob 0).cell 2).data.toInt == 0 then some (Res.ret (AV.tup [(num 0), (num 0)]), [Ob.box [AV.e
  (E.str ((rh.snd.ob 0).cell 0).data.toStr), (num ((rh.snd.ob 0).cell 1).data.toInt), (num ((rh.snd.ob 0).cell 2).data.toInt), AV.e (E.int
  IntKind.i64 ((rh.snd.ob 0).cell 3).data.toInt)]]) else (run none 153 [AV.ptr 0 0] [Ob.box [(str ((rh.snd.ob 0).cell 0).data.toStr), (num ((rh.snd.ob
  0).cell 1).data.toInt), (num ((rh.snd.ob 0).cell 2).data.toInt), (num ((rh.snd.ob 0).cell 3).data.toInt)]]).bind fun rh_1 => bif okHeap
  [Ob.box [(str ((rh.snd.ob 0).cell 0).data.toStr), (num ((rh.snd.ob 0).cell 1).data.toInt), (num ((rh.snd.ob 0).cell 2).data.toInt),
  (num ((rh.snd.ob 0).cell 3).data.toInt)]] rh_1.2 then bif okRes PP 3 rh_1.fst then some (Res.ret (AV.tup [AV.e (E.int IntKind.i64
  rh.fst.val.data.toInt), (num rh_1.fst.val.data.toInt)]), [Ob.box [(str ((rh_1.snd.ob 0).cell 0).data.toStr), (num ((rh_1.snd.ob
  0).cell 1).data.toInt), (num ((rh_1.snd.ob 0).cell 2).data.toInt), (num ((rh_1.snd.ob 0).cell 3).data.toInt)]]) else none else none else
  none else none := by kernel_rfl

end Go.Proofs.YtghdhhmlmdohkaaGreatDoor
