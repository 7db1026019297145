/- The equations of functions, as a program of mine prints them. -/
import Derived.Test.YtghdhhmlmdohkaaGreatDoorBase
namespace Go.Proofs.YtghdhhmlmdohkaaGreatDoor
open Go Go.Den
set_option maxRecDepth 100000
set_option maxHeartbeats 0

theorem eq_RValue (run : RunF) (loop : LoopF) (a0 : List UInt8) : bodyRun PP HH run loop none 58 [.e (.str a0)] [] = bif decide (65536 < (↑a0.length : Int)) then
  some (Res.ret (AV.tup [AV.agg [(num 0), (num 0), (str []), AV.e (E.sl 9 []), AV.e (E.sl 39 [])], (num 0), AV.e
  (E.int IntKind.i64 5)]), []) else (run none 105 [AV.ptr 0 0, (num 1)] [Ob.box [(str a0), (num 0), (num 0), AV.e
  (E.int IntKind.i64 0)]]).bind fun rh => bif okHeap [Ob.box [(str a0), (num 0), (num 0), (num 0)]] rh.2 then bif
  okRes PP 39 rh.fst then bif (((rh.snd.ob 0).cell 2).data.toInt == 0) == true then bif decide (((rh.snd.ob 0).cell 1).data.toInt < (↑a0.length : Int)) then bif !(bif
  ((rh.snd.ob 0).cell 2).data.toInt == 0 then 2 else ((rh.snd.ob 0).cell 2).data.toInt) == 0 then some (Res.ret (AV.tup [AV.agg [(num 0), AV.e (E.int IntKind.i64
  0), (str []), AV.e (E.sl 9 []), AV.e (E.sl 39 [])], (num (bif ((rh.snd.ob 0).cell 2).data.toInt == 0 then ((rh.snd.ob 0).cell 1).data.toInt else
  ((rh.snd.ob 0).cell 3).data.toInt)), (num (bif ((rh.snd.ob 0).cell 2).data.toInt == 0 then 2 else ((rh.snd.ob 0).cell 2).data.toInt))]), []) else some (Res.ret
  (AV.tup [AV.agg [(num (rh.fst.val.data.cell 0).toInt), (num (rh.fst.val.data.cell 1).toInt), (str (rh.fst.val.data.cell 2).toStr),
  AV.e (E.sl 9 (rh.fst.val.data.cell 3).toList), AV.e (E.sl 39 (rh.fst.val.data.cell 4).toList)], (num 0), (num 0)]), []) else bif
  !((rh.snd.ob 0).cell 2).data.toInt == 0 then some (Res.ret (AV.tup [AV.agg [(num 0), (num 0), (str []), AV.e (E.sl 9 []), AV.e (E.sl
  39 [])], (num ((rh.snd.ob 0).cell 3).data.toInt), (num ((rh.snd.ob 0).cell 2).data.toInt)]), []) else some (Res.ret (AV.tup [AV.agg [AV.e
  (E.int IntKind.i64 (rh.fst.val.data.cell 0).toInt), (num (rh.fst.val.data.cell 1).toInt), (str (rh.fst.val.data.cell 2).toStr), AV.e (E.sl 9
  (rh.fst.val.data.cell 3).toList), AV.e (E.sl 39 (rh.fst.val.data.cell 4).toList)], (num 0), (num 0)]), []) else bif !((rh.snd.ob 0).cell
  2).data.toInt == 0 then some (Res.ret (AV.tup [AV.agg [(num 0), (num 0), (str []), AV.e (E.sl 9 []), AV.e (E.sl 39 [])], AV.e (E.int
  IntKind.i64 ((rh.snd.ob 0).cell 3).data.toInt), (num ((rh.snd.ob 0).cell 2).data.toInt)]), []) else some (Res.ret (AV.tup [AV.agg [AV.e (E.int IntKind.i64
  (rh.fst.val.data.cell 0).toInt), (num (rh.fst.val.data.cell 1).toInt), (str (rh.fst.val.data.cell 2).toStr), AV.e (E.sl 9 (rh.fst.val.data.cell
  3).toList), AV.e (E.sl 39 (rh.fst.val.data.cell 4).toList)], (num 0), (num 0)]), []) else none else none := by kernel_rfl
theorem eq_rvalue (run : RunF) (loop : LoopF) (p0_0 : List UInt8) (p0_1 : Int) (p0_2 : Int) (p0_3 : Int) (a1 : Int) : bodyRun PP HH run loop none 105 [.ptr 0 0, .e
  (.int .i64 a1)] [.box [.e (.str p0_0), .e (.int .i64 p0_1), .e (.int .i64 p0_2), .e (.int .i64 p0_3)]] = bif decide (6 < a1) then some (Res.ret (AV.agg [AV.e (E.int IntKind.i64
  0), (num 0), (str []), AV.e (E.sl 9 []), AV.e (E.sl 39 [])]), [Ob.box [(str p0_0), (num p0_1), (num (bif
  p0_2 == 0 then 27 else p0_2)), (num (bif p0_2 == 0 then p0_1 else p0_3))]]) else bif decide (0 ≤ p0_1) then bif decide (p0_1 < (↑p0_0.length : Int)) && pk p0_0
  p0_1 == 116 then (run none 91 [AV.ptr 0 0, (str [116, 114, 117, 101])] [Ob.box [(str p0_0), (num p0_1), (num p0_2), AV.e
  (E.int IntKind.i64 p0_3)]]).bind fun rh => bif okHeap [Ob.box [(str p0_0), (num p0_1), (num p0_2), (num p0_3)]]
  rh.2 then bif okRes PP 0 rh.fst then some (Res.ret (AV.agg [(num 3), (num 1), (str []), AV.e (E.sl 9 []), AV.e (E.sl 39 [])]),
  [Ob.box [(str ((rh.snd.ob 0).cell 0).data.toStr), (num ((rh.snd.ob 0).cell 1).data.toInt), (num ((rh.snd.ob 0).cell 2).data.toInt),
  (num ((rh.snd.ob 0).cell 3).data.toInt)]]) else none else none else bif decide (0 ≤ p0_1) then bif decide (p0_1 < (↑p0_0.length : Int)) && pk p0_0 p0_1 == 102
  then (run none 91 [AV.ptr 0 0, (str [102, 97, 108, 115, 101])] [Ob.box [(str p0_0), (num p0_1), (num p0_2), AV.e (E.int
  IntKind.i64 p0_3)]]).bind fun rh => bif okHeap [Ob.box [(str p0_0), (num p0_1), (num p0_2), (num p0_3)]] rh.2 then
  bif okRes PP 0 rh.fst then some (Res.ret (AV.agg [(num 3), (num 0), (str []), AV.e (E.sl 9 []), AV.e (E.sl 39 [])]), [Ob.box
  [(str ((rh.snd.ob 0).cell 0).data.toStr), (num ((rh.snd.ob 0).cell 1).data.toInt), (num ((rh.snd.ob 0).cell 2).data.toInt), AV.e
  (E.int IntKind.i64 ((rh.snd.ob 0).cell 3).data.toInt)]]) else none else none else bif decide (0 ≤ p0_1) then bif decide (p0_1 < (↑p0_0.length : Int)) && pk p0_0 p0_1 == 34 then
  (run none 149 [AV.ptr 0 0] [Ob.box [(str p0_0), (num p0_1), (num p0_2), (num p0_3)]]).bind fun rh => bif okHeap
  [Ob.box [(str p0_0), (num p0_1), (num p0_2), (num p0_3)]] rh.2 then bif okRes PP 9 rh.fst then some
  (Res.ret (AV.agg [(num 2), (num 0), (str rh.fst.val.data.toStr), AV.e (E.sl 9 []), AV.e (E.sl 39 [])]), [Ob.box [AV.e (E.str
  ((rh.snd.ob 0).cell 0).data.toStr), (num ((rh.snd.ob 0).cell 1).data.toInt), (num ((rh.snd.ob 0).cell 2).data.toInt), AV.e (E.int
  IntKind.i64 ((rh.snd.ob 0).cell 3).data.toInt)]]) else none else none else bif decide (0 ≤ p0_1) then bif decide (p0_1 < (↑p0_0.length : Int)) && pk p0_0 p0_1 == 91 then (run
  none 150 [AV.ptr 0 0, (num a1)] [Ob.box [(str p0_0), (num p0_1), (num p0_2), (num p0_3)]]).bind
  fun rh => bif okHeap [Ob.box [(str p0_0), (num p0_1), (num p0_2), (num p0_3)]] rh.2 then bif okRes PP 39
  rh.fst then some (Res.ret (AV.agg [(num (rh.fst.val.data.cell 0).toInt), (num (rh.fst.val.data.cell 1).toInt), AV.e (E.str
  (rh.fst.val.data.cell 2).toStr), AV.e (E.sl 9 (rh.fst.val.data.cell 3).toList), AV.e (E.sl 39 (rh.fst.val.data.cell 4).toList)]), [Ob.box [(str ((rh.snd.ob 0).cell
  0).data.toStr), (num ((rh.snd.ob 0).cell 1).data.toInt), (num ((rh.snd.ob 0).cell 2).data.toInt), (num ((rh.snd.ob
  0).cell 3).data.toInt)]]) else none else none else bif decide (0 ≤ p0_1) then bif decide (p0_1 < (↑p0_0.length : Int)) && pk p0_0 p0_1 == 123 then (run none 151 [AV.ptr 0 0, AV.e
  (E.int IntKind.i64 a1)] [Ob.box [(str p0_0), (num p0_1), (num p0_2), (num p0_3)]]).bind fun rh => bif okHeap
  [Ob.box [(str p0_0), (num p0_1), (num p0_2), (num p0_3)]] rh.2 then bif okRes PP 39 rh.fst then some
  (Res.ret (AV.agg [(num (rh.fst.val.data.cell 0).toInt), (num (rh.fst.val.data.cell 1).toInt), (str (rh.fst.val.data.cell 2).toStr),
  AV.e (E.sl 9 (rh.fst.val.data.cell 3).toList), AV.e (E.sl 39 (rh.fst.val.data.cell 4).toList)]), [Ob.box [(str ((rh.snd.ob 0).cell 0).data.toStr), AV.e (E.int IntKind.i64
  ((rh.snd.ob 0).cell 1).data.toInt), (num ((rh.snd.ob 0).cell 2).data.toInt), (num ((rh.snd.ob 0).cell 3).data.toInt)]]) else none else none
  else bif decide (0 ≤ p0_1) then bif (decide (p0_1 < (↑p0_0.length : Int)) && pk p0_0 p0_1 == 45) == false then bif decide (0 ≤ p0_1) then bif decide (48 ≤ pk p0_0 p0_1) && decide
  (pk p0_0 p0_1 ≤ 57) then (run none 153 [AV.ptr 0 0] [Ob.box [(str p0_0), (num p0_1), (num p0_2), AV.e (E.int IntKind.i64
  p0_3)]]).bind fun rh => bif okHeap [Ob.box [(str p0_0), (num p0_1), (num p0_2), (num p0_3)]] rh.2 then bif okRes
  PP 3 rh.fst then some (Res.ret (AV.agg [(num 1), (num rh.fst.val.data.toInt), (str []), AV.e (E.sl 9 []), AV.e (E.sl 39 [])]),
  [Ob.box [(str ((rh.snd.ob 0).cell 0).data.toStr), (num ((rh.snd.ob 0).cell 1).data.toInt), (num ((rh.snd.ob 0).cell 2).data.toInt),
  (num ((rh.snd.ob 0).cell 3).data.toInt)]]) else none else none else some (Res.ret (AV.agg [(num 0), (num 0), AV.e (E.str
  []), AV.e (E.sl 9 []), AV.e (E.sl 39 [])]), [Ob.box [(str p0_0), (num p0_1), (num (bif p0_2 == 0 then 2 else p0_2)), AV.e (E.int
  IntKind.i64 (bif p0_2 == 0 then p0_1 else p0_3))]]) else none else (run none 153 [AV.ptr 0 0] [Ob.box [(str p0_0), (num p0_1), AV.e (E.int IntKind.i64
  p0_2), (num p0_3)]]).bind fun rh => bif okHeap [Ob.box [(str p0_0), (num p0_1), (num p0_2), AV.e (E.int
  IntKind.i64 p0_3)]] rh.2 then bif okRes PP 3 rh.fst then some (Res.ret (AV.agg [(num 1), (num rh.fst.val.data.toInt), AV.e (E.str
  []), AV.e (E.sl 9 []), AV.e (E.sl 39 [])]), [Ob.box [(str ((rh.snd.ob 0).cell 0).data.toStr), (num ((rh.snd.ob 0).cell 1).data.toInt), AV.e (E.int
  IntKind.i64 ((rh.snd.ob 0).cell 2).data.toInt), (num ((rh.snd.ob 0).cell 3).data.toInt)]]) else none else none else none else none else none else none else
  none else none := by kernel_rfl
theorem eq_rword (run : RunF) (loop : LoopF) (p0_0 : List UInt8) (p0_1 : Int) (p0_2 : Int) (p0_3 : Int) (a1 : List UInt8) : bodyRun PP HH run loop none 91 [.ptr 0
  0, .e (.str a1)] [.box [.e (.str p0_0), .e (.int .i64 p0_1), .e (.int .i64 p0_2), .e (.int .i64 p0_3)]] = (loop 91 1 lc_91_1 ([AV.ptr 0 0, (str a1), uu, uu,
  (num 0)] ++ List.replicate 29 uu) [Ob.box [(str p0_0), (num p0_1), (num p0_2), AV.e (E.int IntKind.i64
  p0_3)]]).bind fun o => bif o.ex.isWay (Way.exit 0) then bif okFr (List.replicate 34 uu) o.2 && okHeap [Ob.box [(str []), (num 0), AV.e (E.int
  IntKind.i64 0), (num 0)]] o.3 then some (Res.ret (AV.tup []), [Ob.box [(str ((o.hp.ob 0).cell 0).data.toStr), (num ((o.hp.ob 0).cell
  1).data.toInt), (num ((o.hp.ob 0).cell 2).data.toInt), (num ((o.hp.ob 0).cell 3).data.toInt)]]) else none else bif o.ex.isWay Way.ret then
  bif okFr (List.replicate 34 uu) o.2 && okHeap [Ob.box [(str []), (num 0), (num 0), (num 0)]] o.3 then some
  (Res.ret (AV.tup []), [Ob.box [(str ((o.hp.ob 0).cell 0).data.toStr), (num ((o.hp.ob 0).cell 1).data.toInt), (num ((o.hp.ob 0).cell
  2).data.toInt), (num ((o.hp.ob 0).cell 3).data.toInt)]]) else none else none := by kernel_rfl
theorem eq_rwordL1 (run : RunF) (loop : LoopF) (p0_0 : List UInt8) (p0_1 : Int) (p0_2 : Int) (p0_3 : Int) (t1 : List UInt8) (t4 : Int) : bodyLoop PP HH run loop 91
  1 lc_91_1 ((((List.replicate 34 uu).set 0 (.ptr 0 0)).set 1 (.e (.str t1))).set 4 (.e (.int .i64 t4))) [.box [.e (.str p0_0), .e (.int .i64 p0_1), .e (.int .i64 p0_2), .e
  (.int .i64 p0_3)]] = bif decide (t4 < (↑t1.length : Int)) == true then bif p0_2 == 0 then bif decide (0 ≤ t4) && decide (t4 < (↑t1.length : Int)) then bif decide (0 ≤ p0_1) then
  bif !(decide (p0_1 < (↑p0_0.length : Int)) && pk p0_0 p0_1 == (↑(t1.getD t4.toNat 0).toNat : Int)) then some (Out.mk (Ex.ret) ((List.replicate 34 uu)) ([Ob.box [AV.e (E.str
  p0_0), (num p0_1), (num (bif p0_2 == 0 then 2 else p0_2)), (num (bif p0_2 == 0 then p0_1 else p0_3))]]) ([])) else (loop
  91 1 lc_91_1 ([AV.ptr 0 0, (str t1), uu, uu, (num (IntKind.i64.wrap (t4 + 1)))] ++ List.replicate 29 uu) [Ob.box [(str p0_0),
  (num (IntKind.i64.wrap (p0_1 + 1))), (num p0_2), (num p0_3)]]).bind fun o => some o else none else none else some (Out.mk
  (Ex.exit 0) ((List.replicate 34 uu)) ([Ob.box [(str p0_0), (num p0_1), (num p0_2), (num p0_3)]]) ([])) else
  some (Out.mk (Ex.exit 0) ((List.replicate 34 uu)) ([Ob.box [(str p0_0), (num p0_1), (num p0_2), AV.e (E.int IntKind.i64
  p0_3)]]) ([])) := by kernel_rfl
theorem eq_rquoted (run : RunF) (loop : LoopF) (p0_0 : List UInt8) (p0_1 : Int) (p0_2 : Int) (p0_3 : Int) : bodyRun PP HH run loop none 149 [.ptr 0 0] [.box [.e
  (.str p0_0), .e (.int .i64 p0_1), .e (.int .i64 p0_2), .e (.int .i64 p0_3)]] = (loop 149 1 lc_149_3 ([AV.ptr 0 0, uu, uu, AV.own 1 5 []] ++ List.replicate 89
  uu) [Ob.box [(str p0_0), (num (IntKind.i64.wrap (p0_1 + 1))), (num p0_2), (num p0_3)], Ob.vec 5 0]).bind fun
  o => bif o.ex.isWay (Way.exit 0) then bif okFr ([AV.ptr 0 0, uu, uu, AV.own 1 5 []] ++ List.replicate 89 uu) o.2 && okHeap [Ob.box [(str []), AV.e (E.int
  IntKind.i64 0), (num 0), (num 0)], Ob.vec 5 0] o.3 then bif (List.getD o.fr 3 uu).data.toList.all isByte then some (Res.ret (AV.e
  (E.str (unbytes (List.getD o.fr 3 uu).data.toList))), [Ob.box [(str ((o.hp.ob 0).cell 0).data.toStr), (num (IntKind.i64.wrap (((o.hp.ob 0).cell
  1).data.toInt + 1))), (num ((o.hp.ob 0).cell 2).data.toInt), (num ((o.hp.ob 0).cell 3).data.toInt)]]) else none else none else bif
  o.ex.isWay Way.ret then bif okFr ([uu, uu, (str [])] ++ List.replicate 90 uu) o.2 && okHeap [Ob.box [(str []), (num 0), AV.e
  (E.int IntKind.i64 0), (num 0)]] o.3 then some (Res.ret ((str (List.getD o.fr 2 uu).data.toStr)), [Ob.box [(str ((o.hp.ob 0).cell
  0).data.toStr), (num ((o.hp.ob 0).cell 1).data.toInt), (num ((o.hp.ob 0).cell 2).data.toInt), (num ((o.hp.ob 0).cell
  3).data.toInt)]]) else none else none := by kernel_rfl
theorem eq_rquotedL3 (run : RunF) (loop : LoopF) (p0_0 : List UInt8) (p0_1 : Int) (p0_2 : Int) (p0_3 : Int) (t3 : List E) : bodyLoop PP HH run loop 149 1 lc_149_3
  (((List.replicate 93 uu).set 0 (.ptr 0 0)).set 3 (.own 1 5 t3)) [.box [.e (.str p0_0), .e (.int .i64 p0_1), .e (.int .i64 p0_2), .e (.int .i64 p0_3)], .vec 5 t3.length] =
  bif (p0_2 == 0) == true then bif decide (0 ≤ p0_1) then bif !(decide (p0_1 < (↑p0_0.length : Int)) && pk p0_0 p0_1 == 34) then bif decide ((↑p0_0.length : Int) ≤ p0_1) == false
  then bif decide (0 ≤ p0_1) && decide (p0_1 < (↑p0_0.length : Int)) then bif decide ((↑(p0_0.getD p0_1.toNat 0).toNat : Int) < 32) == false then bif decide (0 ≤ p0_1) && decide
  (p0_1 < (↑p0_0.length : Int)) then bif decide (126 < (↑(p0_0.getD p0_1.toNat 0).toNat : Int)) then some (Out.mk (Ex.ret) (([uu, uu, (str [])] ++ List.replicate
  90 uu)) ([Ob.box [(str p0_0), (num p0_1), (num (bif p0_2 == 0 then 2 else p0_2)), (num (bif p0_2 == 0 then
  p0_1 else p0_3))]]) ([])) else bif decide (0 ≤ p0_1) then bif decide (p0_1 < (↑p0_0.length : Int)) && pk p0_0 p0_1 == 92 then (run none 168 [AV.ptr 0 0] [Ob.box [AV.e (E.str
  p0_0), (num p0_1), (num p0_2), (num p0_3)]]).bind fun rh => bif okHeap [Ob.box [(str p0_0), AV.e (E.int
  IntKind.i64 p0_1), (num p0_2), (num p0_3)]] rh.2 then bif okRes PP 5 rh.fst then bif decide (t3.length = t3.length) && decide
  ((t3.length + (5, [E.int IntKind.u8 rh.fst.val.data.toInt]).snd.length) * 1 ≤ 140737488355328) then (loop 149 1 lc_149_3 ([AV.ptr 0 0, uu, uu, AV.own 1 5 (t3 ++ (5,
  [E.int IntKind.u8 rh.fst.val.data.toInt]).snd)] ++ List.replicate 89 uu) [Ob.box [(str ((rh.snd.ob 0).cell 0).data.toStr), (num ((rh.snd.ob
  0).cell 1).data.toInt), (num ((rh.snd.ob 0).cell 2).data.toInt), (num ((rh.snd.ob 0).cell 3).data.toInt)], Ob.vec 5 (t3 ++ (5, [E.int
  IntKind.u8 rh.fst.val.data.toInt]).snd).length]).bind fun o => some o else none else none else none else bif decide (0 ≤ p0_1) && decide (p0_1 < (↑p0_0.length : Int)) then bif
  decide (t3.length = t3.length) && decide ((t3.length + (5, [E.int IntKind.u8 (↑(p0_0.getD p0_1.toNat 0).toNat : Int)]).snd.length) * 1 ≤ 140737488355328) then (loop 149 1
  lc_149_3 ([AV.ptr 0 0, uu, uu, AV.own 1 5 (t3 ++ (5, [E.int IntKind.u8 (↑(p0_0.getD p0_1.toNat 0).toNat : Int)]).snd)] ++ List.replicate 89 uu) [Ob.box [AV.e
  (E.str p0_0), (num (IntKind.i64.wrap (p0_1 + 1))), (num p0_2), (num p0_3)], Ob.vec 5 (t3 ++ (5, [E.int IntKind.u8
  (↑(p0_0.getD p0_1.toNat 0).toNat : Int)]).snd).length]).bind fun o => some o else none else none else none else none else some (Out.mk (Ex.ret) (([uu, uu, AV.e (E.str
  [])] ++ List.replicate 90 uu)) ([Ob.box [(str p0_0), (num p0_1), (num (bif p0_2 == 0 then 2 else p0_2)), AV.e (E.int
  IntKind.i64 (bif p0_2 == 0 then p0_1 else p0_3))]]) ([])) else none else some (Out.mk (Ex.ret) (([uu, uu, (str [])] ++ List.replicate 90 uu)) ([Ob.box
  [(str p0_0), (num p0_1), (num (bif p0_2 == 0 then 2 else p0_2)), (num (bif p0_2 == 0 then p0_1 else p0_3))]])
  ([])) else some (Out.mk (Ex.exit 0) (([AV.ptr 0 0, uu, uu, AV.own 1 5 t3] ++ List.replicate 89 uu)) ([Ob.box [(str p0_0), (num p0_1),
  (num p0_2), (num p0_3)], Ob.vec 5 t3.length]) ([])) else none else some (Out.mk (Ex.exit 0) (([AV.ptr 0 0, uu, uu, AV.own 1 5
  t3] ++ List.replicate 89 uu)) ([Ob.box [(str p0_0), (num p0_1), (num p0_2), (num p0_3)], Ob.vec 5
  t3.length]) ([])) := by kernel_rfl
theorem eq_relements (run : RunF) (loop : LoopF) (p0_0 : List UInt8) (p0_1 : Int) (p0_2 : Int) (p0_3 : Int) (a1 : Int) : bodyRun PP HH run loop none 150 [.ptr 0 0,
  .e (.int .i64 a1)] [.box [.e (.str p0_0), .e (.int .i64 p0_1), .e (.int .i64 p0_2), .e (.int .i64 p0_3)]] = bif decide (0 ≤ IntKind.i64.wrap (p0_1 + 1)) then bif decide
  (IntKind.i64.wrap (p0_1 + 1) < (↑p0_0.length : Int)) && pk p0_0 (IntKind.i64.wrap (p0_1 + 1)) == 93 then some (Res.ret (AV.agg [(num 5), AV.e (E.int
  IntKind.i64 0), (str []), AV.e (E.sl 9 []), AV.e (E.sl 39 [])]), [Ob.box [(str p0_0), (num (IntKind.i64.wrap (IntKind.i64.wrap (p0_1 + 1) + 1))),
  (num p0_2), (num p0_3)]]) else (loop 150 1 lc_150_6 ([AV.ptr 0 0, (num a1), uu, uu, AV.ptr 1 0, AV.ptr 2 0]
  ++ List.replicate 47 uu) [Ob.box [(str p0_0), (num (IntKind.i64.wrap (p0_1 + 1))), (num p0_2), (num p0_3)],
  Ob.box [(num 0), (num 0), (str []), AV.own 3 9 [], AV.own 4 39 []], Ob.box [(num 5), (num 0),
  (str []), AV.own 5 9 [], AV.own 6 39 []], Ob.vec 9 0, Ob.vec 39 0, Ob.vec 9 0, Ob.vec 39 0]).bind fun o => bif o.ex.isWay (Way.exit 0) then bif okFr ([AV.ptr 0 0,
  uu, uu, uu, AV.ptr 1 0, AV.ptr 2 0] ++ List.replicate 47 uu) o.2 && okHeap [Ob.box [(str []), (num 0), AV.e (E.int IntKind.i64
  0), (num 0)], Ob.box [(num 0), (num 0), (str []), AV.own 3 9 [], AV.own 4 39 []], Ob.box [AV.e (E.int IntKind.i64
  0), (num 0), (str []), AV.own 5 9 [], AV.own 6 39 []], Ob.vec 9 0, Ob.vec 39 0, Ob.vec 9 0, Ob.vec 39 0] o.3 then (run none 91 [AV.ptr 0 0, AV.e (E.str
  [93])] [Ob.box [(str ((o.hp.ob 0).cell 0).data.toStr), (num ((o.hp.ob 0).cell 1).data.toInt), (num ((o.hp.ob 0).cell 2).data.toInt),
  (num ((o.hp.ob 0).cell 3).data.toInt)]]).bind fun rh => bif okHeap [Ob.box [(str ((o.hp.ob 0).cell 0).data.toStr), (num ((o.hp.ob
  0).cell 1).data.toInt), (num ((o.hp.ob 0).cell 2).data.toInt), (num ((o.hp.ob 0).cell 3).data.toInt)]] rh.2 then bif okRes PP 0
  rh.fst then some (Res.ret (AV.agg [(num ((o.hp.ob 2).cell 0).data.toInt), (num ((o.hp.ob 2).cell 1).data.toInt), (str ((o.hp.ob
  2).cell 2).data.toStr), AV.e (E.sl 9 ((o.hp.ob 2).cell 3).data.toList), AV.e (E.sl 39 ((o.hp.ob 2).cell 4).data.toList)]), [Ob.box [(str ((rh.snd.ob 0).cell
  0).data.toStr), (num ((rh.snd.ob 0).cell 1).data.toInt), (num ((rh.snd.ob 0).cell 2).data.toInt), (num ((rh.snd.ob
  0).cell 3).data.toInt)]]) else none else none else none else none else none := by kernel_rfl
theorem eq_relementsL6 (run : RunF) (loop : LoopF) (p0_0 : List UInt8) (p0_1 : Int) (p0_2 : Int) (p0_3 : Int) (t1 : Int) (t4_0 : Int) (t4_1 : Int) (t4_2 : List UInt8) (t4_3 : List
  E) (t4_4 : List E) (t5_0 : Int) (t5_1 : Int) (t5_2 : List UInt8) (t5_3 : List E) (t5_4 : List E) : bodyLoop PP HH run loop 150 1 lc_150_6 (((((List.replicate 53
  uu).set 0 (.ptr 0 0)).set 1 (.e (.int .i64 t1))).set 4 (.ptr 1 0)).set 5 (.ptr 2 0)) [.box [.e (.str p0_0), .e (.int .i64 p0_1), .e (.int .i64 p0_2), .e (.int .i64 p0_3)],
  .box [.e (.int .i64 t4_0), .e (.int .i64 t4_1), .e (.str t4_2), .own 3 9 t4_3, .own 4 39 t4_4], .box [.e (.int .i64 t5_0), .e (.int .i64 t5_1), .e (.str t5_2), .own 5 9 t5_3,
  .own 6 39 t5_4], .vec 9 t4_3.length, .vec 39 t4_4.length, .vec 9 t5_3.length, .vec 39 t5_4.length] = bif p0_2 == 0 then (run none 105 [AV.ptr 0 0, AV.e (E.int IntKind.i64
  (IntKind.i64.wrap (t1 + 1)))] [Ob.box [(str p0_0), (num p0_1), (num p0_2), (num p0_3)]]).bind fun rh => bif okHeap
  [Ob.box [(str p0_0), (num p0_1), (num p0_2), (num p0_3)]] rh.2 then bif okRes PP 39 rh.fst then bif decide
  (t5_4.length = t5_4.length) && decide ((t5_4.length + (39, elems PP 39 5 1 [E.sl 39 (rh.fst.val.data.cell 4).toList, E.sl 9 (rh.fst.val.data.cell 3).toList, E.str
  (rh.fst.val.data.cell 2).toStr, E.int IntKind.i64 (rh.fst.val.data.cell 1).toInt, E.int IntKind.i64 (rh.fst.val.data.cell 0).toInt].reverse).snd.length) * 80 ≤ 140737488355328)
  then bif (!((rh.snd.ob 0).cell 2).data.toInt == 0) == false then bif decide (0 ≤ ((rh.snd.ob 0).cell 1).data.toInt) then bif !(decide (((rh.snd.ob 0).cell 1).data.toInt <
  (↑((rh.snd.ob 0).cell 0).data.toStr.length : Int)) && pk ((rh.snd.ob 0).cell 0).data.toStr ((rh.snd.ob 0).cell 1).data.toInt == 44) then some (Out.mk (Ex.exit 0) (([AV.ptr 0 0,
  uu, uu, uu, AV.ptr 1 0, AV.ptr 2 0] ++ List.replicate 47 uu)) ([Ob.box [(str ((rh.snd.ob 0).cell 0).data.toStr), AV.e (E.int IntKind.i64
  ((rh.snd.ob 0).cell 1).data.toInt), (num ((rh.snd.ob 0).cell 2).data.toInt), (num ((rh.snd.ob 0).cell 3).data.toInt)], Ob.box [AV.e (E.int
  IntKind.i64 t4_0), (num t4_1), (str t4_2), AV.own 3 9 t4_3, AV.own 4 39 t4_4], Ob.box [(num t5_0), (num t5_1),
  (str t5_2), AV.own 5 9 t5_3, AV.own 6 39 (t5_4 ++ (39, elems PP 39 5 1 [E.sl 39 (rh.fst.val.data.cell 4).toList, E.sl 9 (rh.fst.val.data.cell 3).toList, E.str
  (rh.fst.val.data.cell 2).toStr, E.int IntKind.i64 (rh.fst.val.data.cell 1).toInt, E.int IntKind.i64 (rh.fst.val.data.cell 0).toInt].reverse).snd)], Ob.vec 9 t4_3.length, Ob.vec
  39 t4_4.length, Ob.vec 9 t5_3.length, Ob.vec 39 (t5_4 ++ (39, elems PP 39 5 1 [E.sl 39 (rh.fst.val.data.cell 4).toList, E.sl 9 (rh.fst.val.data.cell 3).toList, E.str
  (rh.fst.val.data.cell 2).toStr, E.int IntKind.i64 (rh.fst.val.data.cell 1).toInt, E.int IntKind.i64 (rh.fst.val.data.cell 0).toInt].reverse).snd).length]) ([])) else (loop 150 1
  lc_150_6 ([AV.ptr 0 0, (num t1), uu, uu, AV.ptr 1 0, AV.ptr 2 0] ++ List.replicate 47 uu) [Ob.box [(str ((rh.snd.ob 0).cell
  0).data.toStr), (num (IntKind.i64.wrap (((rh.snd.ob 0).cell 1).data.toInt + 1))), (num ((rh.snd.ob 0).cell 2).data.toInt), AV.e (E.int
  IntKind.i64 ((rh.snd.ob 0).cell 3).data.toInt)], Ob.box [(num t4_0), (num t4_1), (str t4_2), AV.own 3 9 t4_3, AV.own 4 39 t4_4],
  Ob.box [(num t5_0), (num t5_1), (str t5_2), AV.own 5 9 t5_3, AV.own 6 39 (t5_4 ++ (39, elems PP 39 5 1 [E.sl 39
  (rh.fst.val.data.cell 4).toList, E.sl 9 (rh.fst.val.data.cell 3).toList, E.str (rh.fst.val.data.cell 2).toStr, E.int IntKind.i64 (rh.fst.val.data.cell 1).toInt, E.int IntKind.i64
  (rh.fst.val.data.cell 0).toInt].reverse).snd)], Ob.vec 9 t4_3.length, Ob.vec 39 t4_4.length, Ob.vec 9 t5_3.length, Ob.vec 39 (t5_4 ++ (39, elems PP 39 5 1 [E.sl 39
  (rh.fst.val.data.cell 4).toList, E.sl 9 (rh.fst.val.data.cell 3).toList, E.str (rh.fst.val.data.cell 2).toStr, E.int IntKind.i64 (rh.fst.val.data.cell 1).toInt, E.int IntKind.i64
  (rh.fst.val.data.cell 0).toInt].reverse).snd).length]).bind fun o => some o else none else some (Out.mk (Ex.exit 0) (([AV.ptr 0 0, uu, uu, uu, AV.ptr 1 0,
  AV.ptr 2 0] ++ List.replicate 47 uu)) ([Ob.box [(str ((rh.snd.ob 0).cell 0).data.toStr), (num ((rh.snd.ob 0).cell 1).data.toInt), AV.e (E.int
  IntKind.i64 ((rh.snd.ob 0).cell 2).data.toInt), (num ((rh.snd.ob 0).cell 3).data.toInt)], Ob.box [(num t4_0), (num t4_1),
  (str t4_2), AV.own 3 9 t4_3, AV.own 4 39 t4_4], Ob.box [(num t5_0), (num t5_1), (str t5_2), AV.own 5 9 t5_3, AV.own 6 39 (t5_4
  ++ (39, elems PP 39 5 1 [E.sl 39 (rh.fst.val.data.cell 4).toList, E.sl 9 (rh.fst.val.data.cell 3).toList, E.str (rh.fst.val.data.cell 2).toStr, E.int IntKind.i64
  (rh.fst.val.data.cell 1).toInt, E.int IntKind.i64 (rh.fst.val.data.cell 0).toInt].reverse).snd)], Ob.vec 9 t4_3.length, Ob.vec 39 t4_4.length, Ob.vec 9 t5_3.length, Ob.vec 39
  (t5_4 ++ (39, elems PP 39 5 1 [E.sl 39 (rh.fst.val.data.cell 4).toList, E.sl 9 (rh.fst.val.data.cell 3).toList, E.str (rh.fst.val.data.cell 2).toStr, E.int IntKind.i64
  (rh.fst.val.data.cell 1).toInt, E.int IntKind.i64 (rh.fst.val.data.cell 0).toInt].reverse).snd).length]) ([])) else none else none else none else some (Out.mk (Ex.exit 0)
  (([AV.ptr 0 0, uu, uu, uu, AV.ptr 1 0, AV.ptr 2 0] ++ List.replicate 47 uu)) ([Ob.box [(str p0_0), (num p0_1), AV.e (E.int
  IntKind.i64 p0_2), (num p0_3)], Ob.box [(num t4_0), (num t4_1), (str t4_2), AV.own 3 9 t4_3, AV.own 4 39 t4_4],
  Ob.box [(num t5_0), (num t5_1), (str t5_2), AV.own 5 9 t5_3, AV.own 6 39 t5_4], Ob.vec 9 t4_3.length, Ob.vec 39 t4_4.length, Ob.vec 9
  t5_3.length, Ob.vec 39 t5_4.length]) ([])) := by kernel_rfl
theorem eq_rentries (run : RunF) (loop : LoopF) (p0_0 : List UInt8) (p0_1 : Int) (p0_2 : Int) (p0_3 : Int) (a1 : Int) : bodyRun PP HH run loop none 151 [.ptr 0 0,
  .e (.int .i64 a1)] [.box [.e (.str p0_0), .e (.int .i64 p0_1), .e (.int .i64 p0_2), .e (.int .i64 p0_3)]] = bif decide (0 ≤ IntKind.i64.wrap (p0_1 + 1)) then bif decide
  (IntKind.i64.wrap (p0_1 + 1) < (↑p0_0.length : Int)) && pk p0_0 (IntKind.i64.wrap (p0_1 + 1)) == 125 then some (Res.ret (AV.agg [(num 6), AV.e (E.int
  IntKind.i64 0), (str []), AV.e (E.sl 9 []), AV.e (E.sl 39 [])]), [Ob.box [(str p0_0), (num (IntKind.i64.wrap (IntKind.i64.wrap (p0_1 + 1) + 1))),
  (num p0_2), (num p0_3)]]) else (loop 151 1 lc_151_6 ([AV.ptr 0 0, (num a1), uu, uu, AV.ptr 1 0, AV.ptr 2 0]
  ++ List.replicate 100 uu) [Ob.box [(str p0_0), (num (IntKind.i64.wrap (p0_1 + 1))), (num p0_2), (num p0_3)],
  Ob.box [(num 0), (num 0), (str []), AV.own 3 9 [], AV.own 4 39 []], Ob.box [(num 6), (num 0),
  (str []), AV.own 5 9 [], AV.own 6 39 []], Ob.vec 9 0, Ob.vec 39 0, Ob.vec 9 0, Ob.vec 39 0]).bind fun o => bif o.ex.isWay (Way.exit 0) then bif okFr ([AV.ptr 0 0,
  uu, uu, uu, AV.ptr 1 0, AV.ptr 2 0] ++ List.replicate 100 uu) o.2 && okHeap [Ob.box [(str []), (num 0), AV.e (E.int IntKind.i64
  0), (num 0)], Ob.box [(num 0), (num 0), (str []), AV.own 3 9 [], AV.own 4 39 []], Ob.box [AV.e (E.int IntKind.i64
  0), (num 0), (str []), AV.own 5 9 [], AV.own 6 39 []], Ob.vec 9 0, Ob.vec 39 0, Ob.vec 9 0, Ob.vec 39 0] o.3 then (run none 91 [AV.ptr 0 0, AV.e (E.str
  [125])] [Ob.box [(str ((o.hp.ob 0).cell 0).data.toStr), (num ((o.hp.ob 0).cell 1).data.toInt), (num ((o.hp.ob 0).cell 2).data.toInt),
  (num ((o.hp.ob 0).cell 3).data.toInt)]]).bind fun rh => bif okHeap [Ob.box [(str ((o.hp.ob 0).cell 0).data.toStr), (num ((o.hp.ob
  0).cell 1).data.toInt), (num ((o.hp.ob 0).cell 2).data.toInt), (num ((o.hp.ob 0).cell 3).data.toInt)]] rh.2 then bif okRes PP 0
  rh.fst then some (Res.ret (AV.agg [(num ((o.hp.ob 2).cell 0).data.toInt), (num ((o.hp.ob 2).cell 1).data.toInt), (str ((o.hp.ob
  2).cell 2).data.toStr), AV.e (E.sl 9 ((o.hp.ob 2).cell 3).data.toList), AV.e (E.sl 39 ((o.hp.ob 2).cell 4).data.toList)]), [Ob.box [(str ((rh.snd.ob 0).cell
  0).data.toStr), (num ((rh.snd.ob 0).cell 1).data.toInt), (num ((rh.snd.ob 0).cell 2).data.toInt), (num ((rh.snd.ob
  0).cell 3).data.toInt)]]) else none else none else none else bif o.ex.isWay Way.ret then bif okFr ([uu, uu, uu, uu, AV.ptr 1 0] ++ List.replicate 101
  uu) o.2 && okHeap [Ob.box [(str []), (num 0), (num 0), (num 0)], Ob.box [(num 0), AV.e
  (E.int IntKind.i64 0), (str []), AV.own 2 9 [], AV.own 3 39 []], Ob.vec 9 0, Ob.vec 39 0] o.3 then some (Res.ret (AV.agg [(num ((o.hp.ob 1).cell
  0).data.toInt), (num ((o.hp.ob 1).cell 1).data.toInt), (str ((o.hp.ob 1).cell 2).data.toStr), AV.e (E.sl 9 ((o.hp.ob 1).cell 3).data.toList), AV.e (E.sl
  39 ((o.hp.ob 1).cell 4).data.toList)]), [Ob.box [(str ((o.hp.ob 0).cell 0).data.toStr), (num ((o.hp.ob 0).cell 1).data.toInt), AV.e (E.int IntKind.i64
  ((o.hp.ob 0).cell 2).data.toInt), (num ((o.hp.ob 0).cell 3).data.toInt)]]) else none else none else none := by kernel_rfl
theorem eq_rentriesL6 (run : RunF) (loop : LoopF) (p0_0 : List UInt8) (p0_1 : Int) (p0_2 : Int) (p0_3 : Int) (t1 : Int) (t4_0 : Int) (t4_1 : Int) (t4_2 : List UInt8) (t4_3 : List
  E) (t4_4 : List E) (t5_0 : Int) (t5_1 : Int) (t5_2 : List UInt8) (t5_3 : List E) (t5_4 : List E) : bodyLoop PP HH run loop 151 1 lc_151_6 (((((List.replicate 106
  uu).set 0 (.ptr 0 0)).set 1 (.e (.int .i64 t1))).set 4 (.ptr 1 0)).set 5 (.ptr 2 0)) [.box [.e (.str p0_0), .e (.int .i64 p0_1), .e (.int .i64 p0_2), .e (.int .i64 p0_3)],
  .box [.e (.int .i64 t4_0), .e (.int .i64 t4_1), .e (.str t4_2), .own 3 9 t4_3, .own 4 39 t4_4], .box [.e (.int .i64 t5_0), .e (.int .i64 t5_1), .e (.str t5_2), .own 5 9 t5_3,
  .own 6 39 t5_4], .vec 9 t4_3.length, .vec 39 t4_4.length, .vec 9 t5_3.length, .vec 39 t5_4.length] = bif p0_2 == 0 then (run none 140 [AV.ptr 0 0] [Ob.box [(str p0_0),
  (num p0_1), (num p0_2), (num p0_3)]]).bind fun rh => bif okHeap [Ob.box [(str p0_0), AV.e (E.int IntKind.i64
  p0_1), (num p0_2), (num p0_3)]] rh.2 then bif okRes PP 9 rh.fst then bif bif ((rh.snd.ob 0).cell 2).data.toInt == 0 then decide (16 <
  (↑rh.fst.val.data.toStr.length : Int)) else false then bif (bif (bif ((rh.snd.ob 0).cell 2).data.toInt == 0 then 11 else ((rh.snd.ob 0).cell 2).data.toInt) == 0 then decide (0 <
  (↑t5_3.length : Int)) else false) == true then bif decide (0 ≤ IntKind.i64.wrap ((↑t5_3.length : Int) - 1)) && decide (IntKind.i64.wrap ((↑t5_3.length : Int) - 1) < (↑t5_3.length
  : Int)) then bif Op.bytesLess rh.fst.val.data.toStr ((t5_3.getD (IntKind.i64.wrap ((↑t5_3.length : Int) - 1)).toNat E.nili).cell 0).toStr || strEq rh.fst.val.data.toStr
  ((t5_3.getD (IntKind.i64.wrap ((↑t5_3.length : Int) - 1)).toNat E.nili).cell 0).toStr then (run none 91 [AV.ptr 0 0, (str [58])] [Ob.box [(str ((rh.snd.ob 0).cell
  0).data.toStr), (num ((rh.snd.ob 0).cell 1).data.toInt), (num (bif (bif ((rh.snd.ob 0).cell 2).data.toInt == 0 then 11 else ((rh.snd.ob
  0).cell 2).data.toInt) == 0 then 22 else bif ((rh.snd.ob 0).cell 2).data.toInt == 0 then 11 else ((rh.snd.ob 0).cell 2).data.toInt)), (num (bif (bif
  ((rh.snd.ob 0).cell 2).data.toInt == 0 then 11 else ((rh.snd.ob 0).cell 2).data.toInt) == 0 then p0_1 else bif ((rh.snd.ob 0).cell 2).data.toInt == 0 then p0_1 else ((rh.snd.ob
  0).cell 3).data.toInt))]]).bind fun rh_1 => bif okHeap [Ob.box [(str ((rh.snd.ob 0).cell 0).data.toStr), (num ((rh.snd.ob 0).cell 1).data.toInt), AV.e
  (E.int IntKind.i64 (bif (bif ((rh.snd.ob 0).cell 2).data.toInt == 0 then 11 else ((rh.snd.ob 0).cell 2).data.toInt) == 0 then 22 else bif ((rh.snd.ob 0).cell 2).data.toInt == 0
  then 11 else ((rh.snd.ob 0).cell 2).data.toInt)), (num (bif (bif ((rh.snd.ob 0).cell 2).data.toInt == 0 then 11 else ((rh.snd.ob 0).cell 2).data.toInt) == 0
  then p0_1 else bif ((rh.snd.ob 0).cell 2).data.toInt == 0 then p0_1 else ((rh.snd.ob 0).cell 3).data.toInt))]] rh_1.2 then bif okRes PP 0 rh_1.fst then bif !((rh_1.snd.ob
  0).cell 2).data.toInt == 0 then some (Out.mk (Ex.ret) (([uu, uu, uu, uu, AV.ptr 1 0] ++ List.replicate 101 uu)) ([Ob.box [(str ((rh_1.snd.ob
  0).cell 0).data.toStr), (num ((rh_1.snd.ob 0).cell 1).data.toInt), (num ((rh_1.snd.ob 0).cell 2).data.toInt), AV.e (E.int IntKind.i64
  ((rh_1.snd.ob 0).cell 3).data.toInt)], Ob.box [(num t5_0), (num t5_1), (str t5_2), AV.own 2 9 t5_3, AV.own 3 39 t5_4], Ob.vec 9
  t5_3.length, Ob.vec 39 t5_4.length]) ([])) else bif decide (t5_3.length = t5_3.length) && decide ((t5_3.length + (9, [E.str rh.fst.val.data.toStr]).snd.length) * 16 ≤
  140737488355328) then (run none 105 [AV.ptr 0 0, (num (IntKind.i64.wrap (t1 + 1)))] [Ob.box [(str ((rh_1.snd.ob 0).cell 0).data.toStr), AV.e (E.int
  IntKind.i64 ((rh_1.snd.ob 0).cell 1).data.toInt), (num ((rh_1.snd.ob 0).cell 2).data.toInt), (num ((rh_1.snd.ob 0).cell
  3).data.toInt)]]).bind fun rh_2 => bif okHeap [Ob.box [(str ((rh_1.snd.ob 0).cell 0).data.toStr), (num ((rh_1.snd.ob 0).cell 1).data.toInt), AV.e (E.int
  IntKind.i64 ((rh_1.snd.ob 0).cell 2).data.toInt), (num ((rh_1.snd.ob 0).cell 3).data.toInt)]] rh_2.2 then bif okRes PP 39 rh_2.fst then bif decide
  (t5_4.length = t5_4.length) && decide ((t5_4.length + (39, elems PP 39 5 1 [E.sl 39 (rh_2.fst.val.data.cell 4).toList, E.sl 9 (rh_2.fst.val.data.cell 3).toList, E.str
  (rh_2.fst.val.data.cell 2).toStr, E.int IntKind.i64 (rh_2.fst.val.data.cell 1).toInt, E.int IntKind.i64 (rh_2.fst.val.data.cell 0).toInt].reverse).snd.length) * 80 ≤
  140737488355328) then bif (!((rh_2.snd.ob 0).cell 2).data.toInt == 0) == false then bif decide (0 ≤ ((rh_2.snd.ob 0).cell 1).data.toInt) then bif !(decide (((rh_2.snd.ob 0).cell
  1).data.toInt < (↑((rh_2.snd.ob 0).cell 0).data.toStr.length : Int)) && pk ((rh_2.snd.ob 0).cell 0).data.toStr ((rh_2.snd.ob 0).cell 1).data.toInt == 44) then some (Out.mk
  (Ex.exit 0) (([AV.ptr 0 0, uu, uu, uu, AV.ptr 1 0, AV.ptr 2 0] ++ List.replicate 100 uu)) ([Ob.box [(str ((rh_2.snd.ob 0).cell 0).data.toStr), AV.e
  (E.int IntKind.i64 ((rh_2.snd.ob 0).cell 1).data.toInt), (num ((rh_2.snd.ob 0).cell 2).data.toInt), (num ((rh_2.snd.ob 0).cell
  3).data.toInt)], Ob.box [(num t4_0), (num t4_1), (str t4_2), AV.own 3 9 t4_3, AV.own 4 39 t4_4], Ob.box [AV.e (E.int IntKind.i64
  t5_0), (num t5_1), (str t5_2), AV.own 5 9 (t5_3 ++ (9, [E.str rh.fst.val.data.toStr]).snd), AV.own 6 39 (t5_4 ++ (39, elems PP 39 5 1 [E.sl 39
  (rh_2.fst.val.data.cell 4).toList, E.sl 9 (rh_2.fst.val.data.cell 3).toList, E.str (rh_2.fst.val.data.cell 2).toStr, E.int IntKind.i64 (rh_2.fst.val.data.cell 1).toInt, E.int
  IntKind.i64 (rh_2.fst.val.data.cell 0).toInt].reverse).snd)], Ob.vec 9 t4_3.length, Ob.vec 39 t4_4.length, Ob.vec 9 (t5_3 ++ (9, [E.str rh.fst.val.data.toStr]).snd).length,
  Ob.vec 39 (t5_4 ++ (39, elems PP 39 5 1 [E.sl 39 (rh_2.fst.val.data.cell 4).toList, E.sl 9 (rh_2.fst.val.data.cell 3).toList, E.str (rh_2.fst.val.data.cell 2).toStr, E.int
  IntKind.i64 (rh_2.fst.val.data.cell 1).toInt, E.int IntKind.i64 (rh_2.fst.val.data.cell 0).toInt].reverse).snd).length]) ([])) else (loop 151 1 lc_151_6 ([AV.ptr 0 0, AV.e (E.int
  IntKind.i64 t1), uu, uu, AV.ptr 1 0, AV.ptr 2 0] ++ List.replicate 100 uu) [Ob.box [(str ((rh_2.snd.ob 0).cell 0).data.toStr), AV.e (E.int IntKind.i64
  (IntKind.i64.wrap (((rh_2.snd.ob 0).cell 1).data.toInt + 1))), (num ((rh_2.snd.ob 0).cell 2).data.toInt), (num ((rh_2.snd.ob 0).cell
  3).data.toInt)], Ob.box [(num t4_0), (num t4_1), (str t4_2), AV.own 3 9 t4_3, AV.own 4 39 t4_4], Ob.box [AV.e (E.int IntKind.i64
  t5_0), (num t5_1), (str t5_2), AV.own 5 9 (t5_3 ++ (9, [E.str rh.fst.val.data.toStr]).snd), AV.own 6 39 (t5_4 ++ (39, elems PP 39 5 1 [E.sl 39
  (rh_2.fst.val.data.cell 4).toList, E.sl 9 (rh_2.fst.val.data.cell 3).toList, E.str (rh_2.fst.val.data.cell 2).toStr, E.int IntKind.i64 (rh_2.fst.val.data.cell 1).toInt, E.int
  IntKind.i64 (rh_2.fst.val.data.cell 0).toInt].reverse).snd)], Ob.vec 9 t4_3.length, Ob.vec 39 t4_4.length, Ob.vec 9 (t5_3 ++ (9, [E.str rh.fst.val.data.toStr]).snd).length,
  Ob.vec 39 (t5_4 ++ (39, elems PP 39 5 1 [E.sl 39 (rh_2.fst.val.data.cell 4).toList, E.sl 9 (rh_2.fst.val.data.cell 3).toList, E.str (rh_2.fst.val.data.cell 2).toStr, E.int
  IntKind.i64 (rh_2.fst.val.data.cell 1).toInt, E.int IntKind.i64 (rh_2.fst.val.data.cell 0).toInt].reverse).snd).length]).bind fun o => some o else none else some (Out.mk (Ex.exit
  0) (([AV.ptr 0 0, uu, uu, uu, AV.ptr 1 0, AV.ptr 2 0] ++ List.replicate 100 uu)) ([Ob.box [(str ((rh_2.snd.ob 0).cell 0).data.toStr), AV.e (E.int
  IntKind.i64 ((rh_2.snd.ob 0).cell 1).data.toInt), (num ((rh_2.snd.ob 0).cell 2).data.toInt), (num ((rh_2.snd.ob 0).cell 3).data.toInt)],
  Ob.box [(num t4_0), (num t4_1), (str t4_2), AV.own 3 9 t4_3, AV.own 4 39 t4_4], Ob.box [(num t5_0), AV.e (E.int
  IntKind.i64 t5_1), (str t5_2), AV.own 5 9 (t5_3 ++ (9, [E.str rh.fst.val.data.toStr]).snd), AV.own 6 39 (t5_4 ++ (39, elems PP 39 5 1 [E.sl 39
  (rh_2.fst.val.data.cell 4).toList, E.sl 9 (rh_2.fst.val.data.cell 3).toList, E.str (rh_2.fst.val.data.cell 2).toStr, E.int IntKind.i64 (rh_2.fst.val.data.cell 1).toInt, E.int
  IntKind.i64 (rh_2.fst.val.data.cell 0).toInt].reverse).snd)], Ob.vec 9 t4_3.length, Ob.vec 39 t4_4.length, Ob.vec 9 (t5_3 ++ (9, [E.str rh.fst.val.data.toStr]).snd).length,
  Ob.vec 39 (t5_4 ++ (39, elems PP 39 5 1 [E.sl 39 (rh_2.fst.val.data.cell 4).toList, E.sl 9 (rh_2.fst.val.data.cell 3).toList, E.str (rh_2.fst.val.data.cell 2).toStr, E.int
  IntKind.i64 (rh_2.fst.val.data.cell 1).toInt, E.int IntKind.i64 (rh_2.fst.val.data.cell 0).toInt].reverse).snd).length]) ([])) else none else none else none else none else none
  else none else (run none 91 [AV.ptr 0 0, (str [58])] [Ob.box [(str ((rh.snd.ob 0).cell 0).data.toStr), (num ((rh.snd.ob 0).cell 1).data.toInt),
  (num (bif ((rh.snd.ob 0).cell 2).data.toInt == 0 then 11 else ((rh.snd.ob 0).cell 2).data.toInt)), (num (bif ((rh.snd.ob 0).cell
  2).data.toInt == 0 then p0_1 else ((rh.snd.ob 0).cell 3).data.toInt))]]).bind fun rh_1 => bif okHeap [Ob.box [(str ((rh.snd.ob 0).cell 0).data.toStr), AV.e (E.int
  IntKind.i64 ((rh.snd.ob 0).cell 1).data.toInt), (num (bif ((rh.snd.ob 0).cell 2).data.toInt == 0 then 11 else ((rh.snd.ob 0).cell 2).data.toInt)), AV.e (E.int
  IntKind.i64 (bif ((rh.snd.ob 0).cell 2).data.toInt == 0 then p0_1 else ((rh.snd.ob 0).cell 3).data.toInt))]] rh_1.2 then bif okRes PP 0 rh_1.fst then bif !((rh_1.snd.ob
  0).cell 2).data.toInt == 0 then some (Out.mk (Ex.ret) (([uu, uu, uu, uu, AV.ptr 1 0] ++ List.replicate 101 uu)) ([Ob.box [(str ((rh_1.snd.ob
  0).cell 0).data.toStr), (num ((rh_1.snd.ob 0).cell 1).data.toInt), (num ((rh_1.snd.ob 0).cell 2).data.toInt), AV.e (E.int IntKind.i64
  ((rh_1.snd.ob 0).cell 3).data.toInt)], Ob.box [(num t5_0), (num t5_1), (str t5_2), AV.own 2 9 t5_3, AV.own 3 39 t5_4], Ob.vec 9
  t5_3.length, Ob.vec 39 t5_4.length]) ([])) else bif decide (t5_3.length = t5_3.length) && decide ((t5_3.length + (9, [E.str rh.fst.val.data.toStr]).snd.length) * 16 ≤
  140737488355328) then (run none 105 [AV.ptr 0 0, (num (IntKind.i64.wrap (t1 + 1)))] [Ob.box [(str ((rh_1.snd.ob 0).cell 0).data.toStr), AV.e (E.int
  IntKind.i64 ((rh_1.snd.ob 0).cell 1).data.toInt), (num ((rh_1.snd.ob 0).cell 2).data.toInt), (num ((rh_1.snd.ob 0).cell
  3).data.toInt)]]).bind fun rh_2 => bif okHeap [Ob.box [(str ((rh_1.snd.ob 0).cell 0).data.toStr), (num ((rh_1.snd.ob 0).cell 1).data.toInt), AV.e (E.int
  IntKind.i64 ((rh_1.snd.ob 0).cell 2).data.toInt), (num ((rh_1.snd.ob 0).cell 3).data.toInt)]] rh_2.2 then bif okRes PP 39 rh_2.fst then bif decide
  (t5_4.length = t5_4.length) && decide ((t5_4.length + (39, elems PP 39 5 1 [E.sl 39 (rh_2.fst.val.data.cell 4).toList, E.sl 9 (rh_2.fst.val.data.cell 3).toList, E.str
  (rh_2.fst.val.data.cell 2).toStr, E.int IntKind.i64 (rh_2.fst.val.data.cell 1).toInt, E.int IntKind.i64 (rh_2.fst.val.data.cell 0).toInt].reverse).snd.length) * 80 ≤
  140737488355328) then bif (!((rh_2.snd.ob 0).cell 2).data.toInt == 0) == false then bif decide (0 ≤ ((rh_2.snd.ob 0).cell 1).data.toInt) then bif !(decide (((rh_2.snd.ob 0).cell
  1).data.toInt < (↑((rh_2.snd.ob 0).cell 0).data.toStr.length : Int)) && pk ((rh_2.snd.ob 0).cell 0).data.toStr ((rh_2.snd.ob 0).cell 1).data.toInt == 44) then some (Out.mk
  (Ex.exit 0) (([AV.ptr 0 0, uu, uu, uu, AV.ptr 1 0, AV.ptr 2 0] ++ List.replicate 100 uu)) ([Ob.box [(str ((rh_2.snd.ob 0).cell 0).data.toStr), AV.e
  (E.int IntKind.i64 ((rh_2.snd.ob 0).cell 1).data.toInt), (num ((rh_2.snd.ob 0).cell 2).data.toInt), (num ((rh_2.snd.ob 0).cell
  3).data.toInt)], Ob.box [(num t4_0), (num t4_1), (str t4_2), AV.own 3 9 t4_3, AV.own 4 39 t4_4], Ob.box [AV.e (E.int IntKind.i64
  t5_0), (num t5_1), (str t5_2), AV.own 5 9 (t5_3 ++ (9, [E.str rh.fst.val.data.toStr]).snd), AV.own 6 39 (t5_4 ++ (39, elems PP 39 5 1 [E.sl 39
  (rh_2.fst.val.data.cell 4).toList, E.sl 9 (rh_2.fst.val.data.cell 3).toList, E.str (rh_2.fst.val.data.cell 2).toStr, E.int IntKind.i64 (rh_2.fst.val.data.cell 1).toInt, E.int
  IntKind.i64 (rh_2.fst.val.data.cell 0).toInt].reverse).snd)], Ob.vec 9 t4_3.length, Ob.vec 39 t4_4.length, Ob.vec 9 (t5_3 ++ (9, [E.str rh.fst.val.data.toStr]).snd).length,
  Ob.vec 39 (t5_4 ++ (39, elems PP 39 5 1 [E.sl 39 (rh_2.fst.val.data.cell 4).toList, E.sl 9 (rh_2.fst.val.data.cell 3).toList, E.str (rh_2.fst.val.data.cell 2).toStr, E.int
  IntKind.i64 (rh_2.fst.val.data.cell 1).toInt, E.int IntKind.i64 (rh_2.fst.val.data.cell 0).toInt].reverse).snd).length]) ([])) else (loop 151 1 lc_151_6 ([AV.ptr 0 0, AV.e (E.int
  IntKind.i64 t1), uu, uu, AV.ptr 1 0, AV.ptr 2 0] ++ List.replicate 100 uu) [Ob.box [(str ((rh_2.snd.ob 0).cell 0).data.toStr), AV.e (E.int IntKind.i64
  (IntKind.i64.wrap (((rh_2.snd.ob 0).cell 1).data.toInt + 1))), (num ((rh_2.snd.ob 0).cell 2).data.toInt), (num ((rh_2.snd.ob 0).cell
  3).data.toInt)], Ob.box [(num t4_0), (num t4_1), (str t4_2), AV.own 3 9 t4_3, AV.own 4 39 t4_4], Ob.box [AV.e (E.int IntKind.i64
  t5_0), (num t5_1), (str t5_2), AV.own 5 9 (t5_3 ++ (9, [E.str rh.fst.val.data.toStr]).snd), AV.own 6 39 (t5_4 ++ (39, elems PP 39 5 1 [E.sl 39
  (rh_2.fst.val.data.cell 4).toList, E.sl 9 (rh_2.fst.val.data.cell 3).toList, E.str (rh_2.fst.val.data.cell 2).toStr, E.int IntKind.i64 (rh_2.fst.val.data.cell 1).toInt, E.int
  IntKind.i64 (rh_2.fst.val.data.cell 0).toInt].reverse).snd)], Ob.vec 9 t4_3.length, Ob.vec 39 t4_4.length, Ob.vec 9 (t5_3 ++ (9, [E.str rh.fst.val.data.toStr]).snd).length,
  Ob.vec 39 (t5_4 ++ (39, elems PP 39 5 1 [E.sl 39 (rh_2.fst.val.data.cell 4).toList, E.sl 9 (rh_2.fst.val.data.cell 3).toList, E.str (rh_2.fst.val.data.cell 2).toStr, E.int
  IntKind.i64 (rh_2.fst.val.data.cell 1).toInt, E.int IntKind.i64 (rh_2.fst.val.data.cell 0).toInt].reverse).snd).length]).bind fun o => some o else none else some (Out.mk (Ex.exit
  0) (([AV.ptr 0 0, uu, uu, uu, AV.ptr 1 0, AV.ptr 2 0] ++ List.replicate 100 uu)) ([Ob.box [(str ((rh_2.snd.ob 0).cell 0).data.toStr), AV.e (E.int
  IntKind.i64 ((rh_2.snd.ob 0).cell 1).data.toInt), (num ((rh_2.snd.ob 0).cell 2).data.toInt), (num ((rh_2.snd.ob 0).cell 3).data.toInt)],
  Ob.box [(num t4_0), (num t4_1), (str t4_2), AV.own 3 9 t4_3, AV.own 4 39 t4_4], Ob.box [(num t5_0), AV.e (E.int
  IntKind.i64 t5_1), (str t5_2), AV.own 5 9 (t5_3 ++ (9, [E.str rh.fst.val.data.toStr]).snd), AV.own 6 39 (t5_4 ++ (39, elems PP 39 5 1 [E.sl 39
  (rh_2.fst.val.data.cell 4).toList, E.sl 9 (rh_2.fst.val.data.cell 3).toList, E.str (rh_2.fst.val.data.cell 2).toStr, E.int IntKind.i64 (rh_2.fst.val.data.cell 1).toInt, E.int
  IntKind.i64 (rh_2.fst.val.data.cell 0).toInt].reverse).snd)], Ob.vec 9 t4_3.length, Ob.vec 39 t4_4.length, Ob.vec 9 (t5_3 ++ (9, [E.str rh.fst.val.data.toStr]).snd).length,
  Ob.vec 39 (t5_4 ++ (39, elems PP 39 5 1 [E.sl 39 (rh_2.fst.val.data.cell 4).toList, E.sl 9 (rh_2.fst.val.data.cell 3).toList, E.str (rh_2.fst.val.data.cell 2).toStr, E.int
  IntKind.i64 (rh_2.fst.val.data.cell 1).toInt, E.int IntKind.i64 (rh_2.fst.val.data.cell 0).toInt].reverse).snd).length]) ([])) else none else none else none else none else none
  else none else none else (run none 91 [AV.ptr 0 0, (str [58])] [Ob.box [(str ((rh.snd.ob 0).cell 0).data.toStr), (num ((rh.snd.ob 0).cell
  1).data.toInt), (num (bif ((rh.snd.ob 0).cell 2).data.toInt == 0 then 11 else ((rh.snd.ob 0).cell 2).data.toInt)), (num (bif ((rh.snd.ob
  0).cell 2).data.toInt == 0 then p0_1 else ((rh.snd.ob 0).cell 3).data.toInt))]]).bind fun rh_1 => bif okHeap [Ob.box [(str ((rh.snd.ob 0).cell 0).data.toStr), AV.e (E.int
  IntKind.i64 ((rh.snd.ob 0).cell 1).data.toInt), (num (bif ((rh.snd.ob 0).cell 2).data.toInt == 0 then 11 else ((rh.snd.ob 0).cell 2).data.toInt)), AV.e (E.int
  IntKind.i64 (bif ((rh.snd.ob 0).cell 2).data.toInt == 0 then p0_1 else ((rh.snd.ob 0).cell 3).data.toInt))]] rh_1.2 then bif okRes PP 0 rh_1.fst then bif !((rh_1.snd.ob
  0).cell 2).data.toInt == 0 then some (Out.mk (Ex.ret) (([uu, uu, uu, uu, AV.ptr 1 0] ++ List.replicate 101 uu)) ([Ob.box [(str ((rh_1.snd.ob
  0).cell 0).data.toStr), (num ((rh_1.snd.ob 0).cell 1).data.toInt), (num ((rh_1.snd.ob 0).cell 2).data.toInt), AV.e (E.int IntKind.i64
  ((rh_1.snd.ob 0).cell 3).data.toInt)], Ob.box [(num t5_0), (num t5_1), (str t5_2), AV.own 2 9 t5_3, AV.own 3 39 t5_4], Ob.vec 9
  t5_3.length, Ob.vec 39 t5_4.length]) ([])) else bif decide (t5_3.length = t5_3.length) && decide ((t5_3.length + (9, [E.str rh.fst.val.data.toStr]).snd.length) * 16 ≤
  140737488355328) then (run none 105 [AV.ptr 0 0, (num (IntKind.i64.wrap (t1 + 1)))] [Ob.box [(str ((rh_1.snd.ob 0).cell 0).data.toStr), AV.e (E.int
  IntKind.i64 ((rh_1.snd.ob 0).cell 1).data.toInt), (num ((rh_1.snd.ob 0).cell 2).data.toInt), (num ((rh_1.snd.ob 0).cell
  3).data.toInt)]]).bind fun rh_2 => bif okHeap [Ob.box [(str ((rh_1.snd.ob 0).cell 0).data.toStr), (num ((rh_1.snd.ob 0).cell 1).data.toInt), AV.e (E.int
  IntKind.i64 ((rh_1.snd.ob 0).cell 2).data.toInt), (num ((rh_1.snd.ob 0).cell 3).data.toInt)]] rh_2.2 then bif okRes PP 39 rh_2.fst then bif decide
  (t5_4.length = t5_4.length) && decide ((t5_4.length + (39, elems PP 39 5 1 [E.sl 39 (rh_2.fst.val.data.cell 4).toList, E.sl 9 (rh_2.fst.val.data.cell 3).toList, E.str
  (rh_2.fst.val.data.cell 2).toStr, E.int IntKind.i64 (rh_2.fst.val.data.cell 1).toInt, E.int IntKind.i64 (rh_2.fst.val.data.cell 0).toInt].reverse).snd.length) * 80 ≤
  140737488355328) then bif (!((rh_2.snd.ob 0).cell 2).data.toInt == 0) == false then bif decide (0 ≤ ((rh_2.snd.ob 0).cell 1).data.toInt) then bif !(decide (((rh_2.snd.ob 0).cell
  1).data.toInt < (↑((rh_2.snd.ob 0).cell 0).data.toStr.length : Int)) && pk ((rh_2.snd.ob 0).cell 0).data.toStr ((rh_2.snd.ob 0).cell 1).data.toInt == 44) then some (Out.mk
  (Ex.exit 0) (([AV.ptr 0 0, uu, uu, uu, AV.ptr 1 0, AV.ptr 2 0] ++ List.replicate 100 uu)) ([Ob.box [(str ((rh_2.snd.ob 0).cell 0).data.toStr), AV.e
  (E.int IntKind.i64 ((rh_2.snd.ob 0).cell 1).data.toInt), (num ((rh_2.snd.ob 0).cell 2).data.toInt), (num ((rh_2.snd.ob 0).cell
  3).data.toInt)], Ob.box [(num t4_0), (num t4_1), (str t4_2), AV.own 3 9 t4_3, AV.own 4 39 t4_4], Ob.box [AV.e (E.int IntKind.i64
  t5_0), (num t5_1), (str t5_2), AV.own 5 9 (t5_3 ++ (9, [E.str rh.fst.val.data.toStr]).snd), AV.own 6 39 (t5_4 ++ (39, elems PP 39 5 1 [E.sl 39
  (rh_2.fst.val.data.cell 4).toList, E.sl 9 (rh_2.fst.val.data.cell 3).toList, E.str (rh_2.fst.val.data.cell 2).toStr, E.int IntKind.i64 (rh_2.fst.val.data.cell 1).toInt, E.int
  IntKind.i64 (rh_2.fst.val.data.cell 0).toInt].reverse).snd)], Ob.vec 9 t4_3.length, Ob.vec 39 t4_4.length, Ob.vec 9 (t5_3 ++ (9, [E.str rh.fst.val.data.toStr]).snd).length,
  Ob.vec 39 (t5_4 ++ (39, elems PP 39 5 1 [E.sl 39 (rh_2.fst.val.data.cell 4).toList, E.sl 9 (rh_2.fst.val.data.cell 3).toList, E.str (rh_2.fst.val.data.cell 2).toStr, E.int
  IntKind.i64 (rh_2.fst.val.data.cell 1).toInt, E.int IntKind.i64 (rh_2.fst.val.data.cell 0).toInt].reverse).snd).length]) ([])) else (loop 151 1 lc_151_6 ([AV.ptr 0 0, AV.e (E.int
  IntKind.i64 t1), uu, uu, AV.ptr 1 0, AV.ptr 2 0] ++ List.replicate 100 uu) [Ob.box [(str ((rh_2.snd.ob 0).cell 0).data.toStr), AV.e (E.int IntKind.i64
  (IntKind.i64.wrap (((rh_2.snd.ob 0).cell 1).data.toInt + 1))), (num ((rh_2.snd.ob 0).cell 2).data.toInt), (num ((rh_2.snd.ob 0).cell
  3).data.toInt)], Ob.box [(num t4_0), (num t4_1), (str t4_2), AV.own 3 9 t4_3, AV.own 4 39 t4_4], Ob.box [AV.e (E.int IntKind.i64
  t5_0), (num t5_1), (str t5_2), AV.own 5 9 (t5_3 ++ (9, [E.str rh.fst.val.data.toStr]).snd), AV.own 6 39 (t5_4 ++ (39, elems PP 39 5 1 [E.sl 39
  (rh_2.fst.val.data.cell 4).toList, E.sl 9 (rh_2.fst.val.data.cell 3).toList, E.str (rh_2.fst.val.data.cell 2).toStr, E.int IntKind.i64 (rh_2.fst.val.data.cell 1).toInt, E.int
  IntKind.i64 (rh_2.fst.val.data.cell 0).toInt].reverse).snd)], Ob.vec 9 t4_3.length, Ob.vec 39 t4_4.length, Ob.vec 9 (t5_3 ++ (9, [E.str rh.fst.val.data.toStr]).snd).length,
  Ob.vec 39 (t5_4 ++ (39, elems PP 39 5 1 [E.sl 39 (rh_2.fst.val.data.cell 4).toList, E.sl 9 (rh_2.fst.val.data.cell 3).toList, E.str (rh_2.fst.val.data.cell 2).toStr, E.int
  IntKind.i64 (rh_2.fst.val.data.cell 1).toInt, E.int IntKind.i64 (rh_2.fst.val.data.cell 0).toInt].reverse).snd).length]).bind fun o => some o else none else some (Out.mk (Ex.exit
  0) (([AV.ptr 0 0, uu, uu, uu, AV.ptr 1 0, AV.ptr 2 0] ++ List.replicate 100 uu)) ([Ob.box [(str ((rh_2.snd.ob 0).cell 0).data.toStr), AV.e (E.int
  IntKind.i64 ((rh_2.snd.ob 0).cell 1).data.toInt), (num ((rh_2.snd.ob 0).cell 2).data.toInt), (num ((rh_2.snd.ob 0).cell 3).data.toInt)],
  Ob.box [(num t4_0), (num t4_1), (str t4_2), AV.own 3 9 t4_3, AV.own 4 39 t4_4], Ob.box [(num t5_0), AV.e (E.int
  IntKind.i64 t5_1), (str t5_2), AV.own 5 9 (t5_3 ++ (9, [E.str rh.fst.val.data.toStr]).snd), AV.own 6 39 (t5_4 ++ (39, elems PP 39 5 1 [E.sl 39
  (rh_2.fst.val.data.cell 4).toList, E.sl 9 (rh_2.fst.val.data.cell 3).toList, E.str (rh_2.fst.val.data.cell 2).toStr, E.int IntKind.i64 (rh_2.fst.val.data.cell 1).toInt, E.int
  IntKind.i64 (rh_2.fst.val.data.cell 0).toInt].reverse).snd)], Ob.vec 9 t4_3.length, Ob.vec 39 t4_4.length, Ob.vec 9 (t5_3 ++ (9, [E.str rh.fst.val.data.toStr]).snd).length,
  Ob.vec 39 (t5_4 ++ (39, elems PP 39 5 1 [E.sl 39 (rh_2.fst.val.data.cell 4).toList, E.sl 9 (rh_2.fst.val.data.cell 3).toList, E.str (rh_2.fst.val.data.cell 2).toStr, E.int
  IntKind.i64 (rh_2.fst.val.data.cell 1).toInt, E.int IntKind.i64 (rh_2.fst.val.data.cell 0).toInt].reverse).snd).length]) ([])) else none else none else none else none else none
  else none else bif (bif ((rh.snd.ob 0).cell 2).data.toInt == 0 then decide (0 < (↑t5_3.length : Int)) else false) == true then bif decide (0 ≤ IntKind.i64.wrap ((↑t5_3.length :
  Int) - 1)) && decide (IntKind.i64.wrap ((↑t5_3.length : Int) - 1) < (↑t5_3.length : Int)) then bif Op.bytesLess rh.fst.val.data.toStr ((t5_3.getD (IntKind.i64.wrap ((↑t5_3.length
  : Int) - 1)).toNat E.nili).cell 0).toStr || strEq rh.fst.val.data.toStr ((t5_3.getD (IntKind.i64.wrap ((↑t5_3.length : Int) - 1)).toNat E.nili).cell 0).toStr then (run none 91
  [AV.ptr 0 0, (str [58])] [Ob.box [(str ((rh.snd.ob 0).cell 0).data.toStr), (num ((rh.snd.ob 0).cell 1).data.toInt), (num (bif
  ((rh.snd.ob 0).cell 2).data.toInt == 0 then 22 else ((rh.snd.ob 0).cell 2).data.toInt)), (num (bif ((rh.snd.ob 0).cell 2).data.toInt == 0 then p0_1 else
  ((rh.snd.ob 0).cell 3).data.toInt))]]).bind fun rh_1 => bif okHeap [Ob.box [(str ((rh.snd.ob 0).cell 0).data.toStr), (num ((rh.snd.ob 0).cell
  1).data.toInt), (num (bif ((rh.snd.ob 0).cell 2).data.toInt == 0 then 22 else ((rh.snd.ob 0).cell 2).data.toInt)), (num (bif ((rh.snd.ob
  0).cell 2).data.toInt == 0 then p0_1 else ((rh.snd.ob 0).cell 3).data.toInt))]] rh_1.2 then bif okRes PP 0 rh_1.fst then bif !((rh_1.snd.ob 0).cell 2).data.toInt == 0 then
  some (Out.mk (Ex.ret) (([uu, uu, uu, uu, AV.ptr 1 0] ++ List.replicate 101 uu)) ([Ob.box [(str ((rh_1.snd.ob 0).cell 0).data.toStr), AV.e
  (E.int IntKind.i64 ((rh_1.snd.ob 0).cell 1).data.toInt), (num ((rh_1.snd.ob 0).cell 2).data.toInt), (num ((rh_1.snd.ob 0).cell
  3).data.toInt)], Ob.box [(num t5_0), (num t5_1), (str t5_2), AV.own 2 9 t5_3, AV.own 3 39 t5_4], Ob.vec 9 t5_3.length, Ob.vec 39
  t5_4.length]) ([])) else bif decide (t5_3.length = t5_3.length) && decide ((t5_3.length + (9, [E.str rh.fst.val.data.toStr]).snd.length) * 16 ≤ 140737488355328) then (run none
  105 [AV.ptr 0 0, (num (IntKind.i64.wrap (t1 + 1)))] [Ob.box [(str ((rh_1.snd.ob 0).cell 0).data.toStr), (num ((rh_1.snd.ob 0).cell
  1).data.toInt), (num ((rh_1.snd.ob 0).cell 2).data.toInt), (num ((rh_1.snd.ob 0).cell 3).data.toInt)]]).bind fun rh_2 => bif okHeap [Ob.box
  [(str ((rh_1.snd.ob 0).cell 0).data.toStr), (num ((rh_1.snd.ob 0).cell 1).data.toInt), (num ((rh_1.snd.ob 0).cell 2).data.toInt),
  (num ((rh_1.snd.ob 0).cell 3).data.toInt)]] rh_2.2 then bif okRes PP 39 rh_2.fst then bif decide (t5_4.length = t5_4.length) && decide ((t5_4.length +
  (39, elems PP 39 5 1 [E.sl 39 (rh_2.fst.val.data.cell 4).toList, E.sl 9 (rh_2.fst.val.data.cell 3).toList, E.str (rh_2.fst.val.data.cell 2).toStr, E.int IntKind.i64
  (rh_2.fst.val.data.cell 1).toInt, E.int IntKind.i64 (rh_2.fst.val.data.cell 0).toInt].reverse).snd.length) * 80 ≤ 140737488355328) then bif (!((rh_2.snd.ob 0).cell 2).data.toInt
  == 0) == false then bif decide (0 ≤ ((rh_2.snd.ob 0).cell 1).data.toInt) then bif !(decide (((rh_2.snd.ob 0).cell 1).data.toInt < (↑((rh_2.snd.ob 0).cell 0).data.toStr.length :
  Int)) && pk ((rh_2.snd.ob 0).cell 0).data.toStr ((rh_2.snd.ob 0).cell 1).data.toInt == 44) then some (Out.mk (Ex.exit 0) (([AV.ptr 0 0, uu, uu, uu, AV.ptr 1 0,
  AV.ptr 2 0] ++ List.replicate 100 uu)) ([Ob.box [(str ((rh_2.snd.ob 0).cell 0).data.toStr), (num ((rh_2.snd.ob 0).cell 1).data.toInt), AV.e (E.int
  IntKind.i64 ((rh_2.snd.ob 0).cell 2).data.toInt), (num ((rh_2.snd.ob 0).cell 3).data.toInt)], Ob.box [(num t4_0), AV.e (E.int IntKind.i64
  t4_1), (str t4_2), AV.own 3 9 t4_3, AV.own 4 39 t4_4], Ob.box [(num t5_0), (num t5_1), (str t5_2), AV.own 5 9 (t5_3 ++ (9,
  [E.str rh.fst.val.data.toStr]).snd), AV.own 6 39 (t5_4 ++ (39, elems PP 39 5 1 [E.sl 39 (rh_2.fst.val.data.cell 4).toList, E.sl 9 (rh_2.fst.val.data.cell 3).toList, E.str
  (rh_2.fst.val.data.cell 2).toStr, E.int IntKind.i64 (rh_2.fst.val.data.cell 1).toInt, E.int IntKind.i64 (rh_2.fst.val.data.cell 0).toInt].reverse).snd)], Ob.vec 9 t4_3.length,
  Ob.vec 39 t4_4.length, Ob.vec 9 (t5_3 ++ (9, [E.str rh.fst.val.data.toStr]).snd).length, Ob.vec 39 (t5_4 ++ (39, elems PP 39 5 1 [E.sl 39 (rh_2.fst.val.data.cell
  4).toList, E.sl 9 (rh_2.fst.val.data.cell 3).toList, E.str (rh_2.fst.val.data.cell 2).toStr, E.int IntKind.i64 (rh_2.fst.val.data.cell 1).toInt, E.int IntKind.i64
  (rh_2.fst.val.data.cell 0).toInt].reverse).snd).length]) ([])) else (loop 151 1 lc_151_6 ([AV.ptr 0 0, (num t1), uu, uu, AV.ptr 1 0, AV.ptr 2 0] ++
  List.replicate 100 uu) [Ob.box [(str ((rh_2.snd.ob 0).cell 0).data.toStr), (num (IntKind.i64.wrap (((rh_2.snd.ob 0).cell 1).data.toInt + 1))),
  (num ((rh_2.snd.ob 0).cell 2).data.toInt), (num ((rh_2.snd.ob 0).cell 3).data.toInt)], Ob.box [(num t4_0), AV.e (E.int
  IntKind.i64 t4_1), (str t4_2), AV.own 3 9 t4_3, AV.own 4 39 t4_4], Ob.box [(num t5_0), (num t5_1), (str t5_2), AV.own 5 9
  (t5_3 ++ (9, [E.str rh.fst.val.data.toStr]).snd), AV.own 6 39 (t5_4 ++ (39, elems PP 39 5 1 [E.sl 39 (rh_2.fst.val.data.cell 4).toList, E.sl 9 (rh_2.fst.val.data.cell
  3).toList, E.str (rh_2.fst.val.data.cell 2).toStr, E.int IntKind.i64 (rh_2.fst.val.data.cell 1).toInt, E.int IntKind.i64 (rh_2.fst.val.data.cell 0).toInt].reverse).snd)], Ob.vec
  9 t4_3.length, Ob.vec 39 t4_4.length, Ob.vec 9 (t5_3 ++ (9, [E.str rh.fst.val.data.toStr]).snd).length, Ob.vec 39 (t5_4 ++ (39, elems PP 39 5 1 [E.sl 39
  (rh_2.fst.val.data.cell 4).toList, E.sl 9 (rh_2.fst.val.data.cell 3).toList, E.str (rh_2.fst.val.data.cell 2).toStr, E.int IntKind.i64 (rh_2.fst.val.data.cell 1).toInt, E.int
  IntKind.i64 (rh_2.fst.val.data.cell 0).toInt].reverse).snd).length]).bind fun o => some o else none else some (Out.mk (Ex.exit 0) (([AV.ptr 0 0, uu, uu, uu,
  AV.ptr 1 0, AV.ptr 2 0] ++ List.replicate 100 uu)) ([Ob.box [(str ((rh_2.snd.ob 0).cell 0).data.toStr), (num ((rh_2.snd.ob 0).cell 1).data.toInt),
  (num ((rh_2.snd.ob 0).cell 2).data.toInt), (num ((rh_2.snd.ob 0).cell 3).data.toInt)], Ob.box [(num t4_0), AV.e (E.int
  IntKind.i64 t4_1), (str t4_2), AV.own 3 9 t4_3, AV.own 4 39 t4_4], Ob.box [(num t5_0), (num t5_1), (str t5_2), AV.own 5 9
  (t5_3 ++ (9, [E.str rh.fst.val.data.toStr]).snd), AV.own 6 39 (t5_4 ++ (39, elems PP 39 5 1 [E.sl 39 (rh_2.fst.val.data.cell 4).toList, E.sl 9 (rh_2.fst.val.data.cell
  3).toList, E.str (rh_2.fst.val.data.cell 2).toStr, E.int IntKind.i64 (rh_2.fst.val.data.cell 1).toInt, E.int IntKind.i64 (rh_2.fst.val.data.cell 0).toInt].reverse).snd)], Ob.vec
  9 t4_3.length, Ob.vec 39 t4_4.length, Ob.vec 9 (t5_3 ++ (9, [E.str rh.fst.val.data.toStr]).snd).length, Ob.vec 39 (t5_4 ++ (39, elems PP 39 5 1 [E.sl 39
  (rh_2.fst.val.data.cell 4).toList, E.sl 9 (rh_2.fst.val.data.cell 3).toList, E.str (rh_2.fst.val.data.cell 2).toStr, E.int IntKind.i64 (rh_2.fst.val.data.cell 1).toInt, E.int
  IntKind.i64 (rh_2.fst.val.data.cell 0).toInt].reverse).snd).length]) ([])) else none else none else none else none else none else none else (run none 91 [AV.ptr 0 0, AV.e (E.str
  [58])] [Ob.box [(str ((rh.snd.ob 0).cell 0).data.toStr), (num ((rh.snd.ob 0).cell 1).data.toInt), (num ((rh.snd.ob 0).cell
  2).data.toInt), (num ((rh.snd.ob 0).cell 3).data.toInt)]]).bind fun rh_1 => bif okHeap [Ob.box [(str ((rh.snd.ob 0).cell 0).data.toStr), AV.e (E.int
  IntKind.i64 ((rh.snd.ob 0).cell 1).data.toInt), (num ((rh.snd.ob 0).cell 2).data.toInt), (num ((rh.snd.ob 0).cell 3).data.toInt)]] rh_1.2
  then bif okRes PP 0 rh_1.fst then bif !((rh_1.snd.ob 0).cell 2).data.toInt == 0 then some (Out.mk (Ex.ret) (([uu, uu, uu, uu, AV.ptr 1 0] ++
  List.replicate 101 uu)) ([Ob.box [(str ((rh_1.snd.ob 0).cell 0).data.toStr), (num ((rh_1.snd.ob 0).cell 1).data.toInt), AV.e (E.int IntKind.i64
  ((rh_1.snd.ob 0).cell 2).data.toInt), (num ((rh_1.snd.ob 0).cell 3).data.toInt)], Ob.box [(num t5_0), (num t5_1), AV.e
  (E.str t5_2), AV.own 2 9 t5_3, AV.own 3 39 t5_4], Ob.vec 9 t5_3.length, Ob.vec 39 t5_4.length]) ([])) else bif decide (t5_3.length = t5_3.length) && decide ((t5_3.length + (9,
  [E.str rh.fst.val.data.toStr]).snd.length) * 16 ≤ 140737488355328) then (run none 105 [AV.ptr 0 0, (num (IntKind.i64.wrap (t1 + 1)))] [Ob.box [AV.e (E.str
  ((rh_1.snd.ob 0).cell 0).data.toStr), (num ((rh_1.snd.ob 0).cell 1).data.toInt), (num ((rh_1.snd.ob 0).cell 2).data.toInt), AV.e (E.int
  IntKind.i64 ((rh_1.snd.ob 0).cell 3).data.toInt)]]).bind fun rh_2 => bif okHeap [Ob.box [(str ((rh_1.snd.ob 0).cell 0).data.toStr), (num ((rh_1.snd.ob
  0).cell 1).data.toInt), (num ((rh_1.snd.ob 0).cell 2).data.toInt), (num ((rh_1.snd.ob 0).cell 3).data.toInt)]] rh_2.2 then bif okRes
  PP 39 rh_2.fst then bif decide (t5_4.length = t5_4.length) && decide ((t5_4.length + (39, elems PP 39 5 1 [E.sl 39 (rh_2.fst.val.data.cell 4).toList, E.sl 9
  (rh_2.fst.val.data.cell 3).toList, E.str (rh_2.fst.val.data.cell 2).toStr, E.int IntKind.i64 (rh_2.fst.val.data.cell 1).toInt, E.int IntKind.i64 (rh_2.fst.val.data.cell
  0).toInt].reverse).snd.length) * 80 ≤ 140737488355328) then bif (!((rh_2.snd.ob 0).cell 2).data.toInt == 0) == false then bif decide (0 ≤ ((rh_2.snd.ob 0).cell 1).data.toInt)
  then bif !(decide (((rh_2.snd.ob 0).cell 1).data.toInt < (↑((rh_2.snd.ob 0).cell 0).data.toStr.length : Int)) && pk ((rh_2.snd.ob 0).cell 0).data.toStr ((rh_2.snd.ob 0).cell
  1).data.toInt == 44) then some (Out.mk (Ex.exit 0) (([AV.ptr 0 0, uu, uu, uu, AV.ptr 1 0, AV.ptr 2 0] ++ List.replicate 100 uu)) ([Ob.box [AV.e (E.str
  ((rh_2.snd.ob 0).cell 0).data.toStr), (num ((rh_2.snd.ob 0).cell 1).data.toInt), (num ((rh_2.snd.ob 0).cell 2).data.toInt), AV.e (E.int
  IntKind.i64 ((rh_2.snd.ob 0).cell 3).data.toInt)], Ob.box [(num t4_0), (num t4_1), (str t4_2), AV.own 3 9 t4_3, AV.own 4 39 t4_4],
  Ob.box [(num t5_0), (num t5_1), (str t5_2), AV.own 5 9 (t5_3 ++ (9, [E.str rh.fst.val.data.toStr]).snd), AV.own 6 39 (t5_4 ++ (39,
  elems PP 39 5 1 [E.sl 39 (rh_2.fst.val.data.cell 4).toList, E.sl 9 (rh_2.fst.val.data.cell 3).toList, E.str (rh_2.fst.val.data.cell 2).toStr, E.int IntKind.i64
  (rh_2.fst.val.data.cell 1).toInt, E.int IntKind.i64 (rh_2.fst.val.data.cell 0).toInt].reverse).snd)], Ob.vec 9 t4_3.length, Ob.vec 39 t4_4.length, Ob.vec 9 (t5_3 ++ (9, [E.str
  rh.fst.val.data.toStr]).snd).length, Ob.vec 39 (t5_4 ++ (39, elems PP 39 5 1 [E.sl 39 (rh_2.fst.val.data.cell 4).toList, E.sl 9 (rh_2.fst.val.data.cell 3).toList, E.str
  (rh_2.fst.val.data.cell 2).toStr, E.int IntKind.i64 (rh_2.fst.val.data.cell 1).toInt, E.int IntKind.i64 (rh_2.fst.val.data.cell 0).toInt].reverse).snd).length]) ([])) else (loop
  151 1 lc_151_6 ([AV.ptr 0 0, (num t1), uu, uu, AV.ptr 1 0, AV.ptr 2 0] ++ List.replicate 100 uu) [Ob.box [(str ((rh_2.snd.ob 0).cell
  0).data.toStr), (num (IntKind.i64.wrap (((rh_2.snd.ob 0).cell 1).data.toInt + 1))), (num ((rh_2.snd.ob 0).cell 2).data.toInt), AV.e (E.int
  IntKind.i64 ((rh_2.snd.ob 0).cell 3).data.toInt)], Ob.box [(num t4_0), (num t4_1), (str t4_2), AV.own 3 9 t4_3, AV.own 4 39 t4_4],
  Ob.box [(num t5_0), (num t5_1), (str t5_2), AV.own 5 9 (t5_3 ++ (9, [E.str rh.fst.val.data.toStr]).snd), AV.own 6 39 (t5_4 ++ (39,
  elems PP 39 5 1 [E.sl 39 (rh_2.fst.val.data.cell 4).toList, E.sl 9 (rh_2.fst.val.data.cell 3).toList, E.str (rh_2.fst.val.data.cell 2).toStr, E.int IntKind.i64
  (rh_2.fst.val.data.cell 1).toInt, E.int IntKind.i64 (rh_2.fst.val.data.cell 0).toInt].reverse).snd)], Ob.vec 9 t4_3.length, Ob.vec 39 t4_4.length, Ob.vec 9 (t5_3 ++ (9, [E.str
  rh.fst.val.data.toStr]).snd).length, Ob.vec 39 (t5_4 ++ (39, elems PP 39 5 1 [E.sl 39 (rh_2.fst.val.data.cell 4).toList, E.sl 9 (rh_2.fst.val.data.cell 3).toList, E.str
  (rh_2.fst.val.data.cell 2).toStr, E.int IntKind.i64 (rh_2.fst.val.data.cell 1).toInt, E.int IntKind.i64 (rh_2.fst.val.data.cell 0).toInt].reverse).snd).length]).bind fun o =>
  some o else none else some (Out.mk (Ex.exit 0) (([AV.ptr 0 0, uu, uu, uu, AV.ptr 1 0, AV.ptr 2 0] ++ List.replicate 100 uu)) ([Ob.box [AV.e (E.str
  ((rh_2.snd.ob 0).cell 0).data.toStr), (num ((rh_2.snd.ob 0).cell 1).data.toInt), (num ((rh_2.snd.ob 0).cell 2).data.toInt), AV.e (E.int
  IntKind.i64 ((rh_2.snd.ob 0).cell 3).data.toInt)], Ob.box [(num t4_0), (num t4_1), (str t4_2), AV.own 3 9 t4_3, AV.own 4 39 t4_4],
  Ob.box [(num t5_0), (num t5_1), (str t5_2), AV.own 5 9 (t5_3 ++ (9, [E.str rh.fst.val.data.toStr]).snd), AV.own 6 39 (t5_4 ++ (39,
  elems PP 39 5 1 [E.sl 39 (rh_2.fst.val.data.cell 4).toList, E.sl 9 (rh_2.fst.val.data.cell 3).toList, E.str (rh_2.fst.val.data.cell 2).toStr, E.int IntKind.i64
  (rh_2.fst.val.data.cell 1).toInt, E.int IntKind.i64 (rh_2.fst.val.data.cell 0).toInt].reverse).snd)], Ob.vec 9 t4_3.length, Ob.vec 39 t4_4.length, Ob.vec 9 (t5_3 ++ (9, [E.str
  rh.fst.val.data.toStr]).snd).length, Ob.vec 39 (t5_4 ++ (39, elems PP 39 5 1 [E.sl 39 (rh_2.fst.val.data.cell 4).toList, E.sl 9 (rh_2.fst.val.data.cell 3).toList, E.str
  (rh_2.fst.val.data.cell 2).toStr, E.int IntKind.i64 (rh_2.fst.val.data.cell 1).toInt, E.int IntKind.i64 (rh_2.fst.val.data.cell 0).toInt].reverse).snd).length]) ([])) else none
  else none else none else none else none else none else none else (run none 91 [AV.ptr 0 0, (str [58])] [Ob.box [(str ((rh.snd.ob 0).cell 0).data.toStr), AV.e (E.int
  IntKind.i64 ((rh.snd.ob 0).cell 1).data.toInt), (num ((rh.snd.ob 0).cell 2).data.toInt), (num ((rh.snd.ob 0).cell 3).data.toInt)]]).bind fun
  rh_1 => bif okHeap [Ob.box [(str ((rh.snd.ob 0).cell 0).data.toStr), (num ((rh.snd.ob 0).cell 1).data.toInt), (num ((rh.snd.ob
  0).cell 2).data.toInt), (num ((rh.snd.ob 0).cell 3).data.toInt)]] rh_1.2 then bif okRes PP 0 rh_1.fst then bif !((rh_1.snd.ob 0).cell 2).data.toInt == 0
  then some (Out.mk (Ex.ret) (([uu, uu, uu, uu, AV.ptr 1 0] ++ List.replicate 101 uu)) ([Ob.box [(str ((rh_1.snd.ob 0).cell 0).data.toStr),
  (num ((rh_1.snd.ob 0).cell 1).data.toInt), (num ((rh_1.snd.ob 0).cell 2).data.toInt), (num ((rh_1.snd.ob 0).cell
  3).data.toInt)], Ob.box [(num t5_0), (num t5_1), (str t5_2), AV.own 2 9 t5_3, AV.own 3 39 t5_4], Ob.vec 9 t5_3.length, Ob.vec 39
  t5_4.length]) ([])) else bif decide (t5_3.length = t5_3.length) && decide ((t5_3.length + (9, [E.str rh.fst.val.data.toStr]).snd.length) * 16 ≤ 140737488355328) then (run none
  105 [AV.ptr 0 0, (num (IntKind.i64.wrap (t1 + 1)))] [Ob.box [(str ((rh_1.snd.ob 0).cell 0).data.toStr), (num ((rh_1.snd.ob 0).cell
  1).data.toInt), (num ((rh_1.snd.ob 0).cell 2).data.toInt), (num ((rh_1.snd.ob 0).cell 3).data.toInt)]]).bind fun rh_2 => bif okHeap [Ob.box
  [(str ((rh_1.snd.ob 0).cell 0).data.toStr), (num ((rh_1.snd.ob 0).cell 1).data.toInt), (num ((rh_1.snd.ob 0).cell 2).data.toInt),
  (num ((rh_1.snd.ob 0).cell 3).data.toInt)]] rh_2.2 then bif okRes PP 39 rh_2.fst then bif decide (t5_4.length = t5_4.length) && decide ((t5_4.length +
  (39, elems PP 39 5 1 [E.sl 39 (rh_2.fst.val.data.cell 4).toList, E.sl 9 (rh_2.fst.val.data.cell 3).toList, E.str (rh_2.fst.val.data.cell 2).toStr, E.int IntKind.i64
  (rh_2.fst.val.data.cell 1).toInt, E.int IntKind.i64 (rh_2.fst.val.data.cell 0).toInt].reverse).snd.length) * 80 ≤ 140737488355328) then bif (!((rh_2.snd.ob 0).cell 2).data.toInt
  == 0) == false then bif decide (0 ≤ ((rh_2.snd.ob 0).cell 1).data.toInt) then bif !(decide (((rh_2.snd.ob 0).cell 1).data.toInt < (↑((rh_2.snd.ob 0).cell 0).data.toStr.length :
  Int)) && pk ((rh_2.snd.ob 0).cell 0).data.toStr ((rh_2.snd.ob 0).cell 1).data.toInt == 44) then some (Out.mk (Ex.exit 0) (([AV.ptr 0 0, uu, uu, uu, AV.ptr 1 0,
  AV.ptr 2 0] ++ List.replicate 100 uu)) ([Ob.box [(str ((rh_2.snd.ob 0).cell 0).data.toStr), (num ((rh_2.snd.ob 0).cell 1).data.toInt), AV.e (E.int
  IntKind.i64 ((rh_2.snd.ob 0).cell 2).data.toInt), (num ((rh_2.snd.ob 0).cell 3).data.toInt)], Ob.box [(num t4_0), AV.e (E.int IntKind.i64
  t4_1), (str t4_2), AV.own 3 9 t4_3, AV.own 4 39 t4_4], Ob.box [(num t5_0), (num t5_1), (str t5_2), AV.own 5 9 (t5_3 ++ (9,
  [E.str rh.fst.val.data.toStr]).snd), AV.own 6 39 (t5_4 ++ (39, elems PP 39 5 1 [E.sl 39 (rh_2.fst.val.data.cell 4).toList, E.sl 9 (rh_2.fst.val.data.cell 3).toList, E.str
  (rh_2.fst.val.data.cell 2).toStr, E.int IntKind.i64 (rh_2.fst.val.data.cell 1).toInt, E.int IntKind.i64 (rh_2.fst.val.data.cell 0).toInt].reverse).snd)], Ob.vec 9 t4_3.length,
  Ob.vec 39 t4_4.length, Ob.vec 9 (t5_3 ++ (9, [E.str rh.fst.val.data.toStr]).snd).length, Ob.vec 39 (t5_4 ++ (39, elems PP 39 5 1 [E.sl 39 (rh_2.fst.val.data.cell
  4).toList, E.sl 9 (rh_2.fst.val.data.cell 3).toList, E.str (rh_2.fst.val.data.cell 2).toStr, E.int IntKind.i64 (rh_2.fst.val.data.cell 1).toInt, E.int IntKind.i64
  (rh_2.fst.val.data.cell 0).toInt].reverse).snd).length]) ([])) else (loop 151 1 lc_151_6 ([AV.ptr 0 0, (num t1), uu, uu, AV.ptr 1 0, AV.ptr 2 0] ++
  List.replicate 100 uu) [Ob.box [(str ((rh_2.snd.ob 0).cell 0).data.toStr), (num (IntKind.i64.wrap (((rh_2.snd.ob 0).cell 1).data.toInt + 1))),
  (num ((rh_2.snd.ob 0).cell 2).data.toInt), (num ((rh_2.snd.ob 0).cell 3).data.toInt)], Ob.box [(num t4_0), AV.e (E.int
  IntKind.i64 t4_1), (str t4_2), AV.own 3 9 t4_3, AV.own 4 39 t4_4], Ob.box [(num t5_0), (num t5_1), (str t5_2), AV.own 5 9
  (t5_3 ++ (9, [E.str rh.fst.val.data.toStr]).snd), AV.own 6 39 (t5_4 ++ (39, elems PP 39 5 1 [E.sl 39 (rh_2.fst.val.data.cell 4).toList, E.sl 9 (rh_2.fst.val.data.cell
  3).toList, E.str (rh_2.fst.val.data.cell 2).toStr, E.int IntKind.i64 (rh_2.fst.val.data.cell 1).toInt, E.int IntKind.i64 (rh_2.fst.val.data.cell 0).toInt].reverse).snd)], Ob.vec
  9 t4_3.length, Ob.vec 39 t4_4.length, Ob.vec 9 (t5_3 ++ (9, [E.str rh.fst.val.data.toStr]).snd).length, Ob.vec 39 (t5_4 ++ (39, elems PP 39 5 1 [E.sl 39
  (rh_2.fst.val.data.cell 4).toList, E.sl 9 (rh_2.fst.val.data.cell 3).toList, E.str (rh_2.fst.val.data.cell 2).toStr, E.int IntKind.i64 (rh_2.fst.val.data.cell 1).toInt, E.int
  IntKind.i64 (rh_2.fst.val.data.cell 0).toInt].reverse).snd).length]).bind fun o => some o else none else some (Out.mk (Ex.exit 0) (([AV.ptr 0 0, uu, uu, uu,
  AV.ptr 1 0, AV.ptr 2 0] ++ List.replicate 100 uu)) ([Ob.box [(str ((rh_2.snd.ob 0).cell 0).data.toStr), (num ((rh_2.snd.ob 0).cell 1).data.toInt),
  (num ((rh_2.snd.ob 0).cell 2).data.toInt), (num ((rh_2.snd.ob 0).cell 3).data.toInt)], Ob.box [(num t4_0), AV.e (E.int
  IntKind.i64 t4_1), (str t4_2), AV.own 3 9 t4_3, AV.own 4 39 t4_4], Ob.box [(num t5_0), (num t5_1), (str t5_2), AV.own 5 9
  (t5_3 ++ (9, [E.str rh.fst.val.data.toStr]).snd), AV.own 6 39 (t5_4 ++ (39, elems PP 39 5 1 [E.sl 39 (rh_2.fst.val.data.cell 4).toList, E.sl 9 (rh_2.fst.val.data.cell
  3).toList, E.str (rh_2.fst.val.data.cell 2).toStr, E.int IntKind.i64 (rh_2.fst.val.data.cell 1).toInt, E.int IntKind.i64 (rh_2.fst.val.data.cell 0).toInt].reverse).snd)], Ob.vec
  9 t4_3.length, Ob.vec 39 t4_4.length, Ob.vec 9 (t5_3 ++ (9, [E.str rh.fst.val.data.toStr]).snd).length, Ob.vec 39 (t5_4 ++ (39, elems PP 39 5 1 [E.sl 39
  (rh_2.fst.val.data.cell 4).toList, E.sl 9 (rh_2.fst.val.data.cell 3).toList, E.str (rh_2.fst.val.data.cell 2).toStr, E.int IntKind.i64 (rh_2.fst.val.data.cell 1).toInt, E.int
  IntKind.i64 (rh_2.fst.val.data.cell 0).toInt].reverse).snd).length]) ([])) else none else none else none else none else none else none else none else none else some (Out.mk
  (Ex.exit 0) (([AV.ptr 0 0, uu, uu, uu, AV.ptr 1 0, AV.ptr 2 0] ++ List.replicate 100 uu)) ([Ob.box [(str p0_0), (num p0_1), AV.e
  (E.int IntKind.i64 p0_2), (num p0_3)], Ob.box [(num t4_0), (num t4_1), (str t4_2), AV.own 3 9 t4_3, AV.own 4 39
  t4_4], Ob.box [(num t5_0), (num t5_1), (str t5_2), AV.own 5 9 t5_3, AV.own 6 39 t5_4], Ob.vec 9 t4_3.length, Ob.vec 39 t4_4.length,
  Ob.vec 9 t5_3.length, Ob.vec 39 t5_4.length]) ([])) := by kernel_rfl
theorem eq_rnumber (run : RunF) (loop : LoopF) (p0_0 : List UInt8) (p0_1 : Int) (p0_2 : Int) (p0_3 : Int) : bodyRun PP HH run loop none 153 [.ptr 0 0] [.box [.e
  (.str p0_0), .e (.int .i64 p0_1), .e (.int .i64 p0_2), .e (.int .i64 p0_3)]] = bif decide (0 ≤ p0_1) then bif decide (p0_1 < (↑p0_0.length : Int)) && pk p0_0 p0_1 == 45 then bif
  decide (0 ≤ IntKind.i64.wrap (p0_1 + 1)) then bif (!(decide (48 ≤ pk p0_0 (IntKind.i64.wrap (p0_1 + 1))) && decide (pk p0_0 (IntKind.i64.wrap (p0_1 + 1)) ≤ 57))) == false then
  bif (decide (p0_1 < (↑p0_0.length : Int)) && pk p0_0 p0_1 == 45) == true then bif decide (0 ≤ IntKind.i64.wrap (p0_1 + 1)) then bif decide (IntKind.i64.wrap (p0_1 + 1) <
  (↑p0_0.length : Int)) && pk p0_0 (IntKind.i64.wrap (p0_1 + 1)) == 48 then some (Res.ret ((num 0)), [Ob.box [(str p0_0), AV.e (E.int IntKind.i64
  (IntKind.i64.wrap (p0_1 + 1))), (num (bif p0_2 == 0 then 2 else p0_2)), (num (bif p0_2 == 0 then IntKind.i64.wrap (p0_1 + 1) else p0_3))]])
  else bif decide (0 ≤ IntKind.i64.wrap (p0_1 + 1)) then (loop 153 1 lc_153_10 ([AV.ptr 0 0, uu, uu, (num p0_1), (yes (decide (p0_1 <
  (↑p0_0.length : Int)) && pk p0_0 p0_1 == 45)), (num 0), (yes (decide (IntKind.i64.wrap (p0_1 + 1) < (↑p0_0.length : Int)) && pk p0_0 (IntKind.i64.wrap
  (p0_1 + 1)) == 48))] ++ List.replicate 80 uu) [Ob.box [(str p0_0), (num (IntKind.i64.wrap (p0_1 + 1))), (num p0_2), AV.e (E.int
  IntKind.i64 p0_3)]]).bind fun o => bif o.ex.isWay (Way.exit 0) then bif okFr ([AV.ptr 0 0, uu, uu, (num 0), (yes false), AV.e (E.int
  IntKind.i64 0)] ++ List.replicate 81 uu) o.2 && okHeap [Ob.box [(str []), (num 0), (num 0), (num 0)]] o.3
  then bif decide (4611686018427387904 < (List.getD o.fr 5 uu).data.toInt) then some (Res.ret ((num 0)), [Ob.box [(str ((o.hp.ob 0).cell
  0).data.toStr), (num ((o.hp.ob 0).cell 1).data.toInt), (num (bif ((o.hp.ob 0).cell 2).data.toInt == 0 then 1 else ((o.hp.ob 0).cell
  2).data.toInt)), (num (bif ((o.hp.ob 0).cell 2).data.toInt == 0 then (List.getD o.fr 3 uu).data.toInt else ((o.hp.ob 0).cell 3).data.toInt))]]) else bif
  (List.getD o.fr 4 uu).data.toBool then some (Res.ret ((num (IntKind.i64.wrap (0 - (List.getD o.fr 5 uu).data.toInt)))), [Ob.box [AV.e (E.str
  ((o.hp.ob 0).cell 0).data.toStr), (num ((o.hp.ob 0).cell 1).data.toInt), (num ((o.hp.ob 0).cell 2).data.toInt), AV.e (E.int IntKind.i64
  ((o.hp.ob 0).cell 3).data.toInt)]]) else some (Res.ret ((num (List.getD o.fr 5 uu).data.toInt)), [Ob.box [(str ((o.hp.ob 0).cell 0).data.toStr),
  (num ((o.hp.ob 0).cell 1).data.toInt), (num ((o.hp.ob 0).cell 2).data.toInt), (num ((o.hp.ob 0).cell 3).data.toInt)]])
  else none else none else none else none else bif decide (0 ≤ IntKind.i64.wrap (p0_1 + 1)) then (loop 153 1 lc_153_10 ([AV.ptr 0 0, uu, uu, AV.e (E.int IntKind.i64
  p0_1), (yes (decide (p0_1 < (↑p0_0.length : Int)) && pk p0_0 p0_1 == 45)), (num 0), (yes (decide (IntKind.i64.wrap (p0_1 + 1) < (↑p0_0.length :
  Int)) && pk p0_0 (IntKind.i64.wrap (p0_1 + 1)) == 48))] ++ List.replicate 80 uu) [Ob.box [(str p0_0), (num (IntKind.i64.wrap (p0_1 + 1))), AV.e
  (E.int IntKind.i64 p0_2), (num p0_3)]]).bind fun o => bif o.ex.isWay (Way.exit 0) then bif okFr ([AV.ptr 0 0, uu, uu, (num 0),
  (yes false), (num 0)] ++ List.replicate 81 uu) o.2 && okHeap [Ob.box [(str []), (num 0), (num 0),
  (num 0)]] o.3 then bif decide (4611686018427387904 < (List.getD o.fr 5 uu).data.toInt) then some (Res.ret ((num 0)), [Ob.box [AV.e
  (E.str ((o.hp.ob 0).cell 0).data.toStr), (num ((o.hp.ob 0).cell 1).data.toInt), (num (bif ((o.hp.ob 0).cell 2).data.toInt == 0 then 1 else
  ((o.hp.ob 0).cell 2).data.toInt)), (num (bif ((o.hp.ob 0).cell 2).data.toInt == 0 then (List.getD o.fr 3 uu).data.toInt else ((o.hp.ob 0).cell
  3).data.toInt))]]) else bif (List.getD o.fr 4 uu).data.toBool then some (Res.ret ((num (IntKind.i64.wrap (0 - (List.getD o.fr 5 uu).data.toInt)))),
  [Ob.box [(str ((o.hp.ob 0).cell 0).data.toStr), (num ((o.hp.ob 0).cell 1).data.toInt), (num ((o.hp.ob 0).cell 2).data.toInt), AV.e
  (E.int IntKind.i64 ((o.hp.ob 0).cell 3).data.toInt)]]) else some (Res.ret ((num (List.getD o.fr 5 uu).data.toInt)), [Ob.box [(str ((o.hp.ob
  0).cell 0).data.toStr), (num ((o.hp.ob 0).cell 1).data.toInt), (num ((o.hp.ob 0).cell 2).data.toInt), (num ((o.hp.ob
  0).cell 3).data.toInt)]]) else none else none else none else some (Res.ret ((num 0)), [Ob.box [(str p0_0), (num (IntKind.i64.wrap
  (p0_1 + 1))), (num (bif p0_2 == 0 then 2 else p0_2)), (num (bif p0_2 == 0 then IntKind.i64.wrap (p0_1 + 1) else p0_3))]]) else none else bif
  decide (0 ≤ p0_1) then bif (!(decide (48 ≤ pk p0_0 p0_1) && decide (pk p0_0 p0_1 ≤ 57))) == false then bif (decide (p0_1 < (↑p0_0.length : Int)) && pk p0_0 p0_1 == 45) == true
  then bif decide (0 ≤ p0_1) then bif decide (p0_1 < (↑p0_0.length : Int)) && pk p0_0 p0_1 == 48 then some (Res.ret ((num 0)), [Ob.box [(str p0_0), AV.e
  (E.int IntKind.i64 p0_1), (num (bif p0_2 == 0 then 2 else p0_2)), (num (bif p0_2 == 0 then p0_1 else p0_3))]]) else bif decide (0 ≤ p0_1)
  then (loop 153 1 lc_153_10 ([AV.ptr 0 0, uu, uu, (num p0_1), (yes (decide (p0_1 < (↑p0_0.length : Int)) && pk p0_0 p0_1 == 45)), AV.e
  (E.int IntKind.i64 0), (yes (decide (p0_1 < (↑p0_0.length : Int)) && pk p0_0 p0_1 == 48))] ++ List.replicate 80 uu) [Ob.box [(str p0_0), AV.e (E.int
  IntKind.i64 p0_1), (num p0_2), (num p0_3)]]).bind fun o => bif o.ex.isWay (Way.exit 0) then bif okFr ([AV.ptr 0 0, uu, uu, AV.e
  (E.int IntKind.i64 0), (yes false), (num 0)] ++ List.replicate 81 uu) o.2 && okHeap [Ob.box [(str []), (num 0), AV.e
  (E.int IntKind.i64 0), (num 0)]] o.3 then bif decide (4611686018427387904 < (List.getD o.fr 5 uu).data.toInt) then some (Res.ret (AV.e (E.int IntKind.i64
  0)), [Ob.box [(str ((o.hp.ob 0).cell 0).data.toStr), (num ((o.hp.ob 0).cell 1).data.toInt), (num (bif ((o.hp.ob 0).cell 2).data.toInt
  == 0 then 1 else ((o.hp.ob 0).cell 2).data.toInt)), (num (bif ((o.hp.ob 0).cell 2).data.toInt == 0 then (List.getD o.fr 3 uu).data.toInt else ((o.hp.ob
  0).cell 3).data.toInt))]]) else bif (List.getD o.fr 4 uu).data.toBool then some (Res.ret ((num (IntKind.i64.wrap (0 - (List.getD o.fr 5
  uu).data.toInt)))), [Ob.box [(str ((o.hp.ob 0).cell 0).data.toStr), (num ((o.hp.ob 0).cell 1).data.toInt), (num ((o.hp.ob
  0).cell 2).data.toInt), (num ((o.hp.ob 0).cell 3).data.toInt)]]) else some (Res.ret ((num (List.getD o.fr 5 uu).data.toInt)), [Ob.box
  [(str ((o.hp.ob 0).cell 0).data.toStr), (num ((o.hp.ob 0).cell 1).data.toInt), (num ((o.hp.ob 0).cell 2).data.toInt), AV.e (E.int
  IntKind.i64 ((o.hp.ob 0).cell 3).data.toInt)]]) else none else none else none else none else bif decide (0 ≤ p0_1) then (loop 153 1 lc_153_10 ([AV.ptr 0 0, uu, uu,
  (num p0_1), (yes (decide (p0_1 < (↑p0_0.length : Int)) && pk p0_0 p0_1 == 45)), (num 0), (yes (decide (p0_1 < (↑p0_0.length
  : Int)) && pk p0_0 p0_1 == 48))] ++ List.replicate 80 uu) [Ob.box [(str p0_0), (num p0_1), (num p0_2), AV.e (E.int IntKind.i64
  p0_3)]]).bind fun o => bif o.ex.isWay (Way.exit 0) then bif okFr ([AV.ptr 0 0, uu, uu, (num 0), (yes false), (num 0)] ++
  List.replicate 81 uu) o.2 && okHeap [Ob.box [(str []), (num 0), (num 0), (num 0)]] o.3 then bif decide
  (4611686018427387904 < (List.getD o.fr 5 uu).data.toInt) then some (Res.ret ((num 0)), [Ob.box [(str ((o.hp.ob 0).cell 0).data.toStr), AV.e (E.int
  IntKind.i64 ((o.hp.ob 0).cell 1).data.toInt), (num (bif ((o.hp.ob 0).cell 2).data.toInt == 0 then 1 else ((o.hp.ob 0).cell 2).data.toInt)), AV.e (E.int
  IntKind.i64 (bif ((o.hp.ob 0).cell 2).data.toInt == 0 then (List.getD o.fr 3 uu).data.toInt else ((o.hp.ob 0).cell 3).data.toInt))]]) else bif (List.getD o.fr 4
  uu).data.toBool then some (Res.ret ((num (IntKind.i64.wrap (0 - (List.getD o.fr 5 uu).data.toInt)))), [Ob.box [(str ((o.hp.ob 0).cell
  0).data.toStr), (num ((o.hp.ob 0).cell 1).data.toInt), (num ((o.hp.ob 0).cell 2).data.toInt), (num ((o.hp.ob 0).cell
  3).data.toInt)]]) else some (Res.ret ((num (List.getD o.fr 5 uu).data.toInt)), [Ob.box [(str ((o.hp.ob 0).cell 0).data.toStr), AV.e (E.int
  IntKind.i64 ((o.hp.ob 0).cell 1).data.toInt), (num ((o.hp.ob 0).cell 2).data.toInt), (num ((o.hp.ob 0).cell 3).data.toInt)]]) else none else
  none else none else some (Res.ret ((num 0)), [Ob.box [(str p0_0), (num p0_1), (num (bif p0_2 == 0 then 2 else
  p0_2)), (num (bif p0_2 == 0 then p0_1 else p0_3))]]) else none else none := by kernel_rfl
theorem eq_rnumberL10 (run : RunF) (loop : LoopF) (p0_0 : List UInt8) (p0_1 : Int) (p0_2 : Int) (p0_3 : Int) (t3 : Int) (t4 : Bool) (t5 : Int) (t6 : Bool) : bodyLoop
  PP HH run loop 153 1 lc_153_10 ((((((List.replicate 87 uu).set 0 (.ptr 0 0)).set 3 (.e (.int .i64 t3))).set 4 (.e (.bool t4))).set 5 (.e (.int .i64
  t5))).set 6 (.e (.bool t6))) [.box [.e (.str p0_0), .e (.int .i64 p0_1), .e (.int .i64 p0_2), .e (.int .i64 p0_3)]] = bif decide (0 ≤ p0_1) then bif (decide (48 ≤ pk p0_0 p0_1)
  && decide (pk p0_0 p0_1 ≤ 57)) == true then bif t6 == true then bif !decide (t3 < p0_1) then bif decide (461168601842738790 < t5) then (loop 153 1 lc_153_10 ([AV.ptr 0 0,
  uu, uu, (num t3), (yes t4), (num 4611686018427387905), (yes t6)] ++ List.replicate 80 uu) [Ob.box [AV.e
  (E.str p0_0), (num (IntKind.i64.wrap (p0_1 + 1))), (num p0_2), (num p0_3)]]).bind fun o => some o else bif decide (0 ≤
  p0_1) && decide (p0_1 < (↑p0_0.length : Int)) then bif decide (4611686018427387904 < IntKind.i64.wrap (IntKind.i64.wrap (10 * t5) + IntKind.i64.wrap (IntKind.u8.wrap
  ((↑(p0_0.getD p0_1.toNat 0).toNat : Int) - 48)))) then (loop 153 1 lc_153_10 ([AV.ptr 0 0, uu, uu, (num t3), (yes t4), AV.e (E.int
  IntKind.i64 4611686018427387905), (yes t6)] ++ List.replicate 80 uu) [Ob.box [(str p0_0), (num (IntKind.i64.wrap (p0_1 + 1))), AV.e (E.int
  IntKind.i64 p0_2), (num p0_3)]]).bind fun o => some o else (loop 153 1 lc_153_10 ([AV.ptr 0 0, uu, uu, (num t3), AV.e (E.bool
  t4), (num (IntKind.i64.wrap (IntKind.i64.wrap (10 * t5) + IntKind.i64.wrap (IntKind.u8.wrap ((↑(p0_0.getD p0_1.toNat 0).toNat : Int) - 48))))), AV.e (E.bool
  t6)] ++ List.replicate 80 uu) [Ob.box [(str p0_0), (num (IntKind.i64.wrap (p0_1 + 1))), (num p0_2), AV.e (E.int IntKind.i64
  p0_3)]]).bind fun o => some o else none else some (Out.mk (Ex.exit 0) (([AV.ptr 0 0, uu, uu, (num t3), (yes t4), AV.e (E.int IntKind.i64
  t5)] ++ List.replicate 81 uu)) ([Ob.box [(str p0_0), (num p0_1), (num p0_2), (num p0_3)]]) ([])) else bif
  decide (461168601842738790 < t5) then (loop 153 1 lc_153_10 ([AV.ptr 0 0, uu, uu, (num t3), (yes t4), AV.e (E.int IntKind.i64
  4611686018427387905), (yes t6)] ++ List.replicate 80 uu) [Ob.box [(str p0_0), (num (IntKind.i64.wrap (p0_1 + 1))), AV.e (E.int IntKind.i64
  p0_2), (num p0_3)]]).bind fun o => some o else bif decide (0 ≤ p0_1) && decide (p0_1 < (↑p0_0.length : Int)) then bif decide (4611686018427387904 <
  IntKind.i64.wrap (IntKind.i64.wrap (10 * t5) + IntKind.i64.wrap (IntKind.u8.wrap ((↑(p0_0.getD p0_1.toNat 0).toNat : Int) - 48)))) then (loop 153 1 lc_153_10 ([AV.ptr 0 0,
  uu, uu, (num t3), (yes t4), (num 4611686018427387905), (yes t6)] ++ List.replicate 80 uu) [Ob.box [AV.e
  (E.str p0_0), (num (IntKind.i64.wrap (p0_1 + 1))), (num p0_2), (num p0_3)]]).bind fun o => some o else (loop 153 1
  lc_153_10 ([AV.ptr 0 0, uu, uu, (num t3), (yes t4), (num (IntKind.i64.wrap (IntKind.i64.wrap (10 * t5) +
  IntKind.i64.wrap (IntKind.u8.wrap ((↑(p0_0.getD p0_1.toNat 0).toNat : Int) - 48))))), (yes t6)] ++ List.replicate 80 uu) [Ob.box [(str p0_0), AV.e (E.int
  IntKind.i64 (IntKind.i64.wrap (p0_1 + 1))), (num p0_2), (num p0_3)]]).bind fun o => some o else none else some (Out.mk (Ex.exit 0) (([AV.ptr
  0 0, uu, uu, (num t3), (yes t4), (num t5)] ++ List.replicate 81 uu)) ([Ob.box [(str p0_0), AV.e (E.int
  IntKind.i64 p0_1), (num p0_2), (num p0_3)]]) ([])) else none := by kernel_rfl
theorem eq_resc (run : RunF) (loop : LoopF) (p0_0 : List UInt8) (p0_1 : Int) (p0_2 : Int) (p0_3 : Int) : bodyRun PP HH run loop none 168 [.ptr 0 0] [.box [.e (.str
  p0_0), .e (.int .i64 p0_1), .e (.int .i64 p0_2), .e (.int .i64 p0_3)]] = bif decide (0 ≤ IntKind.i64.wrap (p0_1 + 1)) then bif (decide (IntKind.i64.wrap (p0_1 + 1) <
  (↑p0_0.length : Int)) && pk p0_0 (IntKind.i64.wrap (p0_1 + 1)) == 34) == false then bif decide (0 ≤ IntKind.i64.wrap (p0_1 + 1)) then bif decide (IntKind.i64.wrap (p0_1 + 1) <
  (↑p0_0.length : Int)) && pk p0_0 (IntKind.i64.wrap (p0_1 + 1)) == 92 then bif decide (0 ≤ IntKind.i64.wrap (IntKind.i64.wrap (IntKind.i64.wrap (p0_1 + 1) + 1) - 1)) && decide
  (IntKind.i64.wrap (IntKind.i64.wrap (IntKind.i64.wrap (p0_1 + 1) + 1) - 1) < (↑p0_0.length : Int)) then some (Res.ret (AV.e (E.int IntKind.u8 (↑(p0_0.getD (IntKind.i64.wrap
  (IntKind.i64.wrap (IntKind.i64.wrap (p0_1 + 1) + 1) - 1)).toNat 0).toNat : Int))), [Ob.box [(str p0_0), (num (IntKind.i64.wrap (IntKind.i64.wrap (p0_1 +
  1) + 1))), (num p0_2), (num p0_3)]]) else none else (run none 91 [AV.ptr 0 0, (str [120])] [Ob.box [(str p0_0), AV.e (E.int
  IntKind.i64 (IntKind.i64.wrap (p0_1 + 1))), (num p0_2), (num p0_3)]]).bind fun rh => bif okHeap [Ob.box [(str p0_0), AV.e (E.int
  IntKind.i64 (IntKind.i64.wrap (p0_1 + 1))), (num p0_2), (num p0_3)]] rh.2 then bif okRes PP 0 rh.fst then (loop 168 1 lc_168_9
  ([AV.ptr 0 0, uu, uu, (num p0_1), (num 0), (num 0)] ++ List.replicate 108 uu) [Ob.box [AV.e (E.str
  ((rh.snd.ob 0).cell 0).data.toStr), (num ((rh.snd.ob 0).cell 1).data.toInt), (num ((rh.snd.ob 0).cell 2).data.toInt), AV.e (E.int
  IntKind.i64 ((rh.snd.ob 0).cell 3).data.toInt)]]).bind fun o => bif o.ex.isWay (Way.exit 0) then bif okFr ([AV.ptr 0 0, uu, uu, (num 0), AV.e
  (E.int IntKind.i64 0)] ++ List.replicate 109 uu) o.2 && okHeap [Ob.box [(str []), (num 0), (num 0), AV.e (E.int IntKind.i64
  0)]] o.3 then bif bif bif ((o.hp.ob 0).cell 2).data.toInt == 0 then decide (32 ≤ (List.getD o.fr 4 uu).data.toInt) else false then decide ((List.getD o.fr 4
  uu).data.toInt ≤ 126) else false then some (Res.ret (AV.e (E.int IntKind.u8 (IntKind.u8.wrap (List.getD o.fr 4 uu).data.toInt))), [Ob.box [(str ((o.hp.ob
  0).cell 0).data.toStr), (num ((o.hp.ob 0).cell 1).data.toInt), (num (bif ((o.hp.ob 0).cell 2).data.toInt == 0 then 2 else ((o.hp.ob 0).cell
  2).data.toInt)), (num (bif ((o.hp.ob 0).cell 2).data.toInt == 0 then (List.getD o.fr 3 uu).data.toInt else ((o.hp.ob 0).cell 3).data.toInt))]]) else some
  (Res.ret (AV.e (E.int IntKind.u8 (IntKind.u8.wrap (List.getD o.fr 4 uu).data.toInt))), [Ob.box [(str ((o.hp.ob 0).cell 0).data.toStr), AV.e (E.int IntKind.i64
  ((o.hp.ob 0).cell 1).data.toInt), (num ((o.hp.ob 0).cell 2).data.toInt), (num ((o.hp.ob 0).cell 3).data.toInt)]]) else none else bif
  o.ex.isWay Way.ret then bif okFr ([uu, uu, AV.e (E.int IntKind.u8 0)] ++ List.replicate 111 uu) o.2 && okHeap [Ob.box [(str []), AV.e (E.int IntKind.i64
  0), (num 0), (num 0)]] o.3 then some (Res.ret (AV.e (E.int IntKind.u8 (List.getD o.fr 2 uu).data.toInt)), [Ob.box [AV.e (E.str
  ((o.hp.ob 0).cell 0).data.toStr), (num ((o.hp.ob 0).cell 1).data.toInt), (num ((o.hp.ob 0).cell 2).data.toInt), AV.e (E.int IntKind.i64
  ((o.hp.ob 0).cell 3).data.toInt)]]) else none else none else none else none else none else bif decide (0 ≤ IntKind.i64.wrap (IntKind.i64.wrap (IntKind.i64.wrap (p0_1 + 1) + 1) -
  1)) && decide (IntKind.i64.wrap (IntKind.i64.wrap (IntKind.i64.wrap (p0_1 + 1) + 1) - 1) < (↑p0_0.length : Int)) then some (Res.ret (AV.e (E.int IntKind.u8 (↑(p0_0.getD
  (IntKind.i64.wrap (IntKind.i64.wrap (IntKind.i64.wrap (p0_1 + 1) + 1) - 1)).toNat 0).toNat : Int))), [Ob.box [(str p0_0), (num (IntKind.i64.wrap
  (IntKind.i64.wrap (p0_1 + 1) + 1))), (num p0_2), (num p0_3)]]) else none else none := by kernel_rfl
theorem eq_rescL9 (run : RunF) (loop : LoopF) (p0_0 : List UInt8) (p0_1 : Int) (p0_2 : Int) (p0_3 : Int) (t3 : Int) (t4 : Int) (t5 : Int) : bodyLoop PP HH run loop
  168 1 lc_168_9 (((((List.replicate 114 uu).set 0 (.ptr 0 0)).set 3 (.e (.int .i64 t3))).set 4 (.e (.int .i64 t4))).set 5 (.e (.int .i64 t5))) [.box [.e (.str p0_0), .e
  (.int .i64 p0_1), .e (.int .i64 p0_2), .e (.int .i64 p0_3)]] = bif decide (t5 < 2) == true then bif p0_2 == 0 then bif decide ((↑p0_0.length : Int) ≤ p0_1) == false then bif
  decide (0 ≤ p0_1) && decide (p0_1 < (↑p0_0.length : Int)) then bif decide (hexI (↑(p0_0.getD p0_1.toNat 0).toNat : Int) < 0) then some (Out.mk (Ex.ret) (([uu, uu,
  AV.e (E.int IntKind.u8 0)] ++ List.replicate 111 uu)) ([Ob.box [(str p0_0), (num p0_1), (num (bif p0_2 == 0 then 2 else p0_2)),
  (num (bif p0_2 == 0 then p0_1 else p0_3))]]) ([])) else bif decide (0 ≤ p0_1) && decide (p0_1 < (↑p0_0.length : Int)) then (loop 168 1 lc_168_9 ([AV.ptr 0 0,
  uu, uu, (num t3), (num (IntKind.i64.wrap (IntKind.i64.wrap (16 * t4) + hexI (↑(p0_0.getD p0_1.toNat 0).toNat : Int)))), AV.e
  (E.int IntKind.i64 (IntKind.i64.wrap (t5 + 1)))] ++ List.replicate 108 uu) [Ob.box [(str p0_0), (num (IntKind.i64.wrap (p0_1 + 1))), AV.e (E.int
  IntKind.i64 p0_2), (num p0_3)]]).bind fun o => some o else none else none else some (Out.mk (Ex.ret) (([uu, uu, AV.e (E.int IntKind.u8 0)] ++
  List.replicate 111 uu)) ([Ob.box [(str p0_0), (num p0_1), (num (bif p0_2 == 0 then 2 else p0_2)), (num (bif
  p0_2 == 0 then p0_1 else p0_3))]]) ([])) else some (Out.mk (Ex.exit 0) (([AV.ptr 0 0, uu, uu, (num t3), (num t4)] ++
  List.replicate 109 uu)) ([Ob.box [(str p0_0), (num p0_1), (num p0_2), (num p0_3)]]) ([])) else some (Out.mk
  (Ex.exit 0) (([AV.ptr 0 0, uu, uu, (num t3), (num t4)] ++ List.replicate 109 uu)) ([Ob.box [(str p0_0), AV.e (E.int
  IntKind.i64 p0_1), (num p0_2), (num p0_3)]]) ([])) := by kernel_rfl
theorem eq_rnm (run : RunF) (loop : LoopF) (p0_0 : List UInt8) (p0_1 : Int) (p0_2 : Int) (p0_3 : Int) : bodyRun PP HH run loop none 140 [.ptr 0 0] [.box [.e (.str
  p0_0), .e (.int .i64 p0_1), .e (.int .i64 p0_2), .e (.int .i64 p0_3)]] = bif decide (0 ≤ p0_1) then bif !(decide (97 ≤ pk p0_0 p0_1) && decide (pk p0_0 p0_1 ≤ 122) || !true &&
  (decide (48 ≤ pk p0_0 p0_1) && decide (pk p0_0 p0_1 ≤ 57) || pk p0_0 p0_1 == 45)) then some (Res.ret ((str [])), [Ob.box [(str p0_0), (num p0_1),
  (num (bif p0_2 == 0 then 2 else p0_2)), (num (bif p0_2 == 0 then p0_1 else p0_3))]]) else (loop 140 1 lc_140_5 ([AV.ptr 0 0, uu,
  uu, (num p0_1)] ++ List.replicate 32 uu) [Ob.box [(str p0_0), (num p0_1), (num p0_2), AV.e (E.int
  IntKind.i64 p0_3)]]).bind fun o => bif o.ex.isWay (Way.exit 0) then bif okFr ([AV.ptr 0 0, uu, uu, (num 0)] ++ List.replicate 32 uu) o.2 &&
  okHeap [Ob.box [(str []), (num 0), (num 0), (num 0)]] o.3 then bif decide (0 ≤ (List.getD o.fr 3
  uu).data.toInt) && decide ((List.getD o.fr 3 uu).data.toInt ≤ ((o.hp.ob 0).cell 1).data.toInt) && decide (((o.hp.ob 0).cell 1).data.toInt ≤ (↑((o.hp.ob 0).cell
  0).data.toStr.length : Int)) then some (Res.ret ((str (List.drop (List.getD o.fr 3 uu).data.toInt.toNat (List.take ((o.hp.ob 0).cell 1).data.toInt.toNat ((o.hp.ob
  0).cell 0).data.toStr)))), [Ob.box [(str ((o.hp.ob 0).cell 0).data.toStr), (num ((o.hp.ob 0).cell 1).data.toInt), (num ((o.hp.ob
  0).cell 2).data.toInt), (num ((o.hp.ob 0).cell 3).data.toInt)]]) else none else none else none else none := by kernel_rfl
theorem eq_rnmL5 (run : RunF) (loop : LoopF) (p0_0 : List UInt8) (p0_1 : Int) (p0_2 : Int) (p0_3 : Int) (t3 : Int) : bodyLoop PP HH run loop 140 1 lc_140_5
  (((List.replicate 36 uu).set 0 (.ptr 0 0)).set 3 (.e (.int .i64 t3))) [.box [.e (.str p0_0), .e (.int .i64 p0_1), .e (.int .i64 p0_2), .e (.int .i64 p0_3)]] = bif decide (0
  ≤ p0_1) then bif decide (97 ≤ pk p0_0 p0_1) && decide (pk p0_0 p0_1 ≤ 122) || !false && (decide (48 ≤ pk p0_0 p0_1) && decide (pk p0_0 p0_1 ≤ 57) || pk p0_0 p0_1 == 45) then
  (loop 140 1 lc_140_5 ([AV.ptr 0 0, uu, uu, (num t3)] ++ List.replicate 32 uu) [Ob.box [(str p0_0), AV.e (E.int IntKind.i64
  (IntKind.i64.wrap (p0_1 + 1))), (num p0_2), (num p0_3)]]).bind fun o => some o else some (Out.mk (Ex.exit 0) (([AV.ptr 0 0, uu,
  uu, (num t3)] ++ List.replicate 32 uu)) ([Ob.box [(str p0_0), (num p0_1), (num p0_2), AV.e (E.int
  IntKind.i64 p0_3)]]) ([])) else none := by kernel_rfl
theorem eq_Same (run : RunF) (loop : LoopF) (a0 : List E) (a1 : List E) : bodyRun PP HH run loop none 49 [.e (.sl 9 a0), .e (.sl 9 a1)] [] = bif !(↑a0.length :
  Int) == (↑a1.length : Int) then some (Res.ret ((yes false)), []) else (loop 49 0 lc_49_4 ([AV.e (E.sl 9 a0), AV.e (E.sl 9 a1), uu, uu, uu, AV.e (E.int
  IntKind.i64 0)] ++ List.replicate 20 uu) []).bind fun o => bif o.ex.isWay (Way.exit 0) then bif okFr (List.replicate 26 uu) o.2 && okHeap [] o.3 then some (Res.ret
  ((yes true)), []) else none else bif o.ex.isWay Way.ret then bif okFr ([uu, uu, uu, uu, (yes false)] ++ List.replicate 21 uu) o.2 &&
  okHeap [] o.3 then some (Res.ret ((yes (List.getD o.fr 4 uu).data.toBool)), []) else none else none := by kernel_rfl
theorem eq_SameL4 (run : RunF) (loop : LoopF) (t0 : List E) (t1 : List E) (t5 : Int) : bodyLoop PP HH run loop 49 0 lc_49_4 ((((List.replicate 26 uu).set 0
  (.e (.sl 9 t0))).set 1 (.e (.sl 9 t1))).set 5 (.e (.int .i64 t5))) [] = bif decide (t5 < (↑t0.length : Int)) then bif decide (0 ≤ t5) && decide (t5 < (↑t0.length : Int)) then bif
  decide (0 ≤ t5) && decide (t5 < (↑t1.length : Int)) then bif !strEq ((t0.getD t5.toNat E.nili).cell 0).toStr ((t1.getD t5.toNat E.nili).cell 0).toStr then some (Out.mk (Ex.ret)
  (([uu, uu, uu, uu, (yes false)] ++ List.replicate 21 uu)) ([]) ([])) else (loop 49 0 lc_49_4 ([AV.e (E.sl 9 t0), AV.e (E.sl 9 t1), uu,
  uu, uu, (num (IntKind.i64.wrap (t5 + 1)))] ++ List.replicate 20 uu) []).bind fun o => some o else none else none else some (Out.mk (Ex.exit
  0) ((List.replicate 26 uu)) ([]) ([])) := by kernel_rfl

end Go.Proofs.YtghdhhmlmdohkaaGreatDoor
