/- The equations of functions, as a program of mine prints them. -/
import Derived.Test.YtghdhhmlmdohkaaDoorBase
namespace Go.Proofs.YtghdhhmlmdohkaaDoor
open Go Go.Den
set_option maxRecDepth 100000
set_option maxHeartbeats 0

theorem eq_Write (run : RunF) (loop : LoopF) (a0_0 : Int) (a0_1 : Int) (a0_2 : List UInt8) (a0_3 : List E) (a0_4 : List E) : bodyRun PP HH run loop none 21 [.agg
  [.e (.int .i64 a0_0), .e (.int .i64 a0_1), .e (.str a0_2), .e (.sl 9 a0_3), .e (.sl 38 a0_4)]] [] = (run none 45 [AV.agg [(num a0_0), AV.e (E.int IntKind.i64
  a0_1), (str a0_2), AV.e (E.sl 9 a0_3), AV.e (E.sl 38 a0_4)], (num 6)] []).bind fun rh => bif okHeap [] rh.2 then bif okRes PP 3 rh.fst then bif
  decide (6 < rh.fst.val.data.toInt) then some (Res.ret (AV.tup [(str []), (num 27)]), []) else (run none 46 [AV.agg [(num a0_0), AV.e
  (E.int IntKind.i64 a0_1), (str a0_2), AV.e (E.sl 9 a0_3), AV.e (E.sl 38 a0_4)]] []).bind fun rh => bif okHeap [] rh.2 then bif okRes PP 29 rh.fst then bif
  !rh.fst.val.data.toInt == 0 then some (Res.ret (AV.tup [(str []), (num rh.fst.val.data.toInt)]), []) else (run none 47 [AV.ptr 0 0, AV.agg [AV.e (E.int
  IntKind.i64 a0_0), (num a0_1), (str a0_2), AV.e (E.sl 9 a0_3), AV.e (E.sl 38 a0_4)]] [Ob.box [AV.nsp 0 69, AV.own 1 5 []], Ob.vec 5 0]).bind fun rh =>
  bif okHeap [Ob.box [AV.nsp 0 69, AV.own 1 5 []], Ob.vec 5 0] rh.2 then bif okRes PP 4 rh.fst then bif !rh.fst.val.data.toBool then some (Res.ret (AV.tup [(str []),
  (num 5)]), []) else bif decide ((rh.snd.ob 1).len = ((rh.snd.ob 0).cell 1).data.toList.length) && ((rh.snd.ob 0).cell 1).data.toList.all isByte && decide
  ((rh.snd.ob 1).len ≤ 9223372036854775807) then some (Res.ret (AV.tup [(str (unbytes ((rh.snd.ob 0).cell 1).data.toList)), (num 0)]), []) else none else
  none else none else none else none else none else none := by kernel_rfl
theorem eq_put (run : RunF) (loop : LoopF) (p0_1 : List E) (a1_0 : Int) (a1_1 : Int) (a1_2 : List UInt8) (a1_3 : List E) (a1_4 : List E) : bodyRun PP HH run loop
  none 47 [.ptr 0 0, .agg [.e (.int .i64 a1_0), .e (.int .i64 a1_1), .e (.str a1_2), .e (.sl 9 a1_3), .e (.sl 38 a1_4)]] [.box [.nsp 0 69, .own 1 5 p0_1], .vec 5 p0_1.length] = bif
  a1_0 == 1 then bif decide (-9223372036854775808 ≤ a1_1) && decide (a1_1 ≤ 9223372036854775807) then bif decide (p0_1.length = p0_1.length) && decide ((p0_1.length + (bytesE
  (Lib.itoa a1_1)).length) * 1 ≤ 140737488355328) then some (Res.ret ((yes (decide ((↑(p0_1 ++ bytesE (Lib.itoa a1_1)).length : Int) ≤ 65536)))), [Ob.box [AV.nsp 0 69,
  AV.own 1 5 (p0_1 ++ bytesE (Lib.itoa a1_1))], Ob.vec 5 (p0_1 ++ bytesE (Lib.itoa a1_1)).length]) else none else none else bif a1_0 == 2 then bif decide (65536 < IntKind.i64.wrap
  ((↑p0_1.length : Int) + (↑a1_2.length : Int))) then some (Res.ret ((yes false)), [Ob.box [AV.nsp 0 69, AV.own 1 5 p0_1], Ob.vec 5 p0_1.length]) else (run none 90 [AV.ptr
  0 0, (str a1_2)] [Ob.box [AV.nsp 0 69, AV.own 1 5 p0_1], Ob.vec 5 p0_1.length]).bind fun rh => bif okHeap [Ob.box [AV.nsp 0 69, AV.own 1 5 p0_1], Ob.vec 5 p0_1.length]
  rh.2 then bif okRes PP 0 rh.fst then some (Res.ret ((yes (decide ((↑((rh.snd.ob 0).cell 1).data.toList.length : Int) ≤ 65536)))), [Ob.box [AV.nsp 0 69, AV.own 1 5
  ((rh.snd.ob 0).cell 1).data.toList], Ob.vec 5 (rh.snd.ob 1).len]) else none else none else bif a1_0 == 3 then bif a1_1 == 0 then bif decide (p0_1.length = p0_1.length) && decide
  ((p0_1.length + 5) * 1 ≤ 140737488355328) then some (Res.ret ((yes (decide ((↑(p0_1 ++ [E.int IntKind.u8 (↑102 : Int), E.int IntKind.u8 (↑97 : Int), E.int IntKind.u8
  (↑108 : Int), E.int IntKind.u8 (↑115 : Int), E.int IntKind.u8 (↑101 : Int)]).length : Int) ≤ 65536)))), [Ob.box [AV.nsp 0 69, AV.own 1 5 (p0_1 ++ [E.int IntKind.u8 (↑102 : Int),
  E.int IntKind.u8 (↑97 : Int), E.int IntKind.u8 (↑108 : Int), E.int IntKind.u8 (↑115 : Int), E.int IntKind.u8 (↑101 : Int)])], Ob.vec 5 (p0_1 ++ bytesE [102, 97, 108, 115,
  101]).length]) else none else bif decide (p0_1.length = p0_1.length) && decide ((p0_1.length + 4) * 1 ≤ 140737488355328) then some (Res.ret ((yes (decide ((↑(p0_1 ++
  [E.int IntKind.u8 (↑116 : Int), E.int IntKind.u8 (↑114 : Int), E.int IntKind.u8 (↑117 : Int), E.int IntKind.u8 (↑101 : Int)]).length : Int) ≤ 65536)))), [Ob.box [AV.nsp 0 69,
  AV.own 1 5 (p0_1 ++ [E.int IntKind.u8 (↑116 : Int), E.int IntKind.u8 (↑114 : Int), E.int IntKind.u8 (↑117 : Int), E.int IntKind.u8 (↑101 : Int)])], Ob.vec 5 (p0_1 ++ bytesE [116,
  114, 117, 101]).length]) else none else bif a1_0 == 6 then (loop 47 2 lc_47_6 ([AV.ptr 0 0, uu, uu, AV.ptr 2 0, uu, (str [123]), (str [125])] ++
  List.replicate 8 uu ++ [AV.e (E.sl 38 a1_4), (num (↑a1_4.length : Int)), (num 0)] ++ List.replicate 65 uu) [Ob.box [AV.nsp 0 69,
  AV.own 1 5 p0_1], Ob.vec 5 p0_1.length, Ob.box [(num a1_0), (num a1_1), (str a1_2), AV.e (E.sl 9 a1_3), AV.e (E.sl 38 a1_4)]]).bind
  fun o => bif o.ex.isWay (Way.exit 1) then bif okFr ([AV.ptr 0 0, uu, uu, AV.ptr 2 0, uu, (str []), (str [])] ++ List.replicate 76 uu) o.2 &&
  okHeap [Ob.box [AV.nsp 0 69, AV.own 1 5 []], Ob.vec 5 0, Ob.box [(num 0), (num 0), (str []), AV.e (E.sl 9 []), AV.e (E.sl 38 [])]]
  o.3 then bif (↑((o.hp.ob 2).cell 4).data.toList.length : Int) == 0 then bif decide ((o.hp.ob 1).len = ((o.hp.ob 0).cell 1).data.toList.length) && decide ((((o.hp.ob 0).cell
  1).data.toList.length + (bytesE (List.getD o.fr 5 uu).data.toStr).length) * 1 ≤ 140737488355328) then bif decide ((((o.hp.ob 0).cell 1).data.toList ++ bytesE (List.getD
  o.fr 5 uu).data.toStr).length = (((o.hp.ob 0).cell 1).data.toList ++ bytesE (List.getD o.fr 5 uu).data.toStr).length) && decide (((((o.hp.ob 0).cell 1).data.toList ++
  bytesE (List.getD o.fr 5 uu).data.toStr).length + (bytesE (List.getD o.fr 6 uu).data.toStr).length) * 1 ≤ 140737488355328) then some (Res.ret ((yes (decide
  ((↑(((o.hp.ob 0).cell 1).data.toList ++ bytesE (List.getD o.fr 5 uu).data.toStr ++ bytesE (List.getD o.fr 6 uu).data.toStr).length : Int) ≤ 65536)))), [Ob.box [AV.nsp
  0 69, AV.own 1 5 (((o.hp.ob 0).cell 1).data.toList ++ bytesE (List.getD o.fr 5 uu).data.toStr ++ bytesE (List.getD o.fr 6 uu).data.toStr)], Ob.vec 5 (((o.hp.ob
  0).cell 1).data.toList ++ bytesE (List.getD o.fr 5 uu).data.toStr ++ bytesE (List.getD o.fr 6 uu).data.toStr).length]) else none else none else bif decide ((o.hp.ob
  1).len = ((o.hp.ob 0).cell 1).data.toList.length) && decide ((((o.hp.ob 0).cell 1).data.toList.length + (bytesE (List.getD o.fr 6 uu).data.toStr).length) * 1 ≤
  140737488355328) then some (Res.ret ((yes (decide ((↑(((o.hp.ob 0).cell 1).data.toList ++ bytesE (List.getD o.fr 6 uu).data.toStr).length : Int) ≤ 65536)))),
  [Ob.box [AV.nsp 0 69, AV.own 1 5 (((o.hp.ob 0).cell 1).data.toList ++ bytesE (List.getD o.fr 6 uu).data.toStr)], Ob.vec 5 (((o.hp.ob 0).cell 1).data.toList ++ bytesE
  (List.getD o.fr 6 uu).data.toStr).length]) else none else none else bif o.ex.isWay Way.ret then bif okFr ([uu, uu, uu, uu, (yes false)] ++
  List.replicate 78 uu) o.2 && okHeap [Ob.box [AV.nsp 0 69, AV.own 1 5 []], Ob.vec 5 0] o.3 then some (Res.ret ((yes (List.getD o.fr 4 uu).data.toBool)),
  [Ob.box [AV.nsp 0 69, AV.own 1 5 ((o.hp.ob 0).cell 1).data.toList], Ob.vec 5 (o.hp.ob 1).len]) else none else none else (loop 47 2 lc_47_6 ([AV.ptr 0 0, uu, uu,
  AV.ptr 2 0, uu, (str [91]), (str [93])] ++ List.replicate 8 uu ++ [AV.e (E.sl 38 a1_4), (num (↑a1_4.length : Int)), AV.e (E.int
  IntKind.i64 0)] ++ List.replicate 65 uu) [Ob.box [AV.nsp 0 69, AV.own 1 5 p0_1], Ob.vec 5 p0_1.length, Ob.box [(num a1_0), (num a1_1),
  (str a1_2), AV.e (E.sl 9 a1_3), AV.e (E.sl 38 a1_4)]]).bind fun o => bif o.ex.isWay (Way.exit 1) then bif okFr ([AV.ptr 0 0, uu, uu, AV.ptr 2 0, uu, AV.e
  (E.str []), (str [])] ++ List.replicate 76 uu) o.2 && okHeap [Ob.box [AV.nsp 0 69, AV.own 1 5 []], Ob.vec 5 0, Ob.box [(num 0), AV.e (E.int
  IntKind.i64 0), (str []), AV.e (E.sl 9 []), AV.e (E.sl 38 [])]] o.3 then bif (↑((o.hp.ob 2).cell 4).data.toList.length : Int) == 0 then bif decide ((o.hp.ob 1).len =
  ((o.hp.ob 0).cell 1).data.toList.length) && decide ((((o.hp.ob 0).cell 1).data.toList.length + (bytesE (List.getD o.fr 5 uu).data.toStr).length) * 1 ≤ 140737488355328) then
  bif decide ((((o.hp.ob 0).cell 1).data.toList ++ bytesE (List.getD o.fr 5 uu).data.toStr).length = (((o.hp.ob 0).cell 1).data.toList ++ bytesE (List.getD o.fr 5
  uu).data.toStr).length) && decide (((((o.hp.ob 0).cell 1).data.toList ++ bytesE (List.getD o.fr 5 uu).data.toStr).length + (bytesE (List.getD o.fr 6
  uu).data.toStr).length) * 1 ≤ 140737488355328) then some (Res.ret ((yes (decide ((↑(((o.hp.ob 0).cell 1).data.toList ++ bytesE (List.getD o.fr 5
  uu).data.toStr ++ bytesE (List.getD o.fr 6 uu).data.toStr).length : Int) ≤ 65536)))), [Ob.box [AV.nsp 0 69, AV.own 1 5 (((o.hp.ob 0).cell 1).data.toList ++ bytesE
  (List.getD o.fr 5 uu).data.toStr ++ bytesE (List.getD o.fr 6 uu).data.toStr)], Ob.vec 5 (((o.hp.ob 0).cell 1).data.toList ++ bytesE (List.getD o.fr 5
  uu).data.toStr ++ bytesE (List.getD o.fr 6 uu).data.toStr).length]) else none else none else bif decide ((o.hp.ob 1).len = ((o.hp.ob 0).cell 1).data.toList.length) &&
  decide ((((o.hp.ob 0).cell 1).data.toList.length + (bytesE (List.getD o.fr 6 uu).data.toStr).length) * 1 ≤ 140737488355328) then some (Res.ret ((yes (decide
  ((↑(((o.hp.ob 0).cell 1).data.toList ++ bytesE (List.getD o.fr 6 uu).data.toStr).length : Int) ≤ 65536)))), [Ob.box [AV.nsp 0 69, AV.own 1 5 (((o.hp.ob 0).cell
  1).data.toList ++ bytesE (List.getD o.fr 6 uu).data.toStr)], Ob.vec 5 (((o.hp.ob 0).cell 1).data.toList ++ bytesE (List.getD o.fr 6 uu).data.toStr).length]) else none
  else none else bif o.ex.isWay Way.ret then bif okFr ([uu, uu, uu, uu, (yes false)] ++ List.replicate 78 uu) o.2 && okHeap [Ob.box [AV.nsp 0
  69, AV.own 1 5 []], Ob.vec 5 0] o.3 then some (Res.ret ((yes (List.getD o.fr 4 uu).data.toBool)), [Ob.box [AV.nsp 0 69, AV.own 1 5 ((o.hp.ob 0).cell
  1).data.toList], Ob.vec 5 (o.hp.ob 1).len]) else none else none := by kernel_rfl
theorem eq_putL6 (run : RunF) (loop : LoopF) (p0_1 : List E) (t5 : List UInt8) (t6 : List UInt8) (t15 : List E) (t16 : Int) (t17 : Int) (t3_0 : Int) (t3_1 : Int) (t3_2 : List
  UInt8) (t3_3 : List E) (t3_4 : List E) : bodyLoop PP HH run loop 47 2 lc_47_6 ((((((((List.replicate 83 uu).set 0 (.ptr 0 0)).set 3 (.ptr 2 0)).set 5 (.e
  (.str t5))).set 6 (.e (.str t6))).set 15 (.e (.sl 38 t15))).set 16 (.e (.int .i64 t16))).set 17 (.e (.int .i64 t17))) [.box [.nsp 0 69, .own 1 5 p0_1], .vec 5 p0_1.length, .box
  [.e (.int .i64 t3_0), .e (.int .i64 t3_1), .e (.str t3_2), .e (.sl 9 t3_3), .e (.sl 38 t3_4)]] = bif decide (t17 < t16) then bif decide (0 ≤ t17) && decide (t17 < (↑t15.length :
  Int)) then bif decide (p0_1.length = p0_1.length) && decide ((p0_1.length + (bytesE t5).length) * 1 ≤ 140737488355328) then bif t3_0 == 6 then bif decide (0 ≤ t17) && decide (t17
  < (↑t3_3.length : Int)) then bif (decide (((t3_3.getD t17.toNat E.nili).cell 0).toStr.length + 1 ≤ 9223372036854775807)) then bif decide ((p0_1 ++ bytesE t5).length = (p0_1 ++
  bytesE t5).length) && decide (((p0_1 ++ bytesE t5).length + (bytesE (((t3_3.getD t17.toNat E.nili).cell 0).toStr ++ [58])).length) * 1 ≤ 140737488355328) then (run none 47
  [AV.ptr 0 0, AV.agg [(num ((t15.getD t17.toNat E.nili).cell 0).toInt), (num ((t15.getD t17.toNat E.nili).cell 1).toInt), AV.e (E.str
  ((t15.getD t17.toNat E.nili).cell 2).toStr), AV.e (E.sl 9 ((t15.getD t17.toNat E.nili).cell 3).toList), AV.e (E.sl 38 ((t15.getD t17.toNat E.nili).cell 4).toList)]] [Ob.box
  [AV.nsp 0 69, AV.own 1 5 (p0_1 ++ bytesE t5 ++ bytesE (((t3_3.getD t17.toNat E.nili).cell 0).toStr ++ [58]))], Ob.vec 5 (p0_1 ++ bytesE t5 ++ bytesE (((t3_3.getD t17.toNat
  E.nili).cell 0).toStr ++ [58])).length]).bind fun rh => bif okHeap [Ob.box [AV.nsp 0 69, AV.own 1 5 (p0_1 ++ bytesE t5 ++ bytesE (((t3_3.getD t17.toNat E.nili).cell 0).toStr ++
  [58]))], Ob.vec 5 (p0_1 ++ bytesE t5 ++ bytesE (((t3_3.getD t17.toNat E.nili).cell 0).toStr ++ [58])).length] rh.2 then bif okRes PP 4 rh.fst then bif
  !rh.fst.val.data.toBool then some (Out.mk (Ex.ret) (([uu, uu, uu, uu, (yes false)] ++ List.replicate 78 uu)) ([Ob.box [AV.nsp 0 69, AV.own 1
  5 ((rh.snd.ob 0).cell 1).data.toList], Ob.vec 5 (rh.snd.ob 1).len]) ([])) else (loop 47 2 lc_47_6 ([AV.ptr 0 0, uu, uu, AV.ptr 2 0, uu, (str [44]), AV.e
  (E.str t6)] ++ List.replicate 8 uu ++ [AV.e (E.sl 38 t15), (num t16), (num (IntKind.i64.wrap (t17 + 1)))] ++ List.replicate 65
  uu) [Ob.box [AV.nsp 0 69, AV.own 1 5 ((rh.snd.ob 0).cell 1).data.toList], Ob.vec 5 (rh.snd.ob 1).len, Ob.box [(num t3_0), (num t3_1),
  (str t3_2), AV.e (E.sl 9 t3_3), AV.e (E.sl 38 t3_4)]]).bind fun o => some o else none else none else none else none else none else (run none 47 [AV.ptr 0 0, AV.agg [AV.e
  (E.int IntKind.i64 ((t15.getD t17.toNat E.nili).cell 0).toInt), (num ((t15.getD t17.toNat E.nili).cell 1).toInt), (str ((t15.getD t17.toNat E.nili).cell
  2).toStr), AV.e (E.sl 9 ((t15.getD t17.toNat E.nili).cell 3).toList), AV.e (E.sl 38 ((t15.getD t17.toNat E.nili).cell 4).toList)]] [Ob.box [AV.nsp 0 69, AV.own 1 5 (p0_1 ++
  bytesE t5)], Ob.vec 5 (p0_1 ++ bytesE t5).length]).bind fun rh => bif okHeap [Ob.box [AV.nsp 0 69, AV.own 1 5 (p0_1 ++ bytesE t5)], Ob.vec 5 (p0_1 ++ bytesE t5).length] rh.2 then
  bif okRes PP 4 rh.fst then bif !rh.fst.val.data.toBool then some (Out.mk (Ex.ret) (([uu, uu, uu, uu, (yes false)] ++ List.replicate 78
  uu)) ([Ob.box [AV.nsp 0 69, AV.own 1 5 ((rh.snd.ob 0).cell 1).data.toList], Ob.vec 5 (rh.snd.ob 1).len]) ([])) else (loop 47 2 lc_47_6 ([AV.ptr 0 0, uu, uu,
  AV.ptr 2 0, uu, (str [44]), (str t6)] ++ List.replicate 8 uu ++ [AV.e (E.sl 38 t15), (num t16), AV.e (E.int IntKind.i64
  (IntKind.i64.wrap (t17 + 1)))] ++ List.replicate 65 uu) [Ob.box [AV.nsp 0 69, AV.own 1 5 ((rh.snd.ob 0).cell 1).data.toList], Ob.vec 5 (rh.snd.ob 1).len, Ob.box [AV.e
  (E.int IntKind.i64 t3_0), (num t3_1), (str t3_2), AV.e (E.sl 9 t3_3), AV.e (E.sl 38 t3_4)]]).bind fun o => some o else none else none else none else
  none else some (Out.mk (Ex.exit 1) (([AV.ptr 0 0, uu, uu, AV.ptr 2 0, uu, (str t5), (str t6)] ++ List.replicate 76 uu)) ([Ob.box [AV.nsp 0
  69, AV.own 1 5 p0_1], Ob.vec 5 p0_1.length, Ob.box [(num t3_0), (num t3_1), (str t3_2), AV.e (E.sl 9 t3_3), AV.e (E.sl 38 t3_4)]])
  ([])) := by kernel_rfl
theorem eq_quote (run : RunF) (loop : LoopF) (p0_1 : List E) (a1 : List UInt8) : bodyRun PP HH run loop none 90 [.ptr 0 0, .e (.str a1)] [.box [.nsp 0 69, .own 1 5
  p0_1], .vec 5 p0_1.length] = bif decide (p0_1.length = p0_1.length) && decide ((p0_1.length + 1) * 1 ≤ 140737488355328) then (loop 90 2 lc_90_2 ([AV.ptr 0 0, (str a1)] ++
  List.replicate 7 uu ++ [(num (↑a1.length : Int)), (num 0)] ++ List.replicate 42 uu) [Ob.box [AV.nsp 0 69, AV.own 1 5 (p0_1 ++
  (5, [E.int IntKind.u8 34]).snd)], Ob.vec 5 (p0_1 ++ (5, [E.int IntKind.u8 34]).snd).length]).bind fun o => bif o.ex.isWay (Way.exit 0) then bif okFr ([AV.ptr 0 0] ++
  List.replicate 52 uu) o.2 && okHeap [Ob.box [AV.nsp 0 69, AV.own 1 5 []], Ob.vec 5 0] o.3 then bif decide ((o.hp.ob 1).len = ((o.hp.ob 0).cell 1).data.toList.length) &&
  decide ((((o.hp.ob 0).cell 1).data.toList.length + 1) * 1 ≤ 140737488355328) then some (Res.ret (AV.tup []), [Ob.box [AV.nsp 0 69, AV.own 1 5 (((o.hp.ob 0).cell 1).data.toList ++
  (5, [E.int IntKind.u8 34]).snd)], Ob.vec 5 (((o.hp.ob 0).cell 1).data.toList ++ (5, [E.int IntKind.u8 34]).snd).length]) else none else none else none else none := by kernel_rfl
theorem eq_quoteL2 (run : RunF) (loop : LoopF) (p0_1 : List E) (t1 : List UInt8) (t9 : Int) (t10 : Int) : bodyLoop PP HH run loop 90 2 lc_90_2 (((((List.replicate
  53 uu).set 0 (.ptr 0 0)).set 1 (.e (.str t1))).set 9 (.e (.int .i64 t9))).set 10 (.e (.int .i64 t10))) [.box [.nsp 0 69, .own 1 5 p0_1], .vec 5 p0_1.length] = bif decide
  (t10 < t9) then bif decide (0 ≤ t10) && decide (t10 < (↑t1.length : Int)) then bif bif (↑(t1.getD t10.toNat 0).toNat : Int) == 34 then true else (↑(t1.getD t10.toNat 0).toNat :
  Int) == 92 then bif decide (p0_1.length = p0_1.length) && decide ((p0_1.length + 1) * 1 ≤ 140737488355328) then bif decide ((p0_1 ++ (5, [E.int IntKind.u8 92]).snd).length =
  (p0_1 ++ (5, [E.int IntKind.u8 92]).snd).length) && decide (((p0_1 ++ (5, [E.int IntKind.u8 92]).snd).length + (5, [E.int IntKind.u8 (↑(t1.getD t10.toNat 0).toNat :
  Int)]).snd.length) * 1 ≤ 140737488355328) then (loop 90 2 lc_90_2 ([AV.ptr 0 0, (str t1)] ++ List.replicate 7 uu ++ [(num t9), AV.e (E.int
  IntKind.i64 (IntKind.i64.wrap (t10 + 1)))] ++ List.replicate 42 uu) [Ob.box [AV.nsp 0 69, AV.own 1 5 (p0_1 ++ (5, [E.int IntKind.u8 92]).snd ++ (5, [E.int IntKind.u8
  (↑(t1.getD t10.toNat 0).toNat : Int)]).snd)], Ob.vec 5 (p0_1 ++ (5, [E.int IntKind.u8 92]).snd ++ (5, [E.int IntKind.u8 (↑(t1.getD t10.toNat 0).toNat : Int)]).snd).length]).bind
  fun o => some o else none else none else bif bif decide ((↑(t1.getD t10.toNat 0).toNat : Int) < 32) then true else decide (126 < (↑(t1.getD t10.toNat 0).toNat : Int)) then bif
  decide (p0_1.length = p0_1.length) && decide ((p0_1.length + 2) * 1 ≤ 140737488355328) then bif decide (0 ≤ (↑(t1.getD t10.toNat 0).toNat : Int).fdiv (2 ^ 4)) && decide
  ((↑(t1.getD t10.toNat 0).toNat : Int).fdiv (2 ^ 4) < (↑16 : Int)) then bif decide ((p0_1 ++ bytesE [92, 120]).length = (p0_1 ++ [E.int IntKind.u8 (↑92 : Int), E.int IntKind.u8
  (↑120 : Int)]).length) && decide (((p0_1 ++ [E.int IntKind.u8 (↑92 : Int), E.int IntKind.u8 (↑120 : Int)]).length + (5, [E.int IntKind.u8 (↑(([48, 49, 50, 51, 52, 53, 54, 55, 56,
  57, 97, 98, 99, 100, 101, 102] : List UInt8).getD ((↑(t1.getD t10.toNat 0).toNat : Int).fdiv (2 ^ 4)).toNat 0).toNat : Int)]).snd.length) * 1 ≤ 140737488355328) then bif decide
  (IntKind.u8.wrap (↑(BitVec.ofInt 8 (↑(t1.getD t10.toNat 0).toNat : Int) &&& BitVec.ofInt 8 15).toNat : Int) < (↑16 : Int)) then bif decide ((p0_1 ++ [E.int IntKind.u8 (↑92 :
  Int), E.int IntKind.u8 (↑120 : Int)] ++ (5, [E.int IntKind.u8 (↑(([48, 49, 50, 51, 52, 53, 54, 55, 56, 57, 97, 98, 99, 100, 101, 102] : List UInt8).getD ((↑(t1.getD t10.toNat
  0).toNat : Int).fdiv (2 ^ 4)).toNat 0).toNat : Int)]).snd).length = (p0_1 ++ [E.int IntKind.u8 (↑92 : Int), E.int IntKind.u8 (↑120 : Int)] ++ (5, [E.int IntKind.u8 (↑(([48, 49,
  50, 51, 52, 53, 54, 55, 56, 57, 97, 98, 99, 100, 101, 102] : List UInt8).getD ((↑(t1.getD t10.toNat 0).toNat : Int).fdiv (2 ^ 4)).toNat 0).toNat : Int)]).snd).length) && decide
  (((p0_1 ++ [E.int IntKind.u8 (↑92 : Int), E.int IntKind.u8 (↑120 : Int)] ++ (5, [E.int IntKind.u8 (↑(([48, 49, 50, 51, 52, 53, 54, 55, 56, 57, 97, 98, 99, 100, 101, 102] : List
  UInt8).getD ((↑(t1.getD t10.toNat 0).toNat : Int).fdiv (2 ^ 4)).toNat 0).toNat : Int)]).snd).length + (5, [E.int IntKind.u8 (↑(([48, 49, 50, 51, 52, 53, 54, 55, 56, 57, 97, 98,
  99, 100, 101, 102] : List UInt8).getD (IntKind.u8.wrap (↑(BitVec.ofInt 8 (↑(t1.getD t10.toNat 0).toNat : Int) &&& BitVec.ofInt 8 15).toNat : Int)).toNat 0).toNat :
  Int)]).snd.length) * 1 ≤ 140737488355328) then (loop 90 2 lc_90_2 ([AV.ptr 0 0, (str t1)] ++ List.replicate 7 uu ++ [(num t9), AV.e (E.int
  IntKind.i64 (IntKind.i64.wrap (t10 + 1)))] ++ List.replicate 42 uu) [Ob.box [AV.nsp 0 69, AV.own 1 5 (p0_1 ++ [E.int IntKind.u8 (↑92 : Int), E.int IntKind.u8 (↑120 : Int)]
  ++ (5, [E.int IntKind.u8 (↑(([48, 49, 50, 51, 52, 53, 54, 55, 56, 57, 97, 98, 99, 100, 101, 102] : List UInt8).getD ((↑(t1.getD t10.toNat 0).toNat : Int).fdiv (2 ^ 4)).toNat
  0).toNat : Int)]).snd ++ (5, [E.int IntKind.u8 (↑(([48, 49, 50, 51, 52, 53, 54, 55, 56, 57, 97, 98, 99, 100, 101, 102] : List UInt8).getD (IntKind.u8.wrap (↑(BitVec.ofInt 8
  (↑(t1.getD t10.toNat 0).toNat : Int) &&& BitVec.ofInt 8 15).toNat : Int)).toNat 0).toNat : Int)]).snd)], Ob.vec 5 (p0_1 ++ [E.int IntKind.u8 (↑92 : Int), E.int IntKind.u8 (↑120 :
  Int)] ++ (5, [E.int IntKind.u8 (↑(([48, 49, 50, 51, 52, 53, 54, 55, 56, 57, 97, 98, 99, 100, 101, 102] : List UInt8).getD ((↑(t1.getD t10.toNat 0).toNat : Int).fdiv (2 ^
  4)).toNat 0).toNat : Int)]).snd ++ (5, [E.int IntKind.u8 (↑(([48, 49, 50, 51, 52, 53, 54, 55, 56, 57, 97, 98, 99, 100, 101, 102] : List UInt8).getD (IntKind.u8.wrap
  (↑(BitVec.ofInt 8 (↑(t1.getD t10.toNat 0).toNat : Int) &&& BitVec.ofInt 8 15).toNat : Int)).toNat 0).toNat : Int)]).snd).length]).bind fun o => some o else none else none else
  none else none else none else bif decide (p0_1.length = p0_1.length) && decide ((p0_1.length + (5, [E.int IntKind.u8 (↑(t1.getD t10.toNat 0).toNat : Int)]).snd.length) * 1 ≤
  140737488355328) then (loop 90 2 lc_90_2 ([AV.ptr 0 0, (str t1)] ++ List.replicate 7 uu ++ [(num t9), (num (IntKind.i64.wrap
  (t10 + 1)))] ++ List.replicate 42 uu) [Ob.box [AV.nsp 0 69, AV.own 1 5 (p0_1 ++ (5, [E.int IntKind.u8 (↑(t1.getD t10.toNat 0).toNat : Int)]).snd)], Ob.vec 5 (p0_1 ++ (5,
  [E.int IntKind.u8 (↑(t1.getD t10.toNat 0).toNat : Int)]).snd).length]).bind fun o => some o else none else none else some (Out.mk (Ex.exit 0) (([AV.ptr 0 0] ++ List.replicate 52
  uu)) ([Ob.box [AV.nsp 0 69, AV.own 1 5 p0_1], Ob.vec 5 p0_1.length]) ([])) := by kernel_rfl
theorem eq_valid (run : RunF) (loop : LoopF) (a0_0 : Int) (a0_1 : Int) (a0_2 : List UInt8) (a0_3 : List E) (a0_4 : List E) : bodyRun PP HH run loop none 46 [.agg
  [.e (.int .i64 a0_0), .e (.int .i64 a0_1), .e (.str a0_2), .e (.sl 9 a0_3), .e (.sl 38 a0_4)]] [] = bif a0_0 == 1 then bif a0_0 == 1 then (run none 86 [AV.agg [AV.e (E.int
  IntKind.i64 a0_0), (num a0_1), (str a0_2), AV.e (E.sl 9 a0_3), AV.e (E.sl 38 a0_4)]] []).bind fun rh => bif okHeap [] rh.2 then bif okRes PP 4
  rh.fst then bif rh.fst.val.data.toBool then some (Res.ret ((num 28)), []) else bif (a0_0 == 1) == true then bif decide (a0_1 < -4611686018427387904) == false
  then bif decide (4611686018427387904 < a0_1) == false then bif (a0_0 == 3) == true then bif (!a0_1 == 0) == true then bif !a0_1 == 1 then some (Res.ret (AV.e (E.int IntKind.i64
  1)), []) else (loop 46 0 lc_46_13 ([uu, AV.ptr 0 0] ++ List.replicate 44 uu ++ [AV.e (E.sl 38 a0_4), (num (↑a0_4.length : Int)), AV.e (E.int
  IntKind.i64 0)] ++ List.replicate 31 uu) [Ob.box [(num a0_0), (num a0_1), (str a0_2), AV.e (E.sl 9 a0_3), AV.e (E.sl 38
  a0_4)]]).bind fun o => bif o.ex.isWay (Way.exit 1) then bif okFr (List.replicate 80 uu) o.2 && okHeap [] o.3 then some (Res.ret ((num 0)), []) else none
  else bif o.ex.isWay Way.ret then bif okFr ([uu, uu, (num 0)] ++ List.replicate 77 uu) o.2 && okHeap [] o.3 then some (Res.ret (AV.e (E.int
  IntKind.i64 (List.getD o.fr 2 uu).data.toInt)), []) else none else none else (loop 46 0 lc_46_13 ([uu, AV.ptr 0 0] ++ List.replicate 44 uu ++ [AV.e (E.sl 38
  a0_4), (num (↑a0_4.length : Int)), (num 0)] ++ List.replicate 31 uu) [Ob.box [(num a0_0), AV.e (E.int IntKind.i64
  a0_1), (str a0_2), AV.e (E.sl 9 a0_3), AV.e (E.sl 38 a0_4)]]).bind fun o => bif o.ex.isWay (Way.exit 1) then bif okFr (List.replicate 80 uu) o.2 && okHeap [] o.3
  then some (Res.ret ((num 0)), []) else none else bif o.ex.isWay Way.ret then bif okFr ([uu, uu, (num 0)] ++ List.replicate 77
  uu) o.2 && okHeap [] o.3 then some (Res.ret ((num (List.getD o.fr 2 uu).data.toInt)), []) else none else none else (loop 46 0 lc_46_13 ([uu,
  AV.ptr 0 0] ++ List.replicate 44 uu ++ [AV.e (E.sl 38 a0_4), (num (↑a0_4.length : Int)), (num 0)] ++ List.replicate 31 uu)
  [Ob.box [(num a0_0), (num a0_1), (str a0_2), AV.e (E.sl 9 a0_3), AV.e (E.sl 38 a0_4)]]).bind fun o => bif o.ex.isWay (Way.exit 1)
  then bif okFr (List.replicate 80 uu) o.2 && okHeap [] o.3 then some (Res.ret ((num 0)), []) else none else bif o.ex.isWay Way.ret then bif okFr
  ([uu, uu, (num 0)] ++ List.replicate 77 uu) o.2 && okHeap [] o.3 then some (Res.ret ((num (List.getD o.fr 2
  uu).data.toInt)), []) else none else none else some (Res.ret ((num 1)), []) else some (Res.ret ((num 1)), []) else bif (a0_0 == 3) ==
  true then bif (!a0_1 == 0) == true then bif !a0_1 == 1 then some (Res.ret ((num 1)), []) else (loop 46 0 lc_46_13 ([uu, AV.ptr 0 0] ++ List.replicate 44
  uu ++ [AV.e (E.sl 38 a0_4), (num (↑a0_4.length : Int)), (num 0)] ++ List.replicate 31 uu) [Ob.box [AV.e (E.int IntKind.i64
  a0_0), (num a0_1), (str a0_2), AV.e (E.sl 9 a0_3), AV.e (E.sl 38 a0_4)]]).bind fun o => bif o.ex.isWay (Way.exit 1) then bif okFr (List.replicate 80
  uu) o.2 && okHeap [] o.3 then some (Res.ret ((num 0)), []) else none else bif o.ex.isWay Way.ret then bif okFr ([uu, uu, AV.e (E.int
  IntKind.i64 0)] ++ List.replicate 77 uu) o.2 && okHeap [] o.3 then some (Res.ret ((num (List.getD o.fr 2 uu).data.toInt)), []) else none else none
  else (loop 46 0 lc_46_13 ([uu, AV.ptr 0 0] ++ List.replicate 44 uu ++ [AV.e (E.sl 38 a0_4), (num (↑a0_4.length : Int)), (num 0)]
  ++ List.replicate 31 uu) [Ob.box [(num a0_0), (num a0_1), (str a0_2), AV.e (E.sl 9 a0_3), AV.e (E.sl 38 a0_4)]]).bind fun o =>
  bif o.ex.isWay (Way.exit 1) then bif okFr (List.replicate 80 uu) o.2 && okHeap [] o.3 then some (Res.ret ((num 0)), []) else none else bif o.ex.isWay
  Way.ret then bif okFr ([uu, uu, (num 0)] ++ List.replicate 77 uu) o.2 && okHeap [] o.3 then some (Res.ret ((num (List.getD
  o.fr 2 uu).data.toInt)), []) else none else none else (loop 46 0 lc_46_13 ([uu, AV.ptr 0 0] ++ List.replicate 44 uu ++ [AV.e (E.sl 38 a0_4), AV.e (E.int
  IntKind.i64 (↑a0_4.length : Int)), (num 0)] ++ List.replicate 31 uu) [Ob.box [(num a0_0), (num a0_1), AV.e (E.str
  a0_2), AV.e (E.sl 9 a0_3), AV.e (E.sl 38 a0_4)]]).bind fun o => bif o.ex.isWay (Way.exit 1) then bif okFr (List.replicate 80 uu) o.2 && okHeap [] o.3 then some (Res.ret
  ((num 0)), []) else none else bif o.ex.isWay Way.ret then bif okFr ([uu, uu, (num 0)] ++ List.replicate 77 uu) o.2 &&
  okHeap [] o.3 then some (Res.ret ((num (List.getD o.fr 2 uu).data.toInt)), []) else none else none else none else none else some (Res.ret (AV.e (E.int
  IntKind.i64 10)), []) else bif a0_0 == 2 then bif a0_0 == 2 then (run none 86 [AV.agg [(num a0_0), (num a0_1), (str a0_2), AV.e (E.sl
  9 a0_3), AV.e (E.sl 38 a0_4)]] []).bind fun rh => bif okHeap [] rh.2 then bif okRes PP 4 rh.fst then bif rh.fst.val.data.toBool then some (Res.ret (AV.e (E.int IntKind.i64
  28)), []) else bif (a0_0 == 1) == true then bif decide (a0_1 < -4611686018427387904) == false then bif decide (4611686018427387904 < a0_1) == false then bif (a0_0 == 3) == true
  then bif (!a0_1 == 0) == true then bif !a0_1 == 1 then some (Res.ret ((num 1)), []) else (loop 46 0 lc_46_13 ([uu, AV.ptr 0 0] ++ List.replicate 44
  uu ++ [AV.e (E.sl 38 a0_4), (num (↑a0_4.length : Int)), (num 0)] ++ List.replicate 31 uu) [Ob.box [AV.e (E.int IntKind.i64
  a0_0), (num a0_1), (str a0_2), AV.e (E.sl 9 a0_3), AV.e (E.sl 38 a0_4)]]).bind fun o => bif o.ex.isWay (Way.exit 1) then bif okFr (List.replicate 80
  uu) o.2 && okHeap [] o.3 then some (Res.ret ((num 0)), []) else none else bif o.ex.isWay Way.ret then bif okFr ([uu, uu, AV.e (E.int
  IntKind.i64 0)] ++ List.replicate 77 uu) o.2 && okHeap [] o.3 then some (Res.ret ((num (List.getD o.fr 2 uu).data.toInt)), []) else none else none
  else (loop 46 0 lc_46_13 ([uu, AV.ptr 0 0] ++ List.replicate 44 uu ++ [AV.e (E.sl 38 a0_4), (num (↑a0_4.length : Int)), (num 0)]
  ++ List.replicate 31 uu) [Ob.box [(num a0_0), (num a0_1), (str a0_2), AV.e (E.sl 9 a0_3), AV.e (E.sl 38 a0_4)]]).bind fun o =>
  bif o.ex.isWay (Way.exit 1) then bif okFr (List.replicate 80 uu) o.2 && okHeap [] o.3 then some (Res.ret ((num 0)), []) else none else bif o.ex.isWay
  Way.ret then bif okFr ([uu, uu, (num 0)] ++ List.replicate 77 uu) o.2 && okHeap [] o.3 then some (Res.ret ((num (List.getD
  o.fr 2 uu).data.toInt)), []) else none else none else (loop 46 0 lc_46_13 ([uu, AV.ptr 0 0] ++ List.replicate 44 uu ++ [AV.e (E.sl 38 a0_4), AV.e (E.int
  IntKind.i64 (↑a0_4.length : Int)), (num 0)] ++ List.replicate 31 uu) [Ob.box [(num a0_0), (num a0_1), AV.e (E.str
  a0_2), AV.e (E.sl 9 a0_3), AV.e (E.sl 38 a0_4)]]).bind fun o => bif o.ex.isWay (Way.exit 1) then bif okFr (List.replicate 80 uu) o.2 && okHeap [] o.3 then some (Res.ret
  ((num 0)), []) else none else bif o.ex.isWay Way.ret then bif okFr ([uu, uu, (num 0)] ++ List.replicate 77 uu) o.2 &&
  okHeap [] o.3 then some (Res.ret ((num (List.getD o.fr 2 uu).data.toInt)), []) else none else none else some (Res.ret ((num 1)), [])
  else some (Res.ret ((num 1)), []) else bif (a0_0 == 3) == true then bif (!a0_1 == 0) == true then bif !a0_1 == 1 then some (Res.ret (AV.e (E.int IntKind.i64
  1)), []) else (loop 46 0 lc_46_13 ([uu, AV.ptr 0 0] ++ List.replicate 44 uu ++ [AV.e (E.sl 38 a0_4), (num (↑a0_4.length : Int)), AV.e (E.int
  IntKind.i64 0)] ++ List.replicate 31 uu) [Ob.box [(num a0_0), (num a0_1), (str a0_2), AV.e (E.sl 9 a0_3), AV.e (E.sl 38
  a0_4)]]).bind fun o => bif o.ex.isWay (Way.exit 1) then bif okFr (List.replicate 80 uu) o.2 && okHeap [] o.3 then some (Res.ret ((num 0)), []) else none
  else bif o.ex.isWay Way.ret then bif okFr ([uu, uu, (num 0)] ++ List.replicate 77 uu) o.2 && okHeap [] o.3 then some (Res.ret (AV.e (E.int
  IntKind.i64 (List.getD o.fr 2 uu).data.toInt)), []) else none else none else (loop 46 0 lc_46_13 ([uu, AV.ptr 0 0] ++ List.replicate 44 uu ++ [AV.e (E.sl 38
  a0_4), (num (↑a0_4.length : Int)), (num 0)] ++ List.replicate 31 uu) [Ob.box [(num a0_0), AV.e (E.int IntKind.i64
  a0_1), (str a0_2), AV.e (E.sl 9 a0_3), AV.e (E.sl 38 a0_4)]]).bind fun o => bif o.ex.isWay (Way.exit 1) then bif okFr (List.replicate 80 uu) o.2 && okHeap [] o.3
  then some (Res.ret ((num 0)), []) else none else bif o.ex.isWay Way.ret then bif okFr ([uu, uu, (num 0)] ++ List.replicate 77
  uu) o.2 && okHeap [] o.3 then some (Res.ret ((num (List.getD o.fr 2 uu).data.toInt)), []) else none else none else (loop 46 0 lc_46_13 ([uu,
  AV.ptr 0 0] ++ List.replicate 44 uu ++ [AV.e (E.sl 38 a0_4), (num (↑a0_4.length : Int)), (num 0)] ++ List.replicate 31 uu)
  [Ob.box [(num a0_0), (num a0_1), (str a0_2), AV.e (E.sl 9 a0_3), AV.e (E.sl 38 a0_4)]]).bind fun o => bif o.ex.isWay (Way.exit 1)
  then bif okFr (List.replicate 80 uu) o.2 && okHeap [] o.3 then some (Res.ret ((num 0)), []) else none else bif o.ex.isWay Way.ret then bif okFr
  ([uu, uu, (num 0)] ++ List.replicate 77 uu) o.2 && okHeap [] o.3 then some (Res.ret ((num (List.getD o.fr 2
  uu).data.toInt)), []) else none else none else none else none else some (Res.ret ((num 10)), []) else bif a0_0 == 3 then bif a0_0 == 3 then (run none 86
  [AV.agg [(num a0_0), (num a0_1), (str a0_2), AV.e (E.sl 9 a0_3), AV.e (E.sl 38 a0_4)]] []).bind fun rh => bif okHeap [] rh.2 then bif
  okRes PP 4 rh.fst then bif rh.fst.val.data.toBool then some (Res.ret ((num 28)), []) else bif (a0_0 == 1) == true then bif decide (a0_1 <
  -4611686018427387904) == false then bif decide (4611686018427387904 < a0_1) == false then bif (a0_0 == 3) == true then bif (!a0_1 == 0) == true then bif !a0_1 == 1 then some
  (Res.ret ((num 1)), []) else (loop 46 0 lc_46_13 ([uu, AV.ptr 0 0] ++ List.replicate 44 uu ++ [AV.e (E.sl 38 a0_4), AV.e (E.int IntKind.i64
  (↑a0_4.length : Int)), (num 0)] ++ List.replicate 31 uu) [Ob.box [(num a0_0), (num a0_1), (str a0_2), AV.e
  (E.sl 9 a0_3), AV.e (E.sl 38 a0_4)]]).bind fun o => bif o.ex.isWay (Way.exit 1) then bif okFr (List.replicate 80 uu) o.2 && okHeap [] o.3 then some (Res.ret (AV.e (E.int
  IntKind.i64 0)), []) else none else bif o.ex.isWay Way.ret then bif okFr ([uu, uu, (num 0)] ++ List.replicate 77 uu) o.2 && okHeap [] o.3
  then some (Res.ret ((num (List.getD o.fr 2 uu).data.toInt)), []) else none else none else (loop 46 0 lc_46_13 ([uu, AV.ptr 0 0] ++ List.replicate
  44 uu ++ [AV.e (E.sl 38 a0_4), (num (↑a0_4.length : Int)), (num 0)] ++ List.replicate 31 uu) [Ob.box [AV.e (E.int IntKind.i64
  a0_0), (num a0_1), (str a0_2), AV.e (E.sl 9 a0_3), AV.e (E.sl 38 a0_4)]]).bind fun o => bif o.ex.isWay (Way.exit 1) then bif okFr (List.replicate 80
  uu) o.2 && okHeap [] o.3 then some (Res.ret ((num 0)), []) else none else bif o.ex.isWay Way.ret then bif okFr ([uu, uu, AV.e (E.int
  IntKind.i64 0)] ++ List.replicate 77 uu) o.2 && okHeap [] o.3 then some (Res.ret ((num (List.getD o.fr 2 uu).data.toInt)), []) else none else none
  else (loop 46 0 lc_46_13 ([uu, AV.ptr 0 0] ++ List.replicate 44 uu ++ [AV.e (E.sl 38 a0_4), (num (↑a0_4.length : Int)), (num 0)]
  ++ List.replicate 31 uu) [Ob.box [(num a0_0), (num a0_1), (str a0_2), AV.e (E.sl 9 a0_3), AV.e (E.sl 38 a0_4)]]).bind fun o =>
  bif o.ex.isWay (Way.exit 1) then bif okFr (List.replicate 80 uu) o.2 && okHeap [] o.3 then some (Res.ret ((num 0)), []) else none else bif o.ex.isWay
  Way.ret then bif okFr ([uu, uu, (num 0)] ++ List.replicate 77 uu) o.2 && okHeap [] o.3 then some (Res.ret ((num (List.getD
  o.fr 2 uu).data.toInt)), []) else none else none else some (Res.ret ((num 1)), []) else some (Res.ret ((num 1)), []) else bif (a0_0 ==
  3) == true then bif (!a0_1 == 0) == true then bif !a0_1 == 1 then some (Res.ret ((num 1)), []) else (loop 46 0 lc_46_13 ([uu, AV.ptr 0 0] ++
  List.replicate 44 uu ++ [AV.e (E.sl 38 a0_4), (num (↑a0_4.length : Int)), (num 0)] ++ List.replicate 31 uu) [Ob.box [AV.e (E.int
  IntKind.i64 a0_0), (num a0_1), (str a0_2), AV.e (E.sl 9 a0_3), AV.e (E.sl 38 a0_4)]]).bind fun o => bif o.ex.isWay (Way.exit 1) then bif okFr
  (List.replicate 80 uu) o.2 && okHeap [] o.3 then some (Res.ret ((num 0)), []) else none else bif o.ex.isWay Way.ret then bif okFr ([uu, uu,
  (num 0)] ++ List.replicate 77 uu) o.2 && okHeap [] o.3 then some (Res.ret ((num (List.getD o.fr 2 uu).data.toInt)), []) else
  none else none else (loop 46 0 lc_46_13 ([uu, AV.ptr 0 0] ++ List.replicate 44 uu ++ [AV.e (E.sl 38 a0_4), (num (↑a0_4.length : Int)), AV.e (E.int
  IntKind.i64 0)] ++ List.replicate 31 uu) [Ob.box [(num a0_0), (num a0_1), (str a0_2), AV.e (E.sl 9 a0_3), AV.e (E.sl 38
  a0_4)]]).bind fun o => bif o.ex.isWay (Way.exit 1) then bif okFr (List.replicate 80 uu) o.2 && okHeap [] o.3 then some (Res.ret ((num 0)), []) else none
  else bif o.ex.isWay Way.ret then bif okFr ([uu, uu, (num 0)] ++ List.replicate 77 uu) o.2 && okHeap [] o.3 then some (Res.ret (AV.e (E.int
  IntKind.i64 (List.getD o.fr 2 uu).data.toInt)), []) else none else none else (loop 46 0 lc_46_13 ([uu, AV.ptr 0 0] ++ List.replicate 44 uu ++ [AV.e (E.sl 38
  a0_4), (num (↑a0_4.length : Int)), (num 0)] ++ List.replicate 31 uu) [Ob.box [(num a0_0), AV.e (E.int IntKind.i64
  a0_1), (str a0_2), AV.e (E.sl 9 a0_3), AV.e (E.sl 38 a0_4)]]).bind fun o => bif o.ex.isWay (Way.exit 1) then bif okFr (List.replicate 80 uu) o.2 && okHeap [] o.3
  then some (Res.ret ((num 0)), []) else none else bif o.ex.isWay Way.ret then bif okFr ([uu, uu, (num 0)] ++ List.replicate 77
  uu) o.2 && okHeap [] o.3 then some (Res.ret ((num (List.getD o.fr 2 uu).data.toInt)), []) else none else none else none else none else some
  (Res.ret ((num 10)), []) else bif a0_0 == 5 then bif a0_0 == 5 then (run none 86 [AV.agg [(num a0_0), (num a0_1), AV.e
  (E.str a0_2), AV.e (E.sl 9 a0_3), AV.e (E.sl 38 a0_4)]] []).bind fun rh => bif okHeap [] rh.2 then bif okRes PP 4 rh.fst then bif rh.fst.val.data.toBool then some (Res.ret
  ((num 28)), []) else bif (a0_0 == 1) == true then bif decide (a0_1 < -4611686018427387904) == false then bif decide (4611686018427387904 < a0_1) == false then
  bif (a0_0 == 3) == true then bif (!a0_1 == 0) == true then bif !a0_1 == 1 then some (Res.ret ((num 1)), []) else (loop 46 0 lc_46_13 ([uu, AV.ptr 0 0] ++
  List.replicate 44 uu ++ [AV.e (E.sl 38 a0_4), (num (↑a0_4.length : Int)), (num 0)] ++ List.replicate 31 uu) [Ob.box [AV.e (E.int
  IntKind.i64 a0_0), (num a0_1), (str a0_2), AV.e (E.sl 9 a0_3), AV.e (E.sl 38 a0_4)]]).bind fun o => bif o.ex.isWay (Way.exit 1) then bif okFr
  (List.replicate 80 uu) o.2 && okHeap [] o.3 then some (Res.ret ((num 0)), []) else none else bif o.ex.isWay Way.ret then bif okFr ([uu, uu,
  (num 0)] ++ List.replicate 77 uu) o.2 && okHeap [] o.3 then some (Res.ret ((num (List.getD o.fr 2 uu).data.toInt)), []) else
  none else none else (loop 46 0 lc_46_13 ([uu, AV.ptr 0 0] ++ List.replicate 44 uu ++ [AV.e (E.sl 38 a0_4), (num (↑a0_4.length : Int)), AV.e (E.int
  IntKind.i64 0)] ++ List.replicate 31 uu) [Ob.box [(num a0_0), (num a0_1), (str a0_2), AV.e (E.sl 9 a0_3), AV.e (E.sl 38
  a0_4)]]).bind fun o => bif o.ex.isWay (Way.exit 1) then bif okFr (List.replicate 80 uu) o.2 && okHeap [] o.3 then some (Res.ret ((num 0)), []) else none
  else bif o.ex.isWay Way.ret then bif okFr ([uu, uu, (num 0)] ++ List.replicate 77 uu) o.2 && okHeap [] o.3 then some (Res.ret (AV.e (E.int
  IntKind.i64 (List.getD o.fr 2 uu).data.toInt)), []) else none else none else (loop 46 0 lc_46_13 ([uu, AV.ptr 0 0] ++ List.replicate 44 uu ++ [AV.e (E.sl 38
  a0_4), (num (↑a0_4.length : Int)), (num 0)] ++ List.replicate 31 uu) [Ob.box [(num a0_0), AV.e (E.int IntKind.i64
  a0_1), (str a0_2), AV.e (E.sl 9 a0_3), AV.e (E.sl 38 a0_4)]]).bind fun o => bif o.ex.isWay (Way.exit 1) then bif okFr (List.replicate 80 uu) o.2 && okHeap [] o.3
  then some (Res.ret ((num 0)), []) else none else bif o.ex.isWay Way.ret then bif okFr ([uu, uu, (num 0)] ++ List.replicate 77
  uu) o.2 && okHeap [] o.3 then some (Res.ret ((num (List.getD o.fr 2 uu).data.toInt)), []) else none else none else some (Res.ret (AV.e (E.int
  IntKind.i64 1)), []) else some (Res.ret ((num 1)), []) else bif (a0_0 == 3) == true then bif (!a0_1 == 0) == true then bif !a0_1 == 1 then some (Res.ret (AV.e
  (E.int IntKind.i64 1)), []) else (loop 46 0 lc_46_13 ([uu, AV.ptr 0 0] ++ List.replicate 44 uu ++ [AV.e (E.sl 38 a0_4), (num (↑a0_4.length : Int)),
  (num 0)] ++ List.replicate 31 uu) [Ob.box [(num a0_0), (num a0_1), (str a0_2), AV.e (E.sl 9 a0_3), AV.e
  (E.sl 38 a0_4)]]).bind fun o => bif o.ex.isWay (Way.exit 1) then bif okFr (List.replicate 80 uu) o.2 && okHeap [] o.3 then some (Res.ret ((num 0)), [])
  else none else bif o.ex.isWay Way.ret then bif okFr ([uu, uu, (num 0)] ++ List.replicate 77 uu) o.2 && okHeap [] o.3 then some (Res.ret (AV.e
  (E.int IntKind.i64 (List.getD o.fr 2 uu).data.toInt)), []) else none else none else (loop 46 0 lc_46_13 ([uu, AV.ptr 0 0] ++ List.replicate 44 uu ++ [AV.e (E.sl
  38 a0_4), (num (↑a0_4.length : Int)), (num 0)] ++ List.replicate 31 uu) [Ob.box [(num a0_0), AV.e (E.int
  IntKind.i64 a0_1), (str a0_2), AV.e (E.sl 9 a0_3), AV.e (E.sl 38 a0_4)]]).bind fun o => bif o.ex.isWay (Way.exit 1) then bif okFr (List.replicate 80 uu) o.2 &&
  okHeap [] o.3 then some (Res.ret ((num 0)), []) else none else bif o.ex.isWay Way.ret then bif okFr ([uu, uu, (num 0)] ++
  List.replicate 77 uu) o.2 && okHeap [] o.3 then some (Res.ret ((num (List.getD o.fr 2 uu).data.toInt)), []) else none else none else (loop 46 0
  lc_46_13 ([uu, AV.ptr 0 0] ++ List.replicate 44 uu ++ [AV.e (E.sl 38 a0_4), (num (↑a0_4.length : Int)), (num 0)] ++
  List.replicate 31 uu) [Ob.box [(num a0_0), (num a0_1), (str a0_2), AV.e (E.sl 9 a0_3), AV.e (E.sl 38 a0_4)]]).bind fun o => bif
  o.ex.isWay (Way.exit 1) then bif okFr (List.replicate 80 uu) o.2 && okHeap [] o.3 then some (Res.ret ((num 0)), []) else none else bif o.ex.isWay Way.ret
  then bif okFr ([uu, uu, (num 0)] ++ List.replicate 77 uu) o.2 && okHeap [] o.3 then some (Res.ret ((num (List.getD o.fr 2
  uu).data.toInt)), []) else none else none else none else none else some (Res.ret ((num 10)), []) else bif a0_0 == 6 then (run none 86 [AV.agg [AV.e
  (E.int IntKind.i64 a0_0), (num a0_1), (str a0_2), AV.e (E.sl 9 a0_3), AV.e (E.sl 38 a0_4)]] []).bind fun rh => bif okHeap [] rh.2 then bif okRes
  PP 4 rh.fst then bif rh.fst.val.data.toBool then some (Res.ret ((num 28)), []) else bif (a0_0 == 1) == true then bif decide (a0_1 <
  -4611686018427387904) == false then bif decide (4611686018427387904 < a0_1) == false then bif (a0_0 == 3) == true then bif (!a0_1 == 0) == true then bif !a0_1 == 1 then some
  (Res.ret ((num 1)), []) else (loop 46 0 lc_46_13 ([uu, AV.ptr 0 0] ++ List.replicate 44 uu ++ [AV.e (E.sl 38 a0_4), AV.e (E.int IntKind.i64
  (↑a0_4.length : Int)), (num 0)] ++ List.replicate 31 uu) [Ob.box [(num a0_0), (num a0_1), (str a0_2), AV.e
  (E.sl 9 a0_3), AV.e (E.sl 38 a0_4)]]).bind fun o => bif o.ex.isWay (Way.exit 1) then bif okFr (List.replicate 80 uu) o.2 && okHeap [] o.3 then some (Res.ret (AV.e (E.int
  IntKind.i64 0)), []) else none else bif o.ex.isWay Way.ret then bif okFr ([uu, uu, (num 0)] ++ List.replicate 77 uu) o.2 && okHeap [] o.3
  then some (Res.ret ((num (List.getD o.fr 2 uu).data.toInt)), []) else none else none else (loop 46 0 lc_46_13 ([uu, AV.ptr 0 0] ++ List.replicate
  44 uu ++ [AV.e (E.sl 38 a0_4), (num (↑a0_4.length : Int)), (num 0)] ++ List.replicate 31 uu) [Ob.box [AV.e (E.int IntKind.i64
  a0_0), (num a0_1), (str a0_2), AV.e (E.sl 9 a0_3), AV.e (E.sl 38 a0_4)]]).bind fun o => bif o.ex.isWay (Way.exit 1) then bif okFr (List.replicate 80
  uu) o.2 && okHeap [] o.3 then some (Res.ret ((num 0)), []) else none else bif o.ex.isWay Way.ret then bif okFr ([uu, uu, AV.e (E.int
  IntKind.i64 0)] ++ List.replicate 77 uu) o.2 && okHeap [] o.3 then some (Res.ret ((num (List.getD o.fr 2 uu).data.toInt)), []) else none else none
  else (loop 46 0 lc_46_13 ([uu, AV.ptr 0 0] ++ List.replicate 44 uu ++ [AV.e (E.sl 38 a0_4), (num (↑a0_4.length : Int)), (num 0)]
  ++ List.replicate 31 uu) [Ob.box [(num a0_0), (num a0_1), (str a0_2), AV.e (E.sl 9 a0_3), AV.e (E.sl 38 a0_4)]]).bind fun o =>
  bif o.ex.isWay (Way.exit 1) then bif okFr (List.replicate 80 uu) o.2 && okHeap [] o.3 then some (Res.ret ((num 0)), []) else none else bif o.ex.isWay
  Way.ret then bif okFr ([uu, uu, (num 0)] ++ List.replicate 77 uu) o.2 && okHeap [] o.3 then some (Res.ret ((num (List.getD
  o.fr 2 uu).data.toInt)), []) else none else none else some (Res.ret ((num 1)), []) else some (Res.ret ((num 1)), []) else bif (a0_0 ==
  3) == true then bif (!a0_1 == 0) == true then bif !a0_1 == 1 then some (Res.ret ((num 1)), []) else (loop 46 0 lc_46_13 ([uu, AV.ptr 0 0] ++
  List.replicate 44 uu ++ [AV.e (E.sl 38 a0_4), (num (↑a0_4.length : Int)), (num 0)] ++ List.replicate 31 uu) [Ob.box [AV.e (E.int
  IntKind.i64 a0_0), (num a0_1), (str a0_2), AV.e (E.sl 9 a0_3), AV.e (E.sl 38 a0_4)]]).bind fun o => bif o.ex.isWay (Way.exit 1) then bif okFr
  (List.replicate 80 uu) o.2 && okHeap [] o.3 then some (Res.ret ((num 0)), []) else none else bif o.ex.isWay Way.ret then bif okFr ([uu, uu,
  (num 0)] ++ List.replicate 77 uu) o.2 && okHeap [] o.3 then some (Res.ret ((num (List.getD o.fr 2 uu).data.toInt)), []) else
  none else none else (loop 46 0 lc_46_13 ([uu, AV.ptr 0 0] ++ List.replicate 44 uu ++ [AV.e (E.sl 38 a0_4), (num (↑a0_4.length : Int)), AV.e (E.int
  IntKind.i64 0)] ++ List.replicate 31 uu) [Ob.box [(num a0_0), (num a0_1), (str a0_2), AV.e (E.sl 9 a0_3), AV.e (E.sl 38
  a0_4)]]).bind fun o => bif o.ex.isWay (Way.exit 1) then bif okFr (List.replicate 80 uu) o.2 && okHeap [] o.3 then some (Res.ret ((num 0)), []) else none
  else bif o.ex.isWay Way.ret then bif okFr ([uu, uu, (num 0)] ++ List.replicate 77 uu) o.2 && okHeap [] o.3 then some (Res.ret (AV.e (E.int
  IntKind.i64 (List.getD o.fr 2 uu).data.toInt)), []) else none else none else (loop 46 0 lc_46_13 ([uu, AV.ptr 0 0] ++ List.replicate 44 uu ++ [AV.e (E.sl 38
  a0_4), (num (↑a0_4.length : Int)), (num 0)] ++ List.replicate 31 uu) [Ob.box [(num a0_0), AV.e (E.int IntKind.i64
  a0_1), (str a0_2), AV.e (E.sl 9 a0_3), AV.e (E.sl 38 a0_4)]]).bind fun o => bif o.ex.isWay (Way.exit 1) then bif okFr (List.replicate 80 uu) o.2 && okHeap [] o.3
  then some (Res.ret ((num 0)), []) else none else bif o.ex.isWay Way.ret then bif okFr ([uu, uu, (num 0)] ++ List.replicate 77
  uu) o.2 && okHeap [] o.3 then some (Res.ret ((num (List.getD o.fr 2 uu).data.toInt)), []) else none else none else none else none else some
  (Res.ret ((num 10)), []) := by kernel_rfl
theorem eq_validL13 (run : RunF) (loop : LoopF) (t46 : List E) (t47 : Int) (t48 : Int) (t1_0 : Int) (t1_1 : Int) (t1_2 : List UInt8) (t1_3 : List E) (t1_4 : List E) : bodyLoop
  PP HH run loop 46 0 lc_46_13 (((((List.replicate 80 uu).set 1 (.ptr 0 0)).set 46 (.e (.sl 38 t46))).set 47 (.e (.int .i64 t47))).set 48 (.e (.int .i64
  t48))) [.box [.e (.int .i64 t1_0), .e (.int .i64 t1_1), .e (.str t1_2), .e (.sl 9 t1_3), .e (.sl 38 t1_4)]] = bif decide (t48 < t47) then bif decide (0 ≤ t48) && decide (t48 <
  (↑t46.length : Int)) then bif t1_0 == 6 then bif decide (0 ≤ t48) && decide (t48 < (↑t1_3.length : Int)) then bif decide (0 ≤ max 0 (IntKind.i64.wrap (t48 - 1))) && decide (max 0
  (IntKind.i64.wrap (t48 - 1)) < (↑t1_3.length : Int)) then (run none 75 [(str ((t1_3.getD t48.toNat E.nili).cell 0).toStr), (str ((t1_3.getD (max 0 (IntKind.i64.wrap
  (t48 - 1))).toNat E.nili).cell 0).toStr), (yes (t48 == 0))] []).bind fun rh => bif okHeap [] rh.2 then bif okRes PP 29 rh.fst then bif !rh.fst.val.data.toInt == 0
  then some (Out.mk (Ex.ret) (([uu, uu, (num rh.fst.val.data.toInt)] ++ List.replicate 77 uu)) ([]) ([])) else (run none 46 [AV.agg [AV.e
  (E.int IntKind.i64 ((t46.getD t48.toNat E.nili).cell 0).toInt), (num ((t46.getD t48.toNat E.nili).cell 1).toInt), (str ((t46.getD t48.toNat E.nili).cell
  2).toStr), AV.e (E.sl 9 ((t46.getD t48.toNat E.nili).cell 3).toList), AV.e (E.sl 38 ((t46.getD t48.toNat E.nili).cell 4).toList)]] []).bind fun rh => bif okHeap [] rh.2 then bif
  okRes PP 29 rh.fst then bif !rh.fst.val.data.toInt == 0 then some (Out.mk (Ex.ret) (([uu, uu, (num rh.fst.val.data.toInt)] ++ List.replicate
  77 uu)) ([]) ([])) else (loop 46 0 lc_46_13 ([uu, AV.ptr 0 0] ++ List.replicate 44 uu ++ [AV.e (E.sl 38 t46), (num t47), AV.e (E.int
  IntKind.i64 (IntKind.i64.wrap (t48 + 1)))] ++ List.replicate 31 uu) [Ob.box [(num t1_0), (num t1_1), (str t1_2), AV.e (E.sl 9
  t1_3), AV.e (E.sl 38 t1_4)]]).bind fun o => some o else none else none else none else none else none else none else (run none 46 [AV.agg [(num ((t46.getD
  t48.toNat E.nili).cell 0).toInt), (num ((t46.getD t48.toNat E.nili).cell 1).toInt), (str ((t46.getD t48.toNat E.nili).cell 2).toStr), AV.e (E.sl 9
  ((t46.getD t48.toNat E.nili).cell 3).toList), AV.e (E.sl 38 ((t46.getD t48.toNat E.nili).cell 4).toList)]] []).bind fun rh => bif okHeap [] rh.2 then bif okRes PP 29
  rh.fst then bif !rh.fst.val.data.toInt == 0 then some (Out.mk (Ex.ret) (([uu, uu, (num rh.fst.val.data.toInt)] ++ List.replicate 77 uu)) ([])
  ([])) else (loop 46 0 lc_46_13 ([uu, AV.ptr 0 0] ++ List.replicate 44 uu ++ [AV.e (E.sl 38 t46), (num t47), AV.e (E.int IntKind.i64
  (IntKind.i64.wrap (t48 + 1)))] ++ List.replicate 31 uu) [Ob.box [(num t1_0), (num t1_1), (str t1_2), AV.e (E.sl 9 t1_3), AV.e
  (E.sl 38 t1_4)]]).bind fun o => some o else none else none else none else some (Out.mk (Ex.exit 1) ((List.replicate 80 uu)) ([]) ([])) := by kernel_rfl
theorem eq_depth (run : RunF) (loop : LoopF) (a0_0 : Int) (a0_1 : Int) (a0_2 : List UInt8) (a0_3 : List E) (a0_4 : List E) (a1 : Int) : bodyRun PP HH run loop none
  45 [.agg [.e (.int .i64 a0_0), .e (.int .i64 a0_1), .e (.str a0_2), .e (.sl 9 a0_3), .e (.sl 38 a0_4)], .e (.int .i64 a1)] [] = bif a1 == 0 then some (Res.ret (AV.e (E.int
  IntKind.i64 1)), []) else bif bif a0_0 == 5 then true else a0_0 == 6 then (loop 45 0 lc_45_6 ([uu, (num a1), uu, uu, uu, AV.e (E.int
  IntKind.i64 0)] ++ List.replicate 13 uu ++ [AV.e (E.sl 38 a0_4), (num (↑a0_4.length : Int)), (num 0)] ++ List.replicate 12 uu)
  []).bind fun o => bif o.ex.isWay (Way.exit 0) then bif okFr ([uu, uu, uu, uu, uu, (num 0)] ++ List.replicate 28 uu) o.2 &&
  okHeap [] o.3 then some (Res.ret ((num (IntKind.i64.wrap ((List.getD o.fr 5 uu).data.toInt + 1)))), []) else none else none else some (Res.ret (AV.e
  (E.int IntKind.i64 (IntKind.i64.wrap (0 + 1)))), []) := by kernel_rfl
theorem eq_depthL6 (run : RunF) (loop : LoopF) (t1 : Int) (t5 : Int) (t19 : List E) (t20 : Int) (t21 : Int) : bodyLoop PP HH run loop 45 0 lc_45_6
  ((((((List.replicate 34 uu).set 1 (.e (.int .i64 t1))).set 5 (.e (.int .i64 t5))).set 19 (.e (.sl 38 t19))).set 20 (.e (.int .i64 t20))).set 21 (.e (.int .i64 t21))) [] =
  bif decide (t21 < t20) then bif decide (0 ≤ t21) && decide (t21 < (↑t19.length : Int)) then (run none 45 [AV.agg [(num ((t19.getD t21.toNat E.nili).cell
  0).toInt), (num ((t19.getD t21.toNat E.nili).cell 1).toInt), (str ((t19.getD t21.toNat E.nili).cell 2).toStr), AV.e (E.sl 9 ((t19.getD t21.toNat
  E.nili).cell 3).toList), AV.e (E.sl 38 ((t19.getD t21.toNat E.nili).cell 4).toList)], (num (IntKind.i64.wrap (t1 - 1)))] []).bind fun rh => bif okHeap [] rh.2
  then bif okRes PP 3 rh.fst then (loop 45 0 lc_45_6 ([uu, (num t1), uu, uu, uu, (num (max t5
  rh.fst.val.data.toInt))] ++ List.replicate 13 uu ++ [AV.e (E.sl 38 t19), (num t20), (num (IntKind.i64.wrap (t21 + 1)))] ++
  List.replicate 12 uu) []).bind fun o => some o else none else none else none else some (Out.mk (Ex.exit 0) (([uu, uu, uu, uu, uu, AV.e (E.int
  IntKind.i64 t5)] ++ List.replicate 28 uu)) ([]) ([])) := by kernel_rfl
theorem eq_spare (run : RunF) (loop : LoopF) (a0_0 : Int) (a0_1 : Int) (a0_2 : List UInt8) (a0_3 : List E) (a0_4 : List E) : bodyRun PP HH run loop none 86 [.agg
  [.e (.int .i64 a0_0), .e (.int .i64 a0_1), .e (.str a0_2), .e (.sl 9 a0_3), .e (.sl 38 a0_4)]] [] = bif a0_0 == 6 then bif (bif !bif a0_0 == 1 then true else a0_0 == 3 then !a0_1
  == 0 else false) == false then bif (!a0_0 == 2) == true then bif (!strEq a0_2 ([] : List UInt8)) == false then bif (!bif a0_0 == 5 then true else a0_0 == 6) == true then some
  (Res.ret ((yes (bif decide (0 < (↑a0_4.length : Int)) then true else !(↑a0_3.length : Int) == (↑a0_4.length : Int)))), []) else some (Res.ret ((yes !(↑a0_3.length
  : Int) == (↑a0_4.length : Int))), []) else some (Res.ret ((yes true)), []) else bif (!bif a0_0 == 5 then true else a0_0 == 6) == true then some (Res.ret (AV.e (E.bool
  (bif decide (0 < (↑a0_4.length : Int)) then true else !(↑a0_3.length : Int) == (↑a0_4.length : Int)))), []) else some (Res.ret ((yes !(↑a0_3.length : Int) ==
  (↑a0_4.length : Int))), []) else some (Res.ret ((yes true)), []) else bif (bif !bif a0_0 == 1 then true else a0_0 == 3 then !a0_1 == 0 else false) == false then bif
  (!a0_0 == 2) == true then bif (!strEq a0_2 ([] : List UInt8)) == false then bif (!bif a0_0 == 5 then true else a0_0 == 6) == true then some (Res.ret ((yes (bif decide (0
  < (↑a0_4.length : Int)) then true else !(↑a0_3.length : Int) == 0))), []) else some (Res.ret ((yes !(↑a0_3.length : Int) == 0)), []) else some (Res.ret (AV.e (E.bool
  true)), []) else bif (!bif a0_0 == 5 then true else a0_0 == 6) == true then some (Res.ret ((yes (bif decide (0 < (↑a0_4.length : Int)) then true else !(↑a0_3.length :
  Int) == 0))), []) else some (Res.ret ((yes !(↑a0_3.length : Int) == 0)), []) else some (Res.ret ((yes true)), []) := by kernel_rfl

end Go.Proofs.YtghdhhmlmdohkaaDoor
