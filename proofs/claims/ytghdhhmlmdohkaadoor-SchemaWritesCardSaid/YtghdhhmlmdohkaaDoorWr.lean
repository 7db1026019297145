/- The equations of functions, as a program of mine prints them. -/
import Derived.Test.YtghdhhmlmdohkaaDoorBase
namespace Go.Proofs.YtghdhhmlmdohkaaDoor
open Go Go.Den
set_option maxRecDepth 100000
set_option maxHeartbeats 0

theorem eq_SWrites (run : RunF) (loop : LoopF) (a0_0 : Int) (a0_1 : Int) (a0_2 : List UInt8) (a0_3 : List E) (a0_4 : List E) : bodyRun PP HH run loop none 5 [.agg
  [.e (.int .i64 a0_0), .e (.int .i64 a0_1), .e (.str a0_2), .e (.sl 9 a0_3), .e (.sl 38 a0_4)]] [] = (run none 20 [AV.agg [(num a0_0), AV.e (E.int IntKind.i64
  a0_1), (str a0_2), AV.e (E.sl 9 a0_3), AV.e (E.sl 38 a0_4)]] []).bind fun rh => bif okHeap [] rh.2 then bif okRes PP 4 rh.fst then bif !rh.fst.val.data.toBool then
  some (Res.ret ((yes true)), []) else (run none 21 [AV.agg [(num a0_0), (num a0_1), (str a0_2), AV.e (E.sl 9 a0_3), AV.e (E.sl
  38 a0_4)]] []).bind fun rh => bif okHeap [] rh.2 then bif okRes PP 31 rh.fst then (run none 22 [AV.agg [(num a0_0), (num a0_1), AV.e
  (E.str a0_2), AV.e (E.sl 9 a0_3), AV.e (E.sl 38 a0_4)]] []).bind fun rh_1 => bif okHeap [] rh_1.2 then bif okRes PP 31 rh_1.fst then bif bif !strEq (rh.fst.val.comp
  0).data.toStr (rh_1.fst.val.comp 0).data.toStr then true else !(rh.fst.val.comp 1).data.toInt == (rh_1.fst.val.comp 1).data.toInt then some (Res.ret ((yes false)), [])
  else bif !(rh_1.fst.val.comp 1).data.toInt == 0 then some (Res.ret ((yes true)), []) else (run none 23 [(str (rh.fst.val.comp 0).data.toStr)] []).bind fun rh =>
  bif okHeap [] rh.2 then bif okRes PP 41 rh.fst then bif (bif (rh.fst.val.comp 2).data.toInt == 0 then (rh.fst.val.comp 1).data.toInt == 0 else false) == true then (run
  none 24 [AV.agg [(num ((rh.fst.val.comp 0).data.cell 0).toInt), (num ((rh.fst.val.comp 0).data.cell 1).toInt), (str ((rh.fst.val.comp
  0).data.cell 2).toStr), AV.e (E.sl 9 ((rh.fst.val.comp 0).data.cell 3).toList), AV.e (E.sl 38 ((rh.fst.val.comp 0).data.cell 4).toList)], AV.agg [(num a0_0),
  (num a0_1), (str a0_2), AV.e (E.sl 9 a0_3), AV.e (E.sl 38 a0_4)]] []).bind fun rh => bif okHeap [] rh.2 then bif okRes PP 4 rh.fst then some
  (Res.ret ((yes rh.fst.val.data.toBool)), []) else none else none else some (Res.ret ((yes false)), []) else none else none else none else none else none else none
  else none else none := by kernel_rfl
theorem eq_RWrite (run : RunF) (loop : LoopF) (a0_0 : Int) (a0_1 : Int) (a0_2 : List UInt8) (a0_3 : List E) (a0_4 : List E) : bodyRun PP HH run loop none 22 [.agg
  [.e (.int .i64 a0_0), .e (.int .i64 a0_1), .e (.str a0_2), .e (.sl 9 a0_3), .e (.sl 38 a0_4)]] [] = (run none 26 [AV.agg [(num a0_0), AV.e (E.int IntKind.i64
  a0_1), (str a0_2), AV.e (E.sl 9 a0_3), AV.e (E.sl 38 a0_4)]] []).bind fun rh => bif okHeap [] rh.2 then bif okRes PP 29 rh.fst then bif !rh.fst.val.data.toInt == 0
  then some (Res.ret (AV.tup [(str []), (num rh.fst.val.data.toInt)]), []) else (run none 49 [AV.nils 5, AV.agg [(num a0_0), AV.e
  (E.int IntKind.i64 a0_1), (str a0_2), AV.e (E.sl 9 a0_3), AV.e (E.sl 38 a0_4)]] []).bind fun rh => bif okHeap [Ob.vec 5 0] rh.2 then bif rh.fst.isPan then none else bif
  rh.fst.isRet && okVal (AV.own 0 5 []) rh.fst.val then bif decide (65536 < (↑rh.fst.val.data.toList.length : Int)) then some (Res.ret (AV.tup [(str []), AV.e (E.int
  IntKind.i64 5)]), []) else bif rh.fst.val.data.toList.all isByte then some (Res.ret (AV.tup [(str (unbytes rh.fst.val.data.toList)), (num 0)]), []) else
  none else none else none else none else none := by kernel_rfl
theorem eq_rquote (run : RunF) (loop : LoopF) (a0 : List UInt8) : bodyRun PP HH run loop none 91 [.e (.str a0)] [] = (loop 91 0 lc_91_4 ([(str a0),
  uu, uu, (str [48, 49, 50, 51, 52, 53, 54, 55, 56, 57, 97, 98, 99, 100, 101, 102]), AV.own 0 5 [E.int IntKind.u8 34], (num 0)] ++
  List.replicate 45 uu) [Ob.vec 5 1]).bind fun o => bif o.ex.isWay (Way.exit 0) then bif okFr ([uu, uu, uu, uu, AV.own 0 5 []] ++ List.replicate 46
  uu) o.2 && okHeap [Ob.vec 5 0] o.3 then bif decide ((o.hp.ob 0).len = (List.getD o.fr 4 uu).data.toList.length) && decide (((List.getD o.fr 4
  uu).data.toList.length + 1) * 1 ≤ 140737488355328) then some (Res.ret (AV.e (E.sl 5 ((List.getD o.fr 4 uu).data.toList ++ [E.int IntKind.u8 34]))), []) else none else
  none else none := by kernel_rfl
theorem eq_rquoteL4 (run : RunF) (loop : LoopF) (t0 : List UInt8) (t3 : List UInt8) (t4 : List E) (t5 : Int) : bodyLoop PP HH run loop 91 0 lc_91_4
  (((((List.replicate 51 uu).set 0 (.e (.str t0))).set 3 (.e (.str t3))).set 4 (.own 0 5 t4)).set 5 (.e (.int .i64 t5))) [.vec 5 t4.length] = bif decide (t5 < (↑t0.length :
  Int)) then bif decide (0 ≤ t5) && decide (t5 < (↑t0.length : Int)) then bif bif (↑(t0.getD t5.toNat 0).toNat : Int) == 34 then true else (↑(t0.getD t5.toNat 0).toNat : Int) == 92
  then bif decide (t4.length = t4.length) && decide ((t4.length + (5, elems PP 5 1 2 [E.int IntKind.u8 (↑(t0.getD t5.toNat 0).toNat : Int), E.int IntKind.u8
  92].reverse).snd.length) * 1 ≤ 140737488355328) then (loop 91 0 lc_91_4 ([(str t0), uu, uu, (str t3), AV.own 0 5 (t4 ++ (5, elems PP 5 1 2 [E.int
  IntKind.u8 (↑(t0.getD t5.toNat 0).toNat : Int), E.int IntKind.u8 92].reverse).snd), (num (IntKind.i64.wrap (t5 + 1)))] ++ List.replicate 45 uu) [Ob.vec 5
  (t4 ++ (5, elems PP 5 1 2 [E.int IntKind.u8 (↑(t0.getD t5.toNat 0).toNat : Int), E.int IntKind.u8 92].reverse).snd).length]).bind fun o => some o else none else bif bif
  decide ((↑(t0.getD t5.toNat 0).toNat : Int) < 32) then true else decide (126 < (↑(t0.getD t5.toNat 0).toNat : Int)) then bif decide (0 ≤ (↑(t0.getD t5.toNat 0).toNat : Int).fdiv
  (2 ^ 4)) && decide ((↑(t0.getD t5.toNat 0).toNat : Int).fdiv (2 ^ 4) < (↑t3.length : Int)) then bif decide (IntKind.u8.wrap (↑(BitVec.ofInt 8 (↑(t0.getD t5.toNat 0).toNat : Int)
  &&& BitVec.ofInt 8 15).toNat : Int) < (↑t3.length : Int)) then bif decide (t4.length = t4.length) && decide ((t4.length + (5, elems PP 5 1 4 [E.int IntKind.u8 (↑(t3.getD
  (IntKind.u8.wrap (↑(BitVec.ofInt 8 (↑(t0.getD t5.toNat 0).toNat : Int) &&& BitVec.ofInt 8 15).toNat : Int)).toNat 0).toNat : Int), E.int IntKind.u8 (↑(t3.getD ((↑(t0.getD
  t5.toNat 0).toNat : Int).fdiv (2 ^ 4)).toNat 0).toNat : Int), E.int IntKind.u8 120, E.int IntKind.u8 92].reverse).snd.length) * 1 ≤ 140737488355328) then (loop 91 0 lc_91_4
  ([(str t0), uu, uu, (str t3), AV.own 0 5 (t4 ++ (5, elems PP 5 1 4 [E.int IntKind.u8 (↑(t3.getD (IntKind.u8.wrap (↑(BitVec.ofInt 8 (↑(t0.getD
  t5.toNat 0).toNat : Int) &&& BitVec.ofInt 8 15).toNat : Int)).toNat 0).toNat : Int), E.int IntKind.u8 (↑(t3.getD ((↑(t0.getD t5.toNat 0).toNat : Int).fdiv (2 ^ 4)).toNat 0).toNat
  : Int), E.int IntKind.u8 120, E.int IntKind.u8 92].reverse).snd), (num (IntKind.i64.wrap (t5 + 1)))] ++ List.replicate 45 uu) [Ob.vec 5 (t4 ++ (5, elems
  PP 5 1 4 [E.int IntKind.u8 (↑(t3.getD (IntKind.u8.wrap (↑(BitVec.ofInt 8 (↑(t0.getD t5.toNat 0).toNat : Int) &&& BitVec.ofInt 8 15).toNat : Int)).toNat 0).toNat : Int),
  E.int IntKind.u8 (↑(t3.getD ((↑(t0.getD t5.toNat 0).toNat : Int).fdiv (2 ^ 4)).toNat 0).toNat : Int), E.int IntKind.u8 120, E.int IntKind.u8 92].reverse).snd).length]).bind fun o
  => some o else none else none else none else bif decide (t4.length = t4.length) && decide ((t4.length + (5, [E.int IntKind.u8 (↑(t0.getD t5.toNat 0).toNat : Int)]).snd.length) *
  1 ≤ 140737488355328) then (loop 91 0 lc_91_4 ([(str t0), uu, uu, (str t3), AV.own 0 5 (t4 ++ (5, [E.int IntKind.u8 (↑(t0.getD t5.toNat 0).toNat :
  Int)]).snd), (num (IntKind.i64.wrap (t5 + 1)))] ++ List.replicate 45 uu) [Ob.vec 5 (t4 ++ (5, [E.int IntKind.u8 (↑(t0.getD t5.toNat 0).toNat :
  Int)]).snd).length]).bind fun o => some o else none else none else some (Out.mk (Ex.exit 0) (([uu, uu, uu, uu, AV.own 0 5 t4] ++ List.replicate 46
  uu)) ([Ob.vec 5 t4.length]) ([])) := by kernel_rfl
theorem eq_writtenN (run : RunF) (loop : LoopF) (a1_0 : Int) (a1_1 : Int) (a1_2 : List UInt8) (a1_3 : List E) (a1_4 : List E) : bodyRun PP HH run loop none 49
  [.nils 5, .agg [.e (.int .i64 a1_0), .e (.int .i64 a1_1), .e (.str a1_2), .e (.sl 9 a1_3), .e (.sl 38 a1_4)]] [] = bif a1_0 == 1 then (run none 82 [(num a1_1)]
  []).bind fun rh => bif okHeap [] rh.2 then bif okRes PP 9 rh.fst then bif decide ((bytesE rh.fst.val.data.toStr).length * 1 ≤ 140737488355328) then some (Res.ret (AV.own 0
  5 (bytesE rh.fst.val.data.toStr)), [Ob.vec 5 (bytesE rh.fst.val.data.toStr).length]) else none else none else none else bif a1_0 == 2 then (run none 91 [(str a1_2)]
  []).bind fun rh => bif okHeap [] rh.2 then bif okRes PP 67 rh.fst then bif decide (rh.fst.val.data.toList.length * 1 ≤ 140737488355328) then some (Res.ret (AV.own 0 5
  rh.fst.val.data.toList), [Ob.vec 5 rh.fst.val.data.toList.length]) else none else none else none else bif a1_0 == 3 then bif a1_1 == 0 then some (Res.ret (AV.own 0 5 [E.int
  IntKind.u8 (↑102 : Int), E.int IntKind.u8 (↑97 : Int), E.int IntKind.u8 (↑108 : Int), E.int IntKind.u8 (↑115 : Int), E.int IntKind.u8 (↑101 : Int)]), [Ob.vec 5 5]) else some
  (Res.ret (AV.own 0 5 [E.int IntKind.u8 (↑116 : Int), E.int IntKind.u8 (↑114 : Int), E.int IntKind.u8 (↑117 : Int), E.int IntKind.u8 (↑101 : Int)]), [Ob.vec 5 4]) else bif a1_0 ==
  6 then (loop 49 0 lc_49_15 ([AV.own 0 5 [E.int IntKind.u8 123], uu, uu, AV.ptr 1 0, uu, uu, AV.e (E.int IntKind.u8 125), (num 0)] ++
  List.replicate 68 uu) [Ob.vec 5 1, Ob.box [(num a1_0), (num a1_1), (str a1_2), AV.e (E.sl 9 a1_3), AV.e (E.sl 38 a1_4)]]).bind
  fun o => bif o.ex.isWay (Way.exit 1) then bif okFr ([AV.own 0 5 [], uu, uu, uu, uu, uu, AV.e (E.int IntKind.u8 0)] ++ List.replicate 69 uu)
  o.2 && okHeap [Ob.vec 5 0] o.3 then bif decide ((o.hp.ob 0).len = (List.getD o.fr 0 uu).data.toList.length) && decide (((List.getD o.fr 0 uu).data.toList.length + (5,
  [E.int IntKind.u8 (List.getD o.fr 6 uu).data.toInt]).snd.length) * 1 ≤ 140737488355328) then some (Res.ret (AV.own 0 5 ((List.getD o.fr 0 uu).data.toList ++ (5,
  [E.int IntKind.u8 (List.getD o.fr 6 uu).data.toInt]).snd)), [Ob.vec 5 ((List.getD o.fr 0 uu).data.toList ++ (5, [E.int IntKind.u8 (List.getD o.fr 6
  uu).data.toInt]).snd).length]) else none else none else none else (loop 49 0 lc_49_15 ([AV.own 0 5 [E.int IntKind.u8 91], uu, uu, AV.ptr 1 0, uu,
  uu, AV.e (E.int IntKind.u8 93), (num 0)] ++ List.replicate 68 uu) [Ob.vec 5 1, Ob.box [(num a1_0), AV.e (E.int IntKind.i64
  a1_1), (str a1_2), AV.e (E.sl 9 a1_3), AV.e (E.sl 38 a1_4)]]).bind fun o => bif o.ex.isWay (Way.exit 1) then bif okFr ([AV.own 0 5 [], uu, uu, uu,
  uu, uu, AV.e (E.int IntKind.u8 0)] ++ List.replicate 69 uu) o.2 && okHeap [Ob.vec 5 0] o.3 then bif decide ((o.hp.ob 0).len = (List.getD o.fr 0
  uu).data.toList.length) && decide (((List.getD o.fr 0 uu).data.toList.length + (5, [E.int IntKind.u8 (List.getD o.fr 6 uu).data.toInt]).snd.length) * 1 ≤
  140737488355328) then some (Res.ret (AV.own 0 5 ((List.getD o.fr 0 uu).data.toList ++ (5, [E.int IntKind.u8 (List.getD o.fr 6 uu).data.toInt]).snd)), [Ob.vec 5
  ((List.getD o.fr 0 uu).data.toList ++ (5, [E.int IntKind.u8 (List.getD o.fr 6 uu).data.toInt]).snd).length]) else none else none else none := by kernel_rfl
theorem eq_writtenO (run : RunF) (loop : LoopF) (a0 : List E) (a1_0 : Int) (a1_1 : Int) (a1_2 : List UInt8) (a1_3 : List E) (a1_4 : List E) : bodyRun PP HH run
  loop none 49 [.own 0 5 a0, .agg [.e (.int .i64 a1_0), .e (.int .i64 a1_1), .e (.str a1_2), .e (.sl 9 a1_3), .e (.sl 38 a1_4)]] [.vec 5 a0.length] = bif a1_0 == 1 then (run none
  82 [(num a1_1)] []).bind fun rh => bif okHeap [] rh.2 then bif okRes PP 9 rh.fst then bif decide (a0.length = a0.length) && decide ((a0.length + (bytesE
  rh.fst.val.data.toStr).length) * 1 ≤ 140737488355328) then some (Res.ret (AV.own 0 5 (a0 ++ bytesE rh.fst.val.data.toStr)), [Ob.vec 5 (a0 ++ bytesE
  rh.fst.val.data.toStr).length]) else none else none else none else bif a1_0 == 2 then (run none 91 [(str a1_2)] []).bind fun rh => bif okHeap [] rh.2 then bif okRes
  PP 67 rh.fst then bif decide (a0.length = a0.length) && decide ((a0.length + rh.fst.val.data.toList.length) * 1 ≤ 140737488355328) then some (Res.ret (AV.own 0 5 (a0 ++
  rh.fst.val.data.toList)), [Ob.vec 5 (a0 ++ rh.fst.val.data.toList).length]) else none else none else none else bif a1_0 == 3 then bif a1_1 == 0 then bif decide (a0.length =
  a0.length) && decide ((a0.length + 5) * 1 ≤ 140737488355328) then some (Res.ret (AV.own 0 5 (a0 ++ [E.int IntKind.u8 (↑102 : Int), E.int IntKind.u8 (↑97 : Int), E.int IntKind.u8
  (↑108 : Int), E.int IntKind.u8 (↑115 : Int), E.int IntKind.u8 (↑101 : Int)])), [Ob.vec 5 (a0 ++ bytesE ([102, 97, 108, 115, 101] : List UInt8)).length]) else none else bif decide
  (a0.length = a0.length) && decide ((a0.length + 4) * 1 ≤ 140737488355328) then some (Res.ret (AV.own 0 5 (a0 ++ [E.int IntKind.u8 (↑116 : Int), E.int IntKind.u8 (↑114 : Int),
  E.int IntKind.u8 (↑117 : Int), E.int IntKind.u8 (↑101 : Int)])), [Ob.vec 5 (a0 ++ bytesE ([116, 114, 117, 101] : List UInt8)).length]) else none else bif a1_0 == 6 then bif
  decide (a0.length = a0.length) && decide ((a0.length + 1) * 1 ≤ 140737488355328) then (loop 49 1 lc_49_15 ([AV.own 0 5 (a0 ++ (5, [E.int IntKind.u8 123]).snd), uu,
  uu, AV.ptr 1 0, uu, uu, AV.e (E.int IntKind.u8 125), (num 0)] ++ List.replicate 68 uu) [Ob.vec 5 (a0 ++ (5, [E.int IntKind.u8
  123]).snd).length, Ob.box [(num a1_0), (num a1_1), (str a1_2), AV.e (E.sl 9 a1_3), AV.e (E.sl 38 a1_4)]]).bind fun o => bif
  o.ex.isWay (Way.exit 1) then bif okFr ([AV.own 0 5 [], uu, uu, uu, uu, uu, AV.e (E.int IntKind.u8 0)] ++ List.replicate 69 uu) o.2 && okHeap
  [Ob.vec 5 0] o.3 then bif decide ((o.hp.ob 0).len = (List.getD o.fr 0 uu).data.toList.length) && decide (((List.getD o.fr 0 uu).data.toList.length + (5, [E.int
  IntKind.u8 (List.getD o.fr 6 uu).data.toInt]).snd.length) * 1 ≤ 140737488355328) then some (Res.ret (AV.own 0 5 ((List.getD o.fr 0 uu).data.toList ++ (5, [E.int
  IntKind.u8 (List.getD o.fr 6 uu).data.toInt]).snd)), [Ob.vec 5 ((List.getD o.fr 0 uu).data.toList ++ (5, [E.int IntKind.u8 (List.getD o.fr 6
  uu).data.toInt]).snd).length]) else none else none else none else none else bif decide (a0.length = a0.length) && decide ((a0.length + 1) * 1 ≤ 140737488355328) then (loop
  49 1 lc_49_15 ([AV.own 0 5 (a0 ++ (5, [E.int IntKind.u8 91]).snd), uu, uu, AV.ptr 1 0, uu, uu, AV.e (E.int IntKind.u8 93), (num 0)] ++
  List.replicate 68 uu) [Ob.vec 5 (a0 ++ (5, [E.int IntKind.u8 91]).snd).length, Ob.box [(num a1_0), (num a1_1), (str a1_2), AV.e
  (E.sl 9 a1_3), AV.e (E.sl 38 a1_4)]]).bind fun o => bif o.ex.isWay (Way.exit 1) then bif okFr ([AV.own 0 5 [], uu, uu, uu, uu, uu, AV.e (E.int
  IntKind.u8 0)] ++ List.replicate 69 uu) o.2 && okHeap [Ob.vec 5 0] o.3 then bif decide ((o.hp.ob 0).len = (List.getD o.fr 0 uu).data.toList.length) && decide
  (((List.getD o.fr 0 uu).data.toList.length + (5, [E.int IntKind.u8 (List.getD o.fr 6 uu).data.toInt]).snd.length) * 1 ≤ 140737488355328) then some (Res.ret (AV.own 0
  5 ((List.getD o.fr 0 uu).data.toList ++ (5, [E.int IntKind.u8 (List.getD o.fr 6 uu).data.toInt]).snd)), [Ob.vec 5 ((List.getD o.fr 0 uu).data.toList ++ (5,
  [E.int IntKind.u8 (List.getD o.fr 6 uu).data.toInt]).snd).length]) else none else none else none else none := by kernel_rfl
theorem eq_writtenNL15 (run : RunF) (loop : LoopF) (t0 : List E) (t6 : Int) (t7 : Int) (t3_0 : Int) (t3_1 : Int) (t3_2 : List UInt8) (t3_3 : List E) (t3_4 : List E) : bodyLoop
  PP HH run loop 49 0 lc_49_15 (((((List.replicate 76 uu).set 0 (.own 0 5 t0)).set 3 (.ptr 1 0)).set 6 (.e (.int .u8 t6))).set 7 (.e (.int .i64 t7))) [.vec 5
  t0.length, .box [.e (.int .i64 t3_0), .e (.int .i64 t3_1), .e (.str t3_2), .e (.sl 9 t3_3), .e (.sl 38 t3_4)]] = bif decide (t7 < (↑t3_4.length : Int)) then bif decide (0 < t7)
  then bif decide (t0.length = t0.length) && decide ((t0.length + 1) * 1 ≤ 140737488355328) then bif t3_0 == 6 then bif decide (0 ≤ t7) && decide (t7 < (↑t3_3.length : Int)) then
  bif decide ((t0 ++ [E.int IntKind.u8 44]).length = (t0 ++ [E.int IntKind.u8 44]).length) && decide (((t0 ++ [E.int IntKind.u8 44]).length + (bytesE ((t3_3.getD t7.toNat
  E.nili).cell 0).toStr).length) * 1 ≤ 140737488355328) then bif decide ((t0 ++ [E.int IntKind.u8 44] ++ bytesE ((t3_3.getD t7.toNat E.nili).cell 0).toStr).length = (t0 ++ [E.int
  IntKind.u8 44] ++ bytesE ((t3_3.getD t7.toNat E.nili).cell 0).toStr).length) && decide (((t0 ++ [E.int IntKind.u8 44] ++ bytesE ((t3_3.getD t7.toNat E.nili).cell 0).toStr).length
  + 1) * 1 ≤ 140737488355328) then bif decide (0 ≤ t7) && decide (t7 < (↑t3_4.length : Int)) then (run none 49 [AV.own 0 5 (t0 ++ [E.int IntKind.u8 44] ++ bytesE ((t3_3.getD
  t7.toNat E.nili).cell 0).toStr ++ [E.int IntKind.u8 58]), AV.agg [(num ((t3_4.getD t7.toNat E.nili).cell 0).toInt), (num ((t3_4.getD
  t7.toNat E.nili).cell 1).toInt), (str ((t3_4.getD t7.toNat E.nili).cell 2).toStr), AV.e (E.sl 9 ((t3_4.getD t7.toNat E.nili).cell 3).toList), AV.e (E.sl 38 ((t3_4.getD
  t7.toNat E.nili).cell 4).toList)]] [Ob.vec 5 (t0 ++ [E.int IntKind.u8 44] ++ bytesE ((t3_3.getD t7.toNat E.nili).cell 0).toStr ++ [E.int IntKind.u8 58]).length]).bind fun rh =>
  bif okHeap [Ob.vec 5 0] rh.2 then bif rh.fst.isPan then none else bif rh.fst.isRet && okVal (AV.own 0 5 []) rh.fst.val then (loop 49 0 lc_49_15 ([AV.own 0 5
  rh.fst.val.data.toList, uu, uu, AV.ptr 1 0, uu, uu, AV.e (E.int IntKind.u8 t6), (num (IntKind.i64.wrap (t7 + 1)))] ++ List.replicate 68
  uu) [Ob.vec 5 (rh.snd.ob 0).len, Ob.box [(num t3_0), (num t3_1), (str t3_2), AV.e (E.sl 9 t3_3), AV.e (E.sl 38 t3_4)]]).bind
  fun o => some o else none else none else none else none else none else none else bif decide (0 ≤ t7) && decide (t7 < (↑t3_4.length : Int)) then (run none 49 [AV.own 0 5 (t0 ++
  [E.int IntKind.u8 44]), AV.agg [(num ((t3_4.getD t7.toNat E.nili).cell 0).toInt), (num ((t3_4.getD t7.toNat E.nili).cell 1).toInt), AV.e
  (E.str ((t3_4.getD t7.toNat E.nili).cell 2).toStr), AV.e (E.sl 9 ((t3_4.getD t7.toNat E.nili).cell 3).toList), AV.e (E.sl 38 ((t3_4.getD t7.toNat E.nili).cell 4).toList)]]
  [Ob.vec 5 (t0 ++ [E.int IntKind.u8 44]).length]).bind fun rh => bif okHeap [Ob.vec 5 0] rh.2 then bif rh.fst.isPan then none else bif rh.fst.isRet && okVal (AV.own 0 5 [])
  rh.fst.val then (loop 49 0 lc_49_15 ([AV.own 0 5 rh.fst.val.data.toList, uu, uu, AV.ptr 1 0, uu, uu, AV.e (E.int IntKind.u8 t6), AV.e (E.int IntKind.i64
  (IntKind.i64.wrap (t7 + 1)))] ++ List.replicate 68 uu) [Ob.vec 5 (rh.snd.ob 0).len, Ob.box [(num t3_0), (num t3_1), (str t3_2),
  AV.e (E.sl 9 t3_3), AV.e (E.sl 38 t3_4)]]).bind fun o => some o else none else none else none else none else bif t3_0 == 6 then bif decide (0 ≤ t7) && decide (t7 < (↑t3_3.length
  : Int)) then bif decide (t0.length = t0.length) && decide ((t0.length + (bytesE ((t3_3.getD t7.toNat E.nili).cell 0).toStr).length) * 1 ≤ 140737488355328) then bif decide ((t0 ++
  bytesE ((t3_3.getD t7.toNat E.nili).cell 0).toStr).length = (t0 ++ bytesE ((t3_3.getD t7.toNat E.nili).cell 0).toStr).length) && decide (((t0 ++ bytesE ((t3_3.getD t7.toNat
  E.nili).cell 0).toStr).length + 1) * 1 ≤ 140737488355328) then bif decide (0 ≤ t7) && decide (t7 < (↑t3_4.length : Int)) then (run none 49 [AV.own 0 5 (t0 ++ bytesE ((t3_3.getD
  t7.toNat E.nili).cell 0).toStr ++ [E.int IntKind.u8 58]), AV.agg [(num ((t3_4.getD t7.toNat E.nili).cell 0).toInt), (num ((t3_4.getD
  t7.toNat E.nili).cell 1).toInt), (str ((t3_4.getD t7.toNat E.nili).cell 2).toStr), AV.e (E.sl 9 ((t3_4.getD t7.toNat E.nili).cell 3).toList), AV.e (E.sl 38 ((t3_4.getD
  t7.toNat E.nili).cell 4).toList)]] [Ob.vec 5 (t0 ++ bytesE ((t3_3.getD t7.toNat E.nili).cell 0).toStr ++ [E.int IntKind.u8 58]).length]).bind fun rh => bif okHeap [Ob.vec 5 0]
  rh.2 then bif rh.fst.isPan then none else bif rh.fst.isRet && okVal (AV.own 0 5 []) rh.fst.val then (loop 49 0 lc_49_15 ([AV.own 0 5 rh.fst.val.data.toList, uu, uu,
  AV.ptr 1 0, uu, uu, AV.e (E.int IntKind.u8 t6), (num (IntKind.i64.wrap (t7 + 1)))] ++ List.replicate 68 uu) [Ob.vec 5 (rh.snd.ob 0).len,
  Ob.box [(num t3_0), (num t3_1), (str t3_2), AV.e (E.sl 9 t3_3), AV.e (E.sl 38 t3_4)]]).bind fun o => some o else none else none else
  none else none else none else none else bif decide (0 ≤ t7) && decide (t7 < (↑t3_4.length : Int)) then (run none 49 [AV.own 0 5 t0, AV.agg [(num ((t3_4.getD
  t7.toNat E.nili).cell 0).toInt), (num ((t3_4.getD t7.toNat E.nili).cell 1).toInt), (str ((t3_4.getD t7.toNat E.nili).cell 2).toStr), AV.e (E.sl 9
  ((t3_4.getD t7.toNat E.nili).cell 3).toList), AV.e (E.sl 38 ((t3_4.getD t7.toNat E.nili).cell 4).toList)]] [Ob.vec 5 t0.length]).bind fun rh => bif okHeap [Ob.vec 5 0] rh.2 then
  bif rh.fst.isPan then none else bif rh.fst.isRet && okVal (AV.own 0 5 []) rh.fst.val then (loop 49 0 lc_49_15 ([AV.own 0 5 rh.fst.val.data.toList, uu, uu, AV.ptr 1 0,
  uu, uu, AV.e (E.int IntKind.u8 t6), (num (IntKind.i64.wrap (t7 + 1)))] ++ List.replicate 68 uu) [Ob.vec 5 (rh.snd.ob 0).len, Ob.box [AV.e
  (E.int IntKind.i64 t3_0), (num t3_1), (str t3_2), AV.e (E.sl 9 t3_3), AV.e (E.sl 38 t3_4)]]).bind fun o => some o else none else none else none else
  some (Out.mk (Ex.exit 1) (([AV.own 0 5 t0, uu, uu, uu, uu, uu, AV.e (E.int IntKind.u8 t6)] ++ List.replicate 69 uu)) ([Ob.vec 5 t0.length])
  ([])) := by kernel_rfl
theorem eq_writtenOL15 (run : RunF) (loop : LoopF) (t0 : List E) (t6 : Int) (t7 : Int) (t3_0 : Int) (t3_1 : Int) (t3_2 : List UInt8) (t3_3 : List E) (t3_4 : List E) : bodyLoop
  PP HH run loop 49 1 lc_49_15 (((((List.replicate 76 uu).set 0 (.own 0 5 t0)).set 3 (.ptr 1 0)).set 6 (.e (.int .u8 t6))).set 7 (.e (.int .i64 t7))) [.vec 5
  t0.length, .box [.e (.int .i64 t3_0), .e (.int .i64 t3_1), .e (.str t3_2), .e (.sl 9 t3_3), .e (.sl 38 t3_4)]] = bif decide (t7 < (↑t3_4.length : Int)) then bif decide (0 < t7)
  then bif decide (t0.length = t0.length) && decide ((t0.length + 1) * 1 ≤ 140737488355328) then bif t3_0 == 6 then bif decide (0 ≤ t7) && decide (t7 < (↑t3_3.length : Int)) then
  bif decide ((t0 ++ [E.int IntKind.u8 44]).length = (t0 ++ [E.int IntKind.u8 44]).length) && decide (((t0 ++ [E.int IntKind.u8 44]).length + (bytesE ((t3_3.getD t7.toNat
  E.nili).cell 0).toStr).length) * 1 ≤ 140737488355328) then bif decide ((t0 ++ [E.int IntKind.u8 44] ++ bytesE ((t3_3.getD t7.toNat E.nili).cell 0).toStr).length = (t0 ++ [E.int
  IntKind.u8 44] ++ bytesE ((t3_3.getD t7.toNat E.nili).cell 0).toStr).length) && decide (((t0 ++ [E.int IntKind.u8 44] ++ bytesE ((t3_3.getD t7.toNat E.nili).cell 0).toStr).length
  + 1) * 1 ≤ 140737488355328) then bif decide (0 ≤ t7) && decide (t7 < (↑t3_4.length : Int)) then (run none 49 [AV.own 0 5 (t0 ++ [E.int IntKind.u8 44] ++ bytesE ((t3_3.getD
  t7.toNat E.nili).cell 0).toStr ++ [E.int IntKind.u8 58]), AV.agg [(num ((t3_4.getD t7.toNat E.nili).cell 0).toInt), (num ((t3_4.getD
  t7.toNat E.nili).cell 1).toInt), (str ((t3_4.getD t7.toNat E.nili).cell 2).toStr), AV.e (E.sl 9 ((t3_4.getD t7.toNat E.nili).cell 3).toList), AV.e (E.sl 38 ((t3_4.getD
  t7.toNat E.nili).cell 4).toList)]] [Ob.vec 5 (t0 ++ [E.int IntKind.u8 44] ++ bytesE ((t3_3.getD t7.toNat E.nili).cell 0).toStr ++ [E.int IntKind.u8 58]).length]).bind fun rh =>
  bif okHeap [Ob.vec 5 0] rh.2 then bif rh.fst.isPan then none else bif rh.fst.isRet && okVal (AV.own 0 5 []) rh.fst.val then (loop 49 1 lc_49_15 ([AV.own 0 5
  rh.fst.val.data.toList, uu, uu, AV.ptr 1 0, uu, uu, AV.e (E.int IntKind.u8 t6), (num (IntKind.i64.wrap (t7 + 1)))] ++ List.replicate 68
  uu) [Ob.vec 5 (rh.snd.ob 0).len, Ob.box [(num t3_0), (num t3_1), (str t3_2), AV.e (E.sl 9 t3_3), AV.e (E.sl 38 t3_4)]]).bind
  fun o => some o else none else none else none else none else none else none else bif decide (0 ≤ t7) && decide (t7 < (↑t3_4.length : Int)) then (run none 49 [AV.own 0 5 (t0 ++
  [E.int IntKind.u8 44]), AV.agg [(num ((t3_4.getD t7.toNat E.nili).cell 0).toInt), (num ((t3_4.getD t7.toNat E.nili).cell 1).toInt), AV.e
  (E.str ((t3_4.getD t7.toNat E.nili).cell 2).toStr), AV.e (E.sl 9 ((t3_4.getD t7.toNat E.nili).cell 3).toList), AV.e (E.sl 38 ((t3_4.getD t7.toNat E.nili).cell 4).toList)]]
  [Ob.vec 5 (t0 ++ [E.int IntKind.u8 44]).length]).bind fun rh => bif okHeap [Ob.vec 5 0] rh.2 then bif rh.fst.isPan then none else bif rh.fst.isRet && okVal (AV.own 0 5 [])
  rh.fst.val then (loop 49 1 lc_49_15 ([AV.own 0 5 rh.fst.val.data.toList, uu, uu, AV.ptr 1 0, uu, uu, AV.e (E.int IntKind.u8 t6), AV.e (E.int IntKind.i64
  (IntKind.i64.wrap (t7 + 1)))] ++ List.replicate 68 uu) [Ob.vec 5 (rh.snd.ob 0).len, Ob.box [(num t3_0), (num t3_1), (str t3_2),
  AV.e (E.sl 9 t3_3), AV.e (E.sl 38 t3_4)]]).bind fun o => some o else none else none else none else none else bif t3_0 == 6 then bif decide (0 ≤ t7) && decide (t7 < (↑t3_3.length
  : Int)) then bif decide (t0.length = t0.length) && decide ((t0.length + (bytesE ((t3_3.getD t7.toNat E.nili).cell 0).toStr).length) * 1 ≤ 140737488355328) then bif decide ((t0 ++
  bytesE ((t3_3.getD t7.toNat E.nili).cell 0).toStr).length = (t0 ++ bytesE ((t3_3.getD t7.toNat E.nili).cell 0).toStr).length) && decide (((t0 ++ bytesE ((t3_3.getD t7.toNat
  E.nili).cell 0).toStr).length + 1) * 1 ≤ 140737488355328) then bif decide (0 ≤ t7) && decide (t7 < (↑t3_4.length : Int)) then (run none 49 [AV.own 0 5 (t0 ++ bytesE ((t3_3.getD
  t7.toNat E.nili).cell 0).toStr ++ [E.int IntKind.u8 58]), AV.agg [(num ((t3_4.getD t7.toNat E.nili).cell 0).toInt), (num ((t3_4.getD
  t7.toNat E.nili).cell 1).toInt), (str ((t3_4.getD t7.toNat E.nili).cell 2).toStr), AV.e (E.sl 9 ((t3_4.getD t7.toNat E.nili).cell 3).toList), AV.e (E.sl 38 ((t3_4.getD
  t7.toNat E.nili).cell 4).toList)]] [Ob.vec 5 (t0 ++ bytesE ((t3_3.getD t7.toNat E.nili).cell 0).toStr ++ [E.int IntKind.u8 58]).length]).bind fun rh => bif okHeap [Ob.vec 5 0]
  rh.2 then bif rh.fst.isPan then none else bif rh.fst.isRet && okVal (AV.own 0 5 []) rh.fst.val then (loop 49 1 lc_49_15 ([AV.own 0 5 rh.fst.val.data.toList, uu, uu,
  AV.ptr 1 0, uu, uu, AV.e (E.int IntKind.u8 t6), (num (IntKind.i64.wrap (t7 + 1)))] ++ List.replicate 68 uu) [Ob.vec 5 (rh.snd.ob 0).len,
  Ob.box [(num t3_0), (num t3_1), (str t3_2), AV.e (E.sl 9 t3_3), AV.e (E.sl 38 t3_4)]]).bind fun o => some o else none else none else
  none else none else none else none else bif decide (0 ≤ t7) && decide (t7 < (↑t3_4.length : Int)) then (run none 49 [AV.own 0 5 t0, AV.agg [(num ((t3_4.getD
  t7.toNat E.nili).cell 0).toInt), (num ((t3_4.getD t7.toNat E.nili).cell 1).toInt), (str ((t3_4.getD t7.toNat E.nili).cell 2).toStr), AV.e (E.sl 9
  ((t3_4.getD t7.toNat E.nili).cell 3).toList), AV.e (E.sl 38 ((t3_4.getD t7.toNat E.nili).cell 4).toList)]] [Ob.vec 5 t0.length]).bind fun rh => bif okHeap [Ob.vec 5 0] rh.2 then
  bif rh.fst.isPan then none else bif rh.fst.isRet && okVal (AV.own 0 5 []) rh.fst.val then (loop 49 1 lc_49_15 ([AV.own 0 5 rh.fst.val.data.toList, uu, uu, AV.ptr 1 0,
  uu, uu, AV.e (E.int IntKind.u8 t6), (num (IntKind.i64.wrap (t7 + 1)))] ++ List.replicate 68 uu) [Ob.vec 5 (rh.snd.ob 0).len, Ob.box [AV.e
  (E.int IntKind.i64 t3_0), (num t3_1), (str t3_2), AV.e (E.sl 9 t3_3), AV.e (E.sl 38 t3_4)]]).bind fun o => some o else none else none else none else
  some (Out.mk (Ex.exit 1) (([AV.own 0 5 t0, uu, uu, uu, uu, uu, AV.e (E.int IntKind.u8 t6)] ++ List.replicate 69 uu)) ([Ob.vec 5 t0.length])
  ([])) := by kernel_rfl

end Go.Proofs.YtghdhhmlmdohkaaDoor
