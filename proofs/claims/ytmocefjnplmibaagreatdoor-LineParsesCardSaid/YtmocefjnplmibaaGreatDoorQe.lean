/- The equations of functions, as a program of mine prints them. -/
import Derived.Test.YtmocefjnplmibaaGreatDoorBase
namespace Go.Proofs.YtmocefjnplmibaaGreatDoor
open Go Go.Den
set_option maxRecDepth 100000
set_option maxHeartbeats 0

theorem eq_Quote (run : RunF) (loop : LoopF) (a0 : List UInt8) : bodyRun PP HH run loop none 14 [str a0] [] = (loop 14 0 lc_14_3 ([str a0, uu, uu, AV.own 0 5 [E.int IntKind.u8
  34], num 0] ++ List.replicate 52 uu) [Ob.vec 5 1]).bind fun o => bif o.ex.isWay (Way.exit 0) then bif okFr ([uu, uu, uu, AV.own 0 5 []] ++ List.replicate 53 uu) o.2 &&
  okHeap [Ob.vec 5 0] o.3 then bif decide ((o.hp.ob 0).len = (List.getD o.fr 3 uu).data.toList.length) && decide (((List.getD o.fr 3 uu).data.toList.length + 1) * 1 ≤
  140737488355328) then bif ((List.getD o.fr 3 uu).data.toList ++ [E.int IntKind.u8 34]).all isByte then some (Res.ret ((str (unbytes ((List.getD o.fr 3 uu).data.toList ++
  [E.int IntKind.u8 34])))), []) else none else none else none else none := by kernel_rfl
theorem eq_QuoteL3 (run : RunF) (loop : LoopF) (t0 : List UInt8) (t3 : List E) (t4 : Int) : bodyLoop PP HH run loop 14 0 lc_14_3 ((((List.replicate 57 uu).set 0 (str t0)).set
  3 (.own 0 5 t3)).set 4 (num t4)) [.vec 5 t3.length] = bif decide (t4 < (↑t0.length : Int)) then bif decide (0 ≤ t4) && decide (t4 < (↑t0.length : Int)) then bif bif
  (↑(t0.getD t4.toNat 0).toNat : Int) == 34 then true else (↑(t0.getD t4.toNat 0).toNat : Int) == 92 then bif decide (t3.length = t3.length) && decide ((t3.length + (5, elems
  PP 5 1 2 [E.int IntKind.u8 (↑(t0.getD t4.toNat 0).toNat : Int), E.int IntKind.u8 92].reverse).snd.length) * 1 ≤ 140737488355328) then (loop 14 0 lc_14_3 ([str t0, uu, uu,
  AV.own 0 5 (t3 ++ (5, elems PP 5 1 2 [E.int IntKind.u8 (↑(t0.getD t4.toNat 0).toNat : Int), E.int IntKind.u8 92].reverse).snd), (num (IntKind.i64.wrap (t4 + 1)))] ++
  List.replicate 52 uu) [Ob.vec 5 (t3 ++ (5, elems PP 5 1 2 [E.int IntKind.u8 (↑(t0.getD t4.toNat 0).toNat : Int), E.int IntKind.u8 92].reverse).snd).length]).bind fun o =>
  some o else none else bif (↑(t0.getD t4.toNat 0).toNat : Int) == 32 then bif decide (t3.length = t3.length) && decide ((t3.length + 2) * 1 ≤ 140737488355328) then (loop 14 0
  lc_14_3 ([str t0, uu, uu, AV.own 0 5 (t3 ++ [E.int IntKind.u8 92, E.int IntKind.u8 115]), (num (IntKind.i64.wrap (t4 + 1)))] ++ List.replicate 52 uu) [Ob.vec 5 (t3 ++ [E.int
  IntKind.u8 92, E.int IntKind.u8 115]).length]).bind fun o => some o else none else bif bif decide (32 < (↑(t0.getD t4.toNat 0).toNat : Int)) then decide ((↑(t0.getD t4.toNat
  0).toNat : Int) < 127) else false then bif decide (t3.length = t3.length) && decide ((t3.length + (5, [E.int IntKind.u8 (↑(t0.getD t4.toNat 0).toNat : Int)]).snd.length) * 1
  ≤ 140737488355328) then (loop 14 0 lc_14_3 ([str t0, uu, uu, AV.own 0 5 (t3 ++ (5, [E.int IntKind.u8 (↑(t0.getD t4.toNat 0).toNat : Int)]).snd), (num (IntKind.i64.wrap (t4 +
  1)))] ++ List.replicate 52 uu) [Ob.vec 5 (t3 ++ (5, [E.int IntKind.u8 (↑(t0.getD t4.toNat 0).toNat : Int)]).snd).length]).bind fun o => some o else none else bif decide (0 ≤
  (↑(t0.getD t4.toNat 0).toNat : Int).fdiv (2 ^ 4)) && decide ((↑(t0.getD t4.toNat 0).toNat : Int).fdiv (2 ^ 4) < (↑16 : Int)) then bif decide (IntKind.u8.wrap (↑(BitVec.ofInt
  8 (↑(t0.getD t4.toNat 0).toNat : Int) &&& BitVec.ofInt 8 15).toNat : Int) < (↑16 : Int)) then bif decide (t3.length = t3.length) && decide ((t3.length + (5, elems PP 5 1 4
  [E.int IntKind.u8 (↑(([48, 49, 50, 51, 52, 53, 54, 55, 56, 57, 97, 98, 99, 100, 101, 102] : List UInt8).getD (IntKind.u8.wrap (↑(BitVec.ofInt 8 (↑(t0.getD t4.toNat 0).toNat
  : Int) &&& BitVec.ofInt 8 15).toNat : Int)).toNat 0).toNat : Int), E.int IntKind.u8 (↑(([48, 49, 50, 51, 52, 53, 54, 55, 56, 57, 97, 98, 99, 100, 101, 102] : List
  UInt8).getD ((↑(t0.getD t4.toNat 0).toNat : Int).fdiv (2 ^ 4)).toNat 0).toNat : Int), E.int IntKind.u8 120, E.int IntKind.u8 92].reverse).snd.length) * 1 ≤ 140737488355328)
  then (loop 14 0 lc_14_3 ([str t0, uu, uu, AV.own 0 5 (t3 ++ (5, elems PP 5 1 4 [E.int IntKind.u8 (↑(([48, 49, 50, 51, 52, 53, 54, 55, 56, 57, 97, 98, 99, 100, 101, 102] :
  List UInt8).getD (IntKind.u8.wrap (↑(BitVec.ofInt 8 (↑(t0.getD t4.toNat 0).toNat : Int) &&& BitVec.ofInt 8 15).toNat : Int)).toNat 0).toNat : Int), E.int IntKind.u8 (↑(([48,
  49, 50, 51, 52, 53, 54, 55, 56, 57, 97, 98, 99, 100, 101, 102] : List UInt8).getD ((↑(t0.getD t4.toNat 0).toNat : Int).fdiv (2 ^ 4)).toNat 0).toNat : Int), E.int IntKind.u8
  120, E.int IntKind.u8 92].reverse).snd), (num (IntKind.i64.wrap (t4 + 1)))] ++ List.replicate 52 uu) [Ob.vec 5 (t3 ++ (5, elems PP 5 1 4 [E.int IntKind.u8 (↑(([48, 49, 50,
  51, 52, 53, 54, 55, 56, 57, 97, 98, 99, 100, 101, 102] : List UInt8).getD (IntKind.u8.wrap (↑(BitVec.ofInt 8 (↑(t0.getD t4.toNat 0).toNat : Int) &&& BitVec.ofInt 8 15).toNat
  : Int)).toNat 0).toNat : Int), E.int IntKind.u8 (↑(([48, 49, 50, 51, 52, 53, 54, 55, 56, 57, 97, 98, 99, 100, 101, 102] : List UInt8).getD ((↑(t0.getD t4.toNat 0).toNat :
  Int).fdiv (2 ^ 4)).toNat 0).toNat : Int), E.int IntKind.u8 120, E.int IntKind.u8 92].reverse).snd).length]).bind fun o => some o else none else none else none else none else
  some (Out.mk (Ex.exit 0) (([uu, uu, uu, AV.own 0 5 t3] ++ List.replicate 53 uu)) ([Ob.vec 5 t3.length]) ([])) := by kernel_rfl
theorem eq_RQuote (run : RunF) (loop : LoopF) (a0 : List UInt8) : bodyRun PP HH run loop none 15 [str a0] [] = (loop 15 0 lc_15_3 ([str a0, uu, uu, (str [34]), num 0] ++
  List.replicate 14 uu) []).bind fun o => bif o.ex.isWay (Way.exit 0) then bif okFr ([uu, uu, uu, str []] ++ List.replicate 15 uu) o.2 && okHeap [] o.3 then bif (decide
  ((List.getD o.fr 3 uu).data.toStr.length + 1 ≤ 9223372036854775807)) then some (Res.ret ((str ((List.getD o.fr 3 uu).data.toStr ++ [34]))), []) else none else none else none
  := by kernel_rfl
theorem eq_RQuoteL3 (run : RunF) (loop : LoopF) (t0 t3 : List UInt8) (t4 : Int) : bodyLoop PP HH run loop 15 0 lc_15_3 ((((List.replicate 19 uu).set 0 (str t0)).set 3 (str
  t3)).set 4 (num t4)) [] = bif decide (t4 < (↑t0.length : Int)) then bif decide (0 ≤ t4) && decide (t4 < (↑t0.length : Int)) then (run none 30 [AV.e (E.int IntKind.u8
  (↑(t0.getD t4.toNat 0).toNat : Int))] []).bind fun rh => bif okHeap [] rh.2 then bif okRes PP 9 rh.fst then bif (decide (t3.length + rh.fst.val.data.toStr.length ≤
  9223372036854775807)) then (loop 15 0 lc_15_3 ([str t0, uu, uu, (str (t3 ++ rh.fst.val.data.toStr)), (num (IntKind.i64.wrap (t4 + 1)))] ++ List.replicate 14 uu) []).bind fun
  o => some o else none else none else none else none else some (Out.mk (Ex.exit 0) (([uu, uu, uu, str t3] ++ List.replicate 15 uu)) ([]) ([])) := by kernel_rfl
theorem eq_Unquote (run : RunF) (loop : LoopF) (a0 : List UInt8) : bodyRun PP HH run loop none 12 [str a0] [] = bif decide ((↑a0.length : Int) < 2) == false then bif decide (0
  < (↑a0.length : Int)) then bif (!(↑(a0.getD 0 0).toNat : Int) == 34) == false then bif decide (0 ≤ IntKind.i64.wrap ((↑a0.length : Int) - 1)) && decide (IntKind.i64.wrap
  ((↑a0.length : Int) - 1) < (↑a0.length : Int)) then bif !(↑(a0.getD (IntKind.i64.wrap ((↑a0.length : Int) - 1)).toNat 0).toNat : Int) == 34 then some (Res.ret (AV.tup [str
  [], num 2]), []) else bif decide (1 ≤ IntKind.i64.wrap ((↑a0.length : Int) - 1)) && decide (IntKind.i64.wrap ((↑a0.length : Int) - 1) ≤ (↑a0.length : Int)) then (loop 12 0
  lc_12_6 ([str a0, uu, uu, uu, (str (List.drop 1 (List.take (IntKind.i64.wrap ((↑a0.length : Int) - 1)).toNat a0))), AV.own 0 5 [], num 0] ++ List.replicate 63 uu) [Ob.vec 5
  0]).bind fun o => bif o.ex.isWay (Way.exit 0) then bif okFr ([str [], uu, uu, uu, uu, AV.own 0 5 []] ++ List.replicate 64 uu) o.2 && okHeap [Ob.vec 5 0] o.3 then bif
  (List.getD o.fr 5 uu).data.toList.all isByte then (run none 14 [(str (unbytes (List.getD o.fr 5 uu).data.toList))] []).bind fun rh => bif okHeap [] rh.2 then bif okRes PP 9
  rh.fst then bif !strEq rh.fst.val.data.toStr (List.getD o.fr 0 uu).data.toStr then some (Res.ret (AV.tup [str [], num 2]), []) else some (Res.ret (AV.tup [(str (unbytes
  (List.getD o.fr 5 uu).data.toList)), num 0]), []) else none else none else none else none else bif o.ex.isWay Way.ret then bif okFr ([uu, uu, str [], num 0] ++
  List.replicate 66 uu) o.2 && okHeap [] o.3 then some (Res.ret (AV.tup [(str (List.getD o.fr 2 uu).data.toStr), (num (List.getD o.fr 3 uu).data.toInt)]), []) else none else
  none else none else none else some (Res.ret (AV.tup [str [], num 2]), []) else none else some (Res.ret (AV.tup [str [], num 2]), []) := by kernel_rfl
theorem eq_UnquoteL6 (run : RunF) (loop : LoopF) (t0 t4 : List UInt8) (t5 : List E) (t6 : Int) : bodyLoop PP HH run loop 12 0 lc_12_6 (((((List.replicate 70 uu).set 0 (str
  t0)).set 4 (str t4)).set 5 (.own 0 5 t5)).set 6 (num t6)) [.vec 5 t5.length] = bif decide (t6 < (↑t4.length : Int)) then bif decide (0 ≤ t6) && decide (t6 < (↑t4.length :
  Int)) then bif !(↑(t4.getD t6.toNat 0).toNat : Int) == 92 then bif decide (0 ≤ t6) && decide (t6 < (↑t4.length : Int)) then bif decide (t5.length = t5.length) && decide
  ((t5.length + (5, [E.int IntKind.u8 (↑(t4.getD t6.toNat 0).toNat : Int)]).snd.length) * 1 ≤ 140737488355328) then (loop 12 0 lc_12_6 ([str t0, uu, uu, uu, str t4, AV.own 0 5
  (t5 ++ (5, [E.int IntKind.u8 (↑(t4.getD t6.toNat 0).toNat : Int)]).snd), (num (IntKind.i64.wrap (t6 + 1)))] ++ List.replicate 63 uu) [Ob.vec 5 (t5 ++ (5, [E.int IntKind.u8
  (↑(t4.getD t6.toNat 0).toNat : Int)]).snd).length]).bind fun o => some o else none else none else bif decide (0 ≤ t6) && decide (t6 ≤ (↑t4.length : Int)) && decide
  ((↑t4.length : Int) ≤ (↑t4.length : Int)) then (run none 28 [(str (List.drop t6.toNat (List.take (↑t4.length : Int).toNat t4)))] []).bind fun rh => bif okHeap [] rh.2 then
  bif okRes PP 55 rh.fst then bif (rh.fst.val.comp 1).data.toInt == 0 then some (Out.mk (Ex.ret) (([uu, uu, str [], num 2] ++ List.replicate 66 uu)) ([]) ([])) else bif decide
  (t5.length = t5.length) && decide ((t5.length + (5, [E.int IntKind.u8 (rh.fst.val.comp 0).data.toInt]).snd.length) * 1 ≤ 140737488355328) then (loop 12 0 lc_12_6 ([str t0,
  uu, uu, uu, str t4, AV.own 0 5 (t5 ++ (5, [E.int IntKind.u8 (rh.fst.val.comp 0).data.toInt]).snd), (num (IntKind.i64.wrap (t6 + (rh.fst.val.comp 1).data.toInt)))] ++
  List.replicate 63 uu) [Ob.vec 5 (t5 ++ (5, [E.int IntKind.u8 (rh.fst.val.comp 0).data.toInt]).snd).length]).bind fun o => some o else none else none else none else none else
  none else some (Out.mk (Ex.exit 0) (([str t0, uu, uu, uu, uu, AV.own 0 5 t5] ++ List.replicate 64 uu)) ([Ob.vec 5 t5.length]) ([])) := by kernel_rfl
theorem eq_RUnquote (run : RunF) (loop : LoopF) (a0 : List UInt8) : bodyRun PP HH run loop none 13 [str a0] [] = (loop 13 0 lc_13_3 ([str a0, uu, uu, uu, str [], num 1] ++
  List.replicate 54 uu) []).bind fun o => bif o.ex.isWay (Way.exit 0) then bif okFr ([str [], uu, uu, uu, str []] ++ List.replicate 55 uu) o.2 && okHeap [] o.3 then (run none
  15 [(str (List.getD o.fr 4 uu).data.toStr)] []).bind fun rh => bif okHeap [] rh.2 then bif okRes PP 9 rh.fst then bif !strEq rh.fst.val.data.toStr (List.getD o.fr 0
  uu).data.toStr then some (Res.ret (AV.tup [str [], num 2]), []) else some (Res.ret (AV.tup [(str (List.getD o.fr 4 uu).data.toStr), num 0]), []) else none else none else
  none else none := by kernel_rfl
theorem eq_RUnquoteL3 (run : RunF) (loop : LoopF) (t0 t4 : List UInt8) (t5 : Int) : bodyLoop PP HH run loop 13 0 lc_13_3 ((((List.replicate 60 uu).set 0 (str t0)).set 4 (str
  t4)).set 5 (num t5)) [] = bif decide (t5 < IntKind.i64.wrap ((↑t0.length : Int) - 1)) then bif decide (0 ≤ t5) && decide (t5 < (↑t0.length : Int)) then bif (↑(t0.getD
  t5.toNat 0).toNat : Int) == 92 then bif decide (0 ≤ IntKind.i64.wrap (t5 + 1)) && decide (IntKind.i64.wrap (t5 + 1) < (↑t0.length : Int)) then bif (↑(t0.getD
  (IntKind.i64.wrap (t5 + 1)).toNat 0).toNat : Int) == 115 then bif (decide (t4.length + 1 ≤ 9223372036854775807)) then (loop 13 0 lc_13_3 ([str t0, uu, uu, uu, (str (t4 ++
  [(fun x => UInt8.ofNat x.toInt.toNat) (E.int IntKind.u8 32)])), (num (IntKind.i64.wrap (IntKind.i64.wrap (t5 + 1) + 1)))] ++ List.replicate 54 uu) []).bind fun o => some o
  else none else bif ((↑(t0.getD (IntKind.i64.wrap (t5 + 1)).toNat 0).toNat : Int) == 120) == true then bif decide (IntKind.i64.wrap (IntKind.i64.wrap (t5 + 1) + 2) <
  (↑t0.length : Int)) then bif decide (0 ≤ IntKind.i64.wrap (IntKind.i64.wrap (t5 + 1) + 1)) && decide (IntKind.i64.wrap (IntKind.i64.wrap (t5 + 1) + 1) < (↑t0.length : Int))
  then bif decide (0 ≤ IntKind.i64.wrap (IntKind.i64.wrap (t5 + 1) + 2)) && decide (IntKind.i64.wrap (IntKind.i64.wrap (t5 + 1) + 2) < (↑t0.length : Int)) then (run none 29
  [AV.e (E.int IntKind.u8 (↑(t0.getD (IntKind.i64.wrap (IntKind.i64.wrap (t5 + 1) + 1)).toNat 0).toNat : Int))] []).bind fun rh => bif okHeap [] rh.2 then bif okRes PP 3
  rh.fst then (run none 29 [AV.e (E.int IntKind.u8 (↑(t0.getD (IntKind.i64.wrap (IntKind.i64.wrap (t5 + 1) + 2)).toNat 0).toNat : Int))] []).bind fun rh_1 => bif okHeap []
  rh_1.2 then bif okRes PP 3 rh_1.fst then bif ([E.int IntKind.u8 (IntKind.u8.wrap (IntKind.i64.wrap (IntKind.i64.wrap (rh.fst.val.data.toInt * 16) +
  rh_1.fst.val.data.toInt)))]).all isByte then bif (decide (t4.length + (unbytes ([E.int IntKind.u8 (IntKind.u8.wrap (IntKind.i64.wrap (IntKind.i64.wrap (rh.fst.val.data.toInt
  * 16) + rh_1.fst.val.data.toInt)))])).length ≤ 9223372036854775807)) then (loop 13 0 lc_13_3 ([str t0, uu, uu, uu, (str (t4 ++ unbytes ([E.int IntKind.u8 (IntKind.u8.wrap
  (IntKind.i64.wrap (IntKind.i64.wrap (rh.fst.val.data.toInt * 16) + rh_1.fst.val.data.toInt)))]))), (num (IntKind.i64.wrap (IntKind.i64.wrap (IntKind.i64.wrap (t5 + 1) + 2) +
  1)))] ++ List.replicate 54 uu) []).bind fun o => some o else none else none else none else none else none else none else none else none else bif ([E.int IntKind.u8
  (↑(t0.getD (IntKind.i64.wrap (t5 + 1)).toNat 0).toNat : Int)]).all isByte then bif (decide (t4.length + (unbytes ([E.int IntKind.u8 (↑(t0.getD (IntKind.i64.wrap (t5 +
  1)).toNat 0).toNat : Int)])).length ≤ 9223372036854775807)) then (loop 13 0 lc_13_3 ([str t0, uu, uu, uu, (str (t4 ++ unbytes ([E.int IntKind.u8 (↑(t0.getD (IntKind.i64.wrap
  (t5 + 1)).toNat 0).toNat : Int)]))), (num (IntKind.i64.wrap (IntKind.i64.wrap (t5 + 1) + 1)))] ++ List.replicate 54 uu) []).bind fun o => some o else none else none else bif
  ([E.int IntKind.u8 (↑(t0.getD (IntKind.i64.wrap (t5 + 1)).toNat 0).toNat : Int)]).all isByte then bif (decide (t4.length + (unbytes ([E.int IntKind.u8 (↑(t0.getD
  (IntKind.i64.wrap (t5 + 1)).toNat 0).toNat : Int)])).length ≤ 9223372036854775807)) then (loop 13 0 lc_13_3 ([str t0, uu, uu, uu, (str (t4 ++ unbytes ([E.int IntKind.u8
  (↑(t0.getD (IntKind.i64.wrap (t5 + 1)).toNat 0).toNat : Int)]))), (num (IntKind.i64.wrap (IntKind.i64.wrap (t5 + 1) + 1)))] ++ List.replicate 54 uu) []).bind fun o => some o
  else none else none else none else bif ([E.int IntKind.u8 (↑(t0.getD t5.toNat 0).toNat : Int)]).all isByte then bif (decide (t4.length + (unbytes ([E.int IntKind.u8
  (↑(t0.getD t5.toNat 0).toNat : Int)])).length ≤ 9223372036854775807)) then (loop 13 0 lc_13_3 ([str t0, uu, uu, uu, (str (t4 ++ unbytes ([E.int IntKind.u8 (↑(t0.getD
  t5.toNat 0).toNat : Int)]))), (num (IntKind.i64.wrap (t5 + 1)))] ++ List.replicate 54 uu) []).bind fun o => some o else none else none else none else some (Out.mk (Ex.exit
  0) (([str t0, uu, uu, uu, str t4] ++ List.replicate 55 uu)) ([]) ([])) := by kernel_rfl
theorem eq_escaped (run : RunF) (loop : LoopF) (a0 : List UInt8) : bodyRun PP HH run loop none 28 [str a0] [] = bif decide ((↑a0.length : Int) < 2) then some (Res.ret (AV.tup
  [AV.e (E.int IntKind.u8 0), num 0]), []) else bif decide (1 < (↑a0.length : Int)) then bif (↑(a0.getD 1 0).toNat : Int) == 34 then bif (↑(a0.getD 1 0).toNat : Int) == 34
  then bif decide (1 < (↑a0.length : Int)) then some (Res.ret (AV.tup [AV.e (E.int IntKind.u8 (↑(a0.getD 1 0).toNat : Int)), num 2]), []) else none else bif (↑(a0.getD 1
  0).toNat : Int) == 115 then some (Res.ret (AV.tup [AV.e (E.int IntKind.u8 32), num 2]), []) else bif (↑(a0.getD 1 0).toNat : Int) == 120 then bif decide ((↑a0.length : Int)
  < 4) then some (Res.ret (AV.tup [AV.e (E.int IntKind.u8 0), num 0]), []) else bif decide (2 < (↑a0.length : Int)) then bif decide (3 < (↑a0.length : Int)) then bif bif
  decide (Lib.indexByte ([48, 49, 50, 51, 52, 53, 54, 55, 56, 57, 97, 98, 99, 100, 101, 102] : List UInt8) (↑(a0.getD 2 0).toNat : Int).toNat.toUInt8 < 0) then true else
  decide (Lib.indexByte ([48, 49, 50, 51, 52, 53, 54, 55, 56, 57, 97, 98, 99, 100, 101, 102] : List UInt8) (↑(a0.getD 3 0).toNat : Int).toNat.toUInt8 < 0) then some (Res.ret
  (AV.tup [AV.e (E.int IntKind.u8 0), num 0]), []) else some (Res.ret (AV.tup [AV.e (E.int IntKind.u8 (IntKind.u8.wrap (IntKind.i64.wrap (↑(BitVec.ofInt 64 (IntKind.i64.wrap
  (Lib.indexByte ([48, 49, 50, 51, 52, 53, 54, 55, 56, 57, 97, 98, 99, 100, 101, 102] : List UInt8) (↑(a0.getD 2 0).toNat : Int).toNat.toUInt8 * 2 ^ 4)) ||| BitVec.ofInt 64
  (Lib.indexByte ([48, 49, 50, 51, 52, 53, 54, 55, 56, 57, 97, 98, 99, 100, 101, 102] : List UInt8) (↑(a0.getD 3 0).toNat : Int).toNat.toUInt8)).toNat : Int)))), num 4]), [])
  else none else none else some (Res.ret (AV.tup [AV.e (E.int IntKind.u8 0), num 0]), []) else bif (↑(a0.getD 1 0).toNat : Int) == 92 then bif decide (1 < (↑a0.length : Int))
  then some (Res.ret (AV.tup [AV.e (E.int IntKind.u8 (↑(a0.getD 1 0).toNat : Int)), num 2]), []) else none else bif (↑(a0.getD 1 0).toNat : Int) == 115 then some (Res.ret
  (AV.tup [AV.e (E.int IntKind.u8 32), num 2]), []) else bif (↑(a0.getD 1 0).toNat : Int) == 120 then bif decide ((↑a0.length : Int) < 4) then some (Res.ret (AV.tup [AV.e
  (E.int IntKind.u8 0), num 0]), []) else bif decide (2 < (↑a0.length : Int)) then bif decide (3 < (↑a0.length : Int)) then bif bif decide (Lib.indexByte ([48, 49, 50, 51, 52,
  53, 54, 55, 56, 57, 97, 98, 99, 100, 101, 102] : List UInt8) (↑(a0.getD 2 0).toNat : Int).toNat.toUInt8 < 0) then true else decide (Lib.indexByte ([48, 49, 50, 51, 52, 53,
  54, 55, 56, 57, 97, 98, 99, 100, 101, 102] : List UInt8) (↑(a0.getD 3 0).toNat : Int).toNat.toUInt8 < 0) then some (Res.ret (AV.tup [AV.e (E.int IntKind.u8 0), num 0]), [])
  else some (Res.ret (AV.tup [AV.e (E.int IntKind.u8 (IntKind.u8.wrap (IntKind.i64.wrap (↑(BitVec.ofInt 64 (IntKind.i64.wrap (Lib.indexByte ([48, 49, 50, 51, 52, 53, 54, 55,
  56, 57, 97, 98, 99, 100, 101, 102] : List UInt8) (↑(a0.getD 2 0).toNat : Int).toNat.toUInt8 * 2 ^ 4)) ||| BitVec.ofInt 64 (Lib.indexByte ([48, 49, 50, 51, 52, 53, 54, 55,
  56, 57, 97, 98, 99, 100, 101, 102] : List UInt8) (↑(a0.getD 3 0).toNat : Int).toNat.toUInt8)).toNat : Int)))), num 4]), []) else none else none else some (Res.ret (AV.tup
  [AV.e (E.int IntKind.u8 0), num 0]), []) else none := by kernel_rfl
theorem eq_rdigit (run : RunF) (loop : LoopF) (a0 : Int) : bodyRun PP HH run loop none 29 [.e (.int .u8 a0)] [] = (loop 29 0 lc_29_2 ([AV.e (E.int IntKind.u8 a0), uu, uu, num
  0] ++ List.replicate 9 uu) []).bind fun o => bif o.ex.isWay (Way.exit 0) then bif okFr (List.replicate 13 uu) o.2 && okHeap [] o.3 then some (Res.ret ((num (-1))), []) else
  none else bif o.ex.isWay Way.ret then bif okFr ([uu, uu, num 0] ++ List.replicate 10 uu) o.2 && okHeap [] o.3 then some (Res.ret ((num (List.getD o.fr 2 uu).data.toInt)),
  []) else none else none := by kernel_rfl
theorem eq_rdigitL2 (run : RunF) (loop : LoopF) (t0 t3 : Int) : bodyLoop PP HH run loop 29 0 lc_29_2 (((List.replicate 13 uu).set 0 (.e (.int .u8 t0))).set 3 (num t3)) [] =
  bif decide (t3 < 16) then bif decide (0 ≤ t3) && decide (t3 < (↑16 : Int)) then bif (↑(([48, 49, 50, 51, 52, 53, 54, 55, 56, 57, 97, 98, 99, 100, 101, 102] : List
  UInt8).getD t3.toNat 0).toNat : Int) == t0 then some (Out.mk (Ex.ret) (([uu, uu, num t3] ++ List.replicate 10 uu)) ([]) ([])) else (loop 29 0 lc_29_2 ([AV.e (E.int
  IntKind.u8 t0), uu, uu, (num (IntKind.i64.wrap (t3 + 1)))] ++ List.replicate 9 uu) []).bind fun o => some o else none else some (Out.mk (Ex.exit 0) ((List.replicate 13 uu))
  ([]) ([])) := by kernel_rfl
theorem eq_rescaped (run : RunF) (loop : LoopF) (a0 : Int) : bodyRun PP HH run loop none 30 [.e (.int .u8 a0)] [] = bif bif a0 == 34 then true else a0 == 92 then bif ([E.int
  IntKind.u8 a0]).all isByte then some (Res.ret ((str ([92] ++ unbytes ([E.int IntKind.u8 a0])))), []) else none else bif a0 == 32 then some (Res.ret (str [92, 115]), []) else
  bif bif decide (32 < a0) then decide (a0 < 127) else false then bif ([E.int IntKind.u8 a0]).all isByte then some (Res.ret ((str (unbytes ([E.int IntKind.u8 a0])))), []) else
  none else bif decide (0 ≤ IntKind.u8.wrap (a0.tdiv 16)) && decide (IntKind.u8.wrap (a0.tdiv 16) < (↑16 : Int)) then bif decide (0 ≤ a0.tmod 16) && decide (a0.tmod 16 < (↑16
  : Int)) then bif (elems PP 5 1 2 [E.int IntKind.u8 (↑(([48, 49, 50, 51, 52, 53, 54, 55, 56, 57, 97, 98, 99, 100, 101, 102] : List UInt8).getD (a0.tmod 16).toNat 0).toNat :
  Int), E.int IntKind.u8 (↑(([48, 49, 50, 51, 52, 53, 54, 55, 56, 57, 97, 98, 99, 100, 101, 102] : List UInt8).getD (IntKind.u8.wrap (a0.tdiv 16)).toNat 0).toNat :
  Int)].reverse).all isByte then some (Res.ret ((str ([92, 120] ++ unbytes (elems PP 5 1 2 [E.int IntKind.u8 (↑(([48, 49, 50, 51, 52, 53, 54, 55, 56, 57, 97, 98, 99, 100, 101,
  102] : List UInt8).getD (a0.tmod 16).toNat 0).toNat : Int), E.int IntKind.u8 (↑(([48, 49, 50, 51, 52, 53, 54, 55, 56, 57, 97, 98, 99, 100, 101, 102] : List UInt8).getD
  (IntKind.u8.wrap (a0.tdiv 16)).toNat 0).toNat : Int)].reverse)))), []) else none else none else none := by kernel_rfl
end Go.Proofs.YtmocefjnplmibaaGreatDoor
