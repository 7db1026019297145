/- The equations of functions, as a program of mine prints them. -/
import Derived.Test.YtapndkailgcboaaGreatDoorBase
namespace Go.Proofs.YtapndkailgcboaaGreatDoor
open Go Go.Den
set_option maxRecDepth 100000
set_option maxHeartbeats 0

theorem eq_llight (run : RunF) (loop : LoopF) (a0 : List E) : bodyRun PP HH run loop none 10 [.e (.sl 46 a0)] [] = (loop 10 0 lc_10_3 ([AV.e (E.sl 46 a0),
  uu, uu, (num 0), (num 0)] ++ List.replicate 39 uu) []).bind fun o => bif o.ex.isWay (Way.exit 0) then bif okFr ([uu,
  uu, uu, (num 0)] ++ List.replicate 40 uu) o.2 && okHeap [] o.3 then some (Res.ret ((yes (decide ((List.getD o.fr 3
  uu).data.toInt < 600)))), []) else none else none := by kernel_rfl
theorem eq_llightL7 (run : RunF) (loop : LoopF) (t0 : List E) (t3 : Int) (t4 : Int) (t5 : Int) : bodyLoop PP HH run loop 10 0 lc_10_7 (((((List.replicate 44
  uu).set 0 (.e (.sl 46 t0))).set 3 (.e (.int .i64 t3))).set 4 (.e (.int .i64 t4))).set 5 (.e (.int .i64 t5))) [] = bif decide (0 ≤ t4) && decide (t4 < (↑t0.length : Int))
  then bif bif decide (t5 < (↑((t0.getD t4.toNat E.nili).cell 3).toList.length : Int)) then decide (t3 < 600) else false then bif decide (0 ≤ t4) && decide (t4 < (↑t0.length :
  Int)) then bif decide (0 ≤ t5) && decide (t5 < (↑((t0.getD t4.toNat E.nili).cell 3).toList.length : Int)) then (run none 14 [AV.agg [(num ((((t0.getD t4.toNat
  E.nili).cell 3).toList.getD t5.toNat E.nili).cell 0).toInt), (num ((((t0.getD t4.toNat E.nili).cell 3).toList.getD t5.toNat E.nili).cell 1).toInt), AV.e (E.int
  IntKind.i64 ((((t0.getD t4.toNat E.nili).cell 3).toList.getD t5.toNat E.nili).cell 2).toInt), AV.e (E.sl 9 ((((t0.getD t4.toNat E.nili).cell 3).toList.getD t5.toNat E.nili).cell
  3).toList), AV.e (E.sl 31 ((((t0.getD t4.toNat E.nili).cell 3).toList.getD t5.toNat E.nili).cell 4).toList), AV.e (E.sl 65 ((((t0.getD t4.toNat E.nili).cell 3).toList.getD
  t5.toNat E.nili).cell 5).toList)], (num t3)] []).bind fun rh => bif okHeap [] rh.2 then bif okRes PP 3 rh.fst then (loop 10 0 lc_10_7 ([AV.e (E.sl 46
  t0), uu, uu, (num rh.fst.val.data.toInt), (num t4), (num (IntKind.i64.wrap (t5 + 1)))] ++ List.replicate 38
  uu) []).bind fun o => some o else none else none else none else none else some (Out.mk (Ex.exit 2) (([AV.e (E.sl 46 t0), uu, uu, (num t3),
  (num t4)] ++ List.replicate 39 uu)) ([]) ([])) else none := by kernel_rfl
theorem eq_llightL3 (run : RunF) (loop : LoopF) (t0 : List E) (t3 : Int) (t4 : Int) : bodyLoop PP HH run loop 10 0 lc_10_3 ((((List.replicate 44 uu).set 0
  (.e (.sl 46 t0))).set 3 (.e (.int .i64 t3))).set 4 (.e (.int .i64 t4))) [] = bif bif decide (t4 < (↑t0.length : Int)) then decide (t3 < 600) else false then (loop 10 0 lc_10_7
  ([AV.e (E.sl 46 t0), uu, uu, (num (IntKind.i64.wrap (t3 + 1))), (num t4), (num 0)] ++ List.replicate 38
  uu) []).bind fun o => bif o.ex.isWay (Way.exit 2) then bif okFr ([AV.e (E.sl 46 []), uu, uu, (num 0), (num 0)] ++
  List.replicate 39 uu) o.2 && okHeap [] o.3 then (loop 10 0 lc_10_3 ([AV.e (E.sl 46 (List.getD o.fr 0 uu).data.toList), uu, uu, AV.e (E.int IntKind.i64
  (List.getD o.fr 3 uu).data.toInt), (num (IntKind.i64.wrap ((List.getD o.fr 4 uu).data.toInt + 1)))] ++ List.replicate 39 uu) []).bind fun o
  => some o else none else none else some (Out.mk (Ex.exit 0) (([uu, uu, uu, (num t3)] ++ List.replicate 40 uu)) ([]) ([])) := by
  kernel_rfl
theorem eq_ttFilter (run : RunF) (loop : LoopF) (a0 : List UInt8) : bodyRun PP HH run loop none 56 [.e (.str a0)] [] = (run none 82 [(str a0)] []).bind fun
  rh => bif okHeap [] rh.2 then bif okRes PP 4 rh.fst then bif !rh.fst.val.data.toBool then some (Res.ret ((yes false)), []) else (run none 74 [(str a0)]
  []).bind fun rh => bif okHeap [] rh.2 then bif okRes PP 27 rh.fst then (loop 56 0 lc_56_6 ([uu, uu, uu, AV.e (E.sl 9 rh.fst.val.data.toList), AV.e
  (E.bool true)] ++ List.replicate 10 uu ++ [AV.e (E.sl 9 rh.fst.val.data.toList), (num (↑rh.fst.val.data.toList.length : Int)), AV.e (E.int IntKind.i64
  0)] ++ List.replicate 35 uu) []).bind fun o => bif o.ex.isWay (Way.exit 0) then bif okFr ([uu, uu, uu, uu, (yes false)] ++ List.replicate 48
  uu) o.2 && okHeap [] o.3 then some (Res.ret ((yes (List.getD o.fr 4 uu).data.toBool)), []) else none else none else none else none else none else none := by
  kernel_rfl
theorem eq_ttFilterL9 (run : RunF) (loop : LoopF) (t3 : List E) (t4 : Bool) (t5 : Int) (t6 : List UInt8) (t15 : List E) (t16 : Int) (t17 : Int) (x23 : List UInt8) (y23 : Nat) :
  bodyLoop PP HH run loop 56 0 lc_56_9 (((((((((List.replicate 53 uu).set 3 (.e (.sl 9 t3))).set 4 (.e (.bool t4))).set 5 (.e (.int .i64 t5))).set 6 (.e
  (.str t6))).set 15 (.e (.sl 9 t15))).set 16 (.e (.int .i64 t16))).set 17 (.e (.int .i64 t17))).set 23 (.itr 0)) [.raw (.iter x23 y23)] = bif decide (y23 < x23.length) then bif
  (bif (↑(Utf8.decode (ByteArray.mk x23.toArray) y23).fst : Int) == 43 then !(↑t6.length : Int) == 1 else false) == false then bif ((↑(Utf8.decode (ByteArray.mk x23.toArray)
  y23).fst : Int) == 35) == true then bif (!(↑t6.length : Int) == 1) == false then bif decide (t5 < IntKind.i64.wrap ((↑t3.length : Int) - 1)) then some (Out.mk (Ex.exit 0)
  (([uu, uu, uu, uu, (yes false)] ++ List.replicate 48 uu)) ([]) ([])) else (loop 56 0 lc_56_9 ([uu, uu, uu, AV.e (E.sl 9
  t3), (yes t4), (num t5), (str t6)] ++ List.replicate 8 uu ++ [AV.e (E.sl 9 t15), (num t16), AV.e (E.int IntKind.i64
  t17), uu, uu, uu, uu, uu, AV.itr 0] ++ List.replicate 29 uu) [Ob.raw (Raw.iter x23 (y23 + (Utf8.decode (ByteArray.mk x23.toArray)
  y23).snd))]).bind fun o => some o else some (Out.mk (Ex.exit 0) (([uu, uu, uu, uu, (yes false)] ++ List.replicate 48 uu)) ([]) ([])) else
  (loop 56 0 lc_56_9 ([uu, uu, uu, AV.e (E.sl 9 t3), (yes t4), (num t5), (str t6)] ++ List.replicate 8 uu ++ [AV.e (E.sl 9
  t15), (num t16), (num t17), uu, uu, uu, uu, uu, AV.itr 0] ++ List.replicate 29 uu) [Ob.raw (Raw.iter x23
  (y23 + (Utf8.decode (ByteArray.mk x23.toArray) y23).snd))]).bind fun o => some o else some (Out.mk (Ex.exit 0) (([uu, uu, uu, uu, (yes false)] ++
  List.replicate 48 uu)) ([]) ([])) else some (Out.mk (Ex.exit 2) (([uu, uu, uu, AV.e (E.sl 9 t3), (yes t4)] ++ List.replicate 10 uu ++ [AV.e
  (E.sl 9 t15), (num t16), (num t17)] ++ List.replicate 35 uu)) ([]) ([])) := by kernel_rfl
theorem eq_ttFilterL6 (run : RunF) (loop : LoopF) (t3 : List E) (t4 : Bool) (t15 : List E) (t16 : Int) (t17 : Int) : bodyLoop PP HH run loop 56 0 lc_56_6
  ((((((List.replicate 53 uu).set 3 (.e (.sl 9 t3))).set 4 (.e (.bool t4))).set 15 (.e (.sl 9 t15))).set 16 (.e (.int .i64 t16))).set 17 (.e (.int .i64 t17))) [] = bif decide
  (t17 < t16) then bif decide (0 ≤ t17) && decide (t17 < (↑t15.length : Int)) then (loop 56 0 lc_56_9 ([uu, uu, uu, AV.e (E.sl 9 t3), (yes t4), AV.e
  (E.int IntKind.i64 t17), (str ((t15.getD t17.toNat E.nili).cell 0).toStr)] ++ List.replicate 8 uu ++ [AV.e (E.sl 9 t15), (num t16), AV.e (E.int
  IntKind.i64 t17), uu, uu, uu, uu, uu, AV.itr 0] ++ List.replicate 29 uu) [Ob.raw (Raw.iter ((t15.getD t17.toNat E.nili).cell 0).toStr
  0)]).bind fun o => bif o.ex.isWay (Way.exit 2) then bif okFr ([uu, uu, uu, AV.e (E.sl 9 []), (yes false)] ++ List.replicate 10 uu ++ [AV.e (E.sl 9
  []), (num 0), (num 0)] ++ List.replicate 35 uu) o.2 && okHeap [] o.3 then (loop 56 0 lc_56_6 ([uu, uu, uu, AV.e
  (E.sl 9 (List.getD o.fr 3 uu).data.toList), (yes (List.getD o.fr 4 uu).data.toBool)] ++ List.replicate 10 uu ++ [AV.e (E.sl 9 (List.getD o.fr 15
  uu).data.toList), (num (List.getD o.fr 16 uu).data.toInt), (num (IntKind.i64.wrap ((List.getD o.fr 17 uu).data.toInt +
  1)))] ++ List.replicate 35 uu) []).bind fun o => some o else none else bif o.ex.isWay (Way.exit 0) then bif okFr ([uu, uu, uu, uu, AV.e (E.bool
  false)] ++ List.replicate 48 uu) o.2 && okHeap [] o.3 then some (Out.mk (Ex.exit 0) (([uu, uu, uu, uu, (yes (List.getD o.fr 4
  uu).data.toBool)] ++ List.replicate 48 uu)) ([]) ([])) else none else none else none else some (Out.mk (Ex.exit 0) (([uu, uu, uu, uu, AV.e
  (E.bool t4)] ++ List.replicate 48 uu)) ([]) ([])) := by kernel_rfl
theorem eq_tSized (run : RunF) (loop : LoopF) (a0 : List UInt8) : bodyRun PP HH run loop none 82 [.e (.str a0)] [] = bif bif decide ((↑a0.length : Int) < 1) then
  true else decide (64 < (↑a0.length : Int)) then some (Res.ret ((yes false)), []) else (loop 82 0 lc_82_5 ([uu, uu, uu, (num 1)] ++
  List.replicate 11 uu ++ [AV.itr 0] ++ List.replicate 12 uu) [Ob.raw (Raw.iter a0 0)]).bind fun o => bif o.ex.isWay (Way.exit 0) then bif okFr ([uu, uu,
  uu, (num 0)] ++ List.replicate 24 uu) o.2 && okHeap [] o.3 then some (Res.ret ((yes (decide ((List.getD o.fr 3 uu).data.toInt ≤
  8)))), []) else none else bif o.ex.isWay Way.ret then bif okFr ([uu, uu, (yes false)] ++ List.replicate 25 uu) o.2 && okHeap [] o.3 then some (Res.ret
  ((yes (List.getD o.fr 2 uu).data.toBool)), []) else none else none := by kernel_rfl
theorem eq_tSizedL5 (run : RunF) (loop : LoopF) (t3 : Int) (x15 : List UInt8) (y15 : Nat) : bodyLoop PP HH run loop 82 0 lc_82_5 (((List.replicate 28 uu).set
  3 (.e (.int .i64 t3))).set 15 (.itr 0)) [.raw (.iter x15 y15)] = bif decide (y15 < x15.length) then bif (↑(Utf8.decode (ByteArray.mk x15.toArray) y15).fst : Int) == 0 then some
  (Out.mk (Ex.ret) (([uu, uu, (yes false)] ++ List.replicate 25 uu)) ([]) ([])) else bif (↑(Utf8.decode (ByteArray.mk x15.toArray) y15).fst : Int) == 47
  then (loop 82 0 lc_82_5 ([uu, uu, uu, (num (IntKind.i64.wrap (t3 + 1)))] ++ List.replicate 11 uu ++ [AV.itr 0] ++ List.replicate 12
  uu) [Ob.raw (Raw.iter x15 (y15 + (Utf8.decode (ByteArray.mk x15.toArray) y15).snd))]).bind fun o => some o else (loop 82 0 lc_82_5 ([uu, uu, uu, AV.e
  (E.int IntKind.i64 t3)] ++ List.replicate 11 uu ++ [AV.itr 0] ++ List.replicate 12 uu) [Ob.raw (Raw.iter x15 (y15 + (Utf8.decode (ByteArray.mk x15.toArray)
  y15).snd))]).bind fun o => some o else some (Out.mk (Ex.exit 0) (([uu, uu, uu, (num t3)] ++ List.replicate 24 uu)) ([]) ([])) := by
  kernel_rfl
theorem eq_tLevels (run : RunF) (loop : LoopF) (a0 : List UInt8) : bodyRun PP HH run loop none 74 [.e (.str a0)] [] = bif decide (a0.length < 4294967281) then some
  (Res.ret (AV.e (E.sl 9 (List.map E.str (splitAt 47 a0)))), []) else none := by kernel_rfl
theorem eq_tValid (run : RunF) (loop : LoopF) (a0 : List UInt8) : bodyRun PP HH run loop none 72 [.e (.str a0)] [] = (run none 82 [(str a0)] []).bind fun rh
  => bif okHeap [] rh.2 then bif okRes PP 4 rh.fst then bif !rh.fst.val.data.toBool then some (Res.ret ((yes false)), []) else (loop 72 0 lc_72_4 (List.replicate 9
  uu ++ [AV.itr 0] ++ List.replicate 9 uu) [Ob.raw (Raw.iter a0 0)]).bind fun o => bif o.ex.isWay (Way.exit 0) then bif okFr (List.replicate 19 uu) o.2 && okHeap
  [] o.3 then some (Res.ret ((yes true)), []) else none else bif o.ex.isWay Way.ret then bif okFr ([uu, uu, (yes false)] ++ List.replicate 16 uu)
  o.2 && okHeap [] o.3 then some (Res.ret ((yes (List.getD o.fr 2 uu).data.toBool)), []) else none else none else none else none := by kernel_rfl
theorem eq_tValidL4 (run : RunF) (loop : LoopF) (x9 : List UInt8) (y9 : Nat) : bodyLoop PP HH run loop 72 0 lc_72_4 ((List.replicate 19 uu).set 9 (.itr 0))
  [.raw (.iter x9 y9)] = bif decide (y9 < x9.length) then bif bif (↑(Utf8.decode (ByteArray.mk x9.toArray) y9).fst : Int) == 43 then true else (↑(Utf8.decode (ByteArray.mk
  x9.toArray) y9).fst : Int) == 35 then some (Out.mk (Ex.ret) (([uu, uu, (yes false)] ++ List.replicate 16 uu)) ([]) ([])) else (loop 72 0 lc_72_4
  (List.replicate 9 uu ++ [AV.itr 0] ++ List.replicate 9 uu) [Ob.raw (Raw.iter x9 (y9 + (Utf8.decode (ByteArray.mk x9.toArray) y9).snd))]).bind fun o => some o else
  some (Out.mk (Ex.exit 0) ((List.replicate 19 uu)) ([]) ([])) := by kernel_rfl
theorem eq_tSystem (run : RunF) (loop : LoopF) (a0 : List UInt8) : bodyRun PP HH run loop none 88 [.e (.str a0)] [] = bif decide (0 < (↑a0.length : Int)) == true
  then bif decide (0 < (↑a0.length : Int)) then some (Res.ret ((yes ((↑(a0.getD 0 0).toNat : Int) == 36))), []) else none else some (Res.ret ((yes false)), []) :=
  by kernel_rfl
theorem eq_rFilter (run : RunF) (loop : LoopF) (a0 : List UInt8) : bodyRun PP HH run loop none 34 [.e (.str a0)] [] = (run none 61 [(str a0)] []).bind fun
  rh => bif okHeap [] rh.2 then bif okRes PP 4 rh.fst then bif !rh.fst.val.data.toBool then some (Res.ret ((yes false)), []) else (run none 51 [(str a0)]
  []).bind fun rh => bif okHeap [] rh.2 then bif okRes PP 27 rh.fst then (loop 34 0 lc_34_5 ([uu, uu, uu, AV.e (E.sl 9 rh.fst.val.data.toList), AV.e (E.int
  IntKind.i64 0)] ++ List.replicate 42 uu) []).bind fun o => bif o.ex.isWay (Way.exit 0) then bif okFr (List.replicate 47 uu) o.2 && okHeap [] o.3 then some (Res.ret
  ((yes true)), []) else none else bif o.ex.isWay Way.ret then bif okFr ([uu, uu, (yes false)] ++ List.replicate 44 uu) o.2 && okHeap [] o.3 then
  some (Res.ret ((yes (List.getD o.fr 2 uu).data.toBool)), []) else none else none else none else none else none else none := by kernel_rfl
theorem eq_rFilterL5 (run : RunF) (loop : LoopF) (t3 : List E) (t4 : Int) : bodyLoop PP HH run loop 34 0 lc_34_5 (((List.replicate 47 uu).set 3 (.e (.sl 9
  t3))).set 4 (.e (.int .i64 t4))) [] = bif decide (t4 < (↑t3.length : Int)) then bif decide (0 ≤ t4) && decide (t4 < (↑t3.length : Int)) then (run none 62 [(str ((t3.getD
  t4.toNat E.nili).cell 0).toStr), AV.e (E.int IntKind.u8 43)] []).bind fun rh => bif okHeap [] rh.2 then bif okRes PP 4 rh.fst then bif rh.fst.val.data.toBool == true then
  bif decide (0 ≤ t4) && decide (t4 < (↑t3.length : Int)) then bif !strEq ((t3.getD t4.toNat E.nili).cell 0).toStr ([43] : List UInt8) then some (Out.mk (Ex.ret) (([uu,
  uu, (yes false)] ++ List.replicate 44 uu)) ([]) ([])) else bif decide (0 ≤ t4) && decide (t4 < (↑t3.length : Int)) then (run none 62 [(str ((t3.getD
  t4.toNat E.nili).cell 0).toStr), AV.e (E.int IntKind.u8 35)] []).bind fun rh => bif okHeap [] rh.2 then bif okRes PP 4 rh.fst then bif rh.fst.val.data.toBool == true then
  bif decide (0 ≤ t4) && decide (t4 < (↑t3.length : Int)) then bif (!strEq ((t3.getD t4.toNat E.nili).cell 0).toStr ([35] : List UInt8)) == false then bif !t4 == IntKind.i64.wrap
  ((↑t3.length : Int) - 1) then some (Out.mk (Ex.ret) (([uu, uu, (yes false)] ++ List.replicate 44 uu)) ([]) ([])) else (loop 34 0 lc_34_5 ([uu,
  uu, uu, AV.e (E.sl 9 t3), (num (IntKind.i64.wrap (t4 + 1)))] ++ List.replicate 42 uu) []).bind fun o => some o else some (Out.mk (Ex.ret)
  (([uu, uu, (yes false)] ++ List.replicate 44 uu)) ([]) ([])) else none else (loop 34 0 lc_34_5 ([uu, uu, uu, AV.e (E.sl 9 t3), AV.e
  (E.int IntKind.i64 (IntKind.i64.wrap (t4 + 1)))] ++ List.replicate 42 uu) []).bind fun o => some o else none else none else none else none else bif decide (0 ≤ t4) &&
  decide (t4 < (↑t3.length : Int)) then (run none 62 [(str ((t3.getD t4.toNat E.nili).cell 0).toStr), AV.e (E.int IntKind.u8 35)] []).bind fun rh => bif okHeap [] rh.2 then
  bif okRes PP 4 rh.fst then bif rh.fst.val.data.toBool == true then bif decide (0 ≤ t4) && decide (t4 < (↑t3.length : Int)) then bif (!strEq ((t3.getD t4.toNat E.nili).cell
  0).toStr ([35] : List UInt8)) == false then bif !t4 == IntKind.i64.wrap ((↑t3.length : Int) - 1) then some (Out.mk (Ex.ret) (([uu, uu, (yes false)] ++
  List.replicate 44 uu)) ([]) ([])) else (loop 34 0 lc_34_5 ([uu, uu, uu, AV.e (E.sl 9 t3), (num (IntKind.i64.wrap (t4 + 1)))] ++
  List.replicate 42 uu) []).bind fun o => some o else some (Out.mk (Ex.ret) (([uu, uu, (yes false)] ++ List.replicate 44 uu)) ([]) ([])) else none
  else (loop 34 0 lc_34_5 ([uu, uu, uu, AV.e (E.sl 9 t3), (num (IntKind.i64.wrap (t4 + 1)))] ++ List.replicate 42 uu) []).bind fun o =>
  some o else none else none else none else none else none else none else some (Out.mk (Ex.exit 0) ((List.replicate 47 uu)) ([]) ([])) := by kernel_rfl
theorem eq_rSized (run : RunF) (loop : LoopF) (a0 : List UInt8) : bodyRun PP HH run loop none 61 [.e (.str a0)] [] = bif (bif decide (1 ≤ (↑a0.length : Int)) then
  decide ((↑a0.length : Int) ≤ 64) else false) == true then (run none 62 [(str a0), AV.e (E.int IntKind.u8 0)] []).bind fun rh => bif okHeap [] rh.2 then bif okRes PP
  4 rh.fst then bif (!rh.fst.val.data.toBool) == true then (run none 51 [(str a0)] []).bind fun rh => bif okHeap [] rh.2 then bif okRes PP 27 rh.fst then some
  (Res.ret ((yes (decide ((↑rh.fst.val.data.toList.length : Int) ≤ 8)))), []) else none else none else some (Res.ret ((yes false)), []) else none else none else
  some (Res.ret ((yes false)), []) := by kernel_rfl
theorem eq_rHas (run : RunF) (loop : LoopF) (a0 : List UInt8) (a1 : Int) : bodyRun PP HH run loop none 62 [.e (.str a0), .e (.int .u8 a1)] [] = (loop 62 0 lc_62_2
  ([(str a0), AV.e (E.int IntKind.u8 a1), uu, uu, uu, (num 0)] ++ List.replicate 11 uu) []).bind fun o => bif o.ex.isWay (Way.exit
  0) then bif okFr (List.replicate 17 uu) o.2 && okHeap [] o.3 then some (Res.ret ((yes false)), []) else none else bif o.ex.isWay Way.ret then bif okFr ([uu,
  uu, uu, uu, (yes false)] ++ List.replicate 12 uu) o.2 && okHeap [] o.3 then some (Res.ret ((yes (List.getD o.fr 4 uu).data.toBool)),
  []) else none else none := by kernel_rfl
theorem eq_rHasL2 (run : RunF) (loop : LoopF) (t0 : List UInt8) (t1 : Int) (t5 : Int) : bodyLoop PP HH run loop 62 0 lc_62_2 ((((List.replicate 17 uu).set 0
  (.e (.str t0))).set 1 (.e (.int .u8 t1))).set 5 (.e (.int .i64 t5))) [] = bif decide (t5 < (↑t0.length : Int)) then bif decide (0 ≤ t5) && decide (t5 < (↑t0.length : Int)) then
  bif (↑(t0.getD t5.toNat 0).toNat : Int) == t1 then some (Out.mk (Ex.ret) (([uu, uu, uu, uu, (yes true)] ++ List.replicate 12 uu)) ([]) ([]))
  else (loop 62 0 lc_62_2 ([(str t0), AV.e (E.int IntKind.u8 t1), uu, uu, uu, (num (IntKind.i64.wrap (t5 + 1)))] ++ List.replicate 11
  uu) []).bind fun o => some o else none else some (Out.mk (Ex.exit 0) ((List.replicate 17 uu)) ([]) ([])) := by kernel_rfl
theorem eq_rLevels (run : RunF) (loop : LoopF) (a0 : List UInt8) : bodyRun PP HH run loop none 51 [.e (.str a0)] [] = (loop 51 0 lc_51_4 ([(str a0),
  uu, uu, AV.own 0 9 [], (num 0), (num 0)] ++ List.replicate 25 uu) [Ob.vec 9 0]).bind fun o => bif o.ex.isWay (Way.exit 0)
  then bif okFr ([(str []), uu, uu, AV.own 0 9 [], (num 0)] ++ List.replicate 26 uu) o.2 && okHeap [Ob.vec 9 0] o.3 then bif decide (0 ≤
  (List.getD o.fr 4 uu).data.toInt) && decide ((List.getD o.fr 4 uu).data.toInt ≤ (↑(List.getD o.fr 0 uu).data.toStr.length : Int)) && decide ((↑(List.getD o.fr 0
  uu).data.toStr.length : Int) ≤ (↑(List.getD o.fr 0 uu).data.toStr.length : Int)) then bif decide ((o.hp.ob 0).len = (List.getD o.fr 3 uu).data.toList.length) &&
  decide (((List.getD o.fr 3 uu).data.toList.length + (9, [E.str (List.drop (List.getD o.fr 4 uu).data.toInt.toNat (List.take (↑(List.getD o.fr 0
  uu).data.toStr.length : Int).toNat (List.getD o.fr 0 uu).data.toStr))]).snd.length) * 16 ≤ 140737488355328) then some (Res.ret (AV.e (E.sl 9 ((List.getD o.fr 3
  uu).data.toList ++ (9, [E.str (List.drop (List.getD o.fr 4 uu).data.toInt.toNat (List.take (↑(List.getD o.fr 0 uu).data.toStr.length : Int).toNat (List.getD
  o.fr 0 uu).data.toStr))]).snd))), []) else none else none else none else none := by kernel_rfl
theorem eq_rLevelsL4 (run : RunF) (loop : LoopF) (t0 : List UInt8) (t3 : List E) (t4 : Int) (t5 : Int) : bodyLoop PP HH run loop 51 0 lc_51_4 (((((List.replicate
  31 uu).set 0 (.e (.str t0))).set 3 (.own 0 9 t3)).set 4 (.e (.int .i64 t4))).set 5 (.e (.int .i64 t5))) [.vec 9 t3.length] = bif decide (t5 < (↑t0.length : Int)) then bif
  decide (0 ≤ t5) && decide (t5 < (↑t0.length : Int)) then bif (↑(t0.getD t5.toNat 0).toNat : Int) == 47 then bif decide (0 ≤ t4) && decide (t4 ≤ t5) && decide (t5 ≤ (↑t0.length :
  Int)) then bif decide (t3.length = t3.length) && decide ((t3.length + (9, [E.str (List.drop t4.toNat (List.take t5.toNat t0))]).snd.length) * 16 ≤ 140737488355328) then (loop 51
  0 lc_51_4 ([(str t0), uu, uu, AV.own 0 9 (t3 ++ (9, [E.str (List.drop t4.toNat (List.take t5.toNat t0))]).snd), (num (IntKind.i64.wrap (t5 +
  1))), (num (IntKind.i64.wrap (t5 + 1)))] ++ List.replicate 25 uu) [Ob.vec 9 (t3 ++ (9, [E.str (List.drop t4.toNat (List.take t5.toNat
  t0))]).snd).length]).bind fun o => some o else none else none else (loop 51 0 lc_51_4 ([(str t0), uu, uu, AV.own 0 9 t3, (num t4), AV.e
  (E.int IntKind.i64 (IntKind.i64.wrap (t5 + 1)))] ++ List.replicate 25 uu) [Ob.vec 9 t3.length]).bind fun o => some o else none else some (Out.mk (Ex.exit 0) (([AV.e (E.str
  t0), uu, uu, AV.own 0 9 t3, (num t4)] ++ List.replicate 26 uu)) ([Ob.vec 9 t3.length]) ([])) := by kernel_rfl
theorem eq_rSystem (run : RunF) (loop : LoopF) (a0 : List UInt8) : bodyRun PP HH run loop none 53 [.e (.str a0)] [] = bif decide (0 < (↑a0.length : Int)) == true
  then bif decide (0 < (↑a0.length : Int)) then some (Res.ret ((yes ((↑(a0.getD 0 0).toNat : Int) == 36))), []) else none else some (Res.ret ((yes false)), []) :=
  by kernel_rfl
theorem eq_RCheck3 (run : RunF) (loop : LoopF) (a0 : List E) : bodyRun PP HH run loop none 13 [.e (.sl 46 a0)] [] = bif decide (32 < (↑a0.length : Int)) then some
  (Res.ret ((num 5)), []) else (loop 13 0 lc_13_4 ([AV.e (E.sl 46 a0), uu, uu, (num 0)] ++ List.replicate 48 uu) []).bind
  fun o => bif o.ex.isWay (Way.exit 0) then bif okFr (List.replicate 52 uu) o.2 && okHeap [] o.3 then some (Res.ret ((num 0)), []) else none else bif
  o.ex.isWay Way.ret then bif okFr ([uu, uu, (num 0)] ++ List.replicate 49 uu) o.2 && okHeap [] o.3 then some (Res.ret (AV.e (E.int IntKind.i64
  (List.getD o.fr 2 uu).data.toInt)), []) else none else none := by kernel_rfl
theorem eq_RCheck3L4 (run : RunF) (loop : LoopF) (t0 : List E) (t3 : Int) : bodyLoop PP HH run loop 13 0 lc_13_4 (((List.replicate 52 uu).set 0 (.e (.sl 46
  t0))).set 3 (.e (.int .i64 t3))) [] = bif decide (t3 < (↑t0.length : Int)) then bif decide (0 ≤ t3) && decide (t3 < (↑t0.length : Int)) then (run none 32 [(str ((t0.getD
  t3.toNat E.nili).cell 0).toStr)] []).bind fun rh => bif okHeap [] rh.2 then bif okRes PP 4 rh.fst then bif !rh.fst.val.data.toBool then some (Out.mk (Ex.ret) (([uu,
  uu, (num 11)] ++ List.replicate 49 uu)) ([]) ([])) else bif decide (0 ≤ t3) && decide (t3 < (↑t0.length : Int)) then (run none 33 [AV.e (E.sl 46
  t0), (str ((t0.getD t3.toNat E.nili).cell 0).toStr)] []).bind fun rh => bif okHeap [] rh.2 then bif okRes PP 3 rh.fst then bif decide (rh.fst.val.data.toInt < t3)
  then some (Out.mk (Ex.ret) (([uu, uu, (num 7)] ++ List.replicate 49 uu)) ([]) ([])) else bif decide (0 ≤ t3) && decide (t3 < (↑t0.length :
  Int)) then (run none 34 [(str ((t0.getD t3.toNat E.nili).cell 1).toStr)] []).bind fun rh => bif okHeap [] rh.2 then bif okRes PP 4 rh.fst then bif
  !rh.fst.val.data.toBool then some (Out.mk (Ex.ret) (([uu, uu, (num 13)] ++ List.replicate 49 uu)) ([]) ([])) else bif decide (0 ≤ t3) &&
  decide (t3 < (↑t0.length : Int)) then (run none 35 [(num ((t0.getD t3.toNat E.nili).cell 2).toInt)] []).bind fun rh => bif okHeap [] rh.2 then bif okRes
  PP 4 rh.fst then bif !rh.fst.val.data.toBool then some (Out.mk (Ex.ret) (([uu, uu, (num 10)] ++ List.replicate 49 uu)) ([]) ([])) else
  bif decide (0 ≤ t3) && decide (t3 < (↑t0.length : Int)) then (run none 36 [AV.agg [(str ((t0.getD t3.toNat E.nili).cell 0).toStr), (str ((t0.getD t3.toNat
  E.nili).cell 1).toStr), (num ((t0.getD t3.toNat E.nili).cell 2).toInt), AV.e (E.sl 31 ((t0.getD t3.toNat E.nili).cell 3).toList)]] []).bind fun rh => bif
  okHeap [] rh.2 then bif okRes PP 25 rh.fst then bif !rh.fst.val.data.toInt == 0 then some (Out.mk (Ex.ret) (([uu, uu, AV.e (E.int IntKind.i64
  rh.fst.val.data.toInt)] ++ List.replicate 49 uu)) ([]) ([])) else (loop 13 0 lc_13_4 ([AV.e (E.sl 46 t0), uu, uu, (num (IntKind.i64.wrap (t3
  + 1)))] ++ List.replicate 48 uu) []).bind fun o => some o else none else none else none else none else none else none else none else none else none else none else none else
  none else none else none else none else some (Out.mk (Ex.exit 0) ((List.replicate 52 uu)) ([]) ([])) := by kernel_rfl
theorem eq_RAt (run : RunF) (loop : LoopF) (a0 : List E) (a1 : List UInt8) : bodyRun PP HH run loop none 33 [.e (.sl 46 a0), .e (.str a1)] [] = (loop 33 0 lc_33_2
  ([AV.e (E.sl 46 a0), (str a1), uu, uu, uu, (num 0)] ++ List.replicate 14 uu) []).bind fun o => bif o.ex.isWay (Way.exit 0) then
  bif okFr (List.replicate 20 uu) o.2 && okHeap [] o.3 then some (Res.ret ((num (-1))), []) else none else bif o.ex.isWay Way.ret then bif okFr ([uu,
  uu, uu, uu, (num 0)] ++ List.replicate 15 uu) o.2 && okHeap [] o.3 then some (Res.ret ((num (List.getD o.fr 4
  uu).data.toInt)), []) else none else none := by kernel_rfl
theorem eq_RAtL2 (run : RunF) (loop : LoopF) (t0 : List E) (t1 : List UInt8) (t5 : Int) : bodyLoop PP HH run loop 33 0 lc_33_2 ((((List.replicate 20 uu).set
  0 (.e (.sl 46 t0))).set 1 (.e (.str t1))).set 5 (.e (.int .i64 t5))) [] = bif decide (t5 < (↑t0.length : Int)) then bif decide (0 ≤ t5) && decide (t5 < (↑t0.length : Int)) then
  bif strEq ((t0.getD t5.toNat E.nili).cell 0).toStr t1 then some (Out.mk (Ex.ret) (([uu, uu, uu, uu, (num t5)] ++ List.replicate 15
  uu)) ([]) ([])) else (loop 33 0 lc_33_2 ([AV.e (E.sl 46 t0), (str t1), uu, uu, uu, (num (IntKind.i64.wrap (t5 + 1)))] ++
  List.replicate 14 uu) []).bind fun o => some o else none else some (Out.mk (Ex.exit 0) ((List.replicate 20 uu)) ([]) ([])) := by kernel_rfl
theorem eq_RMode (run : RunF) (loop : LoopF) (a0 : Int) : bodyRun PP HH run loop none 35 [.e (.int .i64 a0)] [] = some (Res.ret ((yes (bif decide (1 ≤ a0)
  then decide (a0 ≤ 4) else false))), []) := by kernel_rfl
theorem eq_RVers (run : RunF) (loop : LoopF) (a0_0 : List UInt8) (a0_1 : List UInt8) (a0_2 : Int) (a0_3 : List E) : bodyRun PP HH run loop none 36 [.agg [.e (.str
  a0_0), .e (.str a0_1), .e (.int .i64 a0_2), .e (.sl 31 a0_3)]] [] = bif decide (16 < (↑a0_3.length : Int)) then some (Res.ret ((num 5)), []) else (loop 36 0
  lc_36_4 ([uu, AV.ptr 0 0, uu, (num 0)] ++ List.replicate 40 uu) [Ob.box [(str a0_0), (str a0_1), (num a0_2),
  AV.e (E.sl 31 a0_3)]]).bind fun o => bif o.ex.isWay (Way.exit 0) then bif okFr (List.replicate 44 uu) o.2 && okHeap [] o.3 then some (Res.ret ((num 0)),
  []) else none else bif o.ex.isWay Way.ret then bif okFr ([uu, uu, (num 0)] ++ List.replicate 41 uu) o.2 && okHeap [] o.3 then some (Res.ret
  ((num (List.getD o.fr 2 uu).data.toInt)), []) else none else none := by kernel_rfl
theorem eq_RVersL4 (run : RunF) (loop : LoopF) (t3 : Int) (t1_0 : List UInt8) (t1_1 : List UInt8) (t1_2 : Int) (t1_3 : List E) : bodyLoop PP HH run loop 36 0
  lc_36_4 (((List.replicate 44 uu).set 1 (.ptr 0 0)).set 3 (.e (.int .i64 t3))) [.box [.e (.str t1_0), .e (.str t1_1), .e (.int .i64 t1_2), .e (.sl 31 t1_3)]] = bif decide
  (t3 < (↑t1_3.length : Int)) then bif decide (0 ≤ t3) && decide (t3 < (↑t1_3.length : Int)) then (run none 15 [AV.agg [(num ((t1_3.getD t3.toNat E.nili).cell
  0).toInt), (num ((t1_3.getD t3.toNat E.nili).cell 1).toInt), (num ((t1_3.getD t3.toNat E.nili).cell 2).toInt), AV.e (E.sl 9 ((t1_3.getD
  t3.toNat E.nili).cell 3).toList), AV.e (E.sl 31 ((t1_3.getD t3.toNat E.nili).cell 4).toList), AV.e (E.sl 65 ((t1_3.getD t3.toNat E.nili).cell 5).toList)]] []).bind fun rh => bif
  okHeap [] rh.2 then bif okRes PP 25 rh.fst then bif !rh.fst.val.data.toInt == 0 then some (Out.mk (Ex.ret) (([uu, uu, AV.e (E.int IntKind.i64
  rh.fst.val.data.toInt)] ++ List.replicate 41 uu)) ([]) ([])) else bif decide (0 < t3) == true then bif decide (0 ≤ IntKind.i64.wrap (t3 - 1)) && decide (IntKind.i64.wrap
  (t3 - 1) < (↑t1_3.length : Int)) then bif decide (0 ≤ t3) && decide (t3 < (↑t1_3.length : Int)) then (run none 17 [(num t1_2), AV.agg [AV.e (E.int IntKind.i64
  ((t1_3.getD (IntKind.i64.wrap (t3 - 1)).toNat E.nili).cell 0).toInt), (num ((t1_3.getD (IntKind.i64.wrap (t3 - 1)).toNat E.nili).cell 1).toInt), AV.e (E.int
  IntKind.i64 ((t1_3.getD (IntKind.i64.wrap (t3 - 1)).toNat E.nili).cell 2).toInt), AV.e (E.sl 9 ((t1_3.getD (IntKind.i64.wrap (t3 - 1)).toNat E.nili).cell 3).toList), AV.e (E.sl
  31 ((t1_3.getD (IntKind.i64.wrap (t3 - 1)).toNat E.nili).cell 4).toList), AV.e (E.sl 65 ((t1_3.getD (IntKind.i64.wrap (t3 - 1)).toNat E.nili).cell 5).toList)], AV.agg [AV.e
  (E.int IntKind.i64 ((t1_3.getD t3.toNat E.nili).cell 0).toInt), (num ((t1_3.getD t3.toNat E.nili).cell 1).toInt), (num ((t1_3.getD t3.toNat
  E.nili).cell 2).toInt), AV.e (E.sl 9 ((t1_3.getD t3.toNat E.nili).cell 3).toList), AV.e (E.sl 31 ((t1_3.getD t3.toNat E.nili).cell 4).toList), AV.e (E.sl 65 ((t1_3.getD t3.toNat
  E.nili).cell 5).toList)]] []).bind fun rh => bif okHeap [] rh.2 then bif okRes PP 4 rh.fst then bif !rh.fst.val.data.toBool then some (Out.mk (Ex.ret) (([uu,
  uu, (num 29)] ++ List.replicate 41 uu)) ([]) ([])) else (loop 36 0 lc_36_4 ([uu, AV.ptr 0 0, uu, AV.e (E.int IntKind.i64
  (IntKind.i64.wrap (t3 + 1)))] ++ List.replicate 40 uu) [Ob.box [(str t1_0), (str t1_1), (num t1_2), AV.e (E.sl 31 t1_3)]]).bind fun o =>
  some o else none else none else none else none else (loop 36 0 lc_36_4 ([uu, AV.ptr 0 0, uu, (num (IntKind.i64.wrap (t3 + 1)))] ++ List.replicate
  40 uu) [Ob.box [(str t1_0), (str t1_1), (num t1_2), AV.e (E.sl 31 t1_3)]]).bind fun o => some o else none else none else none else some
  (Out.mk (Ex.exit 0) ((List.replicate 44 uu)) ([]) ([])) := by kernel_rfl
end Go.Proofs.YtapndkailgcboaaGreatDoor
