/- The equations of functions, as a program of mine prints them. -/
import Derived.Test.YtapndkailgcboaaGreatDoorBase
namespace Go.Proofs.YtapndkailgcboaaGreatDoor
open Go Go.Den
set_option maxRecDepth 100000
set_option maxHeartbeats 0

theorem eq_Matches (run : RunF) (loop : LoopF) (a0 : List UInt8) (a1 : List UInt8) : bodyRun PP HH run loop none 46 [.e (.str a0), .e (.str a1)] [] = (run none 56
  [(str a0)] []).bind fun rh => bif okHeap [] rh.2 then bif okRes PP 4 rh.fst then bif (!rh.fst.val.data.toBool) == false then (run none 72 [(str a1)] []).bind
  fun rh => bif okHeap [] rh.2 then bif okRes PP 4 rh.fst then bif (!rh.fst.val.data.toBool) == false then (run none 73 [(str a0), (str a1)] []).bind fun rh =>
  bif okHeap [] rh.2 then bif okRes PP 4 rh.fst then bif rh.fst.val.data.toBool then some (Res.ret ((yes false)), []) else (run none 74 [(str a0)] []).bind
  fun rh => bif okHeap [] rh.2 then bif okRes PP 27 rh.fst then (run none 74 [(str a1)] []).bind fun rh_1 => bif okHeap [] rh_1.2 then bif okRes PP 27 rh_1.fst
  then (loop 46 0 lc_46_5 ([uu, uu, uu, uu, uu, AV.e (E.sl 9 rh.fst.val.data.toList), AV.e (E.sl 9 rh_1.fst.val.data.toList)] ++ List.replicate 19
  uu ++ [AV.e (E.sl 9 rh.fst.val.data.toList), (num (↑rh.fst.val.data.toList.length : Int)), (num 0)] ++ List.replicate 29 uu)
  []).bind fun o => bif o.ex.isWay (Way.exit 0) then bif okFr ([uu, uu, uu, uu, uu, AV.e (E.sl 9 []), AV.e (E.sl 9 [])] ++ List.replicate 51 uu)
  o.2 && okHeap [] o.3 then some (Res.ret ((yes ((↑(List.getD o.fr 5 uu).data.toList.length : Int) == (↑(List.getD o.fr 6 uu).data.toList.length : Int)))), [])
  else none else bif o.ex.isWay Way.ret then bif okFr ([uu, uu, uu, uu, (yes false)] ++ List.replicate 53 uu) o.2 && okHeap [] o.3 then some
  (Res.ret ((yes (List.getD o.fr 4 uu).data.toBool)), []) else none else none else none else none else none else none else none else none else some (Res.ret (AV.e
  (E.bool false)), []) else none else none else some (Res.ret ((yes false)), []) else none else none := by kernel_rfl
theorem eq_MatchesL5 (run : RunF) (loop : LoopF) (t5 : List E) (t6 : List E) (t26 : List E) (t27 : Int) (t28 : Int) : bodyLoop PP HH run loop 46 0 lc_46_5
  ((((((List.replicate 58 uu).set 5 (.e (.sl 9 t5))).set 6 (.e (.sl 9 t6))).set 26 (.e (.sl 9 t26))).set 27 (.e (.int .i64 t27))).set 28 (.e (.int .i64 t28))) [] = bif decide
  (t28 < t27) then bif decide (0 ≤ t28) && decide (t28 < (↑t26.length : Int)) then bif strEq ((t26.getD t28.toNat E.nili).cell 0).toStr ([35] : List UInt8) then some (Out.mk
  (Ex.ret) (([uu, uu, uu, uu, (yes true)] ++ List.replicate 53 uu)) ([]) ([])) else bif t28 == (↑t6.length : Int) then some (Out.mk (Ex.ret)
  (([uu, uu, uu, uu, (yes false)] ++ List.replicate 53 uu)) ([]) ([])) else bif strEq ((t26.getD t28.toNat E.nili).cell 0).toStr ([43] : List
  UInt8) == false then bif decide (0 ≤ t28) && decide (t28 < (↑t6.length : Int)) then bif strEq ((t26.getD t28.toNat E.nili).cell 0).toStr ((t6.getD t28.toNat E.nili).cell 0).toStr
  then (loop 46 0 lc_46_5 ([uu, uu, uu, uu, uu, AV.e (E.sl 9 t5), AV.e (E.sl 9 t6)] ++ List.replicate 19 uu ++ [AV.e (E.sl 9 t26), AV.e (E.int
  IntKind.i64 t27), (num (IntKind.i64.wrap (t28 + 1)))] ++ List.replicate 29 uu) []).bind fun o => some o else some (Out.mk (Ex.ret) (([uu, uu,
  uu, uu, (yes false)] ++ List.replicate 53 uu)) ([]) ([])) else none else (loop 46 0 lc_46_5 ([uu, uu, uu, uu, uu, AV.e
  (E.sl 9 t5), AV.e (E.sl 9 t6)] ++ List.replicate 19 uu ++ [AV.e (E.sl 9 t26), (num t27), (num (IntKind.i64.wrap (t28 + 1)))] ++
  List.replicate 29 uu) []).bind fun o => some o else none else some (Out.mk (Ex.exit 0) (([uu, uu, uu, uu, uu, AV.e (E.sl 9 t5), AV.e (E.sl 9
  t6)] ++ List.replicate 51 uu)) ([]) ([])) := by kernel_rfl
theorem eq_barred (run : RunF) (loop : LoopF) (a0 : List UInt8) (a1 : List UInt8) : bodyRun PP HH run loop none 73 [.e (.str a0), .e (.str a1)] [] = (run none 74
  [(str a0)] []).bind fun rh => bif okHeap [] rh.2 then bif okRes PP 27 rh.fst then bif decide (0 < (↑rh.fst.val.data.toList.length : Int)) then (run none 87 [AV.e
  (E.str ((rh.fst.val.data.toList.getD 0 E.nili).cell 0).toStr)] []).bind fun rh => bif okHeap [] rh.2 then bif okRes PP 4 rh.fst then bif rh.fst.val.data.toBool == true
  then (run none 88 [(str a1)] []).bind fun rh => bif okHeap [] rh.2 then bif okRes PP 4 rh.fst then some (Res.ret ((yes rh.fst.val.data.toBool)), []) else
  none else none else some (Res.ret ((yes false)), []) else none else none else none else none else none := by kernel_rfl
theorem eq_wild (run : RunF) (loop : LoopF) (a0 : List UInt8) : bodyRun PP HH run loop none 87 [.e (.str a0)] [] = some (Res.ret ((yes (bif strEq a0 ([43]
  : List UInt8) then true else strEq a0 ([35] : List UInt8)))), []) := by kernel_rfl
theorem eq_RCovers (run : RunF) (loop : LoopF) (a0 : List UInt8) (a1 : List UInt8) : bodyRun PP HH run loop none 28 [.e (.str a0), .e (.str a1)] [] = (run none 34
  [(str a0)] []).bind fun rh => bif okHeap [] rh.2 then bif okRes PP 4 rh.fst then bif (!rh.fst.val.data.toBool) == false then (run none 34 [(str a1)] []).bind
  fun rh => bif okHeap [] rh.2 then bif okRes PP 4 rh.fst then bif !rh.fst.val.data.toBool then some (Res.ret ((yes false)), []) else (run none 51 [(str a0)]
  []).bind fun rh => bif okHeap [] rh.2 then bif okRes PP 27 rh.fst then (run none 52 [AV.e (E.sl 9 rh.fst.val.data.toList)] []).bind fun rh_1 => bif okHeap [] rh_1.2 then
  bif okRes PP 4 rh_1.fst then bif rh_1.fst.val.data.toBool == true then (run none 53 [(str a1)] []).bind fun rh_2 => bif okHeap [] rh_2.2 then bif okRes PP 4
  rh_2.fst then bif (!rh_2.fst.val.data.toBool) == true then (run none 51 [(str a1)] []).bind fun rh_3 => bif okHeap [] rh_3.2 then bif okRes PP 27 rh_3.fst then (run
  none 54 [AV.e (E.sl 9 rh.fst.val.data.toList), AV.e (E.sl 9 rh_3.fst.val.data.toList), (num 0)] []).bind fun rh => bif okHeap [] rh.2 then bif okRes PP
  4 rh.fst then some (Res.ret ((yes rh.fst.val.data.toBool)), []) else none else none else none else none else some (Res.ret ((yes false)), []) else none else none
  else (run none 51 [(str a1)] []).bind fun rh_2 => bif okHeap [] rh_2.2 then bif okRes PP 27 rh_2.fst then (run none 54 [AV.e (E.sl 9 rh.fst.val.data.toList), AV.e
  (E.sl 9 rh_2.fst.val.data.toList), (num 0)] []).bind fun rh => bif okHeap [] rh.2 then bif okRes PP 4 rh.fst then some (Res.ret (AV.e (E.bool
  rh.fst.val.data.toBool)), []) else none else none else none else none else none else none else none else none else none else none else some (Res.ret ((yes false)), [])
  else none else none := by kernel_rfl
theorem eq_rcovs (run : RunF) (loop : LoopF) (a0 : List E) (a1 : List E) (a2 : Int) : bodyRun PP HH run loop none 54 [.e (.sl 9 a0), .e (.sl 9 a1), .e (.int .i64
  a2)] [] = bif decide (a2 < (↑a0.length : Int)) == true then bif decide (0 ≤ a2) && decide (a2 < (↑a0.length : Int)) then bif strEq ((a0.getD a2.toNat E.nili).cell 0).toStr ([35]
  : List UInt8) then some (Res.ret ((yes true)), []) else bif bif a2 == (↑a0.length : Int) then true else a2 == (↑a1.length : Int) then some (Res.ret ((yes (bif a2
  == (↑a0.length : Int) then a2 == (↑a1.length : Int) else false))), []) else bif decide (0 ≤ a2) && decide (a2 < (↑a0.length : Int)) then bif strEq ((a0.getD a2.toNat E.nili).cell
  0).toStr ([43] : List UInt8) then bif decide (0 ≤ a2) && decide (a2 < (↑a1.length : Int)) then bif (!strEq ((a1.getD a2.toNat E.nili).cell 0).toStr ([35] : List UInt8)) == true
  then (run none 54 [AV.e (E.sl 9 a0), AV.e (E.sl 9 a1), (num (IntKind.i64.wrap (a2 + 1)))] []).bind fun rh => bif okHeap [] rh.2 then bif okRes PP 4
  rh.fst then some (Res.ret ((yes rh.fst.val.data.toBool)), []) else none else none else some (Res.ret ((yes false)), []) else none else bif decide (0 ≤ a2) &&
  decide (a2 < (↑a0.length : Int)) then bif decide (0 ≤ a2) && decide (a2 < (↑a1.length : Int)) then bif strEq ((a0.getD a2.toNat E.nili).cell 0).toStr ((a1.getD a2.toNat
  E.nili).cell 0).toStr == true then (run none 54 [AV.e (E.sl 9 a0), AV.e (E.sl 9 a1), (num (IntKind.i64.wrap (a2 + 1)))] []).bind fun rh => bif okHeap [] rh.2
  then bif okRes PP 4 rh.fst then some (Res.ret ((yes rh.fst.val.data.toBool)), []) else none else none else some (Res.ret ((yes false)), []) else none else
  none else none else none else bif bif a2 == (↑a0.length : Int) then true else a2 == (↑a1.length : Int) then some (Res.ret ((yes (bif a2 == (↑a0.length : Int) then a2 ==
  (↑a1.length : Int) else false))), []) else bif decide (0 ≤ a2) && decide (a2 < (↑a0.length : Int)) then bif strEq ((a0.getD a2.toNat E.nili).cell 0).toStr ([43] : List UInt8)
  then bif decide (0 ≤ a2) && decide (a2 < (↑a1.length : Int)) then bif (!strEq ((a1.getD a2.toNat E.nili).cell 0).toStr ([35] : List UInt8)) == true then (run none 54 [AV.e (E.sl
  9 a0), AV.e (E.sl 9 a1), (num (IntKind.i64.wrap (a2 + 1)))] []).bind fun rh => bif okHeap [] rh.2 then bif okRes PP 4 rh.fst then some (Res.ret (AV.e
  (E.bool rh.fst.val.data.toBool)), []) else none else none else some (Res.ret ((yes false)), []) else none else bif decide (0 ≤ a2) && decide (a2 < (↑a0.length : Int))
  then bif decide (0 ≤ a2) && decide (a2 < (↑a1.length : Int)) then bif strEq ((a0.getD a2.toNat E.nili).cell 0).toStr ((a1.getD a2.toNat E.nili).cell 0).toStr == true then (run
  none 54 [AV.e (E.sl 9 a0), AV.e (E.sl 9 a1), (num (IntKind.i64.wrap (a2 + 1)))] []).bind fun rh => bif okHeap [] rh.2 then bif okRes PP 4 rh.fst then
  some (Res.ret ((yes rh.fst.val.data.toBool)), []) else none else none else some (Res.ret ((yes false)), []) else none else none else none := by kernel_rfl
theorem eq_rwild (run : RunF) (loop : LoopF) (a0 : List E) : bodyRun PP HH run loop none 52 [.e (.sl 9 a0)] [] = bif decide (0 < (↑a0.length : Int)) then bif strEq
  ((a0.getD 0 E.nili).cell 0).toStr ([43] : List UInt8) == false then bif decide (0 < (↑a0.length : Int)) then some (Res.ret ((yes (strEq ((a0.getD 0 E.nili).cell 0).toStr
  ([35] : List UInt8)))), []) else none else some (Res.ret ((yes true)), []) else none := by kernel_rfl
end Go.Proofs.YtapndkailgcboaaGreatDoor
