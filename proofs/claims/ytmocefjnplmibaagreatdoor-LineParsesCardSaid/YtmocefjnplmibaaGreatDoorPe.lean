/- The equations of functions, as a program of mine prints them. -/
import Derived.Test.YtmocefjnplmibaaGreatDoorBase
namespace Go.Proofs.YtmocefjnplmibaaGreatDoor
open Go Go.Den
set_option maxRecDepth 100000
set_option maxHeartbeats 0

theorem eq_canonical (run : RunF) (loop : LoopF) (a0 : List UInt8) : bodyRun PP HH run loop none 122 [str a0] [] = bif decide ((↑1 : Int) ≤ (↑a0.length : Int)) == true then
  bif decide ((↑1 : Int) ≤ (↑a0.length : Int)) then bif strEq (List.drop 0 (List.take 1 a0)) [45] then bif decide ((↑1 : Int) ≤ (↑a0.length : Int)) && decide ((↑a0.length :
  Int) ≤ (↑a0.length : Int)) then bif strEq (List.drop 1 (List.take (↑a0.length : Int).toNat a0)) ([] : List UInt8) == false then bif decide (0 < (↑(List.drop 1 (List.take
  (↑a0.length : Int).toNat a0)).length : Int)) then bif ((↑((List.drop 1 (List.take (↑a0.length : Int).toNat a0)).getD 0 0).toNat : Int) == 48) == true then bif !strEq a0
  ([48] : List UInt8) then some (Res.ret ((yes false)), []) else (loop 122 0 lc_122_5 ([uu, uu, uu, (str (List.drop 1 (List.take (↑a0.length : Int).toNat a0))), num 0] ++
  List.replicate 29 uu) []).bind fun o => bif o.ex.isWay (Way.exit 0) then bif okFr (List.replicate 34 uu) o.2 && okHeap [] o.3 then some (Res.ret ((yes true)), []) else none
  else bif o.ex.isWay Way.ret then bif okFr ([uu, uu, yes false] ++ List.replicate 31 uu) o.2 && okHeap [] o.3 then some (Res.ret ((yes (List.getD o.fr 2 uu).data.toBool)),
  []) else none else none else (loop 122 0 lc_122_5 ([uu, uu, uu, (str (List.drop 1 (List.take (↑a0.length : Int).toNat a0))), num 0] ++ List.replicate 29 uu) []).bind fun o
  => bif o.ex.isWay (Way.exit 0) then bif okFr (List.replicate 34 uu) o.2 && okHeap [] o.3 then some (Res.ret ((yes true)), []) else none else bif o.ex.isWay Way.ret then bif
  okFr ([uu, uu, yes false] ++ List.replicate 31 uu) o.2 && okHeap [] o.3 then some (Res.ret ((yes (List.getD o.fr 2 uu).data.toBool)), []) else none else none else none else
  some (Res.ret ((yes false)), []) else none else bif strEq a0 ([] : List UInt8) == false then bif decide (0 < (↑a0.length : Int)) then bif ((↑(a0.getD 0 0).toNat : Int) ==
  48) == true then bif !strEq a0 ([48] : List UInt8) then some (Res.ret ((yes false)), []) else (loop 122 0 lc_122_5 ([uu, uu, uu, str a0, num 0] ++ List.replicate 29 uu)
  []).bind fun o => bif o.ex.isWay (Way.exit 0) then bif okFr (List.replicate 34 uu) o.2 && okHeap [] o.3 then some (Res.ret ((yes true)), []) else none else bif o.ex.isWay
  Way.ret then bif okFr ([uu, uu, yes false] ++ List.replicate 31 uu) o.2 && okHeap [] o.3 then some (Res.ret ((yes (List.getD o.fr 2 uu).data.toBool)), []) else none else
  none else (loop 122 0 lc_122_5 ([uu, uu, uu, str a0, num 0] ++ List.replicate 29 uu) []).bind fun o => bif o.ex.isWay (Way.exit 0) then bif okFr (List.replicate 34 uu) o.2
  && okHeap [] o.3 then some (Res.ret ((yes true)), []) else none else bif o.ex.isWay Way.ret then bif okFr ([uu, uu, yes false] ++ List.replicate 31 uu) o.2 && okHeap [] o.3
  then some (Res.ret ((yes (List.getD o.fr 2 uu).data.toBool)), []) else none else none else none else some (Res.ret ((yes false)), []) else none else bif strEq a0 ([] : List
  UInt8) == false then bif decide (0 < (↑a0.length : Int)) then bif ((↑(a0.getD 0 0).toNat : Int) == 48) == true then bif !strEq a0 ([48] : List UInt8) then some (Res.ret
  ((yes false)), []) else (loop 122 0 lc_122_5 ([uu, uu, uu, str a0, num 0] ++ List.replicate 29 uu) []).bind fun o => bif o.ex.isWay (Way.exit 0) then bif okFr
  (List.replicate 34 uu) o.2 && okHeap [] o.3 then some (Res.ret ((yes true)), []) else none else bif o.ex.isWay Way.ret then bif okFr ([uu, uu, yes false] ++ List.replicate
  31 uu) o.2 && okHeap [] o.3 then some (Res.ret ((yes (List.getD o.fr 2 uu).data.toBool)), []) else none else none else (loop 122 0 lc_122_5 ([uu, uu, uu, str a0, num 0] ++
  List.replicate 29 uu) []).bind fun o => bif o.ex.isWay (Way.exit 0) then bif okFr (List.replicate 34 uu) o.2 && okHeap [] o.3 then some (Res.ret ((yes true)), []) else none
  else bif o.ex.isWay Way.ret then bif okFr ([uu, uu, yes false] ++ List.replicate 31 uu) o.2 && okHeap [] o.3 then some (Res.ret ((yes (List.getD o.fr 2 uu).data.toBool)),
  []) else none else none else none else some (Res.ret ((yes false)), []) := by kernel_rfl
theorem eq_canonicalL5 (run : RunF) (loop : LoopF) (t3 : List UInt8) (t4 : Int) : bodyLoop PP HH run loop 122 0 lc_122_5 (((List.replicate 34 uu).set 3 (str t3)).set 4 (num
  t4)) [] = bif decide (t4 < (↑t3.length : Int)) then bif decide (0 ≤ t4) && decide (t4 < (↑t3.length : Int)) then bif decide ((↑(t3.getD t4.toNat 0).toNat : Int) < 48) ==
  false then bif decide (0 ≤ t4) && decide (t4 < (↑t3.length : Int)) then bif decide (57 < (↑(t3.getD t4.toNat 0).toNat : Int)) then some (Out.mk (Ex.ret) (([uu, uu, yes
  false] ++ List.replicate 31 uu)) ([]) ([])) else (loop 122 0 lc_122_5 ([uu, uu, uu, str t3, (num (IntKind.i64.wrap (t4 + 1)))] ++ List.replicate 29 uu) []).bind fun o =>
  some o else none else some (Out.mk (Ex.ret) (([uu, uu, yes false] ++ List.replicate 31 uu)) ([]) ([])) else none else some (Out.mk (Ex.exit 0) ((List.replicate 34 uu)) ([])
  ([])) := by kernel_rfl
theorem eq_ReadNum (run : RunF) (loop : LoopF) (a0 : List UInt8) : bodyRun PP HH run loop none 99 [str a0] [] = bif decide (0 < (↑a0.length : Int)) == true then bif decide (0
  < (↑a0.length : Int)) then bif (↑(a0.getD 0 0).toNat : Int) == 45 then bif ((↑a0.length : Int) == 1) == false then bif decide (1 < (↑a0.length : Int)) then bif ((↑(a0.getD 1
  0).toNat : Int) == 48) == true then bif decide (1 < (↑a0.length : Int)) then some (Res.ret (AV.tup [num 0, num 2]), []) else (loop 99 0 lc_99_7 ([str a0, uu, uu, uu, num 1,
  num 1] ++ List.replicate 69 uu) []).bind fun o => bif o.ex.isWay (Way.exit 0) then bif okFr ([str [], uu, uu, uu, num 0] ++ List.replicate 70 uu) o.2 && okHeap [] o.3 then
  bif decide (20 < (↑(List.getD o.fr 0 uu).data.toStr.length : Int)) then some (Res.ret (AV.tup [num 0, num 1]), []) else (loop 99 0 lc_99_15 ([(str (List.getD o.fr 0
  uu).data.toStr), uu, uu, uu, (num (List.getD o.fr 4 uu).data.toInt), uu, num 0, (num (List.getD o.fr 4 uu).data.toInt)] ++ List.replicate 67 uu) []).bind fun o => bif
  o.ex.isWay (Way.exit 2) then bif okFr ([str [], uu, uu, uu, num 0, uu, num 0] ++ List.replicate 68 uu) o.2 && okHeap [] o.3 then bif (List.getD o.fr 4 uu).data.toInt == 0
  then (run none 48 [(num (IntKind.i64.wrap (0 - (List.getD o.fr 6 uu).data.toInt)))] []).bind fun rh => bif okHeap [] rh.2 then bif okRes PP 9 rh.fst then bif !strEq
  rh.fst.val.data.toStr (List.getD o.fr 0 uu).data.toStr then some (Res.ret (AV.tup [num 0, num 1]), []) else some (Res.ret (AV.tup [(num (IntKind.i64.wrap (0 - (List.getD
  o.fr 6 uu).data.toInt))), num 0]), []) else none else none else (run none 48 [(num (List.getD o.fr 6 uu).data.toInt)] []).bind fun rh => bif okHeap [] rh.2 then bif okRes PP
  9 rh.fst then bif !strEq rh.fst.val.data.toStr (List.getD o.fr 0 uu).data.toStr then some (Res.ret (AV.tup [num 0, num 1]), []) else some (Res.ret (AV.tup [(num (List.getD
  o.fr 6 uu).data.toInt), num 0]), []) else none else none else none else none else none else bif o.ex.isWay Way.ret then bif okFr ([uu, uu, num 0, num 0] ++ List.replicate 71
  uu) o.2 && okHeap [] o.3 then some (Res.ret (AV.tup [(num (List.getD o.fr 2 uu).data.toInt), (num (List.getD o.fr 3 uu).data.toInt)]), []) else none else none else (loop 99
  0 lc_99_7 ([str a0, uu, uu, uu, num 1, num 1] ++ List.replicate 69 uu) []).bind fun o => bif o.ex.isWay (Way.exit 0) then bif okFr ([str [], uu, uu, uu, num 0] ++
  List.replicate 70 uu) o.2 && okHeap [] o.3 then bif decide (20 < (↑(List.getD o.fr 0 uu).data.toStr.length : Int)) then some (Res.ret (AV.tup [num 0, num 1]), []) else (loop
  99 0 lc_99_15 ([(str (List.getD o.fr 0 uu).data.toStr), uu, uu, uu, (num (List.getD o.fr 4 uu).data.toInt), uu, num 0, (num (List.getD o.fr 4 uu).data.toInt)] ++
  List.replicate 67 uu) []).bind fun o => bif o.ex.isWay (Way.exit 2) then bif okFr ([str [], uu, uu, uu, num 0, uu, num 0] ++ List.replicate 68 uu) o.2 && okHeap [] o.3 then
  bif (List.getD o.fr 4 uu).data.toInt == 0 then (run none 48 [(num (IntKind.i64.wrap (0 - (List.getD o.fr 6 uu).data.toInt)))] []).bind fun rh => bif okHeap [] rh.2 then bif
  okRes PP 9 rh.fst then bif !strEq rh.fst.val.data.toStr (List.getD o.fr 0 uu).data.toStr then some (Res.ret (AV.tup [num 0, num 1]), []) else some (Res.ret (AV.tup [(num
  (IntKind.i64.wrap (0 - (List.getD o.fr 6 uu).data.toInt))), num 0]), []) else none else none else (run none 48 [(num (List.getD o.fr 6 uu).data.toInt)] []).bind fun rh =>
  bif okHeap [] rh.2 then bif okRes PP 9 rh.fst then bif !strEq rh.fst.val.data.toStr (List.getD o.fr 0 uu).data.toStr then some (Res.ret (AV.tup [num 0, num 1]), []) else
  some (Res.ret (AV.tup [(num (List.getD o.fr 6 uu).data.toInt), num 0]), []) else none else none else none else none else none else bif o.ex.isWay Way.ret then bif okFr ([uu,
  uu, num 0, num 0] ++ List.replicate 71 uu) o.2 && okHeap [] o.3 then some (Res.ret (AV.tup [(num (List.getD o.fr 2 uu).data.toInt), (num (List.getD o.fr 3 uu).data.toInt)]),
  []) else none else none else none else some (Res.ret (AV.tup [num 0, num 2]), []) else bif ((↑a0.length : Int) == 0) == false then bif decide (0 < (↑a0.length : Int)) then
  bif ((↑(a0.getD 0 0).toNat : Int) == 48) == true then bif decide (1 < (↑a0.length : Int)) then some (Res.ret (AV.tup [num 0, num 2]), []) else (loop 99 0 lc_99_7 ([str a0,
  uu, uu, uu, num 0, num 0] ++ List.replicate 69 uu) []).bind fun o => bif o.ex.isWay (Way.exit 0) then bif okFr ([str [], uu, uu, uu, num 0] ++ List.replicate 70 uu) o.2 &&
  okHeap [] o.3 then bif decide (20 < (↑(List.getD o.fr 0 uu).data.toStr.length : Int)) then some (Res.ret (AV.tup [num 0, num 1]), []) else (loop 99 0 lc_99_15 ([(str
  (List.getD o.fr 0 uu).data.toStr), uu, uu, uu, (num (List.getD o.fr 4 uu).data.toInt), uu, num 0, (num (List.getD o.fr 4 uu).data.toInt)] ++ List.replicate 67 uu) []).bind
  fun o => bif o.ex.isWay (Way.exit 2) then bif okFr ([str [], uu, uu, uu, num 0, uu, num 0] ++ List.replicate 68 uu) o.2 && okHeap [] o.3 then bif (List.getD o.fr 4
  uu).data.toInt == 0 then (run none 48 [(num (IntKind.i64.wrap (0 - (List.getD o.fr 6 uu).data.toInt)))] []).bind fun rh => bif okHeap [] rh.2 then bif okRes PP 9 rh.fst then
  bif !strEq rh.fst.val.data.toStr (List.getD o.fr 0 uu).data.toStr then some (Res.ret (AV.tup [num 0, num 1]), []) else some (Res.ret (AV.tup [(num (IntKind.i64.wrap (0 -
  (List.getD o.fr 6 uu).data.toInt))), num 0]), []) else none else none else (run none 48 [(num (List.getD o.fr 6 uu).data.toInt)] []).bind fun rh => bif okHeap [] rh.2 then
  bif okRes PP 9 rh.fst then bif !strEq rh.fst.val.data.toStr (List.getD o.fr 0 uu).data.toStr then some (Res.ret (AV.tup [num 0, num 1]), []) else some (Res.ret (AV.tup [(num
  (List.getD o.fr 6 uu).data.toInt), num 0]), []) else none else none else none else none else none else bif o.ex.isWay Way.ret then bif okFr ([uu, uu, num 0, num 0] ++
  List.replicate 71 uu) o.2 && okHeap [] o.3 then some (Res.ret (AV.tup [(num (List.getD o.fr 2 uu).data.toInt), (num (List.getD o.fr 3 uu).data.toInt)]), []) else none else
  none else (loop 99 0 lc_99_7 ([str a0, uu, uu, uu, num 0, num 0] ++ List.replicate 69 uu) []).bind fun o => bif o.ex.isWay (Way.exit 0) then bif okFr ([str [], uu, uu, uu,
  num 0] ++ List.replicate 70 uu) o.2 && okHeap [] o.3 then bif decide (20 < (↑(List.getD o.fr 0 uu).data.toStr.length : Int)) then some (Res.ret (AV.tup [num 0, num 1]), [])
  else (loop 99 0 lc_99_15 ([(str (List.getD o.fr 0 uu).data.toStr), uu, uu, uu, (num (List.getD o.fr 4 uu).data.toInt), uu, num 0, (num (List.getD o.fr 4 uu).data.toInt)] ++
  List.replicate 67 uu) []).bind fun o => bif o.ex.isWay (Way.exit 2) then bif okFr ([str [], uu, uu, uu, num 0, uu, num 0] ++ List.replicate 68 uu) o.2 && okHeap [] o.3 then
  bif (List.getD o.fr 4 uu).data.toInt == 0 then (run none 48 [(num (IntKind.i64.wrap (0 - (List.getD o.fr 6 uu).data.toInt)))] []).bind fun rh => bif okHeap [] rh.2 then bif
  okRes PP 9 rh.fst then bif !strEq rh.fst.val.data.toStr (List.getD o.fr 0 uu).data.toStr then some (Res.ret (AV.tup [num 0, num 1]), []) else some (Res.ret (AV.tup [(num
  (IntKind.i64.wrap (0 - (List.getD o.fr 6 uu).data.toInt))), num 0]), []) else none else none else (run none 48 [(num (List.getD o.fr 6 uu).data.toInt)] []).bind fun rh =>
  bif okHeap [] rh.2 then bif okRes PP 9 rh.fst then bif !strEq rh.fst.val.data.toStr (List.getD o.fr 0 uu).data.toStr then some (Res.ret (AV.tup [num 0, num 1]), []) else
  some (Res.ret (AV.tup [(num (List.getD o.fr 6 uu).data.toInt), num 0]), []) else none else none else none else none else none else bif o.ex.isWay Way.ret then bif okFr ([uu,
  uu, num 0, num 0] ++ List.replicate 71 uu) o.2 && okHeap [] o.3 then some (Res.ret (AV.tup [(num (List.getD o.fr 2 uu).data.toInt), (num (List.getD o.fr 3 uu).data.toInt)]),
  []) else none else none else none else some (Res.ret (AV.tup [num 0, num 2]), []) else none else bif ((↑a0.length : Int) == 0) == false then bif decide (0 < (↑a0.length :
  Int)) then bif ((↑(a0.getD 0 0).toNat : Int) == 48) == true then bif decide (1 < (↑a0.length : Int)) then some (Res.ret (AV.tup [num 0, num 2]), []) else (loop 99 0 lc_99_7
  ([str a0, uu, uu, uu, num 0, num 0] ++ List.replicate 69 uu) []).bind fun o => bif o.ex.isWay (Way.exit 0) then bif okFr ([str [], uu, uu, uu, num 0] ++ List.replicate 70
  uu) o.2 && okHeap [] o.3 then bif decide (20 < (↑(List.getD o.fr 0 uu).data.toStr.length : Int)) then some (Res.ret (AV.tup [num 0, num 1]), []) else (loop 99 0 lc_99_15
  ([(str (List.getD o.fr 0 uu).data.toStr), uu, uu, uu, (num (List.getD o.fr 4 uu).data.toInt), uu, num 0, (num (List.getD o.fr 4 uu).data.toInt)] ++ List.replicate 67 uu)
  []).bind fun o => bif o.ex.isWay (Way.exit 2) then bif okFr ([str [], uu, uu, uu, num 0, uu, num 0] ++ List.replicate 68 uu) o.2 && okHeap [] o.3 then bif (List.getD o.fr 4
  uu).data.toInt == 0 then (run none 48 [(num (IntKind.i64.wrap (0 - (List.getD o.fr 6 uu).data.toInt)))] []).bind fun rh => bif okHeap [] rh.2 then bif okRes PP 9 rh.fst then
  bif !strEq rh.fst.val.data.toStr (List.getD o.fr 0 uu).data.toStr then some (Res.ret (AV.tup [num 0, num 1]), []) else some (Res.ret (AV.tup [(num (IntKind.i64.wrap (0 -
  (List.getD o.fr 6 uu).data.toInt))), num 0]), []) else none else none else (run none 48 [(num (List.getD o.fr 6 uu).data.toInt)] []).bind fun rh => bif okHeap [] rh.2 then
  bif okRes PP 9 rh.fst then bif !strEq rh.fst.val.data.toStr (List.getD o.fr 0 uu).data.toStr then some (Res.ret (AV.tup [num 0, num 1]), []) else some (Res.ret (AV.tup [(num
  (List.getD o.fr 6 uu).data.toInt), num 0]), []) else none else none else none else none else none else bif o.ex.isWay Way.ret then bif okFr ([uu, uu, num 0, num 0] ++
  List.replicate 71 uu) o.2 && okHeap [] o.3 then some (Res.ret (AV.tup [(num (List.getD o.fr 2 uu).data.toInt), (num (List.getD o.fr 3 uu).data.toInt)]), []) else none else
  none else (loop 99 0 lc_99_7 ([str a0, uu, uu, uu, num 0, num 0] ++ List.replicate 69 uu) []).bind fun o => bif o.ex.isWay (Way.exit 0) then bif okFr ([str [], uu, uu, uu,
  num 0] ++ List.replicate 70 uu) o.2 && okHeap [] o.3 then bif decide (20 < (↑(List.getD o.fr 0 uu).data.toStr.length : Int)) then some (Res.ret (AV.tup [num 0, num 1]), [])
  else (loop 99 0 lc_99_15 ([(str (List.getD o.fr 0 uu).data.toStr), uu, uu, uu, (num (List.getD o.fr 4 uu).data.toInt), uu, num 0, (num (List.getD o.fr 4 uu).data.toInt)] ++
  List.replicate 67 uu) []).bind fun o => bif o.ex.isWay (Way.exit 2) then bif okFr ([str [], uu, uu, uu, num 0, uu, num 0] ++ List.replicate 68 uu) o.2 && okHeap [] o.3 then
  bif (List.getD o.fr 4 uu).data.toInt == 0 then (run none 48 [(num (IntKind.i64.wrap (0 - (List.getD o.fr 6 uu).data.toInt)))] []).bind fun rh => bif okHeap [] rh.2 then bif
  okRes PP 9 rh.fst then bif !strEq rh.fst.val.data.toStr (List.getD o.fr 0 uu).data.toStr then some (Res.ret (AV.tup [num 0, num 1]), []) else some (Res.ret (AV.tup [(num
  (IntKind.i64.wrap (0 - (List.getD o.fr 6 uu).data.toInt))), num 0]), []) else none else none else (run none 48 [(num (List.getD o.fr 6 uu).data.toInt)] []).bind fun rh =>
  bif okHeap [] rh.2 then bif okRes PP 9 rh.fst then bif !strEq rh.fst.val.data.toStr (List.getD o.fr 0 uu).data.toStr then some (Res.ret (AV.tup [num 0, num 1]), []) else
  some (Res.ret (AV.tup [(num (List.getD o.fr 6 uu).data.toInt), num 0]), []) else none else none else none else none else none else bif o.ex.isWay Way.ret then bif okFr ([uu,
  uu, num 0, num 0] ++ List.replicate 71 uu) o.2 && okHeap [] o.3 then some (Res.ret (AV.tup [(num (List.getD o.fr 2 uu).data.toInt), (num (List.getD o.fr 3 uu).data.toInt)]),
  []) else none else none else none else some (Res.ret (AV.tup [num 0, num 2]), []) := by kernel_rfl
theorem eq_ReadNumL7 (run : RunF) (loop : LoopF) (t0 : List UInt8) (t4 t5 : Int) : bodyLoop PP HH run loop 99 0 lc_99_7 ((((List.replicate 75 uu).set 0 (str t0)).set 4 (num
  t4)).set 5 (num t5)) [] = bif decide (t5 < (↑t0.length : Int)) then bif decide (0 ≤ t5) && decide (t5 < (↑t0.length : Int)) then bif decide ((↑(t0.getD t5.toNat 0).toNat :
  Int) < 48) == false then bif decide (0 ≤ t5) && decide (t5 < (↑t0.length : Int)) then bif decide (57 < (↑(t0.getD t5.toNat 0).toNat : Int)) then some (Out.mk (Ex.ret) (([uu,
  uu, num 0, num 2] ++ List.replicate 71 uu)) ([]) ([])) else (loop 99 0 lc_99_7 ([str t0, uu, uu, uu, num t4, (num (IntKind.i64.wrap (t5 + 1)))] ++ List.replicate 69 uu)
  []).bind fun o => some o else none else some (Out.mk (Ex.ret) (([uu, uu, num 0, num 2] ++ List.replicate 71 uu)) ([]) ([])) else none else some (Out.mk (Ex.exit 0) (([str
  t0, uu, uu, uu, num t4] ++ List.replicate 70 uu)) ([]) ([])) := by kernel_rfl
theorem eq_ReadNumL15 (run : RunF) (loop : LoopF) (t0 : List UInt8) (t4 t6 t7 : Int) : bodyLoop PP HH run loop 99 0 lc_99_15 (((((List.replicate 75 uu).set 0 (str t0)).set 4
  (num t4)).set 6 (num t6)).set 7 (num t7)) [] = bif decide (t7 < (↑t0.length : Int)) then bif decide (0 ≤ t7) && decide (t7 < (↑t0.length : Int)) then (loop 99 0 lc_99_15
  ([str t0, uu, uu, uu, num t4, uu, (num (IntKind.i64.wrap (IntKind.i64.wrap (t6 * 10) - IntKind.i64.wrap (IntKind.u8.wrap ((↑(t0.getD t7.toNat 0).toNat : Int) - 48))))), (num
  (IntKind.i64.wrap (t7 + 1)))] ++ List.replicate 67 uu) []).bind fun o => some o else none else some (Out.mk (Ex.exit 2) (([str t0, uu, uu, uu, num t4, uu, num t6] ++
  List.replicate 68 uu)) ([]) ([])) := by kernel_rfl
end Go.Proofs.YtmocefjnplmibaaGreatDoor
