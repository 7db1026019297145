/- The equations of functions, as a program of mine prints them. -/
import Derived.Test.YtmocefjnplmibaaGreatDoorBase
namespace Go.Proofs.YtmocefjnplmibaaGreatDoor
open Go Go.Den
set_option maxRecDepth 100000
set_option maxHeartbeats 0

theorem eq_canonical (run : RunF) (loop : LoopF) (a0 : List UInt8) : bodyRun PP HH run loop none 122 [.e (.str a0)] [] = bif decide ((↑1 : Int) ≤ (↑a0.length :
  Int)) == true then bif decide ((↑1 : Int) ≤ (↑a0.length : Int)) then bif strEq (List.drop 0 (List.take 1 a0)) [45] then bif decide ((↑1 : Int) ≤ (↑a0.length : Int)) && decide
  ((↑a0.length : Int) ≤ (↑a0.length : Int)) then bif strEq (List.drop 1 (List.take (↑a0.length : Int).toNat a0)) ([] : List UInt8) == false then bif decide (0 < (↑(List.drop 1
  (List.take (↑a0.length : Int).toNat a0)).length : Int)) then bif ((↑((List.drop 1 (List.take (↑a0.length : Int).toNat a0)).getD 0 0).toNat : Int) == 48) == true then bif !strEq
  a0 ([48] : List UInt8) then some (Res.ret ((yes false)), []) else (loop 122 0 lc_122_5 ([uu, uu, uu, (str (List.drop 1 (List.take (↑a0.length :
  Int).toNat a0))), (num 0)] ++ List.replicate 29 uu) []).bind fun o => bif o.ex.isWay (Way.exit 0) then bif okFr (List.replicate 34 uu) o.2 &&
  okHeap [] o.3 then some (Res.ret ((yes true)), []) else none else bif o.ex.isWay Way.ret then bif okFr ([uu, uu, (yes false)] ++ List.replicate 31
  uu) o.2 && okHeap [] o.3 then some (Res.ret ((yes (List.getD o.fr 2 uu).data.toBool)), []) else none else none else (loop 122 0 lc_122_5 ([uu, uu,
  uu, (str (List.drop 1 (List.take (↑a0.length : Int).toNat a0))), (num 0)] ++ List.replicate 29 uu) []).bind fun o => bif o.ex.isWay
  (Way.exit 0) then bif okFr (List.replicate 34 uu) o.2 && okHeap [] o.3 then some (Res.ret ((yes true)), []) else none else bif o.ex.isWay Way.ret then bif okFr
  ([uu, uu, (yes false)] ++ List.replicate 31 uu) o.2 && okHeap [] o.3 then some (Res.ret ((yes (List.getD o.fr 2 uu).data.toBool)), [])
  else none else none else none else some (Res.ret ((yes false)), []) else none else bif strEq a0 ([] : List UInt8) == false then bif decide (0 < (↑a0.length : Int)) then
  bif ((↑(a0.getD 0 0).toNat : Int) == 48) == true then bif !strEq a0 ([48] : List UInt8) then some (Res.ret ((yes false)), []) else (loop 122 0 lc_122_5 ([uu,
  uu, uu, (str a0), (num 0)] ++ List.replicate 29 uu) []).bind fun o => bif o.ex.isWay (Way.exit 0) then bif okFr (List.replicate 34
  uu) o.2 && okHeap [] o.3 then some (Res.ret ((yes true)), []) else none else bif o.ex.isWay Way.ret then bif okFr ([uu, uu, (yes false)] ++
  List.replicate 31 uu) o.2 && okHeap [] o.3 then some (Res.ret ((yes (List.getD o.fr 2 uu).data.toBool)), []) else none else none else (loop 122 0 lc_122_5
  ([uu, uu, uu, (str a0), (num 0)] ++ List.replicate 29 uu) []).bind fun o => bif o.ex.isWay (Way.exit 0) then bif okFr
  (List.replicate 34 uu) o.2 && okHeap [] o.3 then some (Res.ret ((yes true)), []) else none else bif o.ex.isWay Way.ret then bif okFr ([uu, uu, AV.e
  (E.bool false)] ++ List.replicate 31 uu) o.2 && okHeap [] o.3 then some (Res.ret ((yes (List.getD o.fr 2 uu).data.toBool)), []) else none else none else none
  else some (Res.ret ((yes false)), []) else none else bif strEq a0 ([] : List UInt8) == false then bif decide (0 < (↑a0.length : Int)) then bif ((↑(a0.getD 0 0).toNat :
  Int) == 48) == true then bif !strEq a0 ([48] : List UInt8) then some (Res.ret ((yes false)), []) else (loop 122 0 lc_122_5 ([uu, uu, uu, AV.e (E.str
  a0), (num 0)] ++ List.replicate 29 uu) []).bind fun o => bif o.ex.isWay (Way.exit 0) then bif okFr (List.replicate 34 uu) o.2 && okHeap [] o.3 then
  some (Res.ret ((yes true)), []) else none else bif o.ex.isWay Way.ret then bif okFr ([uu, uu, (yes false)] ++ List.replicate 31 uu) o.2 &&
  okHeap [] o.3 then some (Res.ret ((yes (List.getD o.fr 2 uu).data.toBool)), []) else none else none else (loop 122 0 lc_122_5 ([uu, uu, uu, AV.e
  (E.str a0), (num 0)] ++ List.replicate 29 uu) []).bind fun o => bif o.ex.isWay (Way.exit 0) then bif okFr (List.replicate 34 uu) o.2 && okHeap []
  o.3 then some (Res.ret ((yes true)), []) else none else bif o.ex.isWay Way.ret then bif okFr ([uu, uu, (yes false)] ++ List.replicate 31 uu) o.2
  && okHeap [] o.3 then some (Res.ret ((yes (List.getD o.fr 2 uu).data.toBool)), []) else none else none else none else some (Res.ret ((yes false)), []) := by
  kernel_rfl
theorem eq_canonicalL5 (run : RunF) (loop : LoopF) (t3 : List UInt8) (t4 : Int) : bodyLoop PP HH run loop 122 0 lc_122_5 (((List.replicate 34 uu).set 3 (.e
  (.str t3))).set 4 (.e (.int .i64 t4))) [] = bif decide (t4 < (↑t3.length : Int)) then bif decide (0 ≤ t4) && decide (t4 < (↑t3.length : Int)) then bif decide ((↑(t3.getD t4.toNat
  0).toNat : Int) < 48) == false then bif decide (0 ≤ t4) && decide (t4 < (↑t3.length : Int)) then bif decide (57 < (↑(t3.getD t4.toNat 0).toNat : Int)) then some (Out.mk (Ex.ret)
  (([uu, uu, (yes false)] ++ List.replicate 31 uu)) ([]) ([])) else (loop 122 0 lc_122_5 ([uu, uu, uu, (str t3), AV.e (E.int
  IntKind.i64 (IntKind.i64.wrap (t4 + 1)))] ++ List.replicate 29 uu) []).bind fun o => some o else none else some (Out.mk (Ex.ret) (([uu, uu, (yes false)]
  ++ List.replicate 31 uu)) ([]) ([])) else none else some (Out.mk (Ex.exit 0) ((List.replicate 34 uu)) ([]) ([])) := by kernel_rfl
end Go.Proofs.YtmocefjnplmibaaGreatDoor
