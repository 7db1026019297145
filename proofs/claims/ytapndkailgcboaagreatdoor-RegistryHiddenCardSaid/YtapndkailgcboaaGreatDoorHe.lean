/- The equations of functions, as a program of mine prints them. -/
import Derived.Test.YtapndkailgcboaaGreatDoorBase
namespace Go.Proofs.YtapndkailgcboaaGreatDoor
open Go Go.Den
set_option maxRecDepth 100000
set_option maxHeartbeats 0

theorem eq_has (run : RunF) (loop : LoopF) (a0 : List E) (a1 : List UInt8) : bodyRun PP HH run loop none 91 [.e (.sl 9 a0), .e (.str a1)] [] = (loop 91 0 lc_91_2
  ([uu, (str a1), uu, uu, uu, uu, uu, AV.e (E.sl 9 a0), (num (↑a0.length : Int)), (num 0)] ++
  List.replicate 7 uu) []).bind fun o => bif o.ex.isWay (Way.exit 0) then bif okFr (List.replicate 17 uu) o.2 && okHeap [] o.3 then some (Res.ret ((yes false)),
  []) else none else bif o.ex.isWay Way.ret then bif okFr ([uu, uu, uu, uu, (yes false)] ++ List.replicate 12 uu) o.2 && okHeap [] o.3 then
  some (Res.ret ((yes (List.getD o.fr 4 uu).data.toBool)), []) else none else none := by kernel_rfl
theorem eq_hasL (run : RunF) (loop : LoopF) (t1 : List UInt8) (t7 : List E) (t8 : Int) (t9 : Int) : bodyLoop PP HH run loop 91 0 lc_91_2 (((((List.replicate 17
  uu).set 1 (.e (.str t1))).set 7 (.e (.sl 9 t7))).set 8 (.e (.int .i64 t8))).set 9 (.e (.int .i64 t9))) [] = bif decide (t9 < t8) then bif decide (0 ≤ t9) && decide (t9 <
  (↑t7.length : Int)) then bif strEq ((t7.getD t9.toNat E.nili).cell 0).toStr t1 then some (Out.mk (Ex.ret) (([uu, uu, uu, uu, (yes true)] ++
  List.replicate 12 uu)) ([]) ([])) else (loop 91 0 lc_91_2 ([uu, (str t1), uu, uu, uu, uu, uu, AV.e (E.sl 9 t7), AV.e (E.int
  IntKind.i64 t8), (num (IntKind.i64.wrap (t9 + 1)))] ++ List.replicate 7 uu) []).bind fun o => some o else none else some (Out.mk (Ex.exit 0)
  ((List.replicate 17 uu)) ([]) ([])) := by kernel_rfl
theorem eq_rhas (run : RunF) (loop : LoopF) (a0 : List E) (a1 : List UInt8) : bodyRun PP HH run loop none 68 [.e (.sl 9 a0), .e (.str a1)] [] = (loop 68 0 lc_68_2
  ([AV.e (E.sl 9 a0), (str a1), uu, uu, uu, (num 0)] ++ List.replicate 12 uu) []).bind fun o => bif o.ex.isWay (Way.exit 0) then
  bif okFr (List.replicate 18 uu) o.2 && okHeap [] o.3 then some (Res.ret ((yes false)), []) else none else bif o.ex.isWay Way.ret then bif okFr ([uu, uu,
  uu, uu, (yes false)] ++ List.replicate 13 uu) o.2 && okHeap [] o.3 then some (Res.ret ((yes (List.getD o.fr 4 uu).data.toBool)), []) else
  none else none := by kernel_rfl
theorem eq_rhasL (run : RunF) (loop : LoopF) (t0 : List E) (t1 : List UInt8) (t5 : Int) : bodyLoop PP HH run loop 68 0 lc_68_2 ((((List.replicate 18 uu).set
  0 (.e (.sl 9 t0))).set 1 (.e (.str t1))).set 5 (.e (.int .i64 t5))) [] = bif decide (t5 < (↑t0.length : Int)) then bif decide (0 ≤ t5) && decide (t5 < (↑t0.length : Int)) then
  bif strEq ((t0.getD t5.toNat E.nili).cell 0).toStr t1 then some (Out.mk (Ex.ret) (([uu, uu, uu, uu, (yes true)] ++ List.replicate 13 uu))
  ([]) ([])) else (loop 68 0 lc_68_2 ([AV.e (E.sl 9 t0), (str t1), uu, uu, uu, (num (IntKind.i64.wrap (t5 + 1)))] ++ List.replicate 12
  uu) []).bind fun o => some o else none else some (Out.mk (Ex.exit 0) ((List.replicate 18 uu)) ([]) ([])) := by kernel_rfl

end Go.Proofs.YtapndkailgcboaaGreatDoor
