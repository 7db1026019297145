/- The equations of functions, as a program of mine prints them. -/
import Derived.Test.YtapndkailgcboaaGreatDoorBase
namespace Go.Proofs.YtapndkailgcboaaGreatDoor
open Go Go.Den
set_option maxRecDepth 100000
set_option maxHeartbeats 0

theorem eq_find (run : RunF) (loop : LoopF) (a0 : List E) (a1 : List UInt8) : bodyRun PP HH run loop none 42 [.e (.sl 46 a0), .e (.str a1)] [] = (run none 44 [AV.e
  (E.sl 46 a0), AV.clo 70 [(0, 0)]] [Ob.box [(str a1)]]).bind fun rh => bif okHeap [Ob.box [(str a1)]] rh.2 then bif okRes PP 3 rh.fst then some (Res.ret (AV.e
  (E.int IntKind.i64 rh.fst.val.data.toInt)), []) else none else none := by kernel_rfl
theorem eq_idxF (run : RunF) (loop : LoopF) (xs : List E) (n : List UInt8) : bodyRun PP HH run loop none 44 [.e (.sl 46 xs), .clo 70 [(0, 0)]] [.box [.e (.str n)]]
  = (loop 44 1 lc_44_2 ([AV.e (E.sl 46 xs), AV.clo 70 [(0, 0)], uu, uu, uu, uu, uu, (num (↑xs.length : Int)), AV.e (E.int
  IntKind.i64 0)] ++ List.replicate 10 uu) [Ob.box [(str n)]]).bind fun o => bif o.ex.isWay (Way.exit 0) then bif okFr (List.replicate 19 uu) o.2 && okHeap
  [Ob.box [(str [])]] o.3 then some (Res.ret ((num (-1))), [Ob.box [(str ((o.hp.ob 0).cell 0).data.toStr)]]) else none else bif o.ex.isWay Way.ret
  then bif okFr ([uu, uu, uu, uu, (num 0)] ++ List.replicate 14 uu) o.2 && okHeap [Ob.box [(str [])]] o.3 then some (Res.ret
  ((num (List.getD o.fr 4 uu).data.toInt)), [Ob.box [(str ((o.hp.ob 0).cell 0).data.toStr)]]) else none else none := by kernel_rfl
theorem eq_idxFL2 (run : RunF) (loop : LoopF) (xs : List E) (l i : Int) (n : List UInt8) : bodyLoop PP HH run loop 44 1 lc_44_2 (((((List.replicate 19
  uu).set 0 (.e (.sl 46 xs))).set 1 (.clo 70 [(0, 0)])).set 7 (.e (.int .i64 l))).set 8 (.e (.int .i64 i))) [.box [.e (.str n)]] = bif decide (i < l) then bif decide (0 ≤ i)
  && decide (i < (↑xs.length : Int)) then (run none 70 [AV.agg [(str ((xs.getD i.toNat E.nili).cell 0).toStr), (str ((xs.getD i.toNat E.nili).cell 1).toStr), AV.e
  (E.int IntKind.i64 ((xs.getD i.toNat E.nili).cell 2).toInt), AV.e (E.sl 31 ((xs.getD i.toNat E.nili).cell 3).toList)], AV.ptr 0 0] [Ob.box [(str n)]]).bind fun rh => bif
  okHeap [Ob.box [(str n)]] rh.2 then bif okRes PP 4 rh.fst then bif rh.fst.val.data.toBool then some (Out.mk (Ex.ret) (([uu, uu, uu, uu, AV.e
  (E.int IntKind.i64 i)] ++ List.replicate 14 uu)) ([Ob.box [(str ((rh.snd.ob 0).cell 0).data.toStr)]]) ([])) else (loop 44 1 lc_44_2 ([AV.e (E.sl 46 xs), AV.clo 70
  [(0, 0)], uu, uu, uu, uu, uu, (num l), (num (IntKind.i64.wrap (i + 1)))] ++ List.replicate 10 uu)
  [Ob.box [(str ((rh.snd.ob 0).cell 0).data.toStr)]]).bind fun o => some o else none else none else none else some (Out.mk (Ex.exit 0) ((List.replicate 19 uu))
  ([Ob.box [(str n)]]) ([])) := by kernel_rfl
theorem eq_idxFC (run : RunF) (loop : LoopF) (n : List UInt8) (s f : List UInt8) (m : Int) (vs : List E) : bodyRun PP HH run loop none 70 [.agg [.e (.str s), .e
  (.str f), .e (.int .i64 m), .e (.sl 31 vs)], .ptr 0 0] [.box [.e (.str n)]] = some (Res.ret ((yes (strEq s n))), [Ob.box [(str n)]]) := by kernel_rfl
end Go.Proofs.YtapndkailgcboaaGreatDoor
