/- The equations of functions, as a program of mine prints them. -/
import Derived.Test.YtghdhhmlmdohkaaGreatDoorBase
namespace Go.Proofs.YtghdhhmlmdohkaaGreatDoor
open Go Go.Den
set_option maxRecDepth 100000
set_option maxHeartbeats 0

theorem eq_need (run : RunF) (loop : LoopF) (p0_0 : List UInt8) (p0_1 : Int) (a1 : List UInt8) : bodyRun PP HH run loop none 133 [.ptr 0 0, .e (.str a1)] [.box [.e
  (.str p0_0), .e (.int .i64 p0_1)]] = (loop 133 1 lc_133_1 ([AV.ptr 0 0, (str a1), uu, uu, uu, uu, (num (↑a1.length : Int)), AV.e
  (E.int IntKind.i64 0)] ++ List.replicate 14 uu) [Ob.box [(str p0_0), (num p0_1)]]).bind fun o => bif o.ex.isWay (Way.exit 0) then bif okFr
  (List.replicate 22 uu) o.2 && okHeap [Ob.box [(str []), (num 0)]] o.3 then some (Res.ret (AV.tup []), [Ob.box [(str ((o.hp.ob 0).cell
  0).data.toStr), (num ((o.hp.ob 0).cell 1).data.toInt)]]) else none else bif o.ex.isWay Way.pan then bif okFr (List.replicate 22 uu) o.2 && okHeap [Ob.box
  [(str []), (num 0)]] o.3 then some (Res.pan o.ex.why, [Ob.box [(str ((o.hp.ob 0).cell 0).data.toStr), (num ((o.hp.ob 0).cell
  1).data.toInt)]]) else none else none := by kernel_rfl
theorem eq_needL1 (run : RunF) (loop : LoopF) (p0_0 : List UInt8) (p0_1 : Int) (t1 : List UInt8) (t6 : Int) (t7 : Int) : bodyLoop PP HH run loop 133 1 lc_133_1
  (((((List.replicate 22 uu).set 0 (.ptr 0 0)).set 1 (.e (.str t1))).set 6 (.e (.int .i64 t6))).set 7 (.e (.int .i64 t7))) [.box [.e (.str p0_0), .e (.int .i64 p0_1)]] = bif
  decide (t7 < t6) then bif decide (0 ≤ t7) && decide (t7 < (↑t1.length : Int)) then bif decide (0 ≤ p0_1) then bif !pk p0_0 p0_1 == (↑(t1.getD t7.toNat 0).toNat : Int) then some
  (Out.mk (Ex.pan (E.ifc 150 (E.agg [E.int IntKind.i64 2, E.int IntKind.i64 p0_1].reverse))) ((List.replicate 22 uu)) ([Ob.box [(str p0_0), AV.e (E.int IntKind.i64
  p0_1)]]) ([])) else (loop 133 1 lc_133_1 ([AV.ptr 0 0, (str t1), uu, uu, uu, uu, (num t6), AV.e (E.int IntKind.i64
  (IntKind.i64.wrap (t7 + 1)))] ++ List.replicate 14 uu) [Ob.box [(str p0_0), (num (IntKind.i64.wrap (p0_1 + 1)))]]).bind fun o => some o else none
  else none else some (Out.mk (Ex.exit 0) ((List.replicate 22 uu)) ([Ob.box [(str p0_0), (num p0_1)]]) ([])) := by kernel_rfl
theorem eq_number (run : RunF) (loop : LoopF) (p0_0 : List UInt8) (p0_1 : Int) : bodyRun PP HH run loop none 144 [.ptr 0 0] [.box [.e (.str p0_0), .e (.int .i64
  p0_1)]] = bif decide (0 ≤ p0_1) then bif !pk p0_0 p0_1 == 45 then bif decide (0 ≤ p0_1) then bif !pk p0_0 p0_1 == 48 then bif decide (0 ≤ p0_1) then (loop 144 1 lc_144_9 ([AV.ptr
  0 0, uu, uu, (num p0_1), (yes false), (num 0), (yes false), (yes false), AV.e (E.int IntKind.u8 (pk p0_0
  p0_1))] ++ List.replicate 62 uu) [Ob.box [(str p0_0), (num p0_1)]]).bind fun o => bif o.ex.isWay (Way.exit 0) then bif okFr ([AV.ptr 0 0,
  uu, uu, (num 0), (yes false), (num 0), (yes false), (yes false)] ++ List.replicate 63 uu) o.2 &&
  okHeap [Ob.box [(str []), (num 0)]] o.3 then bif !(List.getD o.fr 7 uu).data.toBool then some (Res.pan (E.ifc 150 (E.agg [E.int IntKind.i64 2,
  E.int IntKind.i64 ((o.hp.ob 0).cell 1).data.toInt].reverse)), [Ob.box [(str ((o.hp.ob 0).cell 0).data.toStr), (num ((o.hp.ob 0).cell 1).data.toInt)]])
  else bif (List.getD o.fr 6 uu).data.toBool then some (Res.pan (E.ifc 150 (E.agg [E.int IntKind.i64 1, E.int IntKind.i64 (List.getD o.fr 3 uu).data.toInt].reverse)),
  [Ob.box [(str ((o.hp.ob 0).cell 0).data.toStr), (num ((o.hp.ob 0).cell 1).data.toInt)]]) else bif (List.getD o.fr 4 uu).data.toBool then some
  (Res.ret ((num (IntKind.i64.wrap (0 - (List.getD o.fr 5 uu).data.toInt)))), [Ob.box [(str ((o.hp.ob 0).cell 0).data.toStr), AV.e (E.int
  IntKind.i64 ((o.hp.ob 0).cell 1).data.toInt)]]) else some (Res.ret ((num (List.getD o.fr 5 uu).data.toInt)), [Ob.box [(str ((o.hp.ob 0).cell
  0).data.toStr), (num ((o.hp.ob 0).cell 1).data.toInt)]]) else none else none else none else some (Res.ret ((num 0)), [Ob.box [AV.e (E.str
  p0_0), (num (IntKind.i64.wrap (p0_1 + 1)))]]) else none else bif decide (0 ≤ IntKind.i64.wrap (p0_1 + 1)) then bif !pk p0_0 (IntKind.i64.wrap (p0_1 + 1)) == 48
  then bif decide (0 ≤ IntKind.i64.wrap (p0_1 + 1)) then (loop 144 1 lc_144_9 ([AV.ptr 0 0, uu, uu, (num p0_1), (yes true), AV.e (E.int
  IntKind.i64 0), (yes false), (yes false), AV.e (E.int IntKind.u8 (pk p0_0 (IntKind.i64.wrap (p0_1 + 1))))] ++ List.replicate 62 uu) [Ob.box [AV.e (E.str
  p0_0), (num (IntKind.i64.wrap (p0_1 + 1)))]]).bind fun o => bif o.ex.isWay (Way.exit 0) then bif okFr ([AV.ptr 0 0, uu, uu, AV.e (E.int IntKind.i64
  0), (yes false), (num 0), (yes false), (yes false)] ++ List.replicate 63 uu) o.2 && okHeap [Ob.box [(str []), AV.e (E.int
  IntKind.i64 0)]] o.3 then bif !(List.getD o.fr 7 uu).data.toBool then some (Res.pan (E.ifc 150 (E.agg [E.int IntKind.i64 2, E.int IntKind.i64 ((o.hp.ob 0).cell
  1).data.toInt].reverse)), [Ob.box [(str ((o.hp.ob 0).cell 0).data.toStr), (num ((o.hp.ob 0).cell 1).data.toInt)]]) else bif (List.getD o.fr 6
  uu).data.toBool then some (Res.pan (E.ifc 150 (E.agg [E.int IntKind.i64 1, E.int IntKind.i64 (List.getD o.fr 3 uu).data.toInt].reverse)), [Ob.box [AV.e (E.str
  ((o.hp.ob 0).cell 0).data.toStr), (num ((o.hp.ob 0).cell 1).data.toInt)]]) else bif (List.getD o.fr 4 uu).data.toBool then some (Res.ret (AV.e (E.int
  IntKind.i64 (IntKind.i64.wrap (0 - (List.getD o.fr 5 uu).data.toInt)))), [Ob.box [(str ((o.hp.ob 0).cell 0).data.toStr), (num ((o.hp.ob 0).cell
  1).data.toInt)]]) else some (Res.ret ((num (List.getD o.fr 5 uu).data.toInt)), [Ob.box [(str ((o.hp.ob 0).cell 0).data.toStr), AV.e (E.int
  IntKind.i64 ((o.hp.ob 0).cell 1).data.toInt)]]) else none else none else none else some (Res.pan (E.ifc 150 (E.agg [E.int IntKind.i64 2, E.int IntKind.i64 (IntKind.i64.wrap
  (IntKind.i64.wrap (IntKind.i64.wrap (p0_1 + 1) + 1) - 1))].reverse)), [Ob.box [(str p0_0), (num (IntKind.i64.wrap (IntKind.i64.wrap (p0_1 + 1) + 1)))]])
  else none else none := by kernel_rfl
theorem eq_numberL9 (run : RunF) (loop : LoopF) (p0_0 : List UInt8) (p0_1 : Int) (t3 : Int) (t4 : Bool) (t5 : Int) (t6 : Bool) (t7 : Bool) (t8 : Int) : bodyLoop PP
  HH run loop 144 1 lc_144_9 ((((((((List.replicate 71 uu).set 0 (.ptr 0 0)).set 3 (.e (.int .i64 t3))).set 4 (.e (.bool t4))).set 5 (.e (.int .i64 t5))).set 6 (.e (.bool
  t6))).set 7 (.e (.bool t7))).set 8 (.e (.int .u8 t8))) [.box [.e (.str p0_0), .e (.int .i64 p0_1)]] = bif bif decide (48 ≤ t8) then decide (t8 ≤ 57) else false then bif t6 ==
  false then bif decide (IntKind.i64.wrap ((IntKind.i64.wrap (4611686018427387904 - IntKind.i64.wrap (IntKind.u8.wrap (t8 - 48)))).tdiv 10) < t5) then bif decide (0 ≤
  IntKind.i64.wrap (p0_1 + 1)) then (loop 144 1 lc_144_9 ([AV.ptr 0 0, uu, uu, (num t3), (yes t4), (num t5), AV.e (E.bool
  true), (yes true), AV.e (E.int IntKind.u8 (pk p0_0 (IntKind.i64.wrap (p0_1 + 1))))] ++ List.replicate 62 uu) [Ob.box [(str p0_0), AV.e (E.int IntKind.i64
  (IntKind.i64.wrap (p0_1 + 1)))]]).bind fun o => some o else none else bif decide (0 ≤ IntKind.i64.wrap (p0_1 + 1)) then (loop 144 1 lc_144_9 ([AV.ptr 0 0, uu, uu,
  (num t3), (yes t4), (num (IntKind.i64.wrap (IntKind.i64.wrap (10 * t5) + IntKind.i64.wrap (IntKind.u8.wrap (t8 - 48))))), AV.e
  (E.bool t6), (yes true), AV.e (E.int IntKind.u8 (pk p0_0 (IntKind.i64.wrap (p0_1 + 1))))] ++ List.replicate 62 uu) [Ob.box [(str p0_0), AV.e (E.int
  IntKind.i64 (IntKind.i64.wrap (p0_1 + 1)))]]).bind fun o => some o else none else bif decide (0 ≤ IntKind.i64.wrap (p0_1 + 1)) then (loop 144 1 lc_144_9 ([AV.ptr 0 0, uu,
  uu, (num t3), (yes t4), (num t5), (yes true), (yes true), AV.e (E.int IntKind.u8 (pk p0_0 (IntKind.i64.wrap
  (p0_1 + 1))))] ++ List.replicate 62 uu) [Ob.box [(str p0_0), (num (IntKind.i64.wrap (p0_1 + 1)))]]).bind fun o => some o else none else some
  (Out.mk (Ex.exit 0) (([AV.ptr 0 0, uu, uu, (num t3), (yes t4), (num t5), (yes t6), (yes t7)] ++
  List.replicate 63 uu)) ([Ob.box [(str p0_0), (num p0_1)]]) ([])) := by kernel_rfl
theorem eq_name (run : RunF) (loop : LoopF) (p0_0 : List UInt8) (p0_1 : Int) : bodyRun PP HH run loop none 135 [.ptr 0 0] [.box [.e (.str p0_0), .e (.int .i64
  p0_1)]] = bif decide (0 ≤ p0_1) then bif !bif decide (97 ≤ pk p0_0 p0_1) then decide (pk p0_0 p0_1 ≤ 122) else false then some (Res.pan (E.ifc 150 (E.agg [E.int IntKind.i64 2,
  E.int IntKind.i64 p0_1].reverse)), [Ob.box [(str p0_0), (num p0_1)]]) else bif decide (0 ≤ p0_1) then (loop 135 1 lc_135_5 ([AV.ptr 0 0, uu,
  uu, (num p0_1), AV.e (E.int IntKind.u8 (pk p0_0 p0_1))] ++ List.replicate 48 uu) [Ob.box [(str p0_0), (num p0_1)]]).bind
  fun o => bif o.ex.isWay (Way.exit 0) then bif okFr ([AV.ptr 0 0, uu, uu, (num 0)] ++ List.replicate 49 uu) o.2 && okHeap [Ob.box [AV.e (E.str
  []), (num 0)]] o.3 then bif decide (0 ≤ (List.getD o.fr 3 uu).data.toInt) && decide ((List.getD o.fr 3 uu).data.toInt ≤ ((o.hp.ob 0).cell
  1).data.toInt) && decide (((o.hp.ob 0).cell 1).data.toInt ≤ (↑((o.hp.ob 0).cell 0).data.toStr.length : Int)) then some (Res.ret ((str (List.drop (List.getD o.fr 3
  uu).data.toInt.toNat (List.take ((o.hp.ob 0).cell 1).data.toInt.toNat ((o.hp.ob 0).cell 0).data.toStr)))), [Ob.box [(str ((o.hp.ob 0).cell 0).data.toStr), AV.e
  (E.int IntKind.i64 ((o.hp.ob 0).cell 1).data.toInt)]]) else none else none else none else none else none := by kernel_rfl
theorem eq_nameL5 (run : RunF) (loop : LoopF) (p0_0 : List UInt8) (p0_1 : Int) (t3 : Int) (t4 : Int) : bodyLoop PP HH run loop 135 1 lc_135_5 ((((List.replicate 53
  uu).set 0 (.ptr 0 0)).set 3 (.e (.int .i64 t3))).set 4 (.e (.int .u8 t4))) [.box [.e (.str p0_0), .e (.int .i64 p0_1)]] = bif (bif decide (97 ≤ t4) then decide (t4 ≤ 122)
  else false) == false then bif decide (48 ≤ t4) == true then bif bif decide (t4 ≤ 57) then true else t4 == 45 then bif decide (0 ≤ IntKind.i64.wrap (p0_1 + 1)) then (loop 135 1
  lc_135_5 ([AV.ptr 0 0, uu, uu, (num t3), AV.e (E.int IntKind.u8 (pk p0_0 (IntKind.i64.wrap (p0_1 + 1))))] ++ List.replicate 48 uu) [Ob.box
  [(str p0_0), (num (IntKind.i64.wrap (p0_1 + 1)))]]).bind fun o => some o else none else some (Out.mk (Ex.exit 0) (([AV.ptr 0 0, uu, uu, AV.e
  (E.int IntKind.i64 t3)] ++ List.replicate 49 uu)) ([Ob.box [(str p0_0), (num p0_1)]]) ([])) else bif t4 == 45 then bif decide (0 ≤
  IntKind.i64.wrap (p0_1 + 1)) then (loop 135 1 lc_135_5 ([AV.ptr 0 0, uu, uu, (num t3), AV.e (E.int IntKind.u8 (pk p0_0 (IntKind.i64.wrap (p0_1 +
  1))))] ++ List.replicate 48 uu) [Ob.box [(str p0_0), (num (IntKind.i64.wrap (p0_1 + 1)))]]).bind fun o => some o else none else some (Out.mk
  (Ex.exit 0) (([AV.ptr 0 0, uu, uu, (num t3)] ++ List.replicate 49 uu)) ([Ob.box [(str p0_0), (num p0_1)]]) ([]))
  else bif decide (0 ≤ IntKind.i64.wrap (p0_1 + 1)) then (loop 135 1 lc_135_5 ([AV.ptr 0 0, uu, uu, (num t3), AV.e (E.int IntKind.u8 (pk p0_0
  (IntKind.i64.wrap (p0_1 + 1))))] ++ List.replicate 48 uu) [Ob.box [(str p0_0), (num (IntKind.i64.wrap (p0_1 + 1)))]]).bind fun o => some o else
  none := by kernel_rfl
theorem eq_rescueN (run : RunF) (loop : LoopF) (p0_0 : Int) (p1_0 : Int) : bodyRun PP HH run loop (some none) 87 [.ptr 0 0, .ptr 1 0] [.box [.e (.int .i64 p0_0)],
  .box [.e (.int .i64 p1_0)]] = some (Res.ret (AV.tup []), [Ob.box [(num p0_0)], Ob.box [(num p1_0)]]) := by kernel_rfl
theorem eq_rescueP (run : RunF) (loop : LoopF) (p0_0 : Int) (p1_0 : Int) (fa fe : Int) : bodyRun PP HH run loop (some (some (.ifc 150 (.agg [.int .i64 fa, .int
  .i64 fe])))) 87 [.ptr 0 0, .ptr 1 0] [.box [.e (.int .i64 p0_0)], .box [.e (.int .i64 p1_0)]] = some (Res.rcv (AV.tup []), [Ob.box [(num fa)], Ob.box [AV.e
  (E.int IntKind.i64 fe)]]) := by kernel_rfl

end Go.Proofs.YtghdhhmlmdohkaaGreatDoor
