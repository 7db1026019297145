/- The equations of functions, as a program of mine prints them. -/
import Derived.Test.YtghdhhmlmdohkaaGreatDoorBase
namespace Go.Proofs.YtghdhhmlmdohkaaGreatDoor
open Go Go.Den
set_option maxRecDepth 100000
set_option maxHeartbeats 0

theorem eq_rword (run : RunF) (loop : LoopF) (p0_0 : List UInt8) (p0_1 : Int) (p0_2 : Int) (p0_3 : Int) (a1 : List UInt8) : bodyRun PP HH run loop none 91 [.ptr 0
  0, .e (.str a1)] [.box [.e (.str p0_0), .e (.int .i64 p0_1), .e (.int .i64 p0_2), .e (.int .i64 p0_3)]] = (loop 91 1 lc_91_1 ([AV.ptr 0 0, (str a1), uu, uu,
  (num 0)] ++ List.replicate 29 uu) [Ob.box [(str p0_0), (num p0_1), (num p0_2), AV.e (E.int IntKind.i64
  p0_3)]]).bind fun o => bif o.ex.isWay (Way.exit 0) then bif okFr (List.replicate 34 uu) o.2 && okHeap [Ob.box [(str []), (num 0), AV.e (E.int
  IntKind.i64 0), (num 0)]] o.3 then some (Res.ret (AV.tup []), [Ob.box [(str ((o.hp.ob 0).cell 0).data.toStr), (num ((o.hp.ob 0).cell
  1).data.toInt), (num ((o.hp.ob 0).cell 2).data.toInt), (num ((o.hp.ob 0).cell 3).data.toInt)]]) else none else bif o.ex.isWay Way.ret then
  bif okFr (List.replicate 34 uu) o.2 && okHeap [Ob.box [(str []), (num 0), (num 0), (num 0)]] o.3 then some
  (Res.ret (AV.tup []), [Ob.box [(str ((o.hp.ob 0).cell 0).data.toStr), (num ((o.hp.ob 0).cell 1).data.toInt), (num ((o.hp.ob 0).cell
  2).data.toInt), (num ((o.hp.ob 0).cell 3).data.toInt)]]) else none else none := by kernel_rfl
theorem eq_rwordL1 (run : RunF) (loop : LoopF) (p0_0 : List UInt8) (p0_1 : Int) (p0_2 : Int) (p0_3 : Int) (t1 : List UInt8) (t4 : Int) : bodyLoop PP HH run loop 91
  1 lc_91_1 ((((List.replicate 34 uu).set 0 (.ptr 0 0)).set 1 (.e (.str t1))).set 4 (.e (.int .i64 t4))) [.box [.e (.str p0_0), .e (.int .i64 p0_1), .e (.int .i64 p0_2), .e
  (.int .i64 p0_3)]] = bif decide (t4 < (↑t1.length : Int)) == true then bif p0_2 == 0 then bif decide (0 ≤ t4) && decide (t4 < (↑t1.length : Int)) then bif decide (0 ≤ p0_1) then
  bif !(decide (p0_1 < (↑p0_0.length : Int)) && pk p0_0 p0_1 == (↑(t1.getD t4.toNat 0).toNat : Int)) then some (Out.mk (Ex.ret) ((List.replicate 34 uu)) ([Ob.box [AV.e (E.str
  p0_0), (num p0_1), (num (bif p0_2 == 0 then 2 else p0_2)), (num (bif p0_2 == 0 then p0_1 else p0_3))]]) ([])) else (loop
  91 1 lc_91_1 ([AV.ptr 0 0, (str t1), uu, uu, (num (IntKind.i64.wrap (t4 + 1)))] ++ List.replicate 29 uu) [Ob.box [(str p0_0),
  (num (IntKind.i64.wrap (p0_1 + 1))), (num p0_2), (num p0_3)]]).bind fun o => some o else none else none else some (Out.mk
  (Ex.exit 0) ((List.replicate 34 uu)) ([Ob.box [(str p0_0), (num p0_1), (num p0_2), (num p0_3)]]) ([])) else
  some (Out.mk (Ex.exit 0) ((List.replicate 34 uu)) ([Ob.box [(str p0_0), (num p0_1), (num p0_2), AV.e (E.int IntKind.i64
  p0_3)]]) ([])) := by kernel_rfl
theorem eq_rnumber (run : RunF) (loop : LoopF) (p0_0 : List UInt8) (p0_1 : Int) (p0_2 : Int) (p0_3 : Int) : bodyRun PP HH run loop none 153 [.ptr 0 0] [.box [.e
  (.str p0_0), .e (.int .i64 p0_1), .e (.int .i64 p0_2), .e (.int .i64 p0_3)]] = bif decide (0 ≤ p0_1) then bif decide (p0_1 < (↑p0_0.length : Int)) && pk p0_0 p0_1 == 45 then bif
  decide (0 ≤ IntKind.i64.wrap (p0_1 + 1)) then bif (!(decide (48 ≤ pk p0_0 (IntKind.i64.wrap (p0_1 + 1))) && decide (pk p0_0 (IntKind.i64.wrap (p0_1 + 1)) ≤ 57))) == false then
  bif (decide (p0_1 < (↑p0_0.length : Int)) && pk p0_0 p0_1 == 45) == true then bif decide (0 ≤ IntKind.i64.wrap (p0_1 + 1)) then bif decide (IntKind.i64.wrap (p0_1 + 1) <
  (↑p0_0.length : Int)) && pk p0_0 (IntKind.i64.wrap (p0_1 + 1)) == 48 then some (Res.ret ((num 0)), [Ob.box [(str p0_0), AV.e (E.int IntKind.i64
  (IntKind.i64.wrap (p0_1 + 1))), (num (bif p0_2 == 0 then 2 else p0_2)), (num (bif p0_2 == 0 then IntKind.i64.wrap (p0_1 + 1) else p0_3))]])
  else bif decide (0 ≤ IntKind.i64.wrap (p0_1 + 1)) then (loop 153 1 lc_153_10 ([AV.ptr 0 0, uu, uu, (num p0_1), (yes (decide (p0_1 <
  (↑p0_0.length : Int)) && pk p0_0 p0_1 == 45)), (num 0), (yes (decide (IntKind.i64.wrap (p0_1 + 1) < (↑p0_0.length : Int)) && pk p0_0 (IntKind.i64.wrap
  (p0_1 + 1)) == 48))] ++ List.replicate 80 uu) [Ob.box [(str p0_0), (num (IntKind.i64.wrap (p0_1 + 1))), (num p0_2), AV.e (E.int
  IntKind.i64 p0_3)]]).bind fun o => bif o.ex.isWay (Way.exit 0) then bif okFr ([AV.ptr 0 0, uu, uu, (num 0), (yes false), AV.e (E.int
  IntKind.i64 0)] ++ List.replicate 81 uu) o.2 && okHeap [Ob.box [(str []), (num 0), (num 0), (num 0)]] o.3
  then bif decide (4611686018427387904 < (List.getD o.fr 5 uu).data.toInt) then some (Res.ret ((num 0)), [Ob.box [(str ((o.hp.ob 0).cell
  0).data.toStr), (num ((o.hp.ob 0).cell 1).data.toInt), (num (bif ((o.hp.ob 0).cell 2).data.toInt == 0 then 1 else ((o.hp.ob 0).cell
  2).data.toInt)), (num (bif ((o.hp.ob 0).cell 2).data.toInt == 0 then (List.getD o.fr 3 uu).data.toInt else ((o.hp.ob 0).cell 3).data.toInt))]]) else bif
  (List.getD o.fr 4 uu).data.toBool then some (Res.ret ((num (IntKind.i64.wrap (0 - (List.getD o.fr 5 uu).data.toInt)))), [Ob.box [AV.e (E.str
  ((o.hp.ob 0).cell 0).data.toStr), (num ((o.hp.ob 0).cell 1).data.toInt), (num ((o.hp.ob 0).cell 2).data.toInt), AV.e (E.int IntKind.i64
  ((o.hp.ob 0).cell 3).data.toInt)]]) else some (Res.ret ((num (List.getD o.fr 5 uu).data.toInt)), [Ob.box [(str ((o.hp.ob 0).cell 0).data.toStr),
  (num ((o.hp.ob 0).cell 1).data.toInt), (num ((o.hp.ob 0).cell 2).data.toInt), (num ((o.hp.ob 0).cell 3).data.toInt)]])
  else none else none else none else none else bif decide (0 ≤ IntKind.i64.wrap (p0_1 + 1)) then (loop 153 1 lc_153_10 ([AV.ptr 0 0, uu, uu, AV.e (E.int IntKind.i64
  p0_1), (yes (decide (p0_1 < (↑p0_0.length : Int)) && pk p0_0 p0_1 == 45)), (num 0), (yes (decide (IntKind.i64.wrap (p0_1 + 1) < (↑p0_0.length :
  Int)) && pk p0_0 (IntKind.i64.wrap (p0_1 + 1)) == 48))] ++ List.replicate 80 uu) [Ob.box [(str p0_0), (num (IntKind.i64.wrap (p0_1 + 1))), AV.e
  (E.int IntKind.i64 p0_2), (num p0_3)]]).bind fun o => bif o.ex.isWay (Way.exit 0) then bif okFr ([AV.ptr 0 0, uu, uu, (num 0),
  (yes false), (num 0)] ++ List.replicate 81 uu) o.2 && okHeap [Ob.box [(str []), (num 0), (num 0),
  (num 0)]] o.3 then bif decide (4611686018427387904 < (List.getD o.fr 5 uu).data.toInt) then some (Res.ret ((num 0)), [Ob.box [AV.e
  (E.str ((o.hp.ob 0).cell 0).data.toStr), (num ((o.hp.ob 0).cell 1).data.toInt), (num (bif ((o.hp.ob 0).cell 2).data.toInt == 0 then 1 else
  ((o.hp.ob 0).cell 2).data.toInt)), (num (bif ((o.hp.ob 0).cell 2).data.toInt == 0 then (List.getD o.fr 3 uu).data.toInt else ((o.hp.ob 0).cell
  3).data.toInt))]]) else bif (List.getD o.fr 4 uu).data.toBool then some (Res.ret ((num (IntKind.i64.wrap (0 - (List.getD o.fr 5 uu).data.toInt)))),
  [Ob.box [(str ((o.hp.ob 0).cell 0).data.toStr), (num ((o.hp.ob 0).cell 1).data.toInt), (num ((o.hp.ob 0).cell 2).data.toInt), AV.e
  (E.int IntKind.i64 ((o.hp.ob 0).cell 3).data.toInt)]]) else some (Res.ret ((num (List.getD o.fr 5 uu).data.toInt)), [Ob.box [(str ((o.hp.ob
  0).cell 0).data.toStr), (num ((o.hp.ob 0).cell 1).data.toInt), (num ((o.hp.ob 0).cell 2).data.toInt), (num ((o.hp.ob
  0).cell 3).data.toInt)]]) else none else none else none else some (Res.ret ((num 0)), [Ob.box [(str p0_0), (num (IntKind.i64.wrap
  (p0_1 + 1))), (num (bif p0_2 == 0 then 2 else p0_2)), (num (bif p0_2 == 0 then IntKind.i64.wrap (p0_1 + 1) else p0_3))]]) else none else bif
  decide (0 ≤ p0_1) then bif (!(decide (48 ≤ pk p0_0 p0_1) && decide (pk p0_0 p0_1 ≤ 57))) == false then bif (decide (p0_1 < (↑p0_0.length : Int)) && pk p0_0 p0_1 == 45) == true
  then bif decide (0 ≤ p0_1) then bif decide (p0_1 < (↑p0_0.length : Int)) && pk p0_0 p0_1 == 48 then some (Res.ret ((num 0)), [Ob.box [(str p0_0), AV.e
  (E.int IntKind.i64 p0_1), (num (bif p0_2 == 0 then 2 else p0_2)), (num (bif p0_2 == 0 then p0_1 else p0_3))]]) else bif decide (0 ≤ p0_1)
  then (loop 153 1 lc_153_10 ([AV.ptr 0 0, uu, uu, (num p0_1), (yes (decide (p0_1 < (↑p0_0.length : Int)) && pk p0_0 p0_1 == 45)), AV.e
  (E.int IntKind.i64 0), (yes (decide (p0_1 < (↑p0_0.length : Int)) && pk p0_0 p0_1 == 48))] ++ List.replicate 80 uu) [Ob.box [(str p0_0), AV.e (E.int
  IntKind.i64 p0_1), (num p0_2), (num p0_3)]]).bind fun o => bif o.ex.isWay (Way.exit 0) then bif okFr ([AV.ptr 0 0, uu, uu, AV.e
  (E.int IntKind.i64 0), (yes false), (num 0)] ++ List.replicate 81 uu) o.2 && okHeap [Ob.box [(str []), (num 0), AV.e
  (E.int IntKind.i64 0), (num 0)]] o.3 then bif decide (4611686018427387904 < (List.getD o.fr 5 uu).data.toInt) then some (Res.ret (AV.e (E.int IntKind.i64
  0)), [Ob.box [(str ((o.hp.ob 0).cell 0).data.toStr), (num ((o.hp.ob 0).cell 1).data.toInt), (num (bif ((o.hp.ob 0).cell 2).data.toInt
  == 0 then 1 else ((o.hp.ob 0).cell 2).data.toInt)), (num (bif ((o.hp.ob 0).cell 2).data.toInt == 0 then (List.getD o.fr 3 uu).data.toInt else ((o.hp.ob
  0).cell 3).data.toInt))]]) else bif (List.getD o.fr 4 uu).data.toBool then some (Res.ret ((num (IntKind.i64.wrap (0 - (List.getD o.fr 5
  uu).data.toInt)))), [Ob.box [(str ((o.hp.ob 0).cell 0).data.toStr), (num ((o.hp.ob 0).cell 1).data.toInt), (num ((o.hp.ob
  0).cell 2).data.toInt), (num ((o.hp.ob 0).cell 3).data.toInt)]]) else some (Res.ret ((num (List.getD o.fr 5 uu).data.toInt)), [Ob.box
  [(str ((o.hp.ob 0).cell 0).data.toStr), (num ((o.hp.ob 0).cell 1).data.toInt), (num ((o.hp.ob 0).cell 2).data.toInt), AV.e (E.int
  IntKind.i64 ((o.hp.ob 0).cell 3).data.toInt)]]) else none else none else none else none else bif decide (0 ≤ p0_1) then (loop 153 1 lc_153_10 ([AV.ptr 0 0, uu, uu,
  (num p0_1), (yes (decide (p0_1 < (↑p0_0.length : Int)) && pk p0_0 p0_1 == 45)), (num 0), (yes (decide (p0_1 < (↑p0_0.length
  : Int)) && pk p0_0 p0_1 == 48))] ++ List.replicate 80 uu) [Ob.box [(str p0_0), (num p0_1), (num p0_2), AV.e (E.int IntKind.i64
  p0_3)]]).bind fun o => bif o.ex.isWay (Way.exit 0) then bif okFr ([AV.ptr 0 0, uu, uu, (num 0), (yes false), (num 0)] ++
  List.replicate 81 uu) o.2 && okHeap [Ob.box [(str []), (num 0), (num 0), (num 0)]] o.3 then bif decide
  (4611686018427387904 < (List.getD o.fr 5 uu).data.toInt) then some (Res.ret ((num 0)), [Ob.box [(str ((o.hp.ob 0).cell 0).data.toStr), AV.e (E.int
  IntKind.i64 ((o.hp.ob 0).cell 1).data.toInt), (num (bif ((o.hp.ob 0).cell 2).data.toInt == 0 then 1 else ((o.hp.ob 0).cell 2).data.toInt)), AV.e (E.int
  IntKind.i64 (bif ((o.hp.ob 0).cell 2).data.toInt == 0 then (List.getD o.fr 3 uu).data.toInt else ((o.hp.ob 0).cell 3).data.toInt))]]) else bif (List.getD o.fr 4
  uu).data.toBool then some (Res.ret ((num (IntKind.i64.wrap (0 - (List.getD o.fr 5 uu).data.toInt)))), [Ob.box [(str ((o.hp.ob 0).cell
  0).data.toStr), (num ((o.hp.ob 0).cell 1).data.toInt), (num ((o.hp.ob 0).cell 2).data.toInt), (num ((o.hp.ob 0).cell
  3).data.toInt)]]) else some (Res.ret ((num (List.getD o.fr 5 uu).data.toInt)), [Ob.box [(str ((o.hp.ob 0).cell 0).data.toStr), AV.e (E.int
  IntKind.i64 ((o.hp.ob 0).cell 1).data.toInt), (num ((o.hp.ob 0).cell 2).data.toInt), (num ((o.hp.ob 0).cell 3).data.toInt)]]) else none else
  none else none else some (Res.ret ((num 0)), [Ob.box [(str p0_0), (num p0_1), (num (bif p0_2 == 0 then 2 else
  p0_2)), (num (bif p0_2 == 0 then p0_1 else p0_3))]]) else none else none := by kernel_rfl
theorem eq_rnumberL10 (run : RunF) (loop : LoopF) (p0_0 : List UInt8) (p0_1 : Int) (p0_2 : Int) (p0_3 : Int) (t3 : Int) (t4 : Bool) (t5 : Int) (t6 : Bool) : bodyLoop
  PP HH run loop 153 1 lc_153_10 ((((((List.replicate 87 uu).set 0 (.ptr 0 0)).set 3 (.e (.int .i64 t3))).set 4 (.e (.bool t4))).set 5 (.e (.int .i64
  t5))).set 6 (.e (.bool t6))) [.box [.e (.str p0_0), .e (.int .i64 p0_1), .e (.int .i64 p0_2), .e (.int .i64 p0_3)]] = bif decide (0 ≤ p0_1) then bif (decide (48 ≤ pk p0_0 p0_1)
  && decide (pk p0_0 p0_1 ≤ 57)) == true then bif t6 == true then bif !decide (t3 < p0_1) then bif decide (461168601842738790 < t5) then (loop 153 1 lc_153_10 ([AV.ptr 0 0,
  uu, uu, (num t3), (yes t4), (num 4611686018427387905), (yes t6)] ++ List.replicate 80 uu) [Ob.box [AV.e
  (E.str p0_0), (num (IntKind.i64.wrap (p0_1 + 1))), (num p0_2), (num p0_3)]]).bind fun o => some o else bif decide (0 ≤
  p0_1) && decide (p0_1 < (↑p0_0.length : Int)) then bif decide (4611686018427387904 < IntKind.i64.wrap (IntKind.i64.wrap (10 * t5) + IntKind.i64.wrap (IntKind.u8.wrap
  ((↑(p0_0.getD p0_1.toNat 0).toNat : Int) - 48)))) then (loop 153 1 lc_153_10 ([AV.ptr 0 0, uu, uu, (num t3), (yes t4), AV.e (E.int
  IntKind.i64 4611686018427387905), (yes t6)] ++ List.replicate 80 uu) [Ob.box [(str p0_0), (num (IntKind.i64.wrap (p0_1 + 1))), AV.e (E.int
  IntKind.i64 p0_2), (num p0_3)]]).bind fun o => some o else (loop 153 1 lc_153_10 ([AV.ptr 0 0, uu, uu, (num t3), AV.e (E.bool
  t4), (num (IntKind.i64.wrap (IntKind.i64.wrap (10 * t5) + IntKind.i64.wrap (IntKind.u8.wrap ((↑(p0_0.getD p0_1.toNat 0).toNat : Int) - 48))))), AV.e (E.bool
  t6)] ++ List.replicate 80 uu) [Ob.box [(str p0_0), (num (IntKind.i64.wrap (p0_1 + 1))), (num p0_2), AV.e (E.int IntKind.i64
  p0_3)]]).bind fun o => some o else none else some (Out.mk (Ex.exit 0) (([AV.ptr 0 0, uu, uu, (num t3), (yes t4), AV.e (E.int IntKind.i64
  t5)] ++ List.replicate 81 uu)) ([Ob.box [(str p0_0), (num p0_1), (num p0_2), (num p0_3)]]) ([])) else bif
  decide (461168601842738790 < t5) then (loop 153 1 lc_153_10 ([AV.ptr 0 0, uu, uu, (num t3), (yes t4), AV.e (E.int IntKind.i64
  4611686018427387905), (yes t6)] ++ List.replicate 80 uu) [Ob.box [(str p0_0), (num (IntKind.i64.wrap (p0_1 + 1))), AV.e (E.int IntKind.i64
  p0_2), (num p0_3)]]).bind fun o => some o else bif decide (0 ≤ p0_1) && decide (p0_1 < (↑p0_0.length : Int)) then bif decide (4611686018427387904 <
  IntKind.i64.wrap (IntKind.i64.wrap (10 * t5) + IntKind.i64.wrap (IntKind.u8.wrap ((↑(p0_0.getD p0_1.toNat 0).toNat : Int) - 48)))) then (loop 153 1 lc_153_10 ([AV.ptr 0 0,
  uu, uu, (num t3), (yes t4), (num 4611686018427387905), (yes t6)] ++ List.replicate 80 uu) [Ob.box [AV.e
  (E.str p0_0), (num (IntKind.i64.wrap (p0_1 + 1))), (num p0_2), (num p0_3)]]).bind fun o => some o else (loop 153 1
  lc_153_10 ([AV.ptr 0 0, uu, uu, (num t3), (yes t4), (num (IntKind.i64.wrap (IntKind.i64.wrap (10 * t5) +
  IntKind.i64.wrap (IntKind.u8.wrap ((↑(p0_0.getD p0_1.toNat 0).toNat : Int) - 48))))), (yes t6)] ++ List.replicate 80 uu) [Ob.box [(str p0_0), AV.e (E.int
  IntKind.i64 (IntKind.i64.wrap (p0_1 + 1))), (num p0_2), (num p0_3)]]).bind fun o => some o else none else some (Out.mk (Ex.exit 0) (([AV.ptr
  0 0, uu, uu, (num t3), (yes t4), (num t5)] ++ List.replicate 81 uu)) ([Ob.box [(str p0_0), AV.e (E.int
  IntKind.i64 p0_1), (num p0_2), (num p0_3)]]) ([])) else none := by kernel_rfl
theorem eq_rnm (run : RunF) (loop : LoopF) (p0_0 : List UInt8) (p0_1 : Int) (p0_2 : Int) (p0_3 : Int) : bodyRun PP HH run loop none 140 [.ptr 0 0] [.box [.e (.str
  p0_0), .e (.int .i64 p0_1), .e (.int .i64 p0_2), .e (.int .i64 p0_3)]] = bif decide (0 ≤ p0_1) then bif !(decide (97 ≤ pk p0_0 p0_1) && decide (pk p0_0 p0_1 ≤ 122) || !true &&
  (decide (48 ≤ pk p0_0 p0_1) && decide (pk p0_0 p0_1 ≤ 57) || pk p0_0 p0_1 == 45)) then some (Res.ret ((str [])), [Ob.box [(str p0_0), (num p0_1),
  (num (bif p0_2 == 0 then 2 else p0_2)), (num (bif p0_2 == 0 then p0_1 else p0_3))]]) else (loop 140 1 lc_140_5 ([AV.ptr 0 0, uu,
  uu, (num p0_1)] ++ List.replicate 32 uu) [Ob.box [(str p0_0), (num p0_1), (num p0_2), AV.e (E.int
  IntKind.i64 p0_3)]]).bind fun o => bif o.ex.isWay (Way.exit 0) then bif okFr ([AV.ptr 0 0, uu, uu, (num 0)] ++ List.replicate 32 uu) o.2 &&
  okHeap [Ob.box [(str []), (num 0), (num 0), (num 0)]] o.3 then bif decide (0 ≤ (List.getD o.fr 3
  uu).data.toInt) && decide ((List.getD o.fr 3 uu).data.toInt ≤ ((o.hp.ob 0).cell 1).data.toInt) && decide (((o.hp.ob 0).cell 1).data.toInt ≤ (↑((o.hp.ob 0).cell
  0).data.toStr.length : Int)) then some (Res.ret ((str (List.drop (List.getD o.fr 3 uu).data.toInt.toNat (List.take ((o.hp.ob 0).cell 1).data.toInt.toNat ((o.hp.ob
  0).cell 0).data.toStr)))), [Ob.box [(str ((o.hp.ob 0).cell 0).data.toStr), (num ((o.hp.ob 0).cell 1).data.toInt), (num ((o.hp.ob
  0).cell 2).data.toInt), (num ((o.hp.ob 0).cell 3).data.toInt)]]) else none else none else none else none := by kernel_rfl
theorem eq_rnmL5 (run : RunF) (loop : LoopF) (p0_0 : List UInt8) (p0_1 : Int) (p0_2 : Int) (p0_3 : Int) (t3 : Int) : bodyLoop PP HH run loop 140 1 lc_140_5
  (((List.replicate 36 uu).set 0 (.ptr 0 0)).set 3 (.e (.int .i64 t3))) [.box [.e (.str p0_0), .e (.int .i64 p0_1), .e (.int .i64 p0_2), .e (.int .i64 p0_3)]] = bif decide (0
  ≤ p0_1) then bif decide (97 ≤ pk p0_0 p0_1) && decide (pk p0_0 p0_1 ≤ 122) || !false && (decide (48 ≤ pk p0_0 p0_1) && decide (pk p0_0 p0_1 ≤ 57) || pk p0_0 p0_1 == 45) then
  (loop 140 1 lc_140_5 ([AV.ptr 0 0, uu, uu, (num t3)] ++ List.replicate 32 uu) [Ob.box [(str p0_0), AV.e (E.int IntKind.i64
  (IntKind.i64.wrap (p0_1 + 1))), (num p0_2), (num p0_3)]]).bind fun o => some o else some (Out.mk (Ex.exit 0) (([AV.ptr 0 0, uu,
  uu, (num t3)] ++ List.replicate 32 uu)) ([Ob.box [(str p0_0), (num p0_1), (num p0_2), AV.e (E.int
  IntKind.i64 p0_3)]]) ([])) else none := by kernel_rfl
theorem eq_Same (run : RunF) (loop : LoopF) (a0 : List E) (a1 : List E) : bodyRun PP HH run loop none 49 [.e (.sl 9 a0), .e (.sl 9 a1)] [] = bif !(↑a0.length :
  Int) == (↑a1.length : Int) then some (Res.ret ((yes false)), []) else (loop 49 0 lc_49_4 ([AV.e (E.sl 9 a0), AV.e (E.sl 9 a1), uu, uu, uu, AV.e (E.int
  IntKind.i64 0)] ++ List.replicate 20 uu) []).bind fun o => bif o.ex.isWay (Way.exit 0) then bif okFr (List.replicate 26 uu) o.2 && okHeap [] o.3 then some (Res.ret
  ((yes true)), []) else none else bif o.ex.isWay Way.ret then bif okFr ([uu, uu, uu, uu, (yes false)] ++ List.replicate 21 uu) o.2 &&
  okHeap [] o.3 then some (Res.ret ((yes (List.getD o.fr 4 uu).data.toBool)), []) else none else none := by kernel_rfl
theorem eq_SameL4 (run : RunF) (loop : LoopF) (t0 : List E) (t1 : List E) (t5 : Int) : bodyLoop PP HH run loop 49 0 lc_49_4 ((((List.replicate 26 uu).set 0
  (.e (.sl 9 t0))).set 1 (.e (.sl 9 t1))).set 5 (.e (.int .i64 t5))) [] = bif decide (t5 < (↑t0.length : Int)) then bif decide (0 ≤ t5) && decide (t5 < (↑t0.length : Int)) then bif
  decide (0 ≤ t5) && decide (t5 < (↑t1.length : Int)) then bif !strEq ((t0.getD t5.toNat E.nili).cell 0).toStr ((t1.getD t5.toNat E.nili).cell 0).toStr then some (Out.mk (Ex.ret)
  (([uu, uu, uu, uu, (yes false)] ++ List.replicate 21 uu)) ([]) ([])) else (loop 49 0 lc_49_4 ([AV.e (E.sl 9 t0), AV.e (E.sl 9 t1), uu,
  uu, uu, (num (IntKind.i64.wrap (t5 + 1)))] ++ List.replicate 20 uu) []).bind fun o => some o else none else none else some (Out.mk (Ex.exit
  0) ((List.replicate 26 uu)) ([]) ([])) := by kernel_rfl

end Go.Proofs.YtghdhhmlmdohkaaGreatDoor
