/- The equations of functions, as a program of mine prints them. -/
import Derived.Test.YtghdhhmlmdohkaaGreatDoorBase
namespace Go.Proofs.YtghdhhmlmdohkaaGreatDoor
open Go Go.Den
set_option maxRecDepth 100000
set_option maxHeartbeats 0

theorem eq_need (run : RunF) (loop : LoopF) (p0_0 : List UInt8) (p0_1 : Int) (a1 : List UInt8) : bodyRun PP HH run loop none 133 [.ptr 0 0, .e (.str a1)] [.box [.e
  (.str p0_0), .e (.int .i64 p0_1)]] = (loop 133 1 lc_133_1 ([AV.ptr 0 0, (str a1), uu, uu, uu, uu, (num (↑a1.length : Int)), AV.e
  (E.int IntKind.i64 0)] ++ List.replicate 14 uu) [Ob.box [(str p0_0), (num p0_1)]]).bind fun o => bif o.ex.isWay (Way.exit 0) then bif okFr
  (List.replicate 22 uu) o.2 && okHeap [Ob.box [(str []), (num 0)]] o.3 then some (Res.ret (AV.tup []), [Ob.box [(str ((o.hp.ob 0).cell
  0).data.toStr), (num ((o.hp.ob 0).cell 1).data.toInt)]]) else none else bif o.ex.isWay Way.pan then bif okFr (List.replicate 22 uu) o.2 && okHeap [Ob.box
  [(str []), (num 0)]] o.3 then some (Res.pan o.ex.why, [Ob.box [(str ((o.hp.ob 0).cell 0).data.toStr), (num ((o.hp.ob 0).cell
  1).data.toInt)]]) else none else none := by kernel_rfl
theorem eq_needL1 (run : RunF) (loop : LoopF) (p0_0 : List UInt8) (p0_1 : Int) (t1 : List UInt8) (t6 : Int) (t7 : Int) : bodyLoop PP HH run loop 133 1 lc_133_1
  (((((List.replicate 22 uu).set 0 (.ptr 0 0)).set 1 (.e (.str t1))).set 6 (.e (.int .i64 t6))).set 7 (.e (.int .i64 t7))) [.box [.e (.str p0_0), .e (.int .i64 p0_1)]] = bif
  decide (t7 < t6) then bif decide (0 ≤ t7) && decide (t7 < (↑t1.length : Int)) then bif decide (0 ≤ p0_1) then bif !pk p0_0 p0_1 == (↑(t1.getD t7.toNat 0).toNat : Int) then some
  (Out.mk (Ex.pan (E.ifc 150 (E.agg [E.int IntKind.i64 2, E.int IntKind.i64 p0_1].reverse))) ((List.replicate 22 uu)) ([Ob.box [(str p0_0), AV.e (E.int IntKind.i64
  p0_1)]]) ([])) else (loop 133 1 lc_133_1 ([AV.ptr 0 0, (str t1), uu, uu, uu, uu, (num t6), AV.e (E.int IntKind.i64
  (IntKind.i64.wrap (t7 + 1)))] ++ List.replicate 14 uu) [Ob.box [(str p0_0), (num (IntKind.i64.wrap (p0_1 + 1)))]]).bind fun o => some o else none
  else none else some (Out.mk (Ex.exit 0) ((List.replicate 22 uu)) ([Ob.box [(str p0_0), (num p0_1)]]) ([])) := by kernel_rfl
theorem eq_number (run : RunF) (loop : LoopF) (p0_0 : List UInt8) (p0_1 : Int) : bodyRun PP HH run loop none 144 [.ptr 0 0] [.box [.e (.str p0_0), .e (.int .i64
  p0_1)]] = bif decide (0 ≤ p0_1) then bif !pk p0_0 p0_1 == 45 then bif decide (0 ≤ p0_1) then bif !pk p0_0 p0_1 == 48 then bif decide (0 ≤ p0_1) then (loop 144 1 lc_144_9 ([AV.ptr
  0 0, uu, uu, (num p0_1), (yes false), (num 0), (yes false), (yes false), AV.e (E.int IntKind.u8 (pk p0_0
  p0_1))] ++ List.replicate 62 uu) [Ob.box [(str p0_0), (num p0_1)]]).bind fun o => bif o.ex.isWay (Way.exit 0) then bif okFr ([AV.ptr 0 0,
  uu, uu, (num 0), (yes false), (num 0), (yes false), (yes false)] ++ List.replicate 63 uu) o.2 &&
  okHeap [Ob.box [(str []), (num 0)]] o.3 then bif !(List.getD o.fr 7 uu).data.toBool then some (Res.pan (E.ifc 150 (E.agg [E.int IntKind.i64 2,
  E.int IntKind.i64 ((o.hp.ob 0).cell 1).data.toInt].reverse)), [Ob.box [(str ((o.hp.ob 0).cell 0).data.toStr), (num ((o.hp.ob 0).cell 1).data.toInt)]])
  else bif (List.getD o.fr 6 uu).data.toBool then some (Res.pan (E.ifc 150 (E.agg [E.int IntKind.i64 1, E.int IntKind.i64 (List.getD o.fr 3 uu).data.toInt].reverse)),
  [Ob.box [(str ((o.hp.ob 0).cell 0).data.toStr), (num ((o.hp.ob 0).cell 1).data.toInt)]]) else bif (List.getD o.fr 4 uu).data.toBool then some
  (Res.ret ((num (IntKind.i64.wrap (0 - (List.getD o.fr 5 uu).data.toInt)))), [Ob.box [(str ((o.hp.ob 0).cell 0).data.toStr), AV.e (E.int
  IntKind.i64 ((o.hp.ob 0).cell 1).data.toInt)]]) else some (Res.ret ((num (List.getD o.fr 5 uu).data.toInt)), [Ob.box [(str ((o.hp.ob 0).cell
  0).data.toStr), (num ((o.hp.ob 0).cell 1).data.toInt)]]) else none else none else none else some (Res.ret ((num 0)), [Ob.box [AV.e (E.str
  p0_0), (num (IntKind.i64.wrap (p0_1 + 1)))]]) else none else bif decide (0 ≤ IntKind.i64.wrap (p0_1 + 1)) then bif !pk p0_0 (IntKind.i64.wrap (p0_1 + 1)) == 48
  then bif decide (0 ≤ IntKind.i64.wrap (p0_1 + 1)) then (loop 144 1 lc_144_9 ([AV.ptr 0 0, uu, uu, (num p0_1), (yes true), AV.e (E.int
  IntKind.i64 0), (yes false), (yes false), AV.e (E.int IntKind.u8 (pk p0_0 (IntKind.i64.wrap (p0_1 + 1))))] ++ List.replicate 62 uu) [Ob.box [AV.e (E.str
  p0_0), (num (IntKind.i64.wrap (p0_1 + 1)))]]).bind fun o => bif o.ex.isWay (Way.exit 0) then bif okFr ([AV.ptr 0 0, uu, uu, AV.e (E.int IntKind.i64
  0), (yes false), (num 0), (yes false), (yes false)] ++ List.replicate 63 uu) o.2 && okHeap [Ob.box [(str []), AV.e (E.int
  IntKind.i64 0)]] o.3 then bif !(List.getD o.fr 7 uu).data.toBool then some (Res.pan (E.ifc 150 (E.agg [E.int IntKind.i64 2, E.int IntKind.i64 ((o.hp.ob 0).cell
  1).data.toInt].reverse)), [Ob.box [(str ((o.hp.ob 0).cell 0).data.toStr), (num ((o.hp.ob 0).cell 1).data.toInt)]]) else bif (List.getD o.fr 6
  uu).data.toBool then some (Res.pan (E.ifc 150 (E.agg [E.int IntKind.i64 1, E.int IntKind.i64 (List.getD o.fr 3 uu).data.toInt].reverse)), [Ob.box [AV.e (E.str
  ((o.hp.ob 0).cell 0).data.toStr), (num ((o.hp.ob 0).cell 1).data.toInt)]]) else bif (List.getD o.fr 4 uu).data.toBool then some (Res.ret (AV.e (E.int
  IntKind.i64 (IntKind.i64.wrap (0 - (List.getD o.fr 5 uu).data.toInt)))), [Ob.box [(str ((o.hp.ob 0).cell 0).data.toStr), (num ((o.hp.ob 0).cell
  1).data.toInt)]]) else some (Res.ret ((num (List.getD o.fr 5 uu).data.toInt)), [Ob.box [(str ((o.hp.ob 0).cell 0).data.toStr), AV.e (E.int
  IntKind.i64 ((o.hp.ob 0).cell 1).data.toInt)]]) else none else none else none else some (Res.pan (E.ifc 150 (E.agg [E.int IntKind.i64 2, E.int IntKind.i64 (IntKind.i64.wrap
  (IntKind.i64.wrap (IntKind.i64.wrap (p0_1 + 1) + 1) - 1))].reverse)), [Ob.box [(str p0_0), (num (IntKind.i64.wrap (IntKind.i64.wrap (p0_1 + 1) + 1)))]])
  else none else none := by kernel_rfl
theorem eq_numberL9 (run : RunF) (loop : LoopF) (p0_0 : List UInt8) (p0_1 : Int) (t3 : Int) (t4 : Bool) (t5 : Int) (t6 : Bool) (t7 : Bool) (t8 : Int) : bodyLoop PP
  HH run loop 144 1 lc_144_9 ((((((((List.replicate 71 uu).set 0 (.ptr 0 0)).set 3 (.e (.int .i64 t3))).set 4 (.e (.bool t4))).set 5 (.e (.int .i64 t5))).set 6 (.e (.bool
  t6))).set 7 (.e (.bool t7))).set 8 (.e (.int .u8 t8))) [.box [.e (.str p0_0), .e (.int .i64 p0_1)]] = bif bif decide (48 ≤ t8) then decide (t8 ≤ 57) else false then bif t6 ==
  false then bif decide (IntKind.i64.wrap ((IntKind.i64.wrap (4611686018427387904 - IntKind.i64.wrap (IntKind.u8.wrap (t8 - 48)))).tdiv 10) < t5) then bif decide (0 ≤
  IntKind.i64.wrap (p0_1 + 1)) then (loop 144 1 lc_144_9 ([AV.ptr 0 0, uu, uu, (num t3), (yes t4), (num t5), AV.e (E.bool
  true), (yes true), AV.e (E.int IntKind.u8 (pk p0_0 (IntKind.i64.wrap (p0_1 + 1))))] ++ List.replicate 62 uu) [Ob.box [(str p0_0), AV.e (E.int IntKind.i64
  (IntKind.i64.wrap (p0_1 + 1)))]]).bind fun o => some o else none else bif decide (0 ≤ IntKind.i64.wrap (p0_1 + 1)) then (loop 144 1 lc_144_9 ([AV.ptr 0 0, uu, uu,
  (num t3), (yes t4), (num (IntKind.i64.wrap (IntKind.i64.wrap (10 * t5) + IntKind.i64.wrap (IntKind.u8.wrap (t8 - 48))))), AV.e
  (E.bool t6), (yes true), AV.e (E.int IntKind.u8 (pk p0_0 (IntKind.i64.wrap (p0_1 + 1))))] ++ List.replicate 62 uu) [Ob.box [(str p0_0), AV.e (E.int
  IntKind.i64 (IntKind.i64.wrap (p0_1 + 1)))]]).bind fun o => some o else none else bif decide (0 ≤ IntKind.i64.wrap (p0_1 + 1)) then (loop 144 1 lc_144_9 ([AV.ptr 0 0, uu,
  uu, (num t3), (yes t4), (num t5), (yes true), (yes true), AV.e (E.int IntKind.u8 (pk p0_0 (IntKind.i64.wrap
  (p0_1 + 1))))] ++ List.replicate 62 uu) [Ob.box [(str p0_0), (num (IntKind.i64.wrap (p0_1 + 1)))]]).bind fun o => some o else none else some
  (Out.mk (Ex.exit 0) (([AV.ptr 0 0, uu, uu, (num t3), (yes t4), (num t5), (yes t6), (yes t7)] ++
  List.replicate 63 uu)) ([Ob.box [(str p0_0), (num p0_1)]]) ([])) := by kernel_rfl
theorem eq_name (run : RunF) (loop : LoopF) (p0_0 : List UInt8) (p0_1 : Int) : bodyRun PP HH run loop none 135 [.ptr 0 0] [.box [.e (.str p0_0), .e (.int .i64
  p0_1)]] = bif decide (0 ≤ p0_1) then bif !bif decide (97 ≤ pk p0_0 p0_1) then decide (pk p0_0 p0_1 ≤ 122) else false then some (Res.pan (E.ifc 150 (E.agg [E.int IntKind.i64 2,
  E.int IntKind.i64 p0_1].reverse)), [Ob.box [(str p0_0), (num p0_1)]]) else bif decide (0 ≤ p0_1) then (loop 135 1 lc_135_5 ([AV.ptr 0 0, uu,
  uu, (num p0_1), AV.e (E.int IntKind.u8 (pk p0_0 p0_1))] ++ List.replicate 48 uu) [Ob.box [(str p0_0), (num p0_1)]]).bind
  fun o => bif o.ex.isWay (Way.exit 0) then bif okFr ([AV.ptr 0 0, uu, uu, (num 0)] ++ List.replicate 49 uu) o.2 && okHeap [Ob.box [AV.e (E.str
  []), (num 0)]] o.3 then bif decide (0 ≤ (List.getD o.fr 3 uu).data.toInt) && decide ((List.getD o.fr 3 uu).data.toInt ≤ ((o.hp.ob 0).cell
  1).data.toInt) && decide (((o.hp.ob 0).cell 1).data.toInt ≤ (↑((o.hp.ob 0).cell 0).data.toStr.length : Int)) then some (Res.ret ((str (List.drop (List.getD o.fr 3
  uu).data.toInt.toNat (List.take ((o.hp.ob 0).cell 1).data.toInt.toNat ((o.hp.ob 0).cell 0).data.toStr)))), [Ob.box [(str ((o.hp.ob 0).cell 0).data.toStr), AV.e
  (E.int IntKind.i64 ((o.hp.ob 0).cell 1).data.toInt)]]) else none else none else none else none else none := by kernel_rfl
theorem eq_nameL5 (run : RunF) (loop : LoopF) (p0_0 : List UInt8) (p0_1 : Int) (t3 : Int) (t4 : Int) : bodyLoop PP HH run loop 135 1 lc_135_5 ((((List.replicate 53
  uu).set 0 (.ptr 0 0)).set 3 (.e (.int .i64 t3))).set 4 (.e (.int .u8 t4))) [.box [.e (.str p0_0), .e (.int .i64 p0_1)]] = bif (bif decide (97 ≤ t4) then decide (t4 ≤ 122)
  else false) == false then bif decide (48 ≤ t4) == true then bif bif decide (t4 ≤ 57) then true else t4 == 45 then bif decide (0 ≤ IntKind.i64.wrap (p0_1 + 1)) then (loop 135 1
  lc_135_5 ([AV.ptr 0 0, uu, uu, (num t3), AV.e (E.int IntKind.u8 (pk p0_0 (IntKind.i64.wrap (p0_1 + 1))))] ++ List.replicate 48 uu) [Ob.box
  [(str p0_0), (num (IntKind.i64.wrap (p0_1 + 1)))]]).bind fun o => some o else none else some (Out.mk (Ex.exit 0) (([AV.ptr 0 0, uu, uu, AV.e
  (E.int IntKind.i64 t3)] ++ List.replicate 49 uu)) ([Ob.box [(str p0_0), (num p0_1)]]) ([])) else bif t4 == 45 then bif decide (0 ≤
  IntKind.i64.wrap (p0_1 + 1)) then (loop 135 1 lc_135_5 ([AV.ptr 0 0, uu, uu, (num t3), AV.e (E.int IntKind.u8 (pk p0_0 (IntKind.i64.wrap (p0_1 +
  1))))] ++ List.replicate 48 uu) [Ob.box [(str p0_0), (num (IntKind.i64.wrap (p0_1 + 1)))]]).bind fun o => some o else none else some (Out.mk
  (Ex.exit 0) (([AV.ptr 0 0, uu, uu, (num t3)] ++ List.replicate 49 uu)) ([Ob.box [(str p0_0), (num p0_1)]]) ([]))
  else bif decide (0 ≤ IntKind.i64.wrap (p0_1 + 1)) then (loop 135 1 lc_135_5 ([AV.ptr 0 0, uu, uu, (num t3), AV.e (E.int IntKind.u8 (pk p0_0
  (IntKind.i64.wrap (p0_1 + 1))))] ++ List.replicate 48 uu) [Ob.box [(str p0_0), (num (IntKind.i64.wrap (p0_1 + 1)))]]).bind fun o => some o else
  none := by kernel_rfl
theorem eq_hex (run : RunF) (loop : LoopF) (p0_0 : List UInt8) (p0_1 : Int) : bodyRun PP HH run loop none 166 [.ptr 0 0] [.box [.e (.str p0_0), .e (.int .i64
  p0_1)]] = bif decide (0 ≤ p0_1) then bif decide (Lib.indexByte ([48, 49, 50, 51, 52, 53, 54, 55, 56, 57, 97, 98, 99, 100, 101, 102] : List UInt8) (pk p0_0 p0_1).toNat.toUInt8 <
  0) then some (Res.pan (E.ifc 150 (E.agg [E.int IntKind.i64 2, E.int IntKind.i64 p0_1].reverse)), [Ob.box [(str p0_0), (num p0_1)]]) else some (Res.ret
  (AV.e (E.int IntKind.u8 (IntKind.u8.wrap (Lib.indexByte ([48, 49, 50, 51, 52, 53, 54, 55, 56, 57, 97, 98, 99, 100, 101, 102] : List UInt8) (pk p0_0 p0_1).toNat.toUInt8)))),
  [Ob.box [(str p0_0), (num (IntKind.i64.wrap (p0_1 + 1)))]]) else none := by kernel_rfl
theorem eq_quoted (run : RunF) (loop : LoopF) (p0_0 : List UInt8) (p0_1 : Int) : bodyRun PP HH run loop none 145 [.ptr 0 0] [.box [.e (.str p0_0), .e (.int .i64
  p0_1)]] = (run none 133 [AV.ptr 0 0, (str [34])] [Ob.box [(str p0_0), (num p0_1)]]).bind fun rh => bif okHeap [Ob.box [(str p0_0), AV.e
  (E.int IntKind.i64 p0_1)]] rh.2 then bif rh.fst.isPan then some (Res.pan rh.fst.why, [Ob.box [(str ((rh.snd.ob 0).cell 0).data.toStr), (num ((rh.snd.ob
  0).cell 1).data.toInt)]]) else bif okRes PP 0 rh.fst then (loop 145 1 lc_145_3 ([AV.ptr 0 0, uu, uu, AV.ptr 1 0] ++ List.replicate 83 uu) [Ob.box [AV.e
  (E.str ((rh.snd.ob 0).cell 0).data.toStr), (num ((rh.snd.ob 0).cell 1).data.toInt)], Ob.box [AV.nsp 1 107, AV.own 2 5 []], Ob.vec 5 0]).bind fun o => bif
  o.ex.isWay (Way.exit 0) then bif okFr ([uu, uu, uu, AV.ptr 1 0] ++ List.replicate 83 uu) o.2 && okHeap [Ob.box [(str []), AV.e (E.int IntKind.i64
  0)], Ob.box [AV.nsp 1 107, AV.own 2 5 []], Ob.vec 5 0] o.3 then bif decide ((o.hp.ob 2).len = ((o.hp.ob 1).cell 1).data.toList.length) && ((o.hp.ob 1).cell 1).data.toList.all
  isByte && decide ((o.hp.ob 2).len ≤ 9223372036854775807) then some (Res.ret ((str (unbytes ((o.hp.ob 1).cell 1).data.toList))), [Ob.box [(str ((o.hp.ob 0).cell
  0).data.toStr), (num ((o.hp.ob 0).cell 1).data.toInt)]]) else none else none else bif o.ex.isWay Way.pan then bif okFr (List.replicate 87 uu) o.2 &&
  okHeap [Ob.box [(str []), (num 0)]] o.3 then some (Res.pan o.ex.why, [Ob.box [(str ((o.hp.ob 0).cell 0).data.toStr), AV.e (E.int IntKind.i64
  ((o.hp.ob 0).cell 1).data.toInt)]]) else none else none else none else none := by kernel_rfl
theorem eq_quotedL3 (run : RunF) (loop : LoopF) (p0_0 : List UInt8) (p0_1 : Int) (t3_1 : List E) : bodyLoop PP HH run loop 145 1 lc_145_3 (((List.replicate 87
  uu).set 0 (.ptr 0 0)).set 3 (.ptr 1 0)) [.box [.e (.str p0_0), .e (.int .i64 p0_1)], .box [.nsp 1 107, .own 2 5 t3_1], .vec 5 t3_1.length] = bif decide (0 ≤ p0_1) then bif
  !pk p0_0 p0_1 == 34 then bif decide (0 ≤ p0_1) then bif bif decide (pk p0_0 p0_1 < 32) then true else decide (126 < pk p0_0 p0_1) then some (Out.mk (Ex.pan (E.ifc 150 (E.agg
  [E.int IntKind.i64 2, E.int IntKind.i64 p0_1].reverse))) ((List.replicate 87 uu)) ([Ob.box [(str p0_0), (num p0_1)]]) ([])) else bif !pk p0_0 p0_1
  == 92 then bif decide (t3_1.length = t3_1.length) && decide ((t3_1.length + (5, [E.int IntKind.u8 (pk p0_0 p0_1)]).snd.length) * 1 ≤ 140737488355328) then (loop 145 1 lc_145_3
  ([AV.ptr 0 0, uu, uu, AV.ptr 1 0] ++ List.replicate 83 uu) [Ob.box [(str p0_0), (num (IntKind.i64.wrap (p0_1 + 1)))], Ob.box [AV.nsp 1
  107, AV.own 2 5 (t3_1 ++ (5, [E.int IntKind.u8 (pk p0_0 p0_1)]).snd)], Ob.vec 5 (t3_1 ++ (5, [E.int IntKind.u8 (pk p0_0 p0_1)]).snd).length]).bind fun o => some o else none else
  bif decide (0 ≤ IntKind.i64.wrap (p0_1 + 1)) then bif pk p0_0 (IntKind.i64.wrap (p0_1 + 1)) == 34 then bif pk p0_0 (IntKind.i64.wrap (p0_1 + 1)) == 34 then bif decide
  (t3_1.length = t3_1.length) && decide ((t3_1.length + (5, [E.int IntKind.u8 (pk p0_0 (IntKind.i64.wrap (p0_1 + 1)))]).snd.length) * 1 ≤ 140737488355328) then (loop 145 1 lc_145_3
  ([AV.ptr 0 0, uu, uu, AV.ptr 1 0] ++ List.replicate 83 uu) [Ob.box [(str p0_0), (num (IntKind.i64.wrap (IntKind.i64.wrap (p0_1 + 1) +
  1)))], Ob.box [AV.nsp 1 107, AV.own 2 5 (t3_1 ++ (5, [E.int IntKind.u8 (pk p0_0 (IntKind.i64.wrap (p0_1 + 1)))]).snd)], Ob.vec 5 (t3_1 ++ (5, [E.int IntKind.u8 (pk p0_0
  (IntKind.i64.wrap (p0_1 + 1)))]).snd).length]).bind fun o => some o else none else bif pk p0_0 (IntKind.i64.wrap (p0_1 + 1)) == 120 then (run none 166 [AV.ptr 0 0] [Ob.box [AV.e
  (E.str p0_0), (num (IntKind.i64.wrap (IntKind.i64.wrap (p0_1 + 1) + 1)))]]).bind fun rh => bif okHeap [Ob.box [(str p0_0), AV.e (E.int IntKind.i64
  (IntKind.i64.wrap (IntKind.i64.wrap (p0_1 + 1) + 1)))]] rh.2 then bif rh.fst.isPan then some (Out.mk (Ex.pan rh.fst.why) ((List.replicate 87 uu)) ([Ob.box [AV.e (E.str
  ((rh.snd.ob 0).cell 0).data.toStr), (num ((rh.snd.ob 0).cell 1).data.toInt)]]) ([])) else bif okRes PP 5 rh.fst then (run none 166 [AV.ptr 0 0] [Ob.box
  [(str ((rh.snd.ob 0).cell 0).data.toStr), (num ((rh.snd.ob 0).cell 1).data.toInt)]]).bind fun rh_1 => bif okHeap [Ob.box [(str ((rh.snd.ob
  0).cell 0).data.toStr), (num ((rh.snd.ob 0).cell 1).data.toInt)]] rh_1.2 then bif rh_1.fst.isPan then some (Out.mk (Ex.pan rh_1.fst.why) ((List.replicate 87
  uu)) ([Ob.box [(str ((rh_1.snd.ob 0).cell 0).data.toStr), (num ((rh_1.snd.ob 0).cell 1).data.toInt)]]) ([])) else bif okRes PP 5 rh_1.fst
  then bif bif decide (32 ≤ IntKind.u8.wrap (↑(BitVec.ofInt 8 (IntKind.u8.wrap (rh.fst.val.data.toInt * 2 ^ 4)) ||| BitVec.ofInt 8 rh_1.fst.val.data.toInt).toNat : Int)) then
  decide (IntKind.u8.wrap (↑(BitVec.ofInt 8 (IntKind.u8.wrap (rh.fst.val.data.toInt * 2 ^ 4)) ||| BitVec.ofInt 8 rh_1.fst.val.data.toInt).toNat : Int) ≤ 126) else false then some
  (Out.mk (Ex.pan (E.ifc 150 (E.agg [E.int IntKind.i64 2, E.int IntKind.i64 p0_1].reverse))) ((List.replicate 87 uu)) ([Ob.box [(str ((rh_1.snd.ob 0).cell
  0).data.toStr), (num ((rh_1.snd.ob 0).cell 1).data.toInt)]]) ([])) else bif decide (t3_1.length = t3_1.length) && decide ((t3_1.length + (5, [E.int IntKind.u8
  (IntKind.u8.wrap (↑(BitVec.ofInt 8 (IntKind.u8.wrap (rh.fst.val.data.toInt * 2 ^ 4)) ||| BitVec.ofInt 8 rh_1.fst.val.data.toInt).toNat : Int))]).snd.length) * 1 ≤
  140737488355328) then (loop 145 1 lc_145_3 ([AV.ptr 0 0, uu, uu, AV.ptr 1 0] ++ List.replicate 83 uu) [Ob.box [(str ((rh_1.snd.ob 0).cell 0).data.toStr),
  (num ((rh_1.snd.ob 0).cell 1).data.toInt)], Ob.box [AV.nsp 1 107, AV.own 2 5 (t3_1 ++ (5, [E.int IntKind.u8 (IntKind.u8.wrap (↑(BitVec.ofInt 8 (IntKind.u8.wrap
  (rh.fst.val.data.toInt * 2 ^ 4)) ||| BitVec.ofInt 8 rh_1.fst.val.data.toInt).toNat : Int))]).snd)], Ob.vec 5 (t3_1 ++ (5, [E.int IntKind.u8 (IntKind.u8.wrap (↑(BitVec.ofInt 8
  (IntKind.u8.wrap (rh.fst.val.data.toInt * 2 ^ 4)) ||| BitVec.ofInt 8 rh_1.fst.val.data.toInt).toNat : Int))]).snd).length]).bind fun o => some o else none else none else none
  else none else none else some (Out.mk (Ex.pan (E.ifc 150 (E.agg [E.int IntKind.i64 2, E.int IntKind.i64 (IntKind.i64.wrap (p0_1 + 1))].reverse))) ((List.replicate 87 uu))
  ([Ob.box [(str p0_0), (num (IntKind.i64.wrap (p0_1 + 1)))]]) ([])) else bif pk p0_0 (IntKind.i64.wrap (p0_1 + 1)) == 92 then bif decide (t3_1.length =
  t3_1.length) && decide ((t3_1.length + (5, [E.int IntKind.u8 (pk p0_0 (IntKind.i64.wrap (p0_1 + 1)))]).snd.length) * 1 ≤ 140737488355328) then (loop 145 1 lc_145_3 ([AV.ptr 0 0,
  uu, uu, AV.ptr 1 0] ++ List.replicate 83 uu) [Ob.box [(str p0_0), (num (IntKind.i64.wrap (IntKind.i64.wrap (p0_1 + 1) + 1)))], Ob.box
  [AV.nsp 1 107, AV.own 2 5 (t3_1 ++ (5, [E.int IntKind.u8 (pk p0_0 (IntKind.i64.wrap (p0_1 + 1)))]).snd)], Ob.vec 5 (t3_1 ++ (5, [E.int IntKind.u8 (pk p0_0 (IntKind.i64.wrap (p0_1
  + 1)))]).snd).length]).bind fun o => some o else none else bif pk p0_0 (IntKind.i64.wrap (p0_1 + 1)) == 120 then (run none 166 [AV.ptr 0 0] [Ob.box [(str p0_0), AV.e
  (E.int IntKind.i64 (IntKind.i64.wrap (IntKind.i64.wrap (p0_1 + 1) + 1)))]]).bind fun rh => bif okHeap [Ob.box [(str p0_0), (num (IntKind.i64.wrap
  (IntKind.i64.wrap (p0_1 + 1) + 1)))]] rh.2 then bif rh.fst.isPan then some (Out.mk (Ex.pan rh.fst.why) ((List.replicate 87 uu)) ([Ob.box [(str ((rh.snd.ob 0).cell
  0).data.toStr), (num ((rh.snd.ob 0).cell 1).data.toInt)]]) ([])) else bif okRes PP 5 rh.fst then (run none 166 [AV.ptr 0 0] [Ob.box [AV.e (E.str
  ((rh.snd.ob 0).cell 0).data.toStr), (num ((rh.snd.ob 0).cell 1).data.toInt)]]).bind fun rh_1 => bif okHeap [Ob.box [(str ((rh.snd.ob 0).cell
  0).data.toStr), (num ((rh.snd.ob 0).cell 1).data.toInt)]] rh_1.2 then bif rh_1.fst.isPan then some (Out.mk (Ex.pan rh_1.fst.why) ((List.replicate 87 uu))
  ([Ob.box [(str ((rh_1.snd.ob 0).cell 0).data.toStr), (num ((rh_1.snd.ob 0).cell 1).data.toInt)]]) ([])) else bif okRes PP 5 rh_1.fst then bif bif
  decide (32 ≤ IntKind.u8.wrap (↑(BitVec.ofInt 8 (IntKind.u8.wrap (rh.fst.val.data.toInt * 2 ^ 4)) ||| BitVec.ofInt 8 rh_1.fst.val.data.toInt).toNat : Int)) then decide
  (IntKind.u8.wrap (↑(BitVec.ofInt 8 (IntKind.u8.wrap (rh.fst.val.data.toInt * 2 ^ 4)) ||| BitVec.ofInt 8 rh_1.fst.val.data.toInt).toNat : Int) ≤ 126) else false then some (Out.mk
  (Ex.pan (E.ifc 150 (E.agg [E.int IntKind.i64 2, E.int IntKind.i64 p0_1].reverse))) ((List.replicate 87 uu)) ([Ob.box [(str ((rh_1.snd.ob 0).cell 0).data.toStr), AV.e
  (E.int IntKind.i64 ((rh_1.snd.ob 0).cell 1).data.toInt)]]) ([])) else bif decide (t3_1.length = t3_1.length) && decide ((t3_1.length + (5, [E.int IntKind.u8 (IntKind.u8.wrap
  (↑(BitVec.ofInt 8 (IntKind.u8.wrap (rh.fst.val.data.toInt * 2 ^ 4)) ||| BitVec.ofInt 8 rh_1.fst.val.data.toInt).toNat : Int))]).snd.length) * 1 ≤ 140737488355328) then (loop 145
  1 lc_145_3 ([AV.ptr 0 0, uu, uu, AV.ptr 1 0] ++ List.replicate 83 uu) [Ob.box [(str ((rh_1.snd.ob 0).cell 0).data.toStr), AV.e (E.int IntKind.i64
  ((rh_1.snd.ob 0).cell 1).data.toInt)], Ob.box [AV.nsp 1 107, AV.own 2 5 (t3_1 ++ (5, [E.int IntKind.u8 (IntKind.u8.wrap (↑(BitVec.ofInt 8 (IntKind.u8.wrap (rh.fst.val.data.toInt
  * 2 ^ 4)) ||| BitVec.ofInt 8 rh_1.fst.val.data.toInt).toNat : Int))]).snd)], Ob.vec 5 (t3_1 ++ (5, [E.int IntKind.u8 (IntKind.u8.wrap (↑(BitVec.ofInt 8 (IntKind.u8.wrap
  (rh.fst.val.data.toInt * 2 ^ 4)) ||| BitVec.ofInt 8 rh_1.fst.val.data.toInt).toNat : Int))]).snd).length]).bind fun o => some o else none else none else none else none else none
  else some (Out.mk (Ex.pan (E.ifc 150 (E.agg [E.int IntKind.i64 2, E.int IntKind.i64 (IntKind.i64.wrap (p0_1 + 1))].reverse))) ((List.replicate 87 uu)) ([Ob.box [AV.e (E.str
  p0_0), (num (IntKind.i64.wrap (p0_1 + 1)))]]) ([])) else none else none else some (Out.mk (Ex.exit 0) (([uu, uu, uu, AV.ptr 1 0] ++
  List.replicate 83 uu)) ([Ob.box [(str p0_0), (num (IntKind.i64.wrap (p0_1 + 1)))], Ob.box [AV.nsp 1 107, AV.own 2 5 t3_1], Ob.vec 5 t3_1.length])
  ([])) else none := by kernel_rfl
theorem eq_list (run : RunF) (loop : LoopF) (p0_0 : List UInt8) (p0_1 : Int) (a1 : Int) : bodyRun PP HH run loop none 146 [.ptr 0 0, .e (.int .i64 a1)] [.box [.e
  (.str p0_0), .e (.int .i64 p0_1)]] = (run none 133 [AV.ptr 0 0, (str [91])] [Ob.box [(str p0_0), (num p0_1)]]).bind fun rh => bif okHeap [Ob.box
  [(str p0_0), (num p0_1)]] rh.2 then bif rh.fst.isPan then some (Res.pan rh.fst.why, [Ob.box [(str ((rh.snd.ob 0).cell 0).data.toStr), AV.e (E.int
  IntKind.i64 ((rh.snd.ob 0).cell 1).data.toInt)]]) else bif okRes PP 0 rh.fst then bif decide (0 ≤ ((rh.snd.ob 0).cell 1).data.toInt) then bif !pk ((rh.snd.ob 0).cell
  0).data.toStr ((rh.snd.ob 0).cell 1).data.toInt == 93 then (loop 146 1 lc_146_5 ([AV.ptr 0 0, (num a1), uu, uu, AV.ptr 1 0, AV.ptr 2 0] ++
  List.replicate 21 uu) [Ob.box [(str ((rh.snd.ob 0).cell 0).data.toStr), (num ((rh.snd.ob 0).cell 1).data.toInt)], Ob.box [AV.e (E.int IntKind.i64
  0), (num 0), (str []), AV.own 3 9 [], AV.own 4 39 []], Ob.box [(num 5), (num 0), (str []), AV.own 5 9 [],
  AV.own 6 39 []], Ob.vec 9 0, Ob.vec 39 0, Ob.vec 9 0, Ob.vec 39 0]).bind fun o => bif o.ex.isWay Way.ret then bif okFr ([uu, uu, uu, uu, AV.ptr 1 0] ++
  List.replicate 22 uu) o.2 && okHeap [Ob.box [(str []), (num 0)], Ob.box [(num 0), (num 0), (str []),
  AV.own 2 9 [], AV.own 3 39 []], Ob.vec 9 0, Ob.vec 39 0] o.3 then some (Res.ret (AV.agg [(num ((o.hp.ob 1).cell 0).data.toInt), AV.e (E.int IntKind.i64
  ((o.hp.ob 1).cell 1).data.toInt), (str ((o.hp.ob 1).cell 2).data.toStr), AV.e (E.sl 9 ((o.hp.ob 1).cell 3).data.toList), AV.e (E.sl 39 ((o.hp.ob 1).cell 4).data.toList)]),
  [Ob.box [(str ((o.hp.ob 0).cell 0).data.toStr), (num ((o.hp.ob 0).cell 1).data.toInt)]]) else none else bif o.ex.isWay Way.pan then bif okFr
  (List.replicate 27 uu) o.2 && okHeap [Ob.box [(str []), (num 0)]] o.3 then some (Res.pan o.ex.why, [Ob.box [(str ((o.hp.ob 0).cell
  0).data.toStr), (num ((o.hp.ob 0).cell 1).data.toInt)]]) else none else none else some (Res.ret (AV.agg [(num 5), AV.e (E.int IntKind.i64
  0), (str []), AV.e (E.sl 9 []), AV.e (E.sl 39 [])]), [Ob.box [(str ((rh.snd.ob 0).cell 0).data.toStr), (num (IntKind.i64.wrap (((rh.snd.ob
  0).cell 1).data.toInt + 1)))]]) else none else none else none := by kernel_rfl
theorem eq_listL5 (run : RunF) (loop : LoopF) (p0_0 : List UInt8) (p0_1 : Int) (t1 : Int) (t4_0 : Int) (t4_1 : Int) (t4_2 : List UInt8) (t4_3 : List E) (t4_4 : List E) (t5_0 : Int)
  (t5_1 : Int) (t5_2 : List UInt8) (t5_3 : List E) (t5_4 : List E) : bodyLoop PP HH run loop 146 1 lc_146_5 (((((List.replicate 27 uu).set 0 (.ptr 0 0)).set
  1 (.e (.int .i64 t1))).set 4 (.ptr 1 0)).set 5 (.ptr 2 0)) [.box [.e (.str p0_0), .e (.int .i64 p0_1)], .box [.e (.int .i64 t4_0), .e (.int .i64 t4_1), .e (.str t4_2), .own 3 9
  t4_3, .own 4 39 t4_4], .box [.e (.int .i64 t5_0), .e (.int .i64 t5_1), .e (.str t5_2), .own 5 9 t5_3, .own 6 39 t5_4], .vec 9 t4_3.length, .vec 39 t4_4.length, .vec 9
  t5_3.length, .vec 39 t5_4.length] = (run none 103 [AV.ptr 0 0, (num (IntKind.i64.wrap (t1 + 1)))] [Ob.box [(str p0_0), AV.e (E.int IntKind.i64
  p0_1)]]).bind fun rh => bif okHeap [Ob.box [(str p0_0), (num p0_1)]] rh.2 then bif rh.fst.isPan then some (Out.mk (Ex.pan rh.fst.why) ((List.replicate
  27 uu)) ([Ob.box [(str ((rh.snd.ob 0).cell 0).data.toStr), (num ((rh.snd.ob 0).cell 1).data.toInt)]]) ([])) else bif okRes PP 39 rh.fst
  then bif decide (t5_4.length = t5_4.length) && decide ((t5_4.length + (39, elems PP 39 5 1 [E.sl 39 (rh.fst.val.data.cell 4).toList, E.sl 9 (rh.fst.val.data.cell
  3).toList, E.str (rh.fst.val.data.cell 2).toStr, E.int IntKind.i64 (rh.fst.val.data.cell 1).toInt, E.int IntKind.i64 (rh.fst.val.data.cell 0).toInt].reverse).snd.length) * 80 ≤
  140737488355328) then bif decide (0 ≤ ((rh.snd.ob 0).cell 1).data.toInt) then bif !pk ((rh.snd.ob 0).cell 0).data.toStr ((rh.snd.ob 0).cell 1).data.toInt == 44 then (run none 133
  [AV.ptr 0 0, (str [93])] [Ob.box [(str ((rh.snd.ob 0).cell 0).data.toStr), (num ((rh.snd.ob 0).cell 1).data.toInt)]]).bind fun rh_1 => bif okHeap
  [Ob.box [(str ((rh.snd.ob 0).cell 0).data.toStr), (num ((rh.snd.ob 0).cell 1).data.toInt)]] rh_1.2 then bif rh_1.fst.isPan then some (Out.mk (Ex.pan
  rh_1.fst.why) ((List.replicate 27 uu)) ([Ob.box [(str ((rh_1.snd.ob 0).cell 0).data.toStr), (num ((rh_1.snd.ob 0).cell 1).data.toInt)]]) ([]))
  else bif okRes PP 0 rh_1.fst then some (Out.mk (Ex.ret) (([uu, uu, uu, uu, AV.ptr 1 0] ++ List.replicate 22 uu)) ([Ob.box [AV.e (E.str
  ((rh_1.snd.ob 0).cell 0).data.toStr), (num ((rh_1.snd.ob 0).cell 1).data.toInt)], Ob.box [(num t5_0), (num t5_1), AV.e
  (E.str t5_2), AV.own 2 9 t5_3, AV.own 3 39 (t5_4 ++ (39, elems PP 39 5 1 [E.sl 39 (rh.fst.val.data.cell 4).toList, E.sl 9 (rh.fst.val.data.cell 3).toList, E.str
  (rh.fst.val.data.cell 2).toStr, E.int IntKind.i64 (rh.fst.val.data.cell 1).toInt, E.int IntKind.i64 (rh.fst.val.data.cell 0).toInt].reverse).snd)], Ob.vec 9 t5_3.length, Ob.vec
  39 (t5_4 ++ (39, elems PP 39 5 1 [E.sl 39 (rh.fst.val.data.cell 4).toList, E.sl 9 (rh.fst.val.data.cell 3).toList, E.str (rh.fst.val.data.cell 2).toStr, E.int IntKind.i64
  (rh.fst.val.data.cell 1).toInt, E.int IntKind.i64 (rh.fst.val.data.cell 0).toInt].reverse).snd).length]) ([])) else none else none else (loop 146 1 lc_146_5 ([AV.ptr 0 0, AV.e
  (E.int IntKind.i64 t1), uu, uu, AV.ptr 1 0, AV.ptr 2 0] ++ List.replicate 21 uu) [Ob.box [(str ((rh.snd.ob 0).cell 0).data.toStr), AV.e (E.int
  IntKind.i64 (IntKind.i64.wrap (((rh.snd.ob 0).cell 1).data.toInt + 1)))], Ob.box [(num t4_0), (num t4_1), (str t4_2), AV.own 3 9
  t4_3, AV.own 4 39 t4_4], Ob.box [(num t5_0), (num t5_1), (str t5_2), AV.own 5 9 t5_3, AV.own 6 39 (t5_4 ++ (39, elems PP 39 5
  1 [E.sl 39 (rh.fst.val.data.cell 4).toList, E.sl 9 (rh.fst.val.data.cell 3).toList, E.str (rh.fst.val.data.cell 2).toStr, E.int IntKind.i64 (rh.fst.val.data.cell 1).toInt, E.int
  IntKind.i64 (rh.fst.val.data.cell 0).toInt].reverse).snd)], Ob.vec 9 t4_3.length, Ob.vec 39 t4_4.length, Ob.vec 9 t5_3.length, Ob.vec 39 (t5_4 ++ (39, elems PP 39 5 1
  [E.sl 39 (rh.fst.val.data.cell 4).toList, E.sl 9 (rh.fst.val.data.cell 3).toList, E.str (rh.fst.val.data.cell 2).toStr, E.int IntKind.i64 (rh.fst.val.data.cell 1).toInt, E.int
  IntKind.i64 (rh.fst.val.data.cell 0).toInt].reverse).snd).length]).bind fun o => some o else none else none else none else none := by kernel_rfl
theorem eq_pnamed (run : RunF) (loop : LoopF) (p0_0 : List UInt8) (p0_1 : Int) (a1 : Int) : bodyRun PP HH run loop none 147 [.ptr 0 0, .e (.int .i64 a1)] [.box [.e
  (.str p0_0), .e (.int .i64 p0_1)]] = (run none 133 [AV.ptr 0 0, (str [123])] [Ob.box [(str p0_0), (num p0_1)]]).bind fun rh => bif okHeap [Ob.box
  [(str p0_0), (num p0_1)]] rh.2 then bif rh.fst.isPan then some (Res.pan rh.fst.why, [Ob.box [(str ((rh.snd.ob 0).cell 0).data.toStr), AV.e (E.int
  IntKind.i64 ((rh.snd.ob 0).cell 1).data.toInt)]]) else bif okRes PP 0 rh.fst then bif decide (0 ≤ ((rh.snd.ob 0).cell 1).data.toInt) then bif !pk ((rh.snd.ob 0).cell
  0).data.toStr ((rh.snd.ob 0).cell 1).data.toInt == 125 then (loop 147 1 lc_147_5 ([AV.ptr 0 0, (num a1), uu, uu, AV.ptr 1 0, AV.ptr 2 0] ++
  List.replicate 60 uu) [Ob.box [(str ((rh.snd.ob 0).cell 0).data.toStr), (num ((rh.snd.ob 0).cell 1).data.toInt)], Ob.box [AV.e (E.int IntKind.i64
  0), (num 0), (str []), AV.own 3 9 [], AV.own 4 39 []], Ob.box [(num 6), (num 0), (str []), AV.own 5 9 [],
  AV.own 6 39 []], Ob.vec 9 0, Ob.vec 39 0, Ob.vec 9 0, Ob.vec 39 0]).bind fun o => bif o.ex.isWay Way.ret then bif okFr ([uu, uu, uu, uu, AV.ptr 1 0] ++
  List.replicate 61 uu) o.2 && okHeap [Ob.box [(str []), (num 0)], Ob.box [(num 0), (num 0), (str []),
  AV.own 2 9 [], AV.own 3 39 []], Ob.vec 9 0, Ob.vec 39 0] o.3 then some (Res.ret (AV.agg [(num ((o.hp.ob 1).cell 0).data.toInt), AV.e (E.int IntKind.i64
  ((o.hp.ob 1).cell 1).data.toInt), (str ((o.hp.ob 1).cell 2).data.toStr), AV.e (E.sl 9 ((o.hp.ob 1).cell 3).data.toList), AV.e (E.sl 39 ((o.hp.ob 1).cell 4).data.toList)]),
  [Ob.box [(str ((o.hp.ob 0).cell 0).data.toStr), (num ((o.hp.ob 0).cell 1).data.toInt)]]) else none else bif o.ex.isWay Way.pan then bif okFr
  (List.replicate 66 uu) o.2 && okHeap [Ob.box [(str []), (num 0)]] o.3 then some (Res.pan o.ex.why, [Ob.box [(str ((o.hp.ob 0).cell
  0).data.toStr), (num ((o.hp.ob 0).cell 1).data.toInt)]]) else none else none else some (Res.ret (AV.agg [(num 6), AV.e (E.int IntKind.i64
  0), (str []), AV.e (E.sl 9 []), AV.e (E.sl 39 [])]), [Ob.box [(str ((rh.snd.ob 0).cell 0).data.toStr), (num (IntKind.i64.wrap (((rh.snd.ob
  0).cell 1).data.toInt + 1)))]]) else none else none else none := by kernel_rfl
theorem eq_pnamedL5 (run : RunF) (loop : LoopF) (p0_0 : List UInt8) (p0_1 : Int) (t1 : Int) (t4_0 : Int) (t4_1 : Int) (t4_2 : List UInt8) (t4_3 : List E) (t4_4 : List E) (t5_0 :
  Int) (t5_1 : Int) (t5_2 : List UInt8) (t5_3 : List E) (t5_4 : List E) : bodyLoop PP HH run loop 147 1 lc_147_5 (((((List.replicate 66 uu).set 0 (.ptr 0
  0)).set 1 (.e (.int .i64 t1))).set 4 (.ptr 1 0)).set 5 (.ptr 2 0)) [.box [.e (.str p0_0), .e (.int .i64 p0_1)], .box [.e (.int .i64 t4_0), .e (.int .i64 t4_1), .e (.str t4_2),
  .own 3 9 t4_3, .own 4 39 t4_4], .box [.e (.int .i64 t5_0), .e (.int .i64 t5_1), .e (.str t5_2), .own 5 9 t5_3, .own 6 39 t5_4], .vec 9 t4_3.length, .vec 39 t4_4.length, .vec 9
  t5_3.length, .vec 39 t5_4.length] = (run none 135 [AV.ptr 0 0] [Ob.box [(str p0_0), (num p0_1)]]).bind fun rh => bif okHeap [Ob.box [(str p0_0),
  (num p0_1)]] rh.2 then bif rh.fst.isPan then some (Out.mk (Ex.pan rh.fst.why) ((List.replicate 66 uu)) ([Ob.box [(str ((rh.snd.ob 0).cell
  0).data.toStr), (num ((rh.snd.ob 0).cell 1).data.toInt)]]) ([])) else bif okRes PP 9 rh.fst then bif decide (16 < (↑rh.fst.val.data.toStr.length : Int))
  then some (Out.mk (Ex.pan (E.ifc 150 (E.agg [E.int IntKind.i64 11, E.int IntKind.i64 p0_1].reverse))) ((List.replicate 66 uu)) ([Ob.box [(str ((rh.snd.ob 0).cell
  0).data.toStr), (num ((rh.snd.ob 0).cell 1).data.toInt)]]) ([])) else bif decide (0 < (↑t5_3.length : Int)) == true then bif decide (0 ≤ IntKind.i64.wrap
  ((↑t5_3.length : Int) - 1)) && decide (IntKind.i64.wrap ((↑t5_3.length : Int) - 1) < (↑t5_3.length : Int)) then bif Op.bytesLess rh.fst.val.data.toStr ((t5_3.getD
  (IntKind.i64.wrap ((↑t5_3.length : Int) - 1)).toNat E.nili).cell 0).toStr || strEq rh.fst.val.data.toStr ((t5_3.getD (IntKind.i64.wrap ((↑t5_3.length : Int) - 1)).toNat
  E.nili).cell 0).toStr then some (Out.mk (Ex.pan (E.ifc 150 (E.agg [E.int IntKind.i64 22, E.int IntKind.i64 p0_1].reverse))) ((List.replicate 66 uu)) ([Ob.box [AV.e (E.str
  ((rh.snd.ob 0).cell 0).data.toStr), (num ((rh.snd.ob 0).cell 1).data.toInt)]]) ([])) else (run none 133 [AV.ptr 0 0, (str [58])] [Ob.box [AV.e (E.str
  ((rh.snd.ob 0).cell 0).data.toStr), (num ((rh.snd.ob 0).cell 1).data.toInt)]]).bind fun rh_1 => bif okHeap [Ob.box [(str ((rh.snd.ob 0).cell
  0).data.toStr), (num ((rh.snd.ob 0).cell 1).data.toInt)]] rh_1.2 then bif rh_1.fst.isPan then some (Out.mk (Ex.pan rh_1.fst.why) ((List.replicate 66 uu))
  ([Ob.box [(str ((rh_1.snd.ob 0).cell 0).data.toStr), (num ((rh_1.snd.ob 0).cell 1).data.toInt)]]) ([])) else bif okRes PP 0 rh_1.fst then bif
  decide (t5_3.length = t5_3.length) && decide ((t5_3.length + (9, [E.str rh.fst.val.data.toStr]).snd.length) * 16 ≤ 140737488355328) then (run none 103 [AV.ptr 0 0, AV.e (E.int
  IntKind.i64 (IntKind.i64.wrap (t1 + 1)))] [Ob.box [(str ((rh_1.snd.ob 0).cell 0).data.toStr), (num ((rh_1.snd.ob 0).cell 1).data.toInt)]]).bind fun rh_2
  => bif okHeap [Ob.box [(str ((rh_1.snd.ob 0).cell 0).data.toStr), (num ((rh_1.snd.ob 0).cell 1).data.toInt)]] rh_2.2 then bif rh_2.fst.isPan then some
  (Out.mk (Ex.pan rh_2.fst.why) ((List.replicate 66 uu)) ([Ob.box [(str ((rh_2.snd.ob 0).cell 0).data.toStr), (num ((rh_2.snd.ob 0).cell
  1).data.toInt)]]) ([])) else bif okRes PP 39 rh_2.fst then bif decide (t5_4.length = t5_4.length) && decide ((t5_4.length + (39, elems PP 39 5 1 [E.sl 39
  (rh_2.fst.val.data.cell 4).toList, E.sl 9 (rh_2.fst.val.data.cell 3).toList, E.str (rh_2.fst.val.data.cell 2).toStr, E.int IntKind.i64 (rh_2.fst.val.data.cell 1).toInt, E.int
  IntKind.i64 (rh_2.fst.val.data.cell 0).toInt].reverse).snd.length) * 80 ≤ 140737488355328) then bif decide (0 ≤ ((rh_2.snd.ob 0).cell 1).data.toInt) then bif !pk ((rh_2.snd.ob
  0).cell 0).data.toStr ((rh_2.snd.ob 0).cell 1).data.toInt == 44 then (run none 133 [AV.ptr 0 0, (str [125])] [Ob.box [(str ((rh_2.snd.ob 0).cell 0).data.toStr),
  (num ((rh_2.snd.ob 0).cell 1).data.toInt)]]).bind fun rh_3 => bif okHeap [Ob.box [(str ((rh_2.snd.ob 0).cell 0).data.toStr), AV.e (E.int IntKind.i64
  ((rh_2.snd.ob 0).cell 1).data.toInt)]] rh_3.2 then bif rh_3.fst.isPan then some (Out.mk (Ex.pan rh_3.fst.why) ((List.replicate 66 uu)) ([Ob.box [(str ((rh_3.snd.ob
  0).cell 0).data.toStr), (num ((rh_3.snd.ob 0).cell 1).data.toInt)]]) ([])) else bif okRes PP 0 rh_3.fst then some (Out.mk (Ex.ret) (([uu,
  uu, uu, uu, AV.ptr 1 0] ++ List.replicate 61 uu)) ([Ob.box [(str ((rh_3.snd.ob 0).cell 0).data.toStr), (num ((rh_3.snd.ob
  0).cell 1).data.toInt)], Ob.box [(num t5_0), (num t5_1), (str t5_2), AV.own 2 9 (t5_3 ++ (9, [E.str rh.fst.val.data.toStr]).snd),
  AV.own 3 39 (t5_4 ++ (39, elems PP 39 5 1 [E.sl 39 (rh_2.fst.val.data.cell 4).toList, E.sl 9 (rh_2.fst.val.data.cell 3).toList, E.str (rh_2.fst.val.data.cell 2).toStr,
  E.int IntKind.i64 (rh_2.fst.val.data.cell 1).toInt, E.int IntKind.i64 (rh_2.fst.val.data.cell 0).toInt].reverse).snd)], Ob.vec 9 (t5_3 ++ (9, [E.str
  rh.fst.val.data.toStr]).snd).length, Ob.vec 39 (t5_4 ++ (39, elems PP 39 5 1 [E.sl 39 (rh_2.fst.val.data.cell 4).toList, E.sl 9 (rh_2.fst.val.data.cell 3).toList, E.str
  (rh_2.fst.val.data.cell 2).toStr, E.int IntKind.i64 (rh_2.fst.val.data.cell 1).toInt, E.int IntKind.i64 (rh_2.fst.val.data.cell 0).toInt].reverse).snd).length]) ([])) else none
  else none else (loop 147 1 lc_147_5 ([AV.ptr 0 0, (num t1), uu, uu, AV.ptr 1 0, AV.ptr 2 0] ++ List.replicate 60 uu) [Ob.box [AV.e (E.str
  ((rh_2.snd.ob 0).cell 0).data.toStr), (num (IntKind.i64.wrap (((rh_2.snd.ob 0).cell 1).data.toInt + 1)))], Ob.box [(num t4_0), AV.e (E.int
  IntKind.i64 t4_1), (str t4_2), AV.own 3 9 t4_3, AV.own 4 39 t4_4], Ob.box [(num t5_0), (num t5_1), (str t5_2), AV.own 5 9
  (t5_3 ++ (9, [E.str rh.fst.val.data.toStr]).snd), AV.own 6 39 (t5_4 ++ (39, elems PP 39 5 1 [E.sl 39 (rh_2.fst.val.data.cell 4).toList, E.sl 9 (rh_2.fst.val.data.cell
  3).toList, E.str (rh_2.fst.val.data.cell 2).toStr, E.int IntKind.i64 (rh_2.fst.val.data.cell 1).toInt, E.int IntKind.i64 (rh_2.fst.val.data.cell 0).toInt].reverse).snd)], Ob.vec
  9 t4_3.length, Ob.vec 39 t4_4.length, Ob.vec 9 (t5_3 ++ (9, [E.str rh.fst.val.data.toStr]).snd).length, Ob.vec 39 (t5_4 ++ (39, elems PP 39 5 1 [E.sl 39
  (rh_2.fst.val.data.cell 4).toList, E.sl 9 (rh_2.fst.val.data.cell 3).toList, E.str (rh_2.fst.val.data.cell 2).toStr, E.int IntKind.i64 (rh_2.fst.val.data.cell 1).toInt, E.int
  IntKind.i64 (rh_2.fst.val.data.cell 0).toInt].reverse).snd).length]).bind fun o => some o else none else none else none else none else none else none else none else none else
  (run none 133 [AV.ptr 0 0, (str [58])] [Ob.box [(str ((rh.snd.ob 0).cell 0).data.toStr), (num ((rh.snd.ob 0).cell 1).data.toInt)]]).bind fun rh_1
  => bif okHeap [Ob.box [(str ((rh.snd.ob 0).cell 0).data.toStr), (num ((rh.snd.ob 0).cell 1).data.toInt)]] rh_1.2 then bif rh_1.fst.isPan then some
  (Out.mk (Ex.pan rh_1.fst.why) ((List.replicate 66 uu)) ([Ob.box [(str ((rh_1.snd.ob 0).cell 0).data.toStr), (num ((rh_1.snd.ob 0).cell
  1).data.toInt)]]) ([])) else bif okRes PP 0 rh_1.fst then bif decide (t5_3.length = t5_3.length) && decide ((t5_3.length + (9, [E.str rh.fst.val.data.toStr]).snd.length) *
  16 ≤ 140737488355328) then (run none 103 [AV.ptr 0 0, (num (IntKind.i64.wrap (t1 + 1)))] [Ob.box [(str ((rh_1.snd.ob 0).cell 0).data.toStr), AV.e (E.int
  IntKind.i64 ((rh_1.snd.ob 0).cell 1).data.toInt)]]).bind fun rh_2 => bif okHeap [Ob.box [(str ((rh_1.snd.ob 0).cell 0).data.toStr), (num ((rh_1.snd.ob
  0).cell 1).data.toInt)]] rh_2.2 then bif rh_2.fst.isPan then some (Out.mk (Ex.pan rh_2.fst.why) ((List.replicate 66 uu)) ([Ob.box [(str ((rh_2.snd.ob 0).cell
  0).data.toStr), (num ((rh_2.snd.ob 0).cell 1).data.toInt)]]) ([])) else bif okRes PP 39 rh_2.fst then bif decide (t5_4.length = t5_4.length) && decide
  ((t5_4.length + (39, elems PP 39 5 1 [E.sl 39 (rh_2.fst.val.data.cell 4).toList, E.sl 9 (rh_2.fst.val.data.cell 3).toList, E.str (rh_2.fst.val.data.cell 2).toStr, E.int
  IntKind.i64 (rh_2.fst.val.data.cell 1).toInt, E.int IntKind.i64 (rh_2.fst.val.data.cell 0).toInt].reverse).snd.length) * 80 ≤ 140737488355328) then bif decide (0 ≤ ((rh_2.snd.ob
  0).cell 1).data.toInt) then bif !pk ((rh_2.snd.ob 0).cell 0).data.toStr ((rh_2.snd.ob 0).cell 1).data.toInt == 44 then (run none 133 [AV.ptr 0 0, (str [125])] [Ob.box
  [(str ((rh_2.snd.ob 0).cell 0).data.toStr), (num ((rh_2.snd.ob 0).cell 1).data.toInt)]]).bind fun rh_3 => bif okHeap [Ob.box [(str ((rh_2.snd.ob
  0).cell 0).data.toStr), (num ((rh_2.snd.ob 0).cell 1).data.toInt)]] rh_3.2 then bif rh_3.fst.isPan then some (Out.mk (Ex.pan rh_3.fst.why) ((List.replicate 66
  uu)) ([Ob.box [(str ((rh_3.snd.ob 0).cell 0).data.toStr), (num ((rh_3.snd.ob 0).cell 1).data.toInt)]]) ([])) else bif okRes PP 0 rh_3.fst
  then some (Out.mk (Ex.ret) (([uu, uu, uu, uu, AV.ptr 1 0] ++ List.replicate 61 uu)) ([Ob.box [(str ((rh_3.snd.ob 0).cell 0).data.toStr), AV.e
  (E.int IntKind.i64 ((rh_3.snd.ob 0).cell 1).data.toInt)], Ob.box [(num t5_0), (num t5_1), (str t5_2), AV.own 2 9 (t5_3 ++ (9, [E.str
  rh.fst.val.data.toStr]).snd), AV.own 3 39 (t5_4 ++ (39, elems PP 39 5 1 [E.sl 39 (rh_2.fst.val.data.cell 4).toList, E.sl 9 (rh_2.fst.val.data.cell 3).toList, E.str
  (rh_2.fst.val.data.cell 2).toStr, E.int IntKind.i64 (rh_2.fst.val.data.cell 1).toInt, E.int IntKind.i64 (rh_2.fst.val.data.cell 0).toInt].reverse).snd)], Ob.vec 9 (t5_3 ++ (9,
  [E.str rh.fst.val.data.toStr]).snd).length, Ob.vec 39 (t5_4 ++ (39, elems PP 39 5 1 [E.sl 39 (rh_2.fst.val.data.cell 4).toList, E.sl 9 (rh_2.fst.val.data.cell 3).toList,
  E.str (rh_2.fst.val.data.cell 2).toStr, E.int IntKind.i64 (rh_2.fst.val.data.cell 1).toInt, E.int IntKind.i64 (rh_2.fst.val.data.cell 0).toInt].reverse).snd).length]) ([])) else
  none else none else (loop 147 1 lc_147_5 ([AV.ptr 0 0, (num t1), uu, uu, AV.ptr 1 0, AV.ptr 2 0] ++ List.replicate 60 uu) [Ob.box [AV.e
  (E.str ((rh_2.snd.ob 0).cell 0).data.toStr), (num (IntKind.i64.wrap (((rh_2.snd.ob 0).cell 1).data.toInt + 1)))], Ob.box [(num t4_0), AV.e
  (E.int IntKind.i64 t4_1), (str t4_2), AV.own 3 9 t4_3, AV.own 4 39 t4_4], Ob.box [(num t5_0), (num t5_1), (str t5_2), AV.own 5
  9 (t5_3 ++ (9, [E.str rh.fst.val.data.toStr]).snd), AV.own 6 39 (t5_4 ++ (39, elems PP 39 5 1 [E.sl 39 (rh_2.fst.val.data.cell 4).toList, E.sl 9 (rh_2.fst.val.data.cell
  3).toList, E.str (rh_2.fst.val.data.cell 2).toStr, E.int IntKind.i64 (rh_2.fst.val.data.cell 1).toInt, E.int IntKind.i64 (rh_2.fst.val.data.cell 0).toInt].reverse).snd)], Ob.vec
  9 t4_3.length, Ob.vec 39 t4_4.length, Ob.vec 9 (t5_3 ++ (9, [E.str rh.fst.val.data.toStr]).snd).length, Ob.vec 39 (t5_4 ++ (39, elems PP 39 5 1 [E.sl 39
  (rh_2.fst.val.data.cell 4).toList, E.sl 9 (rh_2.fst.val.data.cell 3).toList, E.str (rh_2.fst.val.data.cell 2).toStr, E.int IntKind.i64 (rh_2.fst.val.data.cell 1).toInt, E.int
  IntKind.i64 (rh_2.fst.val.data.cell 0).toInt].reverse).snd).length]).bind fun o => some o else none else none else none else none else none else none else none else none else
  none := by kernel_rfl
theorem eq_value (run : RunF) (loop : LoopF) (p0_0 : List UInt8) (p0_1 : Int) (a1 : Int) : bodyRun PP HH run loop none 103 [.ptr 0 0, .e (.int .i64 a1)] [.box [.e
  (.str p0_0), .e (.int .i64 p0_1)]] = bif decide (6 < a1) then some (Res.pan (E.ifc 150 (E.agg [E.int IntKind.i64 27, E.int IntKind.i64 p0_1].reverse)), [Ob.box [AV.e (E.str
  p0_0), (num p0_1)]]) else bif decide (0 ≤ p0_1) then bif (pk p0_0 p0_1 == 45) == false then bif decide (48 ≤ pk p0_0 p0_1) == true then bif decide (pk p0_0
  p0_1 ≤ 57) then (run none 144 [AV.ptr 0 0] [Ob.box [(str p0_0), (num p0_1)]]).bind fun rh => bif okHeap [Ob.box [(str p0_0), AV.e (E.int
  IntKind.i64 p0_1)]] rh.2 then bif rh.fst.isPan then some (Res.pan rh.fst.why, [Ob.box [(str ((rh.snd.ob 0).cell 0).data.toStr), (num ((rh.snd.ob 0).cell
  1).data.toInt)]]) else bif okRes PP 3 rh.fst then some (Res.ret (AV.agg [(num 1), (num rh.fst.val.data.toInt), (str []), AV.e
  (E.sl 9 []), AV.e (E.sl 39 [])]), [Ob.box [(str ((rh.snd.ob 0).cell 0).data.toStr), (num ((rh.snd.ob 0).cell 1).data.toInt)]]) else none else none else
  bif pk p0_0 p0_1 == 102 then (run none 133 [AV.ptr 0 0, (str [102, 97, 108, 115, 101])] [Ob.box [(str p0_0), (num p0_1)]]).bind fun rh => bif
  okHeap [Ob.box [(str p0_0), (num p0_1)]] rh.2 then bif rh.fst.isPan then some (Res.pan rh.fst.why, [Ob.box [(str ((rh.snd.ob 0).cell
  0).data.toStr), (num ((rh.snd.ob 0).cell 1).data.toInt)]]) else bif okRes PP 0 rh.fst then some (Res.ret (AV.agg [(num 3), AV.e
  (E.int IntKind.i64 0), (str []), AV.e (E.sl 9 []), AV.e (E.sl 39 [])]), [Ob.box [(str ((rh.snd.ob 0).cell 0).data.toStr), (num ((rh.snd.ob
  0).cell 1).data.toInt)]]) else none else none else bif pk p0_0 p0_1 == 116 then (run none 133 [AV.ptr 0 0, (str [116, 114, 117, 101])] [Ob.box [(str p0_0), AV.e
  (E.int IntKind.i64 p0_1)]]).bind fun rh => bif okHeap [Ob.box [(str p0_0), (num p0_1)]] rh.2 then bif rh.fst.isPan then some (Res.pan rh.fst.why,
  [Ob.box [(str ((rh.snd.ob 0).cell 0).data.toStr), (num ((rh.snd.ob 0).cell 1).data.toInt)]]) else bif okRes PP 0 rh.fst then some (Res.ret
  (AV.agg [(num 3), (num 1), (str []), AV.e (E.sl 9 []), AV.e (E.sl 39 [])]), [Ob.box [(str ((rh.snd.ob 0).cell 0).data.toStr),
  (num ((rh.snd.ob 0).cell 1).data.toInt)]]) else none else none else bif pk p0_0 p0_1 == 34 then (run none 145 [AV.ptr 0 0] [Ob.box [(str p0_0), AV.e
  (E.int IntKind.i64 p0_1)]]).bind fun rh => bif okHeap [Ob.box [(str p0_0), (num p0_1)]] rh.2 then bif rh.fst.isPan then some (Res.pan rh.fst.why,
  [Ob.box [(str ((rh.snd.ob 0).cell 0).data.toStr), (num ((rh.snd.ob 0).cell 1).data.toInt)]]) else bif okRes PP 9 rh.fst then some (Res.ret
  (AV.agg [(num 2), (num 0), (str rh.fst.val.data.toStr), AV.e (E.sl 9 []), AV.e (E.sl 39 [])]), [Ob.box [(str ((rh.snd.ob
  0).cell 0).data.toStr), (num ((rh.snd.ob 0).cell 1).data.toInt)]]) else none else none else bif pk p0_0 p0_1 == 91 then (run none 146 [AV.ptr 0 0, AV.e (E.int
  IntKind.i64 a1)] [Ob.box [(str p0_0), (num p0_1)]]).bind fun rh => bif okHeap [Ob.box [(str p0_0), (num p0_1)]] rh.2 then bif
  rh.fst.isPan then some (Res.pan rh.fst.why, [Ob.box [(str ((rh.snd.ob 0).cell 0).data.toStr), (num ((rh.snd.ob 0).cell 1).data.toInt)]]) else bif okRes
  PP 39 rh.fst then some (Res.ret (AV.agg [(num (rh.fst.val.data.cell 0).toInt), (num (rh.fst.val.data.cell 1).toInt), AV.e (E.str
  (rh.fst.val.data.cell 2).toStr), AV.e (E.sl 9 (rh.fst.val.data.cell 3).toList), AV.e (E.sl 39 (rh.fst.val.data.cell 4).toList)]), [Ob.box [(str ((rh.snd.ob 0).cell
  0).data.toStr), (num ((rh.snd.ob 0).cell 1).data.toInt)]]) else none else none else bif pk p0_0 p0_1 == 123 then (run none 147 [AV.ptr 0 0, AV.e (E.int
  IntKind.i64 a1)] [Ob.box [(str p0_0), (num p0_1)]]).bind fun rh => bif okHeap [Ob.box [(str p0_0), (num p0_1)]] rh.2 then bif
  rh.fst.isPan then some (Res.pan rh.fst.why, [Ob.box [(str ((rh.snd.ob 0).cell 0).data.toStr), (num ((rh.snd.ob 0).cell 1).data.toInt)]]) else bif okRes
  PP 39 rh.fst then some (Res.ret (AV.agg [(num (rh.fst.val.data.cell 0).toInt), (num (rh.fst.val.data.cell 1).toInt), AV.e (E.str
  (rh.fst.val.data.cell 2).toStr), AV.e (E.sl 9 (rh.fst.val.data.cell 3).toList), AV.e (E.sl 39 (rh.fst.val.data.cell 4).toList)]), [Ob.box [(str ((rh.snd.ob 0).cell
  0).data.toStr), (num ((rh.snd.ob 0).cell 1).data.toInt)]]) else none else none else some (Res.pan (E.ifc 150 (E.agg [E.int IntKind.i64 2, E.int IntKind.i64
  p0_1].reverse)), [Ob.box [(str p0_0), (num p0_1)]]) else bif pk p0_0 p0_1 == 102 then (run none 133 [AV.ptr 0 0, (str [102, 97, 108, 115, 101])]
  [Ob.box [(str p0_0), (num p0_1)]]).bind fun rh => bif okHeap [Ob.box [(str p0_0), (num p0_1)]] rh.2 then bif rh.fst.isPan then
  some (Res.pan rh.fst.why, [Ob.box [(str ((rh.snd.ob 0).cell 0).data.toStr), (num ((rh.snd.ob 0).cell 1).data.toInt)]]) else bif okRes PP 0 rh.fst
  then some (Res.ret (AV.agg [(num 3), (num 0), (str []), AV.e (E.sl 9 []), AV.e (E.sl 39 [])]), [Ob.box [(str ((rh.snd.ob
  0).cell 0).data.toStr), (num ((rh.snd.ob 0).cell 1).data.toInt)]]) else none else none else bif pk p0_0 p0_1 == 116 then (run none 133 [AV.ptr 0 0, AV.e (E.str
  [116, 114, 117, 101])] [Ob.box [(str p0_0), (num p0_1)]]).bind fun rh => bif okHeap [Ob.box [(str p0_0), (num p0_1)]] rh.2
  then bif rh.fst.isPan then some (Res.pan rh.fst.why, [Ob.box [(str ((rh.snd.ob 0).cell 0).data.toStr), (num ((rh.snd.ob 0).cell 1).data.toInt)]]) else
  bif okRes PP 0 rh.fst then some (Res.ret (AV.agg [(num 3), (num 1), (str []), AV.e (E.sl 9 []), AV.e (E.sl 39 [])]), [Ob.box
  [(str ((rh.snd.ob 0).cell 0).data.toStr), (num ((rh.snd.ob 0).cell 1).data.toInt)]]) else none else none else bif pk p0_0 p0_1 == 34 then (run none 145
  [AV.ptr 0 0] [Ob.box [(str p0_0), (num p0_1)]]).bind fun rh => bif okHeap [Ob.box [(str p0_0), (num p0_1)]] rh.2 then bif
  rh.fst.isPan then some (Res.pan rh.fst.why, [Ob.box [(str ((rh.snd.ob 0).cell 0).data.toStr), (num ((rh.snd.ob 0).cell 1).data.toInt)]]) else bif okRes
  PP 9 rh.fst then some (Res.ret (AV.agg [(num 2), (num 0), (str rh.fst.val.data.toStr), AV.e (E.sl 9 []), AV.e (E.sl 39 [])]),
  [Ob.box [(str ((rh.snd.ob 0).cell 0).data.toStr), (num ((rh.snd.ob 0).cell 1).data.toInt)]]) else none else none else bif pk p0_0 p0_1 == 91 then (run
  none 146 [AV.ptr 0 0, (num a1)] [Ob.box [(str p0_0), (num p0_1)]]).bind fun rh => bif okHeap [Ob.box [(str p0_0), AV.e (E.int
  IntKind.i64 p0_1)]] rh.2 then bif rh.fst.isPan then some (Res.pan rh.fst.why, [Ob.box [(str ((rh.snd.ob 0).cell 0).data.toStr), (num ((rh.snd.ob 0).cell
  1).data.toInt)]]) else bif okRes PP 39 rh.fst then some (Res.ret (AV.agg [(num (rh.fst.val.data.cell 0).toInt), AV.e (E.int IntKind.i64
  (rh.fst.val.data.cell 1).toInt), (str (rh.fst.val.data.cell 2).toStr), AV.e (E.sl 9 (rh.fst.val.data.cell 3).toList), AV.e (E.sl 39 (rh.fst.val.data.cell 4).toList)]),
  [Ob.box [(str ((rh.snd.ob 0).cell 0).data.toStr), (num ((rh.snd.ob 0).cell 1).data.toInt)]]) else none else none else bif pk p0_0 p0_1 == 123 then (run
  none 147 [AV.ptr 0 0, (num a1)] [Ob.box [(str p0_0), (num p0_1)]]).bind fun rh => bif okHeap [Ob.box [(str p0_0), AV.e (E.int
  IntKind.i64 p0_1)]] rh.2 then bif rh.fst.isPan then some (Res.pan rh.fst.why, [Ob.box [(str ((rh.snd.ob 0).cell 0).data.toStr), (num ((rh.snd.ob 0).cell
  1).data.toInt)]]) else bif okRes PP 39 rh.fst then some (Res.ret (AV.agg [(num (rh.fst.val.data.cell 0).toInt), AV.e (E.int IntKind.i64
  (rh.fst.val.data.cell 1).toInt), (str (rh.fst.val.data.cell 2).toStr), AV.e (E.sl 9 (rh.fst.val.data.cell 3).toList), AV.e (E.sl 39 (rh.fst.val.data.cell 4).toList)]),
  [Ob.box [(str ((rh.snd.ob 0).cell 0).data.toStr), (num ((rh.snd.ob 0).cell 1).data.toInt)]]) else none else none else some (Res.pan (E.ifc 150 (E.agg
  [E.int IntKind.i64 2, E.int IntKind.i64 p0_1].reverse)), [Ob.box [(str p0_0), (num p0_1)]]) else (run none 144 [AV.ptr 0 0] [Ob.box [(str p0_0),
  (num p0_1)]]).bind fun rh => bif okHeap [Ob.box [(str p0_0), (num p0_1)]] rh.2 then bif rh.fst.isPan then some (Res.pan rh.fst.why,
  [Ob.box [(str ((rh.snd.ob 0).cell 0).data.toStr), (num ((rh.snd.ob 0).cell 1).data.toInt)]]) else bif okRes PP 3 rh.fst then some (Res.ret
  (AV.agg [(num 1), (num rh.fst.val.data.toInt), (str []), AV.e (E.sl 9 []), AV.e (E.sl 39 [])]), [Ob.box [(str ((rh.snd.ob
  0).cell 0).data.toStr), (num ((rh.snd.ob 0).cell 1).data.toInt)]]) else none else none else none := by kernel_rfl
theorem eq_payload (run : RunF) (loop : LoopF) (a0 : List UInt8) : bodyRun PP HH run loop none 54 [.e (.str a0)] [] = (run none 103 [AV.ptr 0 0, AV.e (E.int
  IntKind.i64 1)] [Ob.box [(str a0), (num 0)]]).bind fun rh => bif okHeap [Ob.box [(str a0), (num 0)]] rh.2 then bif
  rh.fst.isPan then (run (some (some rh.fst.why)) 87 [AV.ptr 0 0, AV.ptr 1 0] [Ob.box [(num 0)], Ob.box [(num 0)]]).bind fun rh_1 => bif
  rh_1.fst.isRcv then bif okHeap [Ob.box [(num 0)], Ob.box [(num 0)]] rh_1.2 then some (Res.ret (AV.tup [AV.agg [(num 0),
  (num 0), (str []), AV.e (E.sl 9 []), AV.e (E.sl 39 [])], (num ((rh_1.snd.ob 0).cell 0).data.toInt), AV.e (E.int IntKind.i64
  ((rh_1.snd.ob 1).cell 0).data.toInt)]), []) else none else bif rh_1.fst.isRet then bif okHeap [Ob.box [(num 0)], Ob.box [(num 0)]] rh_1.2
  then some (Res.pan rh.fst.why, []) else none else none else bif okRes PP 39 rh.fst then bif !((rh.snd.ob 0).cell 1).data.toInt == (↑((rh.snd.ob 0).cell
  0).data.toStr.length : Int) then (run (some (some (E.ifc 150 (E.agg [E.int IntKind.i64 2, E.int IntKind.i64 ((rh.snd.ob 0).cell 1).data.toInt].reverse)))) 87 [AV.ptr 0 0, AV.ptr
  1 0] [Ob.box [(num 0)], Ob.box [(num 0)]]).bind fun rh_1 => bif rh_1.fst.isRcv then bif okHeap [Ob.box [(num 0)], Ob.box
  [(num 0)]] rh_1.2 then some (Res.ret (AV.tup [AV.agg [(num 0), (num 0), (str []), AV.e (E.sl 9 []), AV.e (E.sl 39
  [])], (num ((rh_1.snd.ob 0).cell 0).data.toInt), (num ((rh_1.snd.ob 1).cell 0).data.toInt)]), []) else none else bif rh_1.fst.isRet then bif
  okHeap [Ob.box [(num 0)], Ob.box [(num 0)]] rh_1.2 then some (Res.pan (E.ifc 150 (E.agg [E.int IntKind.i64 2, E.int IntKind.i64 ((rh.snd.ob
  0).cell 1).data.toInt].reverse)), []) else none else none else (run (some none) 87 [AV.ptr 0 0, AV.ptr 1 0] [Ob.box [(num 0)], Ob.box [AV.e (E.int IntKind.i64
  0)]]).bind fun rh_1 => bif rh_1.fst.isRet then bif okHeap [Ob.box [(num 0)], Ob.box [(num 0)]] rh_1.2 then some (Res.ret (AV.tup [AV.agg
  [(num (rh.fst.val.data.cell 0).toInt), (num (rh.fst.val.data.cell 1).toInt), (str (rh.fst.val.data.cell 2).toStr), AV.e (E.sl 9
  (rh.fst.val.data.cell 3).toList), AV.e (E.sl 39 (rh.fst.val.data.cell 4).toList)], (num ((rh_1.snd.ob 0).cell 0).data.toInt), AV.e (E.int IntKind.i64
  ((rh_1.snd.ob 1).cell 0).data.toInt)]), []) else none else none else none else none := by kernel_rfl
theorem eq_Value (run : RunF) (loop : LoopF) (a0 : List UInt8) : bodyRun PP HH run loop none 19 [.e (.str a0)] [] = bif decide (65536 < (↑a0.length : Int)) then
  some (Res.ret (AV.tup [AV.agg [(num 0), (num 0), (str []), AV.e (E.sl 9 []), AV.e (E.sl 39 [])], (num 0), AV.e
  (E.int IntKind.i64 5)]), []) else (run none 54 [(str a0)] []).bind fun rh => bif okHeap [] rh.2 then bif okRes PP 40 rh.fst then bif !(rh.fst.val.comp 2).data.toInt
  == 0 then some (Res.ret (AV.tup [AV.agg [(num 0), (num 0), (str []), AV.e (E.sl 9 []), AV.e (E.sl 39 [])], AV.e (E.int IntKind.i64
  (rh.fst.val.comp 1).data.toInt), (num (rh.fst.val.comp 2).data.toInt)]), []) else some (Res.ret (AV.tup [AV.agg [(num ((rh.fst.val.comp
  0).data.cell 0).toInt), (num ((rh.fst.val.comp 0).data.cell 1).toInt), (str ((rh.fst.val.comp 0).data.cell 2).toStr), AV.e (E.sl 9 ((rh.fst.val.comp
  0).data.cell 3).toList), AV.e (E.sl 39 ((rh.fst.val.comp 0).data.cell 4).toList)], (num 0), (num 0)]), []) else none else none := by
  kernel_rfl
theorem eq_rescueN (run : RunF) (loop : LoopF) (p0_0 : Int) (p1_0 : Int) : bodyRun PP HH run loop (some none) 87 [.ptr 0 0, .ptr 1 0] [.box [.e (.int .i64 p0_0)],
  .box [.e (.int .i64 p1_0)]] = some (Res.ret (AV.tup []), [Ob.box [(num p0_0)], Ob.box [(num p1_0)]]) := by kernel_rfl
theorem eq_rescueP (run : RunF) (loop : LoopF) (p0_0 : Int) (p1_0 : Int) (fa fe : Int) : bodyRun PP HH run loop (some (some (.ifc 150 (.agg [.int .i64 fa, .int
  .i64 fe])))) 87 [.ptr 0 0, .ptr 1 0] [.box [.e (.int .i64 p0_0)], .box [.e (.int .i64 p1_0)]] = some (Res.rcv (AV.tup []), [Ob.box [(num fa)], Ob.box [AV.e
  (E.int IntKind.i64 fe)]]) := by kernel_rfl

end Go.Proofs.YtghdhhmlmdohkaaGreatDoor
