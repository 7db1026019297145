/- The equations of functions, as a program of mine prints them. -/
import Derived.Test.YtapndkailgcboaaGreatDoorBase
namespace Go.Proofs.YtapndkailgcboaaGreatDoor
open Go Go.Den
set_option maxRecDepth 100000
set_option maxHeartbeats 0

theorem eq_nodes (run : RunF) (loop : LoopF) (k mn mx : Int) (os fs gs : List E) (n : Int) : bodyRun PP HH run loop none 14 [.agg [.e (.int .i64 k), .e (.int .i64
  mn), .e (.int .i64 mx), .e (.sl 9 os), .e (.sl 31 fs), .e (.sl 65 gs)], .e (.int .i64 n)] [] = (loop 14 0 lc_14_3 ([uu, (num (IntKind.i64.wrap (n +
  IntKind.i64.wrap (IntKind.i64.wrap (IntKind.i64.wrap (1 + (↑os.length : Int)) + (↑gs.length : Int)) + (↑fs.length : Int))))), AV.ptr 0 0, uu, uu, AV.e (E.int
  IntKind.i64 0)] ++ List.replicate 53 uu) [Ob.box [(num k), (num mn), (num mx), AV.e (E.sl 9 os), AV.e (E.sl 31 fs),
  AV.e (E.sl 65 gs)]]).bind fun o => bif o.ex.isWay (Way.exit 0) then bif okFr ([uu, (num 0), AV.ptr 0 0] ++ List.replicate 56 uu) o.2 && okHeap
  [Ob.box [(num 0), (num 0), (num 0), AV.e (E.sl 9 []), AV.e (E.sl 31 []), AV.e (E.sl 65 [])]] o.3 then (loop 14 0 lc_14_7
  ([uu, (num (List.getD o.fr 1 uu).data.toInt), AV.ptr 0 0, uu, uu, uu, (num 0)] ++ List.replicate 52 uu)
  [Ob.box [(num ((o.hp.ob 0).cell 0).data.toInt), (num ((o.hp.ob 0).cell 1).data.toInt), (num ((o.hp.ob 0).cell
  2).data.toInt), AV.e (E.sl 9 ((o.hp.ob 0).cell 3).data.toList), AV.e (E.sl 31 ((o.hp.ob 0).cell 4).data.toList), AV.e (E.sl 65 ((o.hp.ob 0).cell 5).data.toList)]]).bind fun o =>
  bif o.ex.isWay (Way.exit 2) then bif okFr ([uu, (num 0)] ++ List.replicate 57 uu) o.2 && okHeap [] o.3 then some (Res.ret (AV.e (E.int IntKind.i64
  (List.getD o.fr 1 uu).data.toInt)), []) else none else none else none else none := by kernel_rfl
theorem eq_nodesL3 (run : RunF) (loop : LoopF) (k mn mx : Int) (os fs gs : List E) (n i : Int) : bodyLoop PP HH run loop 14 0 lc_14_3 ((((List.replicate 59
  uu).set 1 (.e (.int .i64 n))).set 2 (.ptr 0 0)).set 5 (.e (.int .i64 i))) [.box [.e (.int .i64 k), .e (.int .i64 mn), .e (.int .i64 mx), .e (.sl 9 os), .e (.sl 31 fs), .e
  (.sl 65 gs)]] = bif bif decide (i < (↑fs.length : Int)) then decide (n < 600) else false then bif decide (0 ≤ i) && decide (i < (↑fs.length : Int)) then (run none 14 [AV.agg
  [(num ((fs.getD i.toNat E.nili).cell 0).toInt), (num ((fs.getD i.toNat E.nili).cell 1).toInt), (num ((fs.getD i.toNat
  E.nili).cell 2).toInt), AV.e (E.sl 9 ((fs.getD i.toNat E.nili).cell 3).toList), AV.e (E.sl 31 ((fs.getD i.toNat E.nili).cell 4).toList), AV.e (E.sl 65 ((fs.getD i.toNat
  E.nili).cell 5).toList)], (num n)] []).bind fun rh => bif okHeap [] rh.2 then bif okRes PP 3 rh.fst then (loop 14 0 lc_14_3 ([uu, AV.e (E.int
  IntKind.i64 rh.fst.val.data.toInt), AV.ptr 0 0, uu, uu, (num (IntKind.i64.wrap (i + 1)))] ++ List.replicate 53 uu) [Ob.box [AV.e (E.int
  IntKind.i64 k), (num mn), (num mx), AV.e (E.sl 9 os), AV.e (E.sl 31 fs), AV.e (E.sl 65 gs)]]).bind fun o => some o else none else none else
  none else some (Out.mk (Ex.exit 0) (([uu, (num n), AV.ptr 0 0] ++ List.replicate 56 uu)) ([Ob.box [(num k), AV.e (E.int
  IntKind.i64 mn), (num mx), AV.e (E.sl 9 os), AV.e (E.sl 31 fs), AV.e (E.sl 65 gs)]]) ([])) := by kernel_rfl
theorem eq_nodesL7 (run : RunF) (loop : LoopF) (k mn mx : Int) (os fs gs : List E) (n i : Int) : bodyLoop PP HH run loop 14 0 lc_14_7 ((((List.replicate 59
  uu).set 1 (.e (.int .i64 n))).set 2 (.ptr 0 0)).set 6 (.e (.int .i64 i))) [.box [.e (.int .i64 k), .e (.int .i64 mn), .e (.int .i64 mx), .e (.sl 9 os), .e (.sl 31 fs), .e
  (.sl 65 gs)]] = bif bif decide (i < (↑gs.length : Int)) then decide (n < 600) else false then bif decide (0 ≤ i) && decide (i < (↑gs.length : Int)) then (run none 14 [AV.agg
  [(num ((gs.getD i.toNat E.nili).cell 2).toInt), (num ((gs.getD i.toNat E.nili).cell 3).toInt), (num ((gs.getD i.toNat
  E.nili).cell 4).toInt), AV.e (E.sl 9 ((gs.getD i.toNat E.nili).cell 5).toList), AV.e (E.sl 31 ((gs.getD i.toNat E.nili).cell 6).toList), AV.e (E.sl 65 ((gs.getD i.toNat
  E.nili).cell 7).toList)], (num n)] []).bind fun rh => bif okHeap [] rh.2 then bif okRes PP 3 rh.fst then (loop 14 0 lc_14_7 ([uu, AV.e (E.int
  IntKind.i64 rh.fst.val.data.toInt), AV.ptr 0 0, uu, uu, uu, (num (IntKind.i64.wrap (i + 1)))] ++ List.replicate 52 uu) [Ob.box [AV.e
  (E.int IntKind.i64 k), (num mn), (num mx), AV.e (E.sl 9 os), AV.e (E.sl 31 fs), AV.e (E.sl 65 gs)]]).bind fun o => some o else none else
  none else none else some (Out.mk (Ex.exit 2) (([uu, (num n)] ++ List.replicate 57 uu)) ([]) ([])) := by kernel_rfl
theorem eq_Check (run : RunF) (loop : LoopF) (k mn mx : Int) (os fs gs : List E) : bodyRun PP HH run loop none 31 [.agg [.e (.int .i64 k), .e (.int .i64 mn), .e
  (.int .i64 mx), .e (.sl 9 os), .e (.sl 31 fs), .e (.sl 65 gs)]] [] = (run none 57 [AV.agg [(num k), (num mn), (num mx),
  AV.e (E.sl 9 os), AV.e (E.sl 31 fs), AV.e (E.sl 65 gs)], (num 6)] []).bind fun rh => bif okHeap [] rh.2 then bif okRes PP 3 rh.fst then bif decide (6 <
  rh.fst.val.data.toInt) then some (Res.ret ((num 27)), []) else (run none 58 [AV.agg [(num k), (num mn), AV.e (E.int
  IntKind.i64 mx), AV.e (E.sl 9 os), AV.e (E.sl 31 fs), AV.e (E.sl 65 gs)]] []).bind fun rh => bif okHeap [] rh.2 then bif okRes PP 25 rh.fst then some (Res.ret (AV.e (E.int
  IntKind.i64 rh.fst.val.data.toInt)), []) else none else none else none else none := by kernel_rfl
theorem eq_deep (run : RunF) (loop : LoopF) (k mn mx : Int) (os fs gs : List E) (n : Int) : bodyRun PP HH run loop none 57 [.agg [.e (.int .i64 k), .e (.int .i64
  mn), .e (.int .i64 mx), .e (.sl 9 os), .e (.sl 31 fs), .e (.sl 65 gs)], .e (.int .i64 n)] [] = bif n == 0 then some (Res.ret ((num 1)), []) else bif k == 5
  then (loop 57 0 lc_57_6 ([uu, (num n), AV.ptr 0 0, uu, uu, (num 0)] ++ List.replicate 10 uu ++ [AV.e (E.sl 31 fs),
  (num (↑fs.length : Int)), (num 0)] ++ List.replicate 30 uu) [Ob.box [(num k), (num mn), AV.e
  (E.int IntKind.i64 mx), AV.e (E.sl 9 os), AV.e (E.sl 31 fs), AV.e (E.sl 65 gs)]]).bind fun o => bif o.ex.isWay (Way.exit 0) then bif okFr ([uu, (num 0),
  AV.ptr 0 0, uu, uu, (num 0)] ++ List.replicate 43 uu) o.2 && okHeap [Ob.box [(num 0), (num 0), AV.e
  (E.int IntKind.i64 0), AV.e (E.sl 9 []), AV.e (E.sl 31 []), AV.e (E.sl 65 [])]] o.3 then bif ((o.hp.ob 0).cell 0).data.toInt == 6 then (loop 57 0 lc_57_12 ([uu, AV.e (E.int
  IntKind.i64 (List.getD o.fr 1 uu).data.toInt), uu, uu, uu, (num (List.getD o.fr 5 uu).data.toInt)] ++ List.replicate 27 uu
  ++ [AV.e (E.sl 65 ((o.hp.ob 0).cell 5).data.toList), (num (↑((o.hp.ob 0).cell 5).data.toList.length : Int)), (num 0)] ++ List.replicate 13
  uu) []).bind fun o => bif o.ex.isWay (Way.exit 2) then bif okFr ([uu, uu, uu, uu, uu, (num 0)] ++ List.replicate 43
  uu) o.2 && okHeap [] o.3 then some (Res.ret ((num (IntKind.i64.wrap ((List.getD o.fr 5 uu).data.toInt + 1)))), []) else none else none else some
  (Res.ret ((num (IntKind.i64.wrap ((List.getD o.fr 5 uu).data.toInt + 1)))), []) else none else none else bif k == 6 then (loop 57 0 lc_57_12 ([uu,
  (num n), uu, uu, uu, (num 0)] ++ List.replicate 27 uu ++ [AV.e (E.sl 65 gs), (num (↑gs.length :
  Int)), (num 0)] ++ List.replicate 13 uu) []).bind fun o => bif o.ex.isWay (Way.exit 2) then bif okFr ([uu, uu, uu, uu, uu,
  (num 0)] ++ List.replicate 43 uu) o.2 && okHeap [] o.3 then some (Res.ret ((num (IntKind.i64.wrap ((List.getD o.fr 5
  uu).data.toInt + 1)))), []) else none else none else some (Res.ret ((num (IntKind.i64.wrap (0 + 1)))), []) := by kernel_rfl
theorem eq_deepL6 (run : RunF) (loop : LoopF) (k mn mx : Int) (os fs gs : List E) (n m i l : Int) : bodyLoop PP HH run loop 57 0 lc_57_6 (((((((List.replicate 49
  uu).set 1 (.e (.int .i64 n))).set 2 (.ptr 0 0)).set 5 (.e (.int .i64 m))).set 16 (.e (.sl 31 fs))).set 17 (.e (.int .i64 l))).set 18 (.e (.int .i64 i))) [.box [.e (.int
  .i64 k), .e (.int .i64 mn), .e (.int .i64 mx), .e (.sl 9 os), .e (.sl 31 fs), .e (.sl 65 gs)]] = bif decide (i < l) then bif decide (0 ≤ i) && decide (i < (↑fs.length : Int))
  then (run none 57 [AV.agg [(num ((fs.getD i.toNat E.nili).cell 0).toInt), (num ((fs.getD i.toNat E.nili).cell 1).toInt), AV.e (E.int
  IntKind.i64 ((fs.getD i.toNat E.nili).cell 2).toInt), AV.e (E.sl 9 ((fs.getD i.toNat E.nili).cell 3).toList), AV.e (E.sl 31 ((fs.getD i.toNat E.nili).cell 4).toList), AV.e (E.sl
  65 ((fs.getD i.toNat E.nili).cell 5).toList)], (num (IntKind.i64.wrap (n - 1)))] []).bind fun rh => bif okHeap [] rh.2 then bif okRes PP 3 rh.fst then
  (loop 57 0 lc_57_6 ([uu, (num n), AV.ptr 0 0, uu, uu, (num (max m rh.fst.val.data.toInt))] ++ List.replicate 10 uu
  ++ [AV.e (E.sl 31 fs), (num l), (num (IntKind.i64.wrap (i + 1)))] ++ List.replicate 30 uu) [Ob.box [(num k), AV.e
  (E.int IntKind.i64 mn), (num mx), AV.e (E.sl 9 os), AV.e (E.sl 31 fs), AV.e (E.sl 65 gs)]]).bind fun o => some o else none else none else none else some
  (Out.mk (Ex.exit 0) (([uu, (num n), AV.ptr 0 0, uu, uu, (num m)] ++ List.replicate 43 uu)) ([Ob.box [AV.e (E.int
  IntKind.i64 k), (num mn), (num mx), AV.e (E.sl 9 os), AV.e (E.sl 31 fs), AV.e (E.sl 65 gs)]]) ([])) := by kernel_rfl
theorem eq_deepL12 (run : RunF) (loop : LoopF) (gs : List E) (n m i l : Int) : bodyLoop PP HH run loop 57 0 lc_57_12 ((((((List.replicate 49 uu).set 1 (.e
  (.int .i64 n))).set 5 (.e (.int .i64 m))).set 33 (.e (.sl 65 gs))).set 34 (.e (.int .i64 l))).set 35 (.e (.int .i64 i))) [] = bif decide (i < l) then bif decide (0 ≤ i) && decide
  (i < (↑gs.length : Int)) then (run none 57 [AV.agg [(num ((gs.getD i.toNat E.nili).cell 2).toInt), (num ((gs.getD i.toNat E.nili).cell
  3).toInt), (num ((gs.getD i.toNat E.nili).cell 4).toInt), AV.e (E.sl 9 ((gs.getD i.toNat E.nili).cell 5).toList), AV.e (E.sl 31 ((gs.getD i.toNat E.nili).cell
  6).toList), AV.e (E.sl 65 ((gs.getD i.toNat E.nili).cell 7).toList)], (num (IntKind.i64.wrap (n - 1)))] []).bind fun rh => bif okHeap [] rh.2 then bif okRes
  PP 3 rh.fst then (loop 57 0 lc_57_12 ([uu, (num n), uu, uu, uu, (num (max m rh.fst.val.data.toInt))] ++
  List.replicate 27 uu ++ [AV.e (E.sl 65 gs), (num l), (num (IntKind.i64.wrap (i + 1)))] ++ List.replicate 13 uu) []).bind fun o
  => some o else none else none else none else some (Out.mk (Ex.exit 2) (([uu, uu, uu, uu, uu, (num m)] ++ List.replicate 43
  uu)) ([]) ([])) := by kernel_rfl
theorem eq_check (run : RunF) (loop : LoopF) (k mn mx : Int) (os fs gs : List E) : bodyRun PP HH run loop none 58 [.agg [.e (.int .i64 k), .e (.int .i64 mn), .e
  (.int .i64 mx), .e (.sl 9 os), .e (.sl 31 fs), .e (.sl 65 gs)]] [] = bif bif decide (k < 1) then true else decide (7 < k) then some (Res.ret ((num 10)), [])
  else (run none 83 [AV.agg [(num k), (num mn), (num mx), AV.e (E.sl 9 os), AV.e (E.sl 31 fs), AV.e (E.sl 65 gs)]] []).bind
  fun rh => bif okHeap [] rh.2 then bif okRes PP 4 rh.fst then bif rh.fst.val.data.toBool then some (Res.ret ((num 28)), []) else bif k == 1 then (run
  none 84 [AV.agg [(num k), (num mn), (num mx), AV.e (E.sl 9 os), AV.e (E.sl 31 fs), AV.e (E.sl 65 gs)], AV.e (E.int
  IntKind.i64 (-4611686018427387904)), (num 4611686018427387904)] []).bind fun rh => bif okHeap [] rh.2 then bif okRes PP 25 rh.fst then some (Res.ret
  ((num rh.fst.val.data.toInt)), []) else none else none else bif k == 2 then (run none 84 [AV.agg [(num k), (num mn), AV.e
  (E.int IntKind.i64 mx), AV.e (E.sl 9 os), AV.e (E.sl 31 fs), AV.e (E.sl 65 gs)], (num 0), (num 256)] []).bind fun rh => bif okHeap [] rh.2
  then bif okRes PP 25 rh.fst then some (Res.ret ((num rh.fst.val.data.toInt)), []) else none else none else bif k == 4 then bif (↑os.length : Int) == 0
  then some (Res.ret ((num 1)), []) else bif decide (16 < (↑os.length : Int)) then some (Res.ret ((num 5)), []) else (loop 58 0 lc_58_16
  ([uu, AV.ptr 0 0] ++ List.replicate 40 uu ++ [AV.e (E.sl 9 os), (num (↑os.length : Int)), (num 0)] ++ List.replicate 68
  uu) [Ob.box [(num k), (num mn), (num mx), AV.e (E.sl 9 os), AV.e (E.sl 31 fs), AV.e (E.sl 65 gs)]]).bind fun o =>
  bif o.ex.isWay (Way.exit 1) then bif okFr (List.replicate 113 uu) o.2 && okHeap [] o.3 then some (Res.ret ((num 0)), []) else none else bif o.ex.isWay
  Way.ret then bif okFr ([uu, uu, (num 0)] ++ List.replicate 110 uu) o.2 && okHeap [] o.3 then some (Res.ret (AV.e (E.int IntKind.i64
  (List.getD o.fr 2 uu).data.toInt)), []) else none else none else bif k == 5 then (run none 84 [AV.agg [(num k), (num mn), AV.e (E.int
  IntKind.i64 mx), AV.e (E.sl 9 os), AV.e (E.sl 31 fs), AV.e (E.sl 65 gs)], (num 0), (num 32)] []).bind fun rh => bif okHeap [] rh.2 then bif
  okRes PP 25 rh.fst then bif !rh.fst.val.data.toInt == 0 then some (Res.ret ((num rh.fst.val.data.toInt)), []) else bif decide (0 < (↑fs.length : Int))
  then (run none 58 [AV.agg [(num ((fs.getD 0 E.nili).cell 0).toInt), (num ((fs.getD 0 E.nili).cell 1).toInt), AV.e (E.int IntKind.i64
  ((fs.getD 0 E.nili).cell 2).toInt), AV.e (E.sl 9 ((fs.getD 0 E.nili).cell 3).toList), AV.e (E.sl 31 ((fs.getD 0 E.nili).cell 4).toList), AV.e (E.sl 65 ((fs.getD 0 E.nili).cell
  5).toList)]] []).bind fun rh => bif okHeap [] rh.2 then bif okRes PP 25 rh.fst then some (Res.ret ((num rh.fst.val.data.toInt)), []) else none else none
  else none else none else none else bif k == 6 then bif decide (16 < (↑gs.length : Int)) then some (Res.ret ((num 5)), []) else (loop 58 0 lc_58_31 ([uu,
  AV.ptr 0 0] ++ List.replicate 81 uu ++ [AV.e (E.sl 65 gs), (num (↑gs.length : Int)), (num 0)] ++ List.replicate 27 uu) [Ob.box
  [(num k), (num mn), (num mx), AV.e (E.sl 9 os), AV.e (E.sl 31 fs), AV.e (E.sl 65 gs)]]).bind fun o => bif o.ex.isWay
  (Way.exit 3) then bif okFr (List.replicate 113 uu) o.2 && okHeap [] o.3 then some (Res.ret ((num 0)), []) else none else bif o.ex.isWay Way.ret then bif
  okFr ([uu, uu, (num 0)] ++ List.replicate 110 uu) o.2 && okHeap [] o.3 then some (Res.ret ((num (List.getD o.fr 2
  uu).data.toInt)), []) else none else none else some (Res.ret ((num 0)), []) else none else none := by kernel_rfl
theorem eq_unused (run : RunF) (loop : LoopF) (k mn mx : Int) (os fs gs : List E) : bodyRun PP HH run loop none 83 [.agg [.e (.int .i64 k), .e (.int .i64 mn), .e
  (.int .i64 mx), .e (.sl 9 os), .e (.sl 31 fs), .e (.sl 65 gs)]] [] = bif k == 5 then bif (!bif bif k == 1 then true else k == 2 then true else k == 5) == true then bif (!mn == 0)
  == false then bif (!mx == 0) == false then bif (!k == 4) == true then bif (bif decide (0 < (↑os.length : Int)) then true else !(↑fs.length : Int) == 1) == false then bif (!k ==
  6) == true then some (Res.ret ((yes (decide (0 < (↑gs.length : Int))))), []) else some (Res.ret ((yes false)), []) else some (Res.ret ((yes true)), [])
  else bif (bif false then true else !(↑fs.length : Int) == 1) == false then bif (!k == 6) == true then some (Res.ret ((yes (decide (0 < (↑gs.length : Int))))), []) else
  some (Res.ret ((yes false)), []) else some (Res.ret ((yes true)), []) else some (Res.ret ((yes true)), []) else some (Res.ret ((yes true)), [])
  else bif (!k == 4) == true then bif (bif decide (0 < (↑os.length : Int)) then true else !(↑fs.length : Int) == 1) == false then bif (!k == 6) == true then some (Res.ret (AV.e
  (E.bool (decide (0 < (↑gs.length : Int))))), []) else some (Res.ret ((yes false)), []) else some (Res.ret ((yes true)), []) else bif (bif false then true else
  !(↑fs.length : Int) == 1) == false then bif (!k == 6) == true then some (Res.ret ((yes (decide (0 < (↑gs.length : Int))))), []) else some (Res.ret ((yes false)),
  []) else some (Res.ret ((yes true)), []) else bif (!bif bif k == 1 then true else k == 2 then true else k == 5) == true then bif (!mn == 0) == false then bif (!mx == 0)
  == false then bif (!k == 4) == true then bif (bif decide (0 < (↑os.length : Int)) then true else !(↑fs.length : Int) == 0) == false then bif (!k == 6) == true then some (Res.ret
  ((yes (decide (0 < (↑gs.length : Int))))), []) else some (Res.ret ((yes false)), []) else some (Res.ret ((yes true)), []) else bif (bif false then true
  else !(↑fs.length : Int) == 0) == false then bif (!k == 6) == true then some (Res.ret ((yes (decide (0 < (↑gs.length : Int))))), []) else some (Res.ret (AV.e (E.bool
  false)), []) else some (Res.ret ((yes true)), []) else some (Res.ret ((yes true)), []) else some (Res.ret ((yes true)), []) else bif (!k == 4) == true
  then bif (bif decide (0 < (↑os.length : Int)) then true else !(↑fs.length : Int) == 0) == false then bif (!k == 6) == true then some (Res.ret ((yes (decide (0 <
  (↑gs.length : Int))))), []) else some (Res.ret ((yes false)), []) else some (Res.ret ((yes true)), []) else bif (bif false then true else !(↑fs.length : Int) ==
  0) == false then bif (!k == 6) == true then some (Res.ret ((yes (decide (0 < (↑gs.length : Int))))), []) else some (Res.ret ((yes false)), []) else some (Res.ret
  ((yes true)), []) := by kernel_rfl
theorem eq_within (run : RunF) (loop : LoopF) (k mn mx : Int) (os fs gs : List E) (l h : Int) : bodyRun PP HH run loop none 84 [.agg [.e (.int .i64 k), .e (.int
  .i64 mn), .e (.int .i64 mx), .e (.sl 9 os), .e (.sl 31 fs), .e (.sl 65 gs)], .e (.int .i64 l), .e (.int .i64 h)] [] = bif bif bif decide (mn < l) then true else decide (mx < mn)
  then true else decide (h < mx) then some (Res.ret ((num 1)), []) else some (Res.ret ((num 0)), []) := by kernel_rfl
theorem eq_named (run : RunF) (loop : LoopF) (s b : List UInt8) (f : Bool) : bodyRun PP HH run loop none 85 [.e (.str s), .e (.str b), .e (.bool f)] [] = (run none
  55 [(str s)] []).bind fun rh => bif okHeap [] rh.2 then bif okRes PP 4 rh.fst then bif !rh.fst.val.data.toBool then some (Res.ret ((num 11)), [])
  else bif bif !f then Op.bytesLess s b || strEq s b else false then some (Res.ret ((num 22)), []) else some (Res.ret ((num 0)), []) else none
  else none := by kernel_rfl
theorem eq_RCheck (run : RunF) (loop : LoopF) (k mn mx : Int) (os fs gs : List E) : bodyRun PP HH run loop none 15 [.agg [.e (.int .i64 k), .e (.int .i64 mn), .e
  (.int .i64 mx), .e (.sl 9 os), .e (.sl 31 fs), .e (.sl 65 gs)]] [] = (run none 37 [AV.agg [(num k), (num mn), (num mx),
  AV.e (E.sl 9 os), AV.e (E.sl 31 fs), AV.e (E.sl 65 gs)], (num 1)] []).bind fun rh => bif okHeap [] rh.2 then bif okRes PP 4 rh.fst then bif
  rh.fst.val.data.toBool then some (Res.ret ((num 27)), []) else (run none 38 [AV.agg [(num k), (num mn), AV.e (E.int
  IntKind.i64 mx), AV.e (E.sl 9 os), AV.e (E.sl 31 fs), AV.e (E.sl 65 gs)], (num 1)] []).bind fun rh => bif okHeap [] rh.2 then bif okRes PP 25 rh.fst
  then some (Res.ret ((num rh.fst.val.data.toInt)), []) else none else none else none else none := by kernel_rfl
theorem eq_RDeep (run : RunF) (loop : LoopF) (k mn mx : Int) (os fs gs : List E) (n : Int) : bodyRun PP HH run loop none 37 [.agg [.e (.int .i64 k), .e (.int .i64
  mn), .e (.int .i64 mx), .e (.sl 9 os), .e (.sl 31 fs), .e (.sl 65 gs)], .e (.int .i64 n)] [] = bif decide (6 < n) then some (Res.ret ((yes true)), []) else (loop 37 0
  lc_37_4 ([uu, (num n), AV.ptr 0 0, uu, uu, (num 0)] ++ List.replicate 44 uu) [Ob.box [(num k),
  (num mn), (num mx), AV.e (E.sl 9 os), AV.e (E.sl 31 fs), AV.e (E.sl 65 gs)]]).bind fun o => bif o.ex.isWay (Way.exit 0) then bif okFr
  ([uu, (num 0), AV.ptr 0 0] ++ List.replicate 47 uu) o.2 && okHeap [Ob.box [(num 0), (num 0), AV.e (E.int
  IntKind.i64 0), AV.e (E.sl 9 []), AV.e (E.sl 31 []), AV.e (E.sl 65 [])]] o.3 then (loop 37 0 lc_37_9 ([uu, (num (List.getD o.fr 1 uu).data.toInt),
  AV.ptr 0 0, uu, uu, uu, (num 0)] ++ List.replicate 43 uu) [Ob.box [(num ((o.hp.ob 0).cell 0).data.toInt), AV.e
  (E.int IntKind.i64 ((o.hp.ob 0).cell 1).data.toInt), (num ((o.hp.ob 0).cell 2).data.toInt), AV.e (E.sl 9 ((o.hp.ob 0).cell 3).data.toList), AV.e (E.sl 31
  ((o.hp.ob 0).cell 4).data.toList), AV.e (E.sl 65 ((o.hp.ob 0).cell 5).data.toList)]]).bind fun o => bif o.ex.isWay (Way.exit 2) then bif okFr (List.replicate 50 uu) o.2 &&
  okHeap [] o.3 then some (Res.ret ((yes false)), []) else none else bif o.ex.isWay Way.ret then bif okFr ([uu, uu, uu, uu, (yes false)] ++
  List.replicate 45 uu) o.2 && okHeap [] o.3 then some (Res.ret ((yes (List.getD o.fr 4 uu).data.toBool)), []) else none else none else none else bif o.ex.isWay
  Way.ret then bif okFr ([uu, uu, uu, uu, (yes false)] ++ List.replicate 45 uu) o.2 && okHeap [] o.3 then some (Res.ret (AV.e (E.bool
  (List.getD o.fr 4 uu).data.toBool)), []) else none else none := by kernel_rfl
theorem eq_RDeepL4 (run : RunF) (loop : LoopF) (k mn mx : Int) (os fs gs : List E) (n i : Int) : bodyLoop PP HH run loop 37 0 lc_37_4 ((((List.replicate 50
  uu).set 1 (.e (.int .i64 n))).set 2 (.ptr 0 0)).set 5 (.e (.int .i64 i))) [.box [.e (.int .i64 k), .e (.int .i64 mn), .e (.int .i64 mx), .e (.sl 9 os), .e (.sl 31 fs), .e
  (.sl 65 gs)]] = bif bif decide (i < (↑fs.length : Int)) then k == 5 else false then bif decide (0 ≤ i) && decide (i < (↑fs.length : Int)) then (run none 37 [AV.agg [AV.e (E.int
  IntKind.i64 ((fs.getD i.toNat E.nili).cell 0).toInt), (num ((fs.getD i.toNat E.nili).cell 1).toInt), (num ((fs.getD i.toNat E.nili).cell
  2).toInt), AV.e (E.sl 9 ((fs.getD i.toNat E.nili).cell 3).toList), AV.e (E.sl 31 ((fs.getD i.toNat E.nili).cell 4).toList), AV.e (E.sl 65 ((fs.getD i.toNat E.nili).cell
  5).toList)], (num (IntKind.i64.wrap (n + 1)))] []).bind fun rh => bif okHeap [] rh.2 then bif okRes PP 4 rh.fst then bif rh.fst.val.data.toBool then
  some (Out.mk (Ex.ret) (([uu, uu, uu, uu, (yes true)] ++ List.replicate 45 uu)) ([]) ([])) else (loop 37 0 lc_37_4 ([uu, AV.e (E.int
  IntKind.i64 n), AV.ptr 0 0, uu, uu, (num (IntKind.i64.wrap (i + 1)))] ++ List.replicate 44 uu) [Ob.box [(num k), AV.e
  (E.int IntKind.i64 mn), (num mx), AV.e (E.sl 9 os), AV.e (E.sl 31 fs), AV.e (E.sl 65 gs)]]).bind fun o => some o else none else none else none else some
  (Out.mk (Ex.exit 0) (([uu, (num n), AV.ptr 0 0] ++ List.replicate 47 uu)) ([Ob.box [(num k), (num mn), AV.e
  (E.int IntKind.i64 mx), AV.e (E.sl 9 os), AV.e (E.sl 31 fs), AV.e (E.sl 65 gs)]]) ([])) := by kernel_rfl
theorem eq_RDeepL9 (run : RunF) (loop : LoopF) (k mn mx : Int) (os fs gs : List E) (n i : Int) : bodyLoop PP HH run loop 37 0 lc_37_9 ((((List.replicate 50
  uu).set 1 (.e (.int .i64 n))).set 2 (.ptr 0 0)).set 6 (.e (.int .i64 i))) [.box [.e (.int .i64 k), .e (.int .i64 mn), .e (.int .i64 mx), .e (.sl 9 os), .e (.sl 31 fs), .e
  (.sl 65 gs)]] = bif bif decide (i < (↑gs.length : Int)) then k == 6 else false then bif decide (0 ≤ i) && decide (i < (↑gs.length : Int)) then (run none 37 [AV.agg [AV.e (E.int
  IntKind.i64 ((gs.getD i.toNat E.nili).cell 2).toInt), (num ((gs.getD i.toNat E.nili).cell 3).toInt), (num ((gs.getD i.toNat E.nili).cell
  4).toInt), AV.e (E.sl 9 ((gs.getD i.toNat E.nili).cell 5).toList), AV.e (E.sl 31 ((gs.getD i.toNat E.nili).cell 6).toList), AV.e (E.sl 65 ((gs.getD i.toNat E.nili).cell
  7).toList)], (num (IntKind.i64.wrap (n + 1)))] []).bind fun rh => bif okHeap [] rh.2 then bif okRes PP 4 rh.fst then bif rh.fst.val.data.toBool then
  some (Out.mk (Ex.ret) (([uu, uu, uu, uu, (yes true)] ++ List.replicate 45 uu)) ([]) ([])) else (loop 37 0 lc_37_9 ([uu, AV.e (E.int
  IntKind.i64 n), AV.ptr 0 0, uu, uu, uu, (num (IntKind.i64.wrap (i + 1)))] ++ List.replicate 43 uu) [Ob.box [(num k),
  (num mn), (num mx), AV.e (E.sl 9 os), AV.e (E.sl 31 fs), AV.e (E.sl 65 gs)]]).bind fun o => some o else none else none else none else some
  (Out.mk (Ex.exit 2) ((List.replicate 50 uu)) ([]) ([])) := by kernel_rfl
theorem eq_rcheck (run : RunF) (loop : LoopF) (k mn mx : Int) (os fs gs : List E) (n : Int) : bodyRun PP HH run loop none 38 [.agg [.e (.int .i64 k), .e (.int .i64
  mn), .e (.int .i64 mx), .e (.sl 9 os), .e (.sl 31 fs), .e (.sl 65 gs)], .e (.int .i64 n)] [] = bif bif decide (k < 1) then true else decide (7 < k) then some (Res.ret (AV.e
  (E.int IntKind.i64 10)), []) else (run none 63 [AV.agg [(num k), (num mn), (num mx), AV.e (E.sl 9 os), AV.e (E.sl 31 fs),
  AV.e (E.sl 65 gs)]] []).bind fun rh => bif okHeap [] rh.2 then bif okRes PP 4 rh.fst then bif rh.fst.val.data.toBool then some (Res.ret ((num 28)), [])
  else bif k == 1 then (run none 64 [(num mn), (num mx), (num (-4611686018427387904)), AV.e (E.int IntKind.i64
  4611686018427387904)] []).bind fun rh => bif okHeap [] rh.2 then bif okRes PP 4 rh.fst then bif !rh.fst.val.data.toBool then some (Res.ret ((num 1)),
  []) else some (Res.ret ((num 0)), []) else none else none else bif k == 2 then (run none 64 [(num mn), (num mx), AV.e
  (E.int IntKind.i64 0), (num 256)] []).bind fun rh => bif okHeap [] rh.2 then bif okRes PP 4 rh.fst then bif !rh.fst.val.data.toBool then some (Res.ret
  ((num 1)), []) else some (Res.ret ((num 0)), []) else none else none else bif k == 4 then (run none 65 [AV.e (E.sl 9 os)] []).bind fun rh =>
  bif okHeap [] rh.2 then bif okRes PP 25 rh.fst then some (Res.ret ((num rh.fst.val.data.toInt)), []) else none else none else bif k == 5 then (run none
  64 [(num mn), (num mx), (num 0), (num 32)] []).bind fun rh => bif okHeap [] rh.2 then bif okRes
  PP 4 rh.fst then bif !rh.fst.val.data.toBool then some (Res.ret ((num 1)), []) else bif decide (0 < (↑fs.length : Int)) then (run none 38 [AV.agg [AV.e
  (E.int IntKind.i64 ((fs.getD 0 E.nili).cell 0).toInt), (num ((fs.getD 0 E.nili).cell 1).toInt), (num ((fs.getD 0 E.nili).cell 2).toInt),
  AV.e (E.sl 9 ((fs.getD 0 E.nili).cell 3).toList), AV.e (E.sl 31 ((fs.getD 0 E.nili).cell 4).toList), AV.e (E.sl 65 ((fs.getD 0 E.nili).cell 5).toList)], AV.e (E.int IntKind.i64
  (IntKind.i64.wrap (n + 1)))] []).bind fun rh => bif okHeap [] rh.2 then bif okRes PP 25 rh.fst then some (Res.ret ((num rh.fst.val.data.toInt)), [])
  else none else none else none else none else none else bif k == 6 then (run none 66 [AV.e (E.sl 65 gs), (num (IntKind.i64.wrap (n + 1)))] []).bind fun rh =>
  bif okHeap [] rh.2 then bif okRes PP 25 rh.fst then some (Res.ret ((num rh.fst.val.data.toInt)), []) else none else none else some (Res.ret (AV.e (E.int
  IntKind.i64 0)), []) else none else none := by kernel_rfl
theorem eq_runused (run : RunF) (loop : LoopF) (k mn mx : Int) (os fs gs : List E) : bodyRun PP HH run loop none 63 [.agg [.e (.int .i64 k), .e (.int .i64 mn), .e
  (.int .i64 mx), .e (.sl 9 os), .e (.sl 31 fs), .e (.sl 65 gs)]] [] = bif (!bif bif k == 1 then true else k == 2 then true else k == 5) == true then bif (!mn == 0) == false then
  bif (!mx == 0) == false then bif (!k == 4) == true then bif decide (0 < (↑os.length : Int)) == false then bif (!k == 6) == true then bif decide (0 < (↑gs.length : Int)) then some
  (Res.ret ((yes true)), []) else bif k == 5 then some (Res.ret ((yes !(↑fs.length : Int) == 1)), []) else some (Res.ret ((yes (decide (0 < (↑fs.length :
  Int))))), []) else bif k == 5 then some (Res.ret ((yes !(↑fs.length : Int) == 1)), []) else some (Res.ret ((yes (decide (0 < (↑fs.length : Int))))), []) else some
  (Res.ret ((yes true)), []) else bif (!k == 6) == true then bif decide (0 < (↑gs.length : Int)) then some (Res.ret ((yes true)), []) else bif k == 5 then some
  (Res.ret ((yes !(↑fs.length : Int) == 1)), []) else some (Res.ret ((yes (decide (0 < (↑fs.length : Int))))), []) else bif k == 5 then some (Res.ret (AV.e (E.bool
  !(↑fs.length : Int) == 1)), []) else some (Res.ret ((yes (decide (0 < (↑fs.length : Int))))), []) else some (Res.ret ((yes true)), []) else some (Res.ret (AV.e
  (E.bool true)), []) else bif (!k == 4) == true then bif decide (0 < (↑os.length : Int)) == false then bif (!k == 6) == true then bif decide (0 < (↑gs.length : Int)) then some
  (Res.ret ((yes true)), []) else bif k == 5 then some (Res.ret ((yes !(↑fs.length : Int) == 1)), []) else some (Res.ret ((yes (decide (0 < (↑fs.length :
  Int))))), []) else bif k == 5 then some (Res.ret ((yes !(↑fs.length : Int) == 1)), []) else some (Res.ret ((yes (decide (0 < (↑fs.length : Int))))), []) else some
  (Res.ret ((yes true)), []) else bif (!k == 6) == true then bif decide (0 < (↑gs.length : Int)) then some (Res.ret ((yes true)), []) else bif k == 5 then some
  (Res.ret ((yes !(↑fs.length : Int) == 1)), []) else some (Res.ret ((yes (decide (0 < (↑fs.length : Int))))), []) else bif k == 5 then some (Res.ret (AV.e (E.bool
  !(↑fs.length : Int) == 1)), []) else some (Res.ret ((yes (decide (0 < (↑fs.length : Int))))), []) := by kernel_rfl
theorem eq_checkL16 (run : RunF) (loop : LoopF) (k mn mx : Int) (os fs gs : List E) (l i : Int) : bodyLoop PP HH run loop 58 0 lc_58_16 (((((List.replicate 113
  uu).set 1 (.ptr 0 0)).set 42 (.e (.sl 9 os))).set 43 (.e (.int .i64 l))).set 44 (.e (.int .i64 i))) [.box [.e (.int .i64 k), .e (.int .i64 mn), .e (.int .i64 mx), .e (.sl 9
  os), .e (.sl 31 fs), .e (.sl 65 gs)]] = bif decide (i < l) then bif decide (0 ≤ i) && decide (i < (↑os.length : Int)) then bif decide (0 ≤ max 0 (IntKind.i64.wrap (i - 1))) &&
  decide (max 0 (IntKind.i64.wrap (i - 1)) < (↑os.length : Int)) then (run none 85 [(str ((os.getD i.toNat E.nili).cell 0).toStr), (str ((os.getD (max 0
  (IntKind.i64.wrap (i - 1))).toNat E.nili).cell 0).toStr), (yes (i == 0))] []).bind fun rh => bif okHeap [] rh.2 then bif okRes PP 25 rh.fst then bif
  !rh.fst.val.data.toInt == 0 then some (Out.mk (Ex.ret) (([uu, uu, (num rh.fst.val.data.toInt)] ++ List.replicate 110 uu)) ([]) ([])) else
  (loop 58 0 lc_58_16 ([uu, AV.ptr 0 0] ++ List.replicate 40 uu ++ [AV.e (E.sl 9 os), (num l), (num (IntKind.i64.wrap (i + 1)))]
  ++ List.replicate 68 uu) [Ob.box [(num k), (num mn), (num mx), AV.e (E.sl 9 os), AV.e (E.sl 31 fs), AV.e (E.sl 65
  gs)]]).bind fun o => some o else none else none else none else none else some (Out.mk (Ex.exit 1) ((List.replicate 113 uu)) ([]) ([])) := by kernel_rfl
theorem eq_checkL31 (run : RunF) (loop : LoopF) (k mn mx : Int) (os fs gs : List E) (l i : Int) : bodyLoop PP HH run loop 58 0 lc_58_31 (((((List.replicate 113
  uu).set 1 (.ptr 0 0)).set 83 (.e (.sl 65 gs))).set 84 (.e (.int .i64 l))).set 85 (.e (.int .i64 i))) [.box [.e (.int .i64 k), .e (.int .i64 mn), .e (.int .i64 mx), .e (.sl
  9 os), .e (.sl 31 fs), .e (.sl 65 gs)]] = bif decide (i < l) then bif decide (0 ≤ i) && decide (i < (↑gs.length : Int)) then bif decide (0 ≤ max 0 (IntKind.i64.wrap (i - 1))) &&
  decide (max 0 (IntKind.i64.wrap (i - 1)) < (↑gs.length : Int)) then (run none 85 [(str ((gs.getD i.toNat E.nili).cell 0).toStr), (str ((gs.getD (max 0
  (IntKind.i64.wrap (i - 1))).toNat E.nili).cell 0).toStr), (yes (i == 0))] []).bind fun rh => bif okHeap [] rh.2 then bif okRes PP 25 rh.fst then bif
  !rh.fst.val.data.toInt == 0 then some (Out.mk (Ex.ret) (([uu, uu, (num rh.fst.val.data.toInt)] ++ List.replicate 110 uu)) ([]) ([])) else
  (run none 58 [AV.agg [(num ((gs.getD i.toNat E.nili).cell 2).toInt), (num ((gs.getD i.toNat E.nili).cell 3).toInt), AV.e (E.int IntKind.i64
  ((gs.getD i.toNat E.nili).cell 4).toInt), AV.e (E.sl 9 ((gs.getD i.toNat E.nili).cell 5).toList), AV.e (E.sl 31 ((gs.getD i.toNat E.nili).cell 6).toList), AV.e (E.sl 65 ((gs.getD
  i.toNat E.nili).cell 7).toList)]] []).bind fun rh => bif okHeap [] rh.2 then bif okRes PP 25 rh.fst then bif !rh.fst.val.data.toInt == 0 then some (Out.mk (Ex.ret)
  (([uu, uu, (num rh.fst.val.data.toInt)] ++ List.replicate 110 uu)) ([]) ([])) else (loop 58 0 lc_58_31 ([uu, AV.ptr 0 0] ++
  List.replicate 81 uu ++ [AV.e (E.sl 65 gs), (num l), (num (IntKind.i64.wrap (i + 1)))] ++ List.replicate 27 uu) [Ob.box [AV.e
  (E.int IntKind.i64 k), (num mn), (num mx), AV.e (E.sl 9 os), AV.e (E.sl 31 fs), AV.e (E.sl 65 gs)]]).bind fun o => some o else none else
  none else none else none else none else none else some (Out.mk (Ex.exit 3) ((List.replicate 113 uu)) ([]) ([])) := by kernel_rfl
theorem eq_tName (run : RunF) (loop : LoopF) (s : List UInt8) : bodyRun PP HH run loop none 55 [.e (.str s)] [] = bif bif decide ((↑s.length : Int) < 1) then true
  else decide (16 < (↑s.length : Int)) then some (Res.ret ((yes false)), []) else (loop 55 0 lc_55_4 (List.replicate 15 uu ++ [AV.itr 0] ++ List.replicate 28
  uu) [Ob.raw (Raw.iter s 0)]).bind fun o => bif o.ex.isWay (Way.exit 0) then bif okFr (List.replicate 44 uu) o.2 && okHeap [] o.3 then some (Res.ret (AV.e (E.bool
  true)), []) else none else bif o.ex.isWay Way.ret then bif okFr ([uu, uu, (yes false)] ++ List.replicate 41 uu) o.2 && okHeap [] o.3 then some (Res.ret
  ((yes (List.getD o.fr 2 uu).data.toBool)), []) else none else none := by kernel_rfl
theorem eq_tNameL (run : RunF) (loop : LoopF) (s : List UInt8) (p : Nat) : bodyLoop PP HH run loop 55 0 lc_55_4 ((List.replicate 44 uu).set 15 (.itr 0))
  [.raw (.iter s p)] = bif decide (p < s.length) then bif (!bif decide (97 ≤ (↑(Utf8.decode (ByteArray.mk s.toArray) p).fst : Int)) then decide ((↑(Utf8.decode (ByteArray.mk
  s.toArray) p).fst : Int) ≤ 122) else false) == true then bif ((↑p : Int) == 0) == false then bif (!(↑(Utf8.decode (ByteArray.mk s.toArray) p).fst : Int) == 45) == true then bif
  decide ((↑(Utf8.decode (ByteArray.mk s.toArray) p).fst : Int) < 48) == false then bif decide (57 < (↑(Utf8.decode (ByteArray.mk s.toArray) p).fst : Int)) then some (Out.mk
  (Ex.ret) (([uu, uu, (yes false)] ++ List.replicate 41 uu)) ([]) ([])) else (loop 55 0 lc_55_4 (List.replicate 15 uu ++ [AV.itr 0] ++
  List.replicate 28 uu) [Ob.raw (Raw.iter s (p + (Utf8.decode (ByteArray.mk s.toArray) p).snd))]).bind fun o => some o else some (Out.mk (Ex.ret) (([uu, uu, AV.e
  (E.bool false)] ++ List.replicate 41 uu)) ([]) ([])) else (loop 55 0 lc_55_4 (List.replicate 15 uu ++ [AV.itr 0] ++ List.replicate 28 uu) [Ob.raw (Raw.iter s (p
  + (Utf8.decode (ByteArray.mk s.toArray) p).snd))]).bind fun o => some o else some (Out.mk (Ex.ret) (([uu, uu, (yes false)] ++ List.replicate 41 uu))
  ([]) ([])) else (loop 55 0 lc_55_4 (List.replicate 15 uu ++ [AV.itr 0] ++ List.replicate 28 uu) [Ob.raw (Raw.iter s (p + (Utf8.decode (ByteArray.mk s.toArray)
  p).snd))]).bind fun o => some o else some (Out.mk (Ex.exit 0) ((List.replicate 44 uu)) ([]) ([])) := by kernel_rfl
theorem eq_rName (run : RunF) (loop : LoopF) (s : List UInt8) : bodyRun PP HH run loop none 32 [.e (.str s)] [] = bif (bif decide ((↑s.length : Int) < 1) then true
  else decide (16 < (↑s.length : Int))) == false then bif decide (0 < (↑s.length : Int)) then (run none 59 [AV.e (E.int IntKind.u8 (↑(s.getD 0 0).toNat : Int))] []).bind fun rh =>
  bif okHeap [] rh.2 then bif okRes PP 4 rh.fst then bif !rh.fst.val.data.toBool then some (Res.ret ((yes false)), []) else (loop 32 0 lc_32_4 ([(str s),
  uu, uu, (num 0)] ++ List.replicate 38 uu) []).bind fun o => bif o.ex.isWay (Way.exit 0) then bif okFr (List.replicate 42 uu) o.2 &&
  okHeap [] o.3 then some (Res.ret ((yes true)), []) else none else bif o.ex.isWay Way.ret then bif okFr ([uu, uu, (yes false)] ++ List.replicate 39
  uu) o.2 && okHeap [] o.3 then some (Res.ret ((yes (List.getD o.fr 2 uu).data.toBool)), []) else none else none else none else none else none else some
  (Res.ret ((yes false)), []) := by kernel_rfl
theorem eq_rNameL (run : RunF) (loop : LoopF) (s : List UInt8) (i : Int) : bodyLoop PP HH run loop 32 0 lc_32_4 (((List.replicate 42 uu).set 0 (.e (.str
  s))).set 3 (.e (.int .i64 i))) [] = bif decide (i < (↑s.length : Int)) then bif decide (0 ≤ i) && decide (i < (↑s.length : Int)) then (run none 59 [AV.e (E.int IntKind.u8
  (↑(s.getD i.toNat 0).toNat : Int))] []).bind fun rh => bif okHeap [] rh.2 then bif okRes PP 4 rh.fst then bif (!rh.fst.val.data.toBool) == true then bif decide (0 ≤ i) &&
  decide (i < (↑s.length : Int)) then (run none 60 [AV.e (E.int IntKind.u8 (↑(s.getD i.toNat 0).toNat : Int))] []).bind fun rh => bif okHeap [] rh.2 then bif okRes PP 4
  rh.fst then bif (!rh.fst.val.data.toBool) == true then bif decide (0 ≤ i) && decide (i < (↑s.length : Int)) then bif !(↑(s.getD i.toNat 0).toNat : Int) == 45 then some (Out.mk
  (Ex.ret) (([uu, uu, (yes false)] ++ List.replicate 39 uu)) ([]) ([])) else (loop 32 0 lc_32_4 ([(str s), uu, uu, AV.e (E.int
  IntKind.i64 (IntKind.i64.wrap (i + 1)))] ++ List.replicate 38 uu) []).bind fun o => some o else none else (loop 32 0 lc_32_4 ([(str s), uu, uu, AV.e
  (E.int IntKind.i64 (IntKind.i64.wrap (i + 1)))] ++ List.replicate 38 uu) []).bind fun o => some o else none else none else none else (loop 32 0 lc_32_4 ([(str s),
  uu, uu, (num (IntKind.i64.wrap (i + 1)))] ++ List.replicate 38 uu) []).bind fun o => some o else none else none else none else some (Out.mk
  (Ex.exit 0) ((List.replicate 42 uu)) ([]) ([])) := by kernel_rfl
theorem eq_lower (run : RunF) (loop : LoopF) (c : Int) : bodyRun PP HH run loop none 59 [.e (.int .u8 c)] [] = some (Res.ret ((yes (bif decide (97 ≤ c)
  then decide (c ≤ 122) else false))), []) := by kernel_rfl
theorem eq_digit (run : RunF) (loop : LoopF) (c : Int) : bodyRun PP HH run loop none 60 [.e (.int .u8 c)] [] = some (Res.ret ((yes (bif decide (48 ≤ c)
  then decide (c ≤ 57) else false))), []) := by kernel_rfl
theorem eq_options (run : RunF) (loop : LoopF) (os : List E) : bodyRun PP HH run loop none 65 [.e (.sl 9 os)] [] = bif (↑os.length : Int) == 0 then some (Res.ret
  ((num 1)), []) else bif decide (16 < (↑os.length : Int)) then some (Res.ret ((num 5)), []) else (loop 65 0 lc_65_6 ([AV.e (E.sl 9 os),
  uu, uu, (num 0)] ++ List.replicate 32 uu) []).bind fun o => bif o.ex.isWay (Way.exit 0) then bif okFr (List.replicate 36 uu) o.2 &&
  okHeap [] o.3 then some (Res.ret ((num 0)), []) else none else bif o.ex.isWay Way.ret then bif okFr ([uu, uu, (num 0)] ++
  List.replicate 33 uu) o.2 && okHeap [] o.3 then some (Res.ret ((num (List.getD o.fr 2 uu).data.toInt)), []) else none else none := by kernel_rfl
theorem eq_optionsL (run : RunF) (loop : LoopF) (os : List E) (i : Int) : bodyLoop PP HH run loop 65 0 lc_65_6 (((List.replicate 36 uu).set 0 (.e (.sl 9
  os))).set 3 (.e (.int .i64 i))) [] = bif decide (i < (↑os.length : Int)) then bif decide (0 ≤ i) && decide (i < (↑os.length : Int)) then (run none 32 [(str ((os.getD
  i.toNat E.nili).cell 0).toStr)] []).bind fun rh => bif okHeap [] rh.2 then bif okRes PP 4 rh.fst then bif !rh.fst.val.data.toBool then some (Out.mk (Ex.ret) (([uu,
  uu, (num 11)] ++ List.replicate 33 uu)) ([]) ([])) else bif decide (0 < i) == true then bif decide (0 ≤ i) && decide (i < (↑os.length : Int)) then
  bif decide (0 ≤ IntKind.i64.wrap (i - 1)) && decide (IntKind.i64.wrap (i - 1) < (↑os.length : Int)) then bif Op.bytesLess ((os.getD i.toNat E.nili).cell 0).toStr ((os.getD
  (IntKind.i64.wrap (i - 1)).toNat E.nili).cell 0).toStr || strEq ((os.getD i.toNat E.nili).cell 0).toStr ((os.getD (IntKind.i64.wrap (i - 1)).toNat E.nili).cell 0).toStr then some
  (Out.mk (Ex.ret) (([uu, uu, (num 22)] ++ List.replicate 33 uu)) ([]) ([])) else (loop 65 0 lc_65_6 ([AV.e (E.sl 9 os), uu, uu,
  (num (IntKind.i64.wrap (i + 1)))] ++ List.replicate 32 uu) []).bind fun o => some o else none else none else (loop 65 0 lc_65_6 ([AV.e (E.sl 9 os),
  uu, uu, (num (IntKind.i64.wrap (i + 1)))] ++ List.replicate 32 uu) []).bind fun o => some o else none else none else none else some (Out.mk
  (Ex.exit 0) ((List.replicate 36 uu)) ([]) ([])) := by kernel_rfl
theorem eq_fields (run : RunF) (loop : LoopF) (gs : List E) (n : Int) : bodyRun PP HH run loop none 66 [.e (.sl 65 gs), .e (.int .i64 n)] [] = bif decide (16 <
  (↑gs.length : Int)) then some (Res.ret ((num 5)), []) else (loop 66 0 lc_66_4 ([AV.e (E.sl 65 gs), (num n), uu, uu, uu,
  (num 0)] ++ List.replicate 43 uu) []).bind fun o => bif o.ex.isWay (Way.exit 0) then bif okFr (List.replicate 49 uu) o.2 && okHeap [] o.3 then some
  (Res.ret ((num 0)), []) else none else bif o.ex.isWay Way.ret then bif okFr ([uu, uu, uu, uu, (num 0)] ++
  List.replicate 44 uu) o.2 && okHeap [] o.3 then some (Res.ret ((num (List.getD o.fr 4 uu).data.toInt)), []) else none else none := by kernel_rfl
theorem eq_fieldsL (run : RunF) (loop : LoopF) (gs : List E) (n i : Int) : bodyLoop PP HH run loop 66 0 lc_66_4 ((((List.replicate 49 uu).set 0 (.e (.sl 65
  gs))).set 1 (.e (.int .i64 n))).set 5 (.e (.int .i64 i))) [] = bif decide (i < (↑gs.length : Int)) then bif decide (0 ≤ i) && decide (i < (↑gs.length : Int)) then (run none 32
  [(str ((gs.getD i.toNat E.nili).cell 0).toStr)] []).bind fun rh => bif okHeap [] rh.2 then bif okRes PP 4 rh.fst then bif !rh.fst.val.data.toBool then some (Out.mk
  (Ex.ret) (([uu, uu, uu, uu, (num 11)] ++ List.replicate 44 uu)) ([]) ([])) else bif decide (0 < i) == true then bif decide (0 ≤
  i) && decide (i < (↑gs.length : Int)) then bif decide (0 ≤ IntKind.i64.wrap (i - 1)) && decide (IntKind.i64.wrap (i - 1) < (↑gs.length : Int)) then bif Op.bytesLess ((gs.getD
  i.toNat E.nili).cell 0).toStr ((gs.getD (IntKind.i64.wrap (i - 1)).toNat E.nili).cell 0).toStr || strEq ((gs.getD i.toNat E.nili).cell 0).toStr ((gs.getD (IntKind.i64.wrap (i -
  1)).toNat E.nili).cell 0).toStr then some (Out.mk (Ex.ret) (([uu, uu, uu, uu, (num 22)] ++ List.replicate 44 uu)) ([]) ([])) else
  bif decide (0 ≤ i) && decide (i < (↑gs.length : Int)) then (run none 38 [AV.agg [(num ((gs.getD i.toNat E.nili).cell 2).toInt), AV.e (E.int IntKind.i64
  ((gs.getD i.toNat E.nili).cell 3).toInt), (num ((gs.getD i.toNat E.nili).cell 4).toInt), AV.e (E.sl 9 ((gs.getD i.toNat E.nili).cell 5).toList), AV.e (E.sl 31
  ((gs.getD i.toNat E.nili).cell 6).toList), AV.e (E.sl 65 ((gs.getD i.toNat E.nili).cell 7).toList)], (num n)] []).bind fun rh => bif okHeap [] rh.2 then bif
  okRes PP 25 rh.fst then bif !rh.fst.val.data.toInt == 0 then some (Out.mk (Ex.ret) (([uu, uu, uu, uu, AV.e (E.int IntKind.i64
  rh.fst.val.data.toInt)] ++ List.replicate 44 uu)) ([]) ([])) else (loop 66 0 lc_66_4 ([AV.e (E.sl 65 gs), (num n), uu, uu, uu, AV.e
  (E.int IntKind.i64 (IntKind.i64.wrap (i + 1)))] ++ List.replicate 43 uu) []).bind fun o => some o else none else none else none else none else none else bif decide (0 ≤ i)
  && decide (i < (↑gs.length : Int)) then (run none 38 [AV.agg [(num ((gs.getD i.toNat E.nili).cell 2).toInt), (num ((gs.getD i.toNat
  E.nili).cell 3).toInt), (num ((gs.getD i.toNat E.nili).cell 4).toInt), AV.e (E.sl 9 ((gs.getD i.toNat E.nili).cell 5).toList), AV.e (E.sl 31 ((gs.getD i.toNat
  E.nili).cell 6).toList), AV.e (E.sl 65 ((gs.getD i.toNat E.nili).cell 7).toList)], (num n)] []).bind fun rh => bif okHeap [] rh.2 then bif okRes PP 25
  rh.fst then bif !rh.fst.val.data.toInt == 0 then some (Out.mk (Ex.ret) (([uu, uu, uu, uu, (num rh.fst.val.data.toInt)] ++
  List.replicate 44 uu)) ([]) ([])) else (loop 66 0 lc_66_4 ([AV.e (E.sl 65 gs), (num n), uu, uu, uu, AV.e (E.int IntKind.i64
  (IntKind.i64.wrap (i + 1)))] ++ List.replicate 43 uu) []).bind fun o => some o else none else none else none else none else none else none else some (Out.mk (Ex.exit 0)
  ((List.replicate 49 uu)) ([]) ([])) := by kernel_rfl
theorem eq_rwithin (run : RunF) (loop : LoopF) (a b c d : Int) : bodyRun PP HH run loop none 64 [.e (.int .i64 a), .e (.int .i64 b), .e (.int .i64 c), .e (.int
  .i64 d)] [] = some (Res.ret ((yes (bif bif decide (c ≤ a) then decide (a ≤ b) else false then decide (b ≤ d) else false))), []) := by kernel_rfl

end Go.Proofs.YtapndkailgcboaaGreatDoor
