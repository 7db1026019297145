/- The equations of functions, as a program of mine prints them. -/
import Derived.Test.YtapndkailgcboaaGreatDoorBase
namespace Go.Proofs.YtapndkailgcboaaGreatDoor
open Go Go.Den
set_option maxRecDepth 100000
set_option maxHeartbeats 0

theorem eq_nodes (run : RunF) (loop : LoopF) (k mn mx : Int) (os fs gs : List E) (n : Int) : bodyRun PP HH run loop none 14 [.agg [.e (.int .i64 k), .e (.int .i64
  mn), .e (.int .i64 mx), .e (.sl 9 os), .e (.sl 31 fs), .e (.sl 65 gs)], .e (.int .i64 n)] [] = (loop 14 0 lc_14_3 ([uu, (num (IntKind.i64.wrap (n +
  IntKind.i64.wrap (IntKind.i64.wrap (IntKind.i64.wrap (1 + (↑os.length : Int)) + (↑gs.length : Int)) + (↑fs.length : Int))))), AV.ptr 0 0, uu, uu, AV.e (E.int
  IntKind.i64 0)] ++ List.replicate 53 uu) [Ob.box [(num k), (num mn), (num mx), AV.e (E.sl 9 os), AV.e (E.sl 31 fs),
  AV.e (E.sl 65 gs)]]).bind fun o => bif o.ex.isWay (Way.exit 0) then bif okFr ([uu, (num 0), AV.ptr 0 0] ++ List.replicate 56 uu) o.2 && okHeap
  [Ob.box [(num 0), (num 0), (num 0), AV.e (E.sl 9 []), AV.e (E.sl 31 []), AV.e (E.sl 65 [])]] o.3 then (loop 14 0 lc_14_7
  ([uu, (num (List.getD o.fr 1 uu).data.toInt), AV.ptr 0 0, uu, uu, uu, (num 0)] ++ List.replicate 52 uu)
  [Ob.box [(num ((o.hp.ob 0).cell 0).data.toInt), (num ((o.hp.ob 0).cell 1).data.toInt), (num ((o.hp.ob 0).cell
  2).data.toInt), AV.e (E.sl 9 ((o.hp.ob 0).cell 3).data.toList), AV.e (E.sl 31 ((o.hp.ob 0).cell 4).data.toList), AV.e (E.sl 65 ((o.hp.ob 0).cell 5).data.toList)]]).bind fun o =>
  bif o.ex.isWay (Way.exit 2) then bif okFr ([uu, (num 0)] ++ List.replicate 57 uu) o.2 && okHeap [] o.3 then some (Res.ret (AV.e (E.int IntKind.i64
  (List.getD o.fr 1 uu).data.toInt)), []) else none else none else none else none := by kernel_rfl
theorem eq_nodesL3 (run : RunF) (loop : LoopF) (k mn mx : Int) (os fs gs : List E) (n i : Int) : bodyLoop PP HH run loop 14 0 lc_14_3 ((((List.replicate 59
  uu).set 1 (.e (.int .i64 n))).set 2 (.ptr 0 0)).set 5 (.e (.int .i64 i))) [.box [.e (.int .i64 k), .e (.int .i64 mn), .e (.int .i64 mx), .e (.sl 9 os), .e (.sl 31 fs), .e
  (.sl 65 gs)]] = bif bif decide (i < (↑fs.length : Int)) then decide (n < 600) else false then bif decide (0 ≤ i) && decide (i < (↑fs.length : Int)) then (run none 14 [AV.agg
  [(num ((fs.getD i.toNat E.nili).cell 0).toInt), (num ((fs.getD i.toNat E.nili).cell 1).toInt), (num ((fs.getD i.toNat
  E.nili).cell 2).toInt), AV.e (E.sl 9 ((fs.getD i.toNat E.nili).cell 3).toList), AV.e (E.sl 31 ((fs.getD i.toNat E.nili).cell 4).toList), AV.e (E.sl 65 ((fs.getD i.toNat
  E.nili).cell 5).toList)], (num n)] []).bind fun rh => bif okHeap [] rh.2 then bif okRes PP 3 rh.fst then (loop 14 0 lc_14_3 ([uu, AV.e (E.int
  IntKind.i64 rh.fst.val.data.toInt), AV.ptr 0 0, uu, uu, (num (IntKind.i64.wrap (i + 1)))] ++ List.replicate 53 uu) [Ob.box [AV.e (E.int
  IntKind.i64 k), (num mn), (num mx), AV.e (E.sl 9 os), AV.e (E.sl 31 fs), AV.e (E.sl 65 gs)]]).bind fun o => some o else none else none else
  none else some (Out.mk (Ex.exit 0) (([uu, (num n), AV.ptr 0 0] ++ List.replicate 56 uu)) ([Ob.box [(num k), AV.e (E.int
  IntKind.i64 mn), (num mx), AV.e (E.sl 9 os), AV.e (E.sl 31 fs), AV.e (E.sl 65 gs)]]) ([])) := by kernel_rfl
theorem eq_nodesL7 (run : RunF) (loop : LoopF) (k mn mx : Int) (os fs gs : List E) (n i : Int) : bodyLoop PP HH run loop 14 0 lc_14_7 ((((List.replicate 59
  uu).set 1 (.e (.int .i64 n))).set 2 (.ptr 0 0)).set 6 (.e (.int .i64 i))) [.box [.e (.int .i64 k), .e (.int .i64 mn), .e (.int .i64 mx), .e (.sl 9 os), .e (.sl 31 fs), .e
  (.sl 65 gs)]] = bif bif decide (i < (↑gs.length : Int)) then decide (n < 600) else false then bif decide (0 ≤ i) && decide (i < (↑gs.length : Int)) then (run none 14 [AV.agg
  [(num ((gs.getD i.toNat E.nili).cell 2).toInt), (num ((gs.getD i.toNat E.nili).cell 3).toInt), (num ((gs.getD i.toNat
  E.nili).cell 4).toInt), AV.e (E.sl 9 ((gs.getD i.toNat E.nili).cell 5).toList), AV.e (E.sl 31 ((gs.getD i.toNat E.nili).cell 6).toList), AV.e (E.sl 65 ((gs.getD i.toNat
  E.nili).cell 7).toList)], (num n)] []).bind fun rh => bif okHeap [] rh.2 then bif okRes PP 3 rh.fst then (loop 14 0 lc_14_7 ([uu, AV.e (E.int
  IntKind.i64 rh.fst.val.data.toInt), AV.ptr 0 0, uu, uu, uu, (num (IntKind.i64.wrap (i + 1)))] ++ List.replicate 52 uu) [Ob.box [AV.e
  (E.int IntKind.i64 k), (num mn), (num mx), AV.e (E.sl 9 os), AV.e (E.sl 31 fs), AV.e (E.sl 65 gs)]]).bind fun o => some o else none else
  none else none else some (Out.mk (Ex.exit 2) (([uu, (num n)] ++ List.replicate 57 uu)) ([]) ([])) := by kernel_rfl
theorem eq_RCheck (run : RunF) (loop : LoopF) (k mn mx : Int) (os fs gs : List E) : bodyRun PP HH run loop none 15 [.agg [.e (.int .i64 k), .e (.int .i64 mn), .e
  (.int .i64 mx), .e (.sl 9 os), .e (.sl 31 fs), .e (.sl 65 gs)]] [] = (run none 37 [AV.agg [(num k), (num mn), (num mx),
  AV.e (E.sl 9 os), AV.e (E.sl 31 fs), AV.e (E.sl 65 gs)], (num 1)] []).bind fun rh => bif okHeap [] rh.2 then bif okRes PP 4 rh.fst then bif
  rh.fst.val.data.toBool then some (Res.ret ((num 27)), []) else (run none 38 [AV.agg [(num k), (num mn), AV.e (E.int
  IntKind.i64 mx), AV.e (E.sl 9 os), AV.e (E.sl 31 fs), AV.e (E.sl 65 gs)], (num 1)] []).bind fun rh => bif okHeap [] rh.2 then bif okRes PP 25 rh.fst
  then some (Res.ret ((num rh.fst.val.data.toInt)), []) else none else none else none else none := by kernel_rfl
theorem eq_RDeep (run : RunF) (loop : LoopF) (k mn mx : Int) (os fs gs : List E) (n : Int) : bodyRun PP HH run loop none 37 [.agg [.e (.int .i64 k), .e (.int .i64
  mn), .e (.int .i64 mx), .e (.sl 9 os), .e (.sl 31 fs), .e (.sl 65 gs)], .e (.int .i64 n)] [] = bif decide (6 < n) then some (Res.ret ((yes true)), []) else (loop 37 0
  lc_37_4 ([uu, (num n), AV.ptr 0 0, uu, uu, (num 0)] ++ List.replicate 44 uu) [Ob.box [(num k),
  (num mn), (num mx), AV.e (E.sl 9 os), AV.e (E.sl 31 fs), AV.e (E.sl 65 gs)]]).bind fun o => bif o.ex.isWay (Way.exit 0) then bif okFr
  ([uu, (num 0), AV.ptr 0 0] ++ List.replicate 47 uu) o.2 && okHeap [Ob.box [(num 0), (num 0), AV.e (E.int
  IntKind.i64 0), AV.e (E.sl 9 []), AV.e (E.sl 31 []), AV.e (E.sl 65 [])]] o.3 then (loop 37 0 lc_37_9 ([uu, (num (List.getD o.fr 1 uu).data.toInt),
  AV.ptr 0 0, uu, uu, uu, (num 0)] ++ List.replicate 43 uu) [Ob.box [(num ((o.hp.ob 0).cell 0).data.toInt), AV.e
  (E.int IntKind.i64 ((o.hp.ob 0).cell 1).data.toInt), (num ((o.hp.ob 0).cell 2).data.toInt), AV.e (E.sl 9 ((o.hp.ob 0).cell 3).data.toList), AV.e (E.sl 31
  ((o.hp.ob 0).cell 4).data.toList), AV.e (E.sl 65 ((o.hp.ob 0).cell 5).data.toList)]]).bind fun o => bif o.ex.isWay (Way.exit 2) then bif okFr (List.replicate 50 uu) o.2 &&
  okHeap [] o.3 then some (Res.ret ((yes false)), []) else none else bif o.ex.isWay Way.ret then bif okFr ([uu, uu, uu, uu, (yes false)] ++
  List.replicate 45 uu) o.2 && okHeap [] o.3 then some (Res.ret ((yes (List.getD o.fr 4 uu).data.toBool)), []) else none else none else none else bif o.ex.isWay
  Way.ret then bif okFr ([uu, uu, uu, uu, (yes false)] ++ List.replicate 45 uu) o.2 && okHeap [] o.3 then some (Res.ret (AV.e (E.bool
  (List.getD o.fr 4 uu).data.toBool)), []) else none else none := by kernel_rfl
theorem eq_RDeepL4 (run : RunF) (loop : LoopF) (k mn mx : Int) (os fs gs : List E) (n i : Int) : bodyLoop PP HH run loop 37 0 lc_37_4 ((((List.replicate 50
  uu).set 1 (.e (.int .i64 n))).set 2 (.ptr 0 0)).set 5 (.e (.int .i64 i))) [.box [.e (.int .i64 k), .e (.int .i64 mn), .e (.int .i64 mx), .e (.sl 9 os), .e (.sl 31 fs), .e
  (.sl 65 gs)]] = bif bif decide (i < (↑fs.length : Int)) then k == 5 else false then bif decide (0 ≤ i) && decide (i < (↑fs.length : Int)) then (run none 37 [AV.agg [AV.e (E.int
  IntKind.i64 ((fs.getD i.toNat E.nili).cell 0).toInt), (num ((fs.getD i.toNat E.nili).cell 1).toInt), (num ((fs.getD i.toNat E.nili).cell
  2).toInt), AV.e (E.sl 9 ((fs.getD i.toNat E.nili).cell 3).toList), AV.e (E.sl 31 ((fs.getD i.toNat E.nili).cell 4).toList), AV.e (E.sl 65 ((fs.getD i.toNat E.nili).cell
  5).toList)], (num (IntKind.i64.wrap (n + 1)))] []).bind fun rh => bif okHeap [] rh.2 then bif okRes PP 4 rh.fst then bif rh.fst.val.data.toBool then
  some (Out.mk (Ex.ret) (([uu, uu, uu, uu, (yes true)] ++ List.replicate 45 uu)) ([]) ([])) else (loop 37 0 lc_37_4 ([uu, AV.e (E.int
  IntKind.i64 n), AV.ptr 0 0, uu, uu, (num (IntKind.i64.wrap (i + 1)))] ++ List.replicate 44 uu) [Ob.box [(num k), AV.e
  (E.int IntKind.i64 mn), (num mx), AV.e (E.sl 9 os), AV.e (E.sl 31 fs), AV.e (E.sl 65 gs)]]).bind fun o => some o else none else none else none else some
  (Out.mk (Ex.exit 0) (([uu, (num n), AV.ptr 0 0] ++ List.replicate 47 uu)) ([Ob.box [(num k), (num mn), AV.e
  (E.int IntKind.i64 mx), AV.e (E.sl 9 os), AV.e (E.sl 31 fs), AV.e (E.sl 65 gs)]]) ([])) := by kernel_rfl
theorem eq_RDeepL9 (run : RunF) (loop : LoopF) (k mn mx : Int) (os fs gs : List E) (n i : Int) : bodyLoop PP HH run loop 37 0 lc_37_9 ((((List.replicate 50
  uu).set 1 (.e (.int .i64 n))).set 2 (.ptr 0 0)).set 6 (.e (.int .i64 i))) [.box [.e (.int .i64 k), .e (.int .i64 mn), .e (.int .i64 mx), .e (.sl 9 os), .e (.sl 31 fs), .e
  (.sl 65 gs)]] = bif bif decide (i < (↑gs.length : Int)) then k == 6 else false then bif decide (0 ≤ i) && decide (i < (↑gs.length : Int)) then (run none 37 [AV.agg [AV.e (E.int
  IntKind.i64 ((gs.getD i.toNat E.nili).cell 2).toInt), (num ((gs.getD i.toNat E.nili).cell 3).toInt), (num ((gs.getD i.toNat E.nili).cell
  4).toInt), AV.e (E.sl 9 ((gs.getD i.toNat E.nili).cell 5).toList), AV.e (E.sl 31 ((gs.getD i.toNat E.nili).cell 6).toList), AV.e (E.sl 65 ((gs.getD i.toNat E.nili).cell
  7).toList)], (num (IntKind.i64.wrap (n + 1)))] []).bind fun rh => bif okHeap [] rh.2 then bif okRes PP 4 rh.fst then bif rh.fst.val.data.toBool then
  some (Out.mk (Ex.ret) (([uu, uu, uu, uu, (yes true)] ++ List.replicate 45 uu)) ([]) ([])) else (loop 37 0 lc_37_9 ([uu, AV.e (E.int
  IntKind.i64 n), AV.ptr 0 0, uu, uu, uu, (num (IntKind.i64.wrap (i + 1)))] ++ List.replicate 43 uu) [Ob.box [(num k),
  (num mn), (num mx), AV.e (E.sl 9 os), AV.e (E.sl 31 fs), AV.e (E.sl 65 gs)]]).bind fun o => some o else none else none else none else some
  (Out.mk (Ex.exit 2) ((List.replicate 50 uu)) ([]) ([])) := by kernel_rfl
theorem eq_rcheck (run : RunF) (loop : LoopF) (k mn mx : Int) (os fs gs : List E) (n : Int) : bodyRun PP HH run loop none 38 [.agg [.e (.int .i64 k), .e (.int .i64
  mn), .e (.int .i64 mx), .e (.sl 9 os), .e (.sl 31 fs), .e (.sl 65 gs)], .e (.int .i64 n)] [] = bif bif decide (k < 1) then true else decide (7 < k) then some (Res.ret (AV.e
  (E.int IntKind.i64 10)), []) else (run none 63 [AV.agg [(num k), (num mn), (num mx), AV.e (E.sl 9 os), AV.e (E.sl 31 fs),
  AV.e (E.sl 65 gs)]] []).bind fun rh => bif okHeap [] rh.2 then bif okRes PP 4 rh.fst then bif rh.fst.val.data.toBool then some (Res.ret ((num 28)), [])
  else bif k == 1 then (run none 64 [(num mn), (num mx), (num (-4611686018427387904)), AV.e (E.int IntKind.i64
  4611686018427387904)] []).bind fun rh => bif okHeap [] rh.2 then bif okRes PP 4 rh.fst then bif !rh.fst.val.data.toBool then some (Res.ret ((num 1)),
  []) else some (Res.ret ((num 0)), []) else none else none else bif k == 2 then (run none 64 [(num mn), (num mx), AV.e
  (E.int IntKind.i64 0), (num 256)] []).bind fun rh => bif okHeap [] rh.2 then bif okRes PP 4 rh.fst then bif !rh.fst.val.data.toBool then some (Res.ret
  ((num 1)), []) else some (Res.ret ((num 0)), []) else none else none else bif k == 4 then (run none 65 [AV.e (E.sl 9 os)] []).bind fun rh =>
  bif okHeap [] rh.2 then bif okRes PP 25 rh.fst then some (Res.ret ((num rh.fst.val.data.toInt)), []) else none else none else bif k == 5 then (run none
  64 [(num mn), (num mx), (num 0), (num 32)] []).bind fun rh => bif okHeap [] rh.2 then bif okRes
  PP 4 rh.fst then bif !rh.fst.val.data.toBool then some (Res.ret ((num 1)), []) else bif decide (0 < (↑fs.length : Int)) then (run none 38 [AV.agg [AV.e
  (E.int IntKind.i64 ((fs.getD 0 E.nili).cell 0).toInt), (num ((fs.getD 0 E.nili).cell 1).toInt), (num ((fs.getD 0 E.nili).cell 2).toInt),
  AV.e (E.sl 9 ((fs.getD 0 E.nili).cell 3).toList), AV.e (E.sl 31 ((fs.getD 0 E.nili).cell 4).toList), AV.e (E.sl 65 ((fs.getD 0 E.nili).cell 5).toList)], AV.e (E.int IntKind.i64
  (IntKind.i64.wrap (n + 1)))] []).bind fun rh => bif okHeap [] rh.2 then bif okRes PP 25 rh.fst then some (Res.ret ((num rh.fst.val.data.toInt)), [])
  else none else none else none else none else none else bif k == 6 then (run none 66 [AV.e (E.sl 65 gs), (num (IntKind.i64.wrap (n + 1)))] []).bind fun rh =>
  bif okHeap [] rh.2 then bif okRes PP 25 rh.fst then some (Res.ret ((num rh.fst.val.data.toInt)), []) else none else none else some (Res.ret (AV.e (E.int
  IntKind.i64 0)), []) else none else none := by kernel_rfl
theorem eq_runused (run : RunF) (loop : LoopF) (k mn mx : Int) (os fs gs : List E) : bodyRun PP HH run loop none 63 [.agg [.e (.int .i64 k), .e (.int .i64 mn), .e
  (.int .i64 mx), .e (.sl 9 os), .e (.sl 31 fs), .e (.sl 65 gs)]] [] = bif (!bif bif k == 1 then true else k == 2 then true else k == 5) == true then bif (!mn == 0) == false then
  bif (!mx == 0) == false then bif (!k == 4) == true then bif decide (0 < (↑os.length : Int)) == false then bif (!k == 6) == true then bif decide (0 < (↑gs.length : Int)) then some
  (Res.ret ((yes true)), []) else bif k == 5 then some (Res.ret ((yes !(↑fs.length : Int) == 1)), []) else some (Res.ret ((yes (decide (0 < (↑fs.length :
  Int))))), []) else bif k == 5 then some (Res.ret ((yes !(↑fs.length : Int) == 1)), []) else some (Res.ret ((yes (decide (0 < (↑fs.length : Int))))), []) else some
  (Res.ret ((yes true)), []) else bif (!k == 6) == true then bif decide (0 < (↑gs.length : Int)) then some (Res.ret ((yes true)), []) else bif k == 5 then some
  (Res.ret ((yes !(↑fs.length : Int) == 1)), []) else some (Res.ret ((yes (decide (0 < (↑fs.length : Int))))), []) else bif k == 5 then some (Res.ret (AV.e (E.bool
  !(↑fs.length : Int) == 1)), []) else some (Res.ret ((yes (decide (0 < (↑fs.length : Int))))), []) else some (Res.ret ((yes true)), []) else some (Res.ret (AV.e
  (E.bool true)), []) else bif (!k == 4) == true then bif decide (0 < (↑os.length : Int)) == false then bif (!k == 6) == true then bif decide (0 < (↑gs.length : Int)) then some
  (Res.ret ((yes true)), []) else bif k == 5 then some (Res.ret ((yes !(↑fs.length : Int) == 1)), []) else some (Res.ret ((yes (decide (0 < (↑fs.length :
  Int))))), []) else bif k == 5 then some (Res.ret ((yes !(↑fs.length : Int) == 1)), []) else some (Res.ret ((yes (decide (0 < (↑fs.length : Int))))), []) else some
  (Res.ret ((yes true)), []) else bif (!k == 6) == true then bif decide (0 < (↑gs.length : Int)) then some (Res.ret ((yes true)), []) else bif k == 5 then some
  (Res.ret ((yes !(↑fs.length : Int) == 1)), []) else some (Res.ret ((yes (decide (0 < (↑fs.length : Int))))), []) else bif k == 5 then some (Res.ret (AV.e (E.bool
  !(↑fs.length : Int) == 1)), []) else some (Res.ret ((yes (decide (0 < (↑fs.length : Int))))), []) := by kernel_rfl
theorem eq_rName (run : RunF) (loop : LoopF) (s : List UInt8) : bodyRun PP HH run loop none 32 [.e (.str s)] [] = bif (bif decide ((↑s.length : Int) < 1) then true
  else decide (16 < (↑s.length : Int))) == false then bif decide (0 < (↑s.length : Int)) then (run none 59 [AV.e (E.int IntKind.u8 (↑(s.getD 0 0).toNat : Int))] []).bind fun rh =>
  bif okHeap [] rh.2 then bif okRes PP 4 rh.fst then bif !rh.fst.val.data.toBool then some (Res.ret ((yes false)), []) else (loop 32 0 lc_32_4 ([(str s),
  uu, uu, (num 0)] ++ List.replicate 38 uu) []).bind fun o => bif o.ex.isWay (Way.exit 0) then bif okFr (List.replicate 42 uu) o.2 &&
  okHeap [] o.3 then some (Res.ret ((yes true)), []) else none else bif o.ex.isWay Way.ret then bif okFr ([uu, uu, (yes false)] ++ List.replicate 39
  uu) o.2 && okHeap [] o.3 then some (Res.ret ((yes (List.getD o.fr 2 uu).data.toBool)), []) else none else none else none else none else none else some
  (Res.ret ((yes false)), []) := by kernel_rfl
theorem eq_rNameL (run : RunF) (loop : LoopF) (s : List UInt8) (i : Int) : bodyLoop PP HH run loop 32 0 lc_32_4 (((List.replicate 42 uu).set 0 (.e (.str
  s))).set 3 (.e (.int .i64 i))) [] = bif decide (i < (↑s.length : Int)) then bif decide (0 ≤ i) && decide (i < (↑s.length : Int)) then (run none 59 [AV.e (E.int IntKind.u8
  (↑(s.getD i.toNat 0).toNat : Int))] []).bind fun rh => bif okHeap [] rh.2 then bif okRes PP 4 rh.fst then bif (!rh.fst.val.data.toBool) == true then bif decide (0 ≤ i) &&
  decide (i < (↑s.length : Int)) then (run none 60 [AV.e (E.int IntKind.u8 (↑(s.getD i.toNat 0).toNat : Int))] []).bind fun rh => bif okHeap [] rh.2 then bif okRes PP 4
  rh.fst then bif (!rh.fst.val.data.toBool) == true then bif decide (0 ≤ i) && decide (i < (↑s.length : Int)) then bif !(↑(s.getD i.toNat 0).toNat : Int) == 45 then some (Out.mk
  (Ex.ret) (([uu, uu, (yes false)] ++ List.replicate 39 uu)) ([]) ([])) else (loop 32 0 lc_32_4 ([(str s), uu, uu, AV.e (E.int
  IntKind.i64 (IntKind.i64.wrap (i + 1)))] ++ List.replicate 38 uu) []).bind fun o => some o else none else (loop 32 0 lc_32_4 ([(str s), uu, uu, AV.e
  (E.int IntKind.i64 (IntKind.i64.wrap (i + 1)))] ++ List.replicate 38 uu) []).bind fun o => some o else none else none else none else (loop 32 0 lc_32_4 ([(str s),
  uu, uu, (num (IntKind.i64.wrap (i + 1)))] ++ List.replicate 38 uu) []).bind fun o => some o else none else none else none else some (Out.mk
  (Ex.exit 0) ((List.replicate 42 uu)) ([]) ([])) := by kernel_rfl
theorem eq_lower (run : RunF) (loop : LoopF) (c : Int) : bodyRun PP HH run loop none 59 [.e (.int .u8 c)] [] = some (Res.ret ((yes (bif decide (97 ≤ c)
  then decide (c ≤ 122) else false))), []) := by kernel_rfl
theorem eq_digit (run : RunF) (loop : LoopF) (c : Int) : bodyRun PP HH run loop none 60 [.e (.int .u8 c)] [] = some (Res.ret ((yes (bif decide (48 ≤ c)
  then decide (c ≤ 57) else false))), []) := by kernel_rfl
theorem eq_options (run : RunF) (loop : LoopF) (os : List E) : bodyRun PP HH run loop none 65 [.e (.sl 9 os)] [] = bif (↑os.length : Int) == 0 then some (Res.ret
  ((num 1)), []) else bif decide (16 < (↑os.length : Int)) then some (Res.ret ((num 5)), []) else (loop 65 0 lc_65_6 ([AV.e (E.sl 9 os),
  uu, uu, (num 0)] ++ List.replicate 32 uu) []).bind fun o => bif o.ex.isWay (Way.exit 0) then bif okFr (List.replicate 36 uu) o.2 &&
  okHeap [] o.3 then some (Res.ret ((num 0)), []) else none else bif o.ex.isWay Way.ret then bif okFr ([uu, uu, (num 0)] ++
  List.replicate 33 uu) o.2 && okHeap [] o.3 then some (Res.ret ((num (List.getD o.fr 2 uu).data.toInt)), []) else none else none := by kernel_rfl
theorem eq_optionsL (run : RunF) (loop : LoopF) (os : List E) (i : Int) : bodyLoop PP HH run loop 65 0 lc_65_6 (((List.replicate 36 uu).set 0 (.e (.sl 9
  os))).set 3 (.e (.int .i64 i))) [] = bif decide (i < (↑os.length : Int)) then bif decide (0 ≤ i) && decide (i < (↑os.length : Int)) then (run none 32 [(str ((os.getD
  i.toNat E.nili).cell 0).toStr)] []).bind fun rh => bif okHeap [] rh.2 then bif okRes PP 4 rh.fst then bif !rh.fst.val.data.toBool then some (Out.mk (Ex.ret) (([uu,
  uu, (num 11)] ++ List.replicate 33 uu)) ([]) ([])) else bif decide (0 < i) == true then bif decide (0 ≤ i) && decide (i < (↑os.length : Int)) then
  bif decide (0 ≤ IntKind.i64.wrap (i - 1)) && decide (IntKind.i64.wrap (i - 1) < (↑os.length : Int)) then bif Op.bytesLess ((os.getD i.toNat E.nili).cell 0).toStr ((os.getD
  (IntKind.i64.wrap (i - 1)).toNat E.nili).cell 0).toStr || strEq ((os.getD i.toNat E.nili).cell 0).toStr ((os.getD (IntKind.i64.wrap (i - 1)).toNat E.nili).cell 0).toStr then some
  (Out.mk (Ex.ret) (([uu, uu, (num 22)] ++ List.replicate 33 uu)) ([]) ([])) else (loop 65 0 lc_65_6 ([AV.e (E.sl 9 os), uu, uu,
  (num (IntKind.i64.wrap (i + 1)))] ++ List.replicate 32 uu) []).bind fun o => some o else none else none else (loop 65 0 lc_65_6 ([AV.e (E.sl 9 os),
  uu, uu, (num (IntKind.i64.wrap (i + 1)))] ++ List.replicate 32 uu) []).bind fun o => some o else none else none else none else some (Out.mk
  (Ex.exit 0) ((List.replicate 36 uu)) ([]) ([])) := by kernel_rfl
theorem eq_fields (run : RunF) (loop : LoopF) (gs : List E) (n : Int) : bodyRun PP HH run loop none 66 [.e (.sl 65 gs), .e (.int .i64 n)] [] = bif decide (16 <
  (↑gs.length : Int)) then some (Res.ret ((num 5)), []) else (loop 66 0 lc_66_4 ([AV.e (E.sl 65 gs), (num n), uu, uu, uu,
  (num 0)] ++ List.replicate 43 uu) []).bind fun o => bif o.ex.isWay (Way.exit 0) then bif okFr (List.replicate 49 uu) o.2 && okHeap [] o.3 then some
  (Res.ret ((num 0)), []) else none else bif o.ex.isWay Way.ret then bif okFr ([uu, uu, uu, uu, (num 0)] ++
  List.replicate 44 uu) o.2 && okHeap [] o.3 then some (Res.ret ((num (List.getD o.fr 4 uu).data.toInt)), []) else none else none := by kernel_rfl
theorem eq_fieldsL (run : RunF) (loop : LoopF) (gs : List E) (n i : Int) : bodyLoop PP HH run loop 66 0 lc_66_4 ((((List.replicate 49 uu).set 0 (.e (.sl 65
  gs))).set 1 (.e (.int .i64 n))).set 5 (.e (.int .i64 i))) [] = bif decide (i < (↑gs.length : Int)) then bif decide (0 ≤ i) && decide (i < (↑gs.length : Int)) then (run none 32
  [(str ((gs.getD i.toNat E.nili).cell 0).toStr)] []).bind fun rh => bif okHeap [] rh.2 then bif okRes PP 4 rh.fst then bif !rh.fst.val.data.toBool then some (Out.mk
  (Ex.ret) (([uu, uu, uu, uu, (num 11)] ++ List.replicate 44 uu)) ([]) ([])) else bif decide (0 < i) == true then bif decide (0 ≤
  i) && decide (i < (↑gs.length : Int)) then bif decide (0 ≤ IntKind.i64.wrap (i - 1)) && decide (IntKind.i64.wrap (i - 1) < (↑gs.length : Int)) then bif Op.bytesLess ((gs.getD
  i.toNat E.nili).cell 0).toStr ((gs.getD (IntKind.i64.wrap (i - 1)).toNat E.nili).cell 0).toStr || strEq ((gs.getD i.toNat E.nili).cell 0).toStr ((gs.getD (IntKind.i64.wrap (i -
  1)).toNat E.nili).cell 0).toStr then some (Out.mk (Ex.ret) (([uu, uu, uu, uu, (num 22)] ++ List.replicate 44 uu)) ([]) ([])) else
  bif decide (0 ≤ i) && decide (i < (↑gs.length : Int)) then (run none 38 [AV.agg [(num ((gs.getD i.toNat E.nili).cell 2).toInt), AV.e (E.int IntKind.i64
  ((gs.getD i.toNat E.nili).cell 3).toInt), (num ((gs.getD i.toNat E.nili).cell 4).toInt), AV.e (E.sl 9 ((gs.getD i.toNat E.nili).cell 5).toList), AV.e (E.sl 31
  ((gs.getD i.toNat E.nili).cell 6).toList), AV.e (E.sl 65 ((gs.getD i.toNat E.nili).cell 7).toList)], (num n)] []).bind fun rh => bif okHeap [] rh.2 then bif
  okRes PP 25 rh.fst then bif !rh.fst.val.data.toInt == 0 then some (Out.mk (Ex.ret) (([uu, uu, uu, uu, AV.e (E.int IntKind.i64
  rh.fst.val.data.toInt)] ++ List.replicate 44 uu)) ([]) ([])) else (loop 66 0 lc_66_4 ([AV.e (E.sl 65 gs), (num n), uu, uu, uu, AV.e
  (E.int IntKind.i64 (IntKind.i64.wrap (i + 1)))] ++ List.replicate 43 uu) []).bind fun o => some o else none else none else none else none else none else bif decide (0 ≤ i)
  && decide (i < (↑gs.length : Int)) then (run none 38 [AV.agg [(num ((gs.getD i.toNat E.nili).cell 2).toInt), (num ((gs.getD i.toNat
  E.nili).cell 3).toInt), (num ((gs.getD i.toNat E.nili).cell 4).toInt), AV.e (E.sl 9 ((gs.getD i.toNat E.nili).cell 5).toList), AV.e (E.sl 31 ((gs.getD i.toNat
  E.nili).cell 6).toList), AV.e (E.sl 65 ((gs.getD i.toNat E.nili).cell 7).toList)], (num n)] []).bind fun rh => bif okHeap [] rh.2 then bif okRes PP 25
  rh.fst then bif !rh.fst.val.data.toInt == 0 then some (Out.mk (Ex.ret) (([uu, uu, uu, uu, (num rh.fst.val.data.toInt)] ++
  List.replicate 44 uu)) ([]) ([])) else (loop 66 0 lc_66_4 ([AV.e (E.sl 65 gs), (num n), uu, uu, uu, AV.e (E.int IntKind.i64
  (IntKind.i64.wrap (i + 1)))] ++ List.replicate 43 uu) []).bind fun o => some o else none else none else none else none else none else none else some (Out.mk (Ex.exit 0)
  ((List.replicate 49 uu)) ([]) ([])) := by kernel_rfl
theorem eq_rwithin (run : RunF) (loop : LoopF) (a b c d : Int) : bodyRun PP HH run loop none 64 [.e (.int .i64 a), .e (.int .i64 b), .e (.int .i64 c), .e (.int
  .i64 d)] [] = some (Res.ret ((yes (bif bif decide (c ≤ a) then decide (a ≤ b) else false then decide (b ≤ d) else false))), []) := by kernel_rfl

end Go.Proofs.YtapndkailgcboaaGreatDoor
