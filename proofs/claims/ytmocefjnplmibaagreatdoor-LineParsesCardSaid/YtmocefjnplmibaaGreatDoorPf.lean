/- The equations of functions, as a program of mine prints them. -/
import Derived.Test.YtmocefjnplmibaaGreatDoorBase
namespace Go.Proofs.YtmocefjnplmibaaGreatDoor
open Go Go.Den
set_option maxRecDepth 100000
set_option maxHeartbeats 0

theorem eq_LParses (run : RunF) (loop : LoopF) (a0 : List UInt8) : bodyRun PP HH run loop none 7 [str a0] [] = bif decide (9000 < (↑a0.length : Int)) then some (Res.ret ((yes
  true)), []) else (run none 21 [str a0] []).bind fun rh => bif okHeap [] rh.2 then bif okRes PP 43 rh.fst then (run none 22 [str a0] []).bind fun rh_1 => bif okHeap [] rh_1.2
  then bif okRes PP 43 rh_1.fst then (run none 23 [AV.agg [(num ((rh.fst.val.comp 0).data.cell 0).toInt), (num ((rh.fst.val.comp 0).data.cell 1).toInt), (num ((rh.fst.val.comp
  0).data.cell 2).toInt), (num ((rh.fst.val.comp 0).data.cell 3).toInt), (num ((rh.fst.val.comp 0).data.cell 4).toInt), (yes ((rh.fst.val.comp 0).data.cell 5).toBool), (str
  ((rh.fst.val.comp 0).data.cell 6).toStr), (str ((rh.fst.val.comp 0).data.cell 7).toStr), (str ((rh.fst.val.comp 0).data.cell 8).toStr), (num ((rh.fst.val.comp 0).data.cell
  9).toInt), (str ((rh.fst.val.comp 0).data.cell 10).toStr), (str ((rh.fst.val.comp 0).data.cell 11).toStr), (num ((rh.fst.val.comp 0).data.cell 12).toInt), (num
  ((rh.fst.val.comp 0).data.cell 13).toInt), (num ((rh.fst.val.comp 0).data.cell 14).toInt), (str ((rh.fst.val.comp 0).data.cell 15).toStr), (str ((rh.fst.val.comp
  0).data.cell 16).toStr), (str ((rh.fst.val.comp 0).data.cell 17).toStr), (str ((rh.fst.val.comp 0).data.cell 18).toStr), (yes ((rh.fst.val.comp 0).data.cell 19).toBool),
  AV.e (E.sl 97 ((rh.fst.val.comp 0).data.cell 20).toList), (str ((rh.fst.val.comp 0).data.cell 21).toStr), (str ((rh.fst.val.comp 0).data.cell 22).toStr), (num
  ((rh.fst.val.comp 0).data.cell 23).toInt), (yes ((rh.fst.val.comp 0).data.cell 24).toBool), (num ((rh.fst.val.comp 0).data.cell 25).toInt), (num ((rh.fst.val.comp
  0).data.cell 26).toInt), (str ((rh.fst.val.comp 0).data.cell 27).toStr), (num ((rh.fst.val.comp 0).data.cell 28).toInt), AV.e (E.sl 97 ((rh.fst.val.comp 0).data.cell
  29).toList)], AV.agg [(num ((rh_1.fst.val.comp 0).data.cell 0).toInt), (num ((rh_1.fst.val.comp 0).data.cell 1).toInt), (num ((rh_1.fst.val.comp 0).data.cell 2).toInt), (num
  ((rh_1.fst.val.comp 0).data.cell 3).toInt), (num ((rh_1.fst.val.comp 0).data.cell 4).toInt), (yes ((rh_1.fst.val.comp 0).data.cell 5).toBool), (str ((rh_1.fst.val.comp
  0).data.cell 6).toStr), (str ((rh_1.fst.val.comp 0).data.cell 7).toStr), (str ((rh_1.fst.val.comp 0).data.cell 8).toStr), (num ((rh_1.fst.val.comp 0).data.cell 9).toInt),
  (str ((rh_1.fst.val.comp 0).data.cell 10).toStr), (str ((rh_1.fst.val.comp 0).data.cell 11).toStr), (num ((rh_1.fst.val.comp 0).data.cell 12).toInt), (num
  ((rh_1.fst.val.comp 0).data.cell 13).toInt), (num ((rh_1.fst.val.comp 0).data.cell 14).toInt), (str ((rh_1.fst.val.comp 0).data.cell 15).toStr), (str ((rh_1.fst.val.comp
  0).data.cell 16).toStr), (str ((rh_1.fst.val.comp 0).data.cell 17).toStr), (str ((rh_1.fst.val.comp 0).data.cell 18).toStr), (yes ((rh_1.fst.val.comp 0).data.cell
  19).toBool), AV.e (E.sl 97 ((rh_1.fst.val.comp 0).data.cell 20).toList), (str ((rh_1.fst.val.comp 0).data.cell 21).toStr), (str ((rh_1.fst.val.comp 0).data.cell 22).toStr),
  (num ((rh_1.fst.val.comp 0).data.cell 23).toInt), (yes ((rh_1.fst.val.comp 0).data.cell 24).toBool), (num ((rh_1.fst.val.comp 0).data.cell 25).toInt), (num
  ((rh_1.fst.val.comp 0).data.cell 26).toInt), (str ((rh_1.fst.val.comp 0).data.cell 27).toStr), (num ((rh_1.fst.val.comp 0).data.cell 28).toInt), AV.e (E.sl 97
  ((rh_1.fst.val.comp 0).data.cell 29).toList)]] []).bind fun rh_2 => bif okHeap [] rh_2.2 then bif okRes PP 4 rh_2.fst then bif (bif rh_2.fst.val.data.toBool then
  (rh.fst.val.comp 1).data.toInt == (rh_1.fst.val.comp 1).data.toInt else false) == true then some (Res.ret ((yes true)), []) else some (Res.ret ((yes false)), []) else none
  else none else none else none else none else none := by kernel_rfl
theorem eq_kindOf (run : RunF) (loop : LoopF) (a0 : List UInt8) : bodyRun PP HH run loop none 57 [str a0] [] = (loop 57 0 lc_57_2 ([str a0, uu, uu, num 1] ++ List.replicate 9
  uu) []).bind fun o => bif o.ex.isWay (Way.exit 0) then bif okFr (List.replicate 13 uu) o.2 && okHeap [] o.3 then some (Res.ret ((num 0)), []) else none else bif o.ex.isWay
  Way.ret then bif okFr ([uu, uu, num 0] ++ List.replicate 10 uu) o.2 && okHeap [] o.3 then some (Res.ret ((num (List.getD o.fr 2 uu).data.toInt)), []) else none else none :=
  by kernel_rfl
theorem eq_kindOfL2 (run : RunF) (loop : LoopF) (t0 : List UInt8) (t3 : Int) : bodyLoop PP HH run loop 57 0 lc_57_2 (((List.replicate 13 uu).set 0 (str t0)).set 3 (num t3)) []
  = bif decide (t3 ≤ 15) then (run none 40 [num t3] []).bind fun rh => bif okHeap [] rh.2 then bif okRes PP 9 rh.fst then bif strEq rh.fst.val.data.toStr t0 then some (Out.mk
  (Ex.ret) (([uu, uu, num t3] ++ List.replicate 10 uu)) ([]) ([])) else (loop 57 0 lc_57_2 ([str t0, uu, uu, (num (IntKind.i64.wrap (t3 + 1)))] ++ List.replicate 9 uu)
  []).bind fun o => some o else none else none else some (Out.mk (Ex.exit 0) ((List.replicate 13 uu)) ([]) ([])) := by kernel_rfl
theorem eq_count (run : RunF) (loop : LoopF) (a0 : Int) : bodyRun PP HH run loop none 60 [num a0] [] = bif a0 == 1 then bif a0 == 1 then some (Res.ret (AV.tup [num 6, yes
  false]), []) else bif a0 == 2 then some (Res.ret (AV.tup [num 8, yes false]), []) else bif a0 == 3 then bif a0 == 3 then some (Res.ret (AV.tup [num 7, yes true]), []) else
  bif a0 == 5 then some (Res.ret (AV.tup [num 13, yes true]), []) else bif a0 == 8 then bif a0 == 8 then some (Res.ret (AV.tup [num 5, yes false]), []) else bif a0 == 10 then
  bif a0 == 10 then some (Res.ret (AV.tup [num 3, yes false]), []) else some (Res.ret (AV.tup [num 4, yes false]), []) else bif a0 == 11 then bif a0 == 11 then some (Res.ret
  (AV.tup [num 3, yes false]), []) else some (Res.ret (AV.tup [num 4, yes false]), []) else bif a0 == 12 then some (Res.ret (AV.tup [num 3, yes false]), []) else some (Res.ret
  (AV.tup [num 4, yes false]), []) else bif a0 == 9 then some (Res.ret (AV.tup [num 5, yes false]), []) else bif a0 == 10 then bif a0 == 10 then some (Res.ret (AV.tup [num 3,
  yes false]), []) else some (Res.ret (AV.tup [num 4, yes false]), []) else bif a0 == 11 then bif a0 == 11 then some (Res.ret (AV.tup [num 3, yes false]), []) else some
  (Res.ret (AV.tup [num 4, yes false]), []) else bif a0 == 12 then some (Res.ret (AV.tup [num 3, yes false]), []) else some (Res.ret (AV.tup [num 4, yes false]), []) else bif
  a0 == 4 then some (Res.ret (AV.tup [num 7, yes true]), []) else bif a0 == 5 then some (Res.ret (AV.tup [num 13, yes true]), []) else bif a0 == 8 then bif a0 == 8 then some
  (Res.ret (AV.tup [num 5, yes false]), []) else bif a0 == 10 then bif a0 == 10 then some (Res.ret (AV.tup [num 3, yes false]), []) else some (Res.ret (AV.tup [num 4, yes
  false]), []) else bif a0 == 11 then bif a0 == 11 then some (Res.ret (AV.tup [num 3, yes false]), []) else some (Res.ret (AV.tup [num 4, yes false]), []) else bif a0 == 12
  then some (Res.ret (AV.tup [num 3, yes false]), []) else some (Res.ret (AV.tup [num 4, yes false]), []) else bif a0 == 9 then some (Res.ret (AV.tup [num 5, yes false]), [])
  else bif a0 == 10 then bif a0 == 10 then some (Res.ret (AV.tup [num 3, yes false]), []) else some (Res.ret (AV.tup [num 4, yes false]), []) else bif a0 == 11 then bif a0 ==
  11 then some (Res.ret (AV.tup [num 3, yes false]), []) else some (Res.ret (AV.tup [num 4, yes false]), []) else bif a0 == 12 then some (Res.ret (AV.tup [num 3, yes false]),
  []) else some (Res.ret (AV.tup [num 4, yes false]), []) else bif a0 == 6 then some (Res.ret (AV.tup [num 6, yes false]), []) else bif a0 == 2 then some (Res.ret (AV.tup [num
  8, yes false]), []) else bif a0 == 3 then bif a0 == 3 then some (Res.ret (AV.tup [num 7, yes true]), []) else bif a0 == 5 then some (Res.ret (AV.tup [num 13, yes true]), [])
  else bif a0 == 8 then bif a0 == 8 then some (Res.ret (AV.tup [num 5, yes false]), []) else bif a0 == 10 then bif a0 == 10 then some (Res.ret (AV.tup [num 3, yes false]), [])
  else some (Res.ret (AV.tup [num 4, yes false]), []) else bif a0 == 11 then bif a0 == 11 then some (Res.ret (AV.tup [num 3, yes false]), []) else some (Res.ret (AV.tup [num
  4, yes false]), []) else bif a0 == 12 then some (Res.ret (AV.tup [num 3, yes false]), []) else some (Res.ret (AV.tup [num 4, yes false]), []) else bif a0 == 9 then some
  (Res.ret (AV.tup [num 5, yes false]), []) else bif a0 == 10 then bif a0 == 10 then some (Res.ret (AV.tup [num 3, yes false]), []) else some (Res.ret (AV.tup [num 4, yes
  false]), []) else bif a0 == 11 then bif a0 == 11 then some (Res.ret (AV.tup [num 3, yes false]), []) else some (Res.ret (AV.tup [num 4, yes false]), []) else bif a0 == 12
  then some (Res.ret (AV.tup [num 3, yes false]), []) else some (Res.ret (AV.tup [num 4, yes false]), []) else bif a0 == 4 then some (Res.ret (AV.tup [num 7, yes true]), [])
  else bif a0 == 5 then some (Res.ret (AV.tup [num 13, yes true]), []) else bif a0 == 8 then bif a0 == 8 then some (Res.ret (AV.tup [num 5, yes false]), []) else bif a0 == 10
  then bif a0 == 10 then some (Res.ret (AV.tup [num 3, yes false]), []) else some (Res.ret (AV.tup [num 4, yes false]), []) else bif a0 == 11 then bif a0 == 11 then some
  (Res.ret (AV.tup [num 3, yes false]), []) else some (Res.ret (AV.tup [num 4, yes false]), []) else bif a0 == 12 then some (Res.ret (AV.tup [num 3, yes false]), []) else some
  (Res.ret (AV.tup [num 4, yes false]), []) else bif a0 == 9 then some (Res.ret (AV.tup [num 5, yes false]), []) else bif a0 == 10 then bif a0 == 10 then some (Res.ret (AV.tup
  [num 3, yes false]), []) else some (Res.ret (AV.tup [num 4, yes false]), []) else bif a0 == 11 then bif a0 == 11 then some (Res.ret (AV.tup [num 3, yes false]), []) else
  some (Res.ret (AV.tup [num 4, yes false]), []) else bif a0 == 12 then some (Res.ret (AV.tup [num 3, yes false]), []) else some (Res.ret (AV.tup [num 4, yes false]), []) :=
  by kernel_rfl
theorem eq_pnumber (run : RunF) (loop : LoopF) (p0_0 : List E) (p0_1 : Int) : bodyRun PP HH run loop none 92 [.ptr 0 0] [.box [.e (.sl 9 p0_0), num p0_1]] = bif decide (0 ≤
  IntKind.i64.wrap (IntKind.i64.wrap (p0_1 + 1) - 1)) && decide (IntKind.i64.wrap (IntKind.i64.wrap (p0_1 + 1) - 1) < (↑p0_0.length : Int)) then (run none 122 [(str
  ((p0_0.getD (IntKind.i64.wrap (IntKind.i64.wrap (p0_1 + 1) - 1)).toNat E.nili).cell 0).toStr)] []).bind fun rh => bif okHeap [] rh.2 then bif okRes PP 4 rh.fst then bif
  !rh.fst.val.data.toBool then some (Res.pan (E.ifc 73 (E.agg [E.int IntKind.i64 2])), [Ob.box [AV.e (E.sl 9 p0_0), (num (IntKind.i64.wrap (p0_1 + 1)))]]) else bif decide
  (((p0_0.getD (IntKind.i64.wrap (IntKind.i64.wrap (p0_1 + 1) - 1)).toNat E.nili).cell 0).toStr.length ≤ 281474976710656) then bif atOk ((p0_0.getD (IntKind.i64.wrap
  (IntKind.i64.wrap (p0_1 + 1) - 1)).toNat E.nili).cell 0).toStr then some (Res.ret ((num (atVal ((p0_0.getD (IntKind.i64.wrap (IntKind.i64.wrap (p0_1 + 1) - 1)).toNat
  E.nili).cell 0).toStr))), [Ob.box [AV.e (E.sl 9 p0_0), (num (IntKind.i64.wrap (p0_1 + 1)))]]) else some (Res.pan (E.ifc 73 (E.agg [E.int IntKind.i64 1])), [Ob.box [AV.e
  (E.sl 9 p0_0), (num (IntKind.i64.wrap (p0_1 + 1)))]]) else none else none else none else none := by kernel_rfl
theorem eq_ptruth (run : RunF) (loop : LoopF) (p0_0 : List E) (p0_1 : Int) : bodyRun PP HH run loop none 96 [.ptr 0 0] [.box [.e (.sl 9 p0_0), num p0_1]] = bif decide (0 ≤
  IntKind.i64.wrap (IntKind.i64.wrap (p0_1 + 1) - 1)) && decide (IntKind.i64.wrap (IntKind.i64.wrap (p0_1 + 1) - 1) < (↑p0_0.length : Int)) then bif bif !strEq ((p0_0.getD
  (IntKind.i64.wrap (IntKind.i64.wrap (p0_1 + 1) - 1)).toNat E.nili).cell 0).toStr ([121, 101, 115] : List UInt8) then !strEq ((p0_0.getD (IntKind.i64.wrap (IntKind.i64.wrap
  (p0_1 + 1) - 1)).toNat E.nili).cell 0).toStr ([110, 111] : List UInt8) else false then some (Res.pan (E.ifc 73 (E.agg [E.int IntKind.i64 2])), [Ob.box [AV.e (E.sl 9 p0_0),
  (num (IntKind.i64.wrap (p0_1 + 1)))]]) else some (Res.ret ((yes (strEq ((p0_0.getD (IntKind.i64.wrap (IntKind.i64.wrap (p0_1 + 1) - 1)).toNat E.nili).cell 0).toStr ([121,
  101, 115] : List UInt8)))), [Ob.box [AV.e (E.sl 9 p0_0), (num (IntKind.i64.wrap (p0_1 + 1)))]]) else none := by kernel_rfl
theorem eq_ptext (run : RunF) (loop : LoopF) (p0_0 : List E) (p0_1 : Int) : bodyRun PP HH run loop none 95 [.ptr 0 0] [.box [.e (.sl 9 p0_0), num p0_1]] = bif decide (0 ≤
  IntKind.i64.wrap (IntKind.i64.wrap (p0_1 + 1) - 1)) && decide (IntKind.i64.wrap (IntKind.i64.wrap (p0_1 + 1) - 1) < (↑p0_0.length : Int)) then (run none 12 [(str ((p0_0.getD
  (IntKind.i64.wrap (IntKind.i64.wrap (p0_1 + 1) - 1)).toNat E.nili).cell 0).toStr)] []).bind fun rh => bif okHeap [] rh.2 then bif okRes PP 24 rh.fst then bif
  !(rh.fst.val.comp 1).data.toInt == 0 then some (Res.pan (E.ifc 73 (E.agg [E.int IntKind.i64 (rh.fst.val.comp 1).data.toInt].reverse)), [Ob.box [AV.e (E.sl 9 p0_0), (num
  (IntKind.i64.wrap (p0_1 + 1)))]]) else some (Res.ret ((str (rh.fst.val.comp 0).data.toStr)), [Ob.box [AV.e (E.sl 9 p0_0), (num (IntKind.i64.wrap (p0_1 + 1)))]]) else none
  else none else none := by kernel_rfl
theorem eq_popt (run : RunF) (loop : LoopF) (p0_0 : List E) (p0_1 : Int) : bodyRun PP HH run loop none 94 [.ptr 0 0] [.box [.e (.sl 9 p0_0), num p0_1]] = bif decide (0 ≤
  IntKind.i64.wrap (IntKind.i64.wrap (p0_1 + 1) - 1)) && decide (IntKind.i64.wrap (IntKind.i64.wrap (p0_1 + 1) - 1) < (↑p0_0.length : Int)) then bif strEq ((p0_0.getD
  (IntKind.i64.wrap (IntKind.i64.wrap (p0_1 + 1) - 1)).toNat E.nili).cell 0).toStr ([] : List UInt8) then some (Res.pan (E.ifc 73 (E.agg [E.int IntKind.i64 11])), [Ob.box
  [AV.e (E.sl 9 p0_0), (num (IntKind.i64.wrap (p0_1 + 1)))]]) else bif strEq ((p0_0.getD (IntKind.i64.wrap (IntKind.i64.wrap (p0_1 + 1) - 1)).toNat E.nili).cell 0).toStr ([45]
  : List UInt8) then some (Res.ret ((str [])), [Ob.box [AV.e (E.sl 9 p0_0), (num (IntKind.i64.wrap (p0_1 + 1)))]]) else some (Res.ret ((str ((p0_0.getD (IntKind.i64.wrap
  (IntKind.i64.wrap (p0_1 + 1) - 1)).toNat E.nili).cell 0).toStr)), [Ob.box [AV.e (E.sl 9 p0_0), (num (IntKind.i64.wrap (p0_1 + 1)))]]) else none := by kernel_rfl
theorem eq_pprops (run : RunF) (loop : LoopF) (p0_0 : List E) (p0_1 : Int) : bodyRun PP HH run loop none 97 [.ptr 0 0] [.box [.e (.sl 9 p0_0), num p0_1]] = (loop 97 1 lc_97_2
  ([AV.ptr 0 0, uu, uu, AV.own 1 97 []] ++ List.replicate 33 uu) [Ob.box [AV.e (E.sl 9 p0_0), num p0_1], Ob.vec 97 0]).bind fun o => bif o.ex.isWay (Way.exit 0) then bif okFr
  ([uu, uu, uu, AV.own 1 97 []] ++ List.replicate 33 uu) o.2 && okHeap [Ob.box [AV.e (E.sl 9 []), num 0], Ob.vec 97 0] o.3 then some (Res.ret (AV.e (E.sl 97 (List.getD o.fr 3
  uu).data.toList)), [Ob.box [AV.e (E.sl 9 ((o.hp.ob 0).cell 0).data.toList), (num ((o.hp.ob 0).cell 1).data.toInt)]]) else none else bif o.ex.isWay Way.pan then bif okFr
  (List.replicate 37 uu) o.2 && okHeap [Ob.box [AV.e (E.sl 9 []), num 0]] o.3 then some (Res.pan o.ex.why, [Ob.box [AV.e (E.sl 9 ((o.hp.ob 0).cell 0).data.toList), (num
  ((o.hp.ob 0).cell 1).data.toInt)]]) else none else none := by kernel_rfl
theorem eq_ppropsL2 (run : RunF) (loop : LoopF) (p0_0 : List E) (p0_1 : Int) (t3 : List E) : bodyLoop PP HH run loop 97 1 lc_97_2 (((List.replicate 37 uu).set 0 (.ptr 0
  0)).set 3 (.own 1 97 t3)) [.box [.e (.sl 9 p0_0), num p0_1], .vec 97 t3.length] = bif decide (p0_1 < (↑p0_0.length : Int)) then bif decide (0 ≤ IntKind.i64.wrap
  (IntKind.i64.wrap (p0_1 + 1) - 1)) && decide (IntKind.i64.wrap (IntKind.i64.wrap (p0_1 + 1) - 1) < (↑p0_0.length : Int)) then bif decide (0 ≤ Lib.indexByte ((p0_0.getD
  (IntKind.i64.wrap (IntKind.i64.wrap (p0_1 + 1) - 1)).toNat E.nili).cell 0).toStr 61) then bif decide (0 ≤ Lib.indexByte ((p0_0.getD (IntKind.i64.wrap (IntKind.i64.wrap (p0_1
  + 1) - 1)).toNat E.nili).cell 0).toStr 61) && decide (Lib.indexByte ((p0_0.getD (IntKind.i64.wrap (IntKind.i64.wrap (p0_1 + 1) - 1)).toNat E.nili).cell 0).toStr 61 ≤
  (↑((p0_0.getD (IntKind.i64.wrap (IntKind.i64.wrap (p0_1 + 1) - 1)).toNat E.nili).cell 0).toStr.length : Int)) then bif decide (0 ≤ IntKind.i64.wrap (Lib.indexByte
  ((p0_0.getD (IntKind.i64.wrap (IntKind.i64.wrap (p0_1 + 1) - 1)).toNat E.nili).cell 0).toStr 61 + (↑1 : Int))) && decide (IntKind.i64.wrap (Lib.indexByte ((p0_0.getD
  (IntKind.i64.wrap (IntKind.i64.wrap (p0_1 + 1) - 1)).toNat E.nili).cell 0).toStr 61 + (↑1 : Int)) ≤ (↑((p0_0.getD (IntKind.i64.wrap (IntKind.i64.wrap (p0_1 + 1) - 1)).toNat
  E.nili).cell 0).toStr.length : Int)) && decide ((↑((p0_0.getD (IntKind.i64.wrap (IntKind.i64.wrap (p0_1 + 1) - 1)).toNat E.nili).cell 0).toStr.length : Int) ≤ (↑((p0_0.getD
  (IntKind.i64.wrap (IntKind.i64.wrap (p0_1 + 1) - 1)).toNat E.nili).cell 0).toStr.length : Int)) then (run none 12 [(str (List.drop (IntKind.i64.wrap (Lib.indexByte
  ((p0_0.getD (IntKind.i64.wrap (IntKind.i64.wrap (p0_1 + 1) - 1)).toNat E.nili).cell 0).toStr 61 + (↑1 : Int))).toNat (List.take (↑((p0_0.getD (IntKind.i64.wrap
  (IntKind.i64.wrap (p0_1 + 1) - 1)).toNat E.nili).cell 0).toStr.length : Int).toNat ((p0_0.getD (IntKind.i64.wrap (IntKind.i64.wrap (p0_1 + 1) - 1)).toNat E.nili).cell
  0).toStr)))] []).bind fun rh => bif okHeap [] rh.2 then bif okRes PP 24 rh.fst then bif !(rh.fst.val.comp 1).data.toInt == 0 then some (Out.mk (Ex.pan (E.ifc 73 (E.agg
  [E.int IntKind.i64 (rh.fst.val.comp 1).data.toInt].reverse))) ((List.replicate 37 uu)) ([Ob.box [AV.e (E.sl 9 p0_0), (num (IntKind.i64.wrap (p0_1 + 1)))]]) ([])) else bif
  decide (t3.length = t3.length) && decide ((t3.length + (97, elems PP 97 2 1 [E.str (rh.fst.val.comp 0).data.toStr, E.str (List.drop 0 (List.take (Lib.indexByte ((p0_0.getD
  (IntKind.i64.wrap (IntKind.i64.wrap (p0_1 + 1) - 1)).toNat E.nili).cell 0).toStr 61).toNat ((p0_0.getD (IntKind.i64.wrap (IntKind.i64.wrap (p0_1 + 1) - 1)).toNat
  E.nili).cell 0).toStr))].reverse).snd.length) * 32 ≤ 140737488355328) then (loop 97 1 lc_97_2 ([AV.ptr 0 0, uu, uu, AV.own 1 97 (t3 ++ (97, elems PP 97 2 1 [E.str
  (rh.fst.val.comp 0).data.toStr, E.str (List.drop 0 (List.take (Lib.indexByte ((p0_0.getD (IntKind.i64.wrap (IntKind.i64.wrap (p0_1 + 1) - 1)).toNat E.nili).cell 0).toStr
  61).toNat ((p0_0.getD (IntKind.i64.wrap (IntKind.i64.wrap (p0_1 + 1) - 1)).toNat E.nili).cell 0).toStr))].reverse).snd)] ++ List.replicate 33 uu) [Ob.box [AV.e (E.sl 9
  p0_0), (num (IntKind.i64.wrap (p0_1 + 1)))], Ob.vec 97 (t3 ++ (97, elems PP 97 2 1 [E.str (rh.fst.val.comp 0).data.toStr, E.str (List.drop 0 (List.take (Lib.indexByte
  ((p0_0.getD (IntKind.i64.wrap (IntKind.i64.wrap (p0_1 + 1) - 1)).toNat E.nili).cell 0).toStr 61).toNat ((p0_0.getD (IntKind.i64.wrap (IntKind.i64.wrap (p0_1 + 1) - 1)).toNat
  E.nili).cell 0).toStr))].reverse).snd).length]).bind fun o => some o else none else none else none else none else none else some (Out.mk (Ex.pan (E.ifc 73 (E.agg [E.int
  IntKind.i64 2]))) ((List.replicate 37 uu)) ([Ob.box [AV.e (E.sl 9 p0_0), (num (IntKind.i64.wrap (p0_1 + 1)))]]) ([])) else none else some (Out.mk (Ex.exit 0) (([uu, uu, uu,
  AV.own 1 97 t3] ++ List.replicate 33 uu)) ([Ob.box [AV.e (E.sl 9 p0_0), num p0_1], Ob.vec 97 t3.length]) ([])) := by kernel_rfl
theorem eq_pkind (run : RunF) (loop : LoopF) (p0_0 : List E) (p0_1 : Int) : bodyRun PP HH run loop none 93 [.ptr 0 0] [.box [.e (.sl 9 p0_0), num p0_1]] = bif decide (0 ≤
  IntKind.i64.wrap (IntKind.i64.wrap (p0_1 + 1) - 1)) && decide (IntKind.i64.wrap (IntKind.i64.wrap (p0_1 + 1) - 1) < (↑p0_0.length : Int)) then (loop 93 1 lc_93_3 ([uu, uu,
  num 0, (str ((p0_0.getD (IntKind.i64.wrap (IntKind.i64.wrap (p0_1 + 1) - 1)).toNat E.nili).cell 0).toStr), num 1] ++ List.replicate 13 uu) [Ob.box [AV.e (E.sl 9 p0_0), (num
  (IntKind.i64.wrap (p0_1 + 1)))]]).bind fun o => bif o.ex.isWay (Way.exit 0) then bif okFr ([uu, uu, num 0] ++ List.replicate 15 uu) o.2 && okHeap [Ob.box [AV.e (E.sl 9 []),
  num 0]] o.3 then some (Res.pan (E.ifc 73 (E.agg [E.int IntKind.i64 10])), [Ob.box [AV.e (E.sl 9 ((o.hp.ob 0).cell 0).data.toList), (num ((o.hp.ob 0).cell 1).data.toInt)]])
  else none else bif o.ex.isWay Way.ret then bif okFr ([uu, uu, num 0] ++ List.replicate 15 uu) o.2 && okHeap [Ob.box [AV.e (E.sl 9 []), num 0]] o.3 then some (Res.ret ((num
  (List.getD o.fr 2 uu).data.toInt)), [Ob.box [AV.e (E.sl 9 ((o.hp.ob 0).cell 0).data.toList), (num ((o.hp.ob 0).cell 1).data.toInt)]]) else none else bif o.ex.isWay Way.pan
  then bif okFr (List.replicate 18 uu) o.2 && okHeap [Ob.box [AV.e (E.sl 9 []), num 0]] o.3 then some (Res.pan o.ex.why, [Ob.box [AV.e (E.sl 9 ((o.hp.ob 0).cell
  0).data.toList), (num ((o.hp.ob 0).cell 1).data.toInt)]]) else none else none else none := by kernel_rfl
theorem eq_pkindL3 (run : RunF) (loop : LoopF) (p0_0 : List E) (p0_1 t2 : Int) (t3 : List UInt8) (t4 : Int) : bodyLoop PP HH run loop 93 1 lc_93_3 ((((List.replicate 18
  uu).set 2 (num t2)).set 3 (str t3)).set 4 (num t4)) [.box [.e (.sl 9 p0_0), num p0_1]] = bif decide (t4 ≤ 4) then (run none 42 [num t4] []).bind fun rh => bif okHeap [] rh.2
  then bif okRes PP 9 rh.fst then bif strEq rh.fst.val.data.toStr t3 then some (Out.mk (Ex.ret) (([uu, uu, num t4] ++ List.replicate 15 uu)) ([Ob.box [AV.e (E.sl 9 p0_0), num
  p0_1]]) ([])) else (loop 93 1 lc_93_3 ([uu, uu, num t2, str t3, (num (IntKind.i64.wrap (t4 + 1)))] ++ List.replicate 13 uu) [Ob.box [AV.e (E.sl 9 p0_0), num p0_1]]).bind fun
  o => some o else none else none else some (Out.mk (Ex.exit 0) (([uu, uu, num t2] ++ List.replicate 15 uu)) ([Ob.box [AV.e (E.sl 9 p0_0), num p0_1]]) ([])) := by kernel_rfl
theorem eq_pmsg (run : RunF) (loop : LoopF) (p0_0 : List E) (p0_1 : Int) : bodyRun PP HH run loop none 98 [.ptr 0 0] [.box [.e (.sl 9 p0_0), num p0_1]] = (run none 95 [AV.ptr
  0 0] [Ob.box [AV.e (E.sl 9 p0_0), num p0_1]]).bind fun rh => bif okHeap [Ob.box [AV.e (E.sl 9 p0_0), num p0_1]] rh.2 then bif rh.fst.isPan then some (Res.pan rh.fst.why,
  [Ob.box [AV.e (E.sl 9 ((rh.snd.ob 0).cell 0).data.toList), (num ((rh.snd.ob 0).cell 1).data.toInt)]]) else bif okRes PP 9 rh.fst then (run none 95 [AV.ptr 0 0] [Ob.box [AV.e
  (E.sl 9 ((rh.snd.ob 0).cell 0).data.toList), (num ((rh.snd.ob 0).cell 1).data.toInt)]]).bind fun rh_1 => bif okHeap [Ob.box [AV.e (E.sl 9 ((rh.snd.ob 0).cell
  0).data.toList), (num ((rh.snd.ob 0).cell 1).data.toInt)]] rh_1.2 then bif rh_1.fst.isPan then some (Res.pan rh_1.fst.why, [Ob.box [AV.e (E.sl 9 ((rh_1.snd.ob 0).cell
  0).data.toList), (num ((rh_1.snd.ob 0).cell 1).data.toInt)]]) else bif okRes PP 9 rh_1.fst then (run none 92 [AV.ptr 0 0] [Ob.box [AV.e (E.sl 9 ((rh_1.snd.ob 0).cell
  0).data.toList), (num ((rh_1.snd.ob 0).cell 1).data.toInt)]]).bind fun rh_2 => bif okHeap [Ob.box [AV.e (E.sl 9 ((rh_1.snd.ob 0).cell 0).data.toList), (num ((rh_1.snd.ob
  0).cell 1).data.toInt)]] rh_2.2 then bif rh_2.fst.isPan then some (Res.pan rh_2.fst.why, [Ob.box [AV.e (E.sl 9 ((rh_2.snd.ob 0).cell 0).data.toList), (num ((rh_2.snd.ob
  0).cell 1).data.toInt)]]) else bif okRes PP 3 rh_2.fst then (run none 96 [AV.ptr 0 0] [Ob.box [AV.e (E.sl 9 ((rh_2.snd.ob 0).cell 0).data.toList), (num ((rh_2.snd.ob 0).cell
  1).data.toInt)]]).bind fun rh_3 => bif okHeap [Ob.box [AV.e (E.sl 9 ((rh_2.snd.ob 0).cell 0).data.toList), (num ((rh_2.snd.ob 0).cell 1).data.toInt)]] rh_3.2 then bif
  rh_3.fst.isPan then some (Res.pan rh_3.fst.why, [Ob.box [AV.e (E.sl 9 ((rh_3.snd.ob 0).cell 0).data.toList), (num ((rh_3.snd.ob 0).cell 1).data.toInt)]]) else bif okRes PP 4
  rh_3.fst then (run none 92 [AV.ptr 0 0] [Ob.box [AV.e (E.sl 9 ((rh_3.snd.ob 0).cell 0).data.toList), (num ((rh_3.snd.ob 0).cell 1).data.toInt)]]).bind fun rh_4 => bif okHeap
  [Ob.box [AV.e (E.sl 9 ((rh_3.snd.ob 0).cell 0).data.toList), (num ((rh_3.snd.ob 0).cell 1).data.toInt)]] rh_4.2 then bif rh_4.fst.isPan then some (Res.pan rh_4.fst.why,
  [Ob.box [AV.e (E.sl 9 ((rh_4.snd.ob 0).cell 0).data.toList), (num ((rh_4.snd.ob 0).cell 1).data.toInt)]]) else bif okRes PP 3 rh_4.fst then (run none 92 [AV.ptr 0 0] [Ob.box
  [AV.e (E.sl 9 ((rh_4.snd.ob 0).cell 0).data.toList), (num ((rh_4.snd.ob 0).cell 1).data.toInt)]]).bind fun rh_5 => bif okHeap [Ob.box [AV.e (E.sl 9 ((rh_4.snd.ob 0).cell
  0).data.toList), (num ((rh_4.snd.ob 0).cell 1).data.toInt)]] rh_5.2 then bif rh_5.fst.isPan then some (Res.pan rh_5.fst.why, [Ob.box [AV.e (E.sl 9 ((rh_5.snd.ob 0).cell
  0).data.toList), (num ((rh_5.snd.ob 0).cell 1).data.toInt)]]) else bif okRes PP 3 rh_5.fst then (run none 94 [AV.ptr 0 0] [Ob.box [AV.e (E.sl 9 ((rh_5.snd.ob 0).cell
  0).data.toList), (num ((rh_5.snd.ob 0).cell 1).data.toInt)]]).bind fun rh_6 => bif okHeap [Ob.box [AV.e (E.sl 9 ((rh_5.snd.ob 0).cell 0).data.toList), (num ((rh_5.snd.ob
  0).cell 1).data.toInt)]] rh_6.2 then bif rh_6.fst.isPan then some (Res.pan rh_6.fst.why, [Ob.box [AV.e (E.sl 9 ((rh_6.snd.ob 0).cell 0).data.toList), (num ((rh_6.snd.ob
  0).cell 1).data.toInt)]]) else bif okRes PP 9 rh_6.fst then (run none 92 [AV.ptr 0 0] [Ob.box [AV.e (E.sl 9 ((rh_6.snd.ob 0).cell 0).data.toList), (num ((rh_6.snd.ob 0).cell
  1).data.toInt)]]).bind fun rh_7 => bif okHeap [Ob.box [AV.e (E.sl 9 ((rh_6.snd.ob 0).cell 0).data.toList), (num ((rh_6.snd.ob 0).cell 1).data.toInt)]] rh_7.2 then bif
  rh_7.fst.isPan then some (Res.pan rh_7.fst.why, [Ob.box [AV.e (E.sl 9 ((rh_7.snd.ob 0).cell 0).data.toList), (num ((rh_7.snd.ob 0).cell 1).data.toInt)]]) else bif okRes PP 3
  rh_7.fst then (run none 97 [AV.ptr 0 0] [Ob.box [AV.e (E.sl 9 ((rh_7.snd.ob 0).cell 0).data.toList), (num ((rh_7.snd.ob 0).cell 1).data.toInt)]]).bind fun rh_8 => bif okHeap
  [Ob.box [AV.e (E.sl 9 ((rh_7.snd.ob 0).cell 0).data.toList), (num ((rh_7.snd.ob 0).cell 1).data.toInt)]] rh_8.2 then bif rh_8.fst.isPan then some (Res.pan rh_8.fst.why,
  [Ob.box [AV.e (E.sl 9 ((rh_8.snd.ob 0).cell 0).data.toList), (num ((rh_8.snd.ob 0).cell 1).data.toInt)]]) else bif okRes PP 33 rh_8.fst then some (Res.ret (AV.agg [str
  rh.fst.val.data.toStr, str rh_1.fst.val.data.toStr, num rh_2.fst.val.data.toInt, yes rh_3.fst.val.data.toBool, num rh_4.fst.val.data.toInt, num rh_5.fst.val.data.toInt, str
  rh_6.fst.val.data.toStr, num rh_7.fst.val.data.toInt, AV.e (E.sl 97 rh_8.fst.val.data.toList)]), [Ob.box [AV.e (E.sl 9 ((rh_8.snd.ob 0).cell 0).data.toList), (num
  ((rh_8.snd.ob 0).cell 1).data.toInt)]]) else none else none else none else none else none else none else none else none else none else none else none else none else none
  else none else none else none else none else none := by kernel_rfl
theorem eq_Parse (run : RunF) (loop : LoopF) (a0 : List UInt8) : bodyRun PP HH run loop none 21 [str a0] [] = bif decide (a0.length < 4294967281) then bif decide
  (IntKind.i64.wrap (IntKind.i64.wrap (0 + 1) - 1) < (↑(List.map E.str (splitAt 32 a0)).length : Int)) then (run none 57 [(str (((List.map E.str (splitAt 32 a0)).getD 0
  E.nili).cell 0).toStr)] []).bind fun rh => bif okHeap [] rh.2 then bif okRes PP 3 rh.fst then bif rh.fst.val.data.toInt == 0 then (run (some (some (E.ifc 73 (E.agg [E.int
  IntKind.i64 10])))) 55 [AV.ptr 0 0, AV.ptr 1 0] [Ob.box [num 0, num 0, num 0, num 0, num 0, yes false, str [], str [], str [], num 0, str [], str [], num 0, num 0, num 0,
  str [], str [], str [], str [], yes false, AV.e (E.sl 97 []), str [], str [], num 0, yes false, num 0, num 0, str [], num 0, AV.e (E.sl 97 [])], Ob.box [num 0]]).bind fun rh
  => bif rh.fst.isRcv then bif okHeap [Ob.box [num 0, num 0, num 0, num 0, num 0, yes false, str [], str [], str [], num 0, str [], str [], num 0, num 0, num 0, str [], str
  [], str [], str [], yes false, AV.own 2 97 [], str [], str [], num 0, yes false, num 0, num 0, str [], num 0, AV.own 3 97 []], Ob.box [num 0], Ob.vec 97 0, Ob.vec 97 0] rh.2
  then some (Res.ret (AV.tup [AV.agg [(num ((rh.snd.ob 0).cell 0).data.toInt), (num ((rh.snd.ob 0).cell 1).data.toInt), (num ((rh.snd.ob 0).cell 2).data.toInt), (num
  ((rh.snd.ob 0).cell 3).data.toInt), (num ((rh.snd.ob 0).cell 4).data.toInt), (yes ((rh.snd.ob 0).cell 5).data.toBool), (str ((rh.snd.ob 0).cell 6).data.toStr), (str
  ((rh.snd.ob 0).cell 7).data.toStr), (str ((rh.snd.ob 0).cell 8).data.toStr), (num ((rh.snd.ob 0).cell 9).data.toInt), (str ((rh.snd.ob 0).cell 10).data.toStr), (str
  ((rh.snd.ob 0).cell 11).data.toStr), (num ((rh.snd.ob 0).cell 12).data.toInt), (num ((rh.snd.ob 0).cell 13).data.toInt), (num ((rh.snd.ob 0).cell 14).data.toInt), (str
  ((rh.snd.ob 0).cell 15).data.toStr), (str ((rh.snd.ob 0).cell 16).data.toStr), (str ((rh.snd.ob 0).cell 17).data.toStr), (str ((rh.snd.ob 0).cell 18).data.toStr), (yes
  ((rh.snd.ob 0).cell 19).data.toBool), AV.e (E.sl 97 ((rh.snd.ob 0).cell 20).data.toList), (str ((rh.snd.ob 0).cell 21).data.toStr), (str ((rh.snd.ob 0).cell 22).data.toStr),
  (num ((rh.snd.ob 0).cell 23).data.toInt), (yes ((rh.snd.ob 0).cell 24).data.toBool), (num ((rh.snd.ob 0).cell 25).data.toInt), (num ((rh.snd.ob 0).cell 26).data.toInt), (str
  ((rh.snd.ob 0).cell 27).data.toStr), (num ((rh.snd.ob 0).cell 28).data.toInt), AV.e (E.sl 97 ((rh.snd.ob 0).cell 29).data.toList)], (num ((rh.snd.ob 1).cell
  0).data.toInt)]), []) else none else bif rh.fst.isRet then bif okHeap [Ob.box [num 0, num 0, num 0, num 0, num 0, yes false, str [], str [], str [], num 0, str [], str [],
  num 0, num 0, num 0, str [], str [], str [], str [], yes false, AV.e (E.sl 97 []), str [], str [], num 0, yes false, num 0, num 0, str [], num 0, AV.e (E.sl 97 [])], Ob.box
  [num 0]] rh.2 then some (Res.pan (E.ifc 73 (E.agg [E.int IntKind.i64 10])), []) else none else none else (run none 60 [num rh.fst.val.data.toInt] []).bind fun rh_1 => bif
  okHeap [] rh_1.2 then bif okRes PP 81 rh_1.fst then bif decide ((↑(List.map E.str (splitAt 32 a0)).length : Int) < (rh_1.fst.val.comp 0).data.toInt) == false then bif decide
  ((rh_1.fst.val.comp 0).data.toInt < (↑(List.map E.str (splitAt 32 a0)).length : Int)) == true then bif !(rh_1.fst.val.comp 1).data.toBool then (run (some (some (E.ifc 73
  (E.agg [E.int IntKind.i64 2])))) 55 [AV.ptr 0 0, AV.ptr 1 0] [Ob.box [num 0, num 0, num 0, num 0, num 0, yes false, str [], str [], str [], num 0, str [], str [], num 0, num
  0, num 0, str [], str [], str [], str [], yes false, AV.e (E.sl 97 []), str [], str [], num 0, yes false, num 0, num 0, str [], num 0, AV.e (E.sl 97 [])], Ob.box [num
  0]]).bind fun rh => bif rh.fst.isRcv then bif okHeap [Ob.box [num 0, num 0, num 0, num 0, num 0, yes false, str [], str [], str [], num 0, str [], str [], num 0, num 0, num
  0, str [], str [], str [], str [], yes false, AV.own 2 97 [], str [], str [], num 0, yes false, num 0, num 0, str [], num 0, AV.own 3 97 []], Ob.box [num 0], Ob.vec 97 0,
  Ob.vec 97 0] rh.2 then some (Res.ret (AV.tup [AV.agg [(num ((rh.snd.ob 0).cell 0).data.toInt), (num ((rh.snd.ob 0).cell 1).data.toInt), (num ((rh.snd.ob 0).cell
  2).data.toInt), (num ((rh.snd.ob 0).cell 3).data.toInt), (num ((rh.snd.ob 0).cell 4).data.toInt), (yes ((rh.snd.ob 0).cell 5).data.toBool), (str ((rh.snd.ob 0).cell
  6).data.toStr), (str ((rh.snd.ob 0).cell 7).data.toStr), (str ((rh.snd.ob 0).cell 8).data.toStr), (num ((rh.snd.ob 0).cell 9).data.toInt), (str ((rh.snd.ob 0).cell
  10).data.toStr), (str ((rh.snd.ob 0).cell 11).data.toStr), (num ((rh.snd.ob 0).cell 12).data.toInt), (num ((rh.snd.ob 0).cell 13).data.toInt), (num ((rh.snd.ob 0).cell
  14).data.toInt), (str ((rh.snd.ob 0).cell 15).data.toStr), (str ((rh.snd.ob 0).cell 16).data.toStr), (str ((rh.snd.ob 0).cell 17).data.toStr), (str ((rh.snd.ob 0).cell
  18).data.toStr), (yes ((rh.snd.ob 0).cell 19).data.toBool), AV.e (E.sl 97 ((rh.snd.ob 0).cell 20).data.toList), (str ((rh.snd.ob 0).cell 21).data.toStr), (str ((rh.snd.ob
  0).cell 22).data.toStr), (num ((rh.snd.ob 0).cell 23).data.toInt), (yes ((rh.snd.ob 0).cell 24).data.toBool), (num ((rh.snd.ob 0).cell 25).data.toInt), (num ((rh.snd.ob
  0).cell 26).data.toInt), (str ((rh.snd.ob 0).cell 27).data.toStr), (num ((rh.snd.ob 0).cell 28).data.toInt), AV.e (E.sl 97 ((rh.snd.ob 0).cell 29).data.toList)], (num
  ((rh.snd.ob 1).cell 0).data.toInt)]), []) else none else bif rh.fst.isRet then bif okHeap [Ob.box [num 0, num 0, num 0, num 0, num 0, yes false, str [], str [], str [], num
  0, str [], str [], num 0, num 0, num 0, str [], str [], str [], str [], yes false, AV.e (E.sl 97 []), str [], str [], num 0, yes false, num 0, num 0, str [], num 0, AV.e
  (E.sl 97 [])], Ob.box [num 0]] rh.2 then some (Res.pan (E.ifc 73 (E.agg [E.int IntKind.i64 2])), []) else none else none else (run none 61 [AV.ptr 0 0, num
  rh.fst.val.data.toInt] [Ob.box [AV.e (E.sl 9 (List.map E.str (splitAt 32 a0))), (num (IntKind.i64.wrap (0 + 1)))]]).bind fun rh => bif okHeap [Ob.box [AV.e (E.sl 9 (List.map
  E.str (splitAt 32 a0))), (num (IntKind.i64.wrap (0 + 1)))]] rh.2 then bif rh.fst.isPan then (run (some (some rh.fst.why)) 55 [AV.ptr 0 0, AV.ptr 1 0] [Ob.box [num 0, num 0,
  num 0, num 0, num 0, yes false, str [], str [], str [], num 0, str [], str [], num 0, num 0, num 0, str [], str [], str [], str [], yes false, AV.e (E.sl 97 []), str [], str
  [], num 0, yes false, num 0, num 0, str [], num 0, AV.e (E.sl 97 [])], Ob.box [num 0]]).bind fun rh_2 => bif rh_2.fst.isRcv then bif okHeap [Ob.box [num 0, num 0, num 0, num
  0, num 0, yes false, str [], str [], str [], num 0, str [], str [], num 0, num 0, num 0, str [], str [], str [], str [], yes false, AV.own 2 97 [], str [], str [], num 0,
  yes false, num 0, num 0, str [], num 0, AV.own 3 97 []], Ob.box [num 0], Ob.vec 97 0, Ob.vec 97 0] rh_2.2 then some (Res.ret (AV.tup [AV.agg [(num ((rh_2.snd.ob 0).cell
  0).data.toInt), (num ((rh_2.snd.ob 0).cell 1).data.toInt), (num ((rh_2.snd.ob 0).cell 2).data.toInt), (num ((rh_2.snd.ob 0).cell 3).data.toInt), (num ((rh_2.snd.ob 0).cell
  4).data.toInt), (yes ((rh_2.snd.ob 0).cell 5).data.toBool), (str ((rh_2.snd.ob 0).cell 6).data.toStr), (str ((rh_2.snd.ob 0).cell 7).data.toStr), (str ((rh_2.snd.ob 0).cell
  8).data.toStr), (num ((rh_2.snd.ob 0).cell 9).data.toInt), (str ((rh_2.snd.ob 0).cell 10).data.toStr), (str ((rh_2.snd.ob 0).cell 11).data.toStr), (num ((rh_2.snd.ob 0).cell
  12).data.toInt), (num ((rh_2.snd.ob 0).cell 13).data.toInt), (num ((rh_2.snd.ob 0).cell 14).data.toInt), (str ((rh_2.snd.ob 0).cell 15).data.toStr), (str ((rh_2.snd.ob
  0).cell 16).data.toStr), (str ((rh_2.snd.ob 0).cell 17).data.toStr), (str ((rh_2.snd.ob 0).cell 18).data.toStr), (yes ((rh_2.snd.ob 0).cell 19).data.toBool), AV.e (E.sl 97
  ((rh_2.snd.ob 0).cell 20).data.toList), (str ((rh_2.snd.ob 0).cell 21).data.toStr), (str ((rh_2.snd.ob 0).cell 22).data.toStr), (num ((rh_2.snd.ob 0).cell 23).data.toInt),
  (yes ((rh_2.snd.ob 0).cell 24).data.toBool), (num ((rh_2.snd.ob 0).cell 25).data.toInt), (num ((rh_2.snd.ob 0).cell 26).data.toInt), (str ((rh_2.snd.ob 0).cell
  27).data.toStr), (num ((rh_2.snd.ob 0).cell 28).data.toInt), AV.e (E.sl 97 ((rh_2.snd.ob 0).cell 29).data.toList)], (num ((rh_2.snd.ob 1).cell 0).data.toInt)]), []) else
  none else bif rh_2.fst.isRet then bif okHeap [Ob.box [num 0, num 0, num 0, num 0, num 0, yes false, str [], str [], str [], num 0, str [], str [], num 0, num 0, num 0, str
  [], str [], str [], str [], yes false, AV.e (E.sl 97 []), str [], str [], num 0, yes false, num 0, num 0, str [], num 0, AV.e (E.sl 97 [])], Ob.box [num 0]] rh_2.2 then some
  (Res.pan rh.fst.why, []) else none else none else bif okRes PP 39 rh.fst then (run none 17 [AV.agg [(num (rh.fst.val.data.cell 0).toInt), (num (rh.fst.val.data.cell
  1).toInt), (num (rh.fst.val.data.cell 2).toInt), (num (rh.fst.val.data.cell 3).toInt), (num (rh.fst.val.data.cell 4).toInt), (yes (rh.fst.val.data.cell 5).toBool), (str
  (rh.fst.val.data.cell 6).toStr), (str (rh.fst.val.data.cell 7).toStr), (str (rh.fst.val.data.cell 8).toStr), (num (rh.fst.val.data.cell 9).toInt), (str (rh.fst.val.data.cell
  10).toStr), (str (rh.fst.val.data.cell 11).toStr), (num (rh.fst.val.data.cell 12).toInt), (num (rh.fst.val.data.cell 13).toInt), (num (rh.fst.val.data.cell 14).toInt), (str
  (rh.fst.val.data.cell 15).toStr), (str (rh.fst.val.data.cell 16).toStr), (str (rh.fst.val.data.cell 17).toStr), (str (rh.fst.val.data.cell 18).toStr), (yes
  (rh.fst.val.data.cell 19).toBool), AV.e (E.sl 97 (rh.fst.val.data.cell 20).toList), (str (rh.fst.val.data.cell 21).toStr), (str (rh.fst.val.data.cell 22).toStr), (num
  (rh.fst.val.data.cell 23).toInt), (yes (rh.fst.val.data.cell 24).toBool), (num (rh.fst.val.data.cell 25).toInt), (num (rh.fst.val.data.cell 26).toInt), (str
  (rh.fst.val.data.cell 27).toStr), (num (rh.fst.val.data.cell 28).toInt), AV.e (E.sl 97 (rh.fst.val.data.cell 29).toList)]] []).bind fun rh_2 => bif okHeap [] rh_2.2 then bif
  okRes PP 23 rh_2.fst then bif !rh_2.fst.val.data.toInt == 0 then (run (some (some (E.ifc 73 (E.agg [E.int IntKind.i64 rh_2.fst.val.data.toInt].reverse)))) 55 [AV.ptr 0 0,
  AV.ptr 1 0] [Ob.box [(num (rh.fst.val.data.cell 0).toInt), (num (rh.fst.val.data.cell 1).toInt), (num (rh.fst.val.data.cell 2).toInt), (num (rh.fst.val.data.cell 3).toInt),
  (num (rh.fst.val.data.cell 4).toInt), (yes (rh.fst.val.data.cell 5).toBool), (str (rh.fst.val.data.cell 6).toStr), (str (rh.fst.val.data.cell 7).toStr), (str
  (rh.fst.val.data.cell 8).toStr), (num (rh.fst.val.data.cell 9).toInt), (str (rh.fst.val.data.cell 10).toStr), (str (rh.fst.val.data.cell 11).toStr), (num
  (rh.fst.val.data.cell 12).toInt), (num (rh.fst.val.data.cell 13).toInt), (num (rh.fst.val.data.cell 14).toInt), (str (rh.fst.val.data.cell 15).toStr), (str
  (rh.fst.val.data.cell 16).toStr), (str (rh.fst.val.data.cell 17).toStr), (str (rh.fst.val.data.cell 18).toStr), (yes (rh.fst.val.data.cell 19).toBool), AV.e (E.sl 97
  (rh.fst.val.data.cell 20).toList), (str (rh.fst.val.data.cell 21).toStr), (str (rh.fst.val.data.cell 22).toStr), (num (rh.fst.val.data.cell 23).toInt), (yes
  (rh.fst.val.data.cell 24).toBool), (num (rh.fst.val.data.cell 25).toInt), (num (rh.fst.val.data.cell 26).toInt), (str (rh.fst.val.data.cell 27).toStr), (num
  (rh.fst.val.data.cell 28).toInt), AV.e (E.sl 97 (rh.fst.val.data.cell 29).toList)], Ob.box [num rh_2.fst.val.data.toInt]]).bind fun rh_3 => bif rh_3.fst.isRcv then bif
  okHeap [Ob.box [num 0, num 0, num 0, num 0, num 0, yes false, str [], str [], str [], num 0, str [], str [], num 0, num 0, num 0, str [], str [], str [], str [], yes false,
  AV.own 2 97 [], str [], str [], num 0, yes false, num 0, num 0, str [], num 0, AV.own 3 97 []], Ob.box [num 0], Ob.vec 97 0, Ob.vec 97 0] rh_3.2 then some (Res.ret (AV.tup
  [AV.agg [(num ((rh_3.snd.ob 0).cell 0).data.toInt), (num ((rh_3.snd.ob 0).cell 1).data.toInt), (num ((rh_3.snd.ob 0).cell 2).data.toInt), (num ((rh_3.snd.ob 0).cell
  3).data.toInt), (num ((rh_3.snd.ob 0).cell 4).data.toInt), (yes ((rh_3.snd.ob 0).cell 5).data.toBool), (str ((rh_3.snd.ob 0).cell 6).data.toStr), (str ((rh_3.snd.ob 0).cell
  7).data.toStr), (str ((rh_3.snd.ob 0).cell 8).data.toStr), (num ((rh_3.snd.ob 0).cell 9).data.toInt), (str ((rh_3.snd.ob 0).cell 10).data.toStr), (str ((rh_3.snd.ob 0).cell
  11).data.toStr), (num ((rh_3.snd.ob 0).cell 12).data.toInt), (num ((rh_3.snd.ob 0).cell 13).data.toInt), (num ((rh_3.snd.ob 0).cell 14).data.toInt), (str ((rh_3.snd.ob
  0).cell 15).data.toStr), (str ((rh_3.snd.ob 0).cell 16).data.toStr), (str ((rh_3.snd.ob 0).cell 17).data.toStr), (str ((rh_3.snd.ob 0).cell 18).data.toStr), (yes
  ((rh_3.snd.ob 0).cell 19).data.toBool), AV.e (E.sl 97 ((rh_3.snd.ob 0).cell 20).data.toList), (str ((rh_3.snd.ob 0).cell 21).data.toStr), (str ((rh_3.snd.ob 0).cell
  22).data.toStr), (num ((rh_3.snd.ob 0).cell 23).data.toInt), (yes ((rh_3.snd.ob 0).cell 24).data.toBool), (num ((rh_3.snd.ob 0).cell 25).data.toInt), (num ((rh_3.snd.ob
  0).cell 26).data.toInt), (str ((rh_3.snd.ob 0).cell 27).data.toStr), (num ((rh_3.snd.ob 0).cell 28).data.toInt), AV.e (E.sl 97 ((rh_3.snd.ob 0).cell 29).data.toList)], (num
  ((rh_3.snd.ob 1).cell 0).data.toInt)]), []) else none else bif rh_3.fst.isRet then bif okHeap [Ob.box [(num (rh.fst.val.data.cell 0).toInt), (num (rh.fst.val.data.cell
  1).toInt), (num (rh.fst.val.data.cell 2).toInt), (num (rh.fst.val.data.cell 3).toInt), (num (rh.fst.val.data.cell 4).toInt), (yes (rh.fst.val.data.cell 5).toBool), (str
  (rh.fst.val.data.cell 6).toStr), (str (rh.fst.val.data.cell 7).toStr), (str (rh.fst.val.data.cell 8).toStr), (num (rh.fst.val.data.cell 9).toInt), (str (rh.fst.val.data.cell
  10).toStr), (str (rh.fst.val.data.cell 11).toStr), (num (rh.fst.val.data.cell 12).toInt), (num (rh.fst.val.data.cell 13).toInt), (num (rh.fst.val.data.cell 14).toInt), (str
  (rh.fst.val.data.cell 15).toStr), (str (rh.fst.val.data.cell 16).toStr), (str (rh.fst.val.data.cell 17).toStr), (str (rh.fst.val.data.cell 18).toStr), (yes
  (rh.fst.val.data.cell 19).toBool), AV.e (E.sl 97 (rh.fst.val.data.cell 20).toList), (str (rh.fst.val.data.cell 21).toStr), (str (rh.fst.val.data.cell 22).toStr), (num
  (rh.fst.val.data.cell 23).toInt), (yes (rh.fst.val.data.cell 24).toBool), (num (rh.fst.val.data.cell 25).toInt), (num (rh.fst.val.data.cell 26).toInt), (str
  (rh.fst.val.data.cell 27).toStr), (num (rh.fst.val.data.cell 28).toInt), AV.e (E.sl 97 (rh.fst.val.data.cell 29).toList)], Ob.box [num rh_2.fst.val.data.toInt]] rh_3.2 then
  some (Res.pan (E.ifc 73 (E.agg [E.int IntKind.i64 rh_2.fst.val.data.toInt].reverse)), []) else none else none else (run (some none) 55 [AV.ptr 0 0, AV.ptr 1 0] [Ob.box [(num
  (rh.fst.val.data.cell 0).toInt), (num (rh.fst.val.data.cell 1).toInt), (num (rh.fst.val.data.cell 2).toInt), (num (rh.fst.val.data.cell 3).toInt), (num (rh.fst.val.data.cell
  4).toInt), (yes (rh.fst.val.data.cell 5).toBool), (str (rh.fst.val.data.cell 6).toStr), (str (rh.fst.val.data.cell 7).toStr), (str (rh.fst.val.data.cell 8).toStr), (num
  (rh.fst.val.data.cell 9).toInt), (str (rh.fst.val.data.cell 10).toStr), (str (rh.fst.val.data.cell 11).toStr), (num (rh.fst.val.data.cell 12).toInt), (num
  (rh.fst.val.data.cell 13).toInt), (num (rh.fst.val.data.cell 14).toInt), (str (rh.fst.val.data.cell 15).toStr), (str (rh.fst.val.data.cell 16).toStr), (str
  (rh.fst.val.data.cell 17).toStr), (str (rh.fst.val.data.cell 18).toStr), (yes (rh.fst.val.data.cell 19).toBool), AV.e (E.sl 97 (rh.fst.val.data.cell 20).toList), (str
  (rh.fst.val.data.cell 21).toStr), (str (rh.fst.val.data.cell 22).toStr), (num (rh.fst.val.data.cell 23).toInt), (yes (rh.fst.val.data.cell 24).toBool), (num
  (rh.fst.val.data.cell 25).toInt), (num (rh.fst.val.data.cell 26).toInt), (str (rh.fst.val.data.cell 27).toStr), (num (rh.fst.val.data.cell 28).toInt), AV.e (E.sl 97
  (rh.fst.val.data.cell 29).toList)], Ob.box [num 0]]).bind fun rh_3 => bif rh_3.fst.isRet then bif okHeap [Ob.box [(num (rh.fst.val.data.cell 0).toInt), (num
  (rh.fst.val.data.cell 1).toInt), (num (rh.fst.val.data.cell 2).toInt), (num (rh.fst.val.data.cell 3).toInt), (num (rh.fst.val.data.cell 4).toInt), (yes (rh.fst.val.data.cell
  5).toBool), (str (rh.fst.val.data.cell 6).toStr), (str (rh.fst.val.data.cell 7).toStr), (str (rh.fst.val.data.cell 8).toStr), (num (rh.fst.val.data.cell 9).toInt), (str
  (rh.fst.val.data.cell 10).toStr), (str (rh.fst.val.data.cell 11).toStr), (num (rh.fst.val.data.cell 12).toInt), (num (rh.fst.val.data.cell 13).toInt), (num
  (rh.fst.val.data.cell 14).toInt), (str (rh.fst.val.data.cell 15).toStr), (str (rh.fst.val.data.cell 16).toStr), (str (rh.fst.val.data.cell 17).toStr), (str
  (rh.fst.val.data.cell 18).toStr), (yes (rh.fst.val.data.cell 19).toBool), AV.e (E.sl 97 (rh.fst.val.data.cell 20).toList), (str (rh.fst.val.data.cell 21).toStr), (str
  (rh.fst.val.data.cell 22).toStr), (num (rh.fst.val.data.cell 23).toInt), (yes (rh.fst.val.data.cell 24).toBool), (num (rh.fst.val.data.cell 25).toInt), (num
  (rh.fst.val.data.cell 26).toInt), (str (rh.fst.val.data.cell 27).toStr), (num (rh.fst.val.data.cell 28).toInt), AV.e (E.sl 97 (rh.fst.val.data.cell 29).toList)], Ob.box [num
  0]] rh_3.2 then some (Res.ret (AV.tup [AV.agg [(num ((rh_3.snd.ob 0).cell 0).data.toInt), (num ((rh_3.snd.ob 0).cell 1).data.toInt), (num ((rh_3.snd.ob 0).cell
  2).data.toInt), (num ((rh_3.snd.ob 0).cell 3).data.toInt), (num ((rh_3.snd.ob 0).cell 4).data.toInt), (yes ((rh_3.snd.ob 0).cell 5).data.toBool), (str ((rh_3.snd.ob 0).cell
  6).data.toStr), (str ((rh_3.snd.ob 0).cell 7).data.toStr), (str ((rh_3.snd.ob 0).cell 8).data.toStr), (num ((rh_3.snd.ob 0).cell 9).data.toInt), (str ((rh_3.snd.ob 0).cell
  10).data.toStr), (str ((rh_3.snd.ob 0).cell 11).data.toStr), (num ((rh_3.snd.ob 0).cell 12).data.toInt), (num ((rh_3.snd.ob 0).cell 13).data.toInt), (num ((rh_3.snd.ob
  0).cell 14).data.toInt), (str ((rh_3.snd.ob 0).cell 15).data.toStr), (str ((rh_3.snd.ob 0).cell 16).data.toStr), (str ((rh_3.snd.ob 0).cell 17).data.toStr), (str
  ((rh_3.snd.ob 0).cell 18).data.toStr), (yes ((rh_3.snd.ob 0).cell 19).data.toBool), AV.e (E.sl 97 ((rh_3.snd.ob 0).cell 20).data.toList), (str ((rh_3.snd.ob 0).cell
  21).data.toStr), (str ((rh_3.snd.ob 0).cell 22).data.toStr), (num ((rh_3.snd.ob 0).cell 23).data.toInt), (yes ((rh_3.snd.ob 0).cell 24).data.toBool), (num ((rh_3.snd.ob
  0).cell 25).data.toInt), (num ((rh_3.snd.ob 0).cell 26).data.toInt), (str ((rh_3.snd.ob 0).cell 27).data.toStr), (num ((rh_3.snd.ob 0).cell 28).data.toInt), AV.e (E.sl 97
  ((rh_3.snd.ob 0).cell 29).data.toList)], (num ((rh_3.snd.ob 1).cell 0).data.toInt)]), []) else none else none else none else none else none else none else (run none 61
  [AV.ptr 0 0, num rh.fst.val.data.toInt] [Ob.box [AV.e (E.sl 9 (List.map E.str (splitAt 32 a0))), (num (IntKind.i64.wrap (0 + 1)))]]).bind fun rh => bif okHeap [Ob.box [AV.e
  (E.sl 9 (List.map E.str (splitAt 32 a0))), (num (IntKind.i64.wrap (0 + 1)))]] rh.2 then bif rh.fst.isPan then (run (some (some rh.fst.why)) 55 [AV.ptr 0 0, AV.ptr 1 0]
  [Ob.box [num 0, num 0, num 0, num 0, num 0, yes false, str [], str [], str [], num 0, str [], str [], num 0, num 0, num 0, str [], str [], str [], str [], yes false, AV.e
  (E.sl 97 []), str [], str [], num 0, yes false, num 0, num 0, str [], num 0, AV.e (E.sl 97 [])], Ob.box [num 0]]).bind fun rh_2 => bif rh_2.fst.isRcv then bif okHeap [Ob.box
  [num 0, num 0, num 0, num 0, num 0, yes false, str [], str [], str [], num 0, str [], str [], num 0, num 0, num 0, str [], str [], str [], str [], yes false, AV.own 2 97 [],
  str [], str [], num 0, yes false, num 0, num 0, str [], num 0, AV.own 3 97 []], Ob.box [num 0], Ob.vec 97 0, Ob.vec 97 0] rh_2.2 then some (Res.ret (AV.tup [AV.agg [(num
  ((rh_2.snd.ob 0).cell 0).data.toInt), (num ((rh_2.snd.ob 0).cell 1).data.toInt), (num ((rh_2.snd.ob 0).cell 2).data.toInt), (num ((rh_2.snd.ob 0).cell 3).data.toInt), (num
  ((rh_2.snd.ob 0).cell 4).data.toInt), (yes ((rh_2.snd.ob 0).cell 5).data.toBool), (str ((rh_2.snd.ob 0).cell 6).data.toStr), (str ((rh_2.snd.ob 0).cell 7).data.toStr), (str
  ((rh_2.snd.ob 0).cell 8).data.toStr), (num ((rh_2.snd.ob 0).cell 9).data.toInt), (str ((rh_2.snd.ob 0).cell 10).data.toStr), (str ((rh_2.snd.ob 0).cell 11).data.toStr), (num
  ((rh_2.snd.ob 0).cell 12).data.toInt), (num ((rh_2.snd.ob 0).cell 13).data.toInt), (num ((rh_2.snd.ob 0).cell 14).data.toInt), (str ((rh_2.snd.ob 0).cell 15).data.toStr),
  (str ((rh_2.snd.ob 0).cell 16).data.toStr), (str ((rh_2.snd.ob 0).cell 17).data.toStr), (str ((rh_2.snd.ob 0).cell 18).data.toStr), (yes ((rh_2.snd.ob 0).cell
  19).data.toBool), AV.e (E.sl 97 ((rh_2.snd.ob 0).cell 20).data.toList), (str ((rh_2.snd.ob 0).cell 21).data.toStr), (str ((rh_2.snd.ob 0).cell 22).data.toStr), (num
  ((rh_2.snd.ob 0).cell 23).data.toInt), (yes ((rh_2.snd.ob 0).cell 24).data.toBool), (num ((rh_2.snd.ob 0).cell 25).data.toInt), (num ((rh_2.snd.ob 0).cell 26).data.toInt),
  (str ((rh_2.snd.ob 0).cell 27).data.toStr), (num ((rh_2.snd.ob 0).cell 28).data.toInt), AV.e (E.sl 97 ((rh_2.snd.ob 0).cell 29).data.toList)], (num ((rh_2.snd.ob 1).cell
  0).data.toInt)]), []) else none else bif rh_2.fst.isRet then bif okHeap [Ob.box [num 0, num 0, num 0, num 0, num 0, yes false, str [], str [], str [], num 0, str [], str [],
  num 0, num 0, num 0, str [], str [], str [], str [], yes false, AV.e (E.sl 97 []), str [], str [], num 0, yes false, num 0, num 0, str [], num 0, AV.e (E.sl 97 [])], Ob.box
  [num 0]] rh_2.2 then some (Res.pan rh.fst.why, []) else none else none else bif okRes PP 39 rh.fst then (run none 17 [AV.agg [(num (rh.fst.val.data.cell 0).toInt), (num
  (rh.fst.val.data.cell 1).toInt), (num (rh.fst.val.data.cell 2).toInt), (num (rh.fst.val.data.cell 3).toInt), (num (rh.fst.val.data.cell 4).toInt), (yes (rh.fst.val.data.cell
  5).toBool), (str (rh.fst.val.data.cell 6).toStr), (str (rh.fst.val.data.cell 7).toStr), (str (rh.fst.val.data.cell 8).toStr), (num (rh.fst.val.data.cell 9).toInt), (str
  (rh.fst.val.data.cell 10).toStr), (str (rh.fst.val.data.cell 11).toStr), (num (rh.fst.val.data.cell 12).toInt), (num (rh.fst.val.data.cell 13).toInt), (num
  (rh.fst.val.data.cell 14).toInt), (str (rh.fst.val.data.cell 15).toStr), (str (rh.fst.val.data.cell 16).toStr), (str (rh.fst.val.data.cell 17).toStr), (str
  (rh.fst.val.data.cell 18).toStr), (yes (rh.fst.val.data.cell 19).toBool), AV.e (E.sl 97 (rh.fst.val.data.cell 20).toList), (str (rh.fst.val.data.cell 21).toStr), (str
  (rh.fst.val.data.cell 22).toStr), (num (rh.fst.val.data.cell 23).toInt), (yes (rh.fst.val.data.cell 24).toBool), (num (rh.fst.val.data.cell 25).toInt), (num
  (rh.fst.val.data.cell 26).toInt), (str (rh.fst.val.data.cell 27).toStr), (num (rh.fst.val.data.cell 28).toInt), AV.e (E.sl 97 (rh.fst.val.data.cell 29).toList)]] []).bind
  fun rh_2 => bif okHeap [] rh_2.2 then bif okRes PP 23 rh_2.fst then bif !rh_2.fst.val.data.toInt == 0 then (run (some (some (E.ifc 73 (E.agg [E.int IntKind.i64
  rh_2.fst.val.data.toInt].reverse)))) 55 [AV.ptr 0 0, AV.ptr 1 0] [Ob.box [(num (rh.fst.val.data.cell 0).toInt), (num (rh.fst.val.data.cell 1).toInt), (num
  (rh.fst.val.data.cell 2).toInt), (num (rh.fst.val.data.cell 3).toInt), (num (rh.fst.val.data.cell 4).toInt), (yes (rh.fst.val.data.cell 5).toBool), (str
  (rh.fst.val.data.cell 6).toStr), (str (rh.fst.val.data.cell 7).toStr), (str (rh.fst.val.data.cell 8).toStr), (num (rh.fst.val.data.cell 9).toInt), (str (rh.fst.val.data.cell
  10).toStr), (str (rh.fst.val.data.cell 11).toStr), (num (rh.fst.val.data.cell 12).toInt), (num (rh.fst.val.data.cell 13).toInt), (num (rh.fst.val.data.cell 14).toInt), (str
  (rh.fst.val.data.cell 15).toStr), (str (rh.fst.val.data.cell 16).toStr), (str (rh.fst.val.data.cell 17).toStr), (str (rh.fst.val.data.cell 18).toStr), (yes
  (rh.fst.val.data.cell 19).toBool), AV.e (E.sl 97 (rh.fst.val.data.cell 20).toList), (str (rh.fst.val.data.cell 21).toStr), (str (rh.fst.val.data.cell 22).toStr), (num
  (rh.fst.val.data.cell 23).toInt), (yes (rh.fst.val.data.cell 24).toBool), (num (rh.fst.val.data.cell 25).toInt), (num (rh.fst.val.data.cell 26).toInt), (str
  (rh.fst.val.data.cell 27).toStr), (num (rh.fst.val.data.cell 28).toInt), AV.e (E.sl 97 (rh.fst.val.data.cell 29).toList)], Ob.box [num rh_2.fst.val.data.toInt]]).bind fun
  rh_3 => bif rh_3.fst.isRcv then bif okHeap [Ob.box [num 0, num 0, num 0, num 0, num 0, yes false, str [], str [], str [], num 0, str [], str [], num 0, num 0, num 0, str [],
  str [], str [], str [], yes false, AV.own 2 97 [], str [], str [], num 0, yes false, num 0, num 0, str [], num 0, AV.own 3 97 []], Ob.box [num 0], Ob.vec 97 0, Ob.vec 97 0]
  rh_3.2 then some (Res.ret (AV.tup [AV.agg [(num ((rh_3.snd.ob 0).cell 0).data.toInt), (num ((rh_3.snd.ob 0).cell 1).data.toInt), (num ((rh_3.snd.ob 0).cell 2).data.toInt),
  (num ((rh_3.snd.ob 0).cell 3).data.toInt), (num ((rh_3.snd.ob 0).cell 4).data.toInt), (yes ((rh_3.snd.ob 0).cell 5).data.toBool), (str ((rh_3.snd.ob 0).cell 6).data.toStr),
  (str ((rh_3.snd.ob 0).cell 7).data.toStr), (str ((rh_3.snd.ob 0).cell 8).data.toStr), (num ((rh_3.snd.ob 0).cell 9).data.toInt), (str ((rh_3.snd.ob 0).cell 10).data.toStr),
  (str ((rh_3.snd.ob 0).cell 11).data.toStr), (num ((rh_3.snd.ob 0).cell 12).data.toInt), (num ((rh_3.snd.ob 0).cell 13).data.toInt), (num ((rh_3.snd.ob 0).cell
  14).data.toInt), (str ((rh_3.snd.ob 0).cell 15).data.toStr), (str ((rh_3.snd.ob 0).cell 16).data.toStr), (str ((rh_3.snd.ob 0).cell 17).data.toStr), (str ((rh_3.snd.ob
  0).cell 18).data.toStr), (yes ((rh_3.snd.ob 0).cell 19).data.toBool), AV.e (E.sl 97 ((rh_3.snd.ob 0).cell 20).data.toList), (str ((rh_3.snd.ob 0).cell 21).data.toStr), (str
  ((rh_3.snd.ob 0).cell 22).data.toStr), (num ((rh_3.snd.ob 0).cell 23).data.toInt), (yes ((rh_3.snd.ob 0).cell 24).data.toBool), (num ((rh_3.snd.ob 0).cell 25).data.toInt),
  (num ((rh_3.snd.ob 0).cell 26).data.toInt), (str ((rh_3.snd.ob 0).cell 27).data.toStr), (num ((rh_3.snd.ob 0).cell 28).data.toInt), AV.e (E.sl 97 ((rh_3.snd.ob 0).cell
  29).data.toList)], (num ((rh_3.snd.ob 1).cell 0).data.toInt)]), []) else none else bif rh_3.fst.isRet then bif okHeap [Ob.box [(num (rh.fst.val.data.cell 0).toInt), (num
  (rh.fst.val.data.cell 1).toInt), (num (rh.fst.val.data.cell 2).toInt), (num (rh.fst.val.data.cell 3).toInt), (num (rh.fst.val.data.cell 4).toInt), (yes (rh.fst.val.data.cell
  5).toBool), (str (rh.fst.val.data.cell 6).toStr), (str (rh.fst.val.data.cell 7).toStr), (str (rh.fst.val.data.cell 8).toStr), (num (rh.fst.val.data.cell 9).toInt), (str
  (rh.fst.val.data.cell 10).toStr), (str (rh.fst.val.data.cell 11).toStr), (num (rh.fst.val.data.cell 12).toInt), (num (rh.fst.val.data.cell 13).toInt), (num
  (rh.fst.val.data.cell 14).toInt), (str (rh.fst.val.data.cell 15).toStr), (str (rh.fst.val.data.cell 16).toStr), (str (rh.fst.val.data.cell 17).toStr), (str
  (rh.fst.val.data.cell 18).toStr), (yes (rh.fst.val.data.cell 19).toBool), AV.e (E.sl 97 (rh.fst.val.data.cell 20).toList), (str (rh.fst.val.data.cell 21).toStr), (str
  (rh.fst.val.data.cell 22).toStr), (num (rh.fst.val.data.cell 23).toInt), (yes (rh.fst.val.data.cell 24).toBool), (num (rh.fst.val.data.cell 25).toInt), (num
  (rh.fst.val.data.cell 26).toInt), (str (rh.fst.val.data.cell 27).toStr), (num (rh.fst.val.data.cell 28).toInt), AV.e (E.sl 97 (rh.fst.val.data.cell 29).toList)], Ob.box [num
  rh_2.fst.val.data.toInt]] rh_3.2 then some (Res.pan (E.ifc 73 (E.agg [E.int IntKind.i64 rh_2.fst.val.data.toInt].reverse)), []) else none else none else (run (some none) 55
  [AV.ptr 0 0, AV.ptr 1 0] [Ob.box [(num (rh.fst.val.data.cell 0).toInt), (num (rh.fst.val.data.cell 1).toInt), (num (rh.fst.val.data.cell 2).toInt), (num
  (rh.fst.val.data.cell 3).toInt), (num (rh.fst.val.data.cell 4).toInt), (yes (rh.fst.val.data.cell 5).toBool), (str (rh.fst.val.data.cell 6).toStr), (str
  (rh.fst.val.data.cell 7).toStr), (str (rh.fst.val.data.cell 8).toStr), (num (rh.fst.val.data.cell 9).toInt), (str (rh.fst.val.data.cell 10).toStr), (str
  (rh.fst.val.data.cell 11).toStr), (num (rh.fst.val.data.cell 12).toInt), (num (rh.fst.val.data.cell 13).toInt), (num (rh.fst.val.data.cell 14).toInt), (str
  (rh.fst.val.data.cell 15).toStr), (str (rh.fst.val.data.cell 16).toStr), (str (rh.fst.val.data.cell 17).toStr), (str (rh.fst.val.data.cell 18).toStr), (yes
  (rh.fst.val.data.cell 19).toBool), AV.e (E.sl 97 (rh.fst.val.data.cell 20).toList), (str (rh.fst.val.data.cell 21).toStr), (str (rh.fst.val.data.cell 22).toStr), (num
  (rh.fst.val.data.cell 23).toInt), (yes (rh.fst.val.data.cell 24).toBool), (num (rh.fst.val.data.cell 25).toInt), (num (rh.fst.val.data.cell 26).toInt), (str
  (rh.fst.val.data.cell 27).toStr), (num (rh.fst.val.data.cell 28).toInt), AV.e (E.sl 97 (rh.fst.val.data.cell 29).toList)], Ob.box [num 0]]).bind fun rh_3 => bif
  rh_3.fst.isRet then bif okHeap [Ob.box [(num (rh.fst.val.data.cell 0).toInt), (num (rh.fst.val.data.cell 1).toInt), (num (rh.fst.val.data.cell 2).toInt), (num
  (rh.fst.val.data.cell 3).toInt), (num (rh.fst.val.data.cell 4).toInt), (yes (rh.fst.val.data.cell 5).toBool), (str (rh.fst.val.data.cell 6).toStr), (str
  (rh.fst.val.data.cell 7).toStr), (str (rh.fst.val.data.cell 8).toStr), (num (rh.fst.val.data.cell 9).toInt), (str (rh.fst.val.data.cell 10).toStr), (str
  (rh.fst.val.data.cell 11).toStr), (num (rh.fst.val.data.cell 12).toInt), (num (rh.fst.val.data.cell 13).toInt), (num (rh.fst.val.data.cell 14).toInt), (str
  (rh.fst.val.data.cell 15).toStr), (str (rh.fst.val.data.cell 16).toStr), (str (rh.fst.val.data.cell 17).toStr), (str (rh.fst.val.data.cell 18).toStr), (yes
  (rh.fst.val.data.cell 19).toBool), AV.e (E.sl 97 (rh.fst.val.data.cell 20).toList), (str (rh.fst.val.data.cell 21).toStr), (str (rh.fst.val.data.cell 22).toStr), (num
  (rh.fst.val.data.cell 23).toInt), (yes (rh.fst.val.data.cell 24).toBool), (num (rh.fst.val.data.cell 25).toInt), (num (rh.fst.val.data.cell 26).toInt), (str
  (rh.fst.val.data.cell 27).toStr), (num (rh.fst.val.data.cell 28).toInt), AV.e (E.sl 97 (rh.fst.val.data.cell 29).toList)], Ob.box [num 0]] rh_3.2 then some (Res.ret (AV.tup
  [AV.agg [(num ((rh_3.snd.ob 0).cell 0).data.toInt), (num ((rh_3.snd.ob 0).cell 1).data.toInt), (num ((rh_3.snd.ob 0).cell 2).data.toInt), (num ((rh_3.snd.ob 0).cell
  3).data.toInt), (num ((rh_3.snd.ob 0).cell 4).data.toInt), (yes ((rh_3.snd.ob 0).cell 5).data.toBool), (str ((rh_3.snd.ob 0).cell 6).data.toStr), (str ((rh_3.snd.ob 0).cell
  7).data.toStr), (str ((rh_3.snd.ob 0).cell 8).data.toStr), (num ((rh_3.snd.ob 0).cell 9).data.toInt), (str ((rh_3.snd.ob 0).cell 10).data.toStr), (str ((rh_3.snd.ob 0).cell
  11).data.toStr), (num ((rh_3.snd.ob 0).cell 12).data.toInt), (num ((rh_3.snd.ob 0).cell 13).data.toInt), (num ((rh_3.snd.ob 0).cell 14).data.toInt), (str ((rh_3.snd.ob
  0).cell 15).data.toStr), (str ((rh_3.snd.ob 0).cell 16).data.toStr), (str ((rh_3.snd.ob 0).cell 17).data.toStr), (str ((rh_3.snd.ob 0).cell 18).data.toStr), (yes
  ((rh_3.snd.ob 0).cell 19).data.toBool), AV.e (E.sl 97 ((rh_3.snd.ob 0).cell 20).data.toList), (str ((rh_3.snd.ob 0).cell 21).data.toStr), (str ((rh_3.snd.ob 0).cell
  22).data.toStr), (num ((rh_3.snd.ob 0).cell 23).data.toInt), (yes ((rh_3.snd.ob 0).cell 24).data.toBool), (num ((rh_3.snd.ob 0).cell 25).data.toInt), (num ((rh_3.snd.ob
  0).cell 26).data.toInt), (str ((rh_3.snd.ob 0).cell 27).data.toStr), (num ((rh_3.snd.ob 0).cell 28).data.toInt), AV.e (E.sl 97 ((rh_3.snd.ob 0).cell 29).data.toList)], (num
  ((rh_3.snd.ob 1).cell 0).data.toInt)]), []) else none else none else none else none else none else none else (run (some (some (E.ifc 73 (E.agg [E.int IntKind.i64 2])))) 55
  [AV.ptr 0 0, AV.ptr 1 0] [Ob.box [num 0, num 0, num 0, num 0, num 0, yes false, str [], str [], str [], num 0, str [], str [], num 0, num 0, num 0, str [], str [], str [],
  str [], yes false, AV.e (E.sl 97 []), str [], str [], num 0, yes false, num 0, num 0, str [], num 0, AV.e (E.sl 97 [])], Ob.box [num 0]]).bind fun rh => bif rh.fst.isRcv
  then bif okHeap [Ob.box [num 0, num 0, num 0, num 0, num 0, yes false, str [], str [], str [], num 0, str [], str [], num 0, num 0, num 0, str [], str [], str [], str [],
  yes false, AV.own 2 97 [], str [], str [], num 0, yes false, num 0, num 0, str [], num 0, AV.own 3 97 []], Ob.box [num 0], Ob.vec 97 0, Ob.vec 97 0] rh.2 then some (Res.ret
  (AV.tup [AV.agg [(num ((rh.snd.ob 0).cell 0).data.toInt), (num ((rh.snd.ob 0).cell 1).data.toInt), (num ((rh.snd.ob 0).cell 2).data.toInt), (num ((rh.snd.ob 0).cell
  3).data.toInt), (num ((rh.snd.ob 0).cell 4).data.toInt), (yes ((rh.snd.ob 0).cell 5).data.toBool), (str ((rh.snd.ob 0).cell 6).data.toStr), (str ((rh.snd.ob 0).cell
  7).data.toStr), (str ((rh.snd.ob 0).cell 8).data.toStr), (num ((rh.snd.ob 0).cell 9).data.toInt), (str ((rh.snd.ob 0).cell 10).data.toStr), (str ((rh.snd.ob 0).cell
  11).data.toStr), (num ((rh.snd.ob 0).cell 12).data.toInt), (num ((rh.snd.ob 0).cell 13).data.toInt), (num ((rh.snd.ob 0).cell 14).data.toInt), (str ((rh.snd.ob 0).cell
  15).data.toStr), (str ((rh.snd.ob 0).cell 16).data.toStr), (str ((rh.snd.ob 0).cell 17).data.toStr), (str ((rh.snd.ob 0).cell 18).data.toStr), (yes ((rh.snd.ob 0).cell
  19).data.toBool), AV.e (E.sl 97 ((rh.snd.ob 0).cell 20).data.toList), (str ((rh.snd.ob 0).cell 21).data.toStr), (str ((rh.snd.ob 0).cell 22).data.toStr), (num ((rh.snd.ob
  0).cell 23).data.toInt), (yes ((rh.snd.ob 0).cell 24).data.toBool), (num ((rh.snd.ob 0).cell 25).data.toInt), (num ((rh.snd.ob 0).cell 26).data.toInt), (str ((rh.snd.ob
  0).cell 27).data.toStr), (num ((rh.snd.ob 0).cell 28).data.toInt), AV.e (E.sl 97 ((rh.snd.ob 0).cell 29).data.toList)], (num ((rh.snd.ob 1).cell 0).data.toInt)]), []) else
  none else bif rh.fst.isRet then bif okHeap [Ob.box [num 0, num 0, num 0, num 0, num 0, yes false, str [], str [], str [], num 0, str [], str [], num 0, num 0, num 0, str [],
  str [], str [], str [], yes false, AV.e (E.sl 97 []), str [], str [], num 0, yes false, num 0, num 0, str [], num 0, AV.e (E.sl 97 [])], Ob.box [num 0]] rh.2 then some
  (Res.pan (E.ifc 73 (E.agg [E.int IntKind.i64 2])), []) else none else none else none else none else none else none else none else none := by kernel_rfl
theorem eq_prequestK1 (run : RunF) (loop : LoopF) (p0_0 : List E) (p0_1 : Int) : bodyRun PP HH run loop none 61 [.ptr 0 0, num 1] [.box [.e (.sl 9 p0_0), num p0_1]] = (run
  none 92 [AV.ptr 0 0] [Ob.box [AV.e (E.sl 9 p0_0), num p0_1]]).bind fun rh => bif okHeap [Ob.box [AV.e (E.sl 9 p0_0), num p0_1]] rh.2 then bif rh.fst.isPan then some (Res.pan
  rh.fst.why, [Ob.box [AV.e (E.sl 9 ((rh.snd.ob 0).cell 0).data.toList), (num ((rh.snd.ob 0).cell 1).data.toInt)]]) else bif okRes PP 3 rh.fst then (run none 92 [AV.ptr 0 0]
  [Ob.box [AV.e (E.sl 9 ((rh.snd.ob 0).cell 0).data.toList), (num ((rh.snd.ob 0).cell 1).data.toInt)]]).bind fun rh_1 => bif okHeap [Ob.box [AV.e (E.sl 9 ((rh.snd.ob 0).cell
  0).data.toList), (num ((rh.snd.ob 0).cell 1).data.toInt)]] rh_1.2 then bif rh_1.fst.isPan then some (Res.pan rh_1.fst.why, [Ob.box [AV.e (E.sl 9 ((rh_1.snd.ob 0).cell
  0).data.toList), (num ((rh_1.snd.ob 0).cell 1).data.toInt)]]) else bif okRes PP 3 rh_1.fst then bif decide (0 ≤ IntKind.i64.wrap (IntKind.i64.wrap (((rh_1.snd.ob 0).cell
  1).data.toInt + 1) - 1)) && decide (IntKind.i64.wrap (IntKind.i64.wrap (((rh_1.snd.ob 0).cell 1).data.toInt + 1) - 1) < (↑((rh_1.snd.ob 0).cell 0).data.toList.length : Int))
  then (run none 93 [AV.ptr 0 0] [Ob.box [AV.e (E.sl 9 ((rh_1.snd.ob 0).cell 0).data.toList), (num (IntKind.i64.wrap (((rh_1.snd.ob 0).cell 1).data.toInt + 1)))]]).bind fun
  rh_2 => bif okHeap [Ob.box [AV.e (E.sl 9 ((rh_1.snd.ob 0).cell 0).data.toList), (num (IntKind.i64.wrap (((rh_1.snd.ob 0).cell 1).data.toInt + 1)))]] rh_2.2 then bif
  rh_2.fst.isPan then some (Res.pan rh_2.fst.why, [Ob.box [AV.e (E.sl 9 ((rh_2.snd.ob 0).cell 0).data.toList), (num ((rh_2.snd.ob 0).cell 1).data.toInt)]]) else bif okRes PP 3
  rh_2.fst then (run none 94 [AV.ptr 0 0] [Ob.box [AV.e (E.sl 9 ((rh_2.snd.ob 0).cell 0).data.toList), (num ((rh_2.snd.ob 0).cell 1).data.toInt)]]).bind fun rh_3 => bif okHeap
  [Ob.box [AV.e (E.sl 9 ((rh_2.snd.ob 0).cell 0).data.toList), (num ((rh_2.snd.ob 0).cell 1).data.toInt)]] rh_3.2 then bif rh_3.fst.isPan then some (Res.pan rh_3.fst.why,
  [Ob.box [AV.e (E.sl 9 ((rh_3.snd.ob 0).cell 0).data.toList), (num ((rh_3.snd.ob 0).cell 1).data.toInt)]]) else bif okRes PP 9 rh_3.fst then some (Res.ret (AV.agg [num 1, num
  rh.fst.val.data.toInt, num rh_1.fst.val.data.toInt, num 0, num 0, yes false, str [], str [], (str ((((rh_1.snd.ob 0).cell 0).data.toList.getD (IntKind.i64.wrap
  (IntKind.i64.wrap (((rh_1.snd.ob 0).cell 1).data.toInt + 1) - 1)).toNat E.nili).cell 0).toStr), num rh_2.fst.val.data.toInt, str rh_3.fst.val.data.toStr, str [], num 0, num
  0, num 0, str [], str [], str [], str [], yes false, AV.e (E.sl 97 []), str [], str [], num 0, yes false, num 0, num 0, str [], num 0, AV.e (E.sl 97 [])]), [Ob.box [AV.e
  (E.sl 9 ((rh_3.snd.ob 0).cell 0).data.toList), (num ((rh_3.snd.ob 0).cell 1).data.toInt)]]) else none else none else none else none else none else none else none else none
  else none := by kernel_rfl
theorem eq_prequestK2 (run : RunF) (loop : LoopF) (p0_0 : List E) (p0_1 : Int) : bodyRun PP HH run loop none 61 [.ptr 0 0, num 2] [.box [.e (.sl 9 p0_0), num p0_1]] = (run
  none 92 [AV.ptr 0 0] [Ob.box [AV.e (E.sl 9 p0_0), num p0_1]]).bind fun rh => bif okHeap [Ob.box [AV.e (E.sl 9 p0_0), num p0_1]] rh.2 then bif rh.fst.isPan then some (Res.pan
  rh.fst.why, [Ob.box [AV.e (E.sl 9 ((rh.snd.ob 0).cell 0).data.toList), (num ((rh.snd.ob 0).cell 1).data.toInt)]]) else bif okRes PP 3 rh.fst then (run none 92 [AV.ptr 0 0]
  [Ob.box [AV.e (E.sl 9 ((rh.snd.ob 0).cell 0).data.toList), (num ((rh.snd.ob 0).cell 1).data.toInt)]]).bind fun rh_1 => bif okHeap [Ob.box [AV.e (E.sl 9 ((rh.snd.ob 0).cell
  0).data.toList), (num ((rh.snd.ob 0).cell 1).data.toInt)]] rh_1.2 then bif rh_1.fst.isPan then some (Res.pan rh_1.fst.why, [Ob.box [AV.e (E.sl 9 ((rh_1.snd.ob 0).cell
  0).data.toList), (num ((rh_1.snd.ob 0).cell 1).data.toInt)]]) else bif okRes PP 3 rh_1.fst then bif decide (0 ≤ IntKind.i64.wrap (IntKind.i64.wrap (((rh_1.snd.ob 0).cell
  1).data.toInt + 1) - 1)) && decide (IntKind.i64.wrap (IntKind.i64.wrap (((rh_1.snd.ob 0).cell 1).data.toInt + 1) - 1) < (↑((rh_1.snd.ob 0).cell 0).data.toList.length : Int))
  then (run none 92 [AV.ptr 0 0] [Ob.box [AV.e (E.sl 9 ((rh_1.snd.ob 0).cell 0).data.toList), (num (IntKind.i64.wrap (((rh_1.snd.ob 0).cell 1).data.toInt + 1)))]]).bind fun
  rh_2 => bif okHeap [Ob.box [AV.e (E.sl 9 ((rh_1.snd.ob 0).cell 0).data.toList), (num (IntKind.i64.wrap (((rh_1.snd.ob 0).cell 1).data.toInt + 1)))]] rh_2.2 then bif
  rh_2.fst.isPan then some (Res.pan rh_2.fst.why, [Ob.box [AV.e (E.sl 9 ((rh_2.snd.ob 0).cell 0).data.toList), (num ((rh_2.snd.ob 0).cell 1).data.toInt)]]) else bif okRes PP 3
  rh_2.fst then (run none 92 [AV.ptr 0 0] [Ob.box [AV.e (E.sl 9 ((rh_2.snd.ob 0).cell 0).data.toList), (num ((rh_2.snd.ob 0).cell 1).data.toInt)]]).bind fun rh_3 => bif okHeap
  [Ob.box [AV.e (E.sl 9 ((rh_2.snd.ob 0).cell 0).data.toList), (num ((rh_2.snd.ob 0).cell 1).data.toInt)]] rh_3.2 then bif rh_3.fst.isPan then some (Res.pan rh_3.fst.why,
  [Ob.box [AV.e (E.sl 9 ((rh_3.snd.ob 0).cell 0).data.toList), (num ((rh_3.snd.ob 0).cell 1).data.toInt)]]) else bif okRes PP 3 rh_3.fst then (run none 92 [AV.ptr 0 0] [Ob.box
  [AV.e (E.sl 9 ((rh_3.snd.ob 0).cell 0).data.toList), (num ((rh_3.snd.ob 0).cell 1).data.toInt)]]).bind fun rh_4 => bif okHeap [Ob.box [AV.e (E.sl 9 ((rh_3.snd.ob 0).cell
  0).data.toList), (num ((rh_3.snd.ob 0).cell 1).data.toInt)]] rh_4.2 then bif rh_4.fst.isPan then some (Res.pan rh_4.fst.why, [Ob.box [AV.e (E.sl 9 ((rh_4.snd.ob 0).cell
  0).data.toList), (num ((rh_4.snd.ob 0).cell 1).data.toInt)]]) else bif okRes PP 3 rh_4.fst then (run none 94 [AV.ptr 0 0] [Ob.box [AV.e (E.sl 9 ((rh_4.snd.ob 0).cell
  0).data.toList), (num ((rh_4.snd.ob 0).cell 1).data.toInt)]]).bind fun rh_5 => bif okHeap [Ob.box [AV.e (E.sl 9 ((rh_4.snd.ob 0).cell 0).data.toList), (num ((rh_4.snd.ob
  0).cell 1).data.toInt)]] rh_5.2 then bif rh_5.fst.isPan then some (Res.pan rh_5.fst.why, [Ob.box [AV.e (E.sl 9 ((rh_5.snd.ob 0).cell 0).data.toList), (num ((rh_5.snd.ob
  0).cell 1).data.toInt)]]) else bif okRes PP 9 rh_5.fst then some (Res.ret (AV.agg [num 2, num rh.fst.val.data.toInt, num rh_1.fst.val.data.toInt, num 0, num 0, yes false,
  str [], str [], str [], num 0, str [], (str ((((rh_1.snd.ob 0).cell 0).data.toList.getD (IntKind.i64.wrap (IntKind.i64.wrap (((rh_1.snd.ob 0).cell 1).data.toInt + 1) -
  1)).toNat E.nili).cell 0).toStr), num rh_2.fst.val.data.toInt, num rh_3.fst.val.data.toInt, num rh_4.fst.val.data.toInt, str rh_5.fst.val.data.toStr, str [], str [], str [],
  yes false, AV.e (E.sl 97 []), str [], str [], num 0, yes false, num 0, num 0, str [], num 0, AV.e (E.sl 97 [])]), [Ob.box [AV.e (E.sl 9 ((rh_5.snd.ob 0).cell
  0).data.toList), (num ((rh_5.snd.ob 0).cell 1).data.toInt)]]) else none else none else none else none else none else none else none else none else none else none else none
  else none else none := by kernel_rfl
theorem eq_prequestK3 (run : RunF) (loop : LoopF) (p0_0 : List E) (p0_1 : Int) : bodyRun PP HH run loop none 61 [.ptr 0 0, num 3] [.box [.e (.sl 9 p0_0), num p0_1]] = (run
  none 92 [AV.ptr 0 0] [Ob.box [AV.e (E.sl 9 p0_0), num p0_1]]).bind fun rh => bif okHeap [Ob.box [AV.e (E.sl 9 p0_0), num p0_1]] rh.2 then bif rh.fst.isPan then some (Res.pan
  rh.fst.why, [Ob.box [AV.e (E.sl 9 ((rh.snd.ob 0).cell 0).data.toList), (num ((rh.snd.ob 0).cell 1).data.toInt)]]) else bif okRes PP 3 rh.fst then (run none 92 [AV.ptr 0 0]
  [Ob.box [AV.e (E.sl 9 ((rh.snd.ob 0).cell 0).data.toList), (num ((rh.snd.ob 0).cell 1).data.toInt)]]).bind fun rh_1 => bif okHeap [Ob.box [AV.e (E.sl 9 ((rh.snd.ob 0).cell
  0).data.toList), (num ((rh.snd.ob 0).cell 1).data.toInt)]] rh_1.2 then bif rh_1.fst.isPan then some (Res.pan rh_1.fst.why, [Ob.box [AV.e (E.sl 9 ((rh_1.snd.ob 0).cell
  0).data.toList), (num ((rh_1.snd.ob 0).cell 1).data.toInt)]]) else bif okRes PP 3 rh_1.fst then bif decide (0 ≤ IntKind.i64.wrap (IntKind.i64.wrap (((rh_1.snd.ob 0).cell
  1).data.toInt + 1) - 1)) && decide (IntKind.i64.wrap (IntKind.i64.wrap (((rh_1.snd.ob 0).cell 1).data.toInt + 1) - 1) < (↑((rh_1.snd.ob 0).cell 0).data.toList.length : Int))
  then bif decide (0 ≤ IntKind.i64.wrap (IntKind.i64.wrap (IntKind.i64.wrap (((rh_1.snd.ob 0).cell 1).data.toInt + 1) + 1) - 1)) && decide (IntKind.i64.wrap (IntKind.i64.wrap
  (IntKind.i64.wrap (((rh_1.snd.ob 0).cell 1).data.toInt + 1) + 1) - 1) < (↑((rh_1.snd.ob 0).cell 0).data.toList.length : Int)) then (run none 95 [AV.ptr 0 0] [Ob.box [AV.e
  (E.sl 9 ((rh_1.snd.ob 0).cell 0).data.toList), (num (IntKind.i64.wrap (IntKind.i64.wrap (((rh_1.snd.ob 0).cell 1).data.toInt + 1) + 1)))]]).bind fun rh_2 => bif okHeap
  [Ob.box [AV.e (E.sl 9 ((rh_1.snd.ob 0).cell 0).data.toList), (num (IntKind.i64.wrap (IntKind.i64.wrap (((rh_1.snd.ob 0).cell 1).data.toInt + 1) + 1)))]] rh_2.2 then bif
  rh_2.fst.isPan then some (Res.pan rh_2.fst.why, [Ob.box [AV.e (E.sl 9 ((rh_2.snd.ob 0).cell 0).data.toList), (num ((rh_2.snd.ob 0).cell 1).data.toInt)]]) else bif okRes PP 9
  rh_2.fst then (run none 96 [AV.ptr 0 0] [Ob.box [AV.e (E.sl 9 ((rh_2.snd.ob 0).cell 0).data.toList), (num ((rh_2.snd.ob 0).cell 1).data.toInt)]]).bind fun rh_3 => bif okHeap
  [Ob.box [AV.e (E.sl 9 ((rh_2.snd.ob 0).cell 0).data.toList), (num ((rh_2.snd.ob 0).cell 1).data.toInt)]] rh_3.2 then bif rh_3.fst.isPan then some (Res.pan rh_3.fst.why,
  [Ob.box [AV.e (E.sl 9 ((rh_3.snd.ob 0).cell 0).data.toList), (num ((rh_3.snd.ob 0).cell 1).data.toInt)]]) else bif okRes PP 4 rh_3.fst then (run none 97 [AV.ptr 0 0] [Ob.box
  [AV.e (E.sl 9 ((rh_3.snd.ob 0).cell 0).data.toList), (num ((rh_3.snd.ob 0).cell 1).data.toInt)]]).bind fun rh_4 => bif okHeap [Ob.box [AV.e (E.sl 9 ((rh_3.snd.ob 0).cell
  0).data.toList), (num ((rh_3.snd.ob 0).cell 1).data.toInt)]] rh_4.2 then bif rh_4.fst.isPan then some (Res.pan rh_4.fst.why, [Ob.box [AV.e (E.sl 9 ((rh_4.snd.ob 0).cell
  0).data.toList), (num ((rh_4.snd.ob 0).cell 1).data.toInt)]]) else bif okRes PP 33 rh_4.fst then some (Res.ret (AV.agg [num 3, num rh.fst.val.data.toInt, num
  rh_1.fst.val.data.toInt, num 0, num 0, yes false, str [], str [], str [], num 0, str [], str [], num 0, num 0, num 0, str [], (str ((((rh_1.snd.ob 0).cell
  0).data.toList.getD (IntKind.i64.wrap (IntKind.i64.wrap (((rh_1.snd.ob 0).cell 1).data.toInt + 1) - 1)).toNat E.nili).cell 0).toStr), (str ((((rh_1.snd.ob 0).cell
  0).data.toList.getD (IntKind.i64.wrap (IntKind.i64.wrap (IntKind.i64.wrap (((rh_1.snd.ob 0).cell 1).data.toInt + 1) + 1) - 1)).toNat E.nili).cell 0).toStr), str
  rh_2.fst.val.data.toStr, yes rh_3.fst.val.data.toBool, AV.e (E.sl 97 rh_4.fst.val.data.toList), str [], str [], num 0, yes false, num 0, num 0, str [], num 0, AV.e (E.sl 97
  [])]), [Ob.box [AV.e (E.sl 9 ((rh_4.snd.ob 0).cell 0).data.toList), (num ((rh_4.snd.ob 0).cell 1).data.toInt)]]) else none else none else none else none else none else none
  else none else none else none else none else none else none := by kernel_rfl
theorem eq_prequestK4 (run : RunF) (loop : LoopF) (p0_0 : List E) (p0_1 : Int) : bodyRun PP HH run loop none 61 [.ptr 0 0, num 4] [.box [.e (.sl 9 p0_0), num p0_1]] = (run
  none 92 [AV.ptr 0 0] [Ob.box [AV.e (E.sl 9 p0_0), num p0_1]]).bind fun rh => bif okHeap [Ob.box [AV.e (E.sl 9 p0_0), num p0_1]] rh.2 then bif rh.fst.isPan then some (Res.pan
  rh.fst.why, [Ob.box [AV.e (E.sl 9 ((rh.snd.ob 0).cell 0).data.toList), (num ((rh.snd.ob 0).cell 1).data.toInt)]]) else bif okRes PP 3 rh.fst then (run none 92 [AV.ptr 0 0]
  [Ob.box [AV.e (E.sl 9 ((rh.snd.ob 0).cell 0).data.toList), (num ((rh.snd.ob 0).cell 1).data.toInt)]]).bind fun rh_1 => bif okHeap [Ob.box [AV.e (E.sl 9 ((rh.snd.ob 0).cell
  0).data.toList), (num ((rh.snd.ob 0).cell 1).data.toInt)]] rh_1.2 then bif rh_1.fst.isPan then some (Res.pan rh_1.fst.why, [Ob.box [AV.e (E.sl 9 ((rh_1.snd.ob 0).cell
  0).data.toList), (num ((rh_1.snd.ob 0).cell 1).data.toInt)]]) else bif okRes PP 3 rh_1.fst then bif decide (0 ≤ IntKind.i64.wrap (IntKind.i64.wrap (((rh_1.snd.ob 0).cell
  1).data.toInt + 1) - 1)) && decide (IntKind.i64.wrap (IntKind.i64.wrap (((rh_1.snd.ob 0).cell 1).data.toInt + 1) - 1) < (↑((rh_1.snd.ob 0).cell 0).data.toList.length : Int))
  then bif decide (0 ≤ IntKind.i64.wrap (IntKind.i64.wrap (IntKind.i64.wrap (((rh_1.snd.ob 0).cell 1).data.toInt + 1) + 1) - 1)) && decide (IntKind.i64.wrap (IntKind.i64.wrap
  (IntKind.i64.wrap (((rh_1.snd.ob 0).cell 1).data.toInt + 1) + 1) - 1) < (↑((rh_1.snd.ob 0).cell 0).data.toList.length : Int)) then (run none 95 [AV.ptr 0 0] [Ob.box [AV.e
  (E.sl 9 ((rh_1.snd.ob 0).cell 0).data.toList), (num (IntKind.i64.wrap (IntKind.i64.wrap (((rh_1.snd.ob 0).cell 1).data.toInt + 1) + 1)))]]).bind fun rh_2 => bif okHeap
  [Ob.box [AV.e (E.sl 9 ((rh_1.snd.ob 0).cell 0).data.toList), (num (IntKind.i64.wrap (IntKind.i64.wrap (((rh_1.snd.ob 0).cell 1).data.toInt + 1) + 1)))]] rh_2.2 then bif
  rh_2.fst.isPan then some (Res.pan rh_2.fst.why, [Ob.box [AV.e (E.sl 9 ((rh_2.snd.ob 0).cell 0).data.toList), (num ((rh_2.snd.ob 0).cell 1).data.toInt)]]) else bif okRes PP 9
  rh_2.fst then (run none 96 [AV.ptr 0 0] [Ob.box [AV.e (E.sl 9 ((rh_2.snd.ob 0).cell 0).data.toList), (num ((rh_2.snd.ob 0).cell 1).data.toInt)]]).bind fun rh_3 => bif okHeap
  [Ob.box [AV.e (E.sl 9 ((rh_2.snd.ob 0).cell 0).data.toList), (num ((rh_2.snd.ob 0).cell 1).data.toInt)]] rh_3.2 then bif rh_3.fst.isPan then some (Res.pan rh_3.fst.why,
  [Ob.box [AV.e (E.sl 9 ((rh_3.snd.ob 0).cell 0).data.toList), (num ((rh_3.snd.ob 0).cell 1).data.toInt)]]) else bif okRes PP 4 rh_3.fst then (run none 97 [AV.ptr 0 0] [Ob.box
  [AV.e (E.sl 9 ((rh_3.snd.ob 0).cell 0).data.toList), (num ((rh_3.snd.ob 0).cell 1).data.toInt)]]).bind fun rh_4 => bif okHeap [Ob.box [AV.e (E.sl 9 ((rh_3.snd.ob 0).cell
  0).data.toList), (num ((rh_3.snd.ob 0).cell 1).data.toInt)]] rh_4.2 then bif rh_4.fst.isPan then some (Res.pan rh_4.fst.why, [Ob.box [AV.e (E.sl 9 ((rh_4.snd.ob 0).cell
  0).data.toList), (num ((rh_4.snd.ob 0).cell 1).data.toInt)]]) else bif okRes PP 33 rh_4.fst then some (Res.ret (AV.agg [num 4, num rh.fst.val.data.toInt, num
  rh_1.fst.val.data.toInt, num 0, num 0, yes false, str [], str [], str [], num 0, str [], str [], num 0, num 0, num 0, str [], (str ((((rh_1.snd.ob 0).cell
  0).data.toList.getD (IntKind.i64.wrap (IntKind.i64.wrap (((rh_1.snd.ob 0).cell 1).data.toInt + 1) - 1)).toNat E.nili).cell 0).toStr), (str ((((rh_1.snd.ob 0).cell
  0).data.toList.getD (IntKind.i64.wrap (IntKind.i64.wrap (IntKind.i64.wrap (((rh_1.snd.ob 0).cell 1).data.toInt + 1) + 1) - 1)).toNat E.nili).cell 0).toStr), str
  rh_2.fst.val.data.toStr, yes rh_3.fst.val.data.toBool, AV.e (E.sl 97 rh_4.fst.val.data.toList), str [], str [], num 0, yes false, num 0, num 0, str [], num 0, AV.e (E.sl 97
  [])]), [Ob.box [AV.e (E.sl 9 ((rh_4.snd.ob 0).cell 0).data.toList), (num ((rh_4.snd.ob 0).cell 1).data.toInt)]]) else none else none else none else none else none else none
  else none else none else none else none else none else none := by kernel_rfl
theorem eq_prequestK5 (run : RunF) (loop : LoopF) (p0_0 : List E) (p0_1 : Int) : bodyRun PP HH run loop none 61 [.ptr 0 0, num 5] [.box [.e (.sl 9 p0_0), num p0_1]] = (run
  none 92 [AV.ptr 0 0] [Ob.box [AV.e (E.sl 9 p0_0), num p0_1]]).bind fun rh => bif okHeap [Ob.box [AV.e (E.sl 9 p0_0), num p0_1]] rh.2 then bif rh.fst.isPan then some (Res.pan
  rh.fst.why, [Ob.box [AV.e (E.sl 9 ((rh.snd.ob 0).cell 0).data.toList), (num ((rh.snd.ob 0).cell 1).data.toInt)]]) else bif okRes PP 3 rh.fst then (run none 92 [AV.ptr 0 0]
  [Ob.box [AV.e (E.sl 9 ((rh.snd.ob 0).cell 0).data.toList), (num ((rh.snd.ob 0).cell 1).data.toInt)]]).bind fun rh_1 => bif okHeap [Ob.box [AV.e (E.sl 9 ((rh.snd.ob 0).cell
  0).data.toList), (num ((rh.snd.ob 0).cell 1).data.toInt)]] rh_1.2 then bif rh_1.fst.isPan then some (Res.pan rh_1.fst.why, [Ob.box [AV.e (E.sl 9 ((rh_1.snd.ob 0).cell
  0).data.toList), (num ((rh_1.snd.ob 0).cell 1).data.toInt)]]) else bif okRes PP 3 rh_1.fst then (run none 94 [AV.ptr 0 0] [Ob.box [AV.e (E.sl 9 ((rh_1.snd.ob 0).cell
  0).data.toList), (num ((rh_1.snd.ob 0).cell 1).data.toInt)]]).bind fun rh_2 => bif okHeap [Ob.box [AV.e (E.sl 9 ((rh_1.snd.ob 0).cell 0).data.toList), (num ((rh_1.snd.ob
  0).cell 1).data.toInt)]] rh_2.2 then bif rh_2.fst.isPan then some (Res.pan rh_2.fst.why, [Ob.box [AV.e (E.sl 9 ((rh_2.snd.ob 0).cell 0).data.toList), (num ((rh_2.snd.ob
  0).cell 1).data.toInt)]]) else bif okRes PP 9 rh_2.fst then (run none 95 [AV.ptr 0 0] [Ob.box [AV.e (E.sl 9 ((rh_2.snd.ob 0).cell 0).data.toList), (num ((rh_2.snd.ob 0).cell
  1).data.toInt)]]).bind fun rh_3 => bif okHeap [Ob.box [AV.e (E.sl 9 ((rh_2.snd.ob 0).cell 0).data.toList), (num ((rh_2.snd.ob 0).cell 1).data.toInt)]] rh_3.2 then bif
  rh_3.fst.isPan then some (Res.pan rh_3.fst.why, [Ob.box [AV.e (E.sl 9 ((rh_3.snd.ob 0).cell 0).data.toList), (num ((rh_3.snd.ob 0).cell 1).data.toInt)]]) else bif okRes PP 9
  rh_3.fst then (run none 98 [AV.ptr 0 0] [Ob.box [AV.e (E.sl 9 ((rh_3.snd.ob 0).cell 0).data.toList), (num ((rh_3.snd.ob 0).cell 1).data.toInt)]]).bind fun rh_4 => bif okHeap
  [Ob.box [AV.e (E.sl 9 ((rh_3.snd.ob 0).cell 0).data.toList), (num ((rh_3.snd.ob 0).cell 1).data.toInt)]] rh_4.2 then bif rh_4.fst.isPan then some (Res.pan rh_4.fst.why,
  [Ob.box [AV.e (E.sl 9 ((rh_4.snd.ob 0).cell 0).data.toList), (num ((rh_4.snd.ob 0).cell 1).data.toInt)]]) else bif okRes PP 37 rh_4.fst then some (Res.ret (AV.agg [num 5,
  num rh.fst.val.data.toInt, num rh_1.fst.val.data.toInt, num 0, num 0, yes false, str rh_2.fst.val.data.toStr, str rh_3.fst.val.data.toStr, str [], num 0, str [], str [], num
  0, num 0, num 0, str [], str [], str [], str [], yes false, AV.e (E.sl 97 []), (str (rh_4.fst.val.data.cell 0).toStr), (str (rh_4.fst.val.data.cell 1).toStr), (num
  (rh_4.fst.val.data.cell 2).toInt), (yes (rh_4.fst.val.data.cell 3).toBool), (num (rh_4.fst.val.data.cell 4).toInt), (num (rh_4.fst.val.data.cell 5).toInt), (str
  (rh_4.fst.val.data.cell 6).toStr), (num (rh_4.fst.val.data.cell 7).toInt), AV.e (E.sl 97 (rh_4.fst.val.data.cell 8).toList)]), [Ob.box [AV.e (E.sl 9 ((rh_4.snd.ob 0).cell
  0).data.toList), (num ((rh_4.snd.ob 0).cell 1).data.toInt)]]) else none else none else none else none else none else none else none else none else none else none := by
  kernel_rfl
theorem eq_prequestK6 (run : RunF) (loop : LoopF) (p0_0 : List E) (p0_1 : Int) : bodyRun PP HH run loop none 61 [.ptr 0 0, num 6] [.box [.e (.sl 9 p0_0), num p0_1]] = (run
  none 92 [AV.ptr 0 0] [Ob.box [AV.e (E.sl 9 p0_0), num p0_1]]).bind fun rh => bif okHeap [Ob.box [AV.e (E.sl 9 p0_0), num p0_1]] rh.2 then bif rh.fst.isPan then some (Res.pan
  rh.fst.why, [Ob.box [AV.e (E.sl 9 ((rh.snd.ob 0).cell 0).data.toList), (num ((rh.snd.ob 0).cell 1).data.toInt)]]) else bif okRes PP 3 rh.fst then (run none 92 [AV.ptr 0 0]
  [Ob.box [AV.e (E.sl 9 ((rh.snd.ob 0).cell 0).data.toList), (num ((rh.snd.ob 0).cell 1).data.toInt)]]).bind fun rh_1 => bif okHeap [Ob.box [AV.e (E.sl 9 ((rh.snd.ob 0).cell
  0).data.toList), (num ((rh.snd.ob 0).cell 1).data.toInt)]] rh_1.2 then bif rh_1.fst.isPan then some (Res.pan rh_1.fst.why, [Ob.box [AV.e (E.sl 9 ((rh_1.snd.ob 0).cell
  0).data.toList), (num ((rh_1.snd.ob 0).cell 1).data.toInt)]]) else bif okRes PP 3 rh_1.fst then (run none 92 [AV.ptr 0 0] [Ob.box [AV.e (E.sl 9 ((rh_1.snd.ob 0).cell
  0).data.toList), (num ((rh_1.snd.ob 0).cell 1).data.toInt)]]).bind fun rh_2 => bif okHeap [Ob.box [AV.e (E.sl 9 ((rh_1.snd.ob 0).cell 0).data.toList), (num ((rh_1.snd.ob
  0).cell 1).data.toInt)]] rh_2.2 then bif rh_2.fst.isPan then some (Res.pan rh_2.fst.why, [Ob.box [AV.e (E.sl 9 ((rh_2.snd.ob 0).cell 0).data.toList), (num ((rh_2.snd.ob
  0).cell 1).data.toInt)]]) else bif okRes PP 3 rh_2.fst then bif decide (0 ≤ IntKind.i64.wrap (IntKind.i64.wrap (((rh_2.snd.ob 0).cell 1).data.toInt + 1) - 1)) && decide
  (IntKind.i64.wrap (IntKind.i64.wrap (((rh_2.snd.ob 0).cell 1).data.toInt + 1) - 1) < (↑((rh_2.snd.ob 0).cell 0).data.toList.length : Int)) then (run none 92 [AV.ptr 0 0]
  [Ob.box [AV.e (E.sl 9 ((rh_2.snd.ob 0).cell 0).data.toList), (num (IntKind.i64.wrap (((rh_2.snd.ob 0).cell 1).data.toInt + 1)))]]).bind fun rh_3 => bif okHeap [Ob.box [AV.e
  (E.sl 9 ((rh_2.snd.ob 0).cell 0).data.toList), (num (IntKind.i64.wrap (((rh_2.snd.ob 0).cell 1).data.toInt + 1)))]] rh_3.2 then bif rh_3.fst.isPan then some (Res.pan
  rh_3.fst.why, [Ob.box [AV.e (E.sl 9 ((rh_3.snd.ob 0).cell 0).data.toList), (num ((rh_3.snd.ob 0).cell 1).data.toInt)]]) else bif okRes PP 3 rh_3.fst then some (Res.ret
  (AV.agg [num 6, num rh.fst.val.data.toInt, num rh_1.fst.val.data.toInt, num rh_2.fst.val.data.toInt, num rh_3.fst.val.data.toInt, yes false, (str ((((rh_2.snd.ob 0).cell
  0).data.toList.getD (IntKind.i64.wrap (IntKind.i64.wrap (((rh_2.snd.ob 0).cell 1).data.toInt + 1) - 1)).toNat E.nili).cell 0).toStr), str [], str [], num 0, str [], str [],
  num 0, num 0, num 0, str [], str [], str [], str [], yes false, AV.e (E.sl 97 []), str [], str [], num 0, yes false, num 0, num 0, str [], num 0, AV.e (E.sl 97 [])]),
  [Ob.box [AV.e (E.sl 9 ((rh_3.snd.ob 0).cell 0).data.toList), (num ((rh_3.snd.ob 0).cell 1).data.toInt)]]) else none else none else none else none else none else none else
  none else none else none := by kernel_rfl
theorem eq_prequestK7 (run : RunF) (loop : LoopF) (p0_0 : List E) (p0_1 : Int) : bodyRun PP HH run loop none 61 [.ptr 0 0, num 7] [.box [.e (.sl 9 p0_0), num p0_1]] = (run
  none 92 [AV.ptr 0 0] [Ob.box [AV.e (E.sl 9 p0_0), num p0_1]]).bind fun rh => bif okHeap [Ob.box [AV.e (E.sl 9 p0_0), num p0_1]] rh.2 then bif rh.fst.isPan then some (Res.pan
  rh.fst.why, [Ob.box [AV.e (E.sl 9 ((rh.snd.ob 0).cell 0).data.toList), (num ((rh.snd.ob 0).cell 1).data.toInt)]]) else bif okRes PP 3 rh.fst then (run none 92 [AV.ptr 0 0]
  [Ob.box [AV.e (E.sl 9 ((rh.snd.ob 0).cell 0).data.toList), (num ((rh.snd.ob 0).cell 1).data.toInt)]]).bind fun rh_1 => bif okHeap [Ob.box [AV.e (E.sl 9 ((rh.snd.ob 0).cell
  0).data.toList), (num ((rh.snd.ob 0).cell 1).data.toInt)]] rh_1.2 then bif rh_1.fst.isPan then some (Res.pan rh_1.fst.why, [Ob.box [AV.e (E.sl 9 ((rh_1.snd.ob 0).cell
  0).data.toList), (num ((rh_1.snd.ob 0).cell 1).data.toInt)]]) else bif okRes PP 3 rh_1.fst then (run none 92 [AV.ptr 0 0] [Ob.box [AV.e (E.sl 9 ((rh_1.snd.ob 0).cell
  0).data.toList), (num ((rh_1.snd.ob 0).cell 1).data.toInt)]]).bind fun rh_2 => bif okHeap [Ob.box [AV.e (E.sl 9 ((rh_1.snd.ob 0).cell 0).data.toList), (num ((rh_1.snd.ob
  0).cell 1).data.toInt)]] rh_2.2 then bif rh_2.fst.isPan then some (Res.pan rh_2.fst.why, [Ob.box [AV.e (E.sl 9 ((rh_2.snd.ob 0).cell 0).data.toList), (num ((rh_2.snd.ob
  0).cell 1).data.toInt)]]) else bif okRes PP 3 rh_2.fst then some (Res.ret (AV.agg [num 7, num rh.fst.val.data.toInt, num rh_1.fst.val.data.toInt, num
  rh_2.fst.val.data.toInt, num 0, yes false, str [], str [], str [], num 0, str [], str [], num 0, num 0, num 0, str [], str [], str [], str [], yes false, AV.e (E.sl 97 []),
  str [], str [], num 0, yes false, num 0, num 0, str [], num 0, AV.e (E.sl 97 [])]), [Ob.box [AV.e (E.sl 9 ((rh_2.snd.ob 0).cell 0).data.toList), (num ((rh_2.snd.ob 0).cell
  1).data.toInt)]]) else none else none else none else none else none else none := by kernel_rfl
theorem eq_prequestK8 (run : RunF) (loop : LoopF) (p0_0 : List E) (p0_1 : Int) : bodyRun PP HH run loop none 61 [.ptr 0 0, num 8] [.box [.e (.sl 9 p0_0), num p0_1]] = (run
  none 92 [AV.ptr 0 0] [Ob.box [AV.e (E.sl 9 p0_0), num p0_1]]).bind fun rh => bif okHeap [Ob.box [AV.e (E.sl 9 p0_0), num p0_1]] rh.2 then bif rh.fst.isPan then some (Res.pan
  rh.fst.why, [Ob.box [AV.e (E.sl 9 ((rh.snd.ob 0).cell 0).data.toList), (num ((rh.snd.ob 0).cell 1).data.toInt)]]) else bif okRes PP 3 rh.fst then (run none 92 [AV.ptr 0 0]
  [Ob.box [AV.e (E.sl 9 ((rh.snd.ob 0).cell 0).data.toList), (num ((rh.snd.ob 0).cell 1).data.toInt)]]).bind fun rh_1 => bif okHeap [Ob.box [AV.e (E.sl 9 ((rh.snd.ob 0).cell
  0).data.toList), (num ((rh.snd.ob 0).cell 1).data.toInt)]] rh_1.2 then bif rh_1.fst.isPan then some (Res.pan rh_1.fst.why, [Ob.box [AV.e (E.sl 9 ((rh_1.snd.ob 0).cell
  0).data.toList), (num ((rh_1.snd.ob 0).cell 1).data.toInt)]]) else bif okRes PP 3 rh_1.fst then (run none 92 [AV.ptr 0 0] [Ob.box [AV.e (E.sl 9 ((rh_1.snd.ob 0).cell
  0).data.toList), (num ((rh_1.snd.ob 0).cell 1).data.toInt)]]).bind fun rh_2 => bif okHeap [Ob.box [AV.e (E.sl 9 ((rh_1.snd.ob 0).cell 0).data.toList), (num ((rh_1.snd.ob
  0).cell 1).data.toInt)]] rh_2.2 then bif rh_2.fst.isPan then some (Res.pan rh_2.fst.why, [Ob.box [AV.e (E.sl 9 ((rh_2.snd.ob 0).cell 0).data.toList), (num ((rh_2.snd.ob
  0).cell 1).data.toInt)]]) else bif okRes PP 3 rh_2.fst then (run none 96 [AV.ptr 0 0] [Ob.box [AV.e (E.sl 9 ((rh_2.snd.ob 0).cell 0).data.toList), (num ((rh_2.snd.ob 0).cell
  1).data.toInt)]]).bind fun rh_3 => bif okHeap [Ob.box [AV.e (E.sl 9 ((rh_2.snd.ob 0).cell 0).data.toList), (num ((rh_2.snd.ob 0).cell 1).data.toInt)]] rh_3.2 then bif
  rh_3.fst.isPan then some (Res.pan rh_3.fst.why, [Ob.box [AV.e (E.sl 9 ((rh_3.snd.ob 0).cell 0).data.toList), (num ((rh_3.snd.ob 0).cell 1).data.toInt)]]) else bif okRes PP 4
  rh_3.fst then some (Res.ret (AV.agg [num 8, num rh.fst.val.data.toInt, num rh_1.fst.val.data.toInt, num rh_2.fst.val.data.toInt, num 0, yes rh_3.fst.val.data.toBool, str [],
  str [], str [], num 0, str [], str [], num 0, num 0, num 0, str [], str [], str [], str [], yes false, AV.e (E.sl 97 []), str [], str [], num 0, yes false, num 0, num 0, str
  [], num 0, AV.e (E.sl 97 [])]), [Ob.box [AV.e (E.sl 9 ((rh_3.snd.ob 0).cell 0).data.toList), (num ((rh_3.snd.ob 0).cell 1).data.toInt)]]) else none else none else none else
  none else none else none else none else none := by kernel_rfl
theorem eq_prequestK9 (run : RunF) (loop : LoopF) (p0_0 : List E) (p0_1 : Int) : bodyRun PP HH run loop none 61 [.ptr 0 0, num 9] [.box [.e (.sl 9 p0_0), num p0_1]] = (run
  none 92 [AV.ptr 0 0] [Ob.box [AV.e (E.sl 9 p0_0), num p0_1]]).bind fun rh => bif okHeap [Ob.box [AV.e (E.sl 9 p0_0), num p0_1]] rh.2 then bif rh.fst.isPan then some (Res.pan
  rh.fst.why, [Ob.box [AV.e (E.sl 9 ((rh.snd.ob 0).cell 0).data.toList), (num ((rh.snd.ob 0).cell 1).data.toInt)]]) else bif okRes PP 3 rh.fst then (run none 92 [AV.ptr 0 0]
  [Ob.box [AV.e (E.sl 9 ((rh.snd.ob 0).cell 0).data.toList), (num ((rh.snd.ob 0).cell 1).data.toInt)]]).bind fun rh_1 => bif okHeap [Ob.box [AV.e (E.sl 9 ((rh.snd.ob 0).cell
  0).data.toList), (num ((rh.snd.ob 0).cell 1).data.toInt)]] rh_1.2 then bif rh_1.fst.isPan then some (Res.pan rh_1.fst.why, [Ob.box [AV.e (E.sl 9 ((rh_1.snd.ob 0).cell
  0).data.toList), (num ((rh_1.snd.ob 0).cell 1).data.toInt)]]) else bif okRes PP 3 rh_1.fst then (run none 92 [AV.ptr 0 0] [Ob.box [AV.e (E.sl 9 ((rh_1.snd.ob 0).cell
  0).data.toList), (num ((rh_1.snd.ob 0).cell 1).data.toInt)]]).bind fun rh_2 => bif okHeap [Ob.box [AV.e (E.sl 9 ((rh_1.snd.ob 0).cell 0).data.toList), (num ((rh_1.snd.ob
  0).cell 1).data.toInt)]] rh_2.2 then bif rh_2.fst.isPan then some (Res.pan rh_2.fst.why, [Ob.box [AV.e (E.sl 9 ((rh_2.snd.ob 0).cell 0).data.toList), (num ((rh_2.snd.ob
  0).cell 1).data.toInt)]]) else bif okRes PP 3 rh_2.fst then (run none 96 [AV.ptr 0 0] [Ob.box [AV.e (E.sl 9 ((rh_2.snd.ob 0).cell 0).data.toList), (num ((rh_2.snd.ob 0).cell
  1).data.toInt)]]).bind fun rh_3 => bif okHeap [Ob.box [AV.e (E.sl 9 ((rh_2.snd.ob 0).cell 0).data.toList), (num ((rh_2.snd.ob 0).cell 1).data.toInt)]] rh_3.2 then bif
  rh_3.fst.isPan then some (Res.pan rh_3.fst.why, [Ob.box [AV.e (E.sl 9 ((rh_3.snd.ob 0).cell 0).data.toList), (num ((rh_3.snd.ob 0).cell 1).data.toInt)]]) else bif okRes PP 4
  rh_3.fst then some (Res.ret (AV.agg [num 9, num rh.fst.val.data.toInt, num rh_1.fst.val.data.toInt, num rh_2.fst.val.data.toInt, num 0, yes rh_3.fst.val.data.toBool, str [],
  str [], str [], num 0, str [], str [], num 0, num 0, num 0, str [], str [], str [], str [], yes false, AV.e (E.sl 97 []), str [], str [], num 0, yes false, num 0, num 0, str
  [], num 0, AV.e (E.sl 97 [])]), [Ob.box [AV.e (E.sl 9 ((rh_3.snd.ob 0).cell 0).data.toList), (num ((rh_3.snd.ob 0).cell 1).data.toInt)]]) else none else none else none else
  none else none else none else none else none := by kernel_rfl
theorem eq_prequestK10 (run : RunF) (loop : LoopF) (p0_0 : List E) (p0_1 : Int) : bodyRun PP HH run loop none 61 [.ptr 0 0, num 10] [.box [.e (.sl 9 p0_0), num p0_1]] = (run
  none 92 [AV.ptr 0 0] [Ob.box [AV.e (E.sl 9 p0_0), num p0_1]]).bind fun rh => bif okHeap [Ob.box [AV.e (E.sl 9 p0_0), num p0_1]] rh.2 then bif rh.fst.isPan then some (Res.pan
  rh.fst.why, [Ob.box [AV.e (E.sl 9 ((rh.snd.ob 0).cell 0).data.toList), (num ((rh.snd.ob 0).cell 1).data.toInt)]]) else bif okRes PP 3 rh.fst then (run none 92 [AV.ptr 0 0]
  [Ob.box [AV.e (E.sl 9 ((rh.snd.ob 0).cell 0).data.toList), (num ((rh.snd.ob 0).cell 1).data.toInt)]]).bind fun rh_1 => bif okHeap [Ob.box [AV.e (E.sl 9 ((rh.snd.ob 0).cell
  0).data.toList), (num ((rh.snd.ob 0).cell 1).data.toInt)]] rh_1.2 then bif rh_1.fst.isPan then some (Res.pan rh_1.fst.why, [Ob.box [AV.e (E.sl 9 ((rh_1.snd.ob 0).cell
  0).data.toList), (num ((rh_1.snd.ob 0).cell 1).data.toInt)]]) else bif okRes PP 3 rh_1.fst then some (Res.ret (AV.agg [num 10, num rh.fst.val.data.toInt, num
  rh_1.fst.val.data.toInt, num 0, num 0, yes false, str [], str [], str [], num 0, str [], str [], num 0, num 0, num 0, str [], str [], str [], str [], yes false, AV.e (E.sl
  97 []), str [], str [], num 0, yes false, num 0, num 0, str [], num 0, AV.e (E.sl 97 [])]), [Ob.box [AV.e (E.sl 9 ((rh_1.snd.ob 0).cell 0).data.toList), (num ((rh_1.snd.ob
  0).cell 1).data.toInt)]]) else none else none else none else none := by kernel_rfl
theorem eq_prequestK11 (run : RunF) (loop : LoopF) (p0_0 : List E) (p0_1 : Int) : bodyRun PP HH run loop none 61 [.ptr 0 0, num 11] [.box [.e (.sl 9 p0_0), num p0_1]] = (run
  none 92 [AV.ptr 0 0] [Ob.box [AV.e (E.sl 9 p0_0), num p0_1]]).bind fun rh => bif okHeap [Ob.box [AV.e (E.sl 9 p0_0), num p0_1]] rh.2 then bif rh.fst.isPan then some (Res.pan
  rh.fst.why, [Ob.box [AV.e (E.sl 9 ((rh.snd.ob 0).cell 0).data.toList), (num ((rh.snd.ob 0).cell 1).data.toInt)]]) else bif okRes PP 3 rh.fst then (run none 92 [AV.ptr 0 0]
  [Ob.box [AV.e (E.sl 9 ((rh.snd.ob 0).cell 0).data.toList), (num ((rh.snd.ob 0).cell 1).data.toInt)]]).bind fun rh_1 => bif okHeap [Ob.box [AV.e (E.sl 9 ((rh.snd.ob 0).cell
  0).data.toList), (num ((rh.snd.ob 0).cell 1).data.toInt)]] rh_1.2 then bif rh_1.fst.isPan then some (Res.pan rh_1.fst.why, [Ob.box [AV.e (E.sl 9 ((rh_1.snd.ob 0).cell
  0).data.toList), (num ((rh_1.snd.ob 0).cell 1).data.toInt)]]) else bif okRes PP 3 rh_1.fst then some (Res.ret (AV.agg [num 11, num rh.fst.val.data.toInt, num
  rh_1.fst.val.data.toInt, num 0, num 0, yes false, str [], str [], str [], num 0, str [], str [], num 0, num 0, num 0, str [], str [], str [], str [], yes false, AV.e (E.sl
  97 []), str [], str [], num 0, yes false, num 0, num 0, str [], num 0, AV.e (E.sl 97 [])]), [Ob.box [AV.e (E.sl 9 ((rh_1.snd.ob 0).cell 0).data.toList), (num ((rh_1.snd.ob
  0).cell 1).data.toInt)]]) else none else none else none else none := by kernel_rfl
theorem eq_prequestK12 (run : RunF) (loop : LoopF) (p0_0 : List E) (p0_1 : Int) : bodyRun PP HH run loop none 61 [.ptr 0 0, num 12] [.box [.e (.sl 9 p0_0), num p0_1]] = (run
  none 92 [AV.ptr 0 0] [Ob.box [AV.e (E.sl 9 p0_0), num p0_1]]).bind fun rh => bif okHeap [Ob.box [AV.e (E.sl 9 p0_0), num p0_1]] rh.2 then bif rh.fst.isPan then some (Res.pan
  rh.fst.why, [Ob.box [AV.e (E.sl 9 ((rh.snd.ob 0).cell 0).data.toList), (num ((rh.snd.ob 0).cell 1).data.toInt)]]) else bif okRes PP 3 rh.fst then (run none 92 [AV.ptr 0 0]
  [Ob.box [AV.e (E.sl 9 ((rh.snd.ob 0).cell 0).data.toList), (num ((rh.snd.ob 0).cell 1).data.toInt)]]).bind fun rh_1 => bif okHeap [Ob.box [AV.e (E.sl 9 ((rh.snd.ob 0).cell
  0).data.toList), (num ((rh.snd.ob 0).cell 1).data.toInt)]] rh_1.2 then bif rh_1.fst.isPan then some (Res.pan rh_1.fst.why, [Ob.box [AV.e (E.sl 9 ((rh_1.snd.ob 0).cell
  0).data.toList), (num ((rh_1.snd.ob 0).cell 1).data.toInt)]]) else bif okRes PP 3 rh_1.fst then some (Res.ret (AV.agg [num 12, num rh.fst.val.data.toInt, num
  rh_1.fst.val.data.toInt, num 0, num 0, yes false, str [], str [], str [], num 0, str [], str [], num 0, num 0, num 0, str [], str [], str [], str [], yes false, AV.e (E.sl
  97 []), str [], str [], num 0, yes false, num 0, num 0, str [], num 0, AV.e (E.sl 97 [])]), [Ob.box [AV.e (E.sl 9 ((rh_1.snd.ob 0).cell 0).data.toList), (num ((rh_1.snd.ob
  0).cell 1).data.toInt)]]) else none else none else none else none := by kernel_rfl
theorem eq_prequestK13 (run : RunF) (loop : LoopF) (p0_0 : List E) (p0_1 : Int) : bodyRun PP HH run loop none 61 [.ptr 0 0, num 13] [.box [.e (.sl 9 p0_0), num p0_1]] = (run
  none 92 [AV.ptr 0 0] [Ob.box [AV.e (E.sl 9 p0_0), num p0_1]]).bind fun rh => bif okHeap [Ob.box [AV.e (E.sl 9 p0_0), num p0_1]] rh.2 then bif rh.fst.isPan then some (Res.pan
  rh.fst.why, [Ob.box [AV.e (E.sl 9 ((rh.snd.ob 0).cell 0).data.toList), (num ((rh.snd.ob 0).cell 1).data.toInt)]]) else bif okRes PP 3 rh.fst then (run none 92 [AV.ptr 0 0]
  [Ob.box [AV.e (E.sl 9 ((rh.snd.ob 0).cell 0).data.toList), (num ((rh.snd.ob 0).cell 1).data.toInt)]]).bind fun rh_1 => bif okHeap [Ob.box [AV.e (E.sl 9 ((rh.snd.ob 0).cell
  0).data.toList), (num ((rh.snd.ob 0).cell 1).data.toInt)]] rh_1.2 then bif rh_1.fst.isPan then some (Res.pan rh_1.fst.why, [Ob.box [AV.e (E.sl 9 ((rh_1.snd.ob 0).cell
  0).data.toList), (num ((rh_1.snd.ob 0).cell 1).data.toInt)]]) else bif okRes PP 3 rh_1.fst then bif decide (0 ≤ IntKind.i64.wrap (IntKind.i64.wrap (((rh_1.snd.ob 0).cell
  1).data.toInt + 1) - 1)) && decide (IntKind.i64.wrap (IntKind.i64.wrap (((rh_1.snd.ob 0).cell 1).data.toInt + 1) - 1) < (↑((rh_1.snd.ob 0).cell 0).data.toList.length : Int))
  then some (Res.ret (AV.agg [num 13, num rh.fst.val.data.toInt, num rh_1.fst.val.data.toInt, num 0, num 0, yes false, (str ((((rh_1.snd.ob 0).cell 0).data.toList.getD
  (IntKind.i64.wrap (IntKind.i64.wrap (((rh_1.snd.ob 0).cell 1).data.toInt + 1) - 1)).toNat E.nili).cell 0).toStr), str [], str [], num 0, str [], str [], num 0, num 0, num 0,
  str [], str [], str [], str [], yes false, AV.e (E.sl 97 []), str [], str [], num 0, yes false, num 0, num 0, str [], num 0, AV.e (E.sl 97 [])]), [Ob.box [AV.e (E.sl 9
  ((rh_1.snd.ob 0).cell 0).data.toList), (num (IntKind.i64.wrap (((rh_1.snd.ob 0).cell 1).data.toInt + 1)))]]) else none else none else none else none else none := by
  kernel_rfl
theorem eq_prequestK14 (run : RunF) (loop : LoopF) (p0_0 : List E) (p0_1 : Int) : bodyRun PP HH run loop none 61 [.ptr 0 0, num 14] [.box [.e (.sl 9 p0_0), num p0_1]] = (run
  none 92 [AV.ptr 0 0] [Ob.box [AV.e (E.sl 9 p0_0), num p0_1]]).bind fun rh => bif okHeap [Ob.box [AV.e (E.sl 9 p0_0), num p0_1]] rh.2 then bif rh.fst.isPan then some (Res.pan
  rh.fst.why, [Ob.box [AV.e (E.sl 9 ((rh.snd.ob 0).cell 0).data.toList), (num ((rh.snd.ob 0).cell 1).data.toInt)]]) else bif okRes PP 3 rh.fst then (run none 92 [AV.ptr 0 0]
  [Ob.box [AV.e (E.sl 9 ((rh.snd.ob 0).cell 0).data.toList), (num ((rh.snd.ob 0).cell 1).data.toInt)]]).bind fun rh_1 => bif okHeap [Ob.box [AV.e (E.sl 9 ((rh.snd.ob 0).cell
  0).data.toList), (num ((rh.snd.ob 0).cell 1).data.toInt)]] rh_1.2 then bif rh_1.fst.isPan then some (Res.pan rh_1.fst.why, [Ob.box [AV.e (E.sl 9 ((rh_1.snd.ob 0).cell
  0).data.toList), (num ((rh_1.snd.ob 0).cell 1).data.toInt)]]) else bif okRes PP 3 rh_1.fst then bif decide (0 ≤ IntKind.i64.wrap (IntKind.i64.wrap (((rh_1.snd.ob 0).cell
  1).data.toInt + 1) - 1)) && decide (IntKind.i64.wrap (IntKind.i64.wrap (((rh_1.snd.ob 0).cell 1).data.toInt + 1) - 1) < (↑((rh_1.snd.ob 0).cell 0).data.toList.length : Int))
  then some (Res.ret (AV.agg [num 14, num rh.fst.val.data.toInt, num rh_1.fst.val.data.toInt, num 0, num 0, yes false, (str ((((rh_1.snd.ob 0).cell 0).data.toList.getD
  (IntKind.i64.wrap (IntKind.i64.wrap (((rh_1.snd.ob 0).cell 1).data.toInt + 1) - 1)).toNat E.nili).cell 0).toStr), str [], str [], num 0, str [], str [], num 0, num 0, num 0,
  str [], str [], str [], str [], yes false, AV.e (E.sl 97 []), str [], str [], num 0, yes false, num 0, num 0, str [], num 0, AV.e (E.sl 97 [])]), [Ob.box [AV.e (E.sl 9
  ((rh_1.snd.ob 0).cell 0).data.toList), (num (IntKind.i64.wrap (((rh_1.snd.ob 0).cell 1).data.toInt + 1)))]]) else none else none else none else none else none := by
  kernel_rfl
theorem eq_prequestK15 (run : RunF) (loop : LoopF) (p0_0 : List E) (p0_1 : Int) : bodyRun PP HH run loop none 61 [.ptr 0 0, num 15] [.box [.e (.sl 9 p0_0), num p0_1]] = (run
  none 92 [AV.ptr 0 0] [Ob.box [AV.e (E.sl 9 p0_0), num p0_1]]).bind fun rh => bif okHeap [Ob.box [AV.e (E.sl 9 p0_0), num p0_1]] rh.2 then bif rh.fst.isPan then some (Res.pan
  rh.fst.why, [Ob.box [AV.e (E.sl 9 ((rh.snd.ob 0).cell 0).data.toList), (num ((rh.snd.ob 0).cell 1).data.toInt)]]) else bif okRes PP 3 rh.fst then (run none 92 [AV.ptr 0 0]
  [Ob.box [AV.e (E.sl 9 ((rh.snd.ob 0).cell 0).data.toList), (num ((rh.snd.ob 0).cell 1).data.toInt)]]).bind fun rh_1 => bif okHeap [Ob.box [AV.e (E.sl 9 ((rh.snd.ob 0).cell
  0).data.toList), (num ((rh.snd.ob 0).cell 1).data.toInt)]] rh_1.2 then bif rh_1.fst.isPan then some (Res.pan rh_1.fst.why, [Ob.box [AV.e (E.sl 9 ((rh_1.snd.ob 0).cell
  0).data.toList), (num ((rh_1.snd.ob 0).cell 1).data.toInt)]]) else bif okRes PP 3 rh_1.fst then bif decide (0 ≤ IntKind.i64.wrap (IntKind.i64.wrap (((rh_1.snd.ob 0).cell
  1).data.toInt + 1) - 1)) && decide (IntKind.i64.wrap (IntKind.i64.wrap (((rh_1.snd.ob 0).cell 1).data.toInt + 1) - 1) < (↑((rh_1.snd.ob 0).cell 0).data.toList.length : Int))
  then some (Res.ret (AV.agg [num 15, num rh.fst.val.data.toInt, num rh_1.fst.val.data.toInt, num 0, num 0, yes false, (str ((((rh_1.snd.ob 0).cell 0).data.toList.getD
  (IntKind.i64.wrap (IntKind.i64.wrap (((rh_1.snd.ob 0).cell 1).data.toInt + 1) - 1)).toNat E.nili).cell 0).toStr), str [], str [], num 0, str [], str [], num 0, num 0, num 0,
  str [], str [], str [], str [], yes false, AV.e (E.sl 97 []), str [], str [], num 0, yes false, num 0, num 0, str [], num 0, AV.e (E.sl 97 [])]), [Ob.box [AV.e (E.sl 9
  ((rh_1.snd.ob 0).cell 0).data.toList), (num (IntKind.i64.wrap (((rh_1.snd.ob 0).cell 1).data.toInt + 1)))]]) else none else none else none else none else none := by
  kernel_rfl
end Go.Proofs.YtmocefjnplmibaaGreatDoor
