/- The equations of functions, as a program of mine prints them. -/
import Derived.Test.YtmocefjnplmibaaGreatDoorBase
namespace Go.Proofs.YtmocefjnplmibaaGreatDoor
open Go Go.Den
set_option maxRecDepth 100000
set_option maxHeartbeats 0

theorem eq_RParse (run : RunF) (loop : LoopF) (a0 : List UInt8) : bodyRun PP HH run loop none 22 [str a0] [] = (run none 62 [str a0] []).bind fun rh => bif okHeap [] rh.2 then
  bif okRes PP 66 rh.fst then (loop 22 0 lc_22_4 ([uu, uu, AV.ptr 0 0, uu, AV.e (E.sl 9 rh.fst.val.data.toList), num 0, num 1] ++ List.replicate 65 uu) [Ob.box [num 0, num 0,
  num 0, num 0, num 0, yes false, str [], str [], str [], num 0, str [], str [], num 0, num 0, num 0, str [], str [], str [], str [], yes false, AV.own 1 97 [], str [], str
  [], num 0, yes false, num 0, num 0, str [], num 0, AV.own 2 97 []], Ob.vec 97 0, Ob.vec 97 0]).bind fun o => bif o.ex.isWay (Way.exit 0) then bif okFr ([uu, uu, AV.ptr 0 0,
  uu, AV.e (E.sl 9 []), num 0] ++ List.replicate 66 uu) o.2 && okHeap [Ob.box [num 0, num 0, num 0, num 0, num 0, yes false, str [], str [], str [], num 0, str [], str [], num
  0, num 0, num 0, str [], str [], str [], str [], yes false, AV.own 1 97 [], str [], str [], num 0, yes false, num 0, num 0, str [], num 0, AV.own 2 97 []], Ob.vec 97 0,
  Ob.vec 97 0] o.3 then bif (List.getD o.fr 5 uu).data.toInt == 0 then some (Res.ret (AV.tup [AV.agg [num 0, num 0, num 0, num 0, num 0, yes false, str [], str [], str [], num
  0, str [], str [], num 0, num 0, num 0, str [], str [], str [], str [], yes false, AV.e (E.sl 97 []), str [], str [], num 0, yes false, num 0, num 0, str [], num 0, AV.e
  (E.sl 97 [])], num 10]), []) else (run none 63 [(num (List.getD o.fr 5 uu).data.toInt)] []).bind fun rh => bif okHeap [] rh.2 then bif okRes PP 3 rh.fst then bif decide
  ((↑(List.getD o.fr 4 uu).data.toList.length : Int) < rh.fst.val.data.toInt) == false then (run none 63 [(num (List.getD o.fr 5 uu).data.toInt)] []).bind fun rh => bif okHeap
  [] rh.2 then bif okRes PP 3 rh.fst then bif decide (rh.fst.val.data.toInt < (↑(List.getD o.fr 4 uu).data.toList.length : Int)) == true then (run none 64 [(num (List.getD
  o.fr 5 uu).data.toInt)] []).bind fun rh => bif okHeap [] rh.2 then bif okRes PP 4 rh.fst then bif !rh.fst.val.data.toBool then some (Res.ret (AV.tup [AV.agg [num 0, num 0,
  num 0, num 0, num 0, yes false, str [], str [], str [], num 0, str [], str [], num 0, num 0, num 0, str [], str [], str [], str [], yes false, AV.e (E.sl 97 []), str [], str
  [], num 0, yes false, num 0, num 0, str [], num 0, AV.e (E.sl 97 [])], num 2]), []) else (run none 65 [AV.ptr 0 0] [Ob.box [AV.e (E.sl 9 (List.getD o.fr 4 uu).data.toList),
  num 1, num 0]]).bind fun rh => bif okHeap [Ob.box [AV.e (E.sl 9 (List.getD o.fr 4 uu).data.toList), num 1, num 0]] rh.2 then bif okRes PP 3 rh.fst then (run none 65 [AV.ptr
  0 0] [Ob.box [AV.e (E.sl 9 ((rh.snd.ob 0).cell 0).data.toList), (num ((rh.snd.ob 0).cell 1).data.toInt), (num ((rh.snd.ob 0).cell 2).data.toInt)]]).bind fun rh_1 => bif
  okHeap [Ob.box [AV.e (E.sl 9 ((rh.snd.ob 0).cell 0).data.toList), (num ((rh.snd.ob 0).cell 1).data.toInt), (num ((rh.snd.ob 0).cell 2).data.toInt)]] rh_1.2 then bif okRes PP
  3 rh_1.fst then (run none 66 [AV.ptr 0 0, AV.agg [(num (List.getD o.fr 5 uu).data.toInt), num rh.fst.val.data.toInt, num rh_1.fst.val.data.toInt, num 0, num 0, yes false,
  str [], str [], str [], num 0, str [], str [], num 0, num 0, num 0, str [], str [], str [], str [], yes false, AV.e (E.sl 97 []), str [], str [], num 0, yes false, num 0,
  num 0, str [], num 0, AV.e (E.sl 97 [])]] [Ob.box [AV.e (E.sl 9 ((rh_1.snd.ob 0).cell 0).data.toList), (num ((rh_1.snd.ob 0).cell 1).data.toInt), (num ((rh_1.snd.ob 0).cell
  2).data.toInt)]]).bind fun rh => bif okHeap [Ob.box [AV.e (E.sl 9 ((rh_1.snd.ob 0).cell 0).data.toList), (num ((rh_1.snd.ob 0).cell 1).data.toInt), (num ((rh_1.snd.ob
  0).cell 2).data.toInt)]] rh.2 then bif okRes PP 39 rh.fst then (run none 18 [AV.agg [(num (rh.fst.val.data.cell 0).toInt), (num (rh.fst.val.data.cell 1).toInt), (num
  (rh.fst.val.data.cell 2).toInt), (num (rh.fst.val.data.cell 3).toInt), (num (rh.fst.val.data.cell 4).toInt), (yes (rh.fst.val.data.cell 5).toBool), (str
  (rh.fst.val.data.cell 6).toStr), (str (rh.fst.val.data.cell 7).toStr), (str (rh.fst.val.data.cell 8).toStr), (num (rh.fst.val.data.cell 9).toInt), (str (rh.fst.val.data.cell
  10).toStr), (str (rh.fst.val.data.cell 11).toStr), (num (rh.fst.val.data.cell 12).toInt), (num (rh.fst.val.data.cell 13).toInt), (num (rh.fst.val.data.cell 14).toInt), (str
  (rh.fst.val.data.cell 15).toStr), (str (rh.fst.val.data.cell 16).toStr), (str (rh.fst.val.data.cell 17).toStr), (str (rh.fst.val.data.cell 18).toStr), (yes
  (rh.fst.val.data.cell 19).toBool), AV.e (E.sl 97 (rh.fst.val.data.cell 20).toList), (str (rh.fst.val.data.cell 21).toStr), (str (rh.fst.val.data.cell 22).toStr), (num
  (rh.fst.val.data.cell 23).toInt), (yes (rh.fst.val.data.cell 24).toBool), (num (rh.fst.val.data.cell 25).toInt), (num (rh.fst.val.data.cell 26).toInt), (str
  (rh.fst.val.data.cell 27).toStr), (num (rh.fst.val.data.cell 28).toInt), AV.e (E.sl 97 (rh.fst.val.data.cell 29).toList)]] []).bind fun rh_2 => bif okHeap [] rh_2.2 then bif
  okRes PP 23 rh_2.fst then bif ((rh.snd.ob 0).cell 2).data.toInt == 0 then bif !rh_2.fst.val.data.toInt == 0 then some (Res.ret (AV.tup [AV.agg [num 0, num 0, num 0, num 0,
  num 0, yes false, str [], str [], str [], num 0, str [], str [], num 0, num 0, num 0, str [], str [], str [], str [], yes false, AV.e (E.sl 97 []), str [], str [], num 0,
  yes false, num 0, num 0, str [], num 0, AV.e (E.sl 97 [])], num rh_2.fst.val.data.toInt]), []) else some (Res.ret (AV.tup [AV.agg [(num (rh.fst.val.data.cell 0).toInt), (num
  (rh.fst.val.data.cell 1).toInt), (num (rh.fst.val.data.cell 2).toInt), (num (rh.fst.val.data.cell 3).toInt), (num (rh.fst.val.data.cell 4).toInt), (yes (rh.fst.val.data.cell
  5).toBool), (str (rh.fst.val.data.cell 6).toStr), (str (rh.fst.val.data.cell 7).toStr), (str (rh.fst.val.data.cell 8).toStr), (num (rh.fst.val.data.cell 9).toInt), (str
  (rh.fst.val.data.cell 10).toStr), (str (rh.fst.val.data.cell 11).toStr), (num (rh.fst.val.data.cell 12).toInt), (num (rh.fst.val.data.cell 13).toInt), (num
  (rh.fst.val.data.cell 14).toInt), (str (rh.fst.val.data.cell 15).toStr), (str (rh.fst.val.data.cell 16).toStr), (str (rh.fst.val.data.cell 17).toStr), (str
  (rh.fst.val.data.cell 18).toStr), (yes (rh.fst.val.data.cell 19).toBool), AV.e (E.sl 97 (rh.fst.val.data.cell 20).toList), (str (rh.fst.val.data.cell 21).toStr), (str
  (rh.fst.val.data.cell 22).toStr), (num (rh.fst.val.data.cell 23).toInt), (yes (rh.fst.val.data.cell 24).toBool), (num (rh.fst.val.data.cell 25).toInt), (num
  (rh.fst.val.data.cell 26).toInt), (str (rh.fst.val.data.cell 27).toStr), (num (rh.fst.val.data.cell 28).toInt), AV.e (E.sl 97 (rh.fst.val.data.cell 29).toList)], num 0]),
  []) else bif !((rh.snd.ob 0).cell 2).data.toInt == 0 then some (Res.ret (AV.tup [AV.agg [num 0, num 0, num 0, num 0, num 0, yes false, str [], str [], str [], num 0, str [],
  str [], num 0, num 0, num 0, str [], str [], str [], str [], yes false, AV.e (E.sl 97 []), str [], str [], num 0, yes false, num 0, num 0, str [], num 0, AV.e (E.sl 97 [])],
  (num ((rh.snd.ob 0).cell 2).data.toInt)]), []) else some (Res.ret (AV.tup [AV.agg [(num (rh.fst.val.data.cell 0).toInt), (num (rh.fst.val.data.cell 1).toInt), (num
  (rh.fst.val.data.cell 2).toInt), (num (rh.fst.val.data.cell 3).toInt), (num (rh.fst.val.data.cell 4).toInt), (yes (rh.fst.val.data.cell 5).toBool), (str
  (rh.fst.val.data.cell 6).toStr), (str (rh.fst.val.data.cell 7).toStr), (str (rh.fst.val.data.cell 8).toStr), (num (rh.fst.val.data.cell 9).toInt), (str (rh.fst.val.data.cell
  10).toStr), (str (rh.fst.val.data.cell 11).toStr), (num (rh.fst.val.data.cell 12).toInt), (num (rh.fst.val.data.cell 13).toInt), (num (rh.fst.val.data.cell 14).toInt), (str
  (rh.fst.val.data.cell 15).toStr), (str (rh.fst.val.data.cell 16).toStr), (str (rh.fst.val.data.cell 17).toStr), (str (rh.fst.val.data.cell 18).toStr), (yes
  (rh.fst.val.data.cell 19).toBool), AV.e (E.sl 97 (rh.fst.val.data.cell 20).toList), (str (rh.fst.val.data.cell 21).toStr), (str (rh.fst.val.data.cell 22).toStr), (num
  (rh.fst.val.data.cell 23).toInt), (yes (rh.fst.val.data.cell 24).toBool), (num (rh.fst.val.data.cell 25).toInt), (num (rh.fst.val.data.cell 26).toInt), (str
  (rh.fst.val.data.cell 27).toStr), (num (rh.fst.val.data.cell 28).toInt), AV.e (E.sl 97 (rh.fst.val.data.cell 29).toList)], num 0]), []) else none else none else none else
  none else none else none else none else none else none else none else (run none 65 [AV.ptr 0 0] [Ob.box [AV.e (E.sl 9 (List.getD o.fr 4 uu).data.toList), num 1, num
  0]]).bind fun rh => bif okHeap [Ob.box [AV.e (E.sl 9 (List.getD o.fr 4 uu).data.toList), num 1, num 0]] rh.2 then bif okRes PP 3 rh.fst then (run none 65 [AV.ptr 0 0]
  [Ob.box [AV.e (E.sl 9 ((rh.snd.ob 0).cell 0).data.toList), (num ((rh.snd.ob 0).cell 1).data.toInt), (num ((rh.snd.ob 0).cell 2).data.toInt)]]).bind fun rh_1 => bif okHeap
  [Ob.box [AV.e (E.sl 9 ((rh.snd.ob 0).cell 0).data.toList), (num ((rh.snd.ob 0).cell 1).data.toInt), (num ((rh.snd.ob 0).cell 2).data.toInt)]] rh_1.2 then bif okRes PP 3
  rh_1.fst then (run none 66 [AV.ptr 0 0, AV.agg [(num (List.getD o.fr 5 uu).data.toInt), num rh.fst.val.data.toInt, num rh_1.fst.val.data.toInt, num 0, num 0, yes false, str
  [], str [], str [], num 0, str [], str [], num 0, num 0, num 0, str [], str [], str [], str [], yes false, AV.e (E.sl 97 []), str [], str [], num 0, yes false, num 0, num 0,
  str [], num 0, AV.e (E.sl 97 [])]] [Ob.box [AV.e (E.sl 9 ((rh_1.snd.ob 0).cell 0).data.toList), (num ((rh_1.snd.ob 0).cell 1).data.toInt), (num ((rh_1.snd.ob 0).cell
  2).data.toInt)]]).bind fun rh => bif okHeap [Ob.box [AV.e (E.sl 9 ((rh_1.snd.ob 0).cell 0).data.toList), (num ((rh_1.snd.ob 0).cell 1).data.toInt), (num ((rh_1.snd.ob
  0).cell 2).data.toInt)]] rh.2 then bif okRes PP 39 rh.fst then (run none 18 [AV.agg [(num (rh.fst.val.data.cell 0).toInt), (num (rh.fst.val.data.cell 1).toInt), (num
  (rh.fst.val.data.cell 2).toInt), (num (rh.fst.val.data.cell 3).toInt), (num (rh.fst.val.data.cell 4).toInt), (yes (rh.fst.val.data.cell 5).toBool), (str
  (rh.fst.val.data.cell 6).toStr), (str (rh.fst.val.data.cell 7).toStr), (str (rh.fst.val.data.cell 8).toStr), (num (rh.fst.val.data.cell 9).toInt), (str (rh.fst.val.data.cell
  10).toStr), (str (rh.fst.val.data.cell 11).toStr), (num (rh.fst.val.data.cell 12).toInt), (num (rh.fst.val.data.cell 13).toInt), (num (rh.fst.val.data.cell 14).toInt), (str
  (rh.fst.val.data.cell 15).toStr), (str (rh.fst.val.data.cell 16).toStr), (str (rh.fst.val.data.cell 17).toStr), (str (rh.fst.val.data.cell 18).toStr), (yes
  (rh.fst.val.data.cell 19).toBool), AV.e (E.sl 97 (rh.fst.val.data.cell 20).toList), (str (rh.fst.val.data.cell 21).toStr), (str (rh.fst.val.data.cell 22).toStr), (num
  (rh.fst.val.data.cell 23).toInt), (yes (rh.fst.val.data.cell 24).toBool), (num (rh.fst.val.data.cell 25).toInt), (num (rh.fst.val.data.cell 26).toInt), (str
  (rh.fst.val.data.cell 27).toStr), (num (rh.fst.val.data.cell 28).toInt), AV.e (E.sl 97 (rh.fst.val.data.cell 29).toList)]] []).bind fun rh_2 => bif okHeap [] rh_2.2 then bif
  okRes PP 23 rh_2.fst then bif ((rh.snd.ob 0).cell 2).data.toInt == 0 then bif !rh_2.fst.val.data.toInt == 0 then some (Res.ret (AV.tup [AV.agg [num 0, num 0, num 0, num 0,
  num 0, yes false, str [], str [], str [], num 0, str [], str [], num 0, num 0, num 0, str [], str [], str [], str [], yes false, AV.e (E.sl 97 []), str [], str [], num 0,
  yes false, num 0, num 0, str [], num 0, AV.e (E.sl 97 [])], num rh_2.fst.val.data.toInt]), []) else some (Res.ret (AV.tup [AV.agg [(num (rh.fst.val.data.cell 0).toInt), (num
  (rh.fst.val.data.cell 1).toInt), (num (rh.fst.val.data.cell 2).toInt), (num (rh.fst.val.data.cell 3).toInt), (num (rh.fst.val.data.cell 4).toInt), (yes (rh.fst.val.data.cell
  5).toBool), (str (rh.fst.val.data.cell 6).toStr), (str (rh.fst.val.data.cell 7).toStr), (str (rh.fst.val.data.cell 8).toStr), (num (rh.fst.val.data.cell 9).toInt), (str
  (rh.fst.val.data.cell 10).toStr), (str (rh.fst.val.data.cell 11).toStr), (num (rh.fst.val.data.cell 12).toInt), (num (rh.fst.val.data.cell 13).toInt), (num
  (rh.fst.val.data.cell 14).toInt), (str (rh.fst.val.data.cell 15).toStr), (str (rh.fst.val.data.cell 16).toStr), (str (rh.fst.val.data.cell 17).toStr), (str
  (rh.fst.val.data.cell 18).toStr), (yes (rh.fst.val.data.cell 19).toBool), AV.e (E.sl 97 (rh.fst.val.data.cell 20).toList), (str (rh.fst.val.data.cell 21).toStr), (str
  (rh.fst.val.data.cell 22).toStr), (num (rh.fst.val.data.cell 23).toInt), (yes (rh.fst.val.data.cell 24).toBool), (num (rh.fst.val.data.cell 25).toInt), (num
  (rh.fst.val.data.cell 26).toInt), (str (rh.fst.val.data.cell 27).toStr), (num (rh.fst.val.data.cell 28).toInt), AV.e (E.sl 97 (rh.fst.val.data.cell 29).toList)], num 0]),
  []) else bif !((rh.snd.ob 0).cell 2).data.toInt == 0 then some (Res.ret (AV.tup [AV.agg [num 0, num 0, num 0, num 0, num 0, yes false, str [], str [], str [], num 0, str [],
  str [], num 0, num 0, num 0, str [], str [], str [], str [], yes false, AV.e (E.sl 97 []), str [], str [], num 0, yes false, num 0, num 0, str [], num 0, AV.e (E.sl 97 [])],
  (num ((rh.snd.ob 0).cell 2).data.toInt)]), []) else some (Res.ret (AV.tup [AV.agg [(num (rh.fst.val.data.cell 0).toInt), (num (rh.fst.val.data.cell 1).toInt), (num
  (rh.fst.val.data.cell 2).toInt), (num (rh.fst.val.data.cell 3).toInt), (num (rh.fst.val.data.cell 4).toInt), (yes (rh.fst.val.data.cell 5).toBool), (str
  (rh.fst.val.data.cell 6).toStr), (str (rh.fst.val.data.cell 7).toStr), (str (rh.fst.val.data.cell 8).toStr), (num (rh.fst.val.data.cell 9).toInt), (str (rh.fst.val.data.cell
  10).toStr), (str (rh.fst.val.data.cell 11).toStr), (num (rh.fst.val.data.cell 12).toInt), (num (rh.fst.val.data.cell 13).toInt), (num (rh.fst.val.data.cell 14).toInt), (str
  (rh.fst.val.data.cell 15).toStr), (str (rh.fst.val.data.cell 16).toStr), (str (rh.fst.val.data.cell 17).toStr), (str (rh.fst.val.data.cell 18).toStr), (yes
  (rh.fst.val.data.cell 19).toBool), AV.e (E.sl 97 (rh.fst.val.data.cell 20).toList), (str (rh.fst.val.data.cell 21).toStr), (str (rh.fst.val.data.cell 22).toStr), (num
  (rh.fst.val.data.cell 23).toInt), (yes (rh.fst.val.data.cell 24).toBool), (num (rh.fst.val.data.cell 25).toInt), (num (rh.fst.val.data.cell 26).toInt), (str
  (rh.fst.val.data.cell 27).toStr), (num (rh.fst.val.data.cell 28).toInt), AV.e (E.sl 97 (rh.fst.val.data.cell 29).toList)], num 0]), []) else none else none else none else
  none else none else none else none else none else none else none else some (Res.ret (AV.tup [AV.agg [num 0, num 0, num 0, num 0, num 0, yes false, str [], str [], str [],
  num 0, str [], str [], num 0, num 0, num 0, str [], str [], str [], str [], yes false, AV.e (E.sl 97 []), str [], str [], num 0, yes false, num 0, num 0, str [], num 0, AV.e
  (E.sl 97 [])], num 2]), []) else none else none else none else none else none else none := by kernel_rfl
theorem eq_RParseL4 (run : RunF) (loop : LoopF) (t4 : List E) (t5 t6 t2_0 t2_1 t2_2 t2_3 t2_4 : Int) (t2_5 : Bool) (t2_6 t2_7 t2_8 : List UInt8) (t2_9 : Int) (t2_10 t2_11 :
  List UInt8) (t2_12 t2_13 t2_14 : Int) (t2_15 t2_16 t2_17 t2_18 : List UInt8) (t2_19 : Bool) (t2_20 : List E) (t2_21 t2_22 : List UInt8) (t2_23 : Int) (t2_24 : Bool) (t2_25
  t2_26 : Int) (t2_27 : List UInt8) (t2_28 : Int) (t2_29 : List E) : bodyLoop PP HH run loop 22 0 lc_22_4 (((((List.replicate 72 uu).set 2 (.ptr 0 0)).set 4 (.e (.sl 9
  t4))).set 5 (num t5)).set 6 (num t6)) [.box [num t2_0, num t2_1, num t2_2, num t2_3, num t2_4, yes t2_5, str t2_6, str t2_7, str t2_8, num t2_9, str t2_10, str t2_11, num
  t2_12, num t2_13, num t2_14, str t2_15, str t2_16, str t2_17, str t2_18, yes t2_19, .own 1 97 t2_20, str t2_21, str t2_22, num t2_23, yes t2_24, num t2_25, num t2_26, str
  t2_27, num t2_28, .own 2 97 t2_29], .vec 97 t2_20.length, .vec 97 t2_29.length] = bif decide (t6 ≤ 15) then bif decide (0 < (↑t4.length : Int)) then (run none 36 [num t6]
  []).bind fun rh => bif okHeap [] rh.2 then bif okRes PP 9 rh.fst then bif strEq rh.fst.val.data.toStr ((t4.getD 0 E.nili).cell 0).toStr then (loop 22 0 lc_22_4 ([uu, uu,
  AV.ptr 0 0, uu, AV.e (E.sl 9 t4), num t6, (num (IntKind.i64.wrap (t6 + 1)))] ++ List.replicate 65 uu) [Ob.box [num t2_0, num t2_1, num t2_2, num t2_3, num t2_4, yes t2_5,
  str t2_6, str t2_7, str t2_8, num t2_9, str t2_10, str t2_11, num t2_12, num t2_13, num t2_14, str t2_15, str t2_16, str t2_17, str t2_18, yes t2_19, AV.own 1 97 t2_20, str
  t2_21, str t2_22, num t2_23, yes t2_24, num t2_25, num t2_26, str t2_27, num t2_28, AV.own 2 97 t2_29], Ob.vec 97 t2_20.length, Ob.vec 97 t2_29.length]).bind fun o => some o
  else (loop 22 0 lc_22_4 ([uu, uu, AV.ptr 0 0, uu, AV.e (E.sl 9 t4), num t5, (num (IntKind.i64.wrap (t6 + 1)))] ++ List.replicate 65 uu) [Ob.box [num t2_0, num t2_1, num
  t2_2, num t2_3, num t2_4, yes t2_5, str t2_6, str t2_7, str t2_8, num t2_9, str t2_10, str t2_11, num t2_12, num t2_13, num t2_14, str t2_15, str t2_16, str t2_17, str
  t2_18, yes t2_19, AV.own 1 97 t2_20, str t2_21, str t2_22, num t2_23, yes t2_24, num t2_25, num t2_26, str t2_27, num t2_28, AV.own 2 97 t2_29], Ob.vec 97 t2_20.length,
  Ob.vec 97 t2_29.length]).bind fun o => some o else none else none else none else some (Out.mk (Ex.exit 0) (([uu, uu, AV.ptr 0 0, uu, AV.e (E.sl 9 t4), num t5] ++
  List.replicate 66 uu)) ([Ob.box [num t2_0, num t2_1, num t2_2, num t2_3, num t2_4, yes t2_5, str t2_6, str t2_7, str t2_8, num t2_9, str t2_10, str t2_11, num t2_12, num
  t2_13, num t2_14, str t2_15, str t2_16, str t2_17, str t2_18, yes t2_19, AV.own 1 97 t2_20, str t2_21, str t2_22, num t2_23, yes t2_24, num t2_25, num t2_26, str t2_27, num
  t2_28, AV.own 2 97 t2_29], Ob.vec 97 t2_20.length, Ob.vec 97 t2_29.length]) ([])) := by kernel_rfl
theorem eq_Fields (run : RunF) (loop : LoopF) (a0 : List UInt8) : bodyRun PP HH run loop none 62 [str a0] [] = (loop 62 0 lc_62_4 ([str a0, uu, uu, AV.own 0 9 [], num 0, num
  0] ++ List.replicate 25 uu) [Ob.vec 9 0]).bind fun o => bif o.ex.isWay (Way.exit 0) then bif okFr ([str [], uu, uu, AV.own 0 9 [], num 0] ++ List.replicate 26 uu) o.2 &&
  okHeap [Ob.vec 9 0] o.3 then bif decide (0 ≤ (List.getD o.fr 4 uu).data.toInt) && decide ((List.getD o.fr 4 uu).data.toInt ≤ (↑(List.getD o.fr 0 uu).data.toStr.length :
  Int)) && decide ((↑(List.getD o.fr 0 uu).data.toStr.length : Int) ≤ (↑(List.getD o.fr 0 uu).data.toStr.length : Int)) then bif decide ((o.hp.ob 0).len = (List.getD o.fr 3
  uu).data.toList.length) && decide (((List.getD o.fr 3 uu).data.toList.length + (9, [E.str (List.drop (List.getD o.fr 4 uu).data.toInt.toNat (List.take (↑(List.getD o.fr 0
  uu).data.toStr.length : Int).toNat (List.getD o.fr 0 uu).data.toStr))]).snd.length) * 16 ≤ 140737488355328) then some (Res.ret (AV.e (E.sl 9 ((List.getD o.fr 3
  uu).data.toList ++ (9, [E.str (List.drop (List.getD o.fr 4 uu).data.toInt.toNat (List.take (↑(List.getD o.fr 0 uu).data.toStr.length : Int).toNat (List.getD o.fr 0
  uu).data.toStr))]).snd))), []) else none else none else none else none := by kernel_rfl
theorem eq_FieldsL4 (run : RunF) (loop : LoopF) (t0 : List UInt8) (t3 : List E) (t4 t5 : Int) : bodyLoop PP HH run loop 62 0 lc_62_4 (((((List.replicate 31 uu).set 0 (str
  t0)).set 3 (.own 0 9 t3)).set 4 (num t4)).set 5 (num t5)) [.vec 9 t3.length] = bif decide (t5 < (↑t0.length : Int)) then bif decide (0 ≤ t5) && decide (t5 < (↑t0.length :
  Int)) then bif (↑(t0.getD t5.toNat 0).toNat : Int) == 32 then bif decide (0 ≤ t4) && decide (t4 ≤ t5) && decide (t5 ≤ (↑t0.length : Int)) then bif decide (t3.length =
  t3.length) && decide ((t3.length + (9, [E.str (List.drop t4.toNat (List.take t5.toNat t0))]).snd.length) * 16 ≤ 140737488355328) then (loop 62 0 lc_62_4 ([str t0, uu, uu,
  AV.own 0 9 (t3 ++ (9, [E.str (List.drop t4.toNat (List.take t5.toNat t0))]).snd), (num (IntKind.i64.wrap (t5 + 1))), (num (IntKind.i64.wrap (t5 + 1)))] ++ List.replicate 25
  uu) [Ob.vec 9 (t3 ++ (9, [E.str (List.drop t4.toNat (List.take t5.toNat t0))]).snd).length]).bind fun o => some o else none else none else (loop 62 0 lc_62_4 ([str t0, uu,
  uu, AV.own 0 9 t3, num t4, (num (IntKind.i64.wrap (t5 + 1)))] ++ List.replicate 25 uu) [Ob.vec 9 t3.length]).bind fun o => some o else none else some (Out.mk (Ex.exit 0)
  (([str t0, uu, uu, AV.own 0 9 t3, num t4] ++ List.replicate 26 uu)) ([Ob.vec 9 t3.length]) ([])) := by kernel_rfl
theorem eq_xNumber (run : RunF) (loop : LoopF) (p0_0 : List E) (p0_1 p0_2 : Int) : bodyRun PP HH run loop none 65 [.ptr 0 0] [.box [.e (.sl 9 p0_0), num p0_1, num p0_2]] = bif
  (!p0_2 == 0) == false then bif decide ((↑p0_0.length : Int) ≤ p0_1) then (run none 99 [str []] []).bind fun rh => bif okHeap [] rh.2 then bif okRes PP 117 rh.fst then bif
  p0_2 == 0 then some (Res.ret ((num (rh.fst.val.comp 0).data.toInt)), [Ob.box [AV.e (E.sl 9 p0_0), num p0_1, (num (rh.fst.val.comp 1).data.toInt)]]) else some (Res.ret ((num
  (rh.fst.val.comp 0).data.toInt)), [Ob.box [AV.e (E.sl 9 p0_0), num p0_1, num p0_2]]) else none else none else bif decide (0 ≤ IntKind.i64.wrap (IntKind.i64.wrap (p0_1 + 1) -
  1)) && decide (IntKind.i64.wrap (IntKind.i64.wrap (p0_1 + 1) - 1) < (↑p0_0.length : Int)) then (run none 99 [(str ((p0_0.getD (IntKind.i64.wrap (IntKind.i64.wrap (p0_1 + 1)
  - 1)).toNat E.nili).cell 0).toStr)] []).bind fun rh => bif okHeap [] rh.2 then bif okRes PP 117 rh.fst then bif p0_2 == 0 then some (Res.ret (num (rh.fst.val.comp
  0).data.toInt), [Ob.box [AV.e (E.sl 9 p0_0), (num (IntKind.i64.wrap (p0_1 + 1))), (num (rh.fst.val.comp 1).data.toInt)]]) else some (Res.ret ((num (rh.fst.val.comp
  0).data.toInt)), [Ob.box [AV.e (E.sl 9 p0_0), (num (IntKind.i64.wrap (p0_1 + 1))), num p0_2]]) else none else none else none else (run none 99 [str []] []).bind fun rh =>
  bif okHeap [] rh.2 then bif okRes PP 117 rh.fst then bif p0_2 == 0 then some (Res.ret ((num (rh.fst.val.comp 0).data.toInt)), [Ob.box [AV.e (E.sl 9 p0_0), num p0_1, (num
  (rh.fst.val.comp 1).data.toInt)]]) else some (Res.ret ((num (rh.fst.val.comp 0).data.toInt)), [Ob.box [AV.e (E.sl 9 p0_0), num p0_1, num p0_2]]) else none else none := by
  kernel_rfl
theorem eq_xTruth (run : RunF) (loop : LoopF) (p0_0 : List E) (p0_1 p0_2 : Int) : bodyRun PP HH run loop none 104 [.ptr 0 0] [.box [.e (.sl 9 p0_0), num p0_1, num p0_2]] = bif
  (!p0_2 == 0) == false then bif decide ((↑p0_0.length : Int) ≤ p0_1) then bif p0_2 == 0 then some (Res.ret ((yes false)), [Ob.box [AV.e (E.sl 9 p0_0), num p0_1, num 2]]) else
  some (Res.ret ((yes false)), [Ob.box [AV.e (E.sl 9 p0_0), num p0_1, num p0_2]]) else bif decide (0 ≤ IntKind.i64.wrap (IntKind.i64.wrap (p0_1 + 1) - 1)) && decide
  (IntKind.i64.wrap (IntKind.i64.wrap (p0_1 + 1) - 1) < (↑p0_0.length : Int)) then bif bif !strEq ((p0_0.getD (IntKind.i64.wrap (IntKind.i64.wrap (p0_1 + 1) - 1)).toNat
  E.nili).cell 0).toStr ([121, 101, 115] : List UInt8) then !strEq ((p0_0.getD (IntKind.i64.wrap (IntKind.i64.wrap (p0_1 + 1) - 1)).toNat E.nili).cell 0).toStr ([110, 111] :
  List UInt8) else false then bif p0_2 == 0 then some (Res.ret ((yes (strEq ((p0_0.getD (IntKind.i64.wrap (IntKind.i64.wrap (p0_1 + 1) - 1)).toNat E.nili).cell 0).toStr ([121,
  101, 115] : List UInt8)))), [Ob.box [AV.e (E.sl 9 p0_0), (num (IntKind.i64.wrap (p0_1 + 1))), num 2]]) else some (Res.ret ((yes (strEq ((p0_0.getD (IntKind.i64.wrap
  (IntKind.i64.wrap (p0_1 + 1) - 1)).toNat E.nili).cell 0).toStr ([121, 101, 115] : List UInt8)))), [Ob.box [AV.e (E.sl 9 p0_0), (num (IntKind.i64.wrap (p0_1 + 1))), num
  p0_2]]) else some (Res.ret ((yes (strEq ((p0_0.getD (IntKind.i64.wrap (IntKind.i64.wrap (p0_1 + 1) - 1)).toNat E.nili).cell 0).toStr ([121, 101, 115] : List UInt8)))),
  [Ob.box [AV.e (E.sl 9 p0_0), (num (IntKind.i64.wrap (p0_1 + 1))), num p0_2]]) else none else bif p0_2 == 0 then some (Res.ret ((yes false)), [Ob.box [AV.e (E.sl 9 p0_0), num
  p0_1, num 2]]) else some (Res.ret ((yes false)), [Ob.box [AV.e (E.sl 9 p0_0), num p0_1, num p0_2]]) := by kernel_rfl
theorem eq_xText (run : RunF) (loop : LoopF) (p0_0 : List E) (p0_1 p0_2 : Int) : bodyRun PP HH run loop none 103 [.ptr 0 0] [.box [.e (.sl 9 p0_0), num p0_1, num p0_2]] = bif
  (!p0_2 == 0) == false then bif decide ((↑p0_0.length : Int) ≤ p0_1) then (run none 13 [str []] []).bind fun rh => bif okHeap [] rh.2 then bif okRes PP 24 rh.fst then bif
  p0_2 == 0 then some (Res.ret ((str (rh.fst.val.comp 0).data.toStr)), [Ob.box [AV.e (E.sl 9 p0_0), num p0_1, (num (rh.fst.val.comp 1).data.toInt)]]) else some (Res.ret ((str
  (rh.fst.val.comp 0).data.toStr)), [Ob.box [AV.e (E.sl 9 p0_0), num p0_1, num p0_2]]) else none else none else bif decide (0 ≤ IntKind.i64.wrap (IntKind.i64.wrap (p0_1 + 1) -
  1)) && decide (IntKind.i64.wrap (IntKind.i64.wrap (p0_1 + 1) - 1) < (↑p0_0.length : Int)) then (run none 13 [(str ((p0_0.getD (IntKind.i64.wrap (IntKind.i64.wrap (p0_1 + 1)
  - 1)).toNat E.nili).cell 0).toStr)] []).bind fun rh => bif okHeap [] rh.2 then bif okRes PP 24 rh.fst then bif p0_2 == 0 then some (Res.ret ((str (rh.fst.val.comp
  0).data.toStr)), [Ob.box [AV.e (E.sl 9 p0_0), (num (IntKind.i64.wrap (p0_1 + 1))), (num (rh.fst.val.comp 1).data.toInt)]]) else some (Res.ret ((str (rh.fst.val.comp
  0).data.toStr)), [Ob.box [AV.e (E.sl 9 p0_0), (num (IntKind.i64.wrap (p0_1 + 1))), num p0_2]]) else none else none else none else (run none 13 [str []] []).bind fun rh =>
  bif okHeap [] rh.2 then bif okRes PP 24 rh.fst then bif p0_2 == 0 then some (Res.ret (str (rh.fst.val.comp 0).data.toStr), [Ob.box [AV.e (E.sl 9 p0_0), num p0_1, (num
  (rh.fst.val.comp 1).data.toInt)]]) else some (Res.ret ((str (rh.fst.val.comp 0).data.toStr)), [Ob.box [AV.e (E.sl 9 p0_0), num p0_1, num p0_2]]) else none else none := by
  kernel_rfl
theorem eq_xOpt (run : RunF) (loop : LoopF) (p0_0 : List E) (p0_1 p0_2 : Int) : bodyRun PP HH run loop none 102 [.ptr 0 0] [.box [.e (.sl 9 p0_0), num p0_1, num p0_2]] = bif
  (!p0_2 == 0) == false then bif decide ((↑p0_0.length : Int) ≤ p0_1) then bif p0_2 == 0 then some (Res.ret ((str [])), [Ob.box [AV.e (E.sl 9 p0_0), num p0_1, num 11]]) else
  some (Res.ret ((str [])), [Ob.box [AV.e (E.sl 9 p0_0), num p0_1, num p0_2]]) else bif decide (0 ≤ IntKind.i64.wrap (IntKind.i64.wrap (p0_1 + 1) - 1)) && decide
  (IntKind.i64.wrap (IntKind.i64.wrap (p0_1 + 1) - 1) < (↑p0_0.length : Int)) then bif strEq ((p0_0.getD (IntKind.i64.wrap (IntKind.i64.wrap (p0_1 + 1) - 1)).toNat
  E.nili).cell 0).toStr ([45] : List UInt8) then some (Res.ret (str []), [Ob.box [AV.e (E.sl 9 p0_0), (num (IntKind.i64.wrap (p0_1 + 1))), num p0_2]]) else bif strEq
  ((p0_0.getD (IntKind.i64.wrap (IntKind.i64.wrap (p0_1 + 1) - 1)).toNat E.nili).cell 0).toStr ([] : List UInt8) then bif p0_2 == 0 then some (Res.ret ((str ((p0_0.getD
  (IntKind.i64.wrap (IntKind.i64.wrap (p0_1 + 1) - 1)).toNat E.nili).cell 0).toStr)), [Ob.box [AV.e (E.sl 9 p0_0), (num (IntKind.i64.wrap (p0_1 + 1))), num 11]]) else some
  (Res.ret ((str ((p0_0.getD (IntKind.i64.wrap (IntKind.i64.wrap (p0_1 + 1) - 1)).toNat E.nili).cell 0).toStr)), [Ob.box [AV.e (E.sl 9 p0_0), (num (IntKind.i64.wrap (p0_1 +
  1))), num p0_2]]) else some (Res.ret ((str ((p0_0.getD (IntKind.i64.wrap (IntKind.i64.wrap (p0_1 + 1) - 1)).toNat E.nili).cell 0).toStr)), [Ob.box [AV.e (E.sl 9 p0_0), (num
  (IntKind.i64.wrap (p0_1 + 1))), num p0_2]]) else none else bif p0_2 == 0 then some (Res.ret ((str [])), [Ob.box [AV.e (E.sl 9 p0_0), num p0_1, num 11]]) else some (Res.ret
  ((str [])), [Ob.box [AV.e (E.sl 9 p0_0), num p0_1, num p0_2]]) := by kernel_rfl
theorem eq_xKind (run : RunF) (loop : LoopF) (p0_0 : List E) (p0_1 p0_2 : Int) : bodyRun PP HH run loop none 101 [.ptr 0 0] [.box [.e (.sl 9 p0_0), num p0_1, num p0_2]] = bif
  (!p0_2 == 0) == false then bif decide ((↑p0_0.length : Int) ≤ p0_1) then (loop 101 1 lc_101_3 ([AV.ptr 0 0, uu, uu, str [], num 1] ++ List.replicate 13 uu) [Ob.box [AV.e
  (E.sl 9 p0_0), num p0_1, num p0_2]]).bind fun o => bif o.ex.isWay (Way.exit 0) then bif okFr ([AV.ptr 0 0] ++ List.replicate 17 uu) o.2 && okHeap [Ob.box [AV.e (E.sl 9 []),
  num 0, num 0]] o.3 then bif ((o.hp.ob 0).cell 2).data.toInt == 0 then some (Res.ret ((num 0)), [Ob.box [AV.e (E.sl 9 ((o.hp.ob 0).cell 0).data.toList), (num ((o.hp.ob
  0).cell 1).data.toInt), num 10]]) else some (Res.ret ((num 0)), [Ob.box [AV.e (E.sl 9 ((o.hp.ob 0).cell 0).data.toList), (num ((o.hp.ob 0).cell 1).data.toInt), (num
  ((o.hp.ob 0).cell 2).data.toInt)]]) else none else bif o.ex.isWay Way.ret then bif okFr ([uu, uu, num 0] ++ List.replicate 15 uu) o.2 && okHeap [Ob.box [AV.e (E.sl 9 []),
  num 0, num 0]] o.3 then some (Res.ret ((num (List.getD o.fr 2 uu).data.toInt)), [Ob.box [AV.e (E.sl 9 ((o.hp.ob 0).cell 0).data.toList), (num ((o.hp.ob 0).cell
  1).data.toInt), (num ((o.hp.ob 0).cell 2).data.toInt)]]) else none else none else bif decide (0 ≤ IntKind.i64.wrap (IntKind.i64.wrap (p0_1 + 1) - 1)) && decide
  (IntKind.i64.wrap (IntKind.i64.wrap (p0_1 + 1) - 1) < (↑p0_0.length : Int)) then (loop 101 1 lc_101_3 ([AV.ptr 0 0, uu, uu, (str ((p0_0.getD (IntKind.i64.wrap
  (IntKind.i64.wrap (p0_1 + 1) - 1)).toNat E.nili).cell 0).toStr), num 1] ++ List.replicate 13 uu) [Ob.box [AV.e (E.sl 9 p0_0), (num (IntKind.i64.wrap (p0_1 + 1))), num
  p0_2]]).bind fun o => bif o.ex.isWay (Way.exit 0) then bif okFr ([AV.ptr 0 0] ++ List.replicate 17 uu) o.2 && okHeap [Ob.box [AV.e (E.sl 9 []), num 0, num 0]] o.3 then bif
  ((o.hp.ob 0).cell 2).data.toInt == 0 then some (Res.ret ((num 0)), [Ob.box [AV.e (E.sl 9 ((o.hp.ob 0).cell 0).data.toList), (num ((o.hp.ob 0).cell 1).data.toInt), num 10]])
  else some (Res.ret ((num 0)), [Ob.box [AV.e (E.sl 9 ((o.hp.ob 0).cell 0).data.toList), (num ((o.hp.ob 0).cell 1).data.toInt), (num ((o.hp.ob 0).cell 2).data.toInt)]]) else
  none else bif o.ex.isWay Way.ret then bif okFr ([uu, uu, num 0] ++ List.replicate 15 uu) o.2 && okHeap [Ob.box [AV.e (E.sl 9 []), num 0, num 0]] o.3 then some (Res.ret ((num
  (List.getD o.fr 2 uu).data.toInt)), [Ob.box [AV.e (E.sl 9 ((o.hp.ob 0).cell 0).data.toList), (num ((o.hp.ob 0).cell 1).data.toInt), (num ((o.hp.ob 0).cell 2).data.toInt)]])
  else none else none else none else (loop 101 1 lc_101_3 ([AV.ptr 0 0, uu, uu, str [], num 1] ++ List.replicate 13 uu) [Ob.box [AV.e (E.sl 9 p0_0), num p0_1, num p0_2]]).bind
  fun o => bif o.ex.isWay (Way.exit 0) then bif okFr ([AV.ptr 0 0] ++ List.replicate 17 uu) o.2 && okHeap [Ob.box [AV.e (E.sl 9 []), num 0, num 0]] o.3 then bif ((o.hp.ob
  0).cell 2).data.toInt == 0 then some (Res.ret ((num 0)), [Ob.box [AV.e (E.sl 9 ((o.hp.ob 0).cell 0).data.toList), (num ((o.hp.ob 0).cell 1).data.toInt), num 10]]) else some
  (Res.ret ((num 0)), [Ob.box [AV.e (E.sl 9 ((o.hp.ob 0).cell 0).data.toList), (num ((o.hp.ob 0).cell 1).data.toInt), (num ((o.hp.ob 0).cell 2).data.toInt)]]) else none else
  bif o.ex.isWay Way.ret then bif okFr ([uu, uu, num 0] ++ List.replicate 15 uu) o.2 && okHeap [Ob.box [AV.e (E.sl 9 []), num 0, num 0]] o.3 then some (Res.ret ((num
  (List.getD o.fr 2 uu).data.toInt)), [Ob.box [AV.e (E.sl 9 ((o.hp.ob 0).cell 0).data.toList), (num ((o.hp.ob 0).cell 1).data.toInt), (num ((o.hp.ob 0).cell 2).data.toInt)]])
  else none else none := by kernel_rfl
theorem eq_xKindL3 (run : RunF) (loop : LoopF) (p0_0 : List E) (p0_1 p0_2 : Int) (t3 : List UInt8) (t4 : Int) : bodyLoop PP HH run loop 101 1 lc_101_3 ((((List.replicate 18
  uu).set 0 (.ptr 0 0)).set 3 (str t3)).set 4 (num t4)) [.box [.e (.sl 9 p0_0), num p0_1, num p0_2]] = bif decide (t4 ≤ 4) then (run none 49 [num t4] []).bind fun rh => bif
  okHeap [] rh.2 then bif okRes PP 9 rh.fst then bif strEq rh.fst.val.data.toStr t3 then some (Out.mk (Ex.ret) (([uu, uu, num t4] ++ List.replicate 15 uu)) ([Ob.box [AV.e
  (E.sl 9 p0_0), num p0_1, num p0_2]]) ([])) else (loop 101 1 lc_101_3 ([AV.ptr 0 0, uu, uu, str t3, (num (IntKind.i64.wrap (t4 + 1)))] ++ List.replicate 13 uu) [Ob.box [AV.e
  (E.sl 9 p0_0), num p0_1, num p0_2]]).bind fun o => some o else none else none else some (Out.mk (Ex.exit 0) (([AV.ptr 0 0] ++ List.replicate 17 uu)) ([Ob.box [AV.e (E.sl 9
  p0_0), num p0_1, num p0_2]]) ([])) := by kernel_rfl
theorem eq_xProps (run : RunF) (loop : LoopF) (p0_0 : List E) (p0_1 p0_2 : Int) : bodyRun PP HH run loop none 105 [.ptr 0 0] [.box [.e (.sl 9 p0_0), num p0_1, num p0_2]] =
  (loop 105 1 lc_105_2 ([AV.ptr 0 0, uu, uu, AV.own 1 97 []] ++ List.replicate 61 uu) [Ob.box [AV.e (E.sl 9 p0_0), num p0_1, num p0_2], Ob.vec 97 0]).bind fun o => bif
  o.ex.isWay (Way.exit 0) then bif okFr ([uu, uu, uu, AV.own 1 97 []] ++ List.replicate 61 uu) o.2 && okHeap [Ob.box [AV.e (E.sl 9 []), num 0, num 0], Ob.vec 97 0] o.3 then
  some (Res.ret (AV.e (E.sl 97 (List.getD o.fr 3 uu).data.toList)), [Ob.box [AV.e (E.sl 9 ((o.hp.ob 0).cell 0).data.toList), (num ((o.hp.ob 0).cell 1).data.toInt), (num
  ((o.hp.ob 0).cell 2).data.toInt)]]) else none else bif o.ex.isWay Way.ret then bif okFr ([uu, uu, AV.own 1 97 []] ++ List.replicate 62 uu) o.2 && okHeap [Ob.box [AV.e (E.sl
  9 []), num 0, num 0], Ob.vec 97 0] o.3 then some (Res.ret (AV.e (E.sl 97 (List.getD o.fr 2 uu).data.toList)), [Ob.box [AV.e (E.sl 9 ((o.hp.ob 0).cell 0).data.toList), (num
  ((o.hp.ob 0).cell 1).data.toInt), (num ((o.hp.ob 0).cell 2).data.toInt)]]) else none else none := by kernel_rfl
theorem eq_xPropsL2 (run : RunF) (loop : LoopF) (p0_0 : List E) (p0_1 p0_2 : Int) (t3 : List E) : bodyLoop PP HH run loop 105 1 lc_105_2 (((List.replicate 65 uu).set 0 (.ptr 0
  0)).set 3 (.own 1 97 t3)) [.box [.e (.sl 9 p0_0), num p0_1, num p0_2], .vec 97 t3.length] = bif (p0_2 == 0) == true then bif decide (p0_1 < (↑p0_0.length : Int)) then bif
  (!p0_2 == 0) == false then bif decide ((↑p0_0.length : Int) ≤ p0_1) then (loop 105 1 lc_105_5 ([AV.ptr 0 0, uu, uu, AV.own 1 97 t3, str [], num 0] ++ List.replicate 59 uu)
  [Ob.box [AV.e (E.sl 9 p0_0), num p0_1, num p0_2], Ob.vec 97 t3.length]).bind fun o => bif o.ex.isWay (Way.exit 2) then bif okFr ([AV.ptr 0 0, uu, uu, AV.own 1 97 [], str [],
  num 0] ++ List.replicate 59 uu) o.2 && okHeap [Ob.box [AV.e (E.sl 9 []), num 0, num 0], Ob.vec 97 0] o.3 then bif (List.getD o.fr 5 uu).data.toInt == (↑(List.getD o.fr 4
  uu).data.toStr.length : Int) then bif ((o.hp.ob 0).cell 2).data.toInt == 0 then some (Out.mk (Ex.ret) (([uu, uu, AV.own 1 97 []] ++ List.replicate 62 uu)) ([Ob.box [AV.e
  (E.sl 9 ((o.hp.ob 0).cell 0).data.toList), (num ((o.hp.ob 0).cell 1).data.toInt), num 2], Ob.vec 97 0]) ([])) else some (Out.mk (Ex.ret) (([uu, uu, AV.own 1 97 []] ++
  List.replicate 62 uu)) ([Ob.box [AV.e (E.sl 9 ((o.hp.ob 0).cell 0).data.toList), (num ((o.hp.ob 0).cell 1).data.toInt), (num ((o.hp.ob 0).cell 2).data.toInt)], Ob.vec 97 0])
  ([])) else bif decide (0 ≤ IntKind.i64.wrap ((List.getD o.fr 5 uu).data.toInt + 1)) && decide (IntKind.i64.wrap ((List.getD o.fr 5 uu).data.toInt + 1) ≤ (↑(List.getD o.fr 4
  uu).data.toStr.length : Int)) && decide ((↑(List.getD o.fr 4 uu).data.toStr.length : Int) ≤ (↑(List.getD o.fr 4 uu).data.toStr.length : Int)) then (run none 13 [(str
  (List.drop (IntKind.i64.wrap ((List.getD o.fr 5 uu).data.toInt + 1)).toNat (List.take (↑(List.getD o.fr 4 uu).data.toStr.length : Int).toNat (List.getD o.fr 4
  uu).data.toStr)))] []).bind fun rh => bif okHeap [] rh.2 then bif okRes PP 24 rh.fst then bif ((o.hp.ob 0).cell 2).data.toInt == 0 then bif decide (0 ≤ (List.getD o.fr 5
  uu).data.toInt) && decide ((List.getD o.fr 5 uu).data.toInt ≤ (↑(List.getD o.fr 4 uu).data.toStr.length : Int)) then bif decide ((o.hp.ob 1).len = (List.getD o.fr 3
  uu).data.toList.length) && decide (((List.getD o.fr 3 uu).data.toList.length + (97, elems PP 97 2 1 [E.str (rh.fst.val.comp 0).data.toStr, E.str (List.drop 0 (List.take
  (List.getD o.fr 5 uu).data.toInt.toNat (List.getD o.fr 4 uu).data.toStr))].reverse).snd.length) * 32 ≤ 140737488355328) then (loop 105 1 lc_105_2 ([AV.ptr 0 0, uu, uu,
  AV.own 1 97 ((List.getD o.fr 3 uu).data.toList ++ (97, elems PP 97 2 1 [E.str (rh.fst.val.comp 0).data.toStr, E.str (List.drop 0 (List.take (List.getD o.fr 5
  uu).data.toInt.toNat (List.getD o.fr 4 uu).data.toStr))].reverse).snd)] ++ List.replicate 61 uu) [Ob.box [AV.e (E.sl 9 ((o.hp.ob 0).cell 0).data.toList), (num ((o.hp.ob
  0).cell 1).data.toInt), (num (rh.fst.val.comp 1).data.toInt)], Ob.vec 97 ((List.getD o.fr 3 uu).data.toList ++ (97, elems PP 97 2 1 [E.str (rh.fst.val.comp 0).data.toStr,
  E.str (List.drop 0 (List.take (List.getD o.fr 5 uu).data.toInt.toNat (List.getD o.fr 4 uu).data.toStr))].reverse).snd).length]).bind fun o => some o else none else none else
  bif decide (0 ≤ (List.getD o.fr 5 uu).data.toInt) && decide ((List.getD o.fr 5 uu).data.toInt ≤ (↑(List.getD o.fr 4 uu).data.toStr.length : Int)) then bif decide ((o.hp.ob
  1).len = (List.getD o.fr 3 uu).data.toList.length) && decide (((List.getD o.fr 3 uu).data.toList.length + (97, elems PP 97 2 1 [E.str (rh.fst.val.comp 0).data.toStr, E.str
  (List.drop 0 (List.take (List.getD o.fr 5 uu).data.toInt.toNat (List.getD o.fr 4 uu).data.toStr))].reverse).snd.length) * 32 ≤ 140737488355328) then (loop 105 1 lc_105_2
  ([AV.ptr 0 0, uu, uu, AV.own 1 97 ((List.getD o.fr 3 uu).data.toList ++ (97, elems PP 97 2 1 [E.str (rh.fst.val.comp 0).data.toStr, E.str (List.drop 0 (List.take (List.getD
  o.fr 5 uu).data.toInt.toNat (List.getD o.fr 4 uu).data.toStr))].reverse).snd)] ++ List.replicate 61 uu) [Ob.box [AV.e (E.sl 9 ((o.hp.ob 0).cell 0).data.toList), (num
  ((o.hp.ob 0).cell 1).data.toInt), (num ((o.hp.ob 0).cell 2).data.toInt)], Ob.vec 97 ((List.getD o.fr 3 uu).data.toList ++ (97, elems PP 97 2 1 [E.str (rh.fst.val.comp
  0).data.toStr, E.str (List.drop 0 (List.take (List.getD o.fr 5 uu).data.toInt.toNat (List.getD o.fr 4 uu).data.toStr))].reverse).snd).length]).bind fun o => some o else none
  else none else none else none else none else none else none else bif decide (0 ≤ IntKind.i64.wrap (IntKind.i64.wrap (p0_1 + 1) - 1)) && decide (IntKind.i64.wrap
  (IntKind.i64.wrap (p0_1 + 1) - 1) < (↑p0_0.length : Int)) then (loop 105 1 lc_105_5 ([AV.ptr 0 0, uu, uu, AV.own 1 97 t3, (str ((p0_0.getD (IntKind.i64.wrap
  (IntKind.i64.wrap (p0_1 + 1) - 1)).toNat E.nili).cell 0).toStr), num 0] ++ List.replicate 59 uu) [Ob.box [AV.e (E.sl 9 p0_0), (num (IntKind.i64.wrap (p0_1 + 1))), num p0_2],
  Ob.vec 97 t3.length]).bind fun o => bif o.ex.isWay (Way.exit 2) then bif okFr ([AV.ptr 0 0, uu, uu, AV.own 1 97 [], str [], num 0] ++ List.replicate 59 uu) o.2 && okHeap
  [Ob.box [AV.e (E.sl 9 []), num 0, num 0], Ob.vec 97 0] o.3 then bif (List.getD o.fr 5 uu).data.toInt == (↑(List.getD o.fr 4 uu).data.toStr.length : Int) then bif ((o.hp.ob
  0).cell 2).data.toInt == 0 then some (Out.mk (Ex.ret) (([uu, uu, AV.own 1 97 []] ++ List.replicate 62 uu)) ([Ob.box [AV.e (E.sl 9 ((o.hp.ob 0).cell 0).data.toList), (num
  ((o.hp.ob 0).cell 1).data.toInt), num 2], Ob.vec 97 0]) ([])) else some (Out.mk (Ex.ret) (([uu, uu, AV.own 1 97 []] ++ List.replicate 62 uu)) ([Ob.box [AV.e (E.sl 9
  ((o.hp.ob 0).cell 0).data.toList), (num ((o.hp.ob 0).cell 1).data.toInt), (num ((o.hp.ob 0).cell 2).data.toInt)], Ob.vec 97 0]) ([])) else bif decide (0 ≤ IntKind.i64.wrap
  ((List.getD o.fr 5 uu).data.toInt + 1)) && decide (IntKind.i64.wrap ((List.getD o.fr 5 uu).data.toInt + 1) ≤ (↑(List.getD o.fr 4 uu).data.toStr.length : Int)) && decide
  ((↑(List.getD o.fr 4 uu).data.toStr.length : Int) ≤ (↑(List.getD o.fr 4 uu).data.toStr.length : Int)) then (run none 13 [(str (List.drop (IntKind.i64.wrap ((List.getD o.fr 5
  uu).data.toInt + 1)).toNat (List.take (↑(List.getD o.fr 4 uu).data.toStr.length : Int).toNat (List.getD o.fr 4 uu).data.toStr)))] []).bind fun rh => bif okHeap [] rh.2 then
  bif okRes PP 24 rh.fst then bif ((o.hp.ob 0).cell 2).data.toInt == 0 then bif decide (0 ≤ (List.getD o.fr 5 uu).data.toInt) && decide ((List.getD o.fr 5 uu).data.toInt ≤
  (↑(List.getD o.fr 4 uu).data.toStr.length : Int)) then bif decide ((o.hp.ob 1).len = (List.getD o.fr 3 uu).data.toList.length) && decide (((List.getD o.fr 3
  uu).data.toList.length + (97, elems PP 97 2 1 [E.str (rh.fst.val.comp 0).data.toStr, E.str (List.drop 0 (List.take (List.getD o.fr 5 uu).data.toInt.toNat (List.getD o.fr 4
  uu).data.toStr))].reverse).snd.length) * 32 ≤ 140737488355328) then (loop 105 1 lc_105_2 ([AV.ptr 0 0, uu, uu, AV.own 1 97 ((List.getD o.fr 3 uu).data.toList ++ (97, elems
  PP 97 2 1 [E.str (rh.fst.val.comp 0).data.toStr, E.str (List.drop 0 (List.take (List.getD o.fr 5 uu).data.toInt.toNat (List.getD o.fr 4 uu).data.toStr))].reverse).snd)] ++
  List.replicate 61 uu) [Ob.box [AV.e (E.sl 9 ((o.hp.ob 0).cell 0).data.toList), (num ((o.hp.ob 0).cell 1).data.toInt), (num (rh.fst.val.comp 1).data.toInt)], Ob.vec 97
  ((List.getD o.fr 3 uu).data.toList ++ (97, elems PP 97 2 1 [E.str (rh.fst.val.comp 0).data.toStr, E.str (List.drop 0 (List.take (List.getD o.fr 5 uu).data.toInt.toNat
  (List.getD o.fr 4 uu).data.toStr))].reverse).snd).length]).bind fun o => some o else none else none else bif decide (0 ≤ (List.getD o.fr 5 uu).data.toInt) && decide
  ((List.getD o.fr 5 uu).data.toInt ≤ (↑(List.getD o.fr 4 uu).data.toStr.length : Int)) then bif decide ((o.hp.ob 1).len = (List.getD o.fr 3 uu).data.toList.length) && decide
  (((List.getD o.fr 3 uu).data.toList.length + (97, elems PP 97 2 1 [E.str (rh.fst.val.comp 0).data.toStr, E.str (List.drop 0 (List.take (List.getD o.fr 5 uu).data.toInt.toNat
  (List.getD o.fr 4 uu).data.toStr))].reverse).snd.length) * 32 ≤ 140737488355328) then (loop 105 1 lc_105_2 ([AV.ptr 0 0, uu, uu, AV.own 1 97 ((List.getD o.fr 3
  uu).data.toList ++ (97, elems PP 97 2 1 [E.str (rh.fst.val.comp 0).data.toStr, E.str (List.drop 0 (List.take (List.getD o.fr 5 uu).data.toInt.toNat (List.getD o.fr 4
  uu).data.toStr))].reverse).snd)] ++ List.replicate 61 uu) [Ob.box [AV.e (E.sl 9 ((o.hp.ob 0).cell 0).data.toList), (num ((o.hp.ob 0).cell 1).data.toInt), (num ((o.hp.ob
  0).cell 2).data.toInt)], Ob.vec 97 ((List.getD o.fr 3 uu).data.toList ++ (97, elems PP 97 2 1 [E.str (rh.fst.val.comp 0).data.toStr, E.str (List.drop 0 (List.take (List.getD
  o.fr 5 uu).data.toInt.toNat (List.getD o.fr 4 uu).data.toStr))].reverse).snd).length]).bind fun o => some o else none else none else none else none else none else none else
  none else none else (loop 105 1 lc_105_5 ([AV.ptr 0 0, uu, uu, AV.own 1 97 t3, str [], num 0] ++ List.replicate 59 uu) [Ob.box [AV.e (E.sl 9 p0_0), num p0_1, num p0_2],
  Ob.vec 97 t3.length]).bind fun o => bif o.ex.isWay (Way.exit 2) then bif okFr ([AV.ptr 0 0, uu, uu, AV.own 1 97 [], str [], num 0] ++ List.replicate 59 uu) o.2 && okHeap
  [Ob.box [AV.e (E.sl 9 []), num 0, num 0], Ob.vec 97 0] o.3 then bif (List.getD o.fr 5 uu).data.toInt == (↑(List.getD o.fr 4 uu).data.toStr.length : Int) then bif ((o.hp.ob
  0).cell 2).data.toInt == 0 then some (Out.mk (Ex.ret) (([uu, uu, AV.own 1 97 []] ++ List.replicate 62 uu)) ([Ob.box [AV.e (E.sl 9 ((o.hp.ob 0).cell 0).data.toList), (num
  ((o.hp.ob 0).cell 1).data.toInt), num 2], Ob.vec 97 0]) ([])) else some (Out.mk (Ex.ret) (([uu, uu, AV.own 1 97 []] ++ List.replicate 62 uu)) ([Ob.box [AV.e (E.sl 9
  ((o.hp.ob 0).cell 0).data.toList), (num ((o.hp.ob 0).cell 1).data.toInt), (num ((o.hp.ob 0).cell 2).data.toInt)], Ob.vec 97 0]) ([])) else bif decide (0 ≤ IntKind.i64.wrap
  ((List.getD o.fr 5 uu).data.toInt + 1)) && decide (IntKind.i64.wrap ((List.getD o.fr 5 uu).data.toInt + 1) ≤ (↑(List.getD o.fr 4 uu).data.toStr.length : Int)) && decide
  ((↑(List.getD o.fr 4 uu).data.toStr.length : Int) ≤ (↑(List.getD o.fr 4 uu).data.toStr.length : Int)) then (run none 13 [(str (List.drop (IntKind.i64.wrap ((List.getD o.fr 5
  uu).data.toInt + 1)).toNat (List.take (↑(List.getD o.fr 4 uu).data.toStr.length : Int).toNat (List.getD o.fr 4 uu).data.toStr)))] []).bind fun rh => bif okHeap [] rh.2 then
  bif okRes PP 24 rh.fst then bif ((o.hp.ob 0).cell 2).data.toInt == 0 then bif decide (0 ≤ (List.getD o.fr 5 uu).data.toInt) && decide ((List.getD o.fr 5 uu).data.toInt ≤
  (↑(List.getD o.fr 4 uu).data.toStr.length : Int)) then bif decide ((o.hp.ob 1).len = (List.getD o.fr 3 uu).data.toList.length) && decide (((List.getD o.fr 3
  uu).data.toList.length + (97, elems PP 97 2 1 [E.str (rh.fst.val.comp 0).data.toStr, E.str (List.drop 0 (List.take (List.getD o.fr 5 uu).data.toInt.toNat (List.getD o.fr 4
  uu).data.toStr))].reverse).snd.length) * 32 ≤ 140737488355328) then (loop 105 1 lc_105_2 ([AV.ptr 0 0, uu, uu, AV.own 1 97 ((List.getD o.fr 3 uu).data.toList ++ (97, elems
  PP 97 2 1 [E.str (rh.fst.val.comp 0).data.toStr, E.str (List.drop 0 (List.take (List.getD o.fr 5 uu).data.toInt.toNat (List.getD o.fr 4 uu).data.toStr))].reverse).snd)] ++
  List.replicate 61 uu) [Ob.box [AV.e (E.sl 9 ((o.hp.ob 0).cell 0).data.toList), (num ((o.hp.ob 0).cell 1).data.toInt), (num (rh.fst.val.comp 1).data.toInt)], Ob.vec 97
  ((List.getD o.fr 3 uu).data.toList ++ (97, elems PP 97 2 1 [E.str (rh.fst.val.comp 0).data.toStr, E.str (List.drop 0 (List.take (List.getD o.fr 5 uu).data.toInt.toNat
  (List.getD o.fr 4 uu).data.toStr))].reverse).snd).length]).bind fun o => some o else none else none else bif decide (0 ≤ (List.getD o.fr 5 uu).data.toInt) && decide
  ((List.getD o.fr 5 uu).data.toInt ≤ (↑(List.getD o.fr 4 uu).data.toStr.length : Int)) then bif decide ((o.hp.ob 1).len = (List.getD o.fr 3 uu).data.toList.length) && decide
  (((List.getD o.fr 3 uu).data.toList.length + (97, elems PP 97 2 1 [E.str (rh.fst.val.comp 0).data.toStr, E.str (List.drop 0 (List.take (List.getD o.fr 5 uu).data.toInt.toNat
  (List.getD o.fr 4 uu).data.toStr))].reverse).snd.length) * 32 ≤ 140737488355328) then (loop 105 1 lc_105_2 ([AV.ptr 0 0, uu, uu, AV.own 1 97 ((List.getD o.fr 3
  uu).data.toList ++ (97, elems PP 97 2 1 [E.str (rh.fst.val.comp 0).data.toStr, E.str (List.drop 0 (List.take (List.getD o.fr 5 uu).data.toInt.toNat (List.getD o.fr 4
  uu).data.toStr))].reverse).snd)] ++ List.replicate 61 uu) [Ob.box [AV.e (E.sl 9 ((o.hp.ob 0).cell 0).data.toList), (num ((o.hp.ob 0).cell 1).data.toInt), (num ((o.hp.ob
  0).cell 2).data.toInt)], Ob.vec 97 ((List.getD o.fr 3 uu).data.toList ++ (97, elems PP 97 2 1 [E.str (rh.fst.val.comp 0).data.toStr, E.str (List.drop 0 (List.take (List.getD
  o.fr 5 uu).data.toInt.toNat (List.getD o.fr 4 uu).data.toStr))].reverse).snd).length]).bind fun o => some o else none else none else none else none else none else none else
  none else some (Out.mk (Ex.exit 0) (([uu, uu, uu, AV.own 1 97 t3] ++ List.replicate 61 uu)) ([Ob.box [AV.e (E.sl 9 p0_0), num p0_1, num p0_2], Ob.vec 97 t3.length]) ([]))
  else some (Out.mk (Ex.exit 0) (([uu, uu, uu, AV.own 1 97 t3] ++ List.replicate 61 uu)) ([Ob.box [AV.e (E.sl 9 p0_0), num p0_1, num p0_2], Ob.vec 97 t3.length]) ([])) := by
  kernel_rfl
theorem eq_xPropsL5 (run : RunF) (loop : LoopF) (p0_0 : List E) (p0_1 p0_2 : Int) (t3 : List E) (t4 : List UInt8) (t5 : Int) : bodyLoop PP HH run loop 105 1 lc_105_5
  (((((List.replicate 65 uu).set 0 (.ptr 0 0)).set 3 (.own 1 97 t3)).set 4 (str t4)).set 5 (num t5)) [.box [.e (.sl 9 p0_0), num p0_1, num p0_2], .vec 97 t3.length] = bif
  decide (t5 < (↑t4.length : Int)) == true then bif decide (0 ≤ t5) && decide (t5 < (↑t4.length : Int)) then bif !(↑(t4.getD t5.toNat 0).toNat : Int) == 61 then (loop 105 1
  lc_105_5 ([AV.ptr 0 0, uu, uu, AV.own 1 97 t3, str t4, (num (IntKind.i64.wrap (t5 + 1)))] ++ List.replicate 59 uu) [Ob.box [AV.e (E.sl 9 p0_0), num p0_1, num p0_2], Ob.vec
  97 t3.length]).bind fun o => some o else some (Out.mk (Ex.exit 2) (([AV.ptr 0 0, uu, uu, AV.own 1 97 t3, str t4, num t5] ++ List.replicate 59 uu)) ([Ob.box [AV.e (E.sl 9
  p0_0), num p0_1, num p0_2], Ob.vec 97 t3.length]) ([])) else none else some (Out.mk (Ex.exit 2) (([AV.ptr 0 0, uu, uu, AV.own 1 97 t3, str t4, num t5] ++ List.replicate 59
  uu)) ([Ob.box [AV.e (E.sl 9 p0_0), num p0_1, num p0_2], Ob.vec 97 t3.length]) ([])) := by kernel_rfl
theorem eq_xMsg (run : RunF) (loop : LoopF) (p0_0 : List E) (p0_1 p0_2 : Int) : bodyRun PP HH run loop none 106 [.ptr 0 0] [.box [.e (.sl 9 p0_0), num p0_1, num p0_2]] = (run
  none 103 [AV.ptr 0 0] [Ob.box [AV.e (E.sl 9 p0_0), num p0_1, num p0_2]]).bind fun rh => bif okHeap [Ob.box [AV.e (E.sl 9 p0_0), num p0_1, num p0_2]] rh.2 then bif okRes PP 9
  rh.fst then (run none 103 [AV.ptr 0 0] [Ob.box [AV.e (E.sl 9 ((rh.snd.ob 0).cell 0).data.toList), (num ((rh.snd.ob 0).cell 1).data.toInt), (num ((rh.snd.ob 0).cell
  2).data.toInt)]]).bind fun rh_1 => bif okHeap [Ob.box [AV.e (E.sl 9 ((rh.snd.ob 0).cell 0).data.toList), (num ((rh.snd.ob 0).cell 1).data.toInt), (num ((rh.snd.ob 0).cell
  2).data.toInt)]] rh_1.2 then bif okRes PP 9 rh_1.fst then (run none 65 [AV.ptr 0 0] [Ob.box [AV.e (E.sl 9 ((rh_1.snd.ob 0).cell 0).data.toList), (num ((rh_1.snd.ob 0).cell
  1).data.toInt), (num ((rh_1.snd.ob 0).cell 2).data.toInt)]]).bind fun rh_2 => bif okHeap [Ob.box [AV.e (E.sl 9 ((rh_1.snd.ob 0).cell 0).data.toList), (num ((rh_1.snd.ob
  0).cell 1).data.toInt), (num ((rh_1.snd.ob 0).cell 2).data.toInt)]] rh_2.2 then bif okRes PP 3 rh_2.fst then (run none 104 [AV.ptr 0 0] [Ob.box [AV.e (E.sl 9 ((rh_2.snd.ob
  0).cell 0).data.toList), (num ((rh_2.snd.ob 0).cell 1).data.toInt), (num ((rh_2.snd.ob 0).cell 2).data.toInt)]]).bind fun rh_3 => bif okHeap [Ob.box [AV.e (E.sl 9
  ((rh_2.snd.ob 0).cell 0).data.toList), (num ((rh_2.snd.ob 0).cell 1).data.toInt), (num ((rh_2.snd.ob 0).cell 2).data.toInt)]] rh_3.2 then bif okRes PP 4 rh_3.fst then (run
  none 65 [AV.ptr 0 0] [Ob.box [AV.e (E.sl 9 ((rh_3.snd.ob 0).cell 0).data.toList), (num ((rh_3.snd.ob 0).cell 1).data.toInt), (num ((rh_3.snd.ob 0).cell
  2).data.toInt)]]).bind fun rh_4 => bif okHeap [Ob.box [AV.e (E.sl 9 ((rh_3.snd.ob 0).cell 0).data.toList), (num ((rh_3.snd.ob 0).cell 1).data.toInt), (num ((rh_3.snd.ob
  0).cell 2).data.toInt)]] rh_4.2 then bif okRes PP 3 rh_4.fst then (run none 65 [AV.ptr 0 0] [Ob.box [AV.e (E.sl 9 ((rh_4.snd.ob 0).cell 0).data.toList), (num ((rh_4.snd.ob
  0).cell 1).data.toInt), (num ((rh_4.snd.ob 0).cell 2).data.toInt)]]).bind fun rh_5 => bif okHeap [Ob.box [AV.e (E.sl 9 ((rh_4.snd.ob 0).cell 0).data.toList), (num
  ((rh_4.snd.ob 0).cell 1).data.toInt), (num ((rh_4.snd.ob 0).cell 2).data.toInt)]] rh_5.2 then bif okRes PP 3 rh_5.fst then (run none 102 [AV.ptr 0 0] [Ob.box [AV.e (E.sl 9
  ((rh_5.snd.ob 0).cell 0).data.toList), (num ((rh_5.snd.ob 0).cell 1).data.toInt), (num ((rh_5.snd.ob 0).cell 2).data.toInt)]]).bind fun rh_6 => bif okHeap [Ob.box [AV.e
  (E.sl 9 ((rh_5.snd.ob 0).cell 0).data.toList), (num ((rh_5.snd.ob 0).cell 1).data.toInt), (num ((rh_5.snd.ob 0).cell 2).data.toInt)]] rh_6.2 then bif okRes PP 9 rh_6.fst
  then (run none 65 [AV.ptr 0 0] [Ob.box [AV.e (E.sl 9 ((rh_6.snd.ob 0).cell 0).data.toList), (num ((rh_6.snd.ob 0).cell 1).data.toInt), (num ((rh_6.snd.ob 0).cell
  2).data.toInt)]]).bind fun rh_7 => bif okHeap [Ob.box [AV.e (E.sl 9 ((rh_6.snd.ob 0).cell 0).data.toList), (num ((rh_6.snd.ob 0).cell 1).data.toInt), (num ((rh_6.snd.ob
  0).cell 2).data.toInt)]] rh_7.2 then bif okRes PP 3 rh_7.fst then (run none 105 [AV.ptr 0 0] [Ob.box [AV.e (E.sl 9 ((rh_7.snd.ob 0).cell 0).data.toList), (num ((rh_7.snd.ob
  0).cell 1).data.toInt), (num ((rh_7.snd.ob 0).cell 2).data.toInt)]]).bind fun rh_8 => bif okHeap [Ob.box [AV.e (E.sl 9 ((rh_7.snd.ob 0).cell 0).data.toList), (num
  ((rh_7.snd.ob 0).cell 1).data.toInt), (num ((rh_7.snd.ob 0).cell 2).data.toInt)]] rh_8.2 then bif okRes PP 33 rh_8.fst then some (Res.ret (AV.agg [str rh.fst.val.data.toStr,
  str rh_1.fst.val.data.toStr, num rh_2.fst.val.data.toInt, yes rh_3.fst.val.data.toBool, num rh_4.fst.val.data.toInt, num rh_5.fst.val.data.toInt, str
  rh_6.fst.val.data.toStr, num rh_7.fst.val.data.toInt, AV.e (E.sl 97 rh_8.fst.val.data.toList)]), [Ob.box [AV.e (E.sl 9 ((rh_8.snd.ob 0).cell 0).data.toList), (num
  ((rh_8.snd.ob 0).cell 1).data.toInt), (num ((rh_8.snd.ob 0).cell 2).data.toInt)]]) else none else none else none else none else none else none else none else none else none
  else none else none else none else none else none else none else none else none else none := by kernel_rfl
theorem eq_Rfields (run : RunF) (loop : LoopF) (a0 : Int) : bodyRun PP HH run loop none 63 [num a0] [] = bif decide (0 ≤ a0) && decide (a0 < (↑16 : Int)) then some (Res.ret
  ((num (([E.int IntKind.i64 0, E.int IntKind.i64 6, E.int IntKind.i64 8, E.int IntKind.i64 7, E.int IntKind.i64 7, E.int IntKind.i64 13, E.int IntKind.i64 6, E.int
  IntKind.i64 4, E.int IntKind.i64 5, E.int IntKind.i64 5, E.int IntKind.i64 3, E.int IntKind.i64 3, E.int IntKind.i64 3, E.int IntKind.i64 4, E.int IntKind.i64 4, E.int
  IntKind.i64 4].getD a0.toNat E.nili).cell 0).toInt)), []) else none := by kernel_rfl
theorem eq_Ropen (run : RunF) (loop : LoopF) (a0 : Int) : bodyRun PP HH run loop none 64 [num a0] [] = some (Res.ret ((yes (bif bif a0 == 3 then true else a0 == 4 then true
  else a0 == 5))), []) := by kernel_rfl
theorem eq_rbodyK1 (run : RunF) (loop : LoopF) (p0_0 : List E) (p0_1 p0_2 a1_1 a1_2 a1_3 a1_4 : Int) (a1_5 : Bool) (a1_6 a1_7 a1_8 : List UInt8) (a1_9 : Int) (a1_10 a1_11 :
  List UInt8) (a1_12 a1_13 a1_14 : Int) (a1_15 a1_16 a1_17 a1_18 : List UInt8) (a1_19 : Bool) (a1_20 : List E) (a1_21 a1_22 : List UInt8) (a1_23 : Int) (a1_24 : Bool) (a1_25
  a1_26 : Int) (a1_27 : List UInt8) (a1_28 : Int) (a1_29 : List E) : bodyRun PP HH run loop none 66 [.ptr 0 0, .agg [num 1, num a1_1, num a1_2, num a1_3, num a1_4, yes a1_5,
  str a1_6, str a1_7, str a1_8, num a1_9, str a1_10, str a1_11, num a1_12, num a1_13, num a1_14, str a1_15, str a1_16, str a1_17, str a1_18, yes a1_19, .e (.sl 97 a1_20), str
  a1_21, str a1_22, num a1_23, yes a1_24, num a1_25, num a1_26, str a1_27, num a1_28, .e (.sl 97 a1_29)]] [.box [.e (.sl 9 p0_0), num p0_1, num p0_2]] = bif (!p0_2 == 0) ==
  false then bif decide ((↑p0_0.length : Int) ≤ p0_1) then (run none 101 [AV.ptr 0 0] [Ob.box [AV.e (E.sl 9 p0_0), num p0_1, num p0_2]]).bind fun rh => bif okHeap [Ob.box
  [AV.e (E.sl 9 p0_0), num p0_1, num p0_2]] rh.2 then bif okRes PP 3 rh.fst then (run none 102 [AV.ptr 0 0] [Ob.box [AV.e (E.sl 9 ((rh.snd.ob 0).cell 0).data.toList), (num
  ((rh.snd.ob 0).cell 1).data.toInt), (num ((rh.snd.ob 0).cell 2).data.toInt)]]).bind fun rh_1 => bif okHeap [Ob.box [AV.e (E.sl 9 ((rh.snd.ob 0).cell 0).data.toList), (num
  ((rh.snd.ob 0).cell 1).data.toInt), (num ((rh.snd.ob 0).cell 2).data.toInt)]] rh_1.2 then bif okRes PP 9 rh_1.fst then some (Res.ret (AV.agg [num 1, num a1_1, num a1_2, num
  a1_3, num a1_4, yes a1_5, str a1_6, str a1_7, str [], num rh.fst.val.data.toInt, str rh_1.fst.val.data.toStr, str a1_11, num a1_12, num a1_13, num a1_14, str a1_15, str
  a1_16, str a1_17, str a1_18, yes a1_19, AV.e (E.sl 97 a1_20), str a1_21, str a1_22, num a1_23, yes a1_24, num a1_25, num a1_26, str a1_27, num a1_28, AV.e (E.sl 97 a1_29)]),
  [Ob.box [AV.e (E.sl 9 ((rh_1.snd.ob 0).cell 0).data.toList), (num ((rh_1.snd.ob 0).cell 1).data.toInt), (num ((rh_1.snd.ob 0).cell 2).data.toInt)]]) else none else none else
  none else none else bif decide (0 ≤ IntKind.i64.wrap (IntKind.i64.wrap (p0_1 + 1) - 1)) && decide (IntKind.i64.wrap (IntKind.i64.wrap (p0_1 + 1) - 1) < (↑p0_0.length : Int))
  then (run none 101 [AV.ptr 0 0] [Ob.box [AV.e (E.sl 9 p0_0), (num (IntKind.i64.wrap (p0_1 + 1))), num p0_2]]).bind fun rh => bif okHeap [Ob.box [AV.e (E.sl 9 p0_0), (num
  (IntKind.i64.wrap (p0_1 + 1))), num p0_2]] rh.2 then bif okRes PP 3 rh.fst then (run none 102 [AV.ptr 0 0] [Ob.box [AV.e (E.sl 9 ((rh.snd.ob 0).cell 0).data.toList), (num
  ((rh.snd.ob 0).cell 1).data.toInt), (num ((rh.snd.ob 0).cell 2).data.toInt)]]).bind fun rh_1 => bif okHeap [Ob.box [AV.e (E.sl 9 ((rh.snd.ob 0).cell 0).data.toList), (num
  ((rh.snd.ob 0).cell 1).data.toInt), (num ((rh.snd.ob 0).cell 2).data.toInt)]] rh_1.2 then bif okRes PP 9 rh_1.fst then some (Res.ret (AV.agg [num 1, num a1_1, num a1_2, num
  a1_3, num a1_4, yes a1_5, str a1_6, str a1_7, (str ((p0_0.getD (IntKind.i64.wrap (IntKind.i64.wrap (p0_1 + 1) - 1)).toNat E.nili).cell 0).toStr), num rh.fst.val.data.toInt,
  str rh_1.fst.val.data.toStr, str a1_11, num a1_12, num a1_13, num a1_14, str a1_15, str a1_16, str a1_17, str a1_18, yes a1_19, AV.e (E.sl 97 a1_20), str a1_21, str a1_22,
  num a1_23, yes a1_24, num a1_25, num a1_26, str a1_27, num a1_28, AV.e (E.sl 97 a1_29)]), [Ob.box [AV.e (E.sl 9 ((rh_1.snd.ob 0).cell 0).data.toList), (num ((rh_1.snd.ob
  0).cell 1).data.toInt), (num ((rh_1.snd.ob 0).cell 2).data.toInt)]]) else none else none else none else none else none else (run none 101 [AV.ptr 0 0] [Ob.box [AV.e (E.sl 9
  p0_0), num p0_1, num p0_2]]).bind fun rh => bif okHeap [Ob.box [AV.e (E.sl 9 p0_0), num p0_1, num p0_2]] rh.2 then bif okRes PP 3 rh.fst then (run none 102 [AV.ptr 0 0]
  [Ob.box [AV.e (E.sl 9 ((rh.snd.ob 0).cell 0).data.toList), (num ((rh.snd.ob 0).cell 1).data.toInt), (num ((rh.snd.ob 0).cell 2).data.toInt)]]).bind fun rh_1 => bif okHeap
  [Ob.box [AV.e (E.sl 9 ((rh.snd.ob 0).cell 0).data.toList), (num ((rh.snd.ob 0).cell 1).data.toInt), (num ((rh.snd.ob 0).cell 2).data.toInt)]] rh_1.2 then bif okRes PP 9
  rh_1.fst then some (Res.ret (AV.agg [num 1, num a1_1, num a1_2, num a1_3, num a1_4, yes a1_5, str a1_6, str a1_7, str [], num rh.fst.val.data.toInt, str
  rh_1.fst.val.data.toStr, str a1_11, num a1_12, num a1_13, num a1_14, str a1_15, str a1_16, str a1_17, str a1_18, yes a1_19, AV.e (E.sl 97 a1_20), str a1_21, str a1_22, num
  a1_23, yes a1_24, num a1_25, num a1_26, str a1_27, num a1_28, AV.e (E.sl 97 a1_29)]), [Ob.box [AV.e (E.sl 9 ((rh_1.snd.ob 0).cell 0).data.toList), (num ((rh_1.snd.ob 0).cell
  1).data.toInt), (num ((rh_1.snd.ob 0).cell 2).data.toInt)]]) else none else none else none else none := by kernel_rfl
theorem eq_rbodyK2 (run : RunF) (loop : LoopF) (p0_0 : List E) (p0_1 p0_2 a1_1 a1_2 a1_3 a1_4 : Int) (a1_5 : Bool) (a1_6 a1_7 a1_8 : List UInt8) (a1_9 : Int) (a1_10 a1_11 :
  List UInt8) (a1_12 a1_13 a1_14 : Int) (a1_15 a1_16 a1_17 a1_18 : List UInt8) (a1_19 : Bool) (a1_20 : List E) (a1_21 a1_22 : List UInt8) (a1_23 : Int) (a1_24 : Bool) (a1_25
  a1_26 : Int) (a1_27 : List UInt8) (a1_28 : Int) (a1_29 : List E) : bodyRun PP HH run loop none 66 [.ptr 0 0, .agg [num 2, num a1_1, num a1_2, num a1_3, num a1_4, yes a1_5,
  str a1_6, str a1_7, str a1_8, num a1_9, str a1_10, str a1_11, num a1_12, num a1_13, num a1_14, str a1_15, str a1_16, str a1_17, str a1_18, yes a1_19, .e (.sl 97 a1_20), str
  a1_21, str a1_22, num a1_23, yes a1_24, num a1_25, num a1_26, str a1_27, num a1_28, .e (.sl 97 a1_29)]] [.box [.e (.sl 9 p0_0), num p0_1, num p0_2]] = bif (!p0_2 == 0) ==
  false then bif decide ((↑p0_0.length : Int) ≤ p0_1) then (run none 65 [AV.ptr 0 0] [Ob.box [AV.e (E.sl 9 p0_0), num p0_1, num p0_2]]).bind fun rh => bif okHeap [Ob.box [AV.e
  (E.sl 9 p0_0), num p0_1, num p0_2]] rh.2 then bif okRes PP 3 rh.fst then (run none 65 [AV.ptr 0 0] [Ob.box [AV.e (E.sl 9 ((rh.snd.ob 0).cell 0).data.toList), (num
  ((rh.snd.ob 0).cell 1).data.toInt), (num ((rh.snd.ob 0).cell 2).data.toInt)]]).bind fun rh_1 => bif okHeap [Ob.box [AV.e (E.sl 9 ((rh.snd.ob 0).cell 0).data.toList), (num
  ((rh.snd.ob 0).cell 1).data.toInt), (num ((rh.snd.ob 0).cell 2).data.toInt)]] rh_1.2 then bif okRes PP 3 rh_1.fst then (run none 65 [AV.ptr 0 0] [Ob.box [AV.e (E.sl 9
  ((rh_1.snd.ob 0).cell 0).data.toList), (num ((rh_1.snd.ob 0).cell 1).data.toInt), (num ((rh_1.snd.ob 0).cell 2).data.toInt)]]).bind fun rh_2 => bif okHeap [Ob.box [AV.e
  (E.sl 9 ((rh_1.snd.ob 0).cell 0).data.toList), (num ((rh_1.snd.ob 0).cell 1).data.toInt), (num ((rh_1.snd.ob 0).cell 2).data.toInt)]] rh_2.2 then bif okRes PP 3 rh_2.fst
  then (run none 102 [AV.ptr 0 0] [Ob.box [AV.e (E.sl 9 ((rh_2.snd.ob 0).cell 0).data.toList), (num ((rh_2.snd.ob 0).cell 1).data.toInt), (num ((rh_2.snd.ob 0).cell
  2).data.toInt)]]).bind fun rh_3 => bif okHeap [Ob.box [AV.e (E.sl 9 ((rh_2.snd.ob 0).cell 0).data.toList), (num ((rh_2.snd.ob 0).cell 1).data.toInt), (num ((rh_2.snd.ob
  0).cell 2).data.toInt)]] rh_3.2 then bif okRes PP 9 rh_3.fst then some (Res.ret (AV.agg [num 2, num a1_1, num a1_2, num a1_3, num a1_4, yes a1_5, str a1_6, str a1_7, str
  a1_8, num a1_9, str a1_10, str [], num rh.fst.val.data.toInt, num rh_1.fst.val.data.toInt, num rh_2.fst.val.data.toInt, str rh_3.fst.val.data.toStr, str a1_16, str a1_17,
  str a1_18, yes a1_19, AV.e (E.sl 97 a1_20), str a1_21, str a1_22, num a1_23, yes a1_24, num a1_25, num a1_26, str a1_27, num a1_28, AV.e (E.sl 97 a1_29)]), [Ob.box [AV.e
  (E.sl 9 ((rh_3.snd.ob 0).cell 0).data.toList), (num ((rh_3.snd.ob 0).cell 1).data.toInt), (num ((rh_3.snd.ob 0).cell 2).data.toInt)]]) else none else none else none else
  none else none else none else none else none else bif decide (0 ≤ IntKind.i64.wrap (IntKind.i64.wrap (p0_1 + 1) - 1)) && decide (IntKind.i64.wrap (IntKind.i64.wrap (p0_1 +
  1) - 1) < (↑p0_0.length : Int)) then (run none 65 [AV.ptr 0 0] [Ob.box [AV.e (E.sl 9 p0_0), (num (IntKind.i64.wrap (p0_1 + 1))), num p0_2]]).bind fun rh => bif okHeap
  [Ob.box [AV.e (E.sl 9 p0_0), (num (IntKind.i64.wrap (p0_1 + 1))), num p0_2]] rh.2 then bif okRes PP 3 rh.fst then (run none 65 [AV.ptr 0 0] [Ob.box [AV.e (E.sl 9 ((rh.snd.ob
  0).cell 0).data.toList), (num ((rh.snd.ob 0).cell 1).data.toInt), (num ((rh.snd.ob 0).cell 2).data.toInt)]]).bind fun rh_1 => bif okHeap [Ob.box [AV.e (E.sl 9 ((rh.snd.ob
  0).cell 0).data.toList), (num ((rh.snd.ob 0).cell 1).data.toInt), (num ((rh.snd.ob 0).cell 2).data.toInt)]] rh_1.2 then bif okRes PP 3 rh_1.fst then (run none 65 [AV.ptr 0
  0] [Ob.box [AV.e (E.sl 9 ((rh_1.snd.ob 0).cell 0).data.toList), (num ((rh_1.snd.ob 0).cell 1).data.toInt), (num ((rh_1.snd.ob 0).cell 2).data.toInt)]]).bind fun rh_2 => bif
  okHeap [Ob.box [AV.e (E.sl 9 ((rh_1.snd.ob 0).cell 0).data.toList), (num ((rh_1.snd.ob 0).cell 1).data.toInt), (num ((rh_1.snd.ob 0).cell 2).data.toInt)]] rh_2.2 then bif
  okRes PP 3 rh_2.fst then (run none 102 [AV.ptr 0 0] [Ob.box [AV.e (E.sl 9 ((rh_2.snd.ob 0).cell 0).data.toList), (num ((rh_2.snd.ob 0).cell 1).data.toInt), (num
  ((rh_2.snd.ob 0).cell 2).data.toInt)]]).bind fun rh_3 => bif okHeap [Ob.box [AV.e (E.sl 9 ((rh_2.snd.ob 0).cell 0).data.toList), (num ((rh_2.snd.ob 0).cell 1).data.toInt),
  (num ((rh_2.snd.ob 0).cell 2).data.toInt)]] rh_3.2 then bif okRes PP 9 rh_3.fst then some (Res.ret (AV.agg [num 2, num a1_1, num a1_2, num a1_3, num a1_4, yes a1_5, str
  a1_6, str a1_7, str a1_8, num a1_9, str a1_10, (str ((p0_0.getD (IntKind.i64.wrap (IntKind.i64.wrap (p0_1 + 1) - 1)).toNat E.nili).cell 0).toStr), num rh.fst.val.data.toInt,
  num rh_1.fst.val.data.toInt, num rh_2.fst.val.data.toInt, str rh_3.fst.val.data.toStr, str a1_16, str a1_17, str a1_18, yes a1_19, AV.e (E.sl 97 a1_20), str a1_21, str
  a1_22, num a1_23, yes a1_24, num a1_25, num a1_26, str a1_27, num a1_28, AV.e (E.sl 97 a1_29)]), [Ob.box [AV.e (E.sl 9 ((rh_3.snd.ob 0).cell 0).data.toList), (num
  ((rh_3.snd.ob 0).cell 1).data.toInt), (num ((rh_3.snd.ob 0).cell 2).data.toInt)]]) else none else none else none else none else none else none else none else none else none
  else (run none 65 [AV.ptr 0 0] [Ob.box [AV.e (E.sl 9 p0_0), num p0_1, num p0_2]]).bind fun rh => bif okHeap [Ob.box [AV.e (E.sl 9 p0_0), num p0_1, num p0_2]] rh.2 then bif
  okRes PP 3 rh.fst then (run none 65 [AV.ptr 0 0] [Ob.box [AV.e (E.sl 9 ((rh.snd.ob 0).cell 0).data.toList), (num ((rh.snd.ob 0).cell 1).data.toInt), (num ((rh.snd.ob 0).cell
  2).data.toInt)]]).bind fun rh_1 => bif okHeap [Ob.box [AV.e (E.sl 9 ((rh.snd.ob 0).cell 0).data.toList), (num ((rh.snd.ob 0).cell 1).data.toInt), (num ((rh.snd.ob 0).cell
  2).data.toInt)]] rh_1.2 then bif okRes PP 3 rh_1.fst then (run none 65 [AV.ptr 0 0] [Ob.box [AV.e (E.sl 9 ((rh_1.snd.ob 0).cell 0).data.toList), (num ((rh_1.snd.ob 0).cell
  1).data.toInt), (num ((rh_1.snd.ob 0).cell 2).data.toInt)]]).bind fun rh_2 => bif okHeap [Ob.box [AV.e (E.sl 9 ((rh_1.snd.ob 0).cell 0).data.toList), (num ((rh_1.snd.ob
  0).cell 1).data.toInt), (num ((rh_1.snd.ob 0).cell 2).data.toInt)]] rh_2.2 then bif okRes PP 3 rh_2.fst then (run none 102 [AV.ptr 0 0] [Ob.box [AV.e (E.sl 9 ((rh_2.snd.ob
  0).cell 0).data.toList), (num ((rh_2.snd.ob 0).cell 1).data.toInt), (num ((rh_2.snd.ob 0).cell 2).data.toInt)]]).bind fun rh_3 => bif okHeap [Ob.box [AV.e (E.sl 9
  ((rh_2.snd.ob 0).cell 0).data.toList), (num ((rh_2.snd.ob 0).cell 1).data.toInt), (num ((rh_2.snd.ob 0).cell 2).data.toInt)]] rh_3.2 then bif okRes PP 9 rh_3.fst then some
  (Res.ret (AV.agg [num 2, num a1_1, num a1_2, num a1_3, num a1_4, yes a1_5, str a1_6, str a1_7, str a1_8, num a1_9, str a1_10, str [], num rh.fst.val.data.toInt, num
  rh_1.fst.val.data.toInt, num rh_2.fst.val.data.toInt, str rh_3.fst.val.data.toStr, str a1_16, str a1_17, str a1_18, yes a1_19, AV.e (E.sl 97 a1_20), str a1_21, str a1_22,
  num a1_23, yes a1_24, num a1_25, num a1_26, str a1_27, num a1_28, AV.e (E.sl 97 a1_29)]), [Ob.box [AV.e (E.sl 9 ((rh_3.snd.ob 0).cell 0).data.toList), (num ((rh_3.snd.ob
  0).cell 1).data.toInt), (num ((rh_3.snd.ob 0).cell 2).data.toInt)]]) else none else none else none else none else none else none else none else none := by kernel_rfl
theorem eq_rbodyK3 (run : RunF) (loop : LoopF) (p0_0 : List E) (p0_1 p0_2 a1_1 a1_2 a1_3 a1_4 : Int) (a1_5 : Bool) (a1_6 a1_7 a1_8 : List UInt8) (a1_9 : Int) (a1_10 a1_11 :
  List UInt8) (a1_12 a1_13 a1_14 : Int) (a1_15 a1_16 a1_17 a1_18 : List UInt8) (a1_19 : Bool) (a1_20 : List E) (a1_21 a1_22 : List UInt8) (a1_23 : Int) (a1_24 : Bool) (a1_25
  a1_26 : Int) (a1_27 : List UInt8) (a1_28 : Int) (a1_29 : List E) : bodyRun PP HH run loop none 66 [.ptr 0 0, .agg [num 3, num a1_1, num a1_2, num a1_3, num a1_4, yes a1_5,
  str a1_6, str a1_7, str a1_8, num a1_9, str a1_10, str a1_11, num a1_12, num a1_13, num a1_14, str a1_15, str a1_16, str a1_17, str a1_18, yes a1_19, .e (.sl 97 a1_20), str
  a1_21, str a1_22, num a1_23, yes a1_24, num a1_25, num a1_26, str a1_27, num a1_28, .e (.sl 97 a1_29)]] [.box [.e (.sl 9 p0_0), num p0_1, num p0_2]] = bif (!p0_2 == 0) ==
  false then bif decide ((↑p0_0.length : Int) ≤ p0_1) then bif (!p0_2 == 0) == false then bif decide ((↑p0_0.length : Int) ≤ p0_1) then (run none 103 [AV.ptr 0 0] [Ob.box
  [AV.e (E.sl 9 p0_0), num p0_1, num p0_2]]).bind fun rh => bif okHeap [Ob.box [AV.e (E.sl 9 p0_0), num p0_1, num p0_2]] rh.2 then bif okRes PP 9 rh.fst then (run none 104
  [AV.ptr 0 0] [Ob.box [AV.e (E.sl 9 ((rh.snd.ob 0).cell 0).data.toList), (num ((rh.snd.ob 0).cell 1).data.toInt), (num ((rh.snd.ob 0).cell 2).data.toInt)]]).bind fun rh_1 =>
  bif okHeap [Ob.box [AV.e (E.sl 9 ((rh.snd.ob 0).cell 0).data.toList), (num ((rh.snd.ob 0).cell 1).data.toInt), (num ((rh.snd.ob 0).cell 2).data.toInt)]] rh_1.2 then bif
  okRes PP 4 rh_1.fst then (run none 105 [AV.ptr 0 0] [Ob.box [AV.e (E.sl 9 ((rh_1.snd.ob 0).cell 0).data.toList), (num ((rh_1.snd.ob 0).cell 1).data.toInt), (num
  ((rh_1.snd.ob 0).cell 2).data.toInt)]]).bind fun rh_2 => bif okHeap [Ob.box [AV.e (E.sl 9 ((rh_1.snd.ob 0).cell 0).data.toList), (num ((rh_1.snd.ob 0).cell 1).data.toInt),
  (num ((rh_1.snd.ob 0).cell 2).data.toInt)]] rh_2.2 then bif okRes PP 33 rh_2.fst then some (Res.ret (AV.agg [num 3, num a1_1, num a1_2, num a1_3, num a1_4, yes a1_5, str
  a1_6, str a1_7, str a1_8, num a1_9, str a1_10, str a1_11, num a1_12, num a1_13, num a1_14, str a1_15, str [], str [], str rh.fst.val.data.toStr, yes
  rh_1.fst.val.data.toBool, AV.e (E.sl 97 rh_2.fst.val.data.toList), str a1_21, str a1_22, num a1_23, yes a1_24, num a1_25, num a1_26, str a1_27, num a1_28, AV.e (E.sl 97
  a1_29)]), [Ob.box [AV.e (E.sl 9 ((rh_2.snd.ob 0).cell 0).data.toList), (num ((rh_2.snd.ob 0).cell 1).data.toInt), (num ((rh_2.snd.ob 0).cell 2).data.toInt)]]) else none else
  none else none else none else none else none else bif decide (0 ≤ IntKind.i64.wrap (IntKind.i64.wrap (p0_1 + 1) - 1)) && decide (IntKind.i64.wrap (IntKind.i64.wrap (p0_1 +
  1) - 1) < (↑p0_0.length : Int)) then (run none 103 [AV.ptr 0 0] [Ob.box [AV.e (E.sl 9 p0_0), (num (IntKind.i64.wrap (p0_1 + 1))), num p0_2]]).bind fun rh => bif okHeap
  [Ob.box [AV.e (E.sl 9 p0_0), (num (IntKind.i64.wrap (p0_1 + 1))), num p0_2]] rh.2 then bif okRes PP 9 rh.fst then (run none 104 [AV.ptr 0 0] [Ob.box [AV.e (E.sl 9
  ((rh.snd.ob 0).cell 0).data.toList), (num ((rh.snd.ob 0).cell 1).data.toInt), (num ((rh.snd.ob 0).cell 2).data.toInt)]]).bind fun rh_1 => bif okHeap [Ob.box [AV.e (E.sl 9
  ((rh.snd.ob 0).cell 0).data.toList), (num ((rh.snd.ob 0).cell 1).data.toInt), (num ((rh.snd.ob 0).cell 2).data.toInt)]] rh_1.2 then bif okRes PP 4 rh_1.fst then (run none
  105 [AV.ptr 0 0] [Ob.box [AV.e (E.sl 9 ((rh_1.snd.ob 0).cell 0).data.toList), (num ((rh_1.snd.ob 0).cell 1).data.toInt), (num ((rh_1.snd.ob 0).cell 2).data.toInt)]]).bind
  fun rh_2 => bif okHeap [Ob.box [AV.e (E.sl 9 ((rh_1.snd.ob 0).cell 0).data.toList), (num ((rh_1.snd.ob 0).cell 1).data.toInt), (num ((rh_1.snd.ob 0).cell 2).data.toInt)]]
  rh_2.2 then bif okRes PP 33 rh_2.fst then some (Res.ret (AV.agg [num 3, num a1_1, num a1_2, num a1_3, num a1_4, yes a1_5, str a1_6, str a1_7, str a1_8, num a1_9, str a1_10,
  str a1_11, num a1_12, num a1_13, num a1_14, str a1_15, str [], (str ((p0_0.getD (IntKind.i64.wrap (IntKind.i64.wrap (p0_1 + 1) - 1)).toNat E.nili).cell 0).toStr), str
  rh.fst.val.data.toStr, yes rh_1.fst.val.data.toBool, AV.e (E.sl 97 rh_2.fst.val.data.toList), str a1_21, str a1_22, num a1_23, yes a1_24, num a1_25, num a1_26, str a1_27,
  num a1_28, AV.e (E.sl 97 a1_29)]), [Ob.box [AV.e (E.sl 9 ((rh_2.snd.ob 0).cell 0).data.toList), (num ((rh_2.snd.ob 0).cell 1).data.toInt), (num ((rh_2.snd.ob 0).cell
  2).data.toInt)]]) else none else none else none else none else none else none else none else (run none 103 [AV.ptr 0 0] [Ob.box [AV.e (E.sl 9 p0_0), num p0_1, num
  p0_2]]).bind fun rh => bif okHeap [Ob.box [AV.e (E.sl 9 p0_0), num p0_1, num p0_2]] rh.2 then bif okRes PP 9 rh.fst then (run none 104 [AV.ptr 0 0] [Ob.box [AV.e (E.sl 9
  ((rh.snd.ob 0).cell 0).data.toList), (num ((rh.snd.ob 0).cell 1).data.toInt), (num ((rh.snd.ob 0).cell 2).data.toInt)]]).bind fun rh_1 => bif okHeap [Ob.box [AV.e (E.sl 9
  ((rh.snd.ob 0).cell 0).data.toList), (num ((rh.snd.ob 0).cell 1).data.toInt), (num ((rh.snd.ob 0).cell 2).data.toInt)]] rh_1.2 then bif okRes PP 4 rh_1.fst then (run none
  105 [AV.ptr 0 0] [Ob.box [AV.e (E.sl 9 ((rh_1.snd.ob 0).cell 0).data.toList), (num ((rh_1.snd.ob 0).cell 1).data.toInt), (num ((rh_1.snd.ob 0).cell 2).data.toInt)]]).bind
  fun rh_2 => bif okHeap [Ob.box [AV.e (E.sl 9 ((rh_1.snd.ob 0).cell 0).data.toList), (num ((rh_1.snd.ob 0).cell 1).data.toInt), (num ((rh_1.snd.ob 0).cell 2).data.toInt)]]
  rh_2.2 then bif okRes PP 33 rh_2.fst then some (Res.ret (AV.agg [num 3, num a1_1, num a1_2, num a1_3, num a1_4, yes a1_5, str a1_6, str a1_7, str a1_8, num a1_9, str a1_10,
  str a1_11, num a1_12, num a1_13, num a1_14, str a1_15, str [], str [], str rh.fst.val.data.toStr, yes rh_1.fst.val.data.toBool, AV.e (E.sl 97 rh_2.fst.val.data.toList), str
  a1_21, str a1_22, num a1_23, yes a1_24, num a1_25, num a1_26, str a1_27, num a1_28, AV.e (E.sl 97 a1_29)]), [Ob.box [AV.e (E.sl 9 ((rh_2.snd.ob 0).cell 0).data.toList), (num
  ((rh_2.snd.ob 0).cell 1).data.toInt), (num ((rh_2.snd.ob 0).cell 2).data.toInt)]]) else none else none else none else none else none else none else bif decide (0 ≤
  IntKind.i64.wrap (IntKind.i64.wrap (p0_1 + 1) - 1)) && decide (IntKind.i64.wrap (IntKind.i64.wrap (p0_1 + 1) - 1) < (↑p0_0.length : Int)) then bif (!p0_2 == 0) == false then
  bif decide ((↑p0_0.length : Int) ≤ IntKind.i64.wrap (p0_1 + 1)) then (run none 103 [AV.ptr 0 0] [Ob.box [AV.e (E.sl 9 p0_0), (num (IntKind.i64.wrap (p0_1 + 1))), num
  p0_2]]).bind fun rh => bif okHeap [Ob.box [AV.e (E.sl 9 p0_0), (num (IntKind.i64.wrap (p0_1 + 1))), num p0_2]] rh.2 then bif okRes PP 9 rh.fst then (run none 104 [AV.ptr 0
  0] [Ob.box [AV.e (E.sl 9 ((rh.snd.ob 0).cell 0).data.toList), (num ((rh.snd.ob 0).cell 1).data.toInt), (num ((rh.snd.ob 0).cell 2).data.toInt)]]).bind fun rh_1 => bif okHeap
  [Ob.box [AV.e (E.sl 9 ((rh.snd.ob 0).cell 0).data.toList), (num ((rh.snd.ob 0).cell 1).data.toInt), (num ((rh.snd.ob 0).cell 2).data.toInt)]] rh_1.2 then bif okRes PP 4
  rh_1.fst then (run none 105 [AV.ptr 0 0] [Ob.box [AV.e (E.sl 9 ((rh_1.snd.ob 0).cell 0).data.toList), (num ((rh_1.snd.ob 0).cell 1).data.toInt), (num ((rh_1.snd.ob 0).cell
  2).data.toInt)]]).bind fun rh_2 => bif okHeap [Ob.box [AV.e (E.sl 9 ((rh_1.snd.ob 0).cell 0).data.toList), (num ((rh_1.snd.ob 0).cell 1).data.toInt), (num ((rh_1.snd.ob
  0).cell 2).data.toInt)]] rh_2.2 then bif okRes PP 33 rh_2.fst then some (Res.ret (AV.agg [num 3, num a1_1, num a1_2, num a1_3, num a1_4, yes a1_5, str a1_6, str a1_7, str
  a1_8, num a1_9, str a1_10, str a1_11, num a1_12, num a1_13, num a1_14, str a1_15, (str ((p0_0.getD (IntKind.i64.wrap (IntKind.i64.wrap (p0_1 + 1) - 1)).toNat E.nili).cell
  0).toStr), str [], str rh.fst.val.data.toStr, yes rh_1.fst.val.data.toBool, AV.e (E.sl 97 rh_2.fst.val.data.toList), str a1_21, str a1_22, num a1_23, yes a1_24, num a1_25,
  num a1_26, str a1_27, num a1_28, AV.e (E.sl 97 a1_29)]), [Ob.box [AV.e (E.sl 9 ((rh_2.snd.ob 0).cell 0).data.toList), (num ((rh_2.snd.ob 0).cell 1).data.toInt), (num
  ((rh_2.snd.ob 0).cell 2).data.toInt)]]) else none else none else none else none else none else none else bif decide (0 ≤ IntKind.i64.wrap (IntKind.i64.wrap (IntKind.i64.wrap
  (p0_1 + 1) + 1) - 1)) && decide (IntKind.i64.wrap (IntKind.i64.wrap (IntKind.i64.wrap (p0_1 + 1) + 1) - 1) < (↑p0_0.length : Int)) then (run none 103 [AV.ptr 0 0] [Ob.box
  [AV.e (E.sl 9 p0_0), (num (IntKind.i64.wrap (IntKind.i64.wrap (p0_1 + 1) + 1))), num p0_2]]).bind fun rh => bif okHeap [Ob.box [AV.e (E.sl 9 p0_0), (num (IntKind.i64.wrap
  (IntKind.i64.wrap (p0_1 + 1) + 1))), num p0_2]] rh.2 then bif okRes PP 9 rh.fst then (run none 104 [AV.ptr 0 0] [Ob.box [AV.e (E.sl 9 ((rh.snd.ob 0).cell 0).data.toList),
  (num ((rh.snd.ob 0).cell 1).data.toInt), (num ((rh.snd.ob 0).cell 2).data.toInt)]]).bind fun rh_1 => bif okHeap [Ob.box [AV.e (E.sl 9 ((rh.snd.ob 0).cell 0).data.toList),
  (num ((rh.snd.ob 0).cell 1).data.toInt), (num ((rh.snd.ob 0).cell 2).data.toInt)]] rh_1.2 then bif okRes PP 4 rh_1.fst then (run none 105 [AV.ptr 0 0] [Ob.box [AV.e (E.sl 9
  ((rh_1.snd.ob 0).cell 0).data.toList), (num ((rh_1.snd.ob 0).cell 1).data.toInt), (num ((rh_1.snd.ob 0).cell 2).data.toInt)]]).bind fun rh_2 => bif okHeap [Ob.box [AV.e
  (E.sl 9 ((rh_1.snd.ob 0).cell 0).data.toList), (num ((rh_1.snd.ob 0).cell 1).data.toInt), (num ((rh_1.snd.ob 0).cell 2).data.toInt)]] rh_2.2 then bif okRes PP 33 rh_2.fst
  then some (Res.ret (AV.agg [num 3, num a1_1, num a1_2, num a1_3, num a1_4, yes a1_5, str a1_6, str a1_7, str a1_8, num a1_9, str a1_10, str a1_11, num a1_12, num a1_13, num
  a1_14, str a1_15, (str ((p0_0.getD (IntKind.i64.wrap (IntKind.i64.wrap (p0_1 + 1) - 1)).toNat E.nili).cell 0).toStr), (str ((p0_0.getD (IntKind.i64.wrap (IntKind.i64.wrap
  (IntKind.i64.wrap (p0_1 + 1) + 1) - 1)).toNat E.nili).cell 0).toStr), str rh.fst.val.data.toStr, yes rh_1.fst.val.data.toBool, AV.e (E.sl 97 rh_2.fst.val.data.toList), str
  a1_21, str a1_22, num a1_23, yes a1_24, num a1_25, num a1_26, str a1_27, num a1_28, AV.e (E.sl 97 a1_29)]), [Ob.box [AV.e (E.sl 9 ((rh_2.snd.ob 0).cell 0).data.toList), (num
  ((rh_2.snd.ob 0).cell 1).data.toInt), (num ((rh_2.snd.ob 0).cell 2).data.toInt)]]) else none else none else none else none else none else none else none else (run none 103
  [AV.ptr 0 0] [Ob.box [AV.e (E.sl 9 p0_0), (num (IntKind.i64.wrap (p0_1 + 1))), num p0_2]]).bind fun rh => bif okHeap [Ob.box [AV.e (E.sl 9 p0_0), (num (IntKind.i64.wrap
  (p0_1 + 1))), num p0_2]] rh.2 then bif okRes PP 9 rh.fst then (run none 104 [AV.ptr 0 0] [Ob.box [AV.e (E.sl 9 ((rh.snd.ob 0).cell 0).data.toList), (num ((rh.snd.ob 0).cell
  1).data.toInt), (num ((rh.snd.ob 0).cell 2).data.toInt)]]).bind fun rh_1 => bif okHeap [Ob.box [AV.e (E.sl 9 ((rh.snd.ob 0).cell 0).data.toList), (num ((rh.snd.ob 0).cell
  1).data.toInt), (num ((rh.snd.ob 0).cell 2).data.toInt)]] rh_1.2 then bif okRes PP 4 rh_1.fst then (run none 105 [AV.ptr 0 0] [Ob.box [AV.e (E.sl 9 ((rh_1.snd.ob 0).cell
  0).data.toList), (num ((rh_1.snd.ob 0).cell 1).data.toInt), (num ((rh_1.snd.ob 0).cell 2).data.toInt)]]).bind fun rh_2 => bif okHeap [Ob.box [AV.e (E.sl 9 ((rh_1.snd.ob
  0).cell 0).data.toList), (num ((rh_1.snd.ob 0).cell 1).data.toInt), (num ((rh_1.snd.ob 0).cell 2).data.toInt)]] rh_2.2 then bif okRes PP 33 rh_2.fst then some (Res.ret
  (AV.agg [num 3, num a1_1, num a1_2, num a1_3, num a1_4, yes a1_5, str a1_6, str a1_7, str a1_8, num a1_9, str a1_10, str a1_11, num a1_12, num a1_13, num a1_14, str a1_15,
  (str ((p0_0.getD (IntKind.i64.wrap (IntKind.i64.wrap (p0_1 + 1) - 1)).toNat E.nili).cell 0).toStr), str [], str rh.fst.val.data.toStr, yes rh_1.fst.val.data.toBool, AV.e
  (E.sl 97 rh_2.fst.val.data.toList), str a1_21, str a1_22, num a1_23, yes a1_24, num a1_25, num a1_26, str a1_27, num a1_28, AV.e (E.sl 97 a1_29)]), [Ob.box [AV.e (E.sl 9
  ((rh_2.snd.ob 0).cell 0).data.toList), (num ((rh_2.snd.ob 0).cell 1).data.toInt), (num ((rh_2.snd.ob 0).cell 2).data.toInt)]]) else none else none else none else none else
  none else none else none else bif (!p0_2 == 0) == false then bif decide ((↑p0_0.length : Int) ≤ p0_1) then (run none 103 [AV.ptr 0 0] [Ob.box [AV.e (E.sl 9 p0_0), num p0_1,
  num p0_2]]).bind fun rh => bif okHeap [Ob.box [AV.e (E.sl 9 p0_0), num p0_1, num p0_2]] rh.2 then bif okRes PP 9 rh.fst then (run none 104 [AV.ptr 0 0] [Ob.box [AV.e (E.sl 9
  ((rh.snd.ob 0).cell 0).data.toList), (num ((rh.snd.ob 0).cell 1).data.toInt), (num ((rh.snd.ob 0).cell 2).data.toInt)]]).bind fun rh_1 => bif okHeap [Ob.box [AV.e (E.sl 9
  ((rh.snd.ob 0).cell 0).data.toList), (num ((rh.snd.ob 0).cell 1).data.toInt), (num ((rh.snd.ob 0).cell 2).data.toInt)]] rh_1.2 then bif okRes PP 4 rh_1.fst then (run none
  105 [AV.ptr 0 0] [Ob.box [AV.e (E.sl 9 ((rh_1.snd.ob 0).cell 0).data.toList), (num ((rh_1.snd.ob 0).cell 1).data.toInt), (num ((rh_1.snd.ob 0).cell 2).data.toInt)]]).bind
  fun rh_2 => bif okHeap [Ob.box [AV.e (E.sl 9 ((rh_1.snd.ob 0).cell 0).data.toList), (num ((rh_1.snd.ob 0).cell 1).data.toInt), (num ((rh_1.snd.ob 0).cell 2).data.toInt)]]
  rh_2.2 then bif okRes PP 33 rh_2.fst then some (Res.ret (AV.agg [num 3, num a1_1, num a1_2, num a1_3, num a1_4, yes a1_5, str a1_6, str a1_7, str a1_8, num a1_9, str a1_10,
  str a1_11, num a1_12, num a1_13, num a1_14, str a1_15, str [], str [], str rh.fst.val.data.toStr, yes rh_1.fst.val.data.toBool, AV.e (E.sl 97 rh_2.fst.val.data.toList), str
  a1_21, str a1_22, num a1_23, yes a1_24, num a1_25, num a1_26, str a1_27, num a1_28, AV.e (E.sl 97 a1_29)]), [Ob.box [AV.e (E.sl 9 ((rh_2.snd.ob 0).cell 0).data.toList), (num
  ((rh_2.snd.ob 0).cell 1).data.toInt), (num ((rh_2.snd.ob 0).cell 2).data.toInt)]]) else none else none else none else none else none else none else bif decide (0 ≤
  IntKind.i64.wrap (IntKind.i64.wrap (p0_1 + 1) - 1)) && decide (IntKind.i64.wrap (IntKind.i64.wrap (p0_1 + 1) - 1) < (↑p0_0.length : Int)) then (run none 103 [AV.ptr 0 0]
  [Ob.box [AV.e (E.sl 9 p0_0), (num (IntKind.i64.wrap (p0_1 + 1))), num p0_2]]).bind fun rh => bif okHeap [Ob.box [AV.e (E.sl 9 p0_0), (num (IntKind.i64.wrap (p0_1 + 1))), num
  p0_2]] rh.2 then bif okRes PP 9 rh.fst then (run none 104 [AV.ptr 0 0] [Ob.box [AV.e (E.sl 9 ((rh.snd.ob 0).cell 0).data.toList), (num ((rh.snd.ob 0).cell 1).data.toInt),
  (num ((rh.snd.ob 0).cell 2).data.toInt)]]).bind fun rh_1 => bif okHeap [Ob.box [AV.e (E.sl 9 ((rh.snd.ob 0).cell 0).data.toList), (num ((rh.snd.ob 0).cell 1).data.toInt),
  (num ((rh.snd.ob 0).cell 2).data.toInt)]] rh_1.2 then bif okRes PP 4 rh_1.fst then (run none 105 [AV.ptr 0 0] [Ob.box [AV.e (E.sl 9 ((rh_1.snd.ob 0).cell 0).data.toList),
  (num ((rh_1.snd.ob 0).cell 1).data.toInt), (num ((rh_1.snd.ob 0).cell 2).data.toInt)]]).bind fun rh_2 => bif okHeap [Ob.box [AV.e (E.sl 9 ((rh_1.snd.ob 0).cell
  0).data.toList), (num ((rh_1.snd.ob 0).cell 1).data.toInt), (num ((rh_1.snd.ob 0).cell 2).data.toInt)]] rh_2.2 then bif okRes PP 33 rh_2.fst then some (Res.ret (AV.agg [num
  3, num a1_1, num a1_2, num a1_3, num a1_4, yes a1_5, str a1_6, str a1_7, str a1_8, num a1_9, str a1_10, str a1_11, num a1_12, num a1_13, num a1_14, str a1_15, str [], (str
  ((p0_0.getD (IntKind.i64.wrap (IntKind.i64.wrap (p0_1 + 1) - 1)).toNat E.nili).cell 0).toStr), str rh.fst.val.data.toStr, yes rh_1.fst.val.data.toBool, AV.e (E.sl 97
  rh_2.fst.val.data.toList), str a1_21, str a1_22, num a1_23, yes a1_24, num a1_25, num a1_26, str a1_27, num a1_28, AV.e (E.sl 97 a1_29)]), [Ob.box [AV.e (E.sl 9
  ((rh_2.snd.ob 0).cell 0).data.toList), (num ((rh_2.snd.ob 0).cell 1).data.toInt), (num ((rh_2.snd.ob 0).cell 2).data.toInt)]]) else none else none else none else none else
  none else none else none else (run none 103 [AV.ptr 0 0] [Ob.box [AV.e (E.sl 9 p0_0), num p0_1, num p0_2]]).bind fun rh => bif okHeap [Ob.box [AV.e (E.sl 9 p0_0), num p0_1,
  num p0_2]] rh.2 then bif okRes PP 9 rh.fst then (run none 104 [AV.ptr 0 0] [Ob.box [AV.e (E.sl 9 ((rh.snd.ob 0).cell 0).data.toList), (num ((rh.snd.ob 0).cell
  1).data.toInt), (num ((rh.snd.ob 0).cell 2).data.toInt)]]).bind fun rh_1 => bif okHeap [Ob.box [AV.e (E.sl 9 ((rh.snd.ob 0).cell 0).data.toList), (num ((rh.snd.ob 0).cell
  1).data.toInt), (num ((rh.snd.ob 0).cell 2).data.toInt)]] rh_1.2 then bif okRes PP 4 rh_1.fst then (run none 105 [AV.ptr 0 0] [Ob.box [AV.e (E.sl 9 ((rh_1.snd.ob 0).cell
  0).data.toList), (num ((rh_1.snd.ob 0).cell 1).data.toInt), (num ((rh_1.snd.ob 0).cell 2).data.toInt)]]).bind fun rh_2 => bif okHeap [Ob.box [AV.e (E.sl 9 ((rh_1.snd.ob
  0).cell 0).data.toList), (num ((rh_1.snd.ob 0).cell 1).data.toInt), (num ((rh_1.snd.ob 0).cell 2).data.toInt)]] rh_2.2 then bif okRes PP 33 rh_2.fst then some (Res.ret
  (AV.agg [num 3, num a1_1, num a1_2, num a1_3, num a1_4, yes a1_5, str a1_6, str a1_7, str a1_8, num a1_9, str a1_10, str a1_11, num a1_12, num a1_13, num a1_14, str a1_15,
  str [], str [], str rh.fst.val.data.toStr, yes rh_1.fst.val.data.toBool, AV.e (E.sl 97 rh_2.fst.val.data.toList), str a1_21, str a1_22, num a1_23, yes a1_24, num a1_25, num
  a1_26, str a1_27, num a1_28, AV.e (E.sl 97 a1_29)]), [Ob.box [AV.e (E.sl 9 ((rh_2.snd.ob 0).cell 0).data.toList), (num ((rh_2.snd.ob 0).cell 1).data.toInt), (num
  ((rh_2.snd.ob 0).cell 2).data.toInt)]]) else none else none else none else none else none else none := by kernel_rfl
theorem eq_rbodyK4 (run : RunF) (loop : LoopF) (p0_0 : List E) (p0_1 p0_2 a1_1 a1_2 a1_3 a1_4 : Int) (a1_5 : Bool) (a1_6 a1_7 a1_8 : List UInt8) (a1_9 : Int) (a1_10 a1_11 :
  List UInt8) (a1_12 a1_13 a1_14 : Int) (a1_15 a1_16 a1_17 a1_18 : List UInt8) (a1_19 : Bool) (a1_20 : List E) (a1_21 a1_22 : List UInt8) (a1_23 : Int) (a1_24 : Bool) (a1_25
  a1_26 : Int) (a1_27 : List UInt8) (a1_28 : Int) (a1_29 : List E) : bodyRun PP HH run loop none 66 [.ptr 0 0, .agg [num 4, num a1_1, num a1_2, num a1_3, num a1_4, yes a1_5,
  str a1_6, str a1_7, str a1_8, num a1_9, str a1_10, str a1_11, num a1_12, num a1_13, num a1_14, str a1_15, str a1_16, str a1_17, str a1_18, yes a1_19, .e (.sl 97 a1_20), str
  a1_21, str a1_22, num a1_23, yes a1_24, num a1_25, num a1_26, str a1_27, num a1_28, .e (.sl 97 a1_29)]] [.box [.e (.sl 9 p0_0), num p0_1, num p0_2]] = bif (!p0_2 == 0) ==
  false then bif decide ((↑p0_0.length : Int) ≤ p0_1) then bif (!p0_2 == 0) == false then bif decide ((↑p0_0.length : Int) ≤ p0_1) then (run none 103 [AV.ptr 0 0] [Ob.box
  [AV.e (E.sl 9 p0_0), num p0_1, num p0_2]]).bind fun rh => bif okHeap [Ob.box [AV.e (E.sl 9 p0_0), num p0_1, num p0_2]] rh.2 then bif okRes PP 9 rh.fst then (run none 104
  [AV.ptr 0 0] [Ob.box [AV.e (E.sl 9 ((rh.snd.ob 0).cell 0).data.toList), (num ((rh.snd.ob 0).cell 1).data.toInt), (num ((rh.snd.ob 0).cell 2).data.toInt)]]).bind fun rh_1 =>
  bif okHeap [Ob.box [AV.e (E.sl 9 ((rh.snd.ob 0).cell 0).data.toList), (num ((rh.snd.ob 0).cell 1).data.toInt), (num ((rh.snd.ob 0).cell 2).data.toInt)]] rh_1.2 then bif
  okRes PP 4 rh_1.fst then (run none 105 [AV.ptr 0 0] [Ob.box [AV.e (E.sl 9 ((rh_1.snd.ob 0).cell 0).data.toList), (num ((rh_1.snd.ob 0).cell 1).data.toInt), (num
  ((rh_1.snd.ob 0).cell 2).data.toInt)]]).bind fun rh_2 => bif okHeap [Ob.box [AV.e (E.sl 9 ((rh_1.snd.ob 0).cell 0).data.toList), (num ((rh_1.snd.ob 0).cell 1).data.toInt),
  (num ((rh_1.snd.ob 0).cell 2).data.toInt)]] rh_2.2 then bif okRes PP 33 rh_2.fst then some (Res.ret (AV.agg [num 4, num a1_1, num a1_2, num a1_3, num a1_4, yes a1_5, str
  a1_6, str a1_7, str a1_8, num a1_9, str a1_10, str a1_11, num a1_12, num a1_13, num a1_14, str a1_15, str [], str [], str rh.fst.val.data.toStr, yes
  rh_1.fst.val.data.toBool, AV.e (E.sl 97 rh_2.fst.val.data.toList), str a1_21, str a1_22, num a1_23, yes a1_24, num a1_25, num a1_26, str a1_27, num a1_28, AV.e (E.sl 97
  a1_29)]), [Ob.box [AV.e (E.sl 9 ((rh_2.snd.ob 0).cell 0).data.toList), (num ((rh_2.snd.ob 0).cell 1).data.toInt), (num ((rh_2.snd.ob 0).cell 2).data.toInt)]]) else none else
  none else none else none else none else none else bif decide (0 ≤ IntKind.i64.wrap (IntKind.i64.wrap (p0_1 + 1) - 1)) && decide (IntKind.i64.wrap (IntKind.i64.wrap (p0_1 +
  1) - 1) < (↑p0_0.length : Int)) then (run none 103 [AV.ptr 0 0] [Ob.box [AV.e (E.sl 9 p0_0), (num (IntKind.i64.wrap (p0_1 + 1))), num p0_2]]).bind fun rh => bif okHeap
  [Ob.box [AV.e (E.sl 9 p0_0), (num (IntKind.i64.wrap (p0_1 + 1))), num p0_2]] rh.2 then bif okRes PP 9 rh.fst then (run none 104 [AV.ptr 0 0] [Ob.box [AV.e (E.sl 9
  ((rh.snd.ob 0).cell 0).data.toList), (num ((rh.snd.ob 0).cell 1).data.toInt), (num ((rh.snd.ob 0).cell 2).data.toInt)]]).bind fun rh_1 => bif okHeap [Ob.box [AV.e (E.sl 9
  ((rh.snd.ob 0).cell 0).data.toList), (num ((rh.snd.ob 0).cell 1).data.toInt), (num ((rh.snd.ob 0).cell 2).data.toInt)]] rh_1.2 then bif okRes PP 4 rh_1.fst then (run none
  105 [AV.ptr 0 0] [Ob.box [AV.e (E.sl 9 ((rh_1.snd.ob 0).cell 0).data.toList), (num ((rh_1.snd.ob 0).cell 1).data.toInt), (num ((rh_1.snd.ob 0).cell 2).data.toInt)]]).bind
  fun rh_2 => bif okHeap [Ob.box [AV.e (E.sl 9 ((rh_1.snd.ob 0).cell 0).data.toList), (num ((rh_1.snd.ob 0).cell 1).data.toInt), (num ((rh_1.snd.ob 0).cell 2).data.toInt)]]
  rh_2.2 then bif okRes PP 33 rh_2.fst then some (Res.ret (AV.agg [num 4, num a1_1, num a1_2, num a1_3, num a1_4, yes a1_5, str a1_6, str a1_7, str a1_8, num a1_9, str a1_10,
  str a1_11, num a1_12, num a1_13, num a1_14, str a1_15, str [], (str ((p0_0.getD (IntKind.i64.wrap (IntKind.i64.wrap (p0_1 + 1) - 1)).toNat E.nili).cell 0).toStr), str
  rh.fst.val.data.toStr, yes rh_1.fst.val.data.toBool, AV.e (E.sl 97 rh_2.fst.val.data.toList), str a1_21, str a1_22, num a1_23, yes a1_24, num a1_25, num a1_26, str a1_27,
  num a1_28, AV.e (E.sl 97 a1_29)]), [Ob.box [AV.e (E.sl 9 ((rh_2.snd.ob 0).cell 0).data.toList), (num ((rh_2.snd.ob 0).cell 1).data.toInt), (num ((rh_2.snd.ob 0).cell
  2).data.toInt)]]) else none else none else none else none else none else none else none else (run none 103 [AV.ptr 0 0] [Ob.box [AV.e (E.sl 9 p0_0), num p0_1, num
  p0_2]]).bind fun rh => bif okHeap [Ob.box [AV.e (E.sl 9 p0_0), num p0_1, num p0_2]] rh.2 then bif okRes PP 9 rh.fst then (run none 104 [AV.ptr 0 0] [Ob.box [AV.e (E.sl 9
  ((rh.snd.ob 0).cell 0).data.toList), (num ((rh.snd.ob 0).cell 1).data.toInt), (num ((rh.snd.ob 0).cell 2).data.toInt)]]).bind fun rh_1 => bif okHeap [Ob.box [AV.e (E.sl 9
  ((rh.snd.ob 0).cell 0).data.toList), (num ((rh.snd.ob 0).cell 1).data.toInt), (num ((rh.snd.ob 0).cell 2).data.toInt)]] rh_1.2 then bif okRes PP 4 rh_1.fst then (run none
  105 [AV.ptr 0 0] [Ob.box [AV.e (E.sl 9 ((rh_1.snd.ob 0).cell 0).data.toList), (num ((rh_1.snd.ob 0).cell 1).data.toInt), (num ((rh_1.snd.ob 0).cell 2).data.toInt)]]).bind
  fun rh_2 => bif okHeap [Ob.box [AV.e (E.sl 9 ((rh_1.snd.ob 0).cell 0).data.toList), (num ((rh_1.snd.ob 0).cell 1).data.toInt), (num ((rh_1.snd.ob 0).cell 2).data.toInt)]]
  rh_2.2 then bif okRes PP 33 rh_2.fst then some (Res.ret (AV.agg [num 4, num a1_1, num a1_2, num a1_3, num a1_4, yes a1_5, str a1_6, str a1_7, str a1_8, num a1_9, str a1_10,
  str a1_11, num a1_12, num a1_13, num a1_14, str a1_15, str [], str [], str rh.fst.val.data.toStr, yes rh_1.fst.val.data.toBool, AV.e (E.sl 97 rh_2.fst.val.data.toList), str
  a1_21, str a1_22, num a1_23, yes a1_24, num a1_25, num a1_26, str a1_27, num a1_28, AV.e (E.sl 97 a1_29)]), [Ob.box [AV.e (E.sl 9 ((rh_2.snd.ob 0).cell 0).data.toList), (num
  ((rh_2.snd.ob 0).cell 1).data.toInt), (num ((rh_2.snd.ob 0).cell 2).data.toInt)]]) else none else none else none else none else none else none else bif decide (0 ≤
  IntKind.i64.wrap (IntKind.i64.wrap (p0_1 + 1) - 1)) && decide (IntKind.i64.wrap (IntKind.i64.wrap (p0_1 + 1) - 1) < (↑p0_0.length : Int)) then bif (!p0_2 == 0) == false then
  bif decide ((↑p0_0.length : Int) ≤ IntKind.i64.wrap (p0_1 + 1)) then (run none 103 [AV.ptr 0 0] [Ob.box [AV.e (E.sl 9 p0_0), (num (IntKind.i64.wrap (p0_1 + 1))), num
  p0_2]]).bind fun rh => bif okHeap [Ob.box [AV.e (E.sl 9 p0_0), (num (IntKind.i64.wrap (p0_1 + 1))), num p0_2]] rh.2 then bif okRes PP 9 rh.fst then (run none 104 [AV.ptr 0
  0] [Ob.box [AV.e (E.sl 9 ((rh.snd.ob 0).cell 0).data.toList), (num ((rh.snd.ob 0).cell 1).data.toInt), (num ((rh.snd.ob 0).cell 2).data.toInt)]]).bind fun rh_1 => bif okHeap
  [Ob.box [AV.e (E.sl 9 ((rh.snd.ob 0).cell 0).data.toList), (num ((rh.snd.ob 0).cell 1).data.toInt), (num ((rh.snd.ob 0).cell 2).data.toInt)]] rh_1.2 then bif okRes PP 4
  rh_1.fst then (run none 105 [AV.ptr 0 0] [Ob.box [AV.e (E.sl 9 ((rh_1.snd.ob 0).cell 0).data.toList), (num ((rh_1.snd.ob 0).cell 1).data.toInt), (num ((rh_1.snd.ob 0).cell
  2).data.toInt)]]).bind fun rh_2 => bif okHeap [Ob.box [AV.e (E.sl 9 ((rh_1.snd.ob 0).cell 0).data.toList), (num ((rh_1.snd.ob 0).cell 1).data.toInt), (num ((rh_1.snd.ob
  0).cell 2).data.toInt)]] rh_2.2 then bif okRes PP 33 rh_2.fst then some (Res.ret (AV.agg [num 4, num a1_1, num a1_2, num a1_3, num a1_4, yes a1_5, str a1_6, str a1_7, str
  a1_8, num a1_9, str a1_10, str a1_11, num a1_12, num a1_13, num a1_14, str a1_15, (str ((p0_0.getD (IntKind.i64.wrap (IntKind.i64.wrap (p0_1 + 1) - 1)).toNat E.nili).cell
  0).toStr), str [], str rh.fst.val.data.toStr, yes rh_1.fst.val.data.toBool, AV.e (E.sl 97 rh_2.fst.val.data.toList), str a1_21, str a1_22, num a1_23, yes a1_24, num a1_25,
  num a1_26, str a1_27, num a1_28, AV.e (E.sl 97 a1_29)]), [Ob.box [AV.e (E.sl 9 ((rh_2.snd.ob 0).cell 0).data.toList), (num ((rh_2.snd.ob 0).cell 1).data.toInt), (num
  ((rh_2.snd.ob 0).cell 2).data.toInt)]]) else none else none else none else none else none else none else bif decide (0 ≤ IntKind.i64.wrap (IntKind.i64.wrap (IntKind.i64.wrap
  (p0_1 + 1) + 1) - 1)) && decide (IntKind.i64.wrap (IntKind.i64.wrap (IntKind.i64.wrap (p0_1 + 1) + 1) - 1) < (↑p0_0.length : Int)) then (run none 103 [AV.ptr 0 0] [Ob.box
  [AV.e (E.sl 9 p0_0), (num (IntKind.i64.wrap (IntKind.i64.wrap (p0_1 + 1) + 1))), num p0_2]]).bind fun rh => bif okHeap [Ob.box [AV.e (E.sl 9 p0_0), (num (IntKind.i64.wrap
  (IntKind.i64.wrap (p0_1 + 1) + 1))), num p0_2]] rh.2 then bif okRes PP 9 rh.fst then (run none 104 [AV.ptr 0 0] [Ob.box [AV.e (E.sl 9 ((rh.snd.ob 0).cell 0).data.toList),
  (num ((rh.snd.ob 0).cell 1).data.toInt), (num ((rh.snd.ob 0).cell 2).data.toInt)]]).bind fun rh_1 => bif okHeap [Ob.box [AV.e (E.sl 9 ((rh.snd.ob 0).cell 0).data.toList),
  (num ((rh.snd.ob 0).cell 1).data.toInt), (num ((rh.snd.ob 0).cell 2).data.toInt)]] rh_1.2 then bif okRes PP 4 rh_1.fst then (run none 105 [AV.ptr 0 0] [Ob.box [AV.e (E.sl 9
  ((rh_1.snd.ob 0).cell 0).data.toList), (num ((rh_1.snd.ob 0).cell 1).data.toInt), (num ((rh_1.snd.ob 0).cell 2).data.toInt)]]).bind fun rh_2 => bif okHeap [Ob.box [AV.e
  (E.sl 9 ((rh_1.snd.ob 0).cell 0).data.toList), (num ((rh_1.snd.ob 0).cell 1).data.toInt), (num ((rh_1.snd.ob 0).cell 2).data.toInt)]] rh_2.2 then bif okRes PP 33 rh_2.fst
  then some (Res.ret (AV.agg [num 4, num a1_1, num a1_2, num a1_3, num a1_4, yes a1_5, str a1_6, str a1_7, str a1_8, num a1_9, str a1_10, str a1_11, num a1_12, num a1_13, num
  a1_14, str a1_15, (str ((p0_0.getD (IntKind.i64.wrap (IntKind.i64.wrap (p0_1 + 1) - 1)).toNat E.nili).cell 0).toStr), (str ((p0_0.getD (IntKind.i64.wrap (IntKind.i64.wrap
  (IntKind.i64.wrap (p0_1 + 1) + 1) - 1)).toNat E.nili).cell 0).toStr), str rh.fst.val.data.toStr, yes rh_1.fst.val.data.toBool, AV.e (E.sl 97 rh_2.fst.val.data.toList), str
  a1_21, str a1_22, num a1_23, yes a1_24, num a1_25, num a1_26, str a1_27, num a1_28, AV.e (E.sl 97 a1_29)]), [Ob.box [AV.e (E.sl 9 ((rh_2.snd.ob 0).cell 0).data.toList), (num
  ((rh_2.snd.ob 0).cell 1).data.toInt), (num ((rh_2.snd.ob 0).cell 2).data.toInt)]]) else none else none else none else none else none else none else none else (run none 103
  [AV.ptr 0 0] [Ob.box [AV.e (E.sl 9 p0_0), (num (IntKind.i64.wrap (p0_1 + 1))), num p0_2]]).bind fun rh => bif okHeap [Ob.box [AV.e (E.sl 9 p0_0), (num (IntKind.i64.wrap
  (p0_1 + 1))), num p0_2]] rh.2 then bif okRes PP 9 rh.fst then (run none 104 [AV.ptr 0 0] [Ob.box [AV.e (E.sl 9 ((rh.snd.ob 0).cell 0).data.toList), (num ((rh.snd.ob 0).cell
  1).data.toInt), (num ((rh.snd.ob 0).cell 2).data.toInt)]]).bind fun rh_1 => bif okHeap [Ob.box [AV.e (E.sl 9 ((rh.snd.ob 0).cell 0).data.toList), (num ((rh.snd.ob 0).cell
  1).data.toInt), (num ((rh.snd.ob 0).cell 2).data.toInt)]] rh_1.2 then bif okRes PP 4 rh_1.fst then (run none 105 [AV.ptr 0 0] [Ob.box [AV.e (E.sl 9 ((rh_1.snd.ob 0).cell
  0).data.toList), (num ((rh_1.snd.ob 0).cell 1).data.toInt), (num ((rh_1.snd.ob 0).cell 2).data.toInt)]]).bind fun rh_2 => bif okHeap [Ob.box [AV.e (E.sl 9 ((rh_1.snd.ob
  0).cell 0).data.toList), (num ((rh_1.snd.ob 0).cell 1).data.toInt), (num ((rh_1.snd.ob 0).cell 2).data.toInt)]] rh_2.2 then bif okRes PP 33 rh_2.fst then some (Res.ret
  (AV.agg [num 4, num a1_1, num a1_2, num a1_3, num a1_4, yes a1_5, str a1_6, str a1_7, str a1_8, num a1_9, str a1_10, str a1_11, num a1_12, num a1_13, num a1_14, str a1_15,
  (str ((p0_0.getD (IntKind.i64.wrap (IntKind.i64.wrap (p0_1 + 1) - 1)).toNat E.nili).cell 0).toStr), str [], str rh.fst.val.data.toStr, yes rh_1.fst.val.data.toBool, AV.e
  (E.sl 97 rh_2.fst.val.data.toList), str a1_21, str a1_22, num a1_23, yes a1_24, num a1_25, num a1_26, str a1_27, num a1_28, AV.e (E.sl 97 a1_29)]), [Ob.box [AV.e (E.sl 9
  ((rh_2.snd.ob 0).cell 0).data.toList), (num ((rh_2.snd.ob 0).cell 1).data.toInt), (num ((rh_2.snd.ob 0).cell 2).data.toInt)]]) else none else none else none else none else
  none else none else none else bif (!p0_2 == 0) == false then bif decide ((↑p0_0.length : Int) ≤ p0_1) then (run none 103 [AV.ptr 0 0] [Ob.box [AV.e (E.sl 9 p0_0), num p0_1,
  num p0_2]]).bind fun rh => bif okHeap [Ob.box [AV.e (E.sl 9 p0_0), num p0_1, num p0_2]] rh.2 then bif okRes PP 9 rh.fst then (run none 104 [AV.ptr 0 0] [Ob.box [AV.e (E.sl 9
  ((rh.snd.ob 0).cell 0).data.toList), (num ((rh.snd.ob 0).cell 1).data.toInt), (num ((rh.snd.ob 0).cell 2).data.toInt)]]).bind fun rh_1 => bif okHeap [Ob.box [AV.e (E.sl 9
  ((rh.snd.ob 0).cell 0).data.toList), (num ((rh.snd.ob 0).cell 1).data.toInt), (num ((rh.snd.ob 0).cell 2).data.toInt)]] rh_1.2 then bif okRes PP 4 rh_1.fst then (run none
  105 [AV.ptr 0 0] [Ob.box [AV.e (E.sl 9 ((rh_1.snd.ob 0).cell 0).data.toList), (num ((rh_1.snd.ob 0).cell 1).data.toInt), (num ((rh_1.snd.ob 0).cell 2).data.toInt)]]).bind
  fun rh_2 => bif okHeap [Ob.box [AV.e (E.sl 9 ((rh_1.snd.ob 0).cell 0).data.toList), (num ((rh_1.snd.ob 0).cell 1).data.toInt), (num ((rh_1.snd.ob 0).cell 2).data.toInt)]]
  rh_2.2 then bif okRes PP 33 rh_2.fst then some (Res.ret (AV.agg [num 4, num a1_1, num a1_2, num a1_3, num a1_4, yes a1_5, str a1_6, str a1_7, str a1_8, num a1_9, str a1_10,
  str a1_11, num a1_12, num a1_13, num a1_14, str a1_15, str [], str [], str rh.fst.val.data.toStr, yes rh_1.fst.val.data.toBool, AV.e (E.sl 97 rh_2.fst.val.data.toList), str
  a1_21, str a1_22, num a1_23, yes a1_24, num a1_25, num a1_26, str a1_27, num a1_28, AV.e (E.sl 97 a1_29)]), [Ob.box [AV.e (E.sl 9 ((rh_2.snd.ob 0).cell 0).data.toList), (num
  ((rh_2.snd.ob 0).cell 1).data.toInt), (num ((rh_2.snd.ob 0).cell 2).data.toInt)]]) else none else none else none else none else none else none else bif decide (0 ≤
  IntKind.i64.wrap (IntKind.i64.wrap (p0_1 + 1) - 1)) && decide (IntKind.i64.wrap (IntKind.i64.wrap (p0_1 + 1) - 1) < (↑p0_0.length : Int)) then (run none 103 [AV.ptr 0 0]
  [Ob.box [AV.e (E.sl 9 p0_0), (num (IntKind.i64.wrap (p0_1 + 1))), num p0_2]]).bind fun rh => bif okHeap [Ob.box [AV.e (E.sl 9 p0_0), (num (IntKind.i64.wrap (p0_1 + 1))), num
  p0_2]] rh.2 then bif okRes PP 9 rh.fst then (run none 104 [AV.ptr 0 0] [Ob.box [AV.e (E.sl 9 ((rh.snd.ob 0).cell 0).data.toList), (num ((rh.snd.ob 0).cell 1).data.toInt),
  (num ((rh.snd.ob 0).cell 2).data.toInt)]]).bind fun rh_1 => bif okHeap [Ob.box [AV.e (E.sl 9 ((rh.snd.ob 0).cell 0).data.toList), (num ((rh.snd.ob 0).cell 1).data.toInt),
  (num ((rh.snd.ob 0).cell 2).data.toInt)]] rh_1.2 then bif okRes PP 4 rh_1.fst then (run none 105 [AV.ptr 0 0] [Ob.box [AV.e (E.sl 9 ((rh_1.snd.ob 0).cell 0).data.toList),
  (num ((rh_1.snd.ob 0).cell 1).data.toInt), (num ((rh_1.snd.ob 0).cell 2).data.toInt)]]).bind fun rh_2 => bif okHeap [Ob.box [AV.e (E.sl 9 ((rh_1.snd.ob 0).cell
  0).data.toList), (num ((rh_1.snd.ob 0).cell 1).data.toInt), (num ((rh_1.snd.ob 0).cell 2).data.toInt)]] rh_2.2 then bif okRes PP 33 rh_2.fst then some (Res.ret (AV.agg [num
  4, num a1_1, num a1_2, num a1_3, num a1_4, yes a1_5, str a1_6, str a1_7, str a1_8, num a1_9, str a1_10, str a1_11, num a1_12, num a1_13, num a1_14, str a1_15, str [], (str
  ((p0_0.getD (IntKind.i64.wrap (IntKind.i64.wrap (p0_1 + 1) - 1)).toNat E.nili).cell 0).toStr), str rh.fst.val.data.toStr, yes rh_1.fst.val.data.toBool, AV.e (E.sl 97
  rh_2.fst.val.data.toList), str a1_21, str a1_22, num a1_23, yes a1_24, num a1_25, num a1_26, str a1_27, num a1_28, AV.e (E.sl 97 a1_29)]), [Ob.box [AV.e (E.sl 9
  ((rh_2.snd.ob 0).cell 0).data.toList), (num ((rh_2.snd.ob 0).cell 1).data.toInt), (num ((rh_2.snd.ob 0).cell 2).data.toInt)]]) else none else none else none else none else
  none else none else none else (run none 103 [AV.ptr 0 0] [Ob.box [AV.e (E.sl 9 p0_0), num p0_1, num p0_2]]).bind fun rh => bif okHeap [Ob.box [AV.e (E.sl 9 p0_0), num p0_1,
  num p0_2]] rh.2 then bif okRes PP 9 rh.fst then (run none 104 [AV.ptr 0 0] [Ob.box [AV.e (E.sl 9 ((rh.snd.ob 0).cell 0).data.toList), (num ((rh.snd.ob 0).cell
  1).data.toInt), (num ((rh.snd.ob 0).cell 2).data.toInt)]]).bind fun rh_1 => bif okHeap [Ob.box [AV.e (E.sl 9 ((rh.snd.ob 0).cell 0).data.toList), (num ((rh.snd.ob 0).cell
  1).data.toInt), (num ((rh.snd.ob 0).cell 2).data.toInt)]] rh_1.2 then bif okRes PP 4 rh_1.fst then (run none 105 [AV.ptr 0 0] [Ob.box [AV.e (E.sl 9 ((rh_1.snd.ob 0).cell
  0).data.toList), (num ((rh_1.snd.ob 0).cell 1).data.toInt), (num ((rh_1.snd.ob 0).cell 2).data.toInt)]]).bind fun rh_2 => bif okHeap [Ob.box [AV.e (E.sl 9 ((rh_1.snd.ob
  0).cell 0).data.toList), (num ((rh_1.snd.ob 0).cell 1).data.toInt), (num ((rh_1.snd.ob 0).cell 2).data.toInt)]] rh_2.2 then bif okRes PP 33 rh_2.fst then some (Res.ret
  (AV.agg [num 4, num a1_1, num a1_2, num a1_3, num a1_4, yes a1_5, str a1_6, str a1_7, str a1_8, num a1_9, str a1_10, str a1_11, num a1_12, num a1_13, num a1_14, str a1_15,
  str [], str [], str rh.fst.val.data.toStr, yes rh_1.fst.val.data.toBool, AV.e (E.sl 97 rh_2.fst.val.data.toList), str a1_21, str a1_22, num a1_23, yes a1_24, num a1_25, num
  a1_26, str a1_27, num a1_28, AV.e (E.sl 97 a1_29)]), [Ob.box [AV.e (E.sl 9 ((rh_2.snd.ob 0).cell 0).data.toList), (num ((rh_2.snd.ob 0).cell 1).data.toInt), (num
  ((rh_2.snd.ob 0).cell 2).data.toInt)]]) else none else none else none else none else none else none := by kernel_rfl
theorem eq_rbodyK5 (run : RunF) (loop : LoopF) (p0_0 : List E) (p0_1 p0_2 a1_1 a1_2 a1_3 a1_4 : Int) (a1_5 : Bool) (a1_6 a1_7 a1_8 : List UInt8) (a1_9 : Int) (a1_10 a1_11 :
  List UInt8) (a1_12 a1_13 a1_14 : Int) (a1_15 a1_16 a1_17 a1_18 : List UInt8) (a1_19 : Bool) (a1_20 : List E) (a1_21 a1_22 : List UInt8) (a1_23 : Int) (a1_24 : Bool) (a1_25
  a1_26 : Int) (a1_27 : List UInt8) (a1_28 : Int) (a1_29 : List E) : bodyRun PP HH run loop none 66 [.ptr 0 0, .agg [num 5, num a1_1, num a1_2, num a1_3, num a1_4, yes a1_5,
  str a1_6, str a1_7, str a1_8, num a1_9, str a1_10, str a1_11, num a1_12, num a1_13, num a1_14, str a1_15, str a1_16, str a1_17, str a1_18, yes a1_19, .e (.sl 97 a1_20), str
  a1_21, str a1_22, num a1_23, yes a1_24, num a1_25, num a1_26, str a1_27, num a1_28, .e (.sl 97 a1_29)]] [.box [.e (.sl 9 p0_0), num p0_1, num p0_2]] = (run none 102 [AV.ptr
  0 0] [Ob.box [AV.e (E.sl 9 p0_0), num p0_1, num p0_2]]).bind fun rh => bif okHeap [Ob.box [AV.e (E.sl 9 p0_0), num p0_1, num p0_2]] rh.2 then bif okRes PP 9 rh.fst then (run
  none 103 [AV.ptr 0 0] [Ob.box [AV.e (E.sl 9 ((rh.snd.ob 0).cell 0).data.toList), (num ((rh.snd.ob 0).cell 1).data.toInt), (num ((rh.snd.ob 0).cell 2).data.toInt)]]).bind fun
  rh_1 => bif okHeap [Ob.box [AV.e (E.sl 9 ((rh.snd.ob 0).cell 0).data.toList), (num ((rh.snd.ob 0).cell 1).data.toInt), (num ((rh.snd.ob 0).cell 2).data.toInt)]] rh_1.2 then
  bif okRes PP 9 rh_1.fst then (run none 106 [AV.ptr 0 0] [Ob.box [AV.e (E.sl 9 ((rh_1.snd.ob 0).cell 0).data.toList), (num ((rh_1.snd.ob 0).cell 1).data.toInt), (num
  ((rh_1.snd.ob 0).cell 2).data.toInt)]]).bind fun rh_2 => bif okHeap [Ob.box [AV.e (E.sl 9 ((rh_1.snd.ob 0).cell 0).data.toList), (num ((rh_1.snd.ob 0).cell 1).data.toInt),
  (num ((rh_1.snd.ob 0).cell 2).data.toInt)]] rh_2.2 then bif okRes PP 37 rh_2.fst then some (Res.ret (AV.agg [num 5, num a1_1, num a1_2, num a1_3, num a1_4, yes a1_5, str
  rh.fst.val.data.toStr, str rh_1.fst.val.data.toStr, str a1_8, num a1_9, str a1_10, str a1_11, num a1_12, num a1_13, num a1_14, str a1_15, str a1_16, str a1_17, str a1_18,
  yes a1_19, AV.e (E.sl 97 a1_20), (str (rh_2.fst.val.data.cell 0).toStr), (str (rh_2.fst.val.data.cell 1).toStr), (num (rh_2.fst.val.data.cell 2).toInt), (yes
  (rh_2.fst.val.data.cell 3).toBool), (num (rh_2.fst.val.data.cell 4).toInt), (num (rh_2.fst.val.data.cell 5).toInt), (str (rh_2.fst.val.data.cell 6).toStr), (num
  (rh_2.fst.val.data.cell 7).toInt), AV.e (E.sl 97 (rh_2.fst.val.data.cell 8).toList)]), [Ob.box [AV.e (E.sl 9 ((rh_2.snd.ob 0).cell 0).data.toList), (num ((rh_2.snd.ob
  0).cell 1).data.toInt), (num ((rh_2.snd.ob 0).cell 2).data.toInt)]]) else none else none else none else none else none else none := by kernel_rfl
theorem eq_rbodyK6 (run : RunF) (loop : LoopF) (p0_0 : List E) (p0_1 p0_2 a1_1 a1_2 a1_3 a1_4 : Int) (a1_5 : Bool) (a1_6 a1_7 a1_8 : List UInt8) (a1_9 : Int) (a1_10 a1_11 :
  List UInt8) (a1_12 a1_13 a1_14 : Int) (a1_15 a1_16 a1_17 a1_18 : List UInt8) (a1_19 : Bool) (a1_20 : List E) (a1_21 a1_22 : List UInt8) (a1_23 : Int) (a1_24 : Bool) (a1_25
  a1_26 : Int) (a1_27 : List UInt8) (a1_28 : Int) (a1_29 : List E) : bodyRun PP HH run loop none 66 [.ptr 0 0, .agg [num 6, num a1_1, num a1_2, num a1_3, num a1_4, yes a1_5,
  str a1_6, str a1_7, str a1_8, num a1_9, str a1_10, str a1_11, num a1_12, num a1_13, num a1_14, str a1_15, str a1_16, str a1_17, str a1_18, yes a1_19, .e (.sl 97 a1_20), str
  a1_21, str a1_22, num a1_23, yes a1_24, num a1_25, num a1_26, str a1_27, num a1_28, .e (.sl 97 a1_29)]] [.box [.e (.sl 9 p0_0), num p0_1, num p0_2]] = (run none 65 [AV.ptr 0
  0] [Ob.box [AV.e (E.sl 9 p0_0), num p0_1, num p0_2]]).bind fun rh => bif okHeap [Ob.box [AV.e (E.sl 9 p0_0), num p0_1, num p0_2]] rh.2 then bif okRes PP 3 rh.fst then bif
  (!((rh.snd.ob 0).cell 2).data.toInt == 0) == false then bif decide ((↑((rh.snd.ob 0).cell 0).data.toList.length : Int) ≤ ((rh.snd.ob 0).cell 1).data.toInt) then (run none 65
  [AV.ptr 0 0] [Ob.box [AV.e (E.sl 9 ((rh.snd.ob 0).cell 0).data.toList), (num ((rh.snd.ob 0).cell 1).data.toInt), (num ((rh.snd.ob 0).cell 2).data.toInt)]]).bind fun rh_1 =>
  bif okHeap [Ob.box [AV.e (E.sl 9 ((rh.snd.ob 0).cell 0).data.toList), (num ((rh.snd.ob 0).cell 1).data.toInt), (num ((rh.snd.ob 0).cell 2).data.toInt)]] rh_1.2 then bif
  okRes PP 3 rh_1.fst then some (Res.ret (AV.agg [num 6, num a1_1, num a1_2, num rh.fst.val.data.toInt, num rh_1.fst.val.data.toInt, yes a1_5, str [], str a1_7, str a1_8, num
  a1_9, str a1_10, str a1_11, num a1_12, num a1_13, num a1_14, str a1_15, str a1_16, str a1_17, str a1_18, yes a1_19, AV.e (E.sl 97 a1_20), str a1_21, str a1_22, num a1_23,
  yes a1_24, num a1_25, num a1_26, str a1_27, num a1_28, AV.e (E.sl 97 a1_29)]), [Ob.box [AV.e (E.sl 9 ((rh_1.snd.ob 0).cell 0).data.toList), (num ((rh_1.snd.ob 0).cell
  1).data.toInt), (num ((rh_1.snd.ob 0).cell 2).data.toInt)]]) else none else none else bif decide (0 ≤ IntKind.i64.wrap (IntKind.i64.wrap (((rh.snd.ob 0).cell 1).data.toInt +
  1) - 1)) && decide (IntKind.i64.wrap (IntKind.i64.wrap (((rh.snd.ob 0).cell 1).data.toInt + 1) - 1) < (↑((rh.snd.ob 0).cell 0).data.toList.length : Int)) then (run none 65
  [AV.ptr 0 0] [Ob.box [AV.e (E.sl 9 ((rh.snd.ob 0).cell 0).data.toList), (num (IntKind.i64.wrap (((rh.snd.ob 0).cell 1).data.toInt + 1))), (num ((rh.snd.ob 0).cell
  2).data.toInt)]]).bind fun rh_1 => bif okHeap [Ob.box [AV.e (E.sl 9 ((rh.snd.ob 0).cell 0).data.toList), (num (IntKind.i64.wrap (((rh.snd.ob 0).cell 1).data.toInt + 1))),
  (num ((rh.snd.ob 0).cell 2).data.toInt)]] rh_1.2 then bif okRes PP 3 rh_1.fst then some (Res.ret (AV.agg [num 6, num a1_1, num a1_2, num rh.fst.val.data.toInt, num
  rh_1.fst.val.data.toInt, yes a1_5, (str ((((rh.snd.ob 0).cell 0).data.toList.getD (IntKind.i64.wrap (IntKind.i64.wrap (((rh.snd.ob 0).cell 1).data.toInt + 1) - 1)).toNat
  E.nili).cell 0).toStr), str a1_7, str a1_8, num a1_9, str a1_10, str a1_11, num a1_12, num a1_13, num a1_14, str a1_15, str a1_16, str a1_17, str a1_18, yes a1_19, AV.e
  (E.sl 97 a1_20), str a1_21, str a1_22, num a1_23, yes a1_24, num a1_25, num a1_26, str a1_27, num a1_28, AV.e (E.sl 97 a1_29)]), [Ob.box [AV.e (E.sl 9 ((rh_1.snd.ob 0).cell
  0).data.toList), (num ((rh_1.snd.ob 0).cell 1).data.toInt), (num ((rh_1.snd.ob 0).cell 2).data.toInt)]]) else none else none else none else (run none 65 [AV.ptr 0 0] [Ob.box
  [AV.e (E.sl 9 ((rh.snd.ob 0).cell 0).data.toList), (num ((rh.snd.ob 0).cell 1).data.toInt), (num ((rh.snd.ob 0).cell 2).data.toInt)]]).bind fun rh_1 => bif okHeap [Ob.box
  [AV.e (E.sl 9 ((rh.snd.ob 0).cell 0).data.toList), (num ((rh.snd.ob 0).cell 1).data.toInt), (num ((rh.snd.ob 0).cell 2).data.toInt)]] rh_1.2 then bif okRes PP 3 rh_1.fst
  then some (Res.ret (AV.agg [num 6, num a1_1, num a1_2, num rh.fst.val.data.toInt, num rh_1.fst.val.data.toInt, yes a1_5, str [], str a1_7, str a1_8, num a1_9, str a1_10, str
  a1_11, num a1_12, num a1_13, num a1_14, str a1_15, str a1_16, str a1_17, str a1_18, yes a1_19, AV.e (E.sl 97 a1_20), str a1_21, str a1_22, num a1_23, yes a1_24, num a1_25,
  num a1_26, str a1_27, num a1_28, AV.e (E.sl 97 a1_29)]), [Ob.box [AV.e (E.sl 9 ((rh_1.snd.ob 0).cell 0).data.toList), (num ((rh_1.snd.ob 0).cell 1).data.toInt), (num
  ((rh_1.snd.ob 0).cell 2).data.toInt)]]) else none else none else none else none := by kernel_rfl
theorem eq_rbodyK7 (run : RunF) (loop : LoopF) (p0_0 : List E) (p0_1 p0_2 a1_1 a1_2 a1_3 a1_4 : Int) (a1_5 : Bool) (a1_6 a1_7 a1_8 : List UInt8) (a1_9 : Int) (a1_10 a1_11 :
  List UInt8) (a1_12 a1_13 a1_14 : Int) (a1_15 a1_16 a1_17 a1_18 : List UInt8) (a1_19 : Bool) (a1_20 : List E) (a1_21 a1_22 : List UInt8) (a1_23 : Int) (a1_24 : Bool) (a1_25
  a1_26 : Int) (a1_27 : List UInt8) (a1_28 : Int) (a1_29 : List E) : bodyRun PP HH run loop none 66 [.ptr 0 0, .agg [num 7, num a1_1, num a1_2, num a1_3, num a1_4, yes a1_5,
  str a1_6, str a1_7, str a1_8, num a1_9, str a1_10, str a1_11, num a1_12, num a1_13, num a1_14, str a1_15, str a1_16, str a1_17, str a1_18, yes a1_19, .e (.sl 97 a1_20), str
  a1_21, str a1_22, num a1_23, yes a1_24, num a1_25, num a1_26, str a1_27, num a1_28, .e (.sl 97 a1_29)]] [.box [.e (.sl 9 p0_0), num p0_1, num p0_2]] = (run none 65 [AV.ptr 0
  0] [Ob.box [AV.e (E.sl 9 p0_0), num p0_1, num p0_2]]).bind fun rh => bif okHeap [Ob.box [AV.e (E.sl 9 p0_0), num p0_1, num p0_2]] rh.2 then bif okRes PP 3 rh.fst then some
  (Res.ret (AV.agg [num 7, num a1_1, num a1_2, num rh.fst.val.data.toInt, num a1_4, yes a1_5, str a1_6, str a1_7, str a1_8, num a1_9, str a1_10, str a1_11, num a1_12, num
  a1_13, num a1_14, str a1_15, str a1_16, str a1_17, str a1_18, yes a1_19, AV.e (E.sl 97 a1_20), str a1_21, str a1_22, num a1_23, yes a1_24, num a1_25, num a1_26, str a1_27,
  num a1_28, AV.e (E.sl 97 a1_29)]), [Ob.box [AV.e (E.sl 9 ((rh.snd.ob 0).cell 0).data.toList), (num ((rh.snd.ob 0).cell 1).data.toInt), (num ((rh.snd.ob 0).cell
  2).data.toInt)]]) else none else none := by kernel_rfl
theorem eq_rbodyK8 (run : RunF) (loop : LoopF) (p0_0 : List E) (p0_1 p0_2 a1_1 a1_2 a1_3 a1_4 : Int) (a1_5 : Bool) (a1_6 a1_7 a1_8 : List UInt8) (a1_9 : Int) (a1_10 a1_11 :
  List UInt8) (a1_12 a1_13 a1_14 : Int) (a1_15 a1_16 a1_17 a1_18 : List UInt8) (a1_19 : Bool) (a1_20 : List E) (a1_21 a1_22 : List UInt8) (a1_23 : Int) (a1_24 : Bool) (a1_25
  a1_26 : Int) (a1_27 : List UInt8) (a1_28 : Int) (a1_29 : List E) : bodyRun PP HH run loop none 66 [.ptr 0 0, .agg [num 8, num a1_1, num a1_2, num a1_3, num a1_4, yes a1_5,
  str a1_6, str a1_7, str a1_8, num a1_9, str a1_10, str a1_11, num a1_12, num a1_13, num a1_14, str a1_15, str a1_16, str a1_17, str a1_18, yes a1_19, .e (.sl 97 a1_20), str
  a1_21, str a1_22, num a1_23, yes a1_24, num a1_25, num a1_26, str a1_27, num a1_28, .e (.sl 97 a1_29)]] [.box [.e (.sl 9 p0_0), num p0_1, num p0_2]] = (run none 65 [AV.ptr 0
  0] [Ob.box [AV.e (E.sl 9 p0_0), num p0_1, num p0_2]]).bind fun rh => bif okHeap [Ob.box [AV.e (E.sl 9 p0_0), num p0_1, num p0_2]] rh.2 then bif okRes PP 3 rh.fst then (run
  none 104 [AV.ptr 0 0] [Ob.box [AV.e (E.sl 9 ((rh.snd.ob 0).cell 0).data.toList), (num ((rh.snd.ob 0).cell 1).data.toInt), (num ((rh.snd.ob 0).cell 2).data.toInt)]]).bind fun
  rh_1 => bif okHeap [Ob.box [AV.e (E.sl 9 ((rh.snd.ob 0).cell 0).data.toList), (num ((rh.snd.ob 0).cell 1).data.toInt), (num ((rh.snd.ob 0).cell 2).data.toInt)]] rh_1.2 then
  bif okRes PP 4 rh_1.fst then some (Res.ret (AV.agg [num 8, num a1_1, num a1_2, num rh.fst.val.data.toInt, num a1_4, yes rh_1.fst.val.data.toBool, str a1_6, str a1_7, str
  a1_8, num a1_9, str a1_10, str a1_11, num a1_12, num a1_13, num a1_14, str a1_15, str a1_16, str a1_17, str a1_18, yes a1_19, AV.e (E.sl 97 a1_20), str a1_21, str a1_22, num
  a1_23, yes a1_24, num a1_25, num a1_26, str a1_27, num a1_28, AV.e (E.sl 97 a1_29)]), [Ob.box [AV.e (E.sl 9 ((rh_1.snd.ob 0).cell 0).data.toList), (num ((rh_1.snd.ob 0).cell
  1).data.toInt), (num ((rh_1.snd.ob 0).cell 2).data.toInt)]]) else none else none else none else none := by kernel_rfl
theorem eq_rbodyK9 (run : RunF) (loop : LoopF) (p0_0 : List E) (p0_1 p0_2 a1_1 a1_2 a1_3 a1_4 : Int) (a1_5 : Bool) (a1_6 a1_7 a1_8 : List UInt8) (a1_9 : Int) (a1_10 a1_11 :
  List UInt8) (a1_12 a1_13 a1_14 : Int) (a1_15 a1_16 a1_17 a1_18 : List UInt8) (a1_19 : Bool) (a1_20 : List E) (a1_21 a1_22 : List UInt8) (a1_23 : Int) (a1_24 : Bool) (a1_25
  a1_26 : Int) (a1_27 : List UInt8) (a1_28 : Int) (a1_29 : List E) : bodyRun PP HH run loop none 66 [.ptr 0 0, .agg [num 9, num a1_1, num a1_2, num a1_3, num a1_4, yes a1_5,
  str a1_6, str a1_7, str a1_8, num a1_9, str a1_10, str a1_11, num a1_12, num a1_13, num a1_14, str a1_15, str a1_16, str a1_17, str a1_18, yes a1_19, .e (.sl 97 a1_20), str
  a1_21, str a1_22, num a1_23, yes a1_24, num a1_25, num a1_26, str a1_27, num a1_28, .e (.sl 97 a1_29)]] [.box [.e (.sl 9 p0_0), num p0_1, num p0_2]] = (run none 65 [AV.ptr 0
  0] [Ob.box [AV.e (E.sl 9 p0_0), num p0_1, num p0_2]]).bind fun rh => bif okHeap [Ob.box [AV.e (E.sl 9 p0_0), num p0_1, num p0_2]] rh.2 then bif okRes PP 3 rh.fst then (run
  none 104 [AV.ptr 0 0] [Ob.box [AV.e (E.sl 9 ((rh.snd.ob 0).cell 0).data.toList), (num ((rh.snd.ob 0).cell 1).data.toInt), (num ((rh.snd.ob 0).cell 2).data.toInt)]]).bind fun
  rh_1 => bif okHeap [Ob.box [AV.e (E.sl 9 ((rh.snd.ob 0).cell 0).data.toList), (num ((rh.snd.ob 0).cell 1).data.toInt), (num ((rh.snd.ob 0).cell 2).data.toInt)]] rh_1.2 then
  bif okRes PP 4 rh_1.fst then some (Res.ret (AV.agg [num 9, num a1_1, num a1_2, num rh.fst.val.data.toInt, num a1_4, yes rh_1.fst.val.data.toBool, str a1_6, str a1_7, str
  a1_8, num a1_9, str a1_10, str a1_11, num a1_12, num a1_13, num a1_14, str a1_15, str a1_16, str a1_17, str a1_18, yes a1_19, AV.e (E.sl 97 a1_20), str a1_21, str a1_22, num
  a1_23, yes a1_24, num a1_25, num a1_26, str a1_27, num a1_28, AV.e (E.sl 97 a1_29)]), [Ob.box [AV.e (E.sl 9 ((rh_1.snd.ob 0).cell 0).data.toList), (num ((rh_1.snd.ob 0).cell
  1).data.toInt), (num ((rh_1.snd.ob 0).cell 2).data.toInt)]]) else none else none else none else none := by kernel_rfl
theorem eq_rbodyK10 (run : RunF) (loop : LoopF) (p0_0 : List E) (p0_1 p0_2 a1_1 a1_2 a1_3 a1_4 : Int) (a1_5 : Bool) (a1_6 a1_7 a1_8 : List UInt8) (a1_9 : Int) (a1_10 a1_11 :
  List UInt8) (a1_12 a1_13 a1_14 : Int) (a1_15 a1_16 a1_17 a1_18 : List UInt8) (a1_19 : Bool) (a1_20 : List E) (a1_21 a1_22 : List UInt8) (a1_23 : Int) (a1_24 : Bool) (a1_25
  a1_26 : Int) (a1_27 : List UInt8) (a1_28 : Int) (a1_29 : List E) : bodyRun PP HH run loop none 66 [.ptr 0 0, .agg [num 10, num a1_1, num a1_2, num a1_3, num a1_4, yes a1_5,
  str a1_6, str a1_7, str a1_8, num a1_9, str a1_10, str a1_11, num a1_12, num a1_13, num a1_14, str a1_15, str a1_16, str a1_17, str a1_18, yes a1_19, .e (.sl 97 a1_20), str
  a1_21, str a1_22, num a1_23, yes a1_24, num a1_25, num a1_26, str a1_27, num a1_28, .e (.sl 97 a1_29)]] [.box [.e (.sl 9 p0_0), num p0_1, num p0_2]] = some (Res.ret (AV.agg
  [num 10, num a1_1, num a1_2, num a1_3, num a1_4, yes a1_5, str a1_6, str a1_7, str a1_8, num a1_9, str a1_10, str a1_11, num a1_12, num a1_13, num a1_14, str a1_15, str
  a1_16, str a1_17, str a1_18, yes a1_19, AV.e (E.sl 97 a1_20), str a1_21, str a1_22, num a1_23, yes a1_24, num a1_25, num a1_26, str a1_27, num a1_28, AV.e (E.sl 97 a1_29)]),
  [Ob.box [AV.e (E.sl 9 p0_0), num p0_1, num p0_2]]) := by kernel_rfl
theorem eq_rbodyK11 (run : RunF) (loop : LoopF) (p0_0 : List E) (p0_1 p0_2 a1_1 a1_2 a1_3 a1_4 : Int) (a1_5 : Bool) (a1_6 a1_7 a1_8 : List UInt8) (a1_9 : Int) (a1_10 a1_11 :
  List UInt8) (a1_12 a1_13 a1_14 : Int) (a1_15 a1_16 a1_17 a1_18 : List UInt8) (a1_19 : Bool) (a1_20 : List E) (a1_21 a1_22 : List UInt8) (a1_23 : Int) (a1_24 : Bool) (a1_25
  a1_26 : Int) (a1_27 : List UInt8) (a1_28 : Int) (a1_29 : List E) : bodyRun PP HH run loop none 66 [.ptr 0 0, .agg [num 11, num a1_1, num a1_2, num a1_3, num a1_4, yes a1_5,
  str a1_6, str a1_7, str a1_8, num a1_9, str a1_10, str a1_11, num a1_12, num a1_13, num a1_14, str a1_15, str a1_16, str a1_17, str a1_18, yes a1_19, .e (.sl 97 a1_20), str
  a1_21, str a1_22, num a1_23, yes a1_24, num a1_25, num a1_26, str a1_27, num a1_28, .e (.sl 97 a1_29)]] [.box [.e (.sl 9 p0_0), num p0_1, num p0_2]] = some (Res.ret (AV.agg
  [num 11, num a1_1, num a1_2, num a1_3, num a1_4, yes a1_5, str a1_6, str a1_7, str a1_8, num a1_9, str a1_10, str a1_11, num a1_12, num a1_13, num a1_14, str a1_15, str
  a1_16, str a1_17, str a1_18, yes a1_19, AV.e (E.sl 97 a1_20), str a1_21, str a1_22, num a1_23, yes a1_24, num a1_25, num a1_26, str a1_27, num a1_28, AV.e (E.sl 97 a1_29)]),
  [Ob.box [AV.e (E.sl 9 p0_0), num p0_1, num p0_2]]) := by kernel_rfl
theorem eq_rbodyK12 (run : RunF) (loop : LoopF) (p0_0 : List E) (p0_1 p0_2 a1_1 a1_2 a1_3 a1_4 : Int) (a1_5 : Bool) (a1_6 a1_7 a1_8 : List UInt8) (a1_9 : Int) (a1_10 a1_11 :
  List UInt8) (a1_12 a1_13 a1_14 : Int) (a1_15 a1_16 a1_17 a1_18 : List UInt8) (a1_19 : Bool) (a1_20 : List E) (a1_21 a1_22 : List UInt8) (a1_23 : Int) (a1_24 : Bool) (a1_25
  a1_26 : Int) (a1_27 : List UInt8) (a1_28 : Int) (a1_29 : List E) : bodyRun PP HH run loop none 66 [.ptr 0 0, .agg [num 12, num a1_1, num a1_2, num a1_3, num a1_4, yes a1_5,
  str a1_6, str a1_7, str a1_8, num a1_9, str a1_10, str a1_11, num a1_12, num a1_13, num a1_14, str a1_15, str a1_16, str a1_17, str a1_18, yes a1_19, .e (.sl 97 a1_20), str
  a1_21, str a1_22, num a1_23, yes a1_24, num a1_25, num a1_26, str a1_27, num a1_28, .e (.sl 97 a1_29)]] [.box [.e (.sl 9 p0_0), num p0_1, num p0_2]] = some (Res.ret (AV.agg
  [num 12, num a1_1, num a1_2, num a1_3, num a1_4, yes a1_5, str a1_6, str a1_7, str a1_8, num a1_9, str a1_10, str a1_11, num a1_12, num a1_13, num a1_14, str a1_15, str
  a1_16, str a1_17, str a1_18, yes a1_19, AV.e (E.sl 97 a1_20), str a1_21, str a1_22, num a1_23, yes a1_24, num a1_25, num a1_26, str a1_27, num a1_28, AV.e (E.sl 97 a1_29)]),
  [Ob.box [AV.e (E.sl 9 p0_0), num p0_1, num p0_2]]) := by kernel_rfl
theorem eq_rbodyK13 (run : RunF) (loop : LoopF) (p0_0 : List E) (p0_1 p0_2 a1_1 a1_2 a1_3 a1_4 : Int) (a1_5 : Bool) (a1_6 a1_7 a1_8 : List UInt8) (a1_9 : Int) (a1_10 a1_11 :
  List UInt8) (a1_12 a1_13 a1_14 : Int) (a1_15 a1_16 a1_17 a1_18 : List UInt8) (a1_19 : Bool) (a1_20 : List E) (a1_21 a1_22 : List UInt8) (a1_23 : Int) (a1_24 : Bool) (a1_25
  a1_26 : Int) (a1_27 : List UInt8) (a1_28 : Int) (a1_29 : List E) : bodyRun PP HH run loop none 66 [.ptr 0 0, .agg [num 13, num a1_1, num a1_2, num a1_3, num a1_4, yes a1_5,
  str a1_6, str a1_7, str a1_8, num a1_9, str a1_10, str a1_11, num a1_12, num a1_13, num a1_14, str a1_15, str a1_16, str a1_17, str a1_18, yes a1_19, .e (.sl 97 a1_20), str
  a1_21, str a1_22, num a1_23, yes a1_24, num a1_25, num a1_26, str a1_27, num a1_28, .e (.sl 97 a1_29)]] [.box [.e (.sl 9 p0_0), num p0_1, num p0_2]] = bif (!p0_2 == 0) ==
  false then bif decide ((↑p0_0.length : Int) ≤ p0_1) then some (Res.ret (AV.agg [num 13, num a1_1, num a1_2, num a1_3, num a1_4, yes a1_5, str [], str a1_7, str a1_8, num
  a1_9, str a1_10, str a1_11, num a1_12, num a1_13, num a1_14, str a1_15, str a1_16, str a1_17, str a1_18, yes a1_19, AV.e (E.sl 97 a1_20), str a1_21, str a1_22, num a1_23,
  yes a1_24, num a1_25, num a1_26, str a1_27, num a1_28, AV.e (E.sl 97 a1_29)]), [Ob.box [AV.e (E.sl 9 p0_0), num p0_1, num p0_2]]) else bif decide (0 ≤ IntKind.i64.wrap
  (IntKind.i64.wrap (p0_1 + 1) - 1)) && decide (IntKind.i64.wrap (IntKind.i64.wrap (p0_1 + 1) - 1) < (↑p0_0.length : Int)) then some (Res.ret (AV.agg [num 13, num a1_1, num
  a1_2, num a1_3, num a1_4, yes a1_5, (str ((p0_0.getD (IntKind.i64.wrap (IntKind.i64.wrap (p0_1 + 1) - 1)).toNat E.nili).cell 0).toStr), str a1_7, str a1_8, num a1_9, str
  a1_10, str a1_11, num a1_12, num a1_13, num a1_14, str a1_15, str a1_16, str a1_17, str a1_18, yes a1_19, AV.e (E.sl 97 a1_20), str a1_21, str a1_22, num a1_23, yes a1_24,
  num a1_25, num a1_26, str a1_27, num a1_28, AV.e (E.sl 97 a1_29)]), [Ob.box [AV.e (E.sl 9 p0_0), (num (IntKind.i64.wrap (p0_1 + 1))), num p0_2]]) else none else some
  (Res.ret (AV.agg [num 13, num a1_1, num a1_2, num a1_3, num a1_4, yes a1_5, str [], str a1_7, str a1_8, num a1_9, str a1_10, str a1_11, num a1_12, num a1_13, num a1_14, str
  a1_15, str a1_16, str a1_17, str a1_18, yes a1_19, AV.e (E.sl 97 a1_20), str a1_21, str a1_22, num a1_23, yes a1_24, num a1_25, num a1_26, str a1_27, num a1_28, AV.e (E.sl
  97 a1_29)]), [Ob.box [AV.e (E.sl 9 p0_0), num p0_1, num p0_2]]) := by kernel_rfl
theorem eq_rbodyK14 (run : RunF) (loop : LoopF) (p0_0 : List E) (p0_1 p0_2 a1_1 a1_2 a1_3 a1_4 : Int) (a1_5 : Bool) (a1_6 a1_7 a1_8 : List UInt8) (a1_9 : Int) (a1_10 a1_11 :
  List UInt8) (a1_12 a1_13 a1_14 : Int) (a1_15 a1_16 a1_17 a1_18 : List UInt8) (a1_19 : Bool) (a1_20 : List E) (a1_21 a1_22 : List UInt8) (a1_23 : Int) (a1_24 : Bool) (a1_25
  a1_26 : Int) (a1_27 : List UInt8) (a1_28 : Int) (a1_29 : List E) : bodyRun PP HH run loop none 66 [.ptr 0 0, .agg [num 14, num a1_1, num a1_2, num a1_3, num a1_4, yes a1_5,
  str a1_6, str a1_7, str a1_8, num a1_9, str a1_10, str a1_11, num a1_12, num a1_13, num a1_14, str a1_15, str a1_16, str a1_17, str a1_18, yes a1_19, .e (.sl 97 a1_20), str
  a1_21, str a1_22, num a1_23, yes a1_24, num a1_25, num a1_26, str a1_27, num a1_28, .e (.sl 97 a1_29)]] [.box [.e (.sl 9 p0_0), num p0_1, num p0_2]] = bif (!p0_2 == 0) ==
  false then bif decide ((↑p0_0.length : Int) ≤ p0_1) then some (Res.ret (AV.agg [num 14, num a1_1, num a1_2, num a1_3, num a1_4, yes a1_5, str [], str a1_7, str a1_8, num
  a1_9, str a1_10, str a1_11, num a1_12, num a1_13, num a1_14, str a1_15, str a1_16, str a1_17, str a1_18, yes a1_19, AV.e (E.sl 97 a1_20), str a1_21, str a1_22, num a1_23,
  yes a1_24, num a1_25, num a1_26, str a1_27, num a1_28, AV.e (E.sl 97 a1_29)]), [Ob.box [AV.e (E.sl 9 p0_0), num p0_1, num p0_2]]) else bif decide (0 ≤ IntKind.i64.wrap
  (IntKind.i64.wrap (p0_1 + 1) - 1)) && decide (IntKind.i64.wrap (IntKind.i64.wrap (p0_1 + 1) - 1) < (↑p0_0.length : Int)) then some (Res.ret (AV.agg [num 14, num a1_1, num
  a1_2, num a1_3, num a1_4, yes a1_5, (str ((p0_0.getD (IntKind.i64.wrap (IntKind.i64.wrap (p0_1 + 1) - 1)).toNat E.nili).cell 0).toStr), str a1_7, str a1_8, num a1_9, str
  a1_10, str a1_11, num a1_12, num a1_13, num a1_14, str a1_15, str a1_16, str a1_17, str a1_18, yes a1_19, AV.e (E.sl 97 a1_20), str a1_21, str a1_22, num a1_23, yes a1_24,
  num a1_25, num a1_26, str a1_27, num a1_28, AV.e (E.sl 97 a1_29)]), [Ob.box [AV.e (E.sl 9 p0_0), (num (IntKind.i64.wrap (p0_1 + 1))), num p0_2]]) else none else some
  (Res.ret (AV.agg [num 14, num a1_1, num a1_2, num a1_3, num a1_4, yes a1_5, str [], str a1_7, str a1_8, num a1_9, str a1_10, str a1_11, num a1_12, num a1_13, num a1_14, str
  a1_15, str a1_16, str a1_17, str a1_18, yes a1_19, AV.e (E.sl 97 a1_20), str a1_21, str a1_22, num a1_23, yes a1_24, num a1_25, num a1_26, str a1_27, num a1_28, AV.e (E.sl
  97 a1_29)]), [Ob.box [AV.e (E.sl 9 p0_0), num p0_1, num p0_2]]) := by kernel_rfl
theorem eq_rbodyK15 (run : RunF) (loop : LoopF) (p0_0 : List E) (p0_1 p0_2 a1_1 a1_2 a1_3 a1_4 : Int) (a1_5 : Bool) (a1_6 a1_7 a1_8 : List UInt8) (a1_9 : Int) (a1_10 a1_11 :
  List UInt8) (a1_12 a1_13 a1_14 : Int) (a1_15 a1_16 a1_17 a1_18 : List UInt8) (a1_19 : Bool) (a1_20 : List E) (a1_21 a1_22 : List UInt8) (a1_23 : Int) (a1_24 : Bool) (a1_25
  a1_26 : Int) (a1_27 : List UInt8) (a1_28 : Int) (a1_29 : List E) : bodyRun PP HH run loop none 66 [.ptr 0 0, .agg [num 15, num a1_1, num a1_2, num a1_3, num a1_4, yes a1_5,
  str a1_6, str a1_7, str a1_8, num a1_9, str a1_10, str a1_11, num a1_12, num a1_13, num a1_14, str a1_15, str a1_16, str a1_17, str a1_18, yes a1_19, .e (.sl 97 a1_20), str
  a1_21, str a1_22, num a1_23, yes a1_24, num a1_25, num a1_26, str a1_27, num a1_28, .e (.sl 97 a1_29)]] [.box [.e (.sl 9 p0_0), num p0_1, num p0_2]] = bif (!p0_2 == 0) ==
  false then bif decide ((↑p0_0.length : Int) ≤ p0_1) then some (Res.ret (AV.agg [num 15, num a1_1, num a1_2, num a1_3, num a1_4, yes a1_5, str [], str a1_7, str a1_8, num
  a1_9, str a1_10, str a1_11, num a1_12, num a1_13, num a1_14, str a1_15, str a1_16, str a1_17, str a1_18, yes a1_19, AV.e (E.sl 97 a1_20), str a1_21, str a1_22, num a1_23,
  yes a1_24, num a1_25, num a1_26, str a1_27, num a1_28, AV.e (E.sl 97 a1_29)]), [Ob.box [AV.e (E.sl 9 p0_0), num p0_1, num p0_2]]) else bif decide (0 ≤ IntKind.i64.wrap
  (IntKind.i64.wrap (p0_1 + 1) - 1)) && decide (IntKind.i64.wrap (IntKind.i64.wrap (p0_1 + 1) - 1) < (↑p0_0.length : Int)) then some (Res.ret (AV.agg [num 15, num a1_1, num
  a1_2, num a1_3, num a1_4, yes a1_5, (str ((p0_0.getD (IntKind.i64.wrap (IntKind.i64.wrap (p0_1 + 1) - 1)).toNat E.nili).cell 0).toStr), str a1_7, str a1_8, num a1_9, str
  a1_10, str a1_11, num a1_12, num a1_13, num a1_14, str a1_15, str a1_16, str a1_17, str a1_18, yes a1_19, AV.e (E.sl 97 a1_20), str a1_21, str a1_22, num a1_23, yes a1_24,
  num a1_25, num a1_26, str a1_27, num a1_28, AV.e (E.sl 97 a1_29)]), [Ob.box [AV.e (E.sl 9 p0_0), (num (IntKind.i64.wrap (p0_1 + 1))), num p0_2]]) else none else some
  (Res.ret (AV.agg [num 15, num a1_1, num a1_2, num a1_3, num a1_4, yes a1_5, str [], str a1_7, str a1_8, num a1_9, str a1_10, str a1_11, num a1_12, num a1_13, num a1_14, str
  a1_15, str a1_16, str a1_17, str a1_18, yes a1_19, AV.e (E.sl 97 a1_20), str a1_21, str a1_22, num a1_23, yes a1_24, num a1_25, num a1_26, str a1_27, num a1_28, AV.e (E.sl
  97 a1_29)]), [Ob.box [AV.e (E.sl 9 p0_0), num p0_1, num p0_2]]) := by kernel_rfl
end Go.Proofs.YtmocefjnplmibaaGreatDoor
