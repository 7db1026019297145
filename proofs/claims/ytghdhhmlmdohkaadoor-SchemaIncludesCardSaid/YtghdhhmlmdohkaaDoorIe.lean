/- The equations of functions, as a program of mine prints them. -/
import Derived.Test.YtghdhhmlmdohkaaDoorBase
namespace Go.Proofs.YtghdhhmlmdohkaaDoor
open Go Go.Den
set_option maxRecDepth 100000
set_option maxHeartbeats 0

theorem eq_SIncludes (run : RunF) (loop : LoopF) (a0_0 : Int) (a0_1 : Int) (a0_2 : Int) (a0_3 : List E) (a0_4 : List E) (a0_5 : List E) (a1_0 : Int) (a1_1 : Int) (a1_2 : Int) (a1_3 : List E) (a1_4 : List E) (a1_5 : List E) (a2 : List UInt8) :
    bodyRun Go.Proofs.Tryd.prog HH run loop none 9 [.agg [.e (.int .i64 a0_0), .e (.int .i64 a0_1), .e (.int .i64 a0_2), .e (.sl 9 a0_3), .e (.sl 26 a0_4), .e (.sl 64 a0_5)], .agg [.e (.int .i64 a1_0), .e (.int .i64 a1_1), .e (.int .i64 a1_2), .e (.sl 9 a1_3), .e (.sl 26 a1_4), .e (.sl 64 a1_5)], .e (.str a2)] [] =
      (run none 12
            [AV.agg
                [AV.e (E.int IntKind.i64 a0_0), AV.e (E.int IntKind.i64 a0_1), AV.e (E.int IntKind.i64 a0_2),
                  AV.e (E.sl 9 a0_3), AV.e (E.sl 26 a0_4), AV.e (E.sl 64 a0_5)]]
            []).bind
        fun rh =>
        bif okHeap [] rh.2 then
          bif okRes Go.Proofs.Tryd.prog 4 rh.fst then
            bif (!rh.fst.val.data.toBool) == false then
              (run none 12
                    [AV.agg
                        [AV.e (E.int IntKind.i64 a1_0), AV.e (E.int IntKind.i64 a1_1), AV.e (E.int IntKind.i64 a1_2),
                          AV.e (E.sl 9 a1_3), AV.e (E.sl 26 a1_4), AV.e (E.sl 64 a1_5)]]
                    []).bind
                fun rh =>
                bif okHeap [] rh.2 then
                  bif okRes Go.Proofs.Tryd.prog 4 rh.fst then
                    bif (!rh.fst.val.data.toBool) == false then
                      (run none 15
                            [AV.agg
                                [AV.e (E.int IntKind.i64 a0_0), AV.e (E.int IntKind.i64 a0_1), AV.e (E.int IntKind.i64 a0_2),
                                  AV.e (E.sl 9 a0_3), AV.e (E.sl 26 a0_4), AV.e (E.sl 64 a0_5)]]
                            []).bind
                        fun rh =>
                        bif okHeap [] rh.2 then
                          bif okRes Go.Proofs.Tryd.prog 29 rh.fst then
                            bif (!rh.fst.val.data.toInt == 0) == false then
                              (run none 15
                                    [AV.agg
                                        [AV.e (E.int IntKind.i64 a1_0), AV.e (E.int IntKind.i64 a1_1),
                                          AV.e (E.int IntKind.i64 a1_2), AV.e (E.sl 9 a1_3), AV.e (E.sl 26 a1_4),
                                          AV.e (E.sl 64 a1_5)]]
                                    []).bind
                                fun rh =>
                                bif okHeap [] rh.2 then
                                  bif okRes Go.Proofs.Tryd.prog 29 rh.fst then
                                    bif bif !rh.fst.val.data.toInt == 0 then true else decide (3000 < (↑a2.length : Int)) then
                                      some (Res.ret (AV.e (E.bool true)), [])
                                    else
                                      (run none 29
                                            [AV.agg
                                                [AV.e (E.int IntKind.i64 a0_0), AV.e (E.int IntKind.i64 a0_1),
                                                  AV.e (E.int IntKind.i64 a0_2), AV.e (E.sl 9 a0_3), AV.e (E.sl 26 a0_4),
                                                  AV.e (E.sl 64 a0_5)],
                                              AV.agg
                                                [AV.e (E.int IntKind.i64 a1_0), AV.e (E.int IntKind.i64 a1_1),
                                                  AV.e (E.int IntKind.i64 a1_2), AV.e (E.sl 9 a1_3), AV.e (E.sl 26 a1_4),
                                                  AV.e (E.sl 64 a1_5)]]
                                            []).bind
                                        fun rh =>
                                        bif okHeap [] rh.2 then
                                          bif okRes Go.Proofs.Tryd.prog 4 rh.fst then
                                            bif (!rh.fst.val.data.toBool) == false then
                                              (run none 31
                                                    [AV.agg
                                                        [AV.e (E.int IntKind.i64 a1_0), AV.e (E.int IntKind.i64 a1_1),
                                                          AV.e (E.int IntKind.i64 a1_2), AV.e (E.sl 9 a1_3),
                                                          AV.e (E.sl 26 a1_4), AV.e (E.sl 64 a1_5)],
                                                      AV.e (E.str a2)]
                                                    []).bind
                                                fun rh =>
                                                bif okHeap [] rh.2 then
                                                  bif okRes Go.Proofs.Tryd.prog 4 rh.fst then
                                                    bif (!rh.fst.val.data.toBool) == false then
                                                      (run none 31
                                                            [AV.agg
                                                                [AV.e (E.int IntKind.i64 a0_0), AV.e (E.int IntKind.i64 a0_1),
                                                                  AV.e (E.int IntKind.i64 a0_2), AV.e (E.sl 9 a0_3),
                                                                  AV.e (E.sl 26 a0_4), AV.e (E.sl 64 a0_5)],
                                                              AV.e (E.str a2)]
                                                            []).bind
                                                        fun rh =>
                                                        bif okHeap [] rh.2 then
                                                          bif okRes Go.Proofs.Tryd.prog 4 rh.fst then
                                                            some (Res.ret (AV.e (E.bool rh.fst.val.data.toBool)), [])
                                                          else none
                                                        else none
                                                    else some (Res.ret (AV.e (E.bool true)), [])
                                                  else none
                                                else none
                                            else some (Res.ret (AV.e (E.bool true)), [])
                                          else none
                                        else none
                                  else none
                                else none
                            else some (Res.ret (AV.e (E.bool true)), [])
                          else none
                        else none
                    else some (Res.ret (AV.e (E.bool true)), [])
                  else none
                else none
            else some (Res.ret (AV.e (E.bool true)), [])
          else none
        else none := by kernel_rfl

theorem eq_Includes (run : RunF) (loop : LoopF) (a0_0 : Int) (a0_1 : Int) (a0_2 : Int) (a0_3 : List E) (a0_4 : List E) (a0_5 : List E) (a1_0 : Int) (a1_1 : Int) (a1_2 : Int) (a1_3 : List E) (a1_4 : List E) (a1_5 : List E) :
    bodyRun Go.Proofs.Tryd.prog HH run loop none 29 [.agg [.e (.int .i64 a0_0), .e (.int .i64 a0_1), .e (.int .i64 a0_2), .e (.sl 9 a0_3), .e (.sl 26 a0_4), .e (.sl 64 a0_5)], .agg [.e (.int .i64 a1_0), .e (.int .i64 a1_1), .e (.int .i64 a1_2), .e (.sl 9 a1_3), .e (.sl 26 a1_4), .e (.sl 64 a1_5)]] [] =
      bif a0_0 == 7 then some (Res.ret (AV.e (E.bool true)), [])
      else
        bif bif a0_0 == 2 then a1_0 == 4 else false then
          (loop 29 0 lc_29_6
                ([AV.undef, AV.undef, AV.ptr 0 0] ++ List.replicate 31 AV.undef ++ [AV.e (E.sl 9 a1_3), AV.e (E.int IntKind.i64 (↑a1_3.length : Int)), AV.e (E.int IntKind.i64 0)] ++ List.replicate 66 AV.undef)
                [Ob.box
                    [AV.e (E.int IntKind.i64 a0_0), AV.e (E.int IntKind.i64 a0_1), AV.e (E.int IntKind.i64 a0_2),
                      AV.e (E.sl 9 a0_3), AV.e (E.sl 26 a0_4), AV.e (E.sl 64 a0_5)]]).bind
            fun o =>
            bif o.ex.isWay (Way.exit 0) then
              bif
                  okFr
                      (List.replicate 103 AV.undef)
                      o.2 &&
                    okHeap [] o.3 then
                some (Res.ret (AV.e (E.bool true)), [])
              else none
            else
              bif o.ex.isWay Way.ret then
                bif
                    okFr
                        ([AV.undef, AV.undef, AV.undef, AV.undef, AV.e (E.bool false)] ++ List.replicate 98 AV.undef)
                        o.2 &&
                      okHeap [] o.3 then
                  some (Res.ret (AV.e (E.bool (List.getD o.fr 4 AV.undef).data.toBool)), [])
                else none
              else none
        else
          bif !a0_0 == a1_0 then some (Res.ret (AV.e (E.bool false)), [])
          else
            bif a0_0 == 1 then
              bif a0_0 == 1 then
                some (Res.ret (AV.e (E.bool (bif decide (a0_1 ≤ a1_1) then decide (a1_2 ≤ a0_2) else false))), [])
              else
                bif a0_0 == 4 then
                  (loop 29 0 lc_29_20
                        ([AV.undef, AV.undef, AV.ptr 0 0] ++ List.replicate 64 AV.undef ++ [AV.e (E.sl 9 a1_3), AV.e (E.int IntKind.i64 (↑a1_3.length : Int)), AV.e (E.int IntKind.i64 0)] ++ List.replicate 33 AV.undef)
                        [Ob.box
                            [AV.e (E.int IntKind.i64 a0_0), AV.e (E.int IntKind.i64 a0_1), AV.e (E.int IntKind.i64 a0_2),
                              AV.e (E.sl 9 a0_3), AV.e (E.sl 26 a0_4), AV.e (E.sl 64 a0_5)]]).bind
                    fun o =>
                    bif o.ex.isWay (Way.exit 3) then
                      bif
                          okFr
                              (List.replicate 103 AV.undef)
                              o.2 &&
                            okHeap [] o.3 then
                        some (Res.ret (AV.e (E.bool true)), [])
                      else none
                    else
                      bif o.ex.isWay Way.ret then
                        bif
                            okFr
                                ([AV.undef, AV.undef, AV.undef, AV.undef, AV.e (E.bool false)] ++ List.replicate 98 AV.undef)
                                o.2 &&
                              okHeap [] o.3 then
                          some (Res.ret (AV.e (E.bool (List.getD o.fr 4 AV.undef).data.toBool)), [])
                        else none
                      else none
                else
                  bif a0_0 == 5 then
                    bif (bif decide (a0_1 ≤ a1_1) then decide (a1_2 ≤ a0_2) else false) == true then
                      bif (a1_2 == 0) == false then
                        bif decide (0 < (↑a0_4.length : Int)) then
                          bif decide (0 < (↑a1_4.length : Int)) then
                            (run none 29
                                  [AV.agg
                                      [AV.e (E.int IntKind.i64 ((a0_4.getD 0 E.nili).cell 0).toInt),
                                        AV.e (E.int IntKind.i64 ((a0_4.getD 0 E.nili).cell 1).toInt),
                                        AV.e (E.int IntKind.i64 ((a0_4.getD 0 E.nili).cell 2).toInt),
                                        AV.e (E.sl 9 ((a0_4.getD 0 E.nili).cell 3).toList),
                                        AV.e (E.sl 26 ((a0_4.getD 0 E.nili).cell 4).toList),
                                        AV.e (E.sl 64 ((a0_4.getD 0 E.nili).cell 5).toList)],
                                    AV.agg
                                      [AV.e (E.int IntKind.i64 ((a1_4.getD 0 E.nili).cell 0).toInt),
                                        AV.e (E.int IntKind.i64 ((a1_4.getD 0 E.nili).cell 1).toInt),
                                        AV.e (E.int IntKind.i64 ((a1_4.getD 0 E.nili).cell 2).toInt),
                                        AV.e (E.sl 9 ((a1_4.getD 0 E.nili).cell 3).toList),
                                        AV.e (E.sl 26 ((a1_4.getD 0 E.nili).cell 4).toList),
                                        AV.e (E.sl 64 ((a1_4.getD 0 E.nili).cell 5).toList)]]
                                  []).bind
                              fun rh =>
                              bif okHeap [] rh.2 then
                                bif okRes Go.Proofs.Tryd.prog 4 rh.fst then some (Res.ret (AV.e (E.bool rh.fst.val.data.toBool)), [])
                                else none
                              else none
                          else none
                        else none
                      else some (Res.ret (AV.e (E.bool true)), [])
                    else some (Res.ret (AV.e (E.bool false)), [])
                  else
                    bif a0_0 == 6 then
                      (run none 60
                            [AV.agg
                                [AV.e (E.int IntKind.i64 a0_0), AV.e (E.int IntKind.i64 a0_1), AV.e (E.int IntKind.i64 a0_2),
                                  AV.e (E.sl 9 a0_3), AV.e (E.sl 26 a0_4), AV.e (E.sl 64 a0_5)],
                              AV.agg
                                [AV.e (E.int IntKind.i64 a1_0), AV.e (E.int IntKind.i64 a1_1), AV.e (E.int IntKind.i64 a1_2),
                                  AV.e (E.sl 9 a1_3), AV.e (E.sl 26 a1_4), AV.e (E.sl 64 a1_5)]]
                            []).bind
                        fun rh =>
                        bif okHeap [] rh.2 then
                          bif okRes Go.Proofs.Tryd.prog 4 rh.fst then some (Res.ret (AV.e (E.bool rh.fst.val.data.toBool)), [])
                          else none
                        else none
                    else some (Res.ret (AV.e (E.bool true)), [])
            else
              bif a0_0 == 2 then
                some (Res.ret (AV.e (E.bool (bif decide (a0_1 ≤ a1_1) then decide (a1_2 ≤ a0_2) else false))), [])
              else
                bif a0_0 == 4 then
                  (loop 29 0 lc_29_20
                        ([AV.undef, AV.undef, AV.ptr 0 0] ++ List.replicate 64 AV.undef ++ [AV.e (E.sl 9 a1_3), AV.e (E.int IntKind.i64 (↑a1_3.length : Int)), AV.e (E.int IntKind.i64 0)] ++ List.replicate 33 AV.undef)
                        [Ob.box
                            [AV.e (E.int IntKind.i64 a0_0), AV.e (E.int IntKind.i64 a0_1), AV.e (E.int IntKind.i64 a0_2),
                              AV.e (E.sl 9 a0_3), AV.e (E.sl 26 a0_4), AV.e (E.sl 64 a0_5)]]).bind
                    fun o =>
                    bif o.ex.isWay (Way.exit 3) then
                      bif
                          okFr
                              (List.replicate 103 AV.undef)
                              o.2 &&
                            okHeap [] o.3 then
                        some (Res.ret (AV.e (E.bool true)), [])
                      else none
                    else
                      bif o.ex.isWay Way.ret then
                        bif
                            okFr
                                ([AV.undef, AV.undef, AV.undef, AV.undef, AV.e (E.bool false)] ++ List.replicate 98 AV.undef)
                                o.2 &&
                              okHeap [] o.3 then
                          some (Res.ret (AV.e (E.bool (List.getD o.fr 4 AV.undef).data.toBool)), [])
                        else none
                      else none
                else
                  bif a0_0 == 5 then
                    bif (bif decide (a0_1 ≤ a1_1) then decide (a1_2 ≤ a0_2) else false) == true then
                      bif (a1_2 == 0) == false then
                        bif decide (0 < (↑a0_4.length : Int)) then
                          bif decide (0 < (↑a1_4.length : Int)) then
                            (run none 29
                                  [AV.agg
                                      [AV.e (E.int IntKind.i64 ((a0_4.getD 0 E.nili).cell 0).toInt),
                                        AV.e (E.int IntKind.i64 ((a0_4.getD 0 E.nili).cell 1).toInt),
                                        AV.e (E.int IntKind.i64 ((a0_4.getD 0 E.nili).cell 2).toInt),
                                        AV.e (E.sl 9 ((a0_4.getD 0 E.nili).cell 3).toList),
                                        AV.e (E.sl 26 ((a0_4.getD 0 E.nili).cell 4).toList),
                                        AV.e (E.sl 64 ((a0_4.getD 0 E.nili).cell 5).toList)],
                                    AV.agg
                                      [AV.e (E.int IntKind.i64 ((a1_4.getD 0 E.nili).cell 0).toInt),
                                        AV.e (E.int IntKind.i64 ((a1_4.getD 0 E.nili).cell 1).toInt),
                                        AV.e (E.int IntKind.i64 ((a1_4.getD 0 E.nili).cell 2).toInt),
                                        AV.e (E.sl 9 ((a1_4.getD 0 E.nili).cell 3).toList),
                                        AV.e (E.sl 26 ((a1_4.getD 0 E.nili).cell 4).toList),
                                        AV.e (E.sl 64 ((a1_4.getD 0 E.nili).cell 5).toList)]]
                                  []).bind
                              fun rh =>
                              bif okHeap [] rh.2 then
                                bif okRes Go.Proofs.Tryd.prog 4 rh.fst then some (Res.ret (AV.e (E.bool rh.fst.val.data.toBool)), [])
                                else none
                              else none
                          else none
                        else none
                      else some (Res.ret (AV.e (E.bool true)), [])
                    else some (Res.ret (AV.e (E.bool false)), [])
                  else
                    bif a0_0 == 6 then
                      (run none 60
                            [AV.agg
                                [AV.e (E.int IntKind.i64 a0_0), AV.e (E.int IntKind.i64 a0_1), AV.e (E.int IntKind.i64 a0_2),
                                  AV.e (E.sl 9 a0_3), AV.e (E.sl 26 a0_4), AV.e (E.sl 64 a0_5)],
                              AV.agg
                                [AV.e (E.int IntKind.i64 a1_0), AV.e (E.int IntKind.i64 a1_1), AV.e (E.int IntKind.i64 a1_2),
                                  AV.e (E.sl 9 a1_3), AV.e (E.sl 26 a1_4), AV.e (E.sl 64 a1_5)]]
                            []).bind
                        fun rh =>
                        bif okHeap [] rh.2 then
                          bif okRes Go.Proofs.Tryd.prog 4 rh.fst then some (Res.ret (AV.e (E.bool rh.fst.val.data.toBool)), [])
                          else none
                        else none
                    else some (Res.ret (AV.e (E.bool true)), []) := by kernel_rfl

theorem eq_has (run : RunF) (loop : LoopF) (a0 : List E) (a1 : List UInt8) :
    bodyRun Go.Proofs.Tryd.prog HH run loop none 56 [.e (.sl 9 a0), .e (.str a1)] [] =
      (loop 56 0 lc_56_2
            ([AV.undef, AV.e (E.str a1), AV.undef, AV.undef, AV.undef, AV.undef, AV.undef, AV.e (E.sl 9 a0), AV.e (E.int IntKind.i64 (↑a0.length : Int)), AV.e (E.int IntKind.i64 0)] ++ List.replicate 7 AV.undef)
            []).bind
        fun o =>
        bif o.ex.isWay (Way.exit 0) then
          bif
              okFr
                  (List.replicate 17 AV.undef)
                  o.2 &&
                okHeap [] o.3 then
            some (Res.ret (AV.e (E.bool false)), [])
          else none
        else
          bif o.ex.isWay Way.ret then
            bif
                okFr
                    ([AV.undef, AV.undef, AV.undef, AV.undef, AV.e (E.bool false)] ++ List.replicate 12 AV.undef)
                    o.2 &&
                  okHeap [] o.3 then
              some (Res.ret (AV.e (E.bool (List.getD o.fr 4 AV.undef).data.toBool)), [])
            else none
          else none := by kernel_rfl

theorem eq_hasL (run : RunF) (loop : LoopF) (t1 : List UInt8) (t7 : List E) (t8 : Int) (t9 : Int) :
    bodyLoop Go.Proofs.Tryd.prog HH run loop 56 0 lc_56_2 (((((List.replicate 17 AV.undef).set 1 (.e (.str t1))).set 7 (.e (.sl 9 t7))).set 8 (.e (.int .i64 t8))).set 9 (.e (.int .i64 t9))) [] =
      bif decide (t9 < t8) then
        bif decide (0 ≤ t9) && decide (t9 < (↑t7.length : Int)) then
          bif strEq ((t7.getD t9.toNat E.nili).cell 0).toStr t1 then
            some
              { ex := Ex.ret,
                fr :=
                  ([AV.undef, AV.undef, AV.undef, AV.undef, AV.e (E.bool true)] ++ List.replicate 12 AV.undef),
                hp := [], df := [] }
          else
            (loop 56 0 lc_56_2
                  ([AV.undef, AV.e (E.str t1), AV.undef, AV.undef, AV.undef, AV.undef, AV.undef, AV.e (E.sl 9 t7), AV.e (E.int IntKind.i64 t8), AV.e (E.int IntKind.i64 (IntKind.i64.wrap (t9 + 1)))] ++ List.replicate 7 AV.undef)
                  []).bind
              fun o => some o
        else none
      else
        some
          { ex := Ex.exit 0,
            fr :=
              (List.replicate 17 AV.undef),
            hp := [], df := [] } := by kernel_rfl

theorem eq_rhas (run : RunF) (loop : LoopF) (a0 : List E) (a1 : List UInt8) :
    bodyRun Go.Proofs.Tryd.prog HH run loop none 63 [.e (.sl 9 a0), .e (.str a1)] [] =
      (loop 63 0 lc_63_2
            ([AV.e (E.sl 9 a0), AV.e (E.str a1), AV.undef, AV.undef, AV.undef, AV.e (E.int IntKind.i64 0)] ++ List.replicate 12 AV.undef)
            []).bind
        fun o =>
        bif o.ex.isWay (Way.exit 0) then
          bif
              okFr
                  (List.replicate 18 AV.undef)
                  o.2 &&
                okHeap [] o.3 then
            some (Res.ret (AV.e (E.bool false)), [])
          else none
        else
          bif o.ex.isWay Way.ret then
            bif
                okFr
                    ([AV.undef, AV.undef, AV.undef, AV.undef, AV.e (E.bool false)] ++ List.replicate 13 AV.undef)
                    o.2 &&
                  okHeap [] o.3 then
              some (Res.ret (AV.e (E.bool (List.getD o.fr 4 AV.undef).data.toBool)), [])
            else none
          else none := by kernel_rfl

theorem eq_rhasL (run : RunF) (loop : LoopF) (t0 : List E) (t1 : List UInt8) (t5 : Int) :
    bodyLoop Go.Proofs.Tryd.prog HH run loop 63 0 lc_63_2 ((((List.replicate 18 AV.undef).set 0 (.e (.sl 9 t0))).set 1 (.e (.str t1))).set 5 (.e (.int .i64 t5))) [] =
      bif decide (t5 < (↑t0.length : Int)) then
        bif decide (0 ≤ t5) && decide (t5 < (↑t0.length : Int)) then
          bif strEq ((t0.getD t5.toNat E.nili).cell 0).toStr t1 then
            some
              { ex := Ex.ret,
                fr :=
                  ([AV.undef, AV.undef, AV.undef, AV.undef, AV.e (E.bool true)] ++ List.replicate 13 AV.undef),
                hp := [], df := [] }
          else
            (loop 63 0 lc_63_2
                  ([AV.e (E.sl 9 t0), AV.e (E.str t1), AV.undef, AV.undef, AV.undef, AV.e (E.int IntKind.i64 (IntKind.i64.wrap (t5 + 1)))] ++ List.replicate 12 AV.undef)
                  []).bind
              fun o => some o
        else none
      else
        some
          { ex := Ex.exit 0,
            fr :=
              (List.replicate 18 AV.undef),
            hp := [], df := [] } := by kernel_rfl

theorem eq_flds (run : RunF) (loop : LoopF) (a0_0 : Int) (a0_1 : Int) (a0_2 : Int) (a0_3 : List E) (a0_4 : List E) (a0_5 : List E) (a1_0 : Int) (a1_1 : Int) (a1_2 : Int) (a1_3 : List E) (a1_4 : List E) (a1_5 : List E) :
    bodyRun Go.Proofs.Tryd.prog HH run loop none 60 [.agg [.e (.int .i64 a0_0), .e (.int .i64 a0_1), .e (.int .i64 a0_2), .e (.sl 9 a0_3), .e (.sl 26 a0_4), .e (.sl 64 a0_5)], .agg [.e (.int .i64 a1_0), .e (.int .i64 a1_1), .e (.int .i64 a1_2), .e (.sl 9 a1_3), .e (.sl 26 a1_4), .e (.sl 64 a1_5)]] [] =
      (loop 60 0 lc_60_2
            ([AV.undef, AV.undef, AV.ptr 0 0, AV.ptr 1 0] ++ List.replicate 10 AV.undef ++ [AV.e (E.sl 64 a1_5), AV.e (E.int IntKind.i64 (↑a1_5.length : Int)), AV.e (E.int IntKind.i64 0)] ++ List.replicate 47 AV.undef)
            [Ob.box
                [AV.e (E.int IntKind.i64 a0_0), AV.e (E.int IntKind.i64 a0_1), AV.e (E.int IntKind.i64 a0_2),
                  AV.e (E.sl 9 a0_3), AV.e (E.sl 26 a0_4), AV.e (E.sl 64 a0_5)],
              Ob.box
                [AV.e (E.int IntKind.i64 a1_0), AV.e (E.int IntKind.i64 a1_1), AV.e (E.int IntKind.i64 a1_2),
                  AV.e (E.sl 9 a1_3), AV.e (E.sl 26 a1_4), AV.e (E.sl 64 a1_5)]]).bind
        fun o =>
        bif o.ex.isWay (Way.exit 0) then
          bif
              okFr
                  ([AV.undef, AV.undef, AV.ptr 0 0, AV.ptr 1 0] ++ List.replicate 60 AV.undef)
                  o.2 &&
                okHeap
                  [Ob.box
                      [AV.e (E.int IntKind.i64 0), AV.e (E.int IntKind.i64 0), AV.e (E.int IntKind.i64 0), AV.e (E.sl 9 []),
                        AV.e (E.sl 26 []), AV.e (E.sl 64 [])],
                    Ob.box
                      [AV.e (E.int IntKind.i64 0), AV.e (E.int IntKind.i64 0), AV.e (E.int IntKind.i64 0), AV.e (E.sl 9 []),
                        AV.e (E.sl 26 []), AV.e (E.sl 64 [])]]
                  o.3 then
            (loop 60 0 lc_60_9
                  ([AV.undef, AV.undef, AV.undef, AV.ptr 0 0] ++ List.replicate 35 AV.undef ++ [AV.e (E.sl 64 ((o.hp.ob 0).cell 5).data.toList), AV.e (E.int IntKind.i64 (↑((o.hp.ob 0).cell 5).data.toList.length : Int)), AV.e (E.int IntKind.i64 0)] ++ List.replicate 22 AV.undef)
                  [Ob.box
                      [AV.e (E.int IntKind.i64 ((o.hp.ob 1).cell 0).data.toInt),
                        AV.e (E.int IntKind.i64 ((o.hp.ob 1).cell 1).data.toInt),
                        AV.e (E.int IntKind.i64 ((o.hp.ob 1).cell 2).data.toInt),
                        AV.e (E.sl 9 ((o.hp.ob 1).cell 3).data.toList), AV.e (E.sl 26 ((o.hp.ob 1).cell 4).data.toList),
                        AV.e (E.sl 64 ((o.hp.ob 1).cell 5).data.toList)]]).bind
              fun o =>
              bif o.ex.isWay (Way.exit 2) then
                bif
                    okFr
                        (List.replicate 64 AV.undef)
                        o.2 &&
                      okHeap [] o.3 then
                  some (Res.ret (AV.e (E.bool true)), [])
                else none
              else
                bif o.ex.isWay Way.ret then
                  bif
                      okFr
                          ([AV.undef, AV.undef, AV.undef, AV.undef, AV.e (E.bool false)] ++ List.replicate 59 AV.undef)
                          o.2 &&
                        okHeap [] o.3 then
                    some (Res.ret (AV.e (E.bool (List.getD o.fr 4 AV.undef).data.toBool)), [])
                  else none
                else none
          else none
        else
          bif o.ex.isWay Way.ret then
            bif
                okFr
                    ([AV.undef, AV.undef, AV.undef, AV.undef, AV.e (E.bool false)] ++ List.replicate 59 AV.undef)
                    o.2 &&
                  okHeap [] o.3 then
              some (Res.ret (AV.e (E.bool (List.getD o.fr 4 AV.undef).data.toBool)), [])
            else none
          else none := by kernel_rfl

theorem eq_fldsL2 (run : RunF) (loop : LoopF) (t14 : List E) (t15 : Int) (t16 : Int) (t2_0 : Int) (t2_1 : Int) (t2_2 : Int) (t2_3 : List E) (t2_4 : List E) (t2_5 : List E) (t3_0 : Int) (t3_1 : Int) (t3_2 : Int) (t3_3 : List E) (t3_4 : List E) (t3_5 : List E) :
    bodyLoop Go.Proofs.Tryd.prog HH run loop 60 0 lc_60_2 ((((((List.replicate 64 AV.undef).set 2 (.ptr 0 0)).set 3 (.ptr 1 0)).set 14 (.e (.sl 64 t14))).set 15 (.e (.int .i64 t15))).set 16 (.e (.int .i64 t16))) [.box [.e (.int .i64 t2_0), .e (.int .i64 t2_1), .e (.int .i64 t2_2), .e (.sl 9 t2_3), .e (.sl 26 t2_4), .e (.sl 64 t2_5)], .box [.e (.int .i64 t3_0), .e (.int .i64 t3_1), .e (.int .i64 t3_2), .e (.sl 9 t3_3), .e (.sl 26 t3_4), .e (.sl 64 t3_5)]] =
      bif decide (t16 < t15) then
        bif decide (0 ≤ t16) && decide (t16 < (↑t14.length : Int)) then
          (run none 104
                [AV.agg
                    [AV.e (E.int IntKind.i64 t2_0), AV.e (E.int IntKind.i64 t2_1), AV.e (E.int IntKind.i64 t2_2),
                      AV.e (E.sl 9 t2_3), AV.e (E.sl 26 t2_4), AV.e (E.sl 64 t2_5)],
                  AV.e (E.str ((t14.getD t16.toNat E.nili).cell 0).toStr)]
                []).bind
            fun rh =>
            bif okHeap [] rh.2 then
              bif okRes Go.Proofs.Tryd.prog 123 rh.fst then
                bif (!(rh.fst.val.comp 1).data.toBool) == false then
                  (run none 29
                        [AV.agg
                            [AV.e (E.int IntKind.i64 ((rh.fst.val.comp 0).data.cell 2).toInt),
                              AV.e (E.int IntKind.i64 ((rh.fst.val.comp 0).data.cell 3).toInt),
                              AV.e (E.int IntKind.i64 ((rh.fst.val.comp 0).data.cell 4).toInt),
                              AV.e (E.sl 9 ((rh.fst.val.comp 0).data.cell 5).toList),
                              AV.e (E.sl 26 ((rh.fst.val.comp 0).data.cell 6).toList),
                              AV.e (E.sl 64 ((rh.fst.val.comp 0).data.cell 7).toList)],
                          AV.agg
                            [AV.e (E.int IntKind.i64 ((t14.getD t16.toNat E.nili).cell 2).toInt),
                              AV.e (E.int IntKind.i64 ((t14.getD t16.toNat E.nili).cell 3).toInt),
                              AV.e (E.int IntKind.i64 ((t14.getD t16.toNat E.nili).cell 4).toInt),
                              AV.e (E.sl 9 ((t14.getD t16.toNat E.nili).cell 5).toList),
                              AV.e (E.sl 26 ((t14.getD t16.toNat E.nili).cell 6).toList),
                              AV.e (E.sl 64 ((t14.getD t16.toNat E.nili).cell 7).toList)]]
                        []).bind
                    fun rh =>
                    bif okHeap [] rh.2 then
                      bif okRes Go.Proofs.Tryd.prog 4 rh.fst then
                        bif !rh.fst.val.data.toBool then
                          some
                            { ex := Ex.ret,
                              fr :=
                                ([AV.undef, AV.undef, AV.undef, AV.undef, AV.e (E.bool false)] ++ List.replicate 59 AV.undef),
                              hp := [], df := [] }
                        else
                          (loop 60 0 lc_60_2
                                ([AV.undef, AV.undef, AV.ptr 0 0, AV.ptr 1 0] ++ List.replicate 10 AV.undef ++ [AV.e (E.sl 64 t14), AV.e (E.int IntKind.i64 t15), AV.e (E.int IntKind.i64 (IntKind.i64.wrap (t16 + 1)))] ++ List.replicate 47 AV.undef)
                                [Ob.box
                                    [AV.e (E.int IntKind.i64 t2_0), AV.e (E.int IntKind.i64 t2_1),
                                      AV.e (E.int IntKind.i64 t2_2), AV.e (E.sl 9 t2_3), AV.e (E.sl 26 t2_4),
                                      AV.e (E.sl 64 t2_5)],
                                  Ob.box
                                    [AV.e (E.int IntKind.i64 t3_0), AV.e (E.int IntKind.i64 t3_1),
                                      AV.e (E.int IntKind.i64 t3_2), AV.e (E.sl 9 t3_3), AV.e (E.sl 26 t3_4),
                                      AV.e (E.sl 64 t3_5)]]).bind
                            fun o => some o
                      else none
                    else none
                else
                  some
                    { ex := Ex.ret,
                      fr :=
                        ([AV.undef, AV.undef, AV.undef, AV.undef, AV.e (E.bool false)] ++ List.replicate 59 AV.undef),
                      hp := [], df := [] }
              else none
            else none
        else none
      else
        some
          { ex := Ex.exit 0,
            fr :=
              ([AV.undef, AV.undef, AV.ptr 0 0, AV.ptr 1 0] ++ List.replicate 60 AV.undef),
            hp :=
              [Ob.box
                  [AV.e (E.int IntKind.i64 t2_0), AV.e (E.int IntKind.i64 t2_1), AV.e (E.int IntKind.i64 t2_2),
                    AV.e (E.sl 9 t2_3), AV.e (E.sl 26 t2_4), AV.e (E.sl 64 t2_5)],
                Ob.box
                  [AV.e (E.int IntKind.i64 t3_0), AV.e (E.int IntKind.i64 t3_1), AV.e (E.int IntKind.i64 t3_2),
                    AV.e (E.sl 9 t3_3), AV.e (E.sl 26 t3_4), AV.e (E.sl 64 t3_5)]],
            df := [] } := by kernel_rfl

theorem eq_fldsL9 (run : RunF) (loop : LoopF) (t39 : List E) (t40 : Int) (t41 : Int) (t3_0 : Int) (t3_1 : Int) (t3_2 : Int) (t3_3 : List E) (t3_4 : List E) (t3_5 : List E) :
    bodyLoop Go.Proofs.Tryd.prog HH run loop 60 0 lc_60_9 (((((List.replicate 64 AV.undef).set 3 (.ptr 0 0)).set 39 (.e (.sl 64 t39))).set 40 (.e (.int .i64 t40))).set 41 (.e (.int .i64 t41))) [.box [.e (.int .i64 t3_0), .e (.int .i64 t3_1), .e (.int .i64 t3_2), .e (.sl 9 t3_3), .e (.sl 26 t3_4), .e (.sl 64 t3_5)]] =
      bif decide (t41 < t40) then
        bif decide (0 ≤ t41) && decide (t41 < (↑t39.length : Int)) then
          (run none 104
                [AV.agg
                    [AV.e (E.int IntKind.i64 t3_0), AV.e (E.int IntKind.i64 t3_1), AV.e (E.int IntKind.i64 t3_2),
                      AV.e (E.sl 9 t3_3), AV.e (E.sl 26 t3_4), AV.e (E.sl 64 t3_5)],
                  AV.e (E.str ((t39.getD t41.toNat E.nili).cell 0).toStr)]
                []).bind
            fun rh =>
            bif okHeap [] rh.2 then
              bif okRes Go.Proofs.Tryd.prog 123 rh.fst then
                bif (!((t39.getD t41.toNat E.nili).cell 1).toBool) == true then
                  bif (!(rh.fst.val.comp 1).data.toBool) == false then
                    bif ((rh.fst.val.comp 0).data.cell 1).toBool then
                      some
                        { ex := Ex.ret,
                          fr :=
                            ([AV.undef, AV.undef, AV.undef, AV.undef, AV.e (E.bool false)] ++ List.replicate 59 AV.undef),
                          hp := [], df := [] }
                    else
                      (loop 60 0 lc_60_9
                            ([AV.undef, AV.undef, AV.undef, AV.ptr 0 0] ++ List.replicate 35 AV.undef ++ [AV.e (E.sl 64 t39), AV.e (E.int IntKind.i64 t40), AV.e (E.int IntKind.i64 (IntKind.i64.wrap (t41 + 1)))] ++ List.replicate 22 AV.undef)
                            [Ob.box
                                [AV.e (E.int IntKind.i64 t3_0), AV.e (E.int IntKind.i64 t3_1), AV.e (E.int IntKind.i64 t3_2),
                                  AV.e (E.sl 9 t3_3), AV.e (E.sl 26 t3_4), AV.e (E.sl 64 t3_5)]]).bind
                        fun o => some o
                  else
                    some
                      { ex := Ex.ret,
                        fr :=
                          ([AV.undef, AV.undef, AV.undef, AV.undef, AV.e (E.bool false)] ++ List.replicate 59 AV.undef),
                        hp := [], df := [] }
                else
                  (loop 60 0 lc_60_9
                        ([AV.undef, AV.undef, AV.undef, AV.ptr 0 0] ++ List.replicate 35 AV.undef ++ [AV.e (E.sl 64 t39), AV.e (E.int IntKind.i64 t40), AV.e (E.int IntKind.i64 (IntKind.i64.wrap (t41 + 1)))] ++ List.replicate 22 AV.undef)
                        [Ob.box
                            [AV.e (E.int IntKind.i64 t3_0), AV.e (E.int IntKind.i64 t3_1), AV.e (E.int IntKind.i64 t3_2),
                              AV.e (E.sl 9 t3_3), AV.e (E.sl 26 t3_4), AV.e (E.sl 64 t3_5)]]).bind
                    fun o => some o
              else none
            else none
        else none
      else
        some
          { ex := Ex.exit 2,
            fr :=
              (List.replicate 64 AV.undef),
            hp := [], df := [] } := by kernel_rfl

theorem eq_field (run : RunF) (loop : LoopF) (a0_0 : Int) (a0_1 : Int) (a0_2 : Int) (a0_3 : List E) (a0_4 : List E) (a0_5 : List E) (a1 : List UInt8) :
    bodyRun Go.Proofs.Tryd.prog HH run loop none 104 [.agg [.e (.int .i64 a0_0), .e (.int .i64 a0_1), .e (.int .i64 a0_2), .e (.sl 9 a0_3), .e (.sl 26 a0_4), .e (.sl 64 a0_5)], .e (.str a1)] [] =
      (loop 104 0 lc_104_2
            ([AV.undef, AV.e (E.str a1), AV.undef, AV.undef, AV.ptr 0 0, AV.undef, AV.undef, AV.undef, AV.undef, AV.e (E.sl 64 a0_5), AV.e (E.int IntKind.i64 (↑a0_5.length : Int)), AV.e (E.int IntKind.i64 0)] ++ List.replicate 10 AV.undef)
            [Ob.box
                [AV.e (E.str []), AV.e (E.bool false), AV.e (E.int IntKind.i64 0), AV.e (E.int IntKind.i64 0),
                  AV.e (E.int IntKind.i64 0), AV.own 1 9 [], AV.own 2 26 [], AV.own 3 64 []],
              Ob.vec 9 0, Ob.vec 26 0, Ob.vec 64 0]).bind
        fun o =>
        bif o.ex.isWay (Way.exit 0) then
          bif
              okFr
                  ([AV.undef, AV.undef, AV.undef, AV.undef, AV.ptr 0 0] ++ List.replicate 17 AV.undef)
                  o.2 &&
                okHeap
                  [Ob.box
                      [AV.e (E.str []), AV.e (E.bool false), AV.e (E.int IntKind.i64 0), AV.e (E.int IntKind.i64 0),
                        AV.e (E.int IntKind.i64 0), AV.own 1 9 [], AV.own 2 26 [], AV.own 3 64 []],
                    Ob.vec 9 0, Ob.vec 26 0, Ob.vec 64 0]
                  o.3 then
            some
              (Res.ret
                  (AV.tup
                    [AV.agg
                        [AV.e (E.str []), AV.e (E.bool false), AV.e (E.int IntKind.i64 0), AV.e (E.int IntKind.i64 0),
                          AV.e (E.int IntKind.i64 0), AV.e (E.sl 9 []), AV.e (E.sl 26 []), AV.e (E.sl 64 [])],
                      AV.e (E.bool false)]),
                [])
          else none
        else
          bif o.ex.isWay Way.ret then
            bif
                okFr
                    ([AV.undef, AV.undef, AV.undef, AV.undef, AV.ptr 0 0, AV.e (E.bool false)] ++ List.replicate 16 AV.undef)
                    o.2 &&
                  okHeap
                    [Ob.box
                        [AV.e (E.str []), AV.e (E.bool false), AV.e (E.int IntKind.i64 0), AV.e (E.int IntKind.i64 0),
                          AV.e (E.int IntKind.i64 0), AV.e (E.sl 9 []), AV.e (E.sl 26 []), AV.e (E.sl 64 [])]]
                    o.3 then
              some
                (Res.ret
                    (AV.tup
                      [AV.agg
                          [AV.e (E.str ((o.hp.ob 0).cell 0).data.toStr), AV.e (E.bool ((o.hp.ob 0).cell 1).data.toBool),
                            AV.e (E.int IntKind.i64 ((o.hp.ob 0).cell 2).data.toInt),
                            AV.e (E.int IntKind.i64 ((o.hp.ob 0).cell 3).data.toInt),
                            AV.e (E.int IntKind.i64 ((o.hp.ob 0).cell 4).data.toInt),
                            AV.e (E.sl 9 ((o.hp.ob 0).cell 5).data.toList), AV.e (E.sl 26 ((o.hp.ob 0).cell 6).data.toList),
                            AV.e (E.sl 64 ((o.hp.ob 0).cell 7).data.toList)],
                        AV.e (E.bool (List.getD o.fr 5 AV.undef).data.toBool)]),
                  [])
            else none
          else none := by kernel_rfl

theorem eq_fieldL (run : RunF) (loop : LoopF) (t1 : List UInt8) (t9 : List E) (t10 : Int) (t11 : Int) (t4_0 : List UInt8) (t4_1 : Bool) (t4_2 : Int) (t4_3 : Int) (t4_4 : Int) (t4_5 : List E) (t4_6 : List E) (t4_7 : List E) :
    bodyLoop Go.Proofs.Tryd.prog HH run loop 104 0 lc_104_2 ((((((List.replicate 22 AV.undef).set 1 (.e (.str t1))).set 4 (.ptr 0 0)).set 9 (.e (.sl 64 t9))).set 10 (.e (.int .i64 t10))).set 11 (.e (.int .i64 t11))) [.box [.e (.str t4_0), .e (.bool t4_1), .e (.int .i64 t4_2), .e (.int .i64 t4_3), .e (.int .i64 t4_4), .own 1 9 t4_5, .own 2 26 t4_6, .own 3 64 t4_7], .vec 9 t4_5.length, .vec 26 t4_6.length, .vec 64 t4_7.length] =
      bif decide (t11 < t10) then
        bif decide (0 ≤ t11) && decide (t11 < (↑t9.length : Int)) then
          bif strEq ((t9.getD t11.toNat E.nili).cell 0).toStr t1 then
            some
              { ex := Ex.ret,
                fr :=
                  ([AV.undef, AV.undef, AV.undef, AV.undef, AV.ptr 0 0, AV.e (E.bool true)] ++ List.replicate 16 AV.undef),
                hp :=
                  [Ob.box
                      [AV.e (E.str ((t9.getD t11.toNat E.nili).cell 0).toStr),
                        AV.e (E.bool ((t9.getD t11.toNat E.nili).cell 1).toBool),
                        AV.e (E.int IntKind.i64 ((t9.getD t11.toNat E.nili).cell 2).toInt),
                        AV.e (E.int IntKind.i64 ((t9.getD t11.toNat E.nili).cell 3).toInt),
                        AV.e (E.int IntKind.i64 ((t9.getD t11.toNat E.nili).cell 4).toInt),
                        AV.e (E.sl 9 ((t9.getD t11.toNat E.nili).cell 5).toList),
                        AV.e (E.sl 26 ((t9.getD t11.toNat E.nili).cell 6).toList),
                        AV.e (E.sl 64 ((t9.getD t11.toNat E.nili).cell 7).toList)]],
                df := [] }
          else
            (loop 104 0 lc_104_2
                  ([AV.undef, AV.e (E.str t1), AV.undef, AV.undef, AV.ptr 0 0, AV.undef, AV.undef, AV.undef, AV.undef, AV.e (E.sl 64 t9), AV.e (E.int IntKind.i64 t10), AV.e (E.int IntKind.i64 (IntKind.i64.wrap (t11 + 1)))] ++ List.replicate 10 AV.undef)
                  [Ob.box
                      [AV.e (E.str t4_0), AV.e (E.bool t4_1), AV.e (E.int IntKind.i64 t4_2), AV.e (E.int IntKind.i64 t4_3),
                        AV.e (E.int IntKind.i64 t4_4), AV.own 1 9 t4_5, AV.own 2 26 t4_6, AV.own 3 64 t4_7],
                    Ob.vec 9 t4_5.length, Ob.vec 26 t4_6.length, Ob.vec 64 t4_7.length]).bind
              fun o => some o
        else none
      else
        some
          { ex := Ex.exit 0,
            fr :=
              ([AV.undef, AV.undef, AV.undef, AV.undef, AV.ptr 0 0] ++ List.replicate 17 AV.undef),
            hp :=
              [Ob.box
                  [AV.e (E.str t4_0), AV.e (E.bool t4_1), AV.e (E.int IntKind.i64 t4_2), AV.e (E.int IntKind.i64 t4_3),
                    AV.e (E.int IntKind.i64 t4_4), AV.own 1 9 t4_5, AV.own 2 26 t4_6, AV.own 3 64 t4_7],
                Ob.vec 9 t4_5.length, Ob.vec 26 t4_6.length, Ob.vec 64 t4_7.length],
            df := [] } := by kernel_rfl

theorem eq_IncludesL20 (run : RunF) (loop : LoopF) (t67 : List E) (t68 : Int) (t69 : Int) (t2_0 : Int) (t2_1 : Int) (t2_2 : Int) (t2_3 : List E) (t2_4 : List E) (t2_5 : List E) :
    bodyLoop Go.Proofs.Tryd.prog HH run loop 29 0 lc_29_20 (((((List.replicate 103 AV.undef).set 2 (.ptr 0 0)).set 67 (.e (.sl 9 t67))).set 68 (.e (.int .i64 t68))).set 69 (.e (.int .i64 t69))) [.box [.e (.int .i64 t2_0), .e (.int .i64 t2_1), .e (.int .i64 t2_2), .e (.sl 9 t2_3), .e (.sl 26 t2_4), .e (.sl 64 t2_5)]] =
      bif decide (t69 < t68) then
        bif decide (0 ≤ t69) && decide (t69 < (↑t67.length : Int)) then
          (run none 56 [AV.e (E.sl 9 t2_3), AV.e (E.str ((t67.getD t69.toNat E.nili).cell 0).toStr)] []).bind fun rh =>
            bif okHeap [] rh.2 then
              bif okRes Go.Proofs.Tryd.prog 4 rh.fst then
                bif !rh.fst.val.data.toBool then
                  some
                    { ex := Ex.ret,
                      fr :=
                        ([AV.undef, AV.undef, AV.undef, AV.undef, AV.e (E.bool false)] ++ List.replicate 98 AV.undef),
                      hp := [], df := [] }
                else
                  (loop 29 0 lc_29_20
                        ([AV.undef, AV.undef, AV.ptr 0 0] ++ List.replicate 64 AV.undef ++ [AV.e (E.sl 9 t67), AV.e (E.int IntKind.i64 t68), AV.e (E.int IntKind.i64 (IntKind.i64.wrap (t69 + 1)))] ++ List.replicate 33 AV.undef)
                        [Ob.box
                            [AV.e (E.int IntKind.i64 t2_0), AV.e (E.int IntKind.i64 t2_1), AV.e (E.int IntKind.i64 t2_2),
                              AV.e (E.sl 9 t2_3), AV.e (E.sl 26 t2_4), AV.e (E.sl 64 t2_5)]]).bind
                    fun o => some o
              else none
            else none
        else none
      else
        some
          { ex := Ex.exit 3,
            fr :=
              (List.replicate 103 AV.undef),
            hp := [], df := [] } := by kernel_rfl

theorem eq_IncludesL6 (run : RunF) (loop : LoopF) (t34 : List E) (t35 : Int) (t36 : Int) (t2_0 : Int) (t2_1 : Int) (t2_2 : Int) (t2_3 : List E) (t2_4 : List E) (t2_5 : List E) :
    bodyLoop Go.Proofs.Tryd.prog HH run loop 29 0 lc_29_6 (((((List.replicate 103 AV.undef).set 2 (.ptr 0 0)).set 34 (.e (.sl 9 t34))).set 35 (.e (.int .i64 t35))).set 36 (.e (.int .i64 t36))) [.box [.e (.int .i64 t2_0), .e (.int .i64 t2_1), .e (.int .i64 t2_2), .e (.sl 9 t2_3), .e (.sl 26 t2_4), .e (.sl 64 t2_5)]] =
      bif decide (t36 < t35) then
        bif decide (0 ≤ t36) && decide (t36 < (↑t34.length : Int)) then
          bif
              bif decide ((↑((t34.getD t36.toNat E.nili).cell 0).toStr.length : Int) < t2_1) then true
              else decide (t2_2 < (↑((t34.getD t36.toNat E.nili).cell 0).toStr.length : Int)) then
            some
              { ex := Ex.ret,
                fr :=
                  ([AV.undef, AV.undef, AV.undef, AV.undef, AV.e (E.bool false)] ++ List.replicate 98 AV.undef),
                hp := [], df := [] }
          else
            (loop 29 0 lc_29_6
                  ([AV.undef, AV.undef, AV.ptr 0 0] ++ List.replicate 31 AV.undef ++ [AV.e (E.sl 9 t34), AV.e (E.int IntKind.i64 t35), AV.e (E.int IntKind.i64 (IntKind.i64.wrap (t36 + 1)))] ++ List.replicate 66 AV.undef)
                  [Ob.box
                      [AV.e (E.int IntKind.i64 t2_0), AV.e (E.int IntKind.i64 t2_1), AV.e (E.int IntKind.i64 t2_2),
                        AV.e (E.sl 9 t2_3), AV.e (E.sl 26 t2_4), AV.e (E.sl 64 t2_5)]]).bind
              fun o => some o
        else none
      else
        some
          { ex := Ex.exit 0,
            fr :=
              (List.replicate 103 AV.undef),
            hp := [], df := [] } := by kernel_rfl


end Go.Proofs.YtghdhhmlmdohkaaDoor
