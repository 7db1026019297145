/- The equations of functions, as a program of mine prints them. -/
import Derived.Test.YtghdhhmlmdohkaaDoorBase
namespace Go.Proofs.YtghdhhmlmdohkaaDoor
open Go Go.Den
set_option maxRecDepth 100000
set_option maxHeartbeats 0

theorem eq_Fits (run : RunF) (loop : LoopF) (a0_0 : Int) (a0_1 : Int) (a0_2 : Int) (a0_3 : List E) (a0_4 : List E) (a0_5 : List E) (a1_0 : Int) (a1_1 : Int) (a1_2 : List UInt8) (a1_3 : List E) (a1_4 : List E) :
    bodyRun Go.Proofs.Tryd.prog HH run loop none 27 [.agg [.e (.int .i64 a0_0), .e (.int .i64 a0_1), .e (.int .i64 a0_2), .e (.sl 9 a0_3), .e (.sl 26 a0_4), .e (.sl 64 a0_5)], .agg [.e (.int .i64 a1_0), .e (.int .i64 a1_1), .e (.str a1_2), .e (.sl 9 a1_3), .e (.sl 38 a1_4)]] [] =
      bif a0_0 == 7 then some (Res.ret (AV.tup [AV.e (E.str []), AV.e (E.bool true)]), [])
      else
        bif a0_0 == 1 then
          some
            (Res.ret
                (AV.tup
                  [AV.e (E.str []),
                    AV.e
                      (E.bool
                        (bif bif a1_0 == 1 then decide (a0_1 ≤ a1_1) else false then decide (a1_1 ≤ a0_2) else false))]),
              [])
        else
          bif a0_0 == 2 then
            some
              (Res.ret
                  (AV.tup
                    [AV.e (E.str []),
                      AV.e
                        (E.bool
                          (bif bif a1_0 == 2 then decide (a0_1 ≤ (↑a1_2.length : Int)) else false then
                            decide ((↑a1_2.length : Int) ≤ a0_2)
                          else false))]),
                [])
          else
            bif a0_0 == 3 then some (Res.ret (AV.tup [AV.e (E.str []), AV.e (E.bool (a1_0 == 3))]), [])
            else
              bif a0_0 == 4 then
                bif (a1_0 == 2) == true then
                  (run none 56 [AV.e (E.sl 9 a0_3), AV.e (E.str a1_2)] []).bind fun rh =>
                    bif okHeap [] rh.2 then
                      bif okRes Go.Proofs.Tryd.prog 4 rh.fst then
                        some (Res.ret (AV.tup [AV.e (E.str []), AV.e (E.bool rh.fst.val.data.toBool)]), [])
                      else none
                    else none
                else some (Res.ret (AV.tup [AV.e (E.str []), AV.e (E.bool false)]), [])
              else
                bif a0_0 == 5 then
                  bif
                      bif bif a1_0 == 5 then decide (a0_1 ≤ (↑a1_4.length : Int)) else false then
                        decide ((↑a1_4.length : Int) ≤ a0_2)
                      else false then
                    bif decide (0 < (↑a0_4.length : Int)) then
                      (run none 57
                            [AV.agg
                                [AV.e (E.int IntKind.i64 ((a0_4.getD 0 E.nili).cell 0).toInt),
                                  AV.e (E.int IntKind.i64 ((a0_4.getD 0 E.nili).cell 1).toInt),
                                  AV.e (E.int IntKind.i64 ((a0_4.getD 0 E.nili).cell 2).toInt),
                                  AV.e (E.sl 9 ((a0_4.getD 0 E.nili).cell 3).toList),
                                  AV.e (E.sl 26 ((a0_4.getD 0 E.nili).cell 4).toList),
                                  AV.e (E.sl 64 ((a0_4.getD 0 E.nili).cell 5).toList)],
                              AV.agg
                                [AV.e (E.int IntKind.i64 a1_0), AV.e (E.int IntKind.i64 a1_1), AV.e (E.str a1_2),
                                  AV.e (E.sl 9 a1_3), AV.e (E.sl 38 a1_4)]]
                            []).bind
                        fun rh =>
                        bif okHeap [] rh.2 then
                          bif okRes Go.Proofs.Tryd.prog 46 rh.fst then
                            some
                              (Res.ret
                                  (AV.tup
                                    [AV.e (E.str (rh.fst.val.comp 0).data.toStr),
                                      AV.e (E.bool (rh.fst.val.comp 1).data.toBool)]),
                                [])
                          else none
                        else none
                    else none
                  else some (Res.ret (AV.tup [AV.e (E.str []), AV.e (E.bool false)]), [])
                else
                  bif a0_0 == 6 then
                    bif a1_0 == 6 then
                      (run none 58
                            [AV.agg
                                [AV.e (E.int IntKind.i64 a0_0), AV.e (E.int IntKind.i64 a0_1), AV.e (E.int IntKind.i64 a0_2),
                                  AV.e (E.sl 9 a0_3), AV.e (E.sl 26 a0_4), AV.e (E.sl 64 a0_5)],
                              AV.agg
                                [AV.e (E.int IntKind.i64 a1_0), AV.e (E.int IntKind.i64 a1_1), AV.e (E.str a1_2),
                                  AV.e (E.sl 9 a1_3), AV.e (E.sl 38 a1_4)]]
                            []).bind
                        fun rh =>
                        bif okHeap [] rh.2 then
                          bif okRes Go.Proofs.Tryd.prog 46 rh.fst then
                            some
                              (Res.ret
                                  (AV.tup
                                    [AV.e (E.str (rh.fst.val.comp 0).data.toStr),
                                      AV.e (E.bool (rh.fst.val.comp 1).data.toBool)]),
                                [])
                          else none
                        else none
                    else some (Res.ret (AV.tup [AV.e (E.str []), AV.e (E.bool false)]), [])
                  else some (Res.ret (AV.tup [AV.e (E.str []), AV.e (E.bool false)]), []) := by kernel_rfl

theorem eq_elements (run : RunF) (loop : LoopF) (a0_0 : Int) (a0_1 : Int) (a0_2 : Int) (a0_3 : List E) (a0_4 : List E) (a0_5 : List E) (a1_0 : Int) (a1_1 : Int) (a1_2 : List UInt8) (a1_3 : List E) (a1_4 : List E) :
    bodyRun Go.Proofs.Tryd.prog HH run loop none 57 [.agg [.e (.int .i64 a0_0), .e (.int .i64 a0_1), .e (.int .i64 a0_2), .e (.sl 9 a0_3), .e (.sl 26 a0_4), .e (.sl 64 a0_5)], .agg [.e (.int .i64 a1_0), .e (.int .i64 a1_1), .e (.str a1_2), .e (.sl 9 a1_3), .e (.sl 38 a1_4)]] [] =
      (loop 57 0 lc_57_2
            ([AV.undef, AV.undef, AV.ptr 0 0] ++ List.replicate 8 AV.undef ++ [AV.e (E.sl 38 a1_4), AV.e (E.int IntKind.i64 (↑a1_4.length : Int)), AV.e (E.int IntKind.i64 0)] ++ List.replicate 19 AV.undef)
            [Ob.box
                [AV.e (E.int IntKind.i64 a0_0), AV.e (E.int IntKind.i64 a0_1), AV.e (E.int IntKind.i64 a0_2),
                  AV.e (E.sl 9 a0_3), AV.e (E.sl 26 a0_4), AV.e (E.sl 64 a0_5)]]).bind
        fun o =>
        bif o.ex.isWay (Way.exit 0) then
          bif
              okFr
                  (List.replicate 33 AV.undef)
                  o.2 &&
                okHeap [] o.3 then
            some (Res.ret (AV.tup [AV.e (E.str []), AV.e (E.bool true)]), [])
          else none
        else
          bif o.ex.isWay Way.ret then
            bif
                okFr
                    ([AV.undef, AV.undef, AV.undef, AV.undef, AV.e (E.str []), AV.e (E.bool false)] ++ List.replicate 27 AV.undef)
                    o.2 &&
                  okHeap [] o.3 then
              some
                (Res.ret
                    (AV.tup
                      [AV.e (E.str (List.getD o.fr 4 AV.undef).data.toStr),
                        AV.e (E.bool (List.getD o.fr 5 AV.undef).data.toBool)]),
                  [])
            else none
          else none := by kernel_rfl

theorem eq_elementsL2 (run : RunF) (loop : LoopF) (t11 : List E) (t12 : Int) (t13 : Int) (t2_0 : Int) (t2_1 : Int) (t2_2 : Int) (t2_3 : List E) (t2_4 : List E) (t2_5 : List E) :
    bodyLoop Go.Proofs.Tryd.prog HH run loop 57 0 lc_57_2 (((((List.replicate 33 AV.undef).set 2 (.ptr 0 0)).set 11 (.e (.sl 38 t11))).set 12 (.e (.int .i64 t12))).set 13 (.e (.int .i64 t13))) [.box [.e (.int .i64 t2_0), .e (.int .i64 t2_1), .e (.int .i64 t2_2), .e (.sl 9 t2_3), .e (.sl 26 t2_4), .e (.sl 64 t2_5)]] =
      bif decide (t13 < t12) then
        bif decide (0 ≤ t13) && decide (t13 < (↑t11.length : Int)) then
          (run none 27
                [AV.agg
                    [AV.e (E.int IntKind.i64 t2_0), AV.e (E.int IntKind.i64 t2_1), AV.e (E.int IntKind.i64 t2_2),
                      AV.e (E.sl 9 t2_3), AV.e (E.sl 26 t2_4), AV.e (E.sl 64 t2_5)],
                  AV.agg
                    [AV.e (E.int IntKind.i64 ((t11.getD t13.toNat E.nili).cell 0).toInt),
                      AV.e (E.int IntKind.i64 ((t11.getD t13.toNat E.nili).cell 1).toInt),
                      AV.e (E.str ((t11.getD t13.toNat E.nili).cell 2).toStr),
                      AV.e (E.sl 9 ((t11.getD t13.toNat E.nili).cell 3).toList),
                      AV.e (E.sl 38 ((t11.getD t13.toNat E.nili).cell 4).toList)]]
                []).bind
            fun rh =>
            bif okHeap [] rh.2 then
              bif okRes Go.Proofs.Tryd.prog 46 rh.fst then
                bif !(rh.fst.val.comp 1).data.toBool then
                  bif decide (-9223372036854775808 ≤ t13) && decide (t13 ≤ 9223372036854775807) then
                    bif
                        (decide (1 + (Lib.itoa t13).length ≤ 9223372036854775807)) then
                      bif
                          (decide (([91] ++ Lib.itoa t13).length + 1 ≤ 9223372036854775807)) then
                        bif
                            (decide
                                  (([91] ++ Lib.itoa t13 ++ [93]).length + (rh.fst.val.comp 0).data.toStr.length ≤
                                    9223372036854775807)) then
                          some
                            { ex := Ex.ret,
                              fr :=
                                ([AV.undef, AV.undef, AV.undef, AV.undef, AV.e (E.str ([91] ++ Lib.itoa t13 ++ [93] ++ (rh.fst.val.comp 0).data.toStr)), AV.e (E.bool false)] ++ List.replicate 27 AV.undef),
                              hp := [], df := [] }
                        else none
                      else none
                    else none
                  else none
                else
                  (loop 57 0 lc_57_2
                        ([AV.undef, AV.undef, AV.ptr 0 0] ++ List.replicate 8 AV.undef ++ [AV.e (E.sl 38 t11), AV.e (E.int IntKind.i64 t12), AV.e (E.int IntKind.i64 (IntKind.i64.wrap (t13 + 1)))] ++ List.replicate 19 AV.undef)
                        [Ob.box
                            [AV.e (E.int IntKind.i64 t2_0), AV.e (E.int IntKind.i64 t2_1), AV.e (E.int IntKind.i64 t2_2),
                              AV.e (E.sl 9 t2_3), AV.e (E.sl 26 t2_4), AV.e (E.sl 64 t2_5)]]).bind
                    fun o => some o
              else none
            else none
        else none
      else
        some
          { ex := Ex.exit 0,
            fr :=
              (List.replicate 33 AV.undef),
            hp := [], df := [] } := by kernel_rfl

theorem eq_members (run : RunF) (loop : LoopF) (a0_0 : Int) (a0_1 : Int) (a0_2 : Int) (a0_3 : List E) (a0_4 : List E) (a0_5 : List E) (a1_0 : Int) (a1_1 : Int) (a1_2 : List UInt8) (a1_3 : List E) (a1_4 : List E) :
    bodyRun Go.Proofs.Tryd.prog HH run loop none 58 [.agg [.e (.int .i64 a0_0), .e (.int .i64 a0_1), .e (.int .i64 a0_2), .e (.sl 9 a0_3), .e (.sl 26 a0_4), .e (.sl 64 a0_5)], .agg [.e (.int .i64 a1_0), .e (.int .i64 a1_1), .e (.str a1_2), .e (.sl 9 a1_3), .e (.sl 38 a1_4)]] [] =
      (loop 58 0 lc_58_2
            ([AV.undef, AV.undef, AV.ptr 0 0, AV.ptr 1 0, AV.undef, AV.undef, AV.e (E.int IntKind.i64 0), AV.e (E.int IntKind.i64 0)] ++ List.replicate 112 AV.undef)
            [Ob.box
                [AV.e (E.int IntKind.i64 a0_0), AV.e (E.int IntKind.i64 a0_1), AV.e (E.int IntKind.i64 a0_2),
                  AV.e (E.sl 9 a0_3), AV.e (E.sl 26 a0_4), AV.e (E.sl 64 a0_5)],
              Ob.box
                [AV.e (E.int IntKind.i64 a1_0), AV.e (E.int IntKind.i64 a1_1), AV.e (E.str a1_2), AV.e (E.sl 9 a1_3),
                  AV.e (E.sl 38 a1_4)]]).bind
        fun o =>
        bif o.ex.isWay (Way.exit 0) then
          bif
              okFr
                  (List.replicate 120 AV.undef)
                  o.2 &&
                okHeap [] o.3 then
            some (Res.ret (AV.tup [AV.e (E.str []), AV.e (E.bool true)]), [])
          else none
        else
          bif o.ex.isWay Way.ret then
            bif
                okFr
                    ([AV.undef, AV.undef, AV.undef, AV.undef, AV.e (E.str []), AV.e (E.bool false)] ++ List.replicate 114 AV.undef)
                    o.2 &&
                  okHeap [] o.3 then
              some
                (Res.ret
                    (AV.tup
                      [AV.e (E.str (List.getD o.fr 4 AV.undef).data.toStr),
                        AV.e (E.bool (List.getD o.fr 5 AV.undef).data.toBool)]),
                  [])
            else none
          else none := by kernel_rfl

theorem eq_membersL2 (run : RunF) (loop : LoopF) (t6 : Int) (t7 : Int) (t2_0 : Int) (t2_1 : Int) (t2_2 : Int) (t2_3 : List E) (t2_4 : List E) (t2_5 : List E) (t3_0 : Int) (t3_1 : Int) (t3_2 : List UInt8) (t3_3 : List E) (t3_4 : List E) :
    bodyLoop Go.Proofs.Tryd.prog HH run loop 58 0 lc_58_2 (((((List.replicate 120 AV.undef).set 2 (.ptr 0 0)).set 3 (.ptr 1 0)).set 6 (.e (.int .i64 t6))).set 7 (.e (.int .i64 t7))) [.box [.e (.int .i64 t2_0), .e (.int .i64 t2_1), .e (.int .i64 t2_2), .e (.sl 9 t2_3), .e (.sl 26 t2_4), .e (.sl 64 t2_5)], .box [.e (.int .i64 t3_0), .e (.int .i64 t3_1), .e (.str t3_2), .e (.sl 9 t3_3), .e (.sl 38 t3_4)]] =
      bif bif decide (t6 < (↑t2_5.length : Int)) then true else decide (t7 < (↑t3_3.length : Int)) then
        bif (t7 == (↑t3_3.length : Int)) == false then
          bif decide (t6 < (↑t2_5.length : Int)) == true then
            bif decide (0 ≤ t6) && decide (t6 < (↑t2_5.length : Int)) then
              bif decide (0 ≤ t7) && decide (t7 < (↑t3_3.length : Int)) then
                bif Op.bytesLess ((t2_5.getD t6.toNat E.nili).cell 0).toStr ((t3_3.getD t7.toNat E.nili).cell 0).toStr then
                  bif decide (0 ≤ t6) && decide (t6 < (↑t2_5.length : Int)) then
                    bif !((t2_5.getD t6.toNat E.nili).cell 1).toBool then
                      bif decide (0 ≤ t6) && decide (t6 < (↑t2_5.length : Int)) then
                        bif
                            (decide (1 + ((t2_5.getD t6.toNat E.nili).cell 0).toStr.length ≤ 9223372036854775807)) then
                          some
                            { ex := Ex.ret,
                              fr :=
                                ([AV.undef, AV.undef, AV.undef, AV.undef, AV.e (E.str ([46] ++ ((t2_5.getD t6.toNat E.nili).cell 0).toStr)), AV.e (E.bool false)] ++ List.replicate 114 AV.undef),
                              hp := [], df := [] }
                        else none
                      else none
                    else
                      (loop 58 0 lc_58_2
                            ([AV.undef, AV.undef, AV.ptr 0 0, AV.ptr 1 0, AV.undef, AV.undef, AV.e (E.int IntKind.i64 (IntKind.i64.wrap (t6 + 1))), AV.e (E.int IntKind.i64 t7)] ++ List.replicate 112 AV.undef)
                            [Ob.box
                                [AV.e (E.int IntKind.i64 t2_0), AV.e (E.int IntKind.i64 t2_1), AV.e (E.int IntKind.i64 t2_2),
                                  AV.e (E.sl 9 t2_3), AV.e (E.sl 26 t2_4), AV.e (E.sl 64 t2_5)],
                              Ob.box
                                [AV.e (E.int IntKind.i64 t3_0), AV.e (E.int IntKind.i64 t3_1), AV.e (E.str t3_2),
                                  AV.e (E.sl 9 t3_3), AV.e (E.sl 38 t3_4)]]).bind
                        fun o => some o
                  else none
                else
                  bif (t6 == (↑t2_5.length : Int)) == false then
                    bif decide (0 ≤ t7) && decide (t7 < (↑t3_3.length : Int)) then
                      bif decide (0 ≤ t6) && decide (t6 < (↑t2_5.length : Int)) then
                        bif
                            Op.bytesLess ((t3_3.getD t7.toNat E.nili).cell 0).toStr
                              ((t2_5.getD t6.toNat E.nili).cell 0).toStr then
                          bif decide (0 ≤ t7) && decide (t7 < (↑t3_3.length : Int)) then
                            bif
                                (decide (1 + ((t3_3.getD t7.toNat E.nili).cell 0).toStr.length ≤ 9223372036854775807)) then
                              some
                                { ex := Ex.ret,
                                  fr :=
                                    ([AV.undef, AV.undef, AV.undef, AV.undef, AV.e (E.str ([46] ++ ((t3_3.getD t7.toNat E.nili).cell 0).toStr)), AV.e (E.bool false)] ++ List.replicate 114 AV.undef),
                                  hp := [], df := [] }
                            else none
                          else none
                        else
                          bif decide (0 ≤ t6) && decide (t6 < (↑t2_5.length : Int)) then
                            bif decide (0 ≤ t7) && decide (t7 < (↑t3_4.length : Int)) then
                              (run none 27
                                    [AV.agg
                                        [AV.e (E.int IntKind.i64 ((t2_5.getD t6.toNat E.nili).cell 2).toInt),
                                          AV.e (E.int IntKind.i64 ((t2_5.getD t6.toNat E.nili).cell 3).toInt),
                                          AV.e (E.int IntKind.i64 ((t2_5.getD t6.toNat E.nili).cell 4).toInt),
                                          AV.e (E.sl 9 ((t2_5.getD t6.toNat E.nili).cell 5).toList),
                                          AV.e (E.sl 26 ((t2_5.getD t6.toNat E.nili).cell 6).toList),
                                          AV.e (E.sl 64 ((t2_5.getD t6.toNat E.nili).cell 7).toList)],
                                      AV.agg
                                        [AV.e (E.int IntKind.i64 ((t3_4.getD t7.toNat E.nili).cell 0).toInt),
                                          AV.e (E.int IntKind.i64 ((t3_4.getD t7.toNat E.nili).cell 1).toInt),
                                          AV.e (E.str ((t3_4.getD t7.toNat E.nili).cell 2).toStr),
                                          AV.e (E.sl 9 ((t3_4.getD t7.toNat E.nili).cell 3).toList),
                                          AV.e (E.sl 38 ((t3_4.getD t7.toNat E.nili).cell 4).toList)]]
                                    []).bind
                                fun rh =>
                                bif okHeap [] rh.2 then
                                  bif okRes Go.Proofs.Tryd.prog 46 rh.fst then
                                    bif !(rh.fst.val.comp 1).data.toBool then
                                      bif decide (0 ≤ t7) && decide (t7 < (↑t3_3.length : Int)) then
                                        bif
                                            (decide
                                                  (1 + ((t3_3.getD t7.toNat E.nili).cell 0).toStr.length ≤
                                                    9223372036854775807)) then
                                          bif
                                              (decide
                                                    (([46] ++ ((t3_3.getD t7.toNat E.nili).cell 0).toStr).length +
                                                        (rh.fst.val.comp 0).data.toStr.length ≤
                                                      9223372036854775807)) then
                                            some
                                              { ex := Ex.ret,
                                                fr :=
                                                  ([AV.undef, AV.undef, AV.undef, AV.undef, AV.e
                                                      (E.str
                                                        ([46] ++ ((t3_3.getD t7.toNat E.nili).cell 0).toStr ++
                                                          (rh.fst.val.comp 0).data.toStr)), AV.e (E.bool false)] ++ List.replicate 114 AV.undef),
                                                hp := [], df := [] }
                                          else none
                                        else none
                                      else none
                                    else
                                      (loop 58 0 lc_58_2
                                            ([AV.undef, AV.undef, AV.ptr 0 0, AV.ptr 1 0, AV.undef, AV.undef, AV.e (E.int IntKind.i64 (IntKind.i64.wrap (t6 + 1))), AV.e (E.int IntKind.i64 (IntKind.i64.wrap (t7 + 1)))] ++ List.replicate 112 AV.undef)
                                            [Ob.box
                                                [AV.e (E.int IntKind.i64 t2_0), AV.e (E.int IntKind.i64 t2_1),
                                                  AV.e (E.int IntKind.i64 t2_2), AV.e (E.sl 9 t2_3), AV.e (E.sl 26 t2_4),
                                                  AV.e (E.sl 64 t2_5)],
                                              Ob.box
                                                [AV.e (E.int IntKind.i64 t3_0), AV.e (E.int IntKind.i64 t3_1),
                                                  AV.e (E.str t3_2), AV.e (E.sl 9 t3_3), AV.e (E.sl 38 t3_4)]]).bind
                                        fun o => some o
                                  else none
                                else none
                            else none
                          else none
                      else none
                    else none
                  else
                    bif decide (0 ≤ t7) && decide (t7 < (↑t3_3.length : Int)) then
                      bif
                          (decide (1 + ((t3_3.getD t7.toNat E.nili).cell 0).toStr.length ≤ 9223372036854775807)) then
                        some
                          { ex := Ex.ret,
                            fr :=
                              ([AV.undef, AV.undef, AV.undef, AV.undef, AV.e (E.str ([46] ++ ((t3_3.getD t7.toNat E.nili).cell 0).toStr)), AV.e (E.bool false)] ++ List.replicate 114 AV.undef),
                            hp := [], df := [] }
                      else none
                    else none
              else none
            else none
          else
            bif (t6 == (↑t2_5.length : Int)) == false then
              bif decide (0 ≤ t7) && decide (t7 < (↑t3_3.length : Int)) then
                bif decide (0 ≤ t6) && decide (t6 < (↑t2_5.length : Int)) then
                  bif Op.bytesLess ((t3_3.getD t7.toNat E.nili).cell 0).toStr ((t2_5.getD t6.toNat E.nili).cell 0).toStr then
                    bif decide (0 ≤ t7) && decide (t7 < (↑t3_3.length : Int)) then
                      bif
                          (decide (1 + ((t3_3.getD t7.toNat E.nili).cell 0).toStr.length ≤ 9223372036854775807)) then
                        some
                          { ex := Ex.ret,
                            fr :=
                              ([AV.undef, AV.undef, AV.undef, AV.undef, AV.e (E.str ([46] ++ ((t3_3.getD t7.toNat E.nili).cell 0).toStr)), AV.e (E.bool false)] ++ List.replicate 114 AV.undef),
                            hp := [], df := [] }
                      else none
                    else none
                  else
                    bif decide (0 ≤ t6) && decide (t6 < (↑t2_5.length : Int)) then
                      bif decide (0 ≤ t7) && decide (t7 < (↑t3_4.length : Int)) then
                        (run none 27
                              [AV.agg
                                  [AV.e (E.int IntKind.i64 ((t2_5.getD t6.toNat E.nili).cell 2).toInt),
                                    AV.e (E.int IntKind.i64 ((t2_5.getD t6.toNat E.nili).cell 3).toInt),
                                    AV.e (E.int IntKind.i64 ((t2_5.getD t6.toNat E.nili).cell 4).toInt),
                                    AV.e (E.sl 9 ((t2_5.getD t6.toNat E.nili).cell 5).toList),
                                    AV.e (E.sl 26 ((t2_5.getD t6.toNat E.nili).cell 6).toList),
                                    AV.e (E.sl 64 ((t2_5.getD t6.toNat E.nili).cell 7).toList)],
                                AV.agg
                                  [AV.e (E.int IntKind.i64 ((t3_4.getD t7.toNat E.nili).cell 0).toInt),
                                    AV.e (E.int IntKind.i64 ((t3_4.getD t7.toNat E.nili).cell 1).toInt),
                                    AV.e (E.str ((t3_4.getD t7.toNat E.nili).cell 2).toStr),
                                    AV.e (E.sl 9 ((t3_4.getD t7.toNat E.nili).cell 3).toList),
                                    AV.e (E.sl 38 ((t3_4.getD t7.toNat E.nili).cell 4).toList)]]
                              []).bind
                          fun rh =>
                          bif okHeap [] rh.2 then
                            bif okRes Go.Proofs.Tryd.prog 46 rh.fst then
                              bif !(rh.fst.val.comp 1).data.toBool then
                                bif decide (0 ≤ t7) && decide (t7 < (↑t3_3.length : Int)) then
                                  bif
                                      (decide (1 + ((t3_3.getD t7.toNat E.nili).cell 0).toStr.length ≤ 9223372036854775807)) then
                                    bif
                                        (decide
                                              (([46] ++ ((t3_3.getD t7.toNat E.nili).cell 0).toStr).length +
                                                  (rh.fst.val.comp 0).data.toStr.length ≤
                                                9223372036854775807)) then
                                      some
                                        { ex := Ex.ret,
                                          fr :=
                                            ([AV.undef, AV.undef, AV.undef, AV.undef, AV.e
                                                (E.str
                                                  ([46] ++ ((t3_3.getD t7.toNat E.nili).cell 0).toStr ++
                                                    (rh.fst.val.comp 0).data.toStr)), AV.e (E.bool false)] ++ List.replicate 114 AV.undef),
                                          hp := [], df := [] }
                                    else none
                                  else none
                                else none
                              else
                                (loop 58 0 lc_58_2
                                      ([AV.undef, AV.undef, AV.ptr 0 0, AV.ptr 1 0, AV.undef, AV.undef, AV.e (E.int IntKind.i64 (IntKind.i64.wrap (t6 + 1))), AV.e (E.int IntKind.i64 (IntKind.i64.wrap (t7 + 1)))] ++ List.replicate 112 AV.undef)
                                      [Ob.box
                                          [AV.e (E.int IntKind.i64 t2_0), AV.e (E.int IntKind.i64 t2_1),
                                            AV.e (E.int IntKind.i64 t2_2), AV.e (E.sl 9 t2_3), AV.e (E.sl 26 t2_4),
                                            AV.e (E.sl 64 t2_5)],
                                        Ob.box
                                          [AV.e (E.int IntKind.i64 t3_0), AV.e (E.int IntKind.i64 t3_1), AV.e (E.str t3_2),
                                            AV.e (E.sl 9 t3_3), AV.e (E.sl 38 t3_4)]]).bind
                                  fun o => some o
                            else none
                          else none
                      else none
                    else none
                else none
              else none
            else
              bif decide (0 ≤ t7) && decide (t7 < (↑t3_3.length : Int)) then
                bif
                    (decide (1 + ((t3_3.getD t7.toNat E.nili).cell 0).toStr.length ≤ 9223372036854775807)) then
                  some
                    { ex := Ex.ret,
                      fr :=
                        ([AV.undef, AV.undef, AV.undef, AV.undef, AV.e (E.str ([46] ++ ((t3_3.getD t7.toNat E.nili).cell 0).toStr)), AV.e (E.bool false)] ++ List.replicate 114 AV.undef),
                      hp := [], df := [] }
                else none
              else none
        else
          bif decide (0 ≤ t6) && decide (t6 < (↑t2_5.length : Int)) then
            bif !((t2_5.getD t6.toNat E.nili).cell 1).toBool then
              bif decide (0 ≤ t6) && decide (t6 < (↑t2_5.length : Int)) then
                bif
                    (decide (1 + ((t2_5.getD t6.toNat E.nili).cell 0).toStr.length ≤ 9223372036854775807)) then
                  some
                    { ex := Ex.ret,
                      fr :=
                        ([AV.undef, AV.undef, AV.undef, AV.undef, AV.e (E.str ([46] ++ ((t2_5.getD t6.toNat E.nili).cell 0).toStr)), AV.e (E.bool false)] ++ List.replicate 114 AV.undef),
                      hp := [], df := [] }
                else none
              else none
            else
              (loop 58 0 lc_58_2
                    ([AV.undef, AV.undef, AV.ptr 0 0, AV.ptr 1 0, AV.undef, AV.undef, AV.e (E.int IntKind.i64 (IntKind.i64.wrap (t6 + 1))), AV.e (E.int IntKind.i64 t7)] ++ List.replicate 112 AV.undef)
                    [Ob.box
                        [AV.e (E.int IntKind.i64 t2_0), AV.e (E.int IntKind.i64 t2_1), AV.e (E.int IntKind.i64 t2_2),
                          AV.e (E.sl 9 t2_3), AV.e (E.sl 26 t2_4), AV.e (E.sl 64 t2_5)],
                      Ob.box
                        [AV.e (E.int IntKind.i64 t3_0), AV.e (E.int IntKind.i64 t3_1), AV.e (E.str t3_2), AV.e (E.sl 9 t3_3),
                          AV.e (E.sl 38 t3_4)]]).bind
                fun o => some o
          else none
      else
        some
          { ex := Ex.exit 0,
            fr :=
              (List.replicate 120 AV.undef),
            hp := [], df := [] } := by kernel_rfl

theorem eq_Number (run : RunF) (loop : LoopF) (a0 : Int) :
    bodyRun Go.Proofs.Tryd.prog HH run loop none 82 [.e (.int .i64 a0)] [] =
      bif decide (a0 < 0) then
        (run none 82 [AV.e (E.int IntKind.i64 (IntKind.i64.wrap (0 - a0)))] []).bind fun rh =>
          bif okHeap [] rh.2 then
            bif okRes Go.Proofs.Tryd.prog 9 rh.fst then
              bif
                  (decide (1 + rh.fst.val.data.toStr.length ≤ 9223372036854775807)) then
                some (Res.ret (AV.e (E.str ([45] ++ rh.fst.val.data.toStr))), [])
              else none
            else none
          else none
      else
        bif decide (a0 < 10) then
          bif
              ([E.int IntKind.u8 (IntKind.u8.wrap (IntKind.i64.wrap (48 + a0)))]).all
                isByte then
            some
              (Res.ret
                  (AV.e
                    (E.str
                      (unbytes
                        ([E.int IntKind.u8 (IntKind.u8.wrap (IntKind.i64.wrap (48 + a0)))])))),
                [])
          else none
        else
          bif
              ([E.int IntKind.u8 (IntKind.u8.wrap (IntKind.i64.wrap (48 + a0.tmod 10)))]).all
                isByte then
            (run none 82 [AV.e (E.int IntKind.i64 (IntKind.i64.wrap (a0.tdiv 10)))] []).bind fun rh =>
              bif okHeap [] rh.2 then
                bif okRes Go.Proofs.Tryd.prog 9 rh.fst then
                  bif
                      (decide
                            (rh.fst.val.data.toStr.length +
                                (unbytes
                                    ([E.int IntKind.u8
                                            (IntKind.u8.wrap (IntKind.i64.wrap (48 + a0.tmod 10)))])).length ≤
                              9223372036854775807)) then
                    some
                      (Res.ret
                          (AV.e
                            (E.str
                              (rh.fst.val.data.toStr ++
                                unbytes
                                  ([E.int IntKind.u8 (IntKind.u8.wrap (IntKind.i64.wrap (48 + a0.tmod 10)))])))),
                        [])
                  else none
                else none
              else none
          else none := by kernel_rfl

theorem eq_small (run : RunF) (loop : LoopF) (a0_0 : Int) (a0_1 : Int) (a0_2 : List UInt8) (a0_3 : List E) (a0_4 : List E) :
    bodyRun Go.Proofs.Tryd.prog HH run loop none 20 [.agg [.e (.int .i64 a0_0), .e (.int .i64 a0_1), .e (.str a0_2), .e (.sl 9 a0_3), .e (.sl 38 a0_4)]] [] =
      (run none 44
            [AV.agg
                [AV.e (E.int IntKind.i64 a0_0), AV.e (E.int IntKind.i64 a0_1), AV.e (E.str a0_2), AV.e (E.sl 9 a0_3),
                  AV.e (E.sl 38 a0_4)],
              AV.e (E.int IntKind.i64 0)]
            []).bind
        fun rh =>
        bif okHeap [] rh.2 then
          bif okRes Go.Proofs.Tryd.prog 3 rh.fst then some (Res.ret (AV.e (E.bool (decide (rh.fst.val.data.toInt < 3000)))), [])
          else none
        else none := by kernel_rfl

theorem eq_parts (run : RunF) (loop : LoopF) (a0_0 : Int) (a0_1 : Int) (a0_2 : List UInt8) (a0_3 : List E) (a0_4 : List E) (a1 : Int) :
    bodyRun Go.Proofs.Tryd.prog HH run loop none 44 [.agg [.e (.int .i64 a0_0), .e (.int .i64 a0_1), .e (.str a0_2), .e (.sl 9 a0_3), .e (.sl 38 a0_4)], .e (.int .i64 a1)] [] =
      (loop 44 0 lc_44_3
            ([AV.undef, AV.e
                (E.int IntKind.i64
                  (IntKind.i64.wrap
                    (a1 +
                      IntKind.i64.wrap
                        (IntKind.i64.wrap (IntKind.i64.wrap (1 + (↑a0_2.length : Int)) + (↑a0_3.length : Int)) +
                          (↑a0_4.length : Int))))), AV.ptr 0 0, AV.undef, AV.undef, AV.e (E.int IntKind.i64 0)] ++ List.replicate 33 AV.undef)
            [Ob.box
                [AV.e (E.int IntKind.i64 a0_0), AV.e (E.int IntKind.i64 a0_1), AV.e (E.str a0_2), AV.e (E.sl 9 a0_3),
                  AV.e (E.sl 38 a0_4)]]).bind
        fun o =>
        bif o.ex.isWay (Way.exit 0) then
          bif
              okFr
                  ([AV.undef, AV.e (E.int IntKind.i64 0)] ++ List.replicate 37 AV.undef)
                  o.2 &&
                okHeap [] o.3 then
            some (Res.ret (AV.e (E.int IntKind.i64 (List.getD o.fr 1 AV.undef).data.toInt)), [])
          else none
        else none := by kernel_rfl

theorem eq_partsL3 (run : RunF) (loop : LoopF) (t1 : Int) (t5 : Int) (t2_0 : Int) (t2_1 : Int) (t2_2 : List UInt8) (t2_3 : List E) (t2_4 : List E) :
    bodyLoop Go.Proofs.Tryd.prog HH run loop 44 0 lc_44_3 ((((List.replicate 39 AV.undef).set 1 (.e (.int .i64 t1))).set 2 (.ptr 0 0)).set 5 (.e (.int .i64 t5))) [.box [.e (.int .i64 t2_0), .e (.int .i64 t2_1), .e (.str t2_2), .e (.sl 9 t2_3), .e (.sl 38 t2_4)]] =
      bif bif decide (t5 < (↑t2_4.length : Int)) then decide (t1 < 3000) else false then
        bif decide (0 ≤ t5) && decide (t5 < (↑t2_4.length : Int)) then
          (run none 44
                [AV.agg
                    [AV.e (E.int IntKind.i64 ((t2_4.getD t5.toNat E.nili).cell 0).toInt),
                      AV.e (E.int IntKind.i64 ((t2_4.getD t5.toNat E.nili).cell 1).toInt),
                      AV.e (E.str ((t2_4.getD t5.toNat E.nili).cell 2).toStr),
                      AV.e (E.sl 9 ((t2_4.getD t5.toNat E.nili).cell 3).toList),
                      AV.e (E.sl 38 ((t2_4.getD t5.toNat E.nili).cell 4).toList)],
                  AV.e (E.int IntKind.i64 t1)]
                []).bind
            fun rh =>
            bif okHeap [] rh.2 then
              bif okRes Go.Proofs.Tryd.prog 3 rh.fst then
                (loop 44 0 lc_44_3
                      ([AV.undef, AV.e (E.int IntKind.i64 rh.fst.val.data.toInt), AV.ptr 0 0, AV.undef, AV.undef, AV.e (E.int IntKind.i64 (IntKind.i64.wrap (t5 + 1)))] ++ List.replicate 33 AV.undef)
                      [Ob.box
                          [AV.e (E.int IntKind.i64 t2_0), AV.e (E.int IntKind.i64 t2_1), AV.e (E.str t2_2),
                            AV.e (E.sl 9 t2_3), AV.e (E.sl 38 t2_4)]]).bind
                  fun o => some o
              else none
            else none
        else none
      else
        some
          { ex := Ex.exit 0,
            fr :=
              ([AV.undef, AV.e (E.int IntKind.i64 t1)] ++ List.replicate 37 AV.undef),
            hp := [], df := [] } := by kernel_rfl

theorem eq_CheckValue (run : RunF) (loop : LoopF) (a0_0 : Int) (a0_1 : Int) (a0_2 : List UInt8) (a0_3 : List E) (a0_4 : List E) :
    bodyRun Go.Proofs.Tryd.prog HH run loop none 26 [.agg [.e (.int .i64 a0_0), .e (.int .i64 a0_1), .e (.str a0_2), .e (.sl 9 a0_3), .e (.sl 38 a0_4)]] [] =
      (run none 54
            [AV.agg
                [AV.e (E.int IntKind.i64 a0_0), AV.e (E.int IntKind.i64 a0_1), AV.e (E.str a0_2), AV.e (E.sl 9 a0_3),
                  AV.e (E.sl 38 a0_4)],
              AV.e (E.int IntKind.i64 1)]
            []).bind
        fun rh =>
        bif okHeap [] rh.2 then
          bif okRes Go.Proofs.Tryd.prog 4 rh.fst then
            bif rh.fst.val.data.toBool then some (Res.ret (AV.e (E.int IntKind.i64 27)), [])
            else
              (run none 55
                    [AV.agg
                        [AV.e (E.int IntKind.i64 a0_0), AV.e (E.int IntKind.i64 a0_1), AV.e (E.str a0_2), AV.e (E.sl 9 a0_3),
                          AV.e (E.sl 38 a0_4)]]
                    []).bind
                fun rh =>
                bif okHeap [] rh.2 then
                  bif okRes Go.Proofs.Tryd.prog 29 rh.fst then some (Res.ret (AV.e (E.int IntKind.i64 rh.fst.val.data.toInt)), [])
                  else none
                else none
          else none
        else none := by kernel_rfl

theorem eq_DeepValue (run : RunF) (loop : LoopF) (a0_0 : Int) (a0_1 : Int) (a0_2 : List UInt8) (a0_3 : List E) (a0_4 : List E) (a1 : Int) :
    bodyRun Go.Proofs.Tryd.prog HH run loop none 54 [.agg [.e (.int .i64 a0_0), .e (.int .i64 a0_1), .e (.str a0_2), .e (.sl 9 a0_3), .e (.sl 38 a0_4)], .e (.int .i64 a1)] [] =
      bif decide (6 < a1) then some (Res.ret (AV.e (E.bool true)), [])
      else
        (loop 54 0 lc_54_4
              ([AV.undef, AV.e (E.int IntKind.i64 a1), AV.ptr 0 0, AV.undef, AV.undef, AV.e (E.int IntKind.i64 0)] ++ List.replicate 27 AV.undef)
              [Ob.box
                  [AV.e (E.int IntKind.i64 a0_0), AV.e (E.int IntKind.i64 a0_1), AV.e (E.str a0_2), AV.e (E.sl 9 a0_3),
                    AV.e (E.sl 38 a0_4)]]).bind
          fun o =>
          bif o.ex.isWay (Way.exit 0) then
            bif
                okFr
                    (List.replicate 33 AV.undef)
                    o.2 &&
                  okHeap [] o.3 then
              some (Res.ret (AV.e (E.bool false)), [])
            else none
          else
            bif o.ex.isWay Way.ret then
              bif
                  okFr
                      ([AV.undef, AV.undef, AV.undef, AV.undef, AV.e (E.bool false)] ++ List.replicate 28 AV.undef)
                      o.2 &&
                    okHeap [] o.3 then
                some (Res.ret (AV.e (E.bool (List.getD o.fr 4 AV.undef).data.toBool)), [])
              else none
            else none := by kernel_rfl

theorem eq_DeepValueL4 (run : RunF) (loop : LoopF) (t1 : Int) (t5 : Int) (t2_0 : Int) (t2_1 : Int) (t2_2 : List UInt8) (t2_3 : List E) (t2_4 : List E) :
    bodyLoop Go.Proofs.Tryd.prog HH run loop 54 0 lc_54_4 ((((List.replicate 33 AV.undef).set 1 (.e (.int .i64 t1))).set 2 (.ptr 0 0)).set 5 (.e (.int .i64 t5))) [.box [.e (.int .i64 t2_0), .e (.int .i64 t2_1), .e (.str t2_2), .e (.sl 9 t2_3), .e (.sl 38 t2_4)]] =
      bif decide (t5 < (↑t2_4.length : Int)) == true then
        bif (t2_0 == 5) == false then
          bif t2_0 == 6 then
            bif decide (0 ≤ t5) && decide (t5 < (↑t2_4.length : Int)) then
              (run none 54
                    [AV.agg
                        [AV.e (E.int IntKind.i64 ((t2_4.getD t5.toNat E.nili).cell 0).toInt),
                          AV.e (E.int IntKind.i64 ((t2_4.getD t5.toNat E.nili).cell 1).toInt),
                          AV.e (E.str ((t2_4.getD t5.toNat E.nili).cell 2).toStr),
                          AV.e (E.sl 9 ((t2_4.getD t5.toNat E.nili).cell 3).toList),
                          AV.e (E.sl 38 ((t2_4.getD t5.toNat E.nili).cell 4).toList)],
                      AV.e (E.int IntKind.i64 (IntKind.i64.wrap (t1 + 1)))]
                    []).bind
                fun rh =>
                bif okHeap [] rh.2 then
                  bif okRes Go.Proofs.Tryd.prog 4 rh.fst then
                    bif rh.fst.val.data.toBool then
                      some
                        { ex := Ex.ret,
                          fr :=
                            ([AV.undef, AV.undef, AV.undef, AV.undef, AV.e (E.bool true)] ++ List.replicate 28 AV.undef),
                          hp := [], df := [] }
                    else
                      (loop 54 0 lc_54_4
                            ([AV.undef, AV.e (E.int IntKind.i64 t1), AV.ptr 0 0, AV.undef, AV.undef, AV.e (E.int IntKind.i64 (IntKind.i64.wrap (t5 + 1)))] ++ List.replicate 27 AV.undef)
                            [Ob.box
                                [AV.e (E.int IntKind.i64 t2_0), AV.e (E.int IntKind.i64 t2_1), AV.e (E.str t2_2),
                                  AV.e (E.sl 9 t2_3), AV.e (E.sl 38 t2_4)]]).bind
                        fun o => some o
                  else none
                else none
            else none
          else
            some
              { ex := Ex.exit 0,
                fr :=
                  (List.replicate 33 AV.undef),
                hp := [], df := [] }
        else
          bif decide (0 ≤ t5) && decide (t5 < (↑t2_4.length : Int)) then
            (run none 54
                  [AV.agg
                      [AV.e (E.int IntKind.i64 ((t2_4.getD t5.toNat E.nili).cell 0).toInt),
                        AV.e (E.int IntKind.i64 ((t2_4.getD t5.toNat E.nili).cell 1).toInt),
                        AV.e (E.str ((t2_4.getD t5.toNat E.nili).cell 2).toStr),
                        AV.e (E.sl 9 ((t2_4.getD t5.toNat E.nili).cell 3).toList),
                        AV.e (E.sl 38 ((t2_4.getD t5.toNat E.nili).cell 4).toList)],
                    AV.e (E.int IntKind.i64 (IntKind.i64.wrap (t1 + 1)))]
                  []).bind
              fun rh =>
              bif okHeap [] rh.2 then
                bif okRes Go.Proofs.Tryd.prog 4 rh.fst then
                  bif rh.fst.val.data.toBool then
                    some
                      { ex := Ex.ret,
                        fr :=
                          ([AV.undef, AV.undef, AV.undef, AV.undef, AV.e (E.bool true)] ++ List.replicate 28 AV.undef),
                        hp := [], df := [] }
                  else
                    (loop 54 0 lc_54_4
                          ([AV.undef, AV.e (E.int IntKind.i64 t1), AV.ptr 0 0, AV.undef, AV.undef, AV.e (E.int IntKind.i64 (IntKind.i64.wrap (t5 + 1)))] ++ List.replicate 27 AV.undef)
                          [Ob.box
                              [AV.e (E.int IntKind.i64 t2_0), AV.e (E.int IntKind.i64 t2_1), AV.e (E.str t2_2),
                                AV.e (E.sl 9 t2_3), AV.e (E.sl 38 t2_4)]]).bind
                      fun o => some o
                else none
              else none
          else none
      else
        some
          { ex := Ex.exit 0,
            fr :=
              (List.replicate 33 AV.undef),
            hp := [], df := [] } := by kernel_rfl

theorem eq_checkValue (run : RunF) (loop : LoopF) (a0_0 : Int) (a0_1 : Int) (a0_2 : List UInt8) (a0_3 : List E) (a0_4 : List E) :
    bodyRun Go.Proofs.Tryd.prog HH run loop none 55 [.agg [.e (.int .i64 a0_0), .e (.int .i64 a0_1), .e (.str a0_2), .e (.sl 9 a0_3), .e (.sl 38 a0_4)]] [] =
      bif bif bif decide (a0_0 < 1) then true else decide (6 < a0_0) then true else a0_0 == 4 then
        some (Res.ret (AV.e (E.int IntKind.i64 10)), [])
      else
        (run none 100
              [AV.agg
                  [AV.e (E.int IntKind.i64 a0_0), AV.e (E.int IntKind.i64 a0_1), AV.e (E.str a0_2), AV.e (E.sl 9 a0_3),
                    AV.e (E.sl 38 a0_4)]]
              []).bind
          fun rh =>
          bif okHeap [] rh.2 then
            bif okRes Go.Proofs.Tryd.prog 4 rh.fst then
              bif rh.fst.val.data.toBool then some (Res.ret (AV.e (E.int IntKind.i64 28)), [])
              else
                bif (a0_0 == 1) == true then
                  (run none 62
                        [AV.e (E.int IntKind.i64 a0_1), AV.e (E.int IntKind.i64 a0_1),
                          AV.e (E.int IntKind.i64 (-4611686018427387904)), AV.e (E.int IntKind.i64 4611686018427387904)]
                        []).bind
                    fun rh =>
                    bif okHeap [] rh.2 then
                      bif okRes Go.Proofs.Tryd.prog 4 rh.fst then
                        bif (!rh.fst.val.data.toBool) == false then
                          bif (a0_0 == 3) == true then
                            bif (!a0_1 == 0) == true then
                              bif !a0_1 == 1 then some (Res.ret (AV.e (E.int IntKind.i64 1)), [])
                              else
                                (loop 55 0 lc_55_8
                                      ([AV.undef, AV.ptr 0 0, AV.undef, AV.e (E.int IntKind.i64 0)] ++ List.replicate 91 AV.undef)
                                      [Ob.box
                                          [AV.e (E.int IntKind.i64 a0_0), AV.e (E.int IntKind.i64 a0_1), AV.e (E.str a0_2),
                                            AV.e (E.sl 9 a0_3), AV.e (E.sl 38 a0_4)]]).bind
                                  fun o =>
                                  bif o.ex.isWay (Way.exit 0) then
                                    bif
                                        okFr
                                            (List.replicate 95 AV.undef)
                                            o.2 &&
                                          okHeap [] o.3 then
                                      some (Res.ret (AV.e (E.int IntKind.i64 0)), [])
                                    else none
                                  else
                                    bif o.ex.isWay Way.ret then
                                      bif
                                          okFr
                                              ([AV.undef, AV.undef, AV.e (E.int IntKind.i64 0)] ++ List.replicate 92 AV.undef)
                                              o.2 &&
                                            okHeap [] o.3 then
                                        some (Res.ret (AV.e (E.int IntKind.i64 (List.getD o.fr 2 AV.undef).data.toInt)), [])
                                      else none
                                    else none
                            else
                              (loop 55 0 lc_55_8
                                    ([AV.undef, AV.ptr 0 0, AV.undef, AV.e (E.int IntKind.i64 0)] ++ List.replicate 91 AV.undef)
                                    [Ob.box
                                        [AV.e (E.int IntKind.i64 a0_0), AV.e (E.int IntKind.i64 a0_1), AV.e (E.str a0_2),
                                          AV.e (E.sl 9 a0_3), AV.e (E.sl 38 a0_4)]]).bind
                                fun o =>
                                bif o.ex.isWay (Way.exit 0) then
                                  bif
                                      okFr
                                          (List.replicate 95 AV.undef)
                                          o.2 &&
                                        okHeap [] o.3 then
                                    some (Res.ret (AV.e (E.int IntKind.i64 0)), [])
                                  else none
                                else
                                  bif o.ex.isWay Way.ret then
                                    bif
                                        okFr
                                            ([AV.undef, AV.undef, AV.e (E.int IntKind.i64 0)] ++ List.replicate 92 AV.undef)
                                            o.2 &&
                                          okHeap [] o.3 then
                                      some (Res.ret (AV.e (E.int IntKind.i64 (List.getD o.fr 2 AV.undef).data.toInt)), [])
                                    else none
                                  else none
                          else
                            (loop 55 0 lc_55_8
                                  ([AV.undef, AV.ptr 0 0, AV.undef, AV.e (E.int IntKind.i64 0)] ++ List.replicate 91 AV.undef)
                                  [Ob.box
                                      [AV.e (E.int IntKind.i64 a0_0), AV.e (E.int IntKind.i64 a0_1), AV.e (E.str a0_2),
                                        AV.e (E.sl 9 a0_3), AV.e (E.sl 38 a0_4)]]).bind
                              fun o =>
                              bif o.ex.isWay (Way.exit 0) then
                                bif
                                    okFr
                                        (List.replicate 95 AV.undef)
                                        o.2 &&
                                      okHeap [] o.3 then
                                  some (Res.ret (AV.e (E.int IntKind.i64 0)), [])
                                else none
                              else
                                bif o.ex.isWay Way.ret then
                                  bif
                                      okFr
                                          ([AV.undef, AV.undef, AV.e (E.int IntKind.i64 0)] ++ List.replicate 92 AV.undef)
                                          o.2 &&
                                        okHeap [] o.3 then
                                    some (Res.ret (AV.e (E.int IntKind.i64 (List.getD o.fr 2 AV.undef).data.toInt)), [])
                                  else none
                                else none
                        else some (Res.ret (AV.e (E.int IntKind.i64 1)), [])
                      else none
                    else none
                else
                  bif (a0_0 == 3) == true then
                    bif (!a0_1 == 0) == true then
                      bif !a0_1 == 1 then some (Res.ret (AV.e (E.int IntKind.i64 1)), [])
                      else
                        (loop 55 0 lc_55_8
                              ([AV.undef, AV.ptr 0 0, AV.undef, AV.e (E.int IntKind.i64 0)] ++ List.replicate 91 AV.undef)
                              [Ob.box
                                  [AV.e (E.int IntKind.i64 a0_0), AV.e (E.int IntKind.i64 a0_1), AV.e (E.str a0_2),
                                    AV.e (E.sl 9 a0_3), AV.e (E.sl 38 a0_4)]]).bind
                          fun o =>
                          bif o.ex.isWay (Way.exit 0) then
                            bif
                                okFr
                                    (List.replicate 95 AV.undef)
                                    o.2 &&
                                  okHeap [] o.3 then
                              some (Res.ret (AV.e (E.int IntKind.i64 0)), [])
                            else none
                          else
                            bif o.ex.isWay Way.ret then
                              bif
                                  okFr
                                      ([AV.undef, AV.undef, AV.e (E.int IntKind.i64 0)] ++ List.replicate 92 AV.undef)
                                      o.2 &&
                                    okHeap [] o.3 then
                                some (Res.ret (AV.e (E.int IntKind.i64 (List.getD o.fr 2 AV.undef).data.toInt)), [])
                              else none
                            else none
                    else
                      (loop 55 0 lc_55_8
                            ([AV.undef, AV.ptr 0 0, AV.undef, AV.e (E.int IntKind.i64 0)] ++ List.replicate 91 AV.undef)
                            [Ob.box
                                [AV.e (E.int IntKind.i64 a0_0), AV.e (E.int IntKind.i64 a0_1), AV.e (E.str a0_2),
                                  AV.e (E.sl 9 a0_3), AV.e (E.sl 38 a0_4)]]).bind
                        fun o =>
                        bif o.ex.isWay (Way.exit 0) then
                          bif
                              okFr
                                  (List.replicate 95 AV.undef)
                                  o.2 &&
                                okHeap [] o.3 then
                            some (Res.ret (AV.e (E.int IntKind.i64 0)), [])
                          else none
                        else
                          bif o.ex.isWay Way.ret then
                            bif
                                okFr
                                    ([AV.undef, AV.undef, AV.e (E.int IntKind.i64 0)] ++ List.replicate 92 AV.undef)
                                    o.2 &&
                                  okHeap [] o.3 then
                              some (Res.ret (AV.e (E.int IntKind.i64 (List.getD o.fr 2 AV.undef).data.toInt)), [])
                            else none
                          else none
                  else
                    (loop 55 0 lc_55_8
                          ([AV.undef, AV.ptr 0 0, AV.undef, AV.e (E.int IntKind.i64 0)] ++ List.replicate 91 AV.undef)
                          [Ob.box
                              [AV.e (E.int IntKind.i64 a0_0), AV.e (E.int IntKind.i64 a0_1), AV.e (E.str a0_2),
                                AV.e (E.sl 9 a0_3), AV.e (E.sl 38 a0_4)]]).bind
                      fun o =>
                      bif o.ex.isWay (Way.exit 0) then
                        bif
                            okFr
                                (List.replicate 95 AV.undef)
                                o.2 &&
                              okHeap [] o.3 then
                          some (Res.ret (AV.e (E.int IntKind.i64 0)), [])
                        else none
                      else
                        bif o.ex.isWay Way.ret then
                          bif
                              okFr
                                  ([AV.undef, AV.undef, AV.e (E.int IntKind.i64 0)] ++ List.replicate 92 AV.undef)
                                  o.2 &&
                                okHeap [] o.3 then
                            some (Res.ret (AV.e (E.int IntKind.i64 (List.getD o.fr 2 AV.undef).data.toInt)), [])
                          else none
                        else none
            else none
          else none := by kernel_rfl

theorem eq_checkValueL8 (run : RunF) (loop : LoopF) (t3 : Int) (t1_0 : Int) (t1_1 : Int) (t1_2 : List UInt8) (t1_3 : List E) (t1_4 : List E) :
    bodyLoop Go.Proofs.Tryd.prog HH run loop 55 0 lc_55_8 (((List.replicate 95 AV.undef).set 1 (.ptr 0 0)).set 3 (.e (.int .i64 t3))) [.box [.e (.int .i64 t1_0), .e (.int .i64 t1_1), .e (.str t1_2), .e (.sl 9 t1_3), .e (.sl 38 t1_4)]] =
      bif decide (t3 < (↑t1_4.length : Int)) then
        bif (t1_0 == 6) == true then
          bif decide (0 ≤ t3) && decide (t3 < (↑t1_3.length : Int)) then
            (run none 101 [AV.e (E.str ((t1_3.getD t3.toNat E.nili).cell 0).toStr)] []).bind fun rh =>
              bif okHeap [] rh.2 then
                bif okRes Go.Proofs.Tryd.prog 4 rh.fst then
                  bif !rh.fst.val.data.toBool then
                    some
                      { ex := Ex.ret,
                        fr :=
                          ([AV.undef, AV.undef, AV.e (E.int IntKind.i64 11)] ++ List.replicate 92 AV.undef),
                        hp := [], df := [] }
                  else
                    bif (t1_0 == 6) == true then
                      bif decide (0 < t3) == true then
                        bif decide (0 ≤ t3) && decide (t3 < (↑t1_3.length : Int)) then
                          bif
                              decide (0 ≤ IntKind.i64.wrap (t3 - 1)) &&
                                decide (IntKind.i64.wrap (t3 - 1) < (↑t1_3.length : Int)) then
                            bif
                                Op.bytesLess ((t1_3.getD t3.toNat E.nili).cell 0).toStr
                                    ((t1_3.getD (IntKind.i64.wrap (t3 - 1)).toNat E.nili).cell 0).toStr ||
                                  strEq ((t1_3.getD t3.toNat E.nili).cell 0).toStr
                                    ((t1_3.getD (IntKind.i64.wrap (t3 - 1)).toNat E.nili).cell 0).toStr then
                              some
                                { ex := Ex.ret,
                                  fr :=
                                    ([AV.undef, AV.undef, AV.e (E.int IntKind.i64 22)] ++ List.replicate 92 AV.undef),
                                  hp := [], df := [] }
                            else
                              bif decide (0 ≤ t3) && decide (t3 < (↑t1_4.length : Int)) then
                                (run none 55
                                      [AV.agg
                                          [AV.e (E.int IntKind.i64 ((t1_4.getD t3.toNat E.nili).cell 0).toInt),
                                            AV.e (E.int IntKind.i64 ((t1_4.getD t3.toNat E.nili).cell 1).toInt),
                                            AV.e (E.str ((t1_4.getD t3.toNat E.nili).cell 2).toStr),
                                            AV.e (E.sl 9 ((t1_4.getD t3.toNat E.nili).cell 3).toList),
                                            AV.e (E.sl 38 ((t1_4.getD t3.toNat E.nili).cell 4).toList)]]
                                      []).bind
                                  fun rh =>
                                  bif okHeap [] rh.2 then
                                    bif okRes Go.Proofs.Tryd.prog 29 rh.fst then
                                      bif !rh.fst.val.data.toInt == 0 then
                                        some
                                          { ex := Ex.ret,
                                            fr :=
                                              ([AV.undef, AV.undef, AV.e (E.int IntKind.i64 rh.fst.val.data.toInt)] ++ List.replicate 92 AV.undef),
                                            hp := [], df := [] }
                                      else
                                        (loop 55 0 lc_55_8
                                              ([AV.undef, AV.ptr 0 0, AV.undef, AV.e (E.int IntKind.i64 (IntKind.i64.wrap (t3 + 1)))] ++ List.replicate 91 AV.undef)
                                              [Ob.box
                                                  [AV.e (E.int IntKind.i64 t1_0), AV.e (E.int IntKind.i64 t1_1),
                                                    AV.e (E.str t1_2), AV.e (E.sl 9 t1_3), AV.e (E.sl 38 t1_4)]]).bind
                                          fun o => some o
                                    else none
                                  else none
                              else none
                          else none
                        else none
                      else
                        bif decide (0 ≤ t3) && decide (t3 < (↑t1_4.length : Int)) then
                          (run none 55
                                [AV.agg
                                    [AV.e (E.int IntKind.i64 ((t1_4.getD t3.toNat E.nili).cell 0).toInt),
                                      AV.e (E.int IntKind.i64 ((t1_4.getD t3.toNat E.nili).cell 1).toInt),
                                      AV.e (E.str ((t1_4.getD t3.toNat E.nili).cell 2).toStr),
                                      AV.e (E.sl 9 ((t1_4.getD t3.toNat E.nili).cell 3).toList),
                                      AV.e (E.sl 38 ((t1_4.getD t3.toNat E.nili).cell 4).toList)]]
                                []).bind
                            fun rh =>
                            bif okHeap [] rh.2 then
                              bif okRes Go.Proofs.Tryd.prog 29 rh.fst then
                                bif !rh.fst.val.data.toInt == 0 then
                                  some
                                    { ex := Ex.ret,
                                      fr :=
                                        ([AV.undef, AV.undef, AV.e (E.int IntKind.i64 rh.fst.val.data.toInt)] ++ List.replicate 92 AV.undef),
                                      hp := [], df := [] }
                                else
                                  (loop 55 0 lc_55_8
                                        ([AV.undef, AV.ptr 0 0, AV.undef, AV.e (E.int IntKind.i64 (IntKind.i64.wrap (t3 + 1)))] ++ List.replicate 91 AV.undef)
                                        [Ob.box
                                            [AV.e (E.int IntKind.i64 t1_0), AV.e (E.int IntKind.i64 t1_1), AV.e (E.str t1_2),
                                              AV.e (E.sl 9 t1_3), AV.e (E.sl 38 t1_4)]]).bind
                                    fun o => some o
                              else none
                            else none
                        else none
                    else
                      bif decide (0 ≤ t3) && decide (t3 < (↑t1_4.length : Int)) then
                        (run none 55
                              [AV.agg
                                  [AV.e (E.int IntKind.i64 ((t1_4.getD t3.toNat E.nili).cell 0).toInt),
                                    AV.e (E.int IntKind.i64 ((t1_4.getD t3.toNat E.nili).cell 1).toInt),
                                    AV.e (E.str ((t1_4.getD t3.toNat E.nili).cell 2).toStr),
                                    AV.e (E.sl 9 ((t1_4.getD t3.toNat E.nili).cell 3).toList),
                                    AV.e (E.sl 38 ((t1_4.getD t3.toNat E.nili).cell 4).toList)]]
                              []).bind
                          fun rh =>
                          bif okHeap [] rh.2 then
                            bif okRes Go.Proofs.Tryd.prog 29 rh.fst then
                              bif !rh.fst.val.data.toInt == 0 then
                                some
                                  { ex := Ex.ret,
                                    fr :=
                                      ([AV.undef, AV.undef, AV.e (E.int IntKind.i64 rh.fst.val.data.toInt)] ++ List.replicate 92 AV.undef),
                                    hp := [], df := [] }
                              else
                                (loop 55 0 lc_55_8
                                      ([AV.undef, AV.ptr 0 0, AV.undef, AV.e (E.int IntKind.i64 (IntKind.i64.wrap (t3 + 1)))] ++ List.replicate 91 AV.undef)
                                      [Ob.box
                                          [AV.e (E.int IntKind.i64 t1_0), AV.e (E.int IntKind.i64 t1_1), AV.e (E.str t1_2),
                                            AV.e (E.sl 9 t1_3), AV.e (E.sl 38 t1_4)]]).bind
                                  fun o => some o
                            else none
                          else none
                      else none
                else none
              else none
          else none
        else
          bif (t1_0 == 6) == true then
            bif decide (0 < t3) == true then
              bif decide (0 ≤ t3) && decide (t3 < (↑t1_3.length : Int)) then
                bif decide (0 ≤ IntKind.i64.wrap (t3 - 1)) && decide (IntKind.i64.wrap (t3 - 1) < (↑t1_3.length : Int)) then
                  bif
                      Op.bytesLess ((t1_3.getD t3.toNat E.nili).cell 0).toStr
                          ((t1_3.getD (IntKind.i64.wrap (t3 - 1)).toNat E.nili).cell 0).toStr ||
                        strEq ((t1_3.getD t3.toNat E.nili).cell 0).toStr
                          ((t1_3.getD (IntKind.i64.wrap (t3 - 1)).toNat E.nili).cell 0).toStr then
                    some
                      { ex := Ex.ret,
                        fr :=
                          ([AV.undef, AV.undef, AV.e (E.int IntKind.i64 22)] ++ List.replicate 92 AV.undef),
                        hp := [], df := [] }
                  else
                    bif decide (0 ≤ t3) && decide (t3 < (↑t1_4.length : Int)) then
                      (run none 55
                            [AV.agg
                                [AV.e (E.int IntKind.i64 ((t1_4.getD t3.toNat E.nili).cell 0).toInt),
                                  AV.e (E.int IntKind.i64 ((t1_4.getD t3.toNat E.nili).cell 1).toInt),
                                  AV.e (E.str ((t1_4.getD t3.toNat E.nili).cell 2).toStr),
                                  AV.e (E.sl 9 ((t1_4.getD t3.toNat E.nili).cell 3).toList),
                                  AV.e (E.sl 38 ((t1_4.getD t3.toNat E.nili).cell 4).toList)]]
                            []).bind
                        fun rh =>
                        bif okHeap [] rh.2 then
                          bif okRes Go.Proofs.Tryd.prog 29 rh.fst then
                            bif !rh.fst.val.data.toInt == 0 then
                              some
                                { ex := Ex.ret,
                                  fr :=
                                    ([AV.undef, AV.undef, AV.e (E.int IntKind.i64 rh.fst.val.data.toInt)] ++ List.replicate 92 AV.undef),
                                  hp := [], df := [] }
                            else
                              (loop 55 0 lc_55_8
                                    ([AV.undef, AV.ptr 0 0, AV.undef, AV.e (E.int IntKind.i64 (IntKind.i64.wrap (t3 + 1)))] ++ List.replicate 91 AV.undef)
                                    [Ob.box
                                        [AV.e (E.int IntKind.i64 t1_0), AV.e (E.int IntKind.i64 t1_1), AV.e (E.str t1_2),
                                          AV.e (E.sl 9 t1_3), AV.e (E.sl 38 t1_4)]]).bind
                                fun o => some o
                          else none
                        else none
                    else none
                else none
              else none
            else
              bif decide (0 ≤ t3) && decide (t3 < (↑t1_4.length : Int)) then
                (run none 55
                      [AV.agg
                          [AV.e (E.int IntKind.i64 ((t1_4.getD t3.toNat E.nili).cell 0).toInt),
                            AV.e (E.int IntKind.i64 ((t1_4.getD t3.toNat E.nili).cell 1).toInt),
                            AV.e (E.str ((t1_4.getD t3.toNat E.nili).cell 2).toStr),
                            AV.e (E.sl 9 ((t1_4.getD t3.toNat E.nili).cell 3).toList),
                            AV.e (E.sl 38 ((t1_4.getD t3.toNat E.nili).cell 4).toList)]]
                      []).bind
                  fun rh =>
                  bif okHeap [] rh.2 then
                    bif okRes Go.Proofs.Tryd.prog 29 rh.fst then
                      bif !rh.fst.val.data.toInt == 0 then
                        some
                          { ex := Ex.ret,
                            fr :=
                              ([AV.undef, AV.undef, AV.e (E.int IntKind.i64 rh.fst.val.data.toInt)] ++ List.replicate 92 AV.undef),
                            hp := [], df := [] }
                      else
                        (loop 55 0 lc_55_8
                              ([AV.undef, AV.ptr 0 0, AV.undef, AV.e (E.int IntKind.i64 (IntKind.i64.wrap (t3 + 1)))] ++ List.replicate 91 AV.undef)
                              [Ob.box
                                  [AV.e (E.int IntKind.i64 t1_0), AV.e (E.int IntKind.i64 t1_1), AV.e (E.str t1_2),
                                    AV.e (E.sl 9 t1_3), AV.e (E.sl 38 t1_4)]]).bind
                          fun o => some o
                    else none
                  else none
              else none
          else
            bif decide (0 ≤ t3) && decide (t3 < (↑t1_4.length : Int)) then
              (run none 55
                    [AV.agg
                        [AV.e (E.int IntKind.i64 ((t1_4.getD t3.toNat E.nili).cell 0).toInt),
                          AV.e (E.int IntKind.i64 ((t1_4.getD t3.toNat E.nili).cell 1).toInt),
                          AV.e (E.str ((t1_4.getD t3.toNat E.nili).cell 2).toStr),
                          AV.e (E.sl 9 ((t1_4.getD t3.toNat E.nili).cell 3).toList),
                          AV.e (E.sl 38 ((t1_4.getD t3.toNat E.nili).cell 4).toList)]]
                    []).bind
                fun rh =>
                bif okHeap [] rh.2 then
                  bif okRes Go.Proofs.Tryd.prog 29 rh.fst then
                    bif !rh.fst.val.data.toInt == 0 then
                      some
                        { ex := Ex.ret,
                          fr :=
                            ([AV.undef, AV.undef, AV.e (E.int IntKind.i64 rh.fst.val.data.toInt)] ++ List.replicate 92 AV.undef),
                          hp := [], df := [] }
                    else
                      (loop 55 0 lc_55_8
                            ([AV.undef, AV.ptr 0 0, AV.undef, AV.e (E.int IntKind.i64 (IntKind.i64.wrap (t3 + 1)))] ++ List.replicate 91 AV.undef)
                            [Ob.box
                                [AV.e (E.int IntKind.i64 t1_0), AV.e (E.int IntKind.i64 t1_1), AV.e (E.str t1_2),
                                  AV.e (E.sl 9 t1_3), AV.e (E.sl 38 t1_4)]]).bind
                        fun o => some o
                  else none
                else none
            else none
      else
        some
          { ex := Ex.exit 0,
            fr :=
              (List.replicate 95 AV.undef),
            hp := [], df := [] } := by kernel_rfl

theorem eq_odd (run : RunF) (loop : LoopF) (a0_0 : Int) (a0_1 : Int) (a0_2 : List UInt8) (a0_3 : List E) (a0_4 : List E) :
    bodyRun Go.Proofs.Tryd.prog HH run loop none 100 [.agg [.e (.int .i64 a0_0), .e (.int .i64 a0_1), .e (.str a0_2), .e (.sl 9 a0_3), .e (.sl 38 a0_4)]] [] =
      bif (bif !bif a0_0 == 1 then true else a0_0 == 3 then !a0_1 == 0 else false) == false then
        bif (!a0_0 == 2) == true then
          bif (!strEq a0_2 ([] : List UInt8)) == false then
            bif (!bif a0_0 == 5 then true else a0_0 == 6) == true then
              bif decide (0 < (↑a0_4.length : Int)) == false then
                bif (!a0_0 == 6) == true then
                  bif decide (0 < (↑a0_3.length : Int)) == false then
                    bif (a0_0 == 6) == true then
                      some (Res.ret (AV.e (E.bool !(↑a0_3.length : Int) == (↑a0_4.length : Int))), [])
                    else some (Res.ret (AV.e (E.bool false)), [])
                  else some (Res.ret (AV.e (E.bool true)), [])
                else
                  bif (a0_0 == 6) == true then
                    some (Res.ret (AV.e (E.bool !(↑a0_3.length : Int) == (↑a0_4.length : Int))), [])
                  else some (Res.ret (AV.e (E.bool false)), [])
              else some (Res.ret (AV.e (E.bool true)), [])
            else
              bif (!a0_0 == 6) == true then
                bif decide (0 < (↑a0_3.length : Int)) == false then
                  bif (a0_0 == 6) == true then
                    some (Res.ret (AV.e (E.bool !(↑a0_3.length : Int) == (↑a0_4.length : Int))), [])
                  else some (Res.ret (AV.e (E.bool false)), [])
                else some (Res.ret (AV.e (E.bool true)), [])
              else
                bif (a0_0 == 6) == true then some (Res.ret (AV.e (E.bool !(↑a0_3.length : Int) == (↑a0_4.length : Int))), [])
                else some (Res.ret (AV.e (E.bool false)), [])
          else some (Res.ret (AV.e (E.bool true)), [])
        else
          bif (!bif a0_0 == 5 then true else a0_0 == 6) == true then
            bif decide (0 < (↑a0_4.length : Int)) == false then
              bif (!a0_0 == 6) == true then
                bif decide (0 < (↑a0_3.length : Int)) == false then
                  bif (a0_0 == 6) == true then
                    some (Res.ret (AV.e (E.bool !(↑a0_3.length : Int) == (↑a0_4.length : Int))), [])
                  else some (Res.ret (AV.e (E.bool false)), [])
                else some (Res.ret (AV.e (E.bool true)), [])
              else
                bif (a0_0 == 6) == true then some (Res.ret (AV.e (E.bool !(↑a0_3.length : Int) == (↑a0_4.length : Int))), [])
                else some (Res.ret (AV.e (E.bool false)), [])
            else some (Res.ret (AV.e (E.bool true)), [])
          else
            bif (!a0_0 == 6) == true then
              bif decide (0 < (↑a0_3.length : Int)) == false then
                bif (a0_0 == 6) == true then some (Res.ret (AV.e (E.bool !(↑a0_3.length : Int) == (↑a0_4.length : Int))), [])
                else some (Res.ret (AV.e (E.bool false)), [])
              else some (Res.ret (AV.e (E.bool true)), [])
            else
              bif (a0_0 == 6) == true then some (Res.ret (AV.e (E.bool !(↑a0_3.length : Int) == (↑a0_4.length : Int))), [])
              else some (Res.ret (AV.e (E.bool false)), [])
      else some (Res.ret (AV.e (E.bool true)), []) := by kernel_rfl


end Go.Proofs.YtghdhhmlmdohkaaDoor
