/- What each function of the limits' laws comes to, one step deep: printed by a program of mine, and checked by the kernel. -/
import Derived.Test.YtdlfldeacoiokaaDen23
import Derived.Test.YtdlfldeacoiokaaProg
import Derived.KernelRfl
namespace Go.Proofs.Ytdlfldeacoiokaa
open Go Go.Den
set_option maxRecDepth 100000

noncomputable def HH : Hints := { prim := fun _ => none, live := fun _ _ => [], pans := fun _ => false }

theorem eq_LChecks (run : FuncId → List AV → Heap → Option (Res × Heap)) (loop : FuncId → Nat → Code → Fr → Heap → Option Out) (r b l t : Int) :
    bodyRun Try.prog HH run loop 3 [.agg [.e (.int .i64 r), .e (.int .i64 b), .e (.int .i64 l), .e (.int .i64 t)]] [] =
      Option.bind (run 9 [] []) fun rh =>
        cond (okRes Try.prog 4 rh.fst && List.isEmpty rh.snd)
          (cond (rh.fst.val.data.toBool == true)
            (Option.bind
              (run 10
                [AV.agg
                    [AV.e (E.int IntKind.i64 r), AV.e (E.int IntKind.i64 b), AV.e (E.int IntKind.i64 l),
                      AV.e (E.int IntKind.i64 t)]]
                [])
              fun rh =>
              cond (okRes Try.prog 25 rh.fst && List.isEmpty rh.snd)
                (Option.bind
                  (run 11
                    [AV.agg
                        [AV.e (E.int IntKind.i64 r), AV.e (E.int IntKind.i64 b), AV.e (E.int IntKind.i64 l),
                          AV.e (E.int IntKind.i64 t)]]
                    [])
                  fun rh_1 =>
                  cond (okRes Try.prog 25 rh_1.fst && List.isEmpty rh_1.snd)
                    (some
                      (Res.ret (AV.e (E.bool (bif true then rh.fst.val.data.toInt == rh_1.fst.val.data.toInt else false))),
                        []))
                    none)
                none)
            (some (Res.ret (AV.e (E.bool false)), [])))
          none := by kernel_rfl

theorem eq_LTakes (run : FuncId → List AV → Heap → Option (Res × Heap)) (loop : FuncId → Nat → Code → Fr → Heap → Option Out) (r b l t now n : Int) :
    bodyRun Try.prog HH run loop 4 [.agg [.e (.int .i64 r), .e (.int .i64 b), .e (.int .i64 l), .e (.int .i64 t)], .e (.int .i64 now), .e (.int .i64 n)] [] =
      Option.bind
        (run 12
          [AV.agg
              [AV.e (E.int IntKind.i64 r), AV.e (E.int IntKind.i64 b), AV.e (E.int IntKind.i64 l),
                AV.e (E.int IntKind.i64 t)],
            AV.e (E.int IntKind.i64 now)]
          [])
        fun rh =>
        cond (okRes Try.prog 4 rh.fst && List.isEmpty rh.snd)
          (cond (!rh.fst.val.data.toBool)
            (Option.bind (run 9 [] []) fun rh =>
              cond (okRes Try.prog 4 rh.fst && List.isEmpty rh.snd)
                (some (Res.ret (AV.e (E.bool rh.fst.val.data.toBool)), [])) none)
            (Option.bind
              (run 13
                [AV.agg
                    [AV.e (E.int IntKind.i64 r), AV.e (E.int IntKind.i64 b), AV.e (E.int IntKind.i64 l),
                      AV.e (E.int IntKind.i64 t)],
                  AV.e (E.int IntKind.i64 now), AV.e (E.int IntKind.i64 n)]
                [])
              fun rh =>
              cond (okRes Try.prog 29 rh.fst && List.isEmpty rh.snd)
                (Option.bind
                  (run 14
                    [AV.agg
                        [AV.e (E.int IntKind.i64 r), AV.e (E.int IntKind.i64 b), AV.e (E.int IntKind.i64 l),
                          AV.e (E.int IntKind.i64 t)],
                      AV.e (E.int IntKind.i64 now), AV.e (E.int IntKind.i64 n)]
                    [])
                  fun rh_1 =>
                  cond (okRes Try.prog 29 rh_1.fst && List.isEmpty rh_1.snd)
                    (Option.bind
                      (run 15
                        [AV.agg
                            [AV.e (E.int IntKind.i64 r), AV.e (E.int IntKind.i64 b), AV.e (E.int IntKind.i64 l),
                              AV.e (E.int IntKind.i64 t)],
                          AV.e (E.int IntKind.i64 now)]
                        [])
                      fun rh_2 =>
                      cond (okRes Try.prog 23 rh_2.fst && List.isEmpty rh_2.snd)
                        (Option.bind (run 9 [] []) fun rh_3 =>
                          cond (okRes Try.prog 4 rh_3.fst && List.isEmpty rh_3.snd)
                            (cond (rh_3.fst.val.data.toBool == true)
                              (cond
                                ((bif true then (rh.fst.val.comp 1).data.toBool == (rh_1.fst.val.comp 1).data.toBool
                                  else false) ==
                                  true)
                                (Option.bind
                                  (run 16
                                    [AV.agg
                                        [AV.e (E.int IntKind.i64 ((rh.fst.val.comp 0).data.cell 0).toInt),
                                          AV.e (E.int IntKind.i64 ((rh.fst.val.comp 0).data.cell 1).toInt),
                                          AV.e (E.int IntKind.i64 ((rh.fst.val.comp 0).data.cell 2).toInt),
                                          AV.e (E.int IntKind.i64 ((rh.fst.val.comp 0).data.cell 3).toInt)],
                                      AV.agg
                                        [AV.e (E.int IntKind.i64 ((rh_1.fst.val.comp 0).data.cell 0).toInt),
                                          AV.e (E.int IntKind.i64 ((rh_1.fst.val.comp 0).data.cell 1).toInt),
                                          AV.e (E.int IntKind.i64 ((rh_1.fst.val.comp 0).data.cell 2).toInt),
                                          AV.e (E.int IntKind.i64 ((rh_1.fst.val.comp 0).data.cell 3).toInt)]]
                                    [])
                                  fun rh_4 =>
                                  cond (okRes Try.prog 4 rh_4.fst && List.isEmpty rh_4.snd)
                                    (cond ((bif true then rh_4.fst.val.data.toBool else false) == true)
                                      (Option.bind
                                        (run 17
                                          [AV.agg
                                              [AV.e (E.int IntKind.i64 r), AV.e (E.int IntKind.i64 b),
                                                AV.e (E.int IntKind.i64 l), AV.e (E.int IntKind.i64 t)],
                                            AV.e (E.int IntKind.i64 now)]
                                          [])
                                        fun rh_5 =>
                                        cond (okRes Try.prog 23 rh_5.fst && List.isEmpty rh_5.snd)
                                          (Option.bind
                                            (run 16
                                              [AV.agg
                                                  [AV.e (E.int IntKind.i64 (rh_2.fst.val.data.cell 0).toInt),
                                                    AV.e (E.int IntKind.i64 (rh_2.fst.val.data.cell 1).toInt),
                                                    AV.e (E.int IntKind.i64 (rh_2.fst.val.data.cell 2).toInt),
                                                    AV.e (E.int IntKind.i64 (rh_2.fst.val.data.cell 3).toInt)],
                                                AV.agg
                                                  [AV.e (E.int IntKind.i64 (rh_5.fst.val.data.cell 0).toInt),
                                                    AV.e (E.int IntKind.i64 (rh_5.fst.val.data.cell 1).toInt),
                                                    AV.e (E.int IntKind.i64 (rh_5.fst.val.data.cell 2).toInt),
                                                    AV.e (E.int IntKind.i64 (rh_5.fst.val.data.cell 3).toInt)]]
                                              [])
                                            fun rh_6 =>
                                            cond (okRes Try.prog 4 rh_6.fst && List.isEmpty rh_6.snd)
                                              (cond ((bif true then rh_6.fst.val.data.toBool else false) == true)
                                                (Option.bind
                                                  (run 10
                                                    [AV.agg
                                                        [AV.e (E.int IntKind.i64 ((rh.fst.val.comp 0).data.cell 0).toInt),
                                                          AV.e (E.int IntKind.i64 ((rh.fst.val.comp 0).data.cell 1).toInt),
                                                          AV.e (E.int IntKind.i64 ((rh.fst.val.comp 0).data.cell 2).toInt),
                                                          AV.e (E.int IntKind.i64 ((rh.fst.val.comp 0).data.cell 3).toInt)]]
                                                    [])
                                                  fun rh =>
                                                  cond (okRes Try.prog 25 rh.fst && List.isEmpty rh.snd)
                                                    (cond ((bif true then rh.fst.val.data.toInt == 0 else false) == true)
                                                      (Option.bind
                                                        (run 10
                                                          [AV.agg
                                                              [AV.e (E.int IntKind.i64 (rh_2.fst.val.data.cell 0).toInt),
                                                                AV.e (E.int IntKind.i64 (rh_2.fst.val.data.cell 1).toInt),
                                                                AV.e (E.int IntKind.i64 (rh_2.fst.val.data.cell 2).toInt),
                                                                AV.e (E.int IntKind.i64 (rh_2.fst.val.data.cell 3).toInt)]]
                                                          [])
                                                        fun rh =>
                                                        cond (okRes Try.prog 25 rh.fst && List.isEmpty rh.snd)
                                                          (some
                                                            (Res.ret
                                                                (AV.e
                                                                  (E.bool
                                                                    (bif true then rh.fst.val.data.toInt == 0 else false))),
                                                              []))
                                                          none)
                                                      (some (Res.ret (AV.e (E.bool false)), [])))
                                                    none)
                                                (some (Res.ret (AV.e (E.bool false)), [])))
                                              none)
                                          none)
                                      (some (Res.ret (AV.e (E.bool false)), [])))
                                    none)
                                (some (Res.ret (AV.e (E.bool false)), [])))
                              (some (Res.ret (AV.e (E.bool false)), [])))
                            none)
                        none)
                    none)
                none))
          none := by kernel_rfl

theorem eq_LWaits (run : FuncId → List AV → Heap → Option (Res × Heap)) (loop : FuncId → Nat → Code → Fr → Heap → Option Out) (r b l t now n : Int) :
    bodyRun Try.prog HH run loop 5 [.agg [.e (.int .i64 r), .e (.int .i64 b), .e (.int .i64 l), .e (.int .i64 t)], .e (.int .i64 now), .e (.int .i64 n)] [] =
      Option.bind
        (run 12
          [AV.agg
              [AV.e (E.int IntKind.i64 r), AV.e (E.int IntKind.i64 b), AV.e (E.int IntKind.i64 l),
                AV.e (E.int IntKind.i64 t)],
            AV.e (E.int IntKind.i64 now)]
          [])
        fun rh =>
        cond (okRes Try.prog 4 rh.fst && List.isEmpty rh.snd)
          (cond (!rh.fst.val.data.toBool)
            (Option.bind (run 9 [] []) fun rh =>
              cond (okRes Try.prog 4 rh.fst && List.isEmpty rh.snd)
                (some (Res.ret (AV.e (E.bool rh.fst.val.data.toBool)), [])) none)
            (Option.bind
              (run 18
                [AV.agg
                    [AV.e (E.int IntKind.i64 r), AV.e (E.int IntKind.i64 b), AV.e (E.int IntKind.i64 l),
                      AV.e (E.int IntKind.i64 t)],
                  AV.e (E.int IntKind.i64 now), AV.e (E.int IntKind.i64 n)]
                [])
              fun rh =>
              cond (okRes Try.prog 34 rh.fst && List.isEmpty rh.snd)
                (Option.bind
                  (run 19
                    [AV.agg
                        [AV.e (E.int IntKind.i64 r), AV.e (E.int IntKind.i64 b), AV.e (E.int IntKind.i64 l),
                          AV.e (E.int IntKind.i64 t)],
                      AV.e (E.int IntKind.i64 now), AV.e (E.int IntKind.i64 n)]
                    [])
                  fun rh_1 =>
                  cond (okRes Try.prog 34 rh_1.fst && List.isEmpty rh_1.snd)
                    (Option.bind (run 9 [] []) fun rh_2 =>
                      cond (okRes Try.prog 4 rh_2.fst && List.isEmpty rh_2.snd)
                        (some
                          (Res.ret
                              (AV.e
                                (E.bool
                                  (bif
                                      bif rh_2.fst.val.data.toBool then
                                        (rh.fst.val.comp 0).data.toInt == (rh_1.fst.val.comp 0).data.toInt
                                      else false then
                                    (rh.fst.val.comp 1).data.toBool == (rh_1.fst.val.comp 1).data.toBool
                                  else false))),
                            []))
                        none)
                    none)
                none))
          none := by kernel_rfl

theorem eq_LFirst (run : FuncId → List AV → Heap → Option (Res × Heap)) (loop : FuncId → Nat → Code → Fr → Heap → Option Out) (r b l t now n th : Int) :
    bodyRun Try.prog HH run loop 6 [.agg [.e (.int .i64 r), .e (.int .i64 b), .e (.int .i64 l), .e (.int .i64 t)], .e (.int .i64 now), .e (.int .i64 n), .e (.int .i64 th)] [] =
      Option.bind
        (run 12
          [AV.agg
              [AV.e (E.int IntKind.i64 r), AV.e (E.int IntKind.i64 b), AV.e (E.int IntKind.i64 l),
                AV.e (E.int IntKind.i64 t)],
            AV.e (E.int IntKind.i64 now)]
          [])
        fun rh =>
        cond (okRes Try.prog 4 rh.fst && List.isEmpty rh.snd)
          (cond ((!rh.fst.val.data.toBool) == false)
            (Option.bind (run 20 [AV.e (E.int IntKind.i64 th)] []) fun rh =>
              cond (okRes Try.prog 4 rh.fst && List.isEmpty rh.snd)
                (cond
                  (bif bif bif false then true else !rh.fst.val.data.toBool then true else decide (th < now) then true
                  else decide (n < 0))
                  (Option.bind (run 9 [] []) fun rh =>
                    cond (okRes Try.prog 4 rh.fst && List.isEmpty rh.snd)
                      (some (Res.ret (AV.e (E.bool rh.fst.val.data.toBool)), [])) none)
                  (Option.bind
                    (run 18
                      [AV.agg
                          [AV.e (E.int IntKind.i64 r), AV.e (E.int IntKind.i64 b), AV.e (E.int IntKind.i64 l),
                            AV.e (E.int IntKind.i64 t)],
                        AV.e (E.int IntKind.i64 now), AV.e (E.int IntKind.i64 n)]
                      [])
                    fun rh =>
                    cond (okRes Try.prog 34 rh.fst && List.isEmpty rh.snd)
                      (Option.bind
                        (run 13
                          [AV.agg
                              [AV.e (E.int IntKind.i64 r), AV.e (E.int IntKind.i64 b), AV.e (E.int IntKind.i64 l),
                                AV.e (E.int IntKind.i64 t)],
                            AV.e (E.int IntKind.i64 th), AV.e (E.int IntKind.i64 n)]
                          [])
                        fun rh_1 =>
                        cond (okRes Try.prog 29 rh_1.fst && List.isEmpty rh_1.snd)
                          (cond (!(rh.fst.val.comp 1).data.toBool)
                            (Option.bind (run 9 [] []) fun rh_2 =>
                              cond (okRes Try.prog 4 rh_2.fst && List.isEmpty rh_2.snd)
                                (some
                                  (Res.ret
                                      (AV.e
                                        (E.bool
                                          (bif
                                              bif rh_2.fst.val.data.toBool then (rh.fst.val.comp 0).data.toInt == 0
                                              else false then
                                            !(rh_1.fst.val.comp 1).data.toBool
                                          else false))),
                                    []))
                                none)
                            (Option.bind
                              (run 13
                                [AV.agg
                                    [AV.e (E.int IntKind.i64 r), AV.e (E.int IntKind.i64 b), AV.e (E.int IntKind.i64 l),
                                      AV.e (E.int IntKind.i64 t)],
                                  AV.e (E.int IntKind.i64 (rh.fst.val.comp 0).data.toInt), AV.e (E.int IntKind.i64 n)]
                                [])
                              fun rh_2 =>
                              cond (okRes Try.prog 29 rh_2.fst && List.isEmpty rh_2.snd)
                                (Option.bind (run 9 [] []) fun rh_3 =>
                                  cond (okRes Try.prog 4 rh_3.fst && List.isEmpty rh_3.snd)
                                    (cond
                                      ((bif
                                            bif
                                                bif rh_3.fst.val.data.toBool then
                                                  decide (now ≤ (rh.fst.val.comp 0).data.toInt)
                                                else false then
                                              decide ((rh.fst.val.comp 0).data.toInt ≤ 1099511627776)
                                            else false then
                                          (rh_2.fst.val.comp 1).data.toBool
                                        else false) ==
                                        true)
                                      (cond (decide ((rh.fst.val.comp 0).data.toInt ≤ th) == false)
                                        (some
                                          (Res.ret
                                              (AV.e
                                                (E.bool
                                                  (bif true then bif false then true else !(rh_1.fst.val.comp 1).data.toBool
                                                  else false))),
                                            []))
                                        (some (Res.ret (AV.e (E.bool true)), [])))
                                      (some (Res.ret (AV.e (E.bool false)), [])))
                                    none)
                                none))
                          none)
                      none))
                none)
            (Option.bind (run 9 [] []) fun rh =>
              cond (okRes Try.prog 4 rh.fst && List.isEmpty rh.snd)
                (some (Res.ret (AV.e (E.bool rh.fst.val.data.toBool)), [])) none))
          none := by kernel_rfl

theorem eq_LSplits (run : FuncId → List AV → Heap → Option (Res × Heap)) (loop : FuncId → Nat → Code → Fr → Heap → Option Out) (r b l t now th : Int) :
    bodyRun Try.prog HH run loop 7 [.agg [.e (.int .i64 r), .e (.int .i64 b), .e (.int .i64 l), .e (.int .i64 t)], .e (.int .i64 now), .e (.int .i64 th)] [] =
      Option.bind
        (run 12
          [AV.agg
              [AV.e (E.int IntKind.i64 r), AV.e (E.int IntKind.i64 b), AV.e (E.int IntKind.i64 l),
                AV.e (E.int IntKind.i64 t)],
            AV.e (E.int IntKind.i64 now)]
          [])
        fun rh =>
        cond (okRes Try.prog 4 rh.fst && List.isEmpty rh.snd)
          (cond ((!rh.fst.val.data.toBool) == false)
            (Option.bind (run 20 [AV.e (E.int IntKind.i64 th)] []) fun rh =>
              cond (okRes Try.prog 4 rh.fst && List.isEmpty rh.snd)
                (cond (bif bif false then true else !rh.fst.val.data.toBool then true else decide (th < now))
                  (Option.bind (run 9 [] []) fun rh =>
                    cond (okRes Try.prog 4 rh.fst && List.isEmpty rh.snd)
                      (some (Res.ret (AV.e (E.bool rh.fst.val.data.toBool)), [])) none)
                  (Option.bind (run 9 [] []) fun rh =>
                    cond (okRes Try.prog 4 rh.fst && List.isEmpty rh.snd)
                      (cond (rh.fst.val.data.toBool == true)
                        (Option.bind
                          (run 15
                            [AV.agg
                                [AV.e (E.int IntKind.i64 r), AV.e (E.int IntKind.i64 b), AV.e (E.int IntKind.i64 l),
                                  AV.e (E.int IntKind.i64 t)],
                              AV.e (E.int IntKind.i64 now)]
                            [])
                          fun rh =>
                          cond (okRes Try.prog 23 rh.fst && List.isEmpty rh.snd)
                            (Option.bind
                              (run 15
                                [AV.agg
                                    [AV.e (E.int IntKind.i64 (rh.fst.val.data.cell 0).toInt),
                                      AV.e (E.int IntKind.i64 (rh.fst.val.data.cell 1).toInt),
                                      AV.e (E.int IntKind.i64 (rh.fst.val.data.cell 2).toInt),
                                      AV.e (E.int IntKind.i64 (rh.fst.val.data.cell 3).toInt)],
                                  AV.e (E.int IntKind.i64 th)]
                                [])
                              fun rh =>
                              cond (okRes Try.prog 23 rh.fst && List.isEmpty rh.snd)
                                (Option.bind
                                  (run 15
                                    [AV.agg
                                        [AV.e (E.int IntKind.i64 r), AV.e (E.int IntKind.i64 b), AV.e (E.int IntKind.i64 l),
                                          AV.e (E.int IntKind.i64 t)],
                                      AV.e (E.int IntKind.i64 th)]
                                    [])
                                  fun rh_1 =>
                                  cond (okRes Try.prog 23 rh_1.fst && List.isEmpty rh_1.snd)
                                    (Option.bind
                                      (run 16
                                        [AV.agg
                                            [AV.e (E.int IntKind.i64 (rh.fst.val.data.cell 0).toInt),
                                              AV.e (E.int IntKind.i64 (rh.fst.val.data.cell 1).toInt),
                                              AV.e (E.int IntKind.i64 (rh.fst.val.data.cell 2).toInt),
                                              AV.e (E.int IntKind.i64 (rh.fst.val.data.cell 3).toInt)],
                                          AV.agg
                                            [AV.e (E.int IntKind.i64 (rh_1.fst.val.data.cell 0).toInt),
                                              AV.e (E.int IntKind.i64 (rh_1.fst.val.data.cell 1).toInt),
                                              AV.e (E.int IntKind.i64 (rh_1.fst.val.data.cell 2).toInt),
                                              AV.e (E.int IntKind.i64 (rh_1.fst.val.data.cell 3).toInt)]]
                                        [])
                                      fun rh =>
                                      cond (okRes Try.prog 4 rh.fst && List.isEmpty rh.snd)
                                        (some (Res.ret (AV.e (E.bool (bif true then rh.fst.val.data.toBool else false))), []))
                                        none)
                                    none)
                                none)
                            none)
                        (some (Res.ret (AV.e (E.bool false)), [])))
                      none))
                none)
            (Option.bind (run 9 [] []) fun rh =>
              cond (okRes Try.prog 4 rh.fst && List.isEmpty rh.snd)
                (some (Res.ret (AV.e (E.bool rh.fst.val.data.toBool)), [])) none))
          none := by kernel_rfl

theorem eq_check (run : FuncId → List AV → Heap → Option (Res × Heap)) (loop : FuncId → Nat → Code → Fr → Heap → Option Out) (r b l t : Int) :
    bodyRun Try.prog HH run loop 10 [.agg [.e (.int .i64 r), .e (.int .i64 b), .e (.int .i64 l), .e (.int .i64 t)]] [] =
      Option.bind (run 24 [AV.e (E.int IntKind.i64 r), AV.e (E.int IntKind.i64 1099511627776)] []) fun rh =>
        cond (okRes Try.prog 4 rh.fst && List.isEmpty rh.snd)
          (cond ((!rh.fst.val.data.toBool) == false)
            (Option.bind (run 24 [AV.e (E.int IntKind.i64 b), AV.e (E.int IntKind.i64 1099511627776)] []) fun rh =>
              cond (okRes Try.prog 4 rh.fst && List.isEmpty rh.snd)
                (cond ((bif false then true else !rh.fst.val.data.toBool) == false)
                  (Option.bind (run 24 [AV.e (E.int IntKind.i64 l), AV.e (E.int IntKind.i64 b)] []) fun rh =>
                    cond (okRes Try.prog 4 rh.fst && List.isEmpty rh.snd)
                      (cond ((bif false then true else !rh.fst.val.data.toBool) == false)
                        (Option.bind (run 24 [AV.e (E.int IntKind.i64 t), AV.e (E.int IntKind.i64 1099511627776)] []) fun rh =>
                          cond (okRes Try.prog 4 rh.fst && List.isEmpty rh.snd)
                            (cond (bif false then true else !rh.fst.val.data.toBool)
                              (some (Res.ret (AV.e (E.int IntKind.i64 1)), []))
                              (some (Res.ret (AV.e (E.int IntKind.i64 0)), [])))
                            none)
                        (some (Res.ret (AV.e (E.int IntKind.i64 1)), [])))
                      none)
                  (some (Res.ret (AV.e (E.int IntKind.i64 1)), [])))
                none)
            (some (Res.ret (AV.e (E.int IntKind.i64 1)), [])))
          none := by kernel_rfl

theorem eq_rcheck (run : FuncId → List AV → Heap → Option (Res × Heap)) (loop : FuncId → Nat → Code → Fr → Heap → Option Out) (r b l t : Int) :
    bodyRun Try.prog HH run loop 11 [.agg [.e (.int .i64 r), .e (.int .i64 b), .e (.int .i64 l), .e (.int .i64 t)]] [] =
      Option.bind (run 25 [AV.e (E.int IntKind.i64 r), AV.e (E.int IntKind.i64 1099511627776)] []) fun rh =>
        cond (okRes Try.prog 4 rh.fst && List.isEmpty rh.snd)
          (cond ((!rh.fst.val.data.toBool) == false)
            (Option.bind (run 25 [AV.e (E.int IntKind.i64 b), AV.e (E.int IntKind.i64 1099511627776)] []) fun rh =>
              cond (okRes Try.prog 4 rh.fst && List.isEmpty rh.snd)
                (cond ((bif false then true else !rh.fst.val.data.toBool) == false)
                  (Option.bind (run 25 [AV.e (E.int IntKind.i64 l), AV.e (E.int IntKind.i64 b)] []) fun rh =>
                    cond (okRes Try.prog 4 rh.fst && List.isEmpty rh.snd)
                      (cond ((bif false then true else !rh.fst.val.data.toBool) == false)
                        (Option.bind (run 25 [AV.e (E.int IntKind.i64 t), AV.e (E.int IntKind.i64 1099511627776)] []) fun rh =>
                          cond (okRes Try.prog 4 rh.fst && List.isEmpty rh.snd)
                            (cond (bif false then true else !rh.fst.val.data.toBool)
                              (some (Res.ret (AV.e (E.int IntKind.i64 1)), []))
                              (some (Res.ret (AV.e (E.int IntKind.i64 0)), [])))
                            none)
                        (some (Res.ret (AV.e (E.int IntKind.i64 1)), [])))
                      none)
                  (some (Res.ret (AV.e (E.int IntKind.i64 1)), [])))
                none)
            (some (Res.ret (AV.e (E.int IntKind.i64 1)), [])))
          none := by kernel_rfl

theorem eq_valid (run : FuncId → List AV → Heap → Option (Res × Heap)) (loop : FuncId → Nat → Code → Fr → Heap → Option Out) (r b l t n : Int) :
    bodyRun Try.prog HH run loop 12 [.agg [.e (.int .i64 r), .e (.int .i64 b), .e (.int .i64 l), .e (.int .i64 t)], .e (.int .i64 n)] [] =
      Option.bind
        (run 11
          [AV.agg
              [AV.e (E.int IntKind.i64 r), AV.e (E.int IntKind.i64 b), AV.e (E.int IntKind.i64 l),
                AV.e (E.int IntKind.i64 t)]]
          [])
        fun rh =>
        cond (okRes Try.prog 25 rh.fst && List.isEmpty rh.snd)
          (cond ((rh.fst.val.data.toInt == 0) == true)
            (Option.bind (run 20 [AV.e (E.int IntKind.i64 n)] []) fun rh =>
              cond (okRes Try.prog 4 rh.fst && List.isEmpty rh.snd)
                (some (Res.ret (AV.e (E.bool (bif true then rh.fst.val.data.toBool else false))), [])) none)
            (some (Res.ret (AV.e (E.bool false)), [])))
          none := by kernel_rfl

theorem eq_take (run : FuncId → List AV → Heap → Option (Res × Heap)) (loop : FuncId → Nat → Code → Fr → Heap → Option Out) (r b l t now n : Int) :
    bodyRun Try.prog HH run loop 13 [.agg [.e (.int .i64 r), .e (.int .i64 b), .e (.int .i64 l), .e (.int .i64 t)], .e (.int .i64 now), .e (.int .i64 n)] [] =
      Option.bind
        (run 15
          [AV.agg
              [AV.e (E.int IntKind.i64 r), AV.e (E.int IntKind.i64 b), AV.e (E.int IntKind.i64 l),
                AV.e (E.int IntKind.i64 t)],
            AV.e (E.int IntKind.i64 now)]
          [])
        fun rh =>
        cond (okRes Try.prog 23 rh.fst && List.isEmpty rh.snd)
          (cond (bif decide (n < 0) then true else decide ((rh.fst.val.data.cell 2).toInt < n))
            (some
              (Res.ret
                  (AV.tup
                    [AV.agg
                        [AV.e (E.int IntKind.i64 (rh.fst.val.data.cell 0).toInt),
                          AV.e (E.int IntKind.i64 (rh.fst.val.data.cell 1).toInt),
                          AV.e (E.int IntKind.i64 (rh.fst.val.data.cell 2).toInt),
                          AV.e (E.int IntKind.i64 (rh.fst.val.data.cell 3).toInt)],
                      AV.e (E.bool false)]),
                []))
            (some
              (Res.ret
                  (AV.tup
                    [AV.agg
                        [AV.e (E.int IntKind.i64 (rh.fst.val.data.cell 0).toInt),
                          AV.e (E.int IntKind.i64 (rh.fst.val.data.cell 1).toInt),
                          AV.e (E.int IntKind.i64 (IntKind.i64.wrap ((rh.fst.val.data.cell 2).toInt - n))),
                          AV.e (E.int IntKind.i64 (rh.fst.val.data.cell 3).toInt)],
                      AV.e (E.bool true)]),
                [])))
          none := by kernel_rfl

theorem eq_rtake (run : FuncId → List AV → Heap → Option (Res × Heap)) (loop : FuncId → Nat → Code → Fr → Heap → Option Out) (r b l t now n : Int) :
    bodyRun Try.prog HH run loop 14 [.agg [.e (.int .i64 r), .e (.int .i64 b), .e (.int .i64 l), .e (.int .i64 t)], .e (.int .i64 now), .e (.int .i64 n)] [] =
      Option.bind
        (run 17
          [AV.agg
              [AV.e (E.int IntKind.i64 r), AV.e (E.int IntKind.i64 b), AV.e (E.int IntKind.i64 l),
                AV.e (E.int IntKind.i64 t)],
            AV.e (E.int IntKind.i64 now)]
          [])
        fun rh =>
        cond (okRes Try.prog 23 rh.fst && List.isEmpty rh.snd)
          (cond (bif decide (n < 0) then true else decide ((rh.fst.val.data.cell 2).toInt < n))
            (some
              (Res.ret
                  (AV.tup
                    [AV.agg
                        [AV.e (E.int IntKind.i64 (rh.fst.val.data.cell 0).toInt),
                          AV.e (E.int IntKind.i64 (rh.fst.val.data.cell 1).toInt),
                          AV.e (E.int IntKind.i64 (rh.fst.val.data.cell 2).toInt),
                          AV.e (E.int IntKind.i64 (rh.fst.val.data.cell 3).toInt)],
                      AV.e (E.bool false)]),
                []))
            (some
              (Res.ret
                  (AV.tup
                    [AV.agg
                        [AV.e (E.int IntKind.i64 (rh.fst.val.data.cell 0).toInt),
                          AV.e (E.int IntKind.i64 (rh.fst.val.data.cell 1).toInt),
                          AV.e (E.int IntKind.i64 (IntKind.i64.wrap ((rh.fst.val.data.cell 2).toInt - n))),
                          AV.e (E.int IntKind.i64 (rh.fst.val.data.cell 3).toInt)],
                      AV.e (E.bool true)]),
                [])))
          none := by kernel_rfl

theorem eq_refill (run : FuncId → List AV → Heap → Option (Res × Heap)) (loop : FuncId → Nat → Code → Fr → Heap → Option Out) (r b l t now : Int) :
    bodyRun Try.prog HH run loop 15 [.agg [.e (.int .i64 r), .e (.int .i64 b), .e (.int .i64 l), .e (.int .i64 t)], .e (.int .i64 now)] [] =
      Option.bind
        (run 26
          [AV.agg
              [AV.e (E.int IntKind.i64 r), AV.e (E.int IntKind.i64 b), AV.e (E.int IntKind.i64 l),
                AV.e (E.int IntKind.i64 t)],
            AV.e (E.int IntKind.i64 now)]
          [])
        fun rh =>
        cond (okRes Try.prog 3 rh.fst && List.isEmpty rh.snd)
          (some
            (Res.ret
                (AV.agg
                  [AV.e (E.int IntKind.i64 r), AV.e (E.int IntKind.i64 b), AV.e (E.int IntKind.i64 rh.fst.val.data.toInt),
                    AV.e (E.int IntKind.i64 (max t now))]),
              []))
          none := by kernel_rfl

theorem eq_same (run : FuncId → List AV → Heap → Option (Res × Heap)) (loop : FuncId → Nat → Code → Fr → Heap → Option Out) (r b l t r' b' l' t' : Int) :
    bodyRun Try.prog HH run loop 16 [.agg [.e (.int .i64 r), .e (.int .i64 b), .e (.int .i64 l), .e (.int .i64 t)], .agg [.e (.int .i64 r'), .e (.int .i64 b'), .e (.int .i64 l'), .e (.int .i64 t')]] [] =
      some
        (Res.ret
            (AV.e (E.bool (bif bif bif r == r' then b == b' else false then l == l' else false then t == t' else false))),
          []) := by kernel_rfl

theorem eq_rrefill (run : FuncId → List AV → Heap → Option (Res × Heap)) (loop : FuncId → Nat → Code → Fr → Heap → Option Out) (r b l t now : Int) :
    bodyRun Try.prog HH run loop 17 [.agg [.e (.int .i64 r), .e (.int .i64 b), .e (.int .i64 l), .e (.int .i64 t)], .e (.int .i64 now)] [] =
      cond (decide (t < now))
        (Option.bind
          (run 21
            [AV.agg
                [AV.e (E.int IntKind.i64 r), AV.e (E.int IntKind.i64 b), AV.e (E.int IntKind.i64 l),
                  AV.e (E.int IntKind.i64 t)],
              AV.e (E.int IntKind.i64 now)]
            [])
          fun rh =>
          cond (okRes Try.prog 3 rh.fst && List.isEmpty rh.snd)
            (some
              (Res.ret
                  (AV.agg
                    [AV.e (E.int IntKind.i64 r), AV.e (E.int IntKind.i64 b), AV.e (E.int IntKind.i64 rh.fst.val.data.toInt),
                      AV.e (E.int IntKind.i64 now)]),
                []))
            none)
        (Option.bind
          (run 21
            [AV.agg
                [AV.e (E.int IntKind.i64 r), AV.e (E.int IntKind.i64 b), AV.e (E.int IntKind.i64 l),
                  AV.e (E.int IntKind.i64 t)],
              AV.e (E.int IntKind.i64 now)]
            [])
          fun rh =>
          cond (okRes Try.prog 3 rh.fst && List.isEmpty rh.snd)
            (some
              (Res.ret
                  (AV.agg
                    [AV.e (E.int IntKind.i64 r), AV.e (E.int IntKind.i64 b), AV.e (E.int IntKind.i64 rh.fst.val.data.toInt),
                      AV.e (E.int IntKind.i64 t)]),
                []))
            none) := by kernel_rfl

theorem eq_wait (run : FuncId → List AV → Heap → Option (Res × Heap)) (loop : FuncId → Nat → Code → Fr → Heap → Option Out) (r b l t now n : Int) :
    bodyRun Try.prog HH run loop 18 [.agg [.e (.int .i64 r), .e (.int .i64 b), .e (.int .i64 l), .e (.int .i64 t)], .e (.int .i64 now), .e (.int .i64 n)] [] =
      Option.bind
        (run 26
          [AV.agg
              [AV.e (E.int IntKind.i64 r), AV.e (E.int IntKind.i64 b), AV.e (E.int IntKind.i64 l),
                AV.e (E.int IntKind.i64 t)],
            AV.e (E.int IntKind.i64 now)]
          [])
        fun rh =>
        cond (okRes Try.prog 3 rh.fst && List.isEmpty rh.snd)
          (cond (decide (n ≤ rh.fst.val.data.toInt))
            (some (Res.ret (AV.tup [AV.e (E.int IntKind.i64 now), AV.e (E.bool true)]), []))
            (cond (bif decide (b < n) then true else r == 0)
              (some (Res.ret (AV.tup [AV.e (E.int IntKind.i64 0), AV.e (E.bool false)]), []))
              (cond
                (!decide (r = 0),
                    E.int IntKind.i64 (IntKind.i64.wrap ((IntKind.i64.wrap (IntKind.i64.wrap (n - l) - 1)).tdiv r))).fst
                (cond
                  (decide
                    (1099511627776 <
                      IntKind.i64.wrap
                        (IntKind.i64.wrap (t + IntKind.i64.wrap ((IntKind.i64.wrap (IntKind.i64.wrap (n - l) - 1)).tdiv r)) +
                          1)))
                  (some (Res.ret (AV.tup [AV.e (E.int IntKind.i64 0), AV.e (E.bool false)]), []))
                  (some
                    (Res.ret
                        (AV.tup
                          [AV.e
                              (E.int IntKind.i64
                                (IntKind.i64.wrap
                                  (IntKind.i64.wrap
                                      (t + IntKind.i64.wrap ((IntKind.i64.wrap (IntKind.i64.wrap (n - l) - 1)).tdiv r)) +
                                    1))),
                            AV.e (E.bool true)]),
                      [])))
                none)))
          none := by kernel_rfl

theorem eq_rwait (run : FuncId → List AV → Heap → Option (Res × Heap)) (loop : FuncId → Nat → Code → Fr → Heap → Option Out) (r b l t now n : Int) :
    bodyRun Try.prog HH run loop 19 [.agg [.e (.int .i64 r), .e (.int .i64 b), .e (.int .i64 l), .e (.int .i64 t)], .e (.int .i64 now), .e (.int .i64 n)] [] =
      Option.bind
        (run 21
          [AV.agg
              [AV.e (E.int IntKind.i64 r), AV.e (E.int IntKind.i64 b), AV.e (E.int IntKind.i64 l),
                AV.e (E.int IntKind.i64 t)],
            AV.e (E.int IntKind.i64 now)]
          [])
        fun rh =>
        cond (okRes Try.prog 3 rh.fst && List.isEmpty rh.snd)
          (cond (decide (n ≤ rh.fst.val.data.toInt))
            (some (Res.ret (AV.tup [AV.e (E.int IntKind.i64 now), AV.e (E.bool true)]), []))
            (cond (bif decide (b < n) then true else r == 0)
              (some (Res.ret (AV.tup [AV.e (E.int IntKind.i64 0), AV.e (E.bool false)]), []))
              (cond (!decide (r = 0), E.int IntKind.i64 (IntKind.i64.wrap ((IntKind.i64.wrap (n - l)).tdiv r))).fst
                (cond (!decide (r = 0), E.int IntKind.i64 ((IntKind.i64.wrap (n - l)).tmod r)).fst
                  (cond (decide (0 < (IntKind.i64.wrap (n - l)).tmod r))
                    (cond
                      (decide
                        (IntKind.i64.wrap (1099511627776 - t) <
                          IntKind.i64.wrap (IntKind.i64.wrap ((IntKind.i64.wrap (n - l)).tdiv r) + 1)))
                      (some (Res.ret (AV.tup [AV.e (E.int IntKind.i64 0), AV.e (E.bool false)]), []))
                      (some
                        (Res.ret
                            (AV.tup
                              [AV.e
                                  (E.int IntKind.i64
                                    (IntKind.i64.wrap
                                      (t + IntKind.i64.wrap (IntKind.i64.wrap ((IntKind.i64.wrap (n - l)).tdiv r) + 1)))),
                                AV.e (E.bool true)]),
                          [])))
                    (cond
                      (decide (IntKind.i64.wrap (1099511627776 - t) < IntKind.i64.wrap ((IntKind.i64.wrap (n - l)).tdiv r)))
                      (some (Res.ret (AV.tup [AV.e (E.int IntKind.i64 0), AV.e (E.bool false)]), []))
                      (some
                        (Res.ret
                            (AV.tup
                              [AV.e
                                  (E.int IntKind.i64
                                    (IntKind.i64.wrap (t + IntKind.i64.wrap ((IntKind.i64.wrap (n - l)).tdiv r)))),
                                AV.e (E.bool true)]),
                          []))))
                  none)
                none)))
          none := by kernel_rfl

theorem eq_instant (run : FuncId → List AV → Heap → Option (Res × Heap)) (loop : FuncId → Nat → Code → Fr → Heap → Option Out) (n : Int) :
    bodyRun Try.prog HH run loop 20 [.e (.int .i64 n)] [] =
      some (Res.ret (AV.e (E.bool (bif decide (0 ≤ n) then decide (n ≤ 1099511627776) else false))), []) := by kernel_rfl

theorem eq_rtokens (run : FuncId → List AV → Heap → Option (Res × Heap)) (loop : FuncId → Nat → Code → Fr → Heap → Option Out) (r b l t now : Int) :
    bodyRun Try.prog HH run loop 21 [.agg [.e (.int .i64 r), .e (.int .i64 b), .e (.int .i64 l), .e (.int .i64 t)], .e (.int .i64 now)] [] =
      cond (bif decide (now ≤ t) then true else r == 0) (some (Res.ret (AV.e (E.int IntKind.i64 l)), []))
        (cond (!decide (r = 0), E.int IntKind.i64 (IntKind.i64.wrap ((IntKind.i64.wrap (b - l)).tdiv r))).fst
          (cond (decide (IntKind.i64.wrap ((IntKind.i64.wrap (b - l)).tdiv r) < IntKind.i64.wrap (now - t)))
            (some (Res.ret (AV.e (E.int IntKind.i64 b)), []))
            (some
              (Res.ret (AV.e (E.int IntKind.i64 (IntKind.i64.wrap (l + IntKind.i64.wrap (r * IntKind.i64.wrap (now - t)))))),
                [])))
          none) := by kernel_rfl

theorem eq_count (run : FuncId → List AV → Heap → Option (Res × Heap)) (loop : FuncId → Nat → Code → Fr → Heap → Option Out) (n m : Int) :
    bodyRun Try.prog HH run loop 24 [.e (.int .i64 n), .e (.int .i64 m)] [] =
      some (Res.ret (AV.e (E.bool (bif decide (0 ≤ n) then decide (n ≤ m) else false))), []) := by kernel_rfl

theorem eq_is (run : FuncId → List AV → Heap → Option (Res × Heap)) (loop : FuncId → Nat → Code → Fr → Heap → Option Out) (n m : Int) :
    bodyRun Try.prog HH run loop 25 [.e (.int .i64 n), .e (.int .i64 m)] [] =
      some (Res.ret (AV.e (E.bool (bif decide (0 ≤ n) then decide (n ≤ m) else false))), []) := by kernel_rfl

theorem eq_tokens (run : FuncId → List AV → Heap → Option (Res × Heap)) (loop : FuncId → Nat → Code → Fr → Heap → Option Out) (r b l t now : Int) :
    bodyRun Try.prog HH run loop 26 [.agg [.e (.int .i64 r), .e (.int .i64 b), .e (.int .i64 l), .e (.int .i64 t)], .e (.int .i64 now)] [] =
      cond (bif decide (now ≤ t) then true else r == 0) (some (Res.ret (AV.e (E.int IntKind.i64 l)), []))
        (cond (!decide (r = 0), E.int IntKind.i64 (IntKind.i64.wrap ((IntKind.i64.wrap (b - l)).tdiv r))).fst
          (cond (decide (IntKind.i64.wrap ((IntKind.i64.wrap (b - l)).tdiv r) < IntKind.i64.wrap (now - t)))
            (some (Res.ret (AV.e (E.int IntKind.i64 b)), []))
            (some
              (Res.ret (AV.e (E.int IntKind.i64 (IntKind.i64.wrap (l + IntKind.i64.wrap (r * IntKind.i64.wrap (now - t)))))),
                [])))
          none) := by kernel_rfl

end Go.Proofs.Ytdlfldeacoiokaa
