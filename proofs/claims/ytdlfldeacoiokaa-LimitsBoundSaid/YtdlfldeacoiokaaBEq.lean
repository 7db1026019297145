/- The equations of the functions, as the interpreter prints them. -/
import Derived.Test.YtdlfldeacoiokaaDn28
import Derived.Test.YtdlfldeacoiokaaProg
import Derived.KernelRfl
namespace Go.Proofs.Ytdlfldeacoiokaa
open Go Go.Den
set_option maxRecDepth 100000
set_option maxHeartbeats 0

def loopAt (i : Nat) : Code → Option Code
  | .loop b => if firstRegion b = some i then some b else loopAt i b
  | .seq a b => match loopAt i a with | some c => some c | none => loopAt i b
  | .cond _ a b => match loopAt i a with | some c => some c | none => loopAt i b
  | .block _ b => loopAt i b
  | _ => none
noncomputable def lc_8_7 : Code := (((Try.prog.funcs[8]?).bind (·.body)).bind (loopAt 7)).getD .skip
noncomputable def HH : Hints := { prim := fun _ _ => none, live := fun f i => if f = 8 ∧ i = 7 then [1, 2, 3, 7, 8, 9] else [], pans := fun _ => false, outs := fun f i => if f = 8 ∧ i = 7 then [(.exit 0, List.replicate 132 .undef, []), (.ret, (List.replicate 132 AV.undef).set 6 (.e (.bool false)), [])] else [], post := fun _ => none, exact := false }
noncomputable def fr8 (now ta ad ix : Int) (ops : List E) : Fr := [.undef, .e (.int .i64 now), .e (.sl 42 ops), .ptr 0 0, .undef, .undef, .undef, .e (.int .i64 ta), .e (.int .i64 ad), .e (.int .i64 ix)] ++ List.replicate 122 .undef

theorem eq_LChecks (run : RunF) (loop : LoopF) (r b l t : Int) :
    bodyRun Try.prog HH run loop none 3 [.agg [.e (.int .i64 r), .e (.int .i64 b), .e (.int .i64 l), .e (.int .i64 t)]] [] =
      (run none 9 [] []).bind fun rh =>
        bif okHeap [] rh.2 then
          bif okRes Try.prog 4 rh.fst then
            bif rh.fst.val.data.toBool == true then
              (run none 10
                    [AV.agg
                        [AV.e (E.int IntKind.i64 r), AV.e (E.int IntKind.i64 b), AV.e (E.int IntKind.i64 l),
                          AV.e (E.int IntKind.i64 t)]]
                    []).bind
                fun rh =>
                bif okHeap [] rh.2 then
                  bif okRes Try.prog 25 rh.fst then
                    (run none 11
                          [AV.agg
                              [AV.e (E.int IntKind.i64 r), AV.e (E.int IntKind.i64 b), AV.e (E.int IntKind.i64 l),
                                AV.e (E.int IntKind.i64 t)]]
                          []).bind
                      fun rh_1 =>
                      bif okHeap [] rh_1.2 then
                        bif okRes Try.prog 25 rh_1.fst then
                          some (Res.ret (AV.e (E.bool (rh.fst.val.data.toInt == rh_1.fst.val.data.toInt))), [])
                        else none
                      else none
                  else none
                else none
            else some (Res.ret (AV.e (E.bool false)), [])
          else none
        else none := by kernel_rfl

theorem eq_LTakes (run : RunF) (loop : LoopF) (r b l t now n : Int) :
    bodyRun Try.prog HH run loop none 4 [.agg [.e (.int .i64 r), .e (.int .i64 b), .e (.int .i64 l), .e (.int .i64 t)], .e (.int .i64 now), .e (.int .i64 n)] [] =
      (run none 12
            [AV.agg
                [AV.e (E.int IntKind.i64 r), AV.e (E.int IntKind.i64 b), AV.e (E.int IntKind.i64 l),
                  AV.e (E.int IntKind.i64 t)],
              AV.e (E.int IntKind.i64 now)]
            []).bind
        fun rh =>
        bif okHeap [] rh.2 then
          bif okRes Try.prog 4 rh.fst then
            bif !rh.fst.val.data.toBool then
              (run none 9 [] []).bind fun rh =>
                bif okHeap [] rh.2 then
                  bif okRes Try.prog 4 rh.fst then some (Res.ret (AV.e (E.bool rh.fst.val.data.toBool)), []) else none
                else none
            else
              (run none 13
                    [AV.agg
                        [AV.e (E.int IntKind.i64 r), AV.e (E.int IntKind.i64 b), AV.e (E.int IntKind.i64 l),
                          AV.e (E.int IntKind.i64 t)],
                      AV.e (E.int IntKind.i64 now), AV.e (E.int IntKind.i64 n)]
                    []).bind
                fun rh =>
                bif okHeap [] rh.2 then
                  bif okRes Try.prog 29 rh.fst then
                    (run none 14
                          [AV.agg
                              [AV.e (E.int IntKind.i64 r), AV.e (E.int IntKind.i64 b), AV.e (E.int IntKind.i64 l),
                                AV.e (E.int IntKind.i64 t)],
                            AV.e (E.int IntKind.i64 now), AV.e (E.int IntKind.i64 n)]
                          []).bind
                      fun rh_1 =>
                      bif okHeap [] rh_1.2 then
                        bif okRes Try.prog 29 rh_1.fst then
                          (run none 15
                                [AV.agg
                                    [AV.e (E.int IntKind.i64 r), AV.e (E.int IntKind.i64 b), AV.e (E.int IntKind.i64 l),
                                      AV.e (E.int IntKind.i64 t)],
                                  AV.e (E.int IntKind.i64 now)]
                                []).bind
                            fun rh_2 =>
                            bif okHeap [] rh_2.2 then
                              bif okRes Try.prog 23 rh_2.fst then
                                (run none 9 [] []).bind fun rh_3 =>
                                  bif okHeap [] rh_3.2 then
                                    bif okRes Try.prog 4 rh_3.fst then
                                      bif rh_3.fst.val.data.toBool == true then
                                        bif
                                            ((rh.fst.val.comp 1).data.toBool == (rh_1.fst.val.comp 1).data.toBool) ==
                                              true then
                                          (run none 16
                                                [AV.agg
                                                    [AV.e (E.int IntKind.i64 ((rh.fst.val.comp 0).data.cell 0).toInt),
                                                      AV.e (E.int IntKind.i64 ((rh.fst.val.comp 0).data.cell 1).toInt),
                                                      AV.e (E.int IntKind.i64 ((rh.fst.val.comp 0).data.cell 2).toInt),
                                                      AV.e (E.int IntKind.i64 ((rh.fst.val.comp 0).data.cell 3).toInt)],
                                                  AV.agg
                                                    [AV.e (E.int IntKind.i64 ((rh_1.fst.val.comp 0).data.cell 0).toInt),
                                                      AV.e (E.int IntKind.i64 ((rh_1.fst.val.comp 0).data.cell 1).toInt),
                                                      AV.e (E.int IntKind.i64 ((rh_1.fst.val.comp 0).data.cell 2).toInt),
                                                      AV.e (E.int IntKind.i64 ((rh_1.fst.val.comp 0).data.cell 3).toInt)]]
                                                []).bind
                                            fun rh_4 =>
                                            bif okHeap [] rh_4.2 then
                                              bif okRes Try.prog 4 rh_4.fst then
                                                bif rh_4.fst.val.data.toBool == true then
                                                  (run none 17
                                                        [AV.agg
                                                            [AV.e (E.int IntKind.i64 r), AV.e (E.int IntKind.i64 b),
                                                              AV.e (E.int IntKind.i64 l), AV.e (E.int IntKind.i64 t)],
                                                          AV.e (E.int IntKind.i64 now)]
                                                        []).bind
                                                    fun rh_5 =>
                                                    bif okHeap [] rh_5.2 then
                                                      bif okRes Try.prog 23 rh_5.fst then
                                                        (run none 16
                                                              [AV.agg
                                                                  [AV.e (E.int IntKind.i64 (rh_2.fst.val.data.cell 0).toInt),
                                                                    AV.e (E.int IntKind.i64 (rh_2.fst.val.data.cell 1).toInt),
                                                                    AV.e (E.int IntKind.i64 (rh_2.fst.val.data.cell 2).toInt),
                                                                    AV.e
                                                                      (E.int IntKind.i64 (rh_2.fst.val.data.cell 3).toInt)],
                                                                AV.agg
                                                                  [AV.e (E.int IntKind.i64 (rh_5.fst.val.data.cell 0).toInt),
                                                                    AV.e (E.int IntKind.i64 (rh_5.fst.val.data.cell 1).toInt),
                                                                    AV.e (E.int IntKind.i64 (rh_5.fst.val.data.cell 2).toInt),
                                                                    AV.e
                                                                      (E.int IntKind.i64 (rh_5.fst.val.data.cell 3).toInt)]]
                                                              []).bind
                                                          fun rh_6 =>
                                                          bif okHeap [] rh_6.2 then
                                                            bif okRes Try.prog 4 rh_6.fst then
                                                              bif rh_6.fst.val.data.toBool == true then
                                                                (run none 10
                                                                      [AV.agg
                                                                          [AV.e
                                                                              (E.int IntKind.i64
                                                                                ((rh.fst.val.comp 0).data.cell 0).toInt),
                                                                            AV.e
                                                                              (E.int IntKind.i64
                                                                                ((rh.fst.val.comp 0).data.cell 1).toInt),
                                                                            AV.e
                                                                              (E.int IntKind.i64
                                                                                ((rh.fst.val.comp 0).data.cell 2).toInt),
                                                                            AV.e
                                                                              (E.int IntKind.i64
                                                                                ((rh.fst.val.comp 0).data.cell 3).toInt)]]
                                                                      []).bind
                                                                  fun rh =>
                                                                  bif okHeap [] rh.2 then
                                                                    bif okRes Try.prog 25 rh.fst then
                                                                      bif (rh.fst.val.data.toInt == 0) == true then
                                                                        (run none 10
                                                                              [AV.agg
                                                                                  [AV.e
                                                                                      (E.int IntKind.i64
                                                                                        (rh_2.fst.val.data.cell 0).toInt),
                                                                                    AV.e
                                                                                      (E.int IntKind.i64
                                                                                        (rh_2.fst.val.data.cell 1).toInt),
                                                                                    AV.e
                                                                                      (E.int IntKind.i64
                                                                                        (rh_2.fst.val.data.cell 2).toInt),
                                                                                    AV.e
                                                                                      (E.int IntKind.i64
                                                                                        (rh_2.fst.val.data.cell 3).toInt)]]
                                                                              []).bind
                                                                          fun rh =>
                                                                          bif okHeap [] rh.2 then
                                                                            bif okRes Try.prog 25 rh.fst then
                                                                              some
                                                                                (Res.ret
                                                                                    (AV.e
                                                                                      (E.bool (rh.fst.val.data.toInt == 0))),
                                                                                  [])
                                                                            else none
                                                                          else none
                                                                      else some (Res.ret (AV.e (E.bool false)), [])
                                                                    else none
                                                                  else none
                                                              else some (Res.ret (AV.e (E.bool false)), [])
                                                            else none
                                                          else none
                                                      else none
                                                    else none
                                                else some (Res.ret (AV.e (E.bool false)), [])
                                              else none
                                            else none
                                        else some (Res.ret (AV.e (E.bool false)), [])
                                      else some (Res.ret (AV.e (E.bool false)), [])
                                    else none
                                  else none
                              else none
                            else none
                        else none
                      else none
                  else none
                else none
          else none
        else none := by kernel_rfl

theorem eq_LWaits (run : RunF) (loop : LoopF) (r b l t now n : Int) :
    bodyRun Try.prog HH run loop none 5 [.agg [.e (.int .i64 r), .e (.int .i64 b), .e (.int .i64 l), .e (.int .i64 t)], .e (.int .i64 now), .e (.int .i64 n)] [] =
      (run none 12
            [AV.agg
                [AV.e (E.int IntKind.i64 r), AV.e (E.int IntKind.i64 b), AV.e (E.int IntKind.i64 l),
                  AV.e (E.int IntKind.i64 t)],
              AV.e (E.int IntKind.i64 now)]
            []).bind
        fun rh =>
        bif okHeap [] rh.2 then
          bif okRes Try.prog 4 rh.fst then
            bif !rh.fst.val.data.toBool then
              (run none 9 [] []).bind fun rh =>
                bif okHeap [] rh.2 then
                  bif okRes Try.prog 4 rh.fst then some (Res.ret (AV.e (E.bool rh.fst.val.data.toBool)), []) else none
                else none
            else
              (run none 18
                    [AV.agg
                        [AV.e (E.int IntKind.i64 r), AV.e (E.int IntKind.i64 b), AV.e (E.int IntKind.i64 l),
                          AV.e (E.int IntKind.i64 t)],
                      AV.e (E.int IntKind.i64 now), AV.e (E.int IntKind.i64 n)]
                    []).bind
                fun rh =>
                bif okHeap [] rh.2 then
                  bif okRes Try.prog 34 rh.fst then
                    (run none 19
                          [AV.agg
                              [AV.e (E.int IntKind.i64 r), AV.e (E.int IntKind.i64 b), AV.e (E.int IntKind.i64 l),
                                AV.e (E.int IntKind.i64 t)],
                            AV.e (E.int IntKind.i64 now), AV.e (E.int IntKind.i64 n)]
                          []).bind
                      fun rh_1 =>
                      bif okHeap [] rh_1.2 then
                        bif okRes Try.prog 34 rh_1.fst then
                          (run none 9 [] []).bind fun rh_2 =>
                            bif okHeap [] rh_2.2 then
                              bif okRes Try.prog 4 rh_2.fst then
                                some
                                  (Res.ret
                                      (AV.e
                                        (E.bool
                                          (bif
                                              bif rh_2.fst.val.data.toBool then
                                                (rh.fst.val.comp 0).data.toInt == (rh_1.fst.val.comp 0).data.toInt
                                              else false then
                                            (rh.fst.val.comp 1).data.toBool == (rh_1.fst.val.comp 1).data.toBool
                                          else false))),
                                    [])
                              else none
                            else none
                        else none
                      else none
                  else none
                else none
          else none
        else none := by kernel_rfl

theorem eq_LFirst (run : RunF) (loop : LoopF) (r b l t now n th : Int) :
    bodyRun Try.prog HH run loop none 6 [.agg [.e (.int .i64 r), .e (.int .i64 b), .e (.int .i64 l), .e (.int .i64 t)], .e (.int .i64 now), .e (.int .i64 n), .e (.int .i64 th)] [] =
      (run none 12
            [AV.agg
                [AV.e (E.int IntKind.i64 r), AV.e (E.int IntKind.i64 b), AV.e (E.int IntKind.i64 l),
                  AV.e (E.int IntKind.i64 t)],
              AV.e (E.int IntKind.i64 now)]
            []).bind
        fun rh =>
        bif okHeap [] rh.2 then
          bif okRes Try.prog 4 rh.fst then
            bif (!rh.fst.val.data.toBool) == false then
              (run none 20 [AV.e (E.int IntKind.i64 th)] []).bind fun rh =>
                bif okHeap [] rh.2 then
                  bif okRes Try.prog 4 rh.fst then
                    bif bif bif !rh.fst.val.data.toBool then true else decide (th < now) then true else decide (n < 0) then
                      (run none 9 [] []).bind fun rh =>
                        bif okHeap [] rh.2 then
                          bif okRes Try.prog 4 rh.fst then some (Res.ret (AV.e (E.bool rh.fst.val.data.toBool)), []) else none
                        else none
                    else
                      (run none 18
                            [AV.agg
                                [AV.e (E.int IntKind.i64 r), AV.e (E.int IntKind.i64 b), AV.e (E.int IntKind.i64 l),
                                  AV.e (E.int IntKind.i64 t)],
                              AV.e (E.int IntKind.i64 now), AV.e (E.int IntKind.i64 n)]
                            []).bind
                        fun rh =>
                        bif okHeap [] rh.2 then
                          bif okRes Try.prog 34 rh.fst then
                            (run none 13
                                  [AV.agg
                                      [AV.e (E.int IntKind.i64 r), AV.e (E.int IntKind.i64 b), AV.e (E.int IntKind.i64 l),
                                        AV.e (E.int IntKind.i64 t)],
                                    AV.e (E.int IntKind.i64 th), AV.e (E.int IntKind.i64 n)]
                                  []).bind
                              fun rh_1 =>
                              bif okHeap [] rh_1.2 then
                                bif okRes Try.prog 29 rh_1.fst then
                                  bif !(rh.fst.val.comp 1).data.toBool then
                                    (run none 9 [] []).bind fun rh_2 =>
                                      bif okHeap [] rh_2.2 then
                                        bif okRes Try.prog 4 rh_2.fst then
                                          some
                                            (Res.ret
                                                (AV.e
                                                  (E.bool
                                                    (bif
                                                        bif rh_2.fst.val.data.toBool then (rh.fst.val.comp 0).data.toInt == 0
                                                        else false then
                                                      !(rh_1.fst.val.comp 1).data.toBool
                                                    else false))),
                                              [])
                                        else none
                                      else none
                                  else
                                    (run none 13
                                          [AV.agg
                                              [AV.e (E.int IntKind.i64 r), AV.e (E.int IntKind.i64 b),
                                                AV.e (E.int IntKind.i64 l), AV.e (E.int IntKind.i64 t)],
                                            AV.e (E.int IntKind.i64 (rh.fst.val.comp 0).data.toInt),
                                            AV.e (E.int IntKind.i64 n)]
                                          []).bind
                                      fun rh_2 =>
                                      bif okHeap [] rh_2.2 then
                                        bif okRes Try.prog 29 rh_2.fst then
                                          (run none 9 [] []).bind fun rh_3 =>
                                            bif okHeap [] rh_3.2 then
                                              bif okRes Try.prog 4 rh_3.fst then
                                                bif
                                                    (bif
                                                          bif
                                                              bif rh_3.fst.val.data.toBool then
                                                                decide (now ≤ (rh.fst.val.comp 0).data.toInt)
                                                              else false then
                                                            decide ((rh.fst.val.comp 0).data.toInt ≤ 1099511627776)
                                                          else false then
                                                        (rh_2.fst.val.comp 1).data.toBool
                                                      else false) ==
                                                      true then
                                                  bif decide ((rh.fst.val.comp 0).data.toInt ≤ th) == false then
                                                    some (Res.ret (AV.e (E.bool !(rh_1.fst.val.comp 1).data.toBool)), [])
                                                  else some (Res.ret (AV.e (E.bool true)), [])
                                                else some (Res.ret (AV.e (E.bool false)), [])
                                              else none
                                            else none
                                        else none
                                      else none
                                else none
                              else none
                          else none
                        else none
                  else none
                else none
            else
              (run none 9 [] []).bind fun rh =>
                bif okHeap [] rh.2 then
                  bif okRes Try.prog 4 rh.fst then some (Res.ret (AV.e (E.bool rh.fst.val.data.toBool)), []) else none
                else none
          else none
        else none := by kernel_rfl

theorem eq_LSplits (run : RunF) (loop : LoopF) (r b l t now th : Int) :
    bodyRun Try.prog HH run loop none 7 [.agg [.e (.int .i64 r), .e (.int .i64 b), .e (.int .i64 l), .e (.int .i64 t)], .e (.int .i64 now), .e (.int .i64 th)] [] =
      (run none 12
            [AV.agg
                [AV.e (E.int IntKind.i64 r), AV.e (E.int IntKind.i64 b), AV.e (E.int IntKind.i64 l),
                  AV.e (E.int IntKind.i64 t)],
              AV.e (E.int IntKind.i64 now)]
            []).bind
        fun rh =>
        bif okHeap [] rh.2 then
          bif okRes Try.prog 4 rh.fst then
            bif (!rh.fst.val.data.toBool) == false then
              (run none 20 [AV.e (E.int IntKind.i64 th)] []).bind fun rh =>
                bif okHeap [] rh.2 then
                  bif okRes Try.prog 4 rh.fst then
                    bif bif !rh.fst.val.data.toBool then true else decide (th < now) then
                      (run none 9 [] []).bind fun rh =>
                        bif okHeap [] rh.2 then
                          bif okRes Try.prog 4 rh.fst then some (Res.ret (AV.e (E.bool rh.fst.val.data.toBool)), []) else none
                        else none
                    else
                      (run none 9 [] []).bind fun rh =>
                        bif okHeap [] rh.2 then
                          bif okRes Try.prog 4 rh.fst then
                            bif rh.fst.val.data.toBool == true then
                              (run none 15
                                    [AV.agg
                                        [AV.e (E.int IntKind.i64 r), AV.e (E.int IntKind.i64 b), AV.e (E.int IntKind.i64 l),
                                          AV.e (E.int IntKind.i64 t)],
                                      AV.e (E.int IntKind.i64 now)]
                                    []).bind
                                fun rh =>
                                bif okHeap [] rh.2 then
                                  bif okRes Try.prog 23 rh.fst then
                                    (run none 15
                                          [AV.agg
                                              [AV.e (E.int IntKind.i64 (rh.fst.val.data.cell 0).toInt),
                                                AV.e (E.int IntKind.i64 (rh.fst.val.data.cell 1).toInt),
                                                AV.e (E.int IntKind.i64 (rh.fst.val.data.cell 2).toInt),
                                                AV.e (E.int IntKind.i64 (rh.fst.val.data.cell 3).toInt)],
                                            AV.e (E.int IntKind.i64 th)]
                                          []).bind
                                      fun rh =>
                                      bif okHeap [] rh.2 then
                                        bif okRes Try.prog 23 rh.fst then
                                          (run none 15
                                                [AV.agg
                                                    [AV.e (E.int IntKind.i64 r), AV.e (E.int IntKind.i64 b),
                                                      AV.e (E.int IntKind.i64 l), AV.e (E.int IntKind.i64 t)],
                                                  AV.e (E.int IntKind.i64 th)]
                                                []).bind
                                            fun rh_1 =>
                                            bif okHeap [] rh_1.2 then
                                              bif okRes Try.prog 23 rh_1.fst then
                                                (run none 16
                                                      [AV.agg
                                                          [AV.e (E.int IntKind.i64 (rh.fst.val.data.cell 0).toInt),
                                                            AV.e (E.int IntKind.i64 (rh.fst.val.data.cell 1).toInt),
                                                            AV.e (E.int IntKind.i64 (rh.fst.val.data.cell 2).toInt),
                                                            AV.e (E.int IntKind.i64 (rh.fst.val.data.cell 3).toInt)],
                                                        AV.agg
                                                          [AV.e (E.int IntKind.i64 (rh_1.fst.val.data.cell 0).toInt),
                                                            AV.e (E.int IntKind.i64 (rh_1.fst.val.data.cell 1).toInt),
                                                            AV.e (E.int IntKind.i64 (rh_1.fst.val.data.cell 2).toInt),
                                                            AV.e (E.int IntKind.i64 (rh_1.fst.val.data.cell 3).toInt)]]
                                                      []).bind
                                                  fun rh =>
                                                  bif okHeap [] rh.2 then
                                                    bif okRes Try.prog 4 rh.fst then
                                                      some (Res.ret (AV.e (E.bool rh.fst.val.data.toBool)), [])
                                                    else none
                                                  else none
                                              else none
                                            else none
                                        else none
                                      else none
                                  else none
                                else none
                            else some (Res.ret (AV.e (E.bool false)), [])
                          else none
                        else none
                  else none
                else none
            else
              (run none 9 [] []).bind fun rh =>
                bif okHeap [] rh.2 then
                  bif okRes Try.prog 4 rh.fst then some (Res.ret (AV.e (E.bool rh.fst.val.data.toBool)), []) else none
                else none
          else none
        else none := by kernel_rfl

theorem eq_check (run : RunF) (loop : LoopF) (r b l t : Int) :
    bodyRun Try.prog HH run loop none 10 [.agg [.e (.int .i64 r), .e (.int .i64 b), .e (.int .i64 l), .e (.int .i64 t)]] [] =
      (run none 24 [AV.e (E.int IntKind.i64 r), AV.e (E.int IntKind.i64 1099511627776)] []).bind fun rh =>
        bif okHeap [] rh.2 then
          bif okRes Try.prog 4 rh.fst then
            bif (!rh.fst.val.data.toBool) == false then
              (run none 24 [AV.e (E.int IntKind.i64 b), AV.e (E.int IntKind.i64 1099511627776)] []).bind fun rh =>
                bif okHeap [] rh.2 then
                  bif okRes Try.prog 4 rh.fst then
                    bif (!rh.fst.val.data.toBool) == false then
                      (run none 24 [AV.e (E.int IntKind.i64 l), AV.e (E.int IntKind.i64 b)] []).bind fun rh =>
                        bif okHeap [] rh.2 then
                          bif okRes Try.prog 4 rh.fst then
                            bif (!rh.fst.val.data.toBool) == false then
                              (run none 24 [AV.e (E.int IntKind.i64 t), AV.e (E.int IntKind.i64 1099511627776)] []).bind
                                fun rh =>
                                bif okHeap [] rh.2 then
                                  bif okRes Try.prog 4 rh.fst then
                                    bif !rh.fst.val.data.toBool then some (Res.ret (AV.e (E.int IntKind.i64 1)), [])
                                    else some (Res.ret (AV.e (E.int IntKind.i64 0)), [])
                                  else none
                                else none
                            else some (Res.ret (AV.e (E.int IntKind.i64 1)), [])
                          else none
                        else none
                    else some (Res.ret (AV.e (E.int IntKind.i64 1)), [])
                  else none
                else none
            else some (Res.ret (AV.e (E.int IntKind.i64 1)), [])
          else none
        else none := by kernel_rfl

theorem eq_rcheck (run : RunF) (loop : LoopF) (r b l t : Int) :
    bodyRun Try.prog HH run loop none 11 [.agg [.e (.int .i64 r), .e (.int .i64 b), .e (.int .i64 l), .e (.int .i64 t)]] [] =
      (run none 25 [AV.e (E.int IntKind.i64 r), AV.e (E.int IntKind.i64 1099511627776)] []).bind fun rh =>
        bif okHeap [] rh.2 then
          bif okRes Try.prog 4 rh.fst then
            bif (!rh.fst.val.data.toBool) == false then
              (run none 25 [AV.e (E.int IntKind.i64 b), AV.e (E.int IntKind.i64 1099511627776)] []).bind fun rh =>
                bif okHeap [] rh.2 then
                  bif okRes Try.prog 4 rh.fst then
                    bif (!rh.fst.val.data.toBool) == false then
                      (run none 25 [AV.e (E.int IntKind.i64 l), AV.e (E.int IntKind.i64 b)] []).bind fun rh =>
                        bif okHeap [] rh.2 then
                          bif okRes Try.prog 4 rh.fst then
                            bif (!rh.fst.val.data.toBool) == false then
                              (run none 25 [AV.e (E.int IntKind.i64 t), AV.e (E.int IntKind.i64 1099511627776)] []).bind
                                fun rh =>
                                bif okHeap [] rh.2 then
                                  bif okRes Try.prog 4 rh.fst then
                                    bif !rh.fst.val.data.toBool then some (Res.ret (AV.e (E.int IntKind.i64 1)), [])
                                    else some (Res.ret (AV.e (E.int IntKind.i64 0)), [])
                                  else none
                                else none
                            else some (Res.ret (AV.e (E.int IntKind.i64 1)), [])
                          else none
                        else none
                    else some (Res.ret (AV.e (E.int IntKind.i64 1)), [])
                  else none
                else none
            else some (Res.ret (AV.e (E.int IntKind.i64 1)), [])
          else none
        else none := by kernel_rfl

theorem eq_valid (run : RunF) (loop : LoopF) (r b l t n : Int) :
    bodyRun Try.prog HH run loop none 12 [.agg [.e (.int .i64 r), .e (.int .i64 b), .e (.int .i64 l), .e (.int .i64 t)], .e (.int .i64 n)] [] =
      (run none 11
            [AV.agg
                [AV.e (E.int IntKind.i64 r), AV.e (E.int IntKind.i64 b), AV.e (E.int IntKind.i64 l),
                  AV.e (E.int IntKind.i64 t)]]
            []).bind
        fun rh =>
        bif okHeap [] rh.2 then
          bif okRes Try.prog 25 rh.fst then
            bif (rh.fst.val.data.toInt == 0) == true then
              (run none 20 [AV.e (E.int IntKind.i64 n)] []).bind fun rh =>
                bif okHeap [] rh.2 then
                  bif okRes Try.prog 4 rh.fst then some (Res.ret (AV.e (E.bool rh.fst.val.data.toBool)), []) else none
                else none
            else some (Res.ret (AV.e (E.bool false)), [])
          else none
        else none := by kernel_rfl

theorem eq_take (run : RunF) (loop : LoopF) (r b l t now n : Int) :
    bodyRun Try.prog HH run loop none 13 [.agg [.e (.int .i64 r), .e (.int .i64 b), .e (.int .i64 l), .e (.int .i64 t)], .e (.int .i64 now), .e (.int .i64 n)] [] =
      (run none 15
            [AV.agg
                [AV.e (E.int IntKind.i64 r), AV.e (E.int IntKind.i64 b), AV.e (E.int IntKind.i64 l),
                  AV.e (E.int IntKind.i64 t)],
              AV.e (E.int IntKind.i64 now)]
            []).bind
        fun rh =>
        bif okHeap [] rh.2 then
          bif okRes Try.prog 23 rh.fst then
            bif bif decide (n < 0) then true else decide ((rh.fst.val.data.cell 2).toInt < n) then
              some
                (Res.ret
                    (AV.tup
                      [AV.agg
                          [AV.e (E.int IntKind.i64 (rh.fst.val.data.cell 0).toInt),
                            AV.e (E.int IntKind.i64 (rh.fst.val.data.cell 1).toInt),
                            AV.e (E.int IntKind.i64 (rh.fst.val.data.cell 2).toInt),
                            AV.e (E.int IntKind.i64 (rh.fst.val.data.cell 3).toInt)],
                        AV.e (E.bool false)]),
                  [])
            else
              some
                (Res.ret
                    (AV.tup
                      [AV.agg
                          [AV.e (E.int IntKind.i64 (rh.fst.val.data.cell 0).toInt),
                            AV.e (E.int IntKind.i64 (rh.fst.val.data.cell 1).toInt),
                            AV.e (E.int IntKind.i64 (IntKind.i64.wrap ((rh.fst.val.data.cell 2).toInt - n))),
                            AV.e (E.int IntKind.i64 (rh.fst.val.data.cell 3).toInt)],
                        AV.e (E.bool true)]),
                  [])
          else none
        else none := by kernel_rfl

theorem eq_rtake (run : RunF) (loop : LoopF) (r b l t now n : Int) :
    bodyRun Try.prog HH run loop none 14 [.agg [.e (.int .i64 r), .e (.int .i64 b), .e (.int .i64 l), .e (.int .i64 t)], .e (.int .i64 now), .e (.int .i64 n)] [] =
      (run none 17
            [AV.agg
                [AV.e (E.int IntKind.i64 r), AV.e (E.int IntKind.i64 b), AV.e (E.int IntKind.i64 l),
                  AV.e (E.int IntKind.i64 t)],
              AV.e (E.int IntKind.i64 now)]
            []).bind
        fun rh =>
        bif okHeap [] rh.2 then
          bif okRes Try.prog 23 rh.fst then
            bif bif decide (n < 0) then true else decide ((rh.fst.val.data.cell 2).toInt < n) then
              some
                (Res.ret
                    (AV.tup
                      [AV.agg
                          [AV.e (E.int IntKind.i64 (rh.fst.val.data.cell 0).toInt),
                            AV.e (E.int IntKind.i64 (rh.fst.val.data.cell 1).toInt),
                            AV.e (E.int IntKind.i64 (rh.fst.val.data.cell 2).toInt),
                            AV.e (E.int IntKind.i64 (rh.fst.val.data.cell 3).toInt)],
                        AV.e (E.bool false)]),
                  [])
            else
              some
                (Res.ret
                    (AV.tup
                      [AV.agg
                          [AV.e (E.int IntKind.i64 (rh.fst.val.data.cell 0).toInt),
                            AV.e (E.int IntKind.i64 (rh.fst.val.data.cell 1).toInt),
                            AV.e (E.int IntKind.i64 (IntKind.i64.wrap ((rh.fst.val.data.cell 2).toInt - n))),
                            AV.e (E.int IntKind.i64 (rh.fst.val.data.cell 3).toInt)],
                        AV.e (E.bool true)]),
                  [])
          else none
        else none := by kernel_rfl

theorem eq_refill (run : RunF) (loop : LoopF) (r b l t now : Int) :
    bodyRun Try.prog HH run loop none 15 [.agg [.e (.int .i64 r), .e (.int .i64 b), .e (.int .i64 l), .e (.int .i64 t)], .e (.int .i64 now)] [] =
      (run none 26
            [AV.agg
                [AV.e (E.int IntKind.i64 r), AV.e (E.int IntKind.i64 b), AV.e (E.int IntKind.i64 l),
                  AV.e (E.int IntKind.i64 t)],
              AV.e (E.int IntKind.i64 now)]
            []).bind
        fun rh =>
        bif okHeap [] rh.2 then
          bif okRes Try.prog 3 rh.fst then
            some
              (Res.ret
                  (AV.agg
                    [AV.e (E.int IntKind.i64 r), AV.e (E.int IntKind.i64 b), AV.e (E.int IntKind.i64 rh.fst.val.data.toInt),
                      AV.e (E.int IntKind.i64 (max t now))]),
                [])
          else none
        else none := by kernel_rfl

theorem eq_same (run : RunF) (loop : LoopF) (r b l t r' b' l' t' : Int) :
    bodyRun Try.prog HH run loop none 16 [.agg [.e (.int .i64 r), .e (.int .i64 b), .e (.int .i64 l), .e (.int .i64 t)], .agg [.e (.int .i64 r'), .e (.int .i64 b'), .e (.int .i64 l'), .e (.int .i64 t')]] [] =
      some
        (Res.ret
            (AV.e (E.bool (bif bif bif r == r' then b == b' else false then l == l' else false then t == t' else false))),
          []) := by kernel_rfl

theorem eq_rrefill (run : RunF) (loop : LoopF) (r b l t now : Int) :
    bodyRun Try.prog HH run loop none 17 [.agg [.e (.int .i64 r), .e (.int .i64 b), .e (.int .i64 l), .e (.int .i64 t)], .e (.int .i64 now)] [] =
      bif decide (t < now) then
        (run none 21
              [AV.agg
                  [AV.e (E.int IntKind.i64 r), AV.e (E.int IntKind.i64 b), AV.e (E.int IntKind.i64 l),
                    AV.e (E.int IntKind.i64 t)],
                AV.e (E.int IntKind.i64 now)]
              []).bind
          fun rh =>
          bif okHeap [] rh.2 then
            bif okRes Try.prog 3 rh.fst then
              some
                (Res.ret
                    (AV.agg
                      [AV.e (E.int IntKind.i64 r), AV.e (E.int IntKind.i64 b), AV.e (E.int IntKind.i64 rh.fst.val.data.toInt),
                        AV.e (E.int IntKind.i64 now)]),
                  [])
            else none
          else none
      else
        (run none 21
              [AV.agg
                  [AV.e (E.int IntKind.i64 r), AV.e (E.int IntKind.i64 b), AV.e (E.int IntKind.i64 l),
                    AV.e (E.int IntKind.i64 t)],
                AV.e (E.int IntKind.i64 now)]
              []).bind
          fun rh =>
          bif okHeap [] rh.2 then
            bif okRes Try.prog 3 rh.fst then
              some
                (Res.ret
                    (AV.agg
                      [AV.e (E.int IntKind.i64 r), AV.e (E.int IntKind.i64 b), AV.e (E.int IntKind.i64 rh.fst.val.data.toInt),
                        AV.e (E.int IntKind.i64 t)]),
                  [])
            else none
          else none := by kernel_rfl

theorem eq_wait (run : RunF) (loop : LoopF) (r b l t now n : Int) :
    bodyRun Try.prog HH run loop none 18 [.agg [.e (.int .i64 r), .e (.int .i64 b), .e (.int .i64 l), .e (.int .i64 t)], .e (.int .i64 now), .e (.int .i64 n)] [] =
      (run none 26
            [AV.agg
                [AV.e (E.int IntKind.i64 r), AV.e (E.int IntKind.i64 b), AV.e (E.int IntKind.i64 l),
                  AV.e (E.int IntKind.i64 t)],
              AV.e (E.int IntKind.i64 now)]
            []).bind
        fun rh =>
        bif okHeap [] rh.2 then
          bif okRes Try.prog 3 rh.fst then
            bif decide (n ≤ rh.fst.val.data.toInt) then
              some (Res.ret (AV.tup [AV.e (E.int IntKind.i64 now), AV.e (E.bool true)]), [])
            else
              bif bif decide (b < n) then true else r == 0 then
                some (Res.ret (AV.tup [AV.e (E.int IntKind.i64 0), AV.e (E.bool false)]), [])
              else
                bif
                    (!decide (r = 0),
                        E.int IntKind.i64
                          (IntKind.i64.wrap ((IntKind.i64.wrap (IntKind.i64.wrap (n - l) - 1)).tdiv r))).fst then
                  bif
                      decide
                        (1099511627776 <
                          IntKind.i64.wrap
                            (IntKind.i64.wrap
                                (t + IntKind.i64.wrap ((IntKind.i64.wrap (IntKind.i64.wrap (n - l) - 1)).tdiv r)) +
                              1)) then
                    some (Res.ret (AV.tup [AV.e (E.int IntKind.i64 0), AV.e (E.bool false)]), [])
                  else
                    some
                      (Res.ret
                          (AV.tup
                            [AV.e
                                (E.int IntKind.i64
                                  (IntKind.i64.wrap
                                    (IntKind.i64.wrap
                                        (t + IntKind.i64.wrap ((IntKind.i64.wrap (IntKind.i64.wrap (n - l) - 1)).tdiv r)) +
                                      1))),
                              AV.e (E.bool true)]),
                        [])
                else none
          else none
        else none := by kernel_rfl

theorem eq_rwait (run : RunF) (loop : LoopF) (r b l t now n : Int) :
    bodyRun Try.prog HH run loop none 19 [.agg [.e (.int .i64 r), .e (.int .i64 b), .e (.int .i64 l), .e (.int .i64 t)], .e (.int .i64 now), .e (.int .i64 n)] [] =
      (run none 21
            [AV.agg
                [AV.e (E.int IntKind.i64 r), AV.e (E.int IntKind.i64 b), AV.e (E.int IntKind.i64 l),
                  AV.e (E.int IntKind.i64 t)],
              AV.e (E.int IntKind.i64 now)]
            []).bind
        fun rh =>
        bif okHeap [] rh.2 then
          bif okRes Try.prog 3 rh.fst then
            bif decide (n ≤ rh.fst.val.data.toInt) then
              some (Res.ret (AV.tup [AV.e (E.int IntKind.i64 now), AV.e (E.bool true)]), [])
            else
              bif bif decide (b < n) then true else r == 0 then
                some (Res.ret (AV.tup [AV.e (E.int IntKind.i64 0), AV.e (E.bool false)]), [])
              else
                bif (!decide (r = 0), E.int IntKind.i64 (IntKind.i64.wrap ((IntKind.i64.wrap (n - l)).tdiv r))).fst then
                  bif (!decide (r = 0), E.int IntKind.i64 ((IntKind.i64.wrap (n - l)).tmod r)).fst then
                    bif decide (0 < (IntKind.i64.wrap (n - l)).tmod r) then
                      bif
                          decide
                            (IntKind.i64.wrap (1099511627776 - t) <
                              IntKind.i64.wrap (IntKind.i64.wrap ((IntKind.i64.wrap (n - l)).tdiv r) + 1)) then
                        some (Res.ret (AV.tup [AV.e (E.int IntKind.i64 0), AV.e (E.bool false)]), [])
                      else
                        some
                          (Res.ret
                              (AV.tup
                                [AV.e
                                    (E.int IntKind.i64
                                      (IntKind.i64.wrap
                                        (t + IntKind.i64.wrap (IntKind.i64.wrap ((IntKind.i64.wrap (n - l)).tdiv r) + 1)))),
                                  AV.e (E.bool true)]),
                            [])
                    else
                      bif
                          decide
                            (IntKind.i64.wrap (1099511627776 - t) < IntKind.i64.wrap ((IntKind.i64.wrap (n - l)).tdiv r)) then
                        some (Res.ret (AV.tup [AV.e (E.int IntKind.i64 0), AV.e (E.bool false)]), [])
                      else
                        some
                          (Res.ret
                              (AV.tup
                                [AV.e
                                    (E.int IntKind.i64
                                      (IntKind.i64.wrap (t + IntKind.i64.wrap ((IntKind.i64.wrap (n - l)).tdiv r)))),
                                  AV.e (E.bool true)]),
                            [])
                  else none
                else none
          else none
        else none := by kernel_rfl

theorem eq_instant (run : RunF) (loop : LoopF) (n : Int) :
    bodyRun Try.prog HH run loop none 20 [.e (.int .i64 n)] [] =
      some (Res.ret (AV.e (E.bool (bif decide (0 ≤ n) then decide (n ≤ 1099511627776) else false))), []) := by kernel_rfl

theorem eq_rtokens (run : RunF) (loop : LoopF) (r b l t now : Int) :
    bodyRun Try.prog HH run loop none 21 [.agg [.e (.int .i64 r), .e (.int .i64 b), .e (.int .i64 l), .e (.int .i64 t)], .e (.int .i64 now)] [] =
      bif bif decide (now ≤ t) then true else r == 0 then some (Res.ret (AV.e (E.int IntKind.i64 l)), [])
      else
        bif (!decide (r = 0), E.int IntKind.i64 (IntKind.i64.wrap ((IntKind.i64.wrap (b - l)).tdiv r))).fst then
          bif decide (IntKind.i64.wrap ((IntKind.i64.wrap (b - l)).tdiv r) < IntKind.i64.wrap (now - t)) then
            some (Res.ret (AV.e (E.int IntKind.i64 b)), [])
          else
            some
              (Res.ret (AV.e (E.int IntKind.i64 (IntKind.i64.wrap (l + IntKind.i64.wrap (r * IntKind.i64.wrap (now - t)))))),
                [])
        else none := by kernel_rfl

theorem eq_count (run : RunF) (loop : LoopF) (n m : Int) :
    bodyRun Try.prog HH run loop none 24 [.e (.int .i64 n), .e (.int .i64 m)] [] =
      some (Res.ret (AV.e (E.bool (bif decide (0 ≤ n) then decide (n ≤ m) else false))), []) := by kernel_rfl

theorem eq_is (run : RunF) (loop : LoopF) (n m : Int) :
    bodyRun Try.prog HH run loop none 25 [.e (.int .i64 n), .e (.int .i64 m)] [] =
      some (Res.ret (AV.e (E.bool (bif decide (0 ≤ n) then decide (n ≤ m) else false))), []) := by kernel_rfl

theorem eq_tokens (run : RunF) (loop : LoopF) (r b l t now : Int) :
    bodyRun Try.prog HH run loop none 26 [.agg [.e (.int .i64 r), .e (.int .i64 b), .e (.int .i64 l), .e (.int .i64 t)], .e (.int .i64 now)] [] =
      bif bif decide (now ≤ t) then true else r == 0 then some (Res.ret (AV.e (E.int IntKind.i64 l)), [])
      else
        bif (!decide (r = 0), E.int IntKind.i64 (IntKind.i64.wrap ((IntKind.i64.wrap (b - l)).tdiv r))).fst then
          bif decide (IntKind.i64.wrap ((IntKind.i64.wrap (b - l)).tdiv r) < IntKind.i64.wrap (now - t)) then
            some (Res.ret (AV.e (E.int IntKind.i64 b)), [])
          else
            some
              (Res.ret (AV.e (E.int IntKind.i64 (IntKind.i64.wrap (l + IntKind.i64.wrap (r * IntKind.i64.wrap (now - t)))))),
                [])
        else none := by kernel_rfl

theorem eq_LBound (run : RunF) (loop : LoopF) (r b l t now : Int) (ops : List E) :
    bodyRun Try.prog HH run loop none 8 [.agg [.e (.int .i64 r), .e (.int .i64 b), .e (.int .i64 l), .e (.int .i64 t)], .e (.int .i64 now), .e (.sl 42 ops)] [] =
      (run none 12
            [AV.agg
                [AV.e (E.int IntKind.i64 r), AV.e (E.int IntKind.i64 b), AV.e (E.int IntKind.i64 l),
                  AV.e (E.int IntKind.i64 t)],
              AV.e (E.int IntKind.i64 now)]
            []).bind
        fun rh =>
        bif okHeap [] rh.2 then
          bif okRes Try.prog 4 rh.fst then
            bif
                bif bif !rh.fst.val.data.toBool then true else decide (1000000 < r) then true
                else decide (549755813888 < now) then
              (run none 9 [] []).bind fun rh =>
                bif okHeap [] rh.2 then
                  bif okRes Try.prog 4 rh.fst then some (Res.ret (AV.e (E.bool rh.fst.val.data.toBool)), []) else none
                else none
            else
              bif decide (t < now) then
                (run none 21
                      [AV.agg
                          [AV.e (E.int IntKind.i64 r), AV.e (E.int IntKind.i64 1099511627776), AV.e (E.int IntKind.i64 l),
                            AV.e (E.int IntKind.i64 t)],
                        AV.e (E.int IntKind.i64 now)]
                      []).bind
                  fun rh =>
                  bif okHeap [] rh.2 then
                    bif okRes Try.prog 3 rh.fst then
                      (loop 8 0 lc_8_7
                            ([AV.undef, AV.e (E.int IntKind.i64 now), AV.e (E.sl 42 ops), AV.ptr 0 0, AV.undef, AV.undef,
                              AV.undef, AV.e (E.int IntKind.i64 0), AV.e (E.int IntKind.i64 rh.fst.val.data.toInt),
                              AV.e (E.int IntKind.i64 0)] ++ List.replicate 122 AV.undef)
                            [Ob.box
                                [AV.e (E.int IntKind.i64 r), AV.e (E.int IntKind.i64 b), AV.e (E.int IntKind.i64 l),
                                  AV.e (E.int IntKind.i64 t)]]).bind
                        fun o =>
                        bif o.ex.isWay (Way.exit 0) then
                          bif
                              okFr
                                  ([AV.undef] ++ List.replicate 131 AV.undef)
                                  o.2 &&
                                okHeap [] o.3 then
                            (run none 9 [] []).bind fun rh =>
                              bif okHeap [] rh.2 then
                                bif okRes Try.prog 4 rh.fst then some (Res.ret (AV.e (E.bool rh.fst.val.data.toBool)), [])
                                else none
                              else none
                          else none
                        else
                          bif o.ex.isWay Way.ret then
                            bif
                                okFr
                                    ([AV.undef, AV.undef, AV.undef, AV.undef, AV.undef, AV.undef, AV.e (E.bool false)] ++ List.replicate 125 AV.undef)
                                    o.2 &&
                                  okHeap [] o.3 then
                              some (Res.ret (AV.e (E.bool (List.getD o.fr 6 AV.undef).data.toBool)), [])
                            else none
                          else none
                    else none
                  else none
              else
                (loop 8 0 lc_8_7
                      ([AV.undef, AV.e (E.int IntKind.i64 now), AV.e (E.sl 42 ops), AV.ptr 0 0, AV.undef, AV.undef, AV.undef,
                        AV.e (E.int IntKind.i64 0), AV.e (E.int IntKind.i64 l), AV.e (E.int IntKind.i64 0)] ++ List.replicate 122 AV.undef)
                      [Ob.box
                          [AV.e (E.int IntKind.i64 r), AV.e (E.int IntKind.i64 b), AV.e (E.int IntKind.i64 l),
                            AV.e (E.int IntKind.i64 t)]]).bind
                  fun o =>
                  bif o.ex.isWay (Way.exit 0) then
                    bif
                        okFr
                            ([AV.undef] ++ List.replicate 131 AV.undef)
                            o.2 &&
                          okHeap [] o.3 then
                      (run none 9 [] []).bind fun rh =>
                        bif okHeap [] rh.2 then
                          bif okRes Try.prog 4 rh.fst then some (Res.ret (AV.e (E.bool rh.fst.val.data.toBool)), []) else none
                        else none
                    else none
                  else
                    bif o.ex.isWay Way.ret then
                      bif
                          okFr
                              ([AV.undef, AV.undef, AV.undef, AV.undef, AV.undef, AV.undef, AV.e (E.bool false)] ++ List.replicate 125 AV.undef)
                              o.2 &&
                            okHeap [] o.3 then
                        some (Res.ret (AV.e (E.bool (List.getD o.fr 6 AV.undef).data.toBool)), [])
                      else none
                    else none
          else none
        else none := by kernel_rfl

theorem eq_LBoundL (run : RunF) (loop : LoopF) (r b l t now ta ad ix : Int) (ops : List E) :
    bodyLoop Try.prog HH run loop 8 0 lc_8_7 (fr8 now ta ad ix ops) [.box [.e (.int .i64 r), .e (.int .i64 b), .e (.int .i64 l), .e (.int .i64 t)]] =
      bif bif decide (ix < ↑ops.length) then decide (ix < 60) else false then
        bif decide (0 ≤ ix) && decide (ix < ↑ops.length) then
          bif decide (t < IntKind.i64.wrap (now + IntKind.i64.wrap ((ops.getD ix.toNat E.nili).cell 0).toInt)) then
            bif decide (now < t) then
              bif decide (0 ≤ ix) && decide (ix < ↑ops.length) then
                (run none 13
                      [AV.agg
                          [AV.e (E.int IntKind.i64 r), AV.e (E.int IntKind.i64 b), AV.e (E.int IntKind.i64 l),
                            AV.e (E.int IntKind.i64 t)],
                        AV.e
                          (E.int IntKind.i64
                            (IntKind.i64.wrap (now + IntKind.i64.wrap ((ops.getD ix.toNat E.nili).cell 0).toInt))),
                        AV.e (E.int IntKind.i64 ((ops.getD ix.toNat E.nili).cell 1).toInt)]
                      []).bind
                  fun rh =>
                  bif okHeap [] rh.2 then
                    bif okRes Try.prog 29 rh.fst then
                      bif (rh.fst.val.comp 1).data.toBool then
                        bif decide (0 ≤ ix) && decide (ix < ↑ops.length) then
                          bif (rh.fst.val.comp 1).data.toBool == true then
                            bif decide (0 ≤ ix) && decide (ix < ↑ops.length) then
                              bif
                                  bif
                                      bif
                                          bif
                                              bif decide (((ops.getD ix.toNat E.nili).cell 1).toInt < 0) then true
                                              else
                                                decide
                                                  (IntKind.i64.wrap
                                                      (ad +
                                                        IntKind.i64.wrap
                                                          (r *
                                                            IntKind.i64.wrap
                                                              (IntKind.i64.wrap
                                                                  (now +
                                                                    IntKind.i64.wrap
                                                                      ((ops.getD ix.toNat E.nili).cell 0).toInt) -
                                                                t))) <
                                                    IntKind.i64.wrap (ta + ((ops.getD ix.toNat E.nili).cell 1).toInt)) then
                                            true
                                          else decide (((rh.fst.val.comp 0).data.cell 2).toInt < 0) then
                                        true
                                      else decide (b < ((rh.fst.val.comp 0).data.cell 2).toInt) then
                                    true
                                  else
                                    decide
                                      (((rh.fst.val.comp 0).data.cell 3).toInt <
                                        IntKind.i64.wrap
                                          (now + IntKind.i64.wrap ((ops.getD ix.toNat E.nili).cell 0).toInt)) then
                                some
                                  { ex := Ex.ret,
                                    fr :=
                                      ([AV.undef, AV.undef, AV.undef, AV.undef, AV.undef, AV.undef, AV.e (E.bool false)] ++ List.replicate 125 AV.undef),
                                    hp := [], df := [] }
                              else
                                (loop 8 0 lc_8_7
                                      ([AV.undef,
                                        AV.e
                                          (E.int IntKind.i64
                                            (IntKind.i64.wrap
                                              (now + IntKind.i64.wrap ((ops.getD ix.toNat E.nili).cell 0).toInt))),
                                        AV.e (E.sl 42 ops), AV.ptr 0 0, AV.undef, AV.undef, AV.undef,
                                        AV.e
                                          (E.int IntKind.i64
                                            (IntKind.i64.wrap (ta + ((ops.getD ix.toNat E.nili).cell 1).toInt))),
                                        AV.e
                                          (E.int IntKind.i64
                                            (IntKind.i64.wrap
                                              (ad +
                                                IntKind.i64.wrap
                                                  (r *
                                                    IntKind.i64.wrap
                                                      (IntKind.i64.wrap
                                                          (now + IntKind.i64.wrap ((ops.getD ix.toNat E.nili).cell 0).toInt) -
                                                        t))))),
                                        AV.e (E.int IntKind.i64 (IntKind.i64.wrap (ix + 1)))] ++ List.replicate 122 AV.undef)
                                      [Ob.box
                                          [AV.e (E.int IntKind.i64 ((rh.fst.val.comp 0).data.cell 0).toInt),
                                            AV.e (E.int IntKind.i64 ((rh.fst.val.comp 0).data.cell 1).toInt),
                                            AV.e (E.int IntKind.i64 ((rh.fst.val.comp 0).data.cell 2).toInt),
                                            AV.e (E.int IntKind.i64 ((rh.fst.val.comp 0).data.cell 3).toInt)]]).bind
                                  fun o => some o
                            else none
                          else
                            bif
                                bif
                                    bif
                                        bif
                                            decide
                                              (IntKind.i64.wrap
                                                  (ad +
                                                    IntKind.i64.wrap
                                                      (r *
                                                        IntKind.i64.wrap
                                                          (IntKind.i64.wrap
                                                              (now +
                                                                IntKind.i64.wrap ((ops.getD ix.toNat E.nili).cell 0).toInt) -
                                                            t))) <
                                                IntKind.i64.wrap (ta + ((ops.getD ix.toNat E.nili).cell 1).toInt)) then
                                          true
                                        else decide (((rh.fst.val.comp 0).data.cell 2).toInt < 0) then
                                      true
                                    else decide (b < ((rh.fst.val.comp 0).data.cell 2).toInt) then
                                  true
                                else
                                  decide
                                    (((rh.fst.val.comp 0).data.cell 3).toInt <
                                      IntKind.i64.wrap
                                        (now + IntKind.i64.wrap ((ops.getD ix.toNat E.nili).cell 0).toInt)) then
                              some
                                { ex := Ex.ret,
                                  fr :=
                                    ([AV.undef, AV.undef, AV.undef, AV.undef, AV.undef, AV.undef, AV.e (E.bool false)] ++ List.replicate 125 AV.undef),
                                  hp := [], df := [] }
                            else
                              (loop 8 0 lc_8_7
                                    ([AV.undef,
                                      AV.e
                                        (E.int IntKind.i64
                                          (IntKind.i64.wrap
                                            (now + IntKind.i64.wrap ((ops.getD ix.toNat E.nili).cell 0).toInt))),
                                      AV.e (E.sl 42 ops), AV.ptr 0 0, AV.undef, AV.undef, AV.undef,
                                      AV.e
                                        (E.int IntKind.i64
                                          (IntKind.i64.wrap (ta + ((ops.getD ix.toNat E.nili).cell 1).toInt))),
                                      AV.e
                                        (E.int IntKind.i64
                                          (IntKind.i64.wrap
                                            (ad +
                                              IntKind.i64.wrap
                                                (r *
                                                  IntKind.i64.wrap
                                                    (IntKind.i64.wrap
                                                        (now + IntKind.i64.wrap ((ops.getD ix.toNat E.nili).cell 0).toInt) -
                                                      t))))),
                                      AV.e (E.int IntKind.i64 (IntKind.i64.wrap (ix + 1)))] ++ List.replicate 122 AV.undef)
                                    [Ob.box
                                        [AV.e (E.int IntKind.i64 ((rh.fst.val.comp 0).data.cell 0).toInt),
                                          AV.e (E.int IntKind.i64 ((rh.fst.val.comp 0).data.cell 1).toInt),
                                          AV.e (E.int IntKind.i64 ((rh.fst.val.comp 0).data.cell 2).toInt),
                                          AV.e (E.int IntKind.i64 ((rh.fst.val.comp 0).data.cell 3).toInt)]]).bind
                                fun o => some o
                        else none
                      else
                        bif (rh.fst.val.comp 1).data.toBool == true then
                          bif decide (0 ≤ ix) && decide (ix < ↑ops.length) then
                            bif
                                bif
                                    bif
                                        bif
                                            bif decide (((ops.getD ix.toNat E.nili).cell 1).toInt < 0) then true
                                            else
                                              decide
                                                (IntKind.i64.wrap
                                                    (ad +
                                                      IntKind.i64.wrap
                                                        (r *
                                                          IntKind.i64.wrap
                                                            (IntKind.i64.wrap
                                                                (now +
                                                                  IntKind.i64.wrap
                                                                    ((ops.getD ix.toNat E.nili).cell 0).toInt) -
                                                              t))) <
                                                  ta) then
                                          true
                                        else decide (((rh.fst.val.comp 0).data.cell 2).toInt < 0) then
                                      true
                                    else decide (b < ((rh.fst.val.comp 0).data.cell 2).toInt) then
                                  true
                                else
                                  decide
                                    (((rh.fst.val.comp 0).data.cell 3).toInt <
                                      IntKind.i64.wrap
                                        (now + IntKind.i64.wrap ((ops.getD ix.toNat E.nili).cell 0).toInt)) then
                              some
                                { ex := Ex.ret,
                                  fr :=
                                    ([AV.undef, AV.undef, AV.undef, AV.undef, AV.undef, AV.undef, AV.e (E.bool false)] ++ List.replicate 125 AV.undef),
                                  hp := [], df := [] }
                            else
                              (loop 8 0 lc_8_7
                                    ([AV.undef,
                                      AV.e
                                        (E.int IntKind.i64
                                          (IntKind.i64.wrap
                                            (now + IntKind.i64.wrap ((ops.getD ix.toNat E.nili).cell 0).toInt))),
                                      AV.e (E.sl 42 ops), AV.ptr 0 0, AV.undef, AV.undef, AV.undef,
                                      AV.e (E.int IntKind.i64 ta),
                                      AV.e
                                        (E.int IntKind.i64
                                          (IntKind.i64.wrap
                                            (ad +
                                              IntKind.i64.wrap
                                                (r *
                                                  IntKind.i64.wrap
                                                    (IntKind.i64.wrap
                                                        (now + IntKind.i64.wrap ((ops.getD ix.toNat E.nili).cell 0).toInt) -
                                                      t))))),
                                      AV.e (E.int IntKind.i64 (IntKind.i64.wrap (ix + 1)))] ++ List.replicate 122 AV.undef)
                                    [Ob.box
                                        [AV.e (E.int IntKind.i64 ((rh.fst.val.comp 0).data.cell 0).toInt),
                                          AV.e (E.int IntKind.i64 ((rh.fst.val.comp 0).data.cell 1).toInt),
                                          AV.e (E.int IntKind.i64 ((rh.fst.val.comp 0).data.cell 2).toInt),
                                          AV.e (E.int IntKind.i64 ((rh.fst.val.comp 0).data.cell 3).toInt)]]).bind
                                fun o => some o
                          else none
                        else
                          bif
                              bif
                                  bif
                                      bif
                                          decide
                                            (IntKind.i64.wrap
                                                (ad +
                                                  IntKind.i64.wrap
                                                    (r *
                                                      IntKind.i64.wrap
                                                        (IntKind.i64.wrap
                                                            (now +
                                                              IntKind.i64.wrap ((ops.getD ix.toNat E.nili).cell 0).toInt) -
                                                          t))) <
                                              ta) then
                                        true
                                      else decide (((rh.fst.val.comp 0).data.cell 2).toInt < 0) then
                                    true
                                  else decide (b < ((rh.fst.val.comp 0).data.cell 2).toInt) then
                                true
                              else
                                decide
                                  (((rh.fst.val.comp 0).data.cell 3).toInt <
                                    IntKind.i64.wrap (now + IntKind.i64.wrap ((ops.getD ix.toNat E.nili).cell 0).toInt)) then
                            some
                              { ex := Ex.ret,
                                fr :=
                                  ([AV.undef, AV.undef, AV.undef, AV.undef, AV.undef, AV.undef, AV.e (E.bool false)] ++ List.replicate 125 AV.undef),
                                hp := [], df := [] }
                          else
                            (loop 8 0 lc_8_7
                                  ([AV.undef,
                                    AV.e
                                      (E.int IntKind.i64
                                        (IntKind.i64.wrap
                                          (now + IntKind.i64.wrap ((ops.getD ix.toNat E.nili).cell 0).toInt))),
                                    AV.e (E.sl 42 ops), AV.ptr 0 0, AV.undef, AV.undef, AV.undef, AV.e (E.int IntKind.i64 ta),
                                    AV.e
                                      (E.int IntKind.i64
                                        (IntKind.i64.wrap
                                          (ad +
                                            IntKind.i64.wrap
                                              (r *
                                                IntKind.i64.wrap
                                                  (IntKind.i64.wrap
                                                      (now + IntKind.i64.wrap ((ops.getD ix.toNat E.nili).cell 0).toInt) -
                                                    t))))),
                                    AV.e (E.int IntKind.i64 (IntKind.i64.wrap (ix + 1)))] ++ List.replicate 122 AV.undef)
                                  [Ob.box
                                      [AV.e (E.int IntKind.i64 ((rh.fst.val.comp 0).data.cell 0).toInt),
                                        AV.e (E.int IntKind.i64 ((rh.fst.val.comp 0).data.cell 1).toInt),
                                        AV.e (E.int IntKind.i64 ((rh.fst.val.comp 0).data.cell 2).toInt),
                                        AV.e (E.int IntKind.i64 ((rh.fst.val.comp 0).data.cell 3).toInt)]]).bind
                              fun o => some o
                    else none
                  else none
              else none
            else
              bif decide (0 ≤ ix) && decide (ix < ↑ops.length) then
                (run none 13
                      [AV.agg
                          [AV.e (E.int IntKind.i64 r), AV.e (E.int IntKind.i64 b), AV.e (E.int IntKind.i64 l),
                            AV.e (E.int IntKind.i64 t)],
                        AV.e
                          (E.int IntKind.i64
                            (IntKind.i64.wrap (now + IntKind.i64.wrap ((ops.getD ix.toNat E.nili).cell 0).toInt))),
                        AV.e (E.int IntKind.i64 ((ops.getD ix.toNat E.nili).cell 1).toInt)]
                      []).bind
                  fun rh =>
                  bif okHeap [] rh.2 then
                    bif okRes Try.prog 29 rh.fst then
                      bif (rh.fst.val.comp 1).data.toBool then
                        bif decide (0 ≤ ix) && decide (ix < ↑ops.length) then
                          bif (rh.fst.val.comp 1).data.toBool == true then
                            bif decide (0 ≤ ix) && decide (ix < ↑ops.length) then
                              bif
                                  bif
                                      bif
                                          bif
                                              bif decide (((ops.getD ix.toNat E.nili).cell 1).toInt < 0) then true
                                              else
                                                decide
                                                  (IntKind.i64.wrap
                                                      (ad +
                                                        IntKind.i64.wrap
                                                          (r *
                                                            IntKind.i64.wrap
                                                              (IntKind.i64.wrap
                                                                  (now +
                                                                    IntKind.i64.wrap
                                                                      ((ops.getD ix.toNat E.nili).cell 0).toInt) -
                                                                now))) <
                                                    IntKind.i64.wrap (ta + ((ops.getD ix.toNat E.nili).cell 1).toInt)) then
                                            true
                                          else decide (((rh.fst.val.comp 0).data.cell 2).toInt < 0) then
                                        true
                                      else decide (b < ((rh.fst.val.comp 0).data.cell 2).toInt) then
                                    true
                                  else
                                    decide
                                      (((rh.fst.val.comp 0).data.cell 3).toInt <
                                        IntKind.i64.wrap
                                          (now + IntKind.i64.wrap ((ops.getD ix.toNat E.nili).cell 0).toInt)) then
                                some
                                  { ex := Ex.ret,
                                    fr :=
                                      ([AV.undef, AV.undef, AV.undef, AV.undef, AV.undef, AV.undef, AV.e (E.bool false)] ++ List.replicate 125 AV.undef),
                                    hp := [], df := [] }
                              else
                                (loop 8 0 lc_8_7
                                      ([AV.undef,
                                        AV.e
                                          (E.int IntKind.i64
                                            (IntKind.i64.wrap
                                              (now + IntKind.i64.wrap ((ops.getD ix.toNat E.nili).cell 0).toInt))),
                                        AV.e (E.sl 42 ops), AV.ptr 0 0, AV.undef, AV.undef, AV.undef,
                                        AV.e
                                          (E.int IntKind.i64
                                            (IntKind.i64.wrap (ta + ((ops.getD ix.toNat E.nili).cell 1).toInt))),
                                        AV.e
                                          (E.int IntKind.i64
                                            (IntKind.i64.wrap
                                              (ad +
                                                IntKind.i64.wrap
                                                  (r *
                                                    IntKind.i64.wrap
                                                      (IntKind.i64.wrap
                                                          (now + IntKind.i64.wrap ((ops.getD ix.toNat E.nili).cell 0).toInt) -
                                                        now))))),
                                        AV.e (E.int IntKind.i64 (IntKind.i64.wrap (ix + 1)))] ++ List.replicate 122 AV.undef)
                                      [Ob.box
                                          [AV.e (E.int IntKind.i64 ((rh.fst.val.comp 0).data.cell 0).toInt),
                                            AV.e (E.int IntKind.i64 ((rh.fst.val.comp 0).data.cell 1).toInt),
                                            AV.e (E.int IntKind.i64 ((rh.fst.val.comp 0).data.cell 2).toInt),
                                            AV.e (E.int IntKind.i64 ((rh.fst.val.comp 0).data.cell 3).toInt)]]).bind
                                  fun o => some o
                            else none
                          else
                            bif
                                bif
                                    bif
                                        bif
                                            decide
                                              (IntKind.i64.wrap
                                                  (ad +
                                                    IntKind.i64.wrap
                                                      (r *
                                                        IntKind.i64.wrap
                                                          (IntKind.i64.wrap
                                                              (now +
                                                                IntKind.i64.wrap ((ops.getD ix.toNat E.nili).cell 0).toInt) -
                                                            now))) <
                                                IntKind.i64.wrap (ta + ((ops.getD ix.toNat E.nili).cell 1).toInt)) then
                                          true
                                        else decide (((rh.fst.val.comp 0).data.cell 2).toInt < 0) then
                                      true
                                    else decide (b < ((rh.fst.val.comp 0).data.cell 2).toInt) then
                                  true
                                else
                                  decide
                                    (((rh.fst.val.comp 0).data.cell 3).toInt <
                                      IntKind.i64.wrap
                                        (now + IntKind.i64.wrap ((ops.getD ix.toNat E.nili).cell 0).toInt)) then
                              some
                                { ex := Ex.ret,
                                  fr :=
                                    ([AV.undef, AV.undef, AV.undef, AV.undef, AV.undef, AV.undef, AV.e (E.bool false)] ++ List.replicate 125 AV.undef),
                                  hp := [], df := [] }
                            else
                              (loop 8 0 lc_8_7
                                    ([AV.undef,
                                      AV.e
                                        (E.int IntKind.i64
                                          (IntKind.i64.wrap
                                            (now + IntKind.i64.wrap ((ops.getD ix.toNat E.nili).cell 0).toInt))),
                                      AV.e (E.sl 42 ops), AV.ptr 0 0, AV.undef, AV.undef, AV.undef,
                                      AV.e
                                        (E.int IntKind.i64
                                          (IntKind.i64.wrap (ta + ((ops.getD ix.toNat E.nili).cell 1).toInt))),
                                      AV.e
                                        (E.int IntKind.i64
                                          (IntKind.i64.wrap
                                            (ad +
                                              IntKind.i64.wrap
                                                (r *
                                                  IntKind.i64.wrap
                                                    (IntKind.i64.wrap
                                                        (now + IntKind.i64.wrap ((ops.getD ix.toNat E.nili).cell 0).toInt) -
                                                      now))))),
                                      AV.e (E.int IntKind.i64 (IntKind.i64.wrap (ix + 1)))] ++ List.replicate 122 AV.undef)
                                    [Ob.box
                                        [AV.e (E.int IntKind.i64 ((rh.fst.val.comp 0).data.cell 0).toInt),
                                          AV.e (E.int IntKind.i64 ((rh.fst.val.comp 0).data.cell 1).toInt),
                                          AV.e (E.int IntKind.i64 ((rh.fst.val.comp 0).data.cell 2).toInt),
                                          AV.e (E.int IntKind.i64 ((rh.fst.val.comp 0).data.cell 3).toInt)]]).bind
                                fun o => some o
                        else none
                      else
                        bif (rh.fst.val.comp 1).data.toBool == true then
                          bif decide (0 ≤ ix) && decide (ix < ↑ops.length) then
                            bif
                                bif
                                    bif
                                        bif
                                            bif decide (((ops.getD ix.toNat E.nili).cell 1).toInt < 0) then true
                                            else
                                              decide
                                                (IntKind.i64.wrap
                                                    (ad +
                                                      IntKind.i64.wrap
                                                        (r *
                                                          IntKind.i64.wrap
                                                            (IntKind.i64.wrap
                                                                (now +
                                                                  IntKind.i64.wrap
                                                                    ((ops.getD ix.toNat E.nili).cell 0).toInt) -
                                                              now))) <
                                                  ta) then
                                          true
                                        else decide (((rh.fst.val.comp 0).data.cell 2).toInt < 0) then
                                      true
                                    else decide (b < ((rh.fst.val.comp 0).data.cell 2).toInt) then
                                  true
                                else
                                  decide
                                    (((rh.fst.val.comp 0).data.cell 3).toInt <
                                      IntKind.i64.wrap
                                        (now + IntKind.i64.wrap ((ops.getD ix.toNat E.nili).cell 0).toInt)) then
                              some
                                { ex := Ex.ret,
                                  fr :=
                                    ([AV.undef, AV.undef, AV.undef, AV.undef, AV.undef, AV.undef, AV.e (E.bool false)] ++ List.replicate 125 AV.undef),
                                  hp := [], df := [] }
                            else
                              (loop 8 0 lc_8_7
                                    ([AV.undef,
                                      AV.e
                                        (E.int IntKind.i64
                                          (IntKind.i64.wrap
                                            (now + IntKind.i64.wrap ((ops.getD ix.toNat E.nili).cell 0).toInt))),
                                      AV.e (E.sl 42 ops), AV.ptr 0 0, AV.undef, AV.undef, AV.undef,
                                      AV.e (E.int IntKind.i64 ta),
                                      AV.e
                                        (E.int IntKind.i64
                                          (IntKind.i64.wrap
                                            (ad +
                                              IntKind.i64.wrap
                                                (r *
                                                  IntKind.i64.wrap
                                                    (IntKind.i64.wrap
                                                        (now + IntKind.i64.wrap ((ops.getD ix.toNat E.nili).cell 0).toInt) -
                                                      now))))),
                                      AV.e (E.int IntKind.i64 (IntKind.i64.wrap (ix + 1)))] ++ List.replicate 122 AV.undef)
                                    [Ob.box
                                        [AV.e (E.int IntKind.i64 ((rh.fst.val.comp 0).data.cell 0).toInt),
                                          AV.e (E.int IntKind.i64 ((rh.fst.val.comp 0).data.cell 1).toInt),
                                          AV.e (E.int IntKind.i64 ((rh.fst.val.comp 0).data.cell 2).toInt),
                                          AV.e (E.int IntKind.i64 ((rh.fst.val.comp 0).data.cell 3).toInt)]]).bind
                                fun o => some o
                          else none
                        else
                          bif
                              bif
                                  bif
                                      bif
                                          decide
                                            (IntKind.i64.wrap
                                                (ad +
                                                  IntKind.i64.wrap
                                                    (r *
                                                      IntKind.i64.wrap
                                                        (IntKind.i64.wrap
                                                            (now +
                                                              IntKind.i64.wrap ((ops.getD ix.toNat E.nili).cell 0).toInt) -
                                                          now))) <
                                              ta) then
                                        true
                                      else decide (((rh.fst.val.comp 0).data.cell 2).toInt < 0) then
                                    true
                                  else decide (b < ((rh.fst.val.comp 0).data.cell 2).toInt) then
                                true
                              else
                                decide
                                  (((rh.fst.val.comp 0).data.cell 3).toInt <
                                    IntKind.i64.wrap (now + IntKind.i64.wrap ((ops.getD ix.toNat E.nili).cell 0).toInt)) then
                            some
                              { ex := Ex.ret,
                                fr :=
                                  ([AV.undef, AV.undef, AV.undef, AV.undef, AV.undef, AV.undef, AV.e (E.bool false)] ++ List.replicate 125 AV.undef),
                                hp := [], df := [] }
                          else
                            (loop 8 0 lc_8_7
                                  ([AV.undef,
                                    AV.e
                                      (E.int IntKind.i64
                                        (IntKind.i64.wrap
                                          (now + IntKind.i64.wrap ((ops.getD ix.toNat E.nili).cell 0).toInt))),
                                    AV.e (E.sl 42 ops), AV.ptr 0 0, AV.undef, AV.undef, AV.undef, AV.e (E.int IntKind.i64 ta),
                                    AV.e
                                      (E.int IntKind.i64
                                        (IntKind.i64.wrap
                                          (ad +
                                            IntKind.i64.wrap
                                              (r *
                                                IntKind.i64.wrap
                                                  (IntKind.i64.wrap
                                                      (now + IntKind.i64.wrap ((ops.getD ix.toNat E.nili).cell 0).toInt) -
                                                    now))))),
                                    AV.e (E.int IntKind.i64 (IntKind.i64.wrap (ix + 1)))] ++ List.replicate 122 AV.undef)
                                  [Ob.box
                                      [AV.e (E.int IntKind.i64 ((rh.fst.val.comp 0).data.cell 0).toInt),
                                        AV.e (E.int IntKind.i64 ((rh.fst.val.comp 0).data.cell 1).toInt),
                                        AV.e (E.int IntKind.i64 ((rh.fst.val.comp 0).data.cell 2).toInt),
                                        AV.e (E.int IntKind.i64 ((rh.fst.val.comp 0).data.cell 3).toInt)]]).bind
                              fun o => some o
                    else none
                  else none
              else none
          else
            bif decide (0 ≤ ix) && decide (ix < ↑ops.length) then
              (run none 13
                    [AV.agg
                        [AV.e (E.int IntKind.i64 r), AV.e (E.int IntKind.i64 b), AV.e (E.int IntKind.i64 l),
                          AV.e (E.int IntKind.i64 t)],
                      AV.e
                        (E.int IntKind.i64
                          (IntKind.i64.wrap (now + IntKind.i64.wrap ((ops.getD ix.toNat E.nili).cell 0).toInt))),
                      AV.e (E.int IntKind.i64 ((ops.getD ix.toNat E.nili).cell 1).toInt)]
                    []).bind
                fun rh =>
                bif okHeap [] rh.2 then
                  bif okRes Try.prog 29 rh.fst then
                    bif (rh.fst.val.comp 1).data.toBool then
                      bif decide (0 ≤ ix) && decide (ix < ↑ops.length) then
                        bif (rh.fst.val.comp 1).data.toBool == true then
                          bif decide (0 ≤ ix) && decide (ix < ↑ops.length) then
                            bif
                                bif
                                    bif
                                        bif
                                            bif decide (((ops.getD ix.toNat E.nili).cell 1).toInt < 0) then true
                                            else
                                              decide
                                                (ad < IntKind.i64.wrap (ta + ((ops.getD ix.toNat E.nili).cell 1).toInt)) then
                                          true
                                        else decide (((rh.fst.val.comp 0).data.cell 2).toInt < 0) then
                                      true
                                    else decide (b < ((rh.fst.val.comp 0).data.cell 2).toInt) then
                                  true
                                else
                                  decide
                                    (((rh.fst.val.comp 0).data.cell 3).toInt <
                                      IntKind.i64.wrap
                                        (now + IntKind.i64.wrap ((ops.getD ix.toNat E.nili).cell 0).toInt)) then
                              some
                                { ex := Ex.ret,
                                  fr :=
                                    ([AV.undef, AV.undef, AV.undef, AV.undef, AV.undef, AV.undef, AV.e (E.bool false)] ++ List.replicate 125 AV.undef),
                                  hp := [], df := [] }
                            else
                              (loop 8 0 lc_8_7
                                    ([AV.undef,
                                      AV.e
                                        (E.int IntKind.i64
                                          (IntKind.i64.wrap
                                            (now + IntKind.i64.wrap ((ops.getD ix.toNat E.nili).cell 0).toInt))),
                                      AV.e (E.sl 42 ops), AV.ptr 0 0, AV.undef, AV.undef, AV.undef,
                                      AV.e
                                        (E.int IntKind.i64
                                          (IntKind.i64.wrap (ta + ((ops.getD ix.toNat E.nili).cell 1).toInt))),
                                      AV.e (E.int IntKind.i64 ad), AV.e (E.int IntKind.i64 (IntKind.i64.wrap (ix + 1)))] ++ List.replicate 122 AV.undef)
                                    [Ob.box
                                        [AV.e (E.int IntKind.i64 ((rh.fst.val.comp 0).data.cell 0).toInt),
                                          AV.e (E.int IntKind.i64 ((rh.fst.val.comp 0).data.cell 1).toInt),
                                          AV.e (E.int IntKind.i64 ((rh.fst.val.comp 0).data.cell 2).toInt),
                                          AV.e (E.int IntKind.i64 ((rh.fst.val.comp 0).data.cell 3).toInt)]]).bind
                                fun o => some o
                          else none
                        else
                          bif
                              bif
                                  bif
                                      bif decide (ad < IntKind.i64.wrap (ta + ((ops.getD ix.toNat E.nili).cell 1).toInt)) then
                                        true
                                      else decide (((rh.fst.val.comp 0).data.cell 2).toInt < 0) then
                                    true
                                  else decide (b < ((rh.fst.val.comp 0).data.cell 2).toInt) then
                                true
                              else
                                decide
                                  (((rh.fst.val.comp 0).data.cell 3).toInt <
                                    IntKind.i64.wrap (now + IntKind.i64.wrap ((ops.getD ix.toNat E.nili).cell 0).toInt)) then
                            some
                              { ex := Ex.ret,
                                fr :=
                                  ([AV.undef, AV.undef, AV.undef, AV.undef, AV.undef, AV.undef, AV.e (E.bool false)] ++ List.replicate 125 AV.undef),
                                hp := [], df := [] }
                          else
                            (loop 8 0 lc_8_7
                                  ([AV.undef,
                                    AV.e
                                      (E.int IntKind.i64
                                        (IntKind.i64.wrap
                                          (now + IntKind.i64.wrap ((ops.getD ix.toNat E.nili).cell 0).toInt))),
                                    AV.e (E.sl 42 ops), AV.ptr 0 0, AV.undef, AV.undef, AV.undef,
                                    AV.e
                                      (E.int IntKind.i64 (IntKind.i64.wrap (ta + ((ops.getD ix.toNat E.nili).cell 1).toInt))),
                                    AV.e (E.int IntKind.i64 ad), AV.e (E.int IntKind.i64 (IntKind.i64.wrap (ix + 1)))] ++ List.replicate 122 AV.undef)
                                  [Ob.box
                                      [AV.e (E.int IntKind.i64 ((rh.fst.val.comp 0).data.cell 0).toInt),
                                        AV.e (E.int IntKind.i64 ((rh.fst.val.comp 0).data.cell 1).toInt),
                                        AV.e (E.int IntKind.i64 ((rh.fst.val.comp 0).data.cell 2).toInt),
                                        AV.e (E.int IntKind.i64 ((rh.fst.val.comp 0).data.cell 3).toInt)]]).bind
                              fun o => some o
                      else none
                    else
                      bif (rh.fst.val.comp 1).data.toBool == true then
                        bif decide (0 ≤ ix) && decide (ix < ↑ops.length) then
                          bif
                              bif
                                  bif
                                      bif
                                          bif decide (((ops.getD ix.toNat E.nili).cell 1).toInt < 0) then true
                                          else decide (ad < ta) then
                                        true
                                      else decide (((rh.fst.val.comp 0).data.cell 2).toInt < 0) then
                                    true
                                  else decide (b < ((rh.fst.val.comp 0).data.cell 2).toInt) then
                                true
                              else
                                decide
                                  (((rh.fst.val.comp 0).data.cell 3).toInt <
                                    IntKind.i64.wrap (now + IntKind.i64.wrap ((ops.getD ix.toNat E.nili).cell 0).toInt)) then
                            some
                              { ex := Ex.ret,
                                fr :=
                                  ([AV.undef, AV.undef, AV.undef, AV.undef, AV.undef, AV.undef, AV.e (E.bool false)] ++ List.replicate 125 AV.undef),
                                hp := [], df := [] }
                          else
                            (loop 8 0 lc_8_7
                                  ([AV.undef,
                                    AV.e
                                      (E.int IntKind.i64
                                        (IntKind.i64.wrap
                                          (now + IntKind.i64.wrap ((ops.getD ix.toNat E.nili).cell 0).toInt))),
                                    AV.e (E.sl 42 ops), AV.ptr 0 0, AV.undef, AV.undef, AV.undef, AV.e (E.int IntKind.i64 ta),
                                    AV.e (E.int IntKind.i64 ad), AV.e (E.int IntKind.i64 (IntKind.i64.wrap (ix + 1)))] ++ List.replicate 122 AV.undef)
                                  [Ob.box
                                      [AV.e (E.int IntKind.i64 ((rh.fst.val.comp 0).data.cell 0).toInt),
                                        AV.e (E.int IntKind.i64 ((rh.fst.val.comp 0).data.cell 1).toInt),
                                        AV.e (E.int IntKind.i64 ((rh.fst.val.comp 0).data.cell 2).toInt),
                                        AV.e (E.int IntKind.i64 ((rh.fst.val.comp 0).data.cell 3).toInt)]]).bind
                              fun o => some o
                        else none
                      else
                        bif
                            bif
                                bif
                                    bif decide (ad < ta) then true
                                    else decide (((rh.fst.val.comp 0).data.cell 2).toInt < 0) then
                                  true
                                else decide (b < ((rh.fst.val.comp 0).data.cell 2).toInt) then
                              true
                            else
                              decide
                                (((rh.fst.val.comp 0).data.cell 3).toInt <
                                  IntKind.i64.wrap (now + IntKind.i64.wrap ((ops.getD ix.toNat E.nili).cell 0).toInt)) then
                          some
                            { ex := Ex.ret,
                              fr :=
                                ([AV.undef, AV.undef, AV.undef, AV.undef, AV.undef, AV.undef, AV.e (E.bool false)] ++ List.replicate 125 AV.undef),
                              hp := [], df := [] }
                        else
                          (loop 8 0 lc_8_7
                                ([AV.undef,
                                  AV.e
                                    (E.int IntKind.i64
                                      (IntKind.i64.wrap (now + IntKind.i64.wrap ((ops.getD ix.toNat E.nili).cell 0).toInt))),
                                  AV.e (E.sl 42 ops), AV.ptr 0 0, AV.undef, AV.undef, AV.undef, AV.e (E.int IntKind.i64 ta),
                                  AV.e (E.int IntKind.i64 ad), AV.e (E.int IntKind.i64 (IntKind.i64.wrap (ix + 1)))] ++ List.replicate 122 AV.undef)
                                [Ob.box
                                    [AV.e (E.int IntKind.i64 ((rh.fst.val.comp 0).data.cell 0).toInt),
                                      AV.e (E.int IntKind.i64 ((rh.fst.val.comp 0).data.cell 1).toInt),
                                      AV.e (E.int IntKind.i64 ((rh.fst.val.comp 0).data.cell 2).toInt),
                                      AV.e (E.int IntKind.i64 ((rh.fst.val.comp 0).data.cell 3).toInt)]]).bind
                            fun o => some o
                  else none
                else none
            else none
        else none
      else
        some
          { ex := Ex.exit 0,
            fr :=
              ([AV.undef] ++ List.replicate 131 AV.undef),
            hp := [], df := [] } := by kernel_rfl

end Go.Proofs.Ytdlfldeacoiokaa
