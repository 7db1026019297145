/- The equations of functions, as a program of mine prints them. -/
import Derived.Test.YtghdhhmlmdohkaaDoorBase
namespace Go.Proofs.YtghdhhmlmdohkaaDoor
open Go Go.Den
set_option maxRecDepth 100000
set_option maxHeartbeats 0

theorem eq_Accepts (run : RunF) (loop : LoopF) (a0_0 : Int) (a0_1 : Int) (a0_2 : Int) (a0_3 : List E) (a0_4 : List E) (a0_5 : List E) (a1 : List UInt8) :
    bodyRun Go.Proofs.Tryd.prog HH run loop none 31 [.agg [.e (.int .i64 a0_0), .e (.int .i64 a0_1), .e (.int .i64 a0_2), .e (.sl 9 a0_3), .e (.sl 26 a0_4), .e (.sl 64 a0_5)], .e (.str a1)] [] =
      (run none 23 [AV.e (E.str a1)] []).bind fun rh =>
        bif okHeap [] rh.2 then
          bif okRes Go.Proofs.Tryd.prog 41 rh.fst then
            bif !(rh.fst.val.comp 2).data.toInt == 0 then some (Res.ret (AV.e (E.bool false)), [])
            else
              (run none 27
                    [AV.agg
                        [AV.e (E.int IntKind.i64 a0_0), AV.e (E.int IntKind.i64 a0_1), AV.e (E.int IntKind.i64 a0_2),
                          AV.e (E.sl 9 a0_3), AV.e (E.sl 26 a0_4), AV.e (E.sl 64 a0_5)],
                      AV.agg
                        [AV.e (E.int IntKind.i64 ((rh.fst.val.comp 0).data.cell 0).toInt),
                          AV.e (E.int IntKind.i64 ((rh.fst.val.comp 0).data.cell 1).toInt),
                          AV.e (E.str ((rh.fst.val.comp 0).data.cell 2).toStr),
                          AV.e (E.sl 9 ((rh.fst.val.comp 0).data.cell 3).toList),
                          AV.e (E.sl 38 ((rh.fst.val.comp 0).data.cell 4).toList)]]
                    []).bind
                fun rh =>
                bif okHeap [] rh.2 then
                  bif okRes Go.Proofs.Tryd.prog 46 rh.fst then some (Res.ret (AV.e (E.bool (rh.fst.val.comp 1).data.toBool)), [])
                  else none
                else none
          else none
        else none := by kernel_rfl


end Go.Proofs.YtghdhhmlmdohkaaDoor
