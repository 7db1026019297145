/- The equations of functions, as a program of mine prints them. -/
import Derived.Test.YtghdhhmlmdohkaaDoorBase
namespace Go.Proofs.YtghdhhmlmdohkaaDoor
open Go Go.Den
set_option maxRecDepth 100000
set_option maxHeartbeats 0

theorem eq_vpeek (run : RunF) (loop : LoopF) (p0_0 : List UInt8) (p0_1 : Int) :
    bodyRun Go.Proofs.Tryd.prog HL0 run loop none 117 [.ptr 0 0] [.box [.e (.str p0_0), .e (.int .i64 p0_1)]] =
      bif decide (p0_1 < (↑p0_0.length : Int)) then
        bif decide (0 ≤ p0_1) && decide (p0_1 < (↑p0_0.length : Int)) then
          some
            (Res.ret (AV.e (E.int IntKind.u8 (↑(p0_0.getD p0_1.toNat 0).toNat : Int))),
              [Ob.box [AV.e (E.str p0_0), AV.e (E.int IntKind.i64 p0_1)]])
        else none
      else some (Res.ret (AV.e (E.int IntKind.u8 0)), [Ob.box [AV.e (E.str p0_0), AV.e (E.int IntKind.i64 p0_1)]]) := by kernel_rfl

theorem eq_vis (run : RunF) (loop : LoopF) (p0_0 : List UInt8) (p0_1 : Int) (p0_2 : Int) (p0_3 : Int) (a1 : Int) :
    bodyRun Go.Proofs.Tryd.prog HL0 run loop none 93 [.ptr 0 0, .e (.int .u8 a1)] [.box [.e (.str p0_0), .e (.int .i64 p0_1), .e (.int .i64 p0_2), .e (.int .i64 p0_3)]] =
      bif decide (p0_1 < (↑p0_0.length : Int)) == true then
        bif decide (0 ≤ p0_1) && decide (p0_1 < (↑p0_0.length : Int)) then
          some
            (Res.ret (AV.e (E.bool ((↑(p0_0.getD p0_1.toNat 0).toNat : Int) == a1))),
              [Ob.box
                  [AV.e (E.str p0_0), AV.e (E.int IntKind.i64 p0_1), AV.e (E.int IntKind.i64 p0_2),
                    AV.e (E.int IntKind.i64 p0_3)]])
        else none
      else
        some
          (Res.ret (AV.e (E.bool false)),
            [Ob.box
                [AV.e (E.str p0_0), AV.e (E.int IntKind.i64 p0_1), AV.e (E.int IntKind.i64 p0_2),
                  AV.e (E.int IntKind.i64 p0_3)]]) := by kernel_rfl

theorem eq_vdigit (run : RunF) (loop : LoopF) (p0_0 : List UInt8) (p0_1 : Int) (p0_2 : Int) (p0_3 : Int) :
    bodyRun Go.Proofs.Tryd.prog HL0 run loop none 98 [.ptr 0 0] [.box [.e (.str p0_0), .e (.int .i64 p0_1), .e (.int .i64 p0_2), .e (.int .i64 p0_3)]] =
      bif decide (p0_1 < (↑p0_0.length : Int)) == true then
        bif decide (0 ≤ p0_1) && decide (p0_1 < (↑p0_0.length : Int)) then
          bif decide (48 ≤ (↑(p0_0.getD p0_1.toNat 0).toNat : Int)) == true then
            bif decide (0 ≤ p0_1) && decide (p0_1 < (↑p0_0.length : Int)) then
              some
                (Res.ret (AV.e (E.bool (decide ((↑(p0_0.getD p0_1.toNat 0).toNat : Int) ≤ 57)))),
                  [Ob.box
                      [AV.e (E.str p0_0), AV.e (E.int IntKind.i64 p0_1), AV.e (E.int IntKind.i64 p0_2),
                        AV.e (E.int IntKind.i64 p0_3)]])
            else none
          else
            some
              (Res.ret (AV.e (E.bool false)),
                [Ob.box
                    [AV.e (E.str p0_0), AV.e (E.int IntKind.i64 p0_1), AV.e (E.int IntKind.i64 p0_2),
                      AV.e (E.int IntKind.i64 p0_3)]])
        else none
      else
        some
          (Res.ret (AV.e (E.bool false)),
            [Ob.box
                [AV.e (E.str p0_0), AV.e (E.int IntKind.i64 p0_1), AV.e (E.int IntKind.i64 p0_2),
                  AV.e (E.int IntKind.i64 p0_3)]]) := by kernel_rfl

theorem eq_vletter (run : RunF) (loop : LoopF) (p0_0 : List UInt8) (p0_1 : Int) (p0_2 : Int) (p0_3 : Int) (a1 : Bool) :
    bodyRun Go.Proofs.Tryd.prog HL0 run loop none 147 [.ptr 0 0, .e (.bool a1)] [.box [.e (.str p0_0), .e (.int .i64 p0_1), .e (.int .i64 p0_2), .e (.int .i64 p0_3)]] =
      bif decide ((↑p0_0.length : Int) ≤ p0_1) then
        some
          (Res.ret (AV.e (E.bool false)),
            [Ob.box
                [AV.e (E.str p0_0), AV.e (E.int IntKind.i64 p0_1), AV.e (E.int IntKind.i64 p0_2),
                  AV.e (E.int IntKind.i64 p0_3)]])
      else
        bif decide (0 ≤ p0_1) && decide (p0_1 < (↑p0_0.length : Int)) then
          bif
              (bif decide (97 ≤ (↑(p0_0.getD p0_1.toNat 0).toNat : Int)) then
                  decide ((↑(p0_0.getD p0_1.toNat 0).toNat : Int) ≤ 122)
                else false) ==
                false then
            bif (!a1) == true then
              bif decide (48 ≤ (↑(p0_0.getD p0_1.toNat 0).toNat : Int)) == true then
                bif decide ((↑(p0_0.getD p0_1.toNat 0).toNat : Int) ≤ 57) == false then
                  some
                    (Res.ret (AV.e (E.bool ((↑(p0_0.getD p0_1.toNat 0).toNat : Int) == 45))),
                      [Ob.box
                          [AV.e (E.str p0_0), AV.e (E.int IntKind.i64 p0_1), AV.e (E.int IntKind.i64 p0_2),
                            AV.e (E.int IntKind.i64 p0_3)]])
                else
                  some
                    (Res.ret (AV.e (E.bool true)),
                      [Ob.box
                          [AV.e (E.str p0_0), AV.e (E.int IntKind.i64 p0_1), AV.e (E.int IntKind.i64 p0_2),
                            AV.e (E.int IntKind.i64 p0_3)]])
              else
                some
                  (Res.ret (AV.e (E.bool ((↑(p0_0.getD p0_1.toNat 0).toNat : Int) == 45))),
                    [Ob.box
                        [AV.e (E.str p0_0), AV.e (E.int IntKind.i64 p0_1), AV.e (E.int IntKind.i64 p0_2),
                          AV.e (E.int IntKind.i64 p0_3)]])
            else
              some
                (Res.ret (AV.e (E.bool false)),
                  [Ob.box
                      [AV.e (E.str p0_0), AV.e (E.int IntKind.i64 p0_1), AV.e (E.int IntKind.i64 p0_2),
                        AV.e (E.int IntKind.i64 p0_3)]])
          else
            some
              (Res.ret (AV.e (E.bool true)),
                [Ob.box
                    [AV.e (E.str p0_0), AV.e (E.int IntKind.i64 p0_1), AV.e (E.int IntKind.i64 p0_2),
                      AV.e (E.int IntKind.i64 p0_3)]])
        else none := by kernel_rfl


end Go.Proofs.YtghdhhmlmdohkaaDoor
