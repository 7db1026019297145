/- The equations of functions, as a program of mine prints them. -/
import Derived.Test.YtapndkailgcboaaGreatDoorBase
namespace Go.Proofs.YtapndkailgcboaaGreatDoor
open Go Go.Den
set_option maxRecDepth 100000
set_option maxHeartbeats 0

theorem eq_vpeek (run : RunF) (loop : LoopF) (p0_0 : List UInt8) (p0_1 : Int) : bodyRun PP HL0 run loop none 117 [.ptr 0 0] [.box [.e (.str p0_0), .e (.int .i64
  p0_1)]] = bif decide (p0_1 < (↑p0_0.length : Int)) then bif decide (0 ≤ p0_1) && decide (p0_1 < (↑p0_0.length : Int)) then some (Res.ret (AV.e (E.int IntKind.u8 (↑(p0_0.getD
  p0_1.toNat 0).toNat : Int))), [Ob.box [(str p0_0), (num p0_1)]]) else none else some (Res.ret (AV.e (E.int IntKind.u8 0)), [Ob.box [(str p0_0),
  (num p0_1)]]) := by kernel_rfl
theorem eq_vis (run : RunF) (loop : LoopF) (p0_0 : List UInt8) (p0_1 : Int) (p0_2 : Int) (p0_3 : Int) (a1 : Int) : bodyRun PP HL0 run loop none 103 [.ptr 0 0, .e
  (.int .u8 a1)] [.box [.e (.str p0_0), .e (.int .i64 p0_1), .e (.int .i64 p0_2), .e (.int .i64 p0_3)]] = bif decide (p0_1 < (↑p0_0.length : Int)) == true then bif decide (0 ≤
  p0_1) && decide (p0_1 < (↑p0_0.length : Int)) then some (Res.ret ((yes ((↑(p0_0.getD p0_1.toNat 0).toNat : Int) == a1))), [Ob.box [(str p0_0), AV.e (E.int
  IntKind.i64 p0_1), (num p0_2), (num p0_3)]]) else none else some (Res.ret ((yes false)), [Ob.box [(str p0_0), AV.e (E.int
  IntKind.i64 p0_1), (num p0_2), (num p0_3)]]) := by kernel_rfl
theorem eq_vdigit (run : RunF) (loop : LoopF) (p0_0 : List UInt8) (p0_1 : Int) (p0_2 : Int) (p0_3 : Int) : bodyRun PP HL0 run loop none 108 [.ptr 0 0] [.box [.e
  (.str p0_0), .e (.int .i64 p0_1), .e (.int .i64 p0_2), .e (.int .i64 p0_3)]] = bif decide (p0_1 < (↑p0_0.length : Int)) == true then bif decide (0 ≤ p0_1) && decide (p0_1 <
  (↑p0_0.length : Int)) then bif decide (48 ≤ (↑(p0_0.getD p0_1.toNat 0).toNat : Int)) == true then bif decide (0 ≤ p0_1) && decide (p0_1 < (↑p0_0.length : Int)) then some (Res.ret
  ((yes (decide ((↑(p0_0.getD p0_1.toNat 0).toNat : Int) ≤ 57)))), [Ob.box [(str p0_0), (num p0_1), (num p0_2), AV.e (E.int
  IntKind.i64 p0_3)]]) else none else some (Res.ret ((yes false)), [Ob.box [(str p0_0), (num p0_1), (num p0_2), AV.e (E.int
  IntKind.i64 p0_3)]]) else none else some (Res.ret ((yes false)), [Ob.box [(str p0_0), (num p0_1), (num p0_2), AV.e (E.int
  IntKind.i64 p0_3)]]) := by kernel_rfl
theorem eq_vfail (run : RunF) (loop : LoopF) (p0_0 : List UInt8) (p0_1 : Int) (p0_2 : Int) (p0_3 : Int) (a1 : Int) (a2 : Int) : bodyRun PP HL0 run loop none 96
  [.ptr 0 0, .e (.int .i64 a1), .e (.int .i64 a2)] [.box [.e (.str p0_0), .e (.int .i64 p0_1), .e (.int .i64 p0_2), .e (.int .i64 p0_3)]] = bif p0_2 == 0 then some (Res.ret (AV.tup
  []), [Ob.box [(str p0_0), (num p0_1), (num a2), (num a1)]]) else some (Res.ret (AV.tup []), [Ob.box [AV.e (E.str
  p0_0), (num p0_1), (num p0_2), (num p0_3)]]) := by kernel_rfl
theorem eq_vhex (run : RunF) (loop : LoopF) (a0 : Int) : bodyRun PP HL0 run loop none 136 [.e (.int .u8 a0)] [] = bif bif decide (48 ≤ a0) then decide (a0 ≤ 57)
  else false then some (Res.ret ((num (IntKind.i64.wrap (IntKind.u8.wrap (a0 - 48))))), []) else bif bif decide (97 ≤ a0) then decide (a0 ≤ 102) else false then
  some (Res.ret ((num (IntKind.i64.wrap (IntKind.i64.wrap (IntKind.u8.wrap (a0 - 97)) + 10)))), []) else some (Res.ret ((num (-1))), []) := by
  kernel_rfl
theorem eq_vletter (run : RunF) (loop : LoopF) (p0_0 : List UInt8) (p0_1 : Int) (p0_2 : Int) (p0_3 : Int) (a1 : Bool) : bodyRun PP HL0 run loop none 137 [.ptr 0 0,
  .e (.bool a1)] [.box [.e (.str p0_0), .e (.int .i64 p0_1), .e (.int .i64 p0_2), .e (.int .i64 p0_3)]] = bif decide ((↑p0_0.length : Int) ≤ p0_1) then some (Res.ret (AV.e (E.bool
  false)), [Ob.box [(str p0_0), (num p0_1), (num p0_2), (num p0_3)]]) else bif decide (0 ≤ p0_1) && decide (p0_1 <
  (↑p0_0.length : Int)) then bif (bif decide (97 ≤ (↑(p0_0.getD p0_1.toNat 0).toNat : Int)) then decide ((↑(p0_0.getD p0_1.toNat 0).toNat : Int) ≤ 122) else false) == false then
  bif (!a1) == true then bif decide (48 ≤ (↑(p0_0.getD p0_1.toNat 0).toNat : Int)) == true then bif decide ((↑(p0_0.getD p0_1.toNat 0).toNat : Int) ≤ 57) == false then some
  (Res.ret ((yes ((↑(p0_0.getD p0_1.toNat 0).toNat : Int) == 45))), [Ob.box [(str p0_0), (num p0_1), (num p0_2), AV.e (E.int
  IntKind.i64 p0_3)]]) else some (Res.ret ((yes true)), [Ob.box [(str p0_0), (num p0_1), (num p0_2), AV.e (E.int IntKind.i64
  p0_3)]]) else some (Res.ret ((yes ((↑(p0_0.getD p0_1.toNat 0).toNat : Int) == 45))), [Ob.box [(str p0_0), (num p0_1), AV.e (E.int IntKind.i64
  p0_2), (num p0_3)]]) else some (Res.ret ((yes false)), [Ob.box [(str p0_0), (num p0_1), (num p0_2), AV.e
  (E.int IntKind.i64 p0_3)]]) else some (Res.ret ((yes true)), [Ob.box [(str p0_0), (num p0_1), (num p0_2), AV.e (E.int
  IntKind.i64 p0_3)]]) else none := by kernel_rfl

end Go.Proofs.YtapndkailgcboaaGreatDoor
