/- Sp3: texts SpH .. SpH in one. -/
import Derived.Test.YtapndkailgcboaaGreatDoorDn7
/- The readers' least functions, by what they return. -/
namespace Go.Den
open Go

/-- The next byte, 0 at the end. -/
def pk (s : List UInt8) (p : Int) : Int := ((s.getD p.toNat 0).toNat : Int)

def peekG (args : List AV) (σ : Heap) : T :=
  match args, σ with
  | [.ptr 0 0], [.box [.e (.str s), .e (.int .i64 p)]] => .br (decide (0 ≤ p)) (.res (.ret (.e (.int .u8 (pk s p)))) [.box [.e (.str s), .e (.int .i64 p)]]) .fail
  | _, _ => .fail

def isG (args : List AV) (σ : Heap) : T :=
  match args, σ with
  | [.ptr 0 0, .e (.int .u8 c)], [.box [.e (.str s), .e (.int .i64 i), .e (.int .i64 x), .e (.int .i64 a)]] =>
    .br (decide (0 ≤ i)) (.res (.ret (.e (.bool (decide (i < (s.length : Int)) && pk s i == c)))) [.box [.e (.str s), .e (.int .i64 i), .e (.int .i64 x), .e (.int .i64 a)]]) .fail
  | _, _ => .fail

def digitG (args : List AV) (σ : Heap) : T :=
  match args, σ with
  | [.ptr 0 0], [.box [.e (.str s), .e (.int .i64 i), .e (.int .i64 x), .e (.int .i64 a)]] =>
    .br (decide (0 ≤ i)) (.res (.ret (.e (.bool (decide (48 ≤ pk s i) && decide (pk s i ≤ 57))))) [.box [.e (.str s), .e (.int .i64 i), .e (.int .i64 x), .e (.int .i64 a)]]) .fail
  | _, _ => .fail

def letterG (args : List AV) (σ : Heap) : T :=
  match args, σ with
  | [.ptr 0 0, .e (.bool f)], [.box [.e (.str s), .e (.int .i64 i), .e (.int .i64 x), .e (.int .i64 a)]] =>
    .br (decide (0 ≤ i)) (.res (.ret (.e (.bool ((decide (97 ≤ pk s i) && decide (pk s i ≤ 122)) || (!f && ((decide (48 ≤ pk s i) && decide (pk s i ≤ 57)) || pk s i == 45)))))) [.box [.e (.str s), .e (.int .i64 i), .e (.int .i64 x), .e (.int .i64 a)]]) .fail
  | _, _ => .fail

/-- The reference's fault: the first one stays. -/
def failG (args : List AV) (σ : Heap) : T :=
  match args, σ with
  | [.ptr 0 0, .e (.int .i64 p), .e (.int .i64 c)], [.box [.e (.str s), .e (.int .i64 i), .e (.int .i64 x), .e (.int .i64 a)]] =>
    .res (.ret (.tup [])) [.box [.e (.str s), .e (.int .i64 i), .e (.int .i64 (bif x == 0 then c else x)), .e (.int .i64 (bif x == 0 then p else a))]]
  | _, _ => .fail

/-- A digit's number, -1 for another byte. -/
def hexI (c : Int) : Int := bif decide (48 ≤ c) && decide (c ≤ 57) then c - 48 else bif decide (97 ≤ c) && decide (c ≤ 102) then c - 87 else -1
def hexG (args : List AV) (σ : Heap) : T :=
  match args, σ with
  | [.e (.int .u8 c)], [] => .res (.ret (.e (.int .i64 (hexI c)))) []
  | _, _ => .fail

end Go.Den

