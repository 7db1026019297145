/- The program's scanner: values. -/
import Derived.Test.YtghdhhmlmdohkaaGreatDoorKb
import Derived.Test.YtghdhhmlmdohkaaGreatDoorSp1
namespace Go.Proofs.YtghdhhmlmdohkaaGreatDoor
open Go Go.Den
set_option maxRecDepth 100000

/-- A value as its parts. -/
def PartV (y : E) : Prop := ∃ k n x ns vs, y = mkV 9 39 k n x ns vs
/-- A value's run is right at every depth above. -/
abbrev VRun (d : Nat) (s : List UInt8) : Prop := ∀ l, l <:+ s → Reads (RR none 103 [.ptr 0 0, num (7 - (d : Int))] (scn s (pos s l))) s slotsV (valL 9 39 d l)

abbrev boxV (p q : Nat) (k n : Int) (x : List UInt8) (ns vs : List E) : Ob := .box [num k, num n, str x, .own p 9 ns, .own q 39 vs]
abbrev listH (s : List UInt8) (p : Int) (k : Int) (ns vs : List E) : Heap := [scnO s p, boxV 3 4 0 0 [] [] [], boxV 5 6 k 0 [] ns vs, .vec 9 0, .vec 39 0, .vec 9 ns.length, .vec 39 vs.length]
abbrev listF (n : Nat) (t1 : Int) : Fr := ((((List.replicate n AV.undef).set 0 (.ptr 0 0)).set 1 (.e (.int .i64 t1))).set 4 (.ptr 1 0)).set 5 (.ptr 2 0)
def listO (n : Nat) (s : List UInt8) (k : Int) (q : List E × List E) (l : List UInt8) : Out :=
  { ex := .ret, fr := [AV.undef, AV.undef, AV.undef, AV.undef, .ptr 1 0] ++ List.replicate n AV.undef, hp := [scnO s (pos s l), boxV 2 3 k 0 [] q.1 q.2, .vec 9 q.1.length, .vec 39 q.2.length], df := [] }


/-! ### named -/

/-! ### value -/

/-! ### payload, Value -/

def nilV : AV := .agg [num 0, num 0, str [], .e (.sl 9 []), .e (.sl 39 [])]
/-- What a text is as a value: the value; or a place and a fault. -/
def payS (s : List UInt8) : AV :=
  match valL 9 39 6 s with
  | .ok y l => if l = [] then .tup [slotsV y, num 0, num 0] else .tup [nilV, num (pos s l), num 2]
  | .err e l => .tup [nilV, num (pos s l), num e]

theorem pos_all (s : List UInt8) : pos s s = 0 := by unfold pos; omega
theorem rescue_no (p q : Int) : RR (some none) 87 [.ptr 0 0, .ptr 1 0] [.box [num p], .box [num q]] = some (.ret (.tup []), [.box [num p], .box [num q]]) := run_of_body (eq_rescueN RR LL p q)
theorem rescue_yes (p q a b : Int) : RR (some (some (flt a b))) 87 [.ptr 0 0, .ptr 1 0] [.box [num p], .box [num q]] = some (.rcv (.tup []), [.box [num a], .box [num b]]) := run_of_body (eq_rescueP RR LL p q a b)

end Go.Proofs.YtghdhhmlmdohkaaGreatDoor
