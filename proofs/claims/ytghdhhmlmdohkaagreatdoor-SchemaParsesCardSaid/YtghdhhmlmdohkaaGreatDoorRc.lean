/- The reference's reader: texts in quotes, lists. -/
import Derived.Test.YtghdhhmlmdohkaaGreatDoorRb
import Derived.Test.YtghdhhmlmdohkaaGreatDoorKd
namespace Go.Proofs.YtghdhhmlmdohkaaGreatDoor
open Go Go.Den
set_option maxRecDepth 100000

/-! ### quoted -/

abbrev rqH (s : List UInt8) (q x a : Int) (acc : List E) : Heap := [rdrO s q x a, .vec 5 acc.length]
abbrev rqF (acc : List E) : Fr := ((List.replicate 93 AV.undef).set 0 (.ptr 0 0)).set 3 (.own 1 5 acc)
def rqX (s : List UInt8) (q x a : Int) (acc : List E) : Out := { ex := .exit 0, fr := [.ptr 0 0, AV.undef, AV.undef, .own 1 5 acc] ++ List.replicate 89 AV.undef, hp := rqH s q x a acc, df := [] }
def rqR (s : List UInt8) (q x a : Int) : Out := { ex := .ret, fr := [AV.undef, AV.undef, str []] ++ List.replicate 90 AV.undef, hp := rdr s q x a, df := [] }
def rqOut (s : List UInt8) (x : Option Out) : PR (List UInt8) → Prop
  | .ok acc r => r <:+ s ∧ ∃ q, IntKind.i64.wrap (q + 1) = pos s r ∧ x = some (rqX s q 0 0 (bytesE acc))
  | .err e r => r <:+ s ∧ e ≠ 0 ∧ ((∃ q, x = some (rqR s q e (pos s r))) ∨ ∃ q acc, x = some (rqX s q e (pos s r) (bytesE acc)))

theorem bindR {α : Type} {x : Option (Res × Heap)} {r : Res × Heap} {s : List UInt8} {val : α → AV} {pr : PR α} {K : Res × Heap → Option (Res × Heap)} (h : x = some r) (hK : ReadsF (K r) s val pr) : ReadsF (x.bind K) s val pr := by rw [h]; exact hK

/-! ### elements -/

abbrev VRunF (d : Nat) (s : List UInt8) : Prop := ∀ l, l <:+ s → ReadsF (RR none 105 [.ptr 0 0, num (7 - (d : Int))] (rdr s (pos s l) 0 0)) s slotsV (valL 9 39 d l)
abbrev rlH (s : List UInt8) (q x a : Int) (k : Int) (ns vs : List E) : Heap := [rdrO s q x a, boxV 3 4 0 0 [] [] [], boxV 5 6 k 0 [] ns vs, .vec 9 0, .vec 39 0, .vec 9 ns.length, .vec 39 vs.length]
def rlX (n : Nat) (s : List UInt8) (q x a : Int) (k : Int) (ns vs : List E) : Out := { ex := .exit 0, fr := [.ptr 0 0, AV.undef, AV.undef, AV.undef, .ptr 1 0, .ptr 2 0] ++ List.replicate n AV.undef, hp := rlH s q x a k ns vs, df := [] }
def rlR (n : Nat) (s : List UInt8) (q x a : Int) (k : Int) (ns vs : List E) : Out := { ex := .ret, fr := [AV.undef, AV.undef, AV.undef, AV.undef, .ptr 1 0] ++ List.replicate n AV.undef, hp := [rdrO s q x a, boxV 2 3 k 0 [] ns vs, .vec 9 ns.length, .vec 39 vs.length], df := [] }
def rlOut {α : Type} (w : Bool) (n m : Nat) (s : List UInt8) (k : Int) (mk : α → List E × List E) (x : Option Out) : PR α → Prop
  | .ok q l => l <:+ s ∧ x = some (rlX n s (pos s l) 0 0 k (mk q).1 (mk q).2)
  | .err e l => l <:+ s ∧ e ≠ 0 ∧ ∃ p ns vs, x = some (rlX n s p e (pos s l) k ns vs) ∨ (w = true ∧ x = some (rlR m s p e (pos s l) k ns vs))
section
variable {α : Type} {w : Bool} {n m : Nat} {s : List UInt8} {k : Int} {mk : α → List E × List E} {pr : PR α}
end
def elsM (vd : List UInt8 → PR E) : Nat → List E → List UInt8 → PR (List E)
  | 0, _, l => .err 0 l
  | n + 1, acc, l => (vd l).andThen fun y l1 => if hd l1 = 44 then elsM vd n (acc ++ [y]) (l1.drop 1) else .ok (acc ++ [y]) l1
end Go.Proofs.YtghdhhmlmdohkaaGreatDoor
