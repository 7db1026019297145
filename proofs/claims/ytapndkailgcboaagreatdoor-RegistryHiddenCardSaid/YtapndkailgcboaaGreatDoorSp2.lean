/- Sp2: texts SpG .. SpJ in one. -/
import Derived.Test.YtapndkailgcboaaGreatDoorSp1
/- Loops over lists: what they come to, step by step. -/
namespace Go.Den
open Go

/-- What a loop over a list comes to: an element that ends it, or its end. -/
def scanO (p : E → Option Out) (A : Out) : List E → Out
  | [] => A
  | x :: r => match p x with | some o => o | none => scanO p A r

theorem loop_scan {F : Nat → Option Out} {xs : List E} {p : E → Option Out} {A : Out} (h0 : F xs.length = some A)
    (h1 : ∀ i, i < xs.length → ∀ o, p (xs.getD i .nili) = some o → F i = some o)
    (h2 : ∀ i, i < xs.length → p (xs.getD i .nili) = none → ∀ o, F (i + 1) = some o → F i = some o) : F 0 = some (scanO p A xs) := by
  have key : ∀ (j i : Nat), i + j = xs.length → F i = some (scanO p A (xs.drop i)) := by
    intro j
    induction j with
    | zero =>
      intro i h
      have : i = xs.length := by omega
      subst this
      rw [List.drop_length]
      exact h0
    | succ j ih =>
      intro i h
      have hi : i < xs.length := by omega
      have hx : xs.getD i .nili = xs[i] := getD_at hi
      rw [List.drop_eq_getElem_cons hi]
      unfold scanO
      cases hp : p xs[i] with
      | some o => exact h1 i hi o (by rw [hx, hp])
      | none => exact h2 i hi (by rw [hx, hp]) _ (ih (i + 1) (by omega))
  have := key xs.length 0 (by omega)
  rwa [List.drop_zero] at this

/-- Loops that look whether all are so. -/
theorem loop_all {F : Nat → Option Out} {xs : List E} {p : E → Bool} {A B : Out} (h0 : F xs.length = some A)
    (h1 : ∀ i, i < xs.length → p (xs.getD i .nili) = false → F i = some B)
    (h2 : ∀ i, i < xs.length → p (xs.getD i .nili) = true → ∀ o, F (i + 1) = some o → F i = some o) : F 0 = some (bif xs.all p then A else B) := by
  have := loop_scan (F := F) (xs := xs) (p := fun x => bif p x then none else some B) (A := A) h0 (fun i hi o ho => by
    change (bif p (xs.getD i .nili) then none else some B) = some o at ho
    cases hp : p (xs.getD i .nili) with
    | true => rw [hp] at ho; cases ho
    | false => rw [hp] at ho; injection ho with ho; rw [← ho]; exact h1 i hi hp) (fun i hi hp r hr => by
    change (bif p (xs.getD i .nili) then none else some B) = none at hp
    cases hp' : p (xs.getD i .nili) with
    | true => exact h2 i hi hp' r hr
    | false => rw [hp'] at hp; cases hp)
  rw [this]
  congr 1
  clear this h0 h1 h2
  induction xs with
  | nil => rfl
  | cons x xs ih =>
    unfold scanO
    rw [List.all_cons]
    cases hp : p x with
    | true => simpa using ih
    | false => rfl

/-- A loop with a state. -/
def goL {S : Type} (st : S → E → Out ⊕ S) (A : S → Out) : List E → S → Out
  | [], s => A s
  | x :: r, s => match st s x with | .inl o => o | .inr s' => goL st A r s'
theorem at_nat (i : Nat) : ((i : Int)).toNat = i := by omega
theorem wrap_nat {i n : Nat} (h : i < n) (hn : n ≤ maxLen) : IntKind.i64.wrap ((i : Int) + 1) = ((i + 1 : Nat) : Int) := by
  rw [maxLen_eq] at hn
  rw [wrap_in (by omega) (by omega)]
  omega
theorem in_nat {i n : Nat} (h : i < n) : (decide ((0 : Int) ≤ (i : Int)) && decide ((i : Int) < (n : Int))) = true := by
  simp; omega
theorem lt_nat {i n : Nat} (h : i < n) : decide ((i : Int) < (n : Int)) = true := by simp; omega
theorem end_nat (n : Nat) : decide ((n : Int) < (n : Int)) = false := by simp
end Go.Den

/- How long the text of a value can be. -/
namespace Go.Den
open Go

/-- The parts of a value and the bytes of its strings. -/
def sizV : Nat → E → Nat
  | 0, _ => 0
  | d + 1, v => 1 + (txtE v).length + (namesE v).length + (listE v).length + ((listE v).map (sizV d)).sum

end Go.Den

/- How long the text of a schema can be. -/
namespace Go.Den
open Go

/-- The parts of a schema. -/
def sizT : Nat → E → Nat
  | 0, _ => 0
  | d + 1, x => 1 + (optsE x).length + (fieldsE x).length + (ofE x).length + ((ofE x).map (sizT d)).sum + ((fieldsE x).map fun g => sizT d (fieldTy g)).sum

end Go.Den

