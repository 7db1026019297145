/- unused, within, named. -/
import Derived.Test.YtapndkailgcboaaGreatDoorCn
namespace Go.Proofs.YtapndkailgcboaaGreatDoor
open Go Go.Den
set_option maxRecDepth 100000
set_option linter.unusedSimpArgs false

/-- Whether a field that the kind has no use for is set. -/
def unusedB (k1 k2 k4 k5 k6 m x o f1 f0 g : Bool) : Bool :=
  (!k1 && !k2 && !k5 && (!m || !x)) || (!k4 && o) || (bif k5 then !f1 else !f0) || (!k6 && g)
def unusedS (k mn mx : Int) (o f g : Nat) : Bool :=
  unusedB (k == 1) (k == 2) (k == 4) (k == 5) (k == 6) (mn == 0) (mx == 0) (decide (0 < (o : Int))) ((f : Int) == 1) ((f : Int) == 0) (decide (0 < (g : Int)))

theorem runused_run (k mn mx : Int) (os fs gs : List E) : RR none 63 [tyA k mn mx os fs gs] [] = some (.ret (yes (unusedS k mn mx os.length fs.length gs.length)), []) := by
  refine run_of_body ((eq_runused RR LL k mn mx os fs gs).trans ?_)
  unfold unusedS
  have hpos : decide (0 < (fs.length : Int)) = !((fs.length : Int) == 0) := by
    by_cases h : (fs.length : Int) = 0
    · rw [h]; rfl
    · rw [dec_yes (by omega), beq_false_of_ne h]; rfl
  rw [hpos]
  generalize (k == 1) = k1
  generalize (k == 2) = k2
  generalize (k == 4) = k4
  generalize (k == 5) = k5
  generalize (k == 6) = k6
  generalize (mn == 0) = m
  generalize (mx == 0) = x
  generalize decide (0 < (os.length : Int)) = o
  generalize ((fs.length : Int) == 1) = f1
  generalize ((fs.length : Int) == 0) = f0
  generalize decide (0 < (gs.length : Int)) = g
  cases k5 <;> cases k1 <;> cases k2 <;> cases k4 <;> cases k6 <;> cases m <;> cases x <;> cases o <;> cases f1 <;> cases f0 <;> cases g <;> rfl

/-- The error of bounds. -/
def rangeS (mn mx l h : Int) : Int := if l ≤ mn ∧ mn ≤ mx ∧ mx ≤ h then 0 else 1

def notAfter (s b : List UInt8) : Bool := Op.bytesLess s b || strEq s b
/-- The error of a name behind another one. -/
def namedS (s b : List UInt8) (f : Bool) : Int := bif nameS s then (bif !f && notAfter s b then 22 else 0) else 11

end Go.Proofs.YtapndkailgcboaaGreatDoor
