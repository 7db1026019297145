/- Values: their slots; small lemmas. -/
import Derived.Test.YtghdhhmlmdohkaaGreatDoorCy
import Derived.Test.YtghdhhmlmdohkaaGreatDoorSp2
namespace Go.Proofs.YtghdhhmlmdohkaaGreatDoor
open Go Go.Den
set_option maxRecDepth 100000

theorem decDigits_len : ∀ (k u : Nat), u < 10 ^ (k + 1) → (Lib.decDigits u).length ≤ k + 1
  | 0, u, h => by
    rw [Lib.decDigits, dif_pos (by simpa using h)]; simp
  | k + 1, u, h => by
    rw [Lib.decDigits]
    split
    · simp
    · rw [Nat.pow_succ] at h
      have := decDigits_len k (u / 10) (by omega)
      simp; omega
theorem itoa_len {n : Int} (h0 : -9223372036854775808 ≤ n) (h1 : n ≤ 9223372036854775807) : (Lib.itoa n).length ≤ 20 := by
  unfold Lib.itoa
  split
  · have := decDigits_len 18 n.natAbs (by omega)
    simp; omega
  · have := decDigits_len 18 n.toNat (by omega)
    omega

theorem bif_and (a b : Bool) : (bif a then b else false) = (a && b) := by cases a <;> rfl


abbrev Val : E → Prop := IsVal 9 39
abbrev vlA (k n : Int) (x : List UInt8) (ns vs : List E) : AV := .agg [num k, num n, str x, .e (.sl 9 ns), .e (.sl 39 vs)]
abbrev vlC (k n : Int) (x : List UInt8) (ns vs : List E) : Ob := .box [num k, num n, str x, .e (.sl 9 ns), .e (.sl 39 vs)]
theorem no_not' {n : Int} (h : n ≠ 0) : (!(n == 0)) = true := by rw [ne_beq h]; rfl

abbrev slotsV (y : E) : AV := .agg [num (y.cell 0).toInt, num (y.cell 1).toInt, str (y.cell 2).toStr, .e (.sl 9 (y.cell 3).toList), .e (.sl 39 (y.cell 4).toList)]
abbrev slotsT (y : E) : AV := .agg [num (y.cell 0).toInt, num (y.cell 1).toInt, num (y.cell 2).toInt, .e (.sl 9 (y.cell 3).toList), .e (.sl 27 (y.cell 4).toList), .e (.sl 81 (y.cell 5).toList)]
abbrev slotsF (y : E) : AV := .agg [num (y.cell 2).toInt, num (y.cell 3).toInt, num (y.cell 4).toInt, .e (.sl 9 (y.cell 5).toList), .e (.sl 27 (y.cell 6).toList), .e (.sl 81 (y.cell 7).toList)]
theorem slotsT_eq {y : E} (h : Ty y) : slotsT y = slotsOf y := by cases h; rfl
theorem slotsF_eq {y : E} (h : Ty (fieldTy y)) (hn : ∃ n op cs, y = .agg (.str n :: .bool op :: cs) ∧ n.length ≤ maxLen) : slotsF y = slotsOf (fieldTy y) := by
  obtain ⟨_, _, _, _, _, _, _, _, rfl, _⟩ := fieldX h hn
  rfl
end Go.Proofs.YtghdhhmlmdohkaaGreatDoor
