/- Numbers in decimal; words; lines. -/
import Derived.Test.YtmocefjnplmibaaGreatDoorRe
import Derived.Test.YtmocefjnplmibaaGreatDoorCg
import Derived.Lib.ItoaLen
namespace Go.Proofs.YtmocefjnplmibaaGreatDoor
open Go Go.Den
set_option maxRecDepth 100000

/-! ### Numbers -/

theorem rngI {n : Int} (h : I64 n) : (decide (-9223372036854775808 ≤ n) && decide (n ≤ 9223372036854775807)) = true := by rw [dec_yes h.1, dec_yes h.2]; rfl

/-! ### Words -/

def wordS (k : Int) : S8 :=
  [[], [101, 120, 99, 104, 97, 110, 103, 101], [113, 117, 101, 117, 101], [98, 105, 110, 100], [117, 110, 98, 105, 110, 100], [112, 117, 98, 108, 105, 115, 104], [99, 111, 110, 115, 117, 109, 101], [99, 97, 110, 99, 101, 108],
    [97, 99, 107], [110, 97, 99, 107], [98, 101, 103, 105, 110], [99, 111, 109, 109, 105, 116], [114, 111, 108, 108, 98, 97, 99, 107], [112, 117, 114, 103, 101], [100, 101, 108, 101, 116, 101], [100, 101, 115, 99, 114, 105, 98, 101]].getD k.toNat []
def exwS (k : Int) : S8 := [[], [100, 105, 114, 101, 99, 116], [102, 97, 110, 111, 117, 116], [116, 111, 112, 105, 99], [104, 101, 97, 100, 101, 114, 115]].getD k.toNat []
def truS (b : Bool) : S8 := bif b then [121, 101, 115] else [110, 111]
def mayS (s : S8) : S8 := bif strEq s [] then [45] else s
theorem truth_run (b : Bool) : RR none 44 [yes b] [] = some (.ret (str (truS b)), []) := run_of_body ((eq_truth RR LL b).trans (by cases b <;> rfl))
theorem maybe_run (s : S8) : RR none 43 [str s] [] = some (.ret (str (mayS s)), []) := run_of_body ((eq_maybe RR LL s).trans (by unfold mayS; cases strEq s [] <;> rfl))
theorem word_run (k : Int) (h : btw k 1 15 = true) : RR none 40 [num k] [] = some (.ret (str (wordS k)), []) := by
  refine run_of_body ((eq_word RR LL k).trans ?_)
  rcases kinds h with rfl | rfl | rfl | rfl | rfl | rfl | rfl | rfl | rfl | rfl | rfl | rfl | rfl | rfl | rfl <;> rfl
theorem exWord_run (k : Int) (h : btw k 1 4 = true) : RR none 42 [num k] [] = some (.ret (str (exwS k)), []) := by
  refine run_of_body ((eq_exWord RR LL k).trans ?_)
  have := btw_iff.1 h
  rcases (by omega : k = 1 ∨ k = 2 ∨ k = 3 ∨ k = 4) with rfl | rfl | rfl | rfl <;> rfl
/-! ### Lines -/

abbrev joinS (l : List S8) : S8 := Lib.join l [32]
theorem joinTail_le (B : Nat) : ∀ (l : List S8), (∀ x ∈ l, x.length ≤ B) → (Lib.joinTail [32] l).length ≤ l.length * (B + 1) := by
  intro l
  induction l with
  | nil => intro _; simp [Lib.joinTail]
  | cons x l ih =>
    intro h
    have hx := h x (by simp)
    have hl := ih (fun y hy => h y (by simp [hy]))
    have e : Lib.joinTail [32] (x :: l) = [32] ++ x ++ Lib.joinTail [32] l := by simp [Lib.joinTail]
    rw [e, List.length_cons, Nat.add_mul]
    simp only [List.length_append, List.length_singleton]
    omega
theorem join_le (B : Nat) (l : List S8) (h : ∀ x ∈ l, x.length ≤ B) : (joinS l).length ≤ l.length * (B + 1) := by
  cases l with
  | nil => simp [joinS, Lib.join_nil]
  | cons x l =>
    show (Lib.join (x :: l) [32]).length ≤ _
    have hx := h x (by simp)
    have := joinTail_le B l (fun y hy => h y (by simp [hy]))
    rw [Lib.join_cons, List.length_append, List.length_cons, Nat.add_mul]
    omega

end Go.Proofs.YtmocefjnplmibaaGreatDoor
