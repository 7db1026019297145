/- The reference's comparison of values: a value is the same as itself. -/
import Derived.Test.YtghdhhmlmdohkaaGreatDoorVe
import Derived.Test.YtghdhhmlmdohkaaGreatDoorVc
namespace Go.Proofs.YtghdhhmlmdohkaaGreatDoor
open Go Go.Den
set_option maxRecDepth 100000

theorem strEq_self (x : List UInt8) : strEq x x = true := by simp [strEq]

theorem same_loop {ns : List E} (hl : ns.length ≤ maxLen) : ∀ (j i : Nat), i + j = ns.length →
    LL 49 0 lc_49_4 ((((List.replicate 26 AV.undef).set 0 (.e (.sl 9 ns))).set 1 (.e (.sl 9 ns))).set 5 (.e (.int .i64 (i : Int)))) [] = some { ex := .exit 0, fr := List.replicate 26 AV.undef, hp := [], df := [] } := by
  intro j
  induction j with
  | zero =>
    intro i h
    have : i = ns.length := by omega
    subst this
    exact loop_of_body ((eq_SameL4 RR LL ns ns ns.length).trans (cond_not (end_nat _) rfl))
  | succ j ih =>
    intro i h
    have hi : i < ns.length := by omega
    refine loop_of_body ((eq_SameL4 RR LL ns ns i).trans (cond_run (lt_nat hi) (cond_run (in_nat hi) (cond_run (in_nat hi) (cond_not ?_ ?_)))))
    · rw [strEq_self]; rfl
    · rw [wrap_nat hi hl]
      exact bind_run (ih (i + 1) (by omega)) rfl
theorem same_run {ns : List E} (hl : ns.length ≤ maxLen) : RR none 49 [.e (.sl 9 ns), .e (.sl 9 ns)] [] = some (.ret (yes true), []) := by
  have e := same_loop hl ns.length 0 (by omega)
  exact run_of_body ((eq_Same RR LL ns ns).trans (cond_not (by simp) (bind_run e (cond_run rfl (cond_run rfl rfl)))))

end Go.Proofs.YtghdhhmlmdohkaaGreatDoor
