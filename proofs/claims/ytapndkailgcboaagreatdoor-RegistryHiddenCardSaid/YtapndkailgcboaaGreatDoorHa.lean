/- Whether a name is among options. -/
import Derived.Test.YtapndkailgcboaaGreatDoorHe
import Derived.Test.YtapndkailgcboaaGreatDoorCx
import Derived.Test.YtapndkailgcboaaGreatDoorSp2
namespace Go.Proofs.YtapndkailgcboaaGreatDoor
open Go Go.Den
set_option maxRecDepth 100000

theorem not_f {b : Bool} (h : (!b) = false) : b = true := by cases b <;> first | rfl | cases h
theorem not_t {b : Bool} (h : (!b) = true) : b = false := by cases b <;> first | rfl | cases h

/-! ### has -/

theorem has_loop {l : List E} {n : List UInt8} (hl : l.length ≤ maxLen) :
    LL 91 0 lc_91_2 (((((List.replicate 17 AV.undef).set 1 (.e (.str n))).set 7 (.e (.sl 9 l))).set 8 (.e (.int .i64 l.length))).set 9 (.e (.int .i64 ((0 : Nat) : Int)))) [] =
      some (bif l.all (fun x => !strEq (nmE x) n) then { ex := .exit 0, fr := List.replicate 17 AV.undef, hp := [], df := [] } else { ex := .ret, fr := [AV.undef, AV.undef, AV.undef, AV.undef, yes true] ++ List.replicate 12 AV.undef, hp := [], df := [] }) := by
  refine loop_all (F := fun i => LL 91 0 lc_91_2 (((((List.replicate 17 AV.undef).set 1 (.e (.str n))).set 7 (.e (.sl 9 l))).set 8 (.e (.int .i64 l.length))).set 9 (.e (.int .i64 (i : Int)))) []) ?_ ?_ ?_
  · exact loop_of_body ((eq_hasL RR LL n l l.length l.length).trans (cond_not (end_nat _) rfl))
  · intro i hi hp
    refine loop_of_body ((eq_hasL RR LL n l l.length i).trans (cond_run (lt_nat hi) (cond_run (in_nat hi) (cond_run ?_ rfl))))
    rw [at_nat]
    exact not_f hp
  · intro i hi hp o ho
    refine loop_of_body ((eq_hasL RR LL n l l.length i).trans (cond_run (lt_nat hi) (cond_run (in_nat hi) (cond_not ?_ ?_))))
    · rw [at_nat]; exact not_t hp
    · rw [wrap_nat hi hl]; exact bind_run ho rfl

theorem not_all {α : Type} {p : α → Bool} (l : List α) : l.all (fun x => !p x) = !l.any p := by
  rw [List.all_eq_not_any_not]; simp

theorem has_run {l : List E} {n : List UInt8} (hl : l.length ≤ maxLen) : RR none 91 [.e (.sl 9 l), str n] [] = some (.ret (yes (hasS l n)), []) := by
  have e1 := has_loop (n := n) hl
  rw [not_all] at e1
  refine run_of_body ((eq_has RR LL l n).trans ?_)
  unfold hasS
  cases h : l.any (fun x => strEq (nmE x) n) with
  | true => rw [h] at e1; exact bind_run e1 (cond_not rfl (cond_run rfl (cond_run (by kernel_rfl) rfl)))
  | false => rw [h] at e1; exact bind_run e1 (cond_run rfl (cond_run (by kernel_rfl) rfl))

theorem rhas_loop {l : List E} {n : List UInt8} (hl : l.length ≤ maxLen) :
    LL 68 0 lc_68_2 ((((List.replicate 18 AV.undef).set 0 (.e (.sl 9 l))).set 1 (.e (.str n))).set 5 (.e (.int .i64 ((0 : Nat) : Int)))) [] =
      some (bif l.all (fun x => !strEq (nmE x) n) then { ex := .exit 0, fr := List.replicate 18 AV.undef, hp := [], df := [] } else { ex := .ret, fr := [AV.undef, AV.undef, AV.undef, AV.undef, yes true] ++ List.replicate 13 AV.undef, hp := [], df := [] }) := by
  refine loop_all (F := fun i => LL 68 0 lc_68_2 ((((List.replicate 18 AV.undef).set 0 (.e (.sl 9 l))).set 1 (.e (.str n))).set 5 (.e (.int .i64 (i : Int)))) []) ?_ ?_ ?_
  · exact loop_of_body ((eq_rhasL RR LL l n l.length).trans (cond_not (end_nat _) rfl))
  · intro i hi hp
    refine loop_of_body ((eq_rhasL RR LL l n i).trans (cond_run (lt_nat hi) (cond_run (in_nat hi) (cond_run ?_ rfl))))
    rw [at_nat]
    exact not_f hp
  · intro i hi hp o ho
    refine loop_of_body ((eq_rhasL RR LL l n i).trans (cond_run (lt_nat hi) (cond_run (in_nat hi) (cond_not ?_ ?_))))
    · rw [at_nat]; exact not_t hp
    · rw [wrap_nat hi hl]; exact bind_run ho rfl

theorem rhas_run {l : List E} {n : List UInt8} (hl : l.length ≤ maxLen) : RR none 68 [.e (.sl 9 l), str n] [] = some (.ret (yes (hasS l n)), []) := by
  have e1 := rhas_loop (n := n) hl
  rw [not_all] at e1
  refine run_of_body ((eq_rhas RR LL l n).trans ?_)
  unfold hasS
  cases h : l.any (fun x => strEq (nmE x) n) with
  | true => rw [h] at e1; exact bind_run e1 (cond_not rfl (cond_run rfl (cond_run (by kernel_rfl) rfl)))
  | false => rw [h] at e1; exact bind_run e1 (cond_run rfl (cond_run (by kernel_rfl) rfl))
end Go.Proofs.YtapndkailgcboaaGreatDoor
