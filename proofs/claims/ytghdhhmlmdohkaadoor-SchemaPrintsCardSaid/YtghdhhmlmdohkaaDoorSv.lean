/- The reference's comparison of values: a value is the same as itself. -/
import Derived.Test.YtghdhhmlmdohkaaDoorVe
import Derived.Test.YtghdhhmlmdohkaaDoorVa
namespace Go.Proofs.YtghdhhmlmdohkaaDoor
open Go Go.Den
set_option maxRecDepth 100000

theorem strEq_self (x : List UInt8) : strEq x x = true := by simp [strEq]

theorem same_loop {ns : List E} (hl : ns.length ≤ maxLen) : ∀ (j i : Nat), i + j = ns.length →
    LL 43 0 lc_43_4 ((((List.replicate 26 AV.undef).set 0 (.e (.sl 9 ns))).set 1 (.e (.sl 9 ns))).set 5 (.e (.int .i64 (i : Int)))) [] = some { ex := .exit 0, fr := List.replicate 26 AV.undef, hp := [], df := [] } := by
  intro j
  induction j with
  | zero =>
    intro i h
    have : i = ns.length := by omega
    subst this
    exact loop_of_body ((eq_SameL4 RR LL ns ns ns.length).trans (cond_not (end_nat _) rfl))
  | succ j ih =>
    intro i h
    have hi : i < ns.length := by omega
    refine loop_of_body ((eq_SameL4 RR LL ns ns i).trans (cond_run (lt_nat hi) (cond_run (in_nat hi) (cond_run (in_nat hi) (cond_not ?_ ?_)))))
    · rw [strEq_self]; rfl
    · rw [wrap_nat hi hl]
      exact bind_run (ih (i + 1) (by omega)) rfl
theorem same_run {ns : List E} (hl : ns.length ≤ maxLen) : RR none 43 [.e (.sl 9 ns), .e (.sl 9 ns)] [] = some (.ret (yes true), []) := by
  have e := same_loop hl ns.length 0 (by omega)
  exact run_of_body ((eq_Same RR LL ns ns).trans (cond_not (by simp) (bind_run e (cond_run rfl (cond_run rfl rfl)))))

theorem sameV_loop {k n : Int} {x : List UInt8} {ns vs : List E} (hl : vs.length ≤ maxLen) (hr : ∀ v ∈ vs, RR none 24 [slotsV v, slotsV v] [] = some (.ret (yes true), [])) : ∀ (j i : Nat), i + j = vs.length →
    LL 24 0 lc_24_4 ((((List.replicate 61 AV.undef).set 2 (.ptr 0 0)).set 3 (.ptr 1 0)).set 5 (.e (.int .i64 (i : Int)))) [vlC k n x ns vs, vlC k n x ns vs] = some { ex := .exit 0, fr := List.replicate 61 AV.undef, hp := [], df := [] } := by
  intro j
  induction j with
  | zero =>
    intro i h
    have : i = vs.length := by omega
    subst this
    exact loop_of_body ((eq_SameValueL4 RR LL vs.length k n x ns vs k n x ns vs).trans (cond_not (end_nat _) rfl))
  | succ j ih =>
    intro i h
    have hi : i < vs.length := by omega
    have e := hr _ (getD_mem hi)
    refine loop_of_body ((eq_SameValueL4 RR LL i k n x ns vs k n x ns vs).trans (cond_run (lt_nat hi) (cond_run (in_nat hi) (cond_run (in_nat hi) ?_))))
    rw [at_nat, wrap_nat hi hl]
    exact callB e (cond_not rfl (bind_run (ih (i + 1) (by omega)) rfl))

theorem SameValue_run {v : E} (h : Val v) : RR none 24 [slotsOf v, slotsOf v] [] = some (.ret (yes true), []) := by
  induction h with
  | mk k n x ns vs hx hn hnl hv hvl hk hnum ih =>
    have e := sameV_loop (k := k) (n := n) (x := x) (ns := ns) hvl (fun v hm => by rw [slotsV_eq (hv v hm)]; exact ih v hm) vs.length 0 (by omega)
    refine run_of_body ((eq_SameValue RR LL k n x ns vs k n x ns vs).trans (cond_run ?_ (callB (same_run hnl) (cond_not ?_ (bind_run e (cond_run rfl (cond_run (by kernel_rfl) rfl)))))))
    · rw [strEq_self]; simp
    · simp
end Go.Proofs.YtghdhhmlmdohkaaDoor
