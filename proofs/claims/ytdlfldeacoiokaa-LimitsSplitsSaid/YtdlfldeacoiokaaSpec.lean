/- What the functions of the limits come to. -/
import Derived.Test.YtdlfldeacoiokaaEq
namespace Go.Proofs.Ytdlfldeacoiokaa
open Go Go.Den
set_option maxRecDepth 100000

theorem mixed : Try.prog.follows .mixedOrders = true := by kernel_rfl
theorem named : Named Try.prog := by
  have h : (Try.prog.funcs.toList.all fun fn => !(fn.name == "runtime.NumGoroutine")) = true := by kernel_rfl
  intro f fn hf
  have := List.all_eq_true.1 h fn (List.mem_of_getElem? (i := f) (by simpa using hf))
  simpa using this
theorem prims : PrimOk Try.prog HH := fun f g args v h => by cases h

noncomputable abbrev R := run Try.prog HH
noncomputable abbrev L := loop Try.prog HH

theorem ok4 (b : Bool) : okRes Try.prog 4 (.ret (.e (.bool b))) = true := by kernel_rfl
theorem ok3 (n : Int) : okRes Try.prog 3 (.ret (.e (.int .i64 n))) = true := by kernel_rfl
theorem ok25 (n : Int) : okRes Try.prog 25 (.ret (.e (.int .i64 n))) = true := by kernel_rfl

/-- A bucket. -/
abbrev bk (r b l t : Int) : AV := .agg [.e (.int .i64 r), .e (.int .i64 b), .e (.int .i64 l), .e (.int .i64 t)]
abbrev num (n : Int) : AV := .e (.int .i64 n)
abbrev yes (b : Bool) : AV := .e (.bool b)

theorem ok23 (r b l t : Int) : okRes Try.prog 23 (.ret (bk r b l t)) = true := by kernel_rfl

theorem awake_run : R 9 [] [] = some (.ret (yes true), []) := run_of_runK (k := 20) (by kernel_rfl)

def inB (n m : Int) : Bool := bif decide (0 ≤ n) then decide (n ≤ m) else false
theorem count_run (n m : Int) : R 24 [num n, num m] [] = some (.ret (yes (inB n m)), []) := run_of_body (eq_count R L n m)
theorem is_run (n m : Int) : R 25 [num n, num m] [] = some (.ret (yes (inB n m)), []) := run_of_body (eq_is R L n m)

def chk (r b l t : Int) : Int := bif inB r 1099511627776 && inB b 1099511627776 && inB l b && inB t 1099511627776 then 0 else 1
theorem check_run (r b l t : Int) : R 10 [bk r b l t] [] = some (.ret (num (chk r b l t)), []) := by
  refine run_of_body ((eq_check R L r b l t).trans ?_)
  simp only [count_run, Option.bind_some, ok4, List.isEmpty_nil, Bool.and_true, val_bool, chk]
  cases inB r 1099511627776 <;> cases inB b 1099511627776 <;> cases inB l b <;> cases inB t 1099511627776 <;> rfl
theorem rcheck_run (r b l t : Int) : R 11 [bk r b l t] [] = some (.ret (num (chk r b l t)), []) := by
  refine run_of_body ((eq_rcheck R L r b l t).trans ?_)
  simp only [is_run, Option.bind_some, ok4, List.isEmpty_nil, Bool.and_true, val_bool, chk]
  cases inB r 1099511627776 <;> cases inB b 1099511627776 <;> cases inB l b <;> cases inB t 1099511627776 <;> rfl

theorem checks_run (r b l t : Int) : R 3 [bk r b l t] [] = some (.ret (yes true), []) := by
  refine run_of_body ((eq_LChecks R L r b l t).trans ?_)
  simp [awake_run, check_run, rcheck_run, ok4, ok25]

theorem flat23 : flat Try.prog depth 23 = some [3, 3, 3, 3] := by kernel_rfl
theorem under3 : Try.prog.underlying 3 = some (.int .i64) := by kernel_rfl
theorem bucket_inv {es : List E} (h : ParamTy Try.prog 23 es) : ∃ r b l t : Int, es = [.int .i64 r, .int .i64 b, .int .i64 l, .int .i64 t] := by
  have h := h.inv flat23
  obtain ⟨x0, _, rfl, h0, h⟩ := h.cons_inv
  obtain ⟨x1, _, rfl, h1, h⟩ := h.cons_inv
  obtain ⟨x2, _, rfl, h2, h⟩ := h.cons_inv
  obtain ⟨x3, _, rfl, h3, h⟩ := h.cons_inv
  cases h.nil_inv
  obtain ⟨r, rfl, _⟩ := h0.int_inv under3
  obtain ⟨b, rfl, _⟩ := h1.int_inv under3
  obtain ⟨l, rfl, _⟩ := h2.int_inv under3
  obtain ⟨t, rfl, _⟩ := h3.int_inv under3
  exact ⟨r, b, l, t, rfl⟩
theorem flat3 : flat Try.prog depth 3 = some [3] := by kernel_rfl
theorem num_inv {es : List E} (h : ParamTy Try.prog 3 es) : ∃ n : Int, es = [.int .i64 n] ∧ (Lit.int .i64 n).wf = true := by
  have h := h.inv flat3
  obtain ⟨x0, _, rfl, h0, h⟩ := h.cons_inv
  cases h.nil_inv
  obtain ⟨n, rfl, hw⟩ := h0.int_inv under3
  exact ⟨n, rfl, hw⟩

theorem arg23 (r b l t : Int) : argOf Try.prog 23 [.int .i64 r, .int .i64 b, .int .i64 l, .int .i64 t] = bk r b l t := by kernel_rfl
theorem arg3 (n : Int) : argOf Try.prog 3 [.int .i64 n] = num n := by kernel_rfl

theorem checks_law : LawRuns Try.prog HH 3 [23] := by
  refine lawRuns_of fun ess he => ?_
  obtain ⟨es, _, rfl, h0, he⟩ := he.cons_inv
  cases he.nil_inv
  obtain ⟨r, b, l, t, rfl⟩ := bucket_inv h0
  simp only [List.zipWith_cons_cons, List.zipWith_nil_left, arg23]
  exact checks_run r b l t

end Go.Proofs.Ytdlfldeacoiokaa
