/- What the functions of the limits come to. -/
import Derived.Test.YtdlfldeacoiokaaBEq
import Derived.Test.YtdlfldeacoiokaaMath
namespace Go.Proofs.Ytdlfldeacoiokaa
open Go Go.Den
set_option maxRecDepth 100000

theorem mixed : Try.prog.follows .mixedOrders = true := by kernel_rfl
theorem named : Named Try.prog := by
  have h : (Try.prog.funcs.toList.all fun fn => !(fn.name == "runtime.NumGoroutine")) = true := by kernel_rfl
  intro f fn hf
  have := List.all_eq_true.1 h fn (List.mem_of_getElem? (i := f) (by simpa using hf))
  simpa using this
theorem prims : PrimOk Try.prog HH := fun md f g args σ r σ' h => by cases h

noncomputable abbrev RR := run Try.prog HH
noncomputable abbrev L := loop Try.prog HH

theorem okH : okHeap [] [] = true := rfl
theorem ok4 (b : Bool) : okRes Try.prog 4 (.ret (.e (.bool b))) = true := by kernel_rfl
theorem ok3 (n : Int) : okRes Try.prog 3 (.ret (.e (.int .i64 n))) = true := by kernel_rfl
theorem ok25 (n : Int) : okRes Try.prog 25 (.ret (.e (.int .i64 n))) = true := by kernel_rfl

/-- A bucket. -/
abbrev bk (r b l t : Int) : AV := .agg [.e (.int .i64 r), .e (.int .i64 b), .e (.int .i64 l), .e (.int .i64 t)]
abbrev num (n : Int) : AV := .e (.int .i64 n)
abbrev yes (b : Bool) : AV := .e (.bool b)

theorem ok23 (r b l t : Int) : okRes Try.prog 23 (.ret (bk r b l t)) = true := by kernel_rfl

theorem awake_run : RR none 9 [] [] = some (.ret (yes true), []) := run_of_runK (k := 20) (by kernel_rfl)

def inB (n m : Int) : Bool := bif decide (0 ≤ n) then decide (n ≤ m) else false
theorem count_run (n m : Int) : RR none 24 [num n, num m] [] = some (.ret (yes (inB n m)), []) := run_of_body (eq_count RR L n m)
theorem is_run (n m : Int) : RR none 25 [num n, num m] [] = some (.ret (yes (inB n m)), []) := run_of_body (eq_is RR L n m)

def chk (r b l t : Int) : Int := bif inB r 1099511627776 && inB b 1099511627776 && inB l b && inB t 1099511627776 then 0 else 1
theorem check_run (r b l t : Int) : RR none 10 [bk r b l t] [] = some (.ret (num (chk r b l t)), []) := by
  refine run_of_body ((eq_check RR L r b l t).trans ?_)
  simp only [count_run, Option.bind_some, ok4, okH, val_bool, chk]
  cases inB r 1099511627776 <;> cases inB b 1099511627776 <;> cases inB l b <;> cases inB t 1099511627776 <;> rfl
theorem rcheck_run (r b l t : Int) : RR none 11 [bk r b l t] [] = some (.ret (num (chk r b l t)), []) := by
  refine run_of_body ((eq_rcheck RR L r b l t).trans ?_)
  simp only [is_run, Option.bind_some, ok4, okH, val_bool, chk]
  cases inB r 1099511627776 <;> cases inB b 1099511627776 <;> cases inB l b <;> cases inB t 1099511627776 <;> rfl

theorem flat23 : flat Try.prog depth 23 = some [3, 3, 3, 3] := by kernel_rfl
theorem under3 : Try.prog.underlying 3 = some (.int .i64) := by kernel_rfl
theorem bucket_inv {es : List E} (h : ParamTy Try.prog 23 es) : ∃ r b l t : Int, es = [.int .i64 r, .int .i64 b, .int .i64 l, .int .i64 t] := by
  have h := h.inv flat23
  obtain ⟨x0, _, rfl, h0, h⟩ := h.cons_inv
  obtain ⟨x1, _, rfl, h1, h⟩ := h.cons_inv
  obtain ⟨x2, _, rfl, h2, h⟩ := h.cons_inv
  obtain ⟨x3, _, rfl, h3, h⟩ := h.cons_inv
  cases h.nil_inv
  obtain ⟨r, rfl, _⟩ := h0.int_inv under3
  obtain ⟨b, rfl, _⟩ := h1.int_inv under3
  obtain ⟨l, rfl, _⟩ := h2.int_inv under3
  obtain ⟨t, rfl, _⟩ := h3.int_inv under3
  exact ⟨r, b, l, t, rfl⟩
theorem flat3 : flat Try.prog depth 3 = some [3] := by kernel_rfl
theorem num_inv {es : List E} (h : ParamTy Try.prog 3 es) : ∃ n : Int, es = [.int .i64 n] ∧ (Lit.int .i64 n).wf = true := by
  have h := h.inv flat3
  obtain ⟨x0, _, rfl, h0, h⟩ := h.cons_inv
  cases h.nil_inv
  obtain ⟨n, rfl, hw⟩ := h0.int_inv under3
  exact ⟨n, rfl, hw⟩

theorem arg23 (r b l t : Int) : argOf Try.prog 23 [.int .i64 r, .int .i64 b, .int .i64 l, .int .i64 t] = bk r b l t := by kernel_rfl
theorem arg3 (n : Int) : argOf Try.prog 3 [.int .i64 n] = num n := by kernel_rfl

theorem ok29 (r b l t : Int) (k : Bool) : okRes Try.prog 29 (.ret (.tup [bk r b l t, yes k])) = true := by kernel_rfl
theorem ok34 (n : Int) (k : Bool) : okRes Try.prog 34 (.ret (.tup [num n, yes k])) = true := by kernel_rfl

section
variable (r b l t n : Int) (k : Bool)
theorem cell0 : ((Res.ret (bk r b l t)).val.data.cell 0).toInt = r := rfl
theorem cell1 : ((Res.ret (bk r b l t)).val.data.cell 1).toInt = b := rfl
theorem cell2 : ((Res.ret (bk r b l t)).val.data.cell 2).toInt = l := rfl
theorem cell3 : ((Res.ret (bk r b l t)).val.data.cell 3).toInt = t := rfl
theorem tup0 : (((Res.ret (.tup [bk r b l t, yes k])).val.comp 0).data.cell 0).toInt = r := rfl
theorem tup1 : (((Res.ret (.tup [bk r b l t, yes k])).val.comp 0).data.cell 1).toInt = b := rfl
theorem tup2 : (((Res.ret (.tup [bk r b l t, yes k])).val.comp 0).data.cell 2).toInt = l := rfl
theorem tup3 : (((Res.ret (.tup [bk r b l t, yes k])).val.comp 0).data.cell 3).toInt = t := rfl
theorem tupk : ((Res.ret (.tup [bk r b l t, yes k])).val.comp 1).data.toBool = k := rfl
theorem two0 : ((Res.ret (.tup [num n, yes k])).val.comp 0).data.toInt = n := rfl
theorem two1 : ((Res.ret (.tup [num n, yes k])).val.comp 1).data.toBool = k := rfl
end

theorem tokensW_run (r b l t now : Int) : RR none 26 [bk r b l t, num now] [] = some (.ret (num (tkW r b l t now)), []) := by
  refine run_of_body ((eq_tokens RR L r b l t now).trans ?_)
  unfold tkW
  by_cases h1 : now ≤ t
  · simp [h1]
  · by_cases h2 : r = 0
    · simp [h2]
    · have h4 : (r == 0) = false := by simpa using h2
      by_cases h3 : IntKind.i64.wrap ((IntKind.i64.wrap (b - l)).tdiv r) < IntKind.i64.wrap (now - t) <;> simp [h1, h2, h3, h4]
theorem rtokensW_run (r b l t now : Int) : RR none 21 [bk r b l t, num now] [] = some (.ret (num (tkW r b l t now)), []) := by
  refine run_of_body ((eq_rtokens RR L r b l t now).trans ?_)
  unfold tkW
  by_cases h1 : now ≤ t
  · simp [h1]
  · by_cases h2 : r = 0
    · simp [h2]
    · have h4 : (r == 0) = false := by simpa using h2
      by_cases h3 : IntKind.i64.wrap ((IntKind.i64.wrap (b - l)).tdiv r) < IntKind.i64.wrap (now - t) <;> simp [h1, h2, h3, h4]

section
variable {r b l t now n : Int} (h : Good r b l t) (h0 : 0 ≤ now) (h1 : now ≤ 1099511627776)

theorem tokens_run (h : Good r b l t) (h0 : 0 ≤ now) (h1 : now ≤ 1099511627776) : RR none 26 [bk r b l t, num now] [] = some (.ret (num (tk r b l t now)), []) := by
  rw [tokensW_run, tkW_eq h h0 h1]
theorem rtokens_run (h : Good r b l t) (h0 : 0 ≤ now) (h1 : now ≤ 1099511627776) : RR none 21 [bk r b l t, num now] [] = some (.ret (num (tk r b l t now)), []) := by
  rw [rtokensW_run, tkW_eq h h0 h1]

theorem refill_run (h : Good r b l t) (h0 : 0 ≤ now) (h1 : now ≤ 1099511627776) : RR none 15 [bk r b l t, num now] [] = some (.ret (bk r b (tk r b l t now) (max t now)), []) := by
  refine run_of_body ((eq_refill RR L r b l t now).trans ?_)
  rw [tokens_run h h0 h1]
  simp only [Option.bind_some, ok3, okH, cond_true, val_int]
/-- Is it taken? -/
def took (r b l t now n : Int) : Bool := !(decide (n < 0) || decide (tk r b l t now < n))
def left (r b l t now n : Int) : Int := bif took r b l t now n then tk r b l t now - n else tk r b l t now

theorem take_of (h : Good r b l t) (g1 : ¬ n < 0) (g2 : ¬ tk r b l t now < n) : IntKind.i64.wrap (tk r b l t now - n) = tk r b l t now - n := by
  have := tk_range (now := now) h
  obtain ⟨a1, a2, a3, a4, a5, a6, a7, a8⟩ := h
  exact wrap_in (by omega) (by omega)

theorem take_run (h : Good r b l t) (h0 : 0 ≤ now) (h1 : now ≤ 1099511627776) : RR none 13 [bk r b l t, num now, num n] [] = some (.ret (.tup [bk r b (left r b l t now n) (max t now), yes (took r b l t now n)]), []) := by
  refine run_of_body ((eq_take RR L r b l t now n).trans ?_)
  rw [refill_run h h0 h1]
  simp only [Option.bind_some, ok23, okH, cond_true, cell0, cell1, cell2, cell3]
  by_cases c1 : n < 0
  · simp [left, took, c1]
  · by_cases c2 : tk r b l t now < n
    · simp [left, took, c1, c2]
    · simp [left, took, c1, c2, take_of h c1 c2]
theorem good_take (h : Good r b l t) (h0 : 0 ≤ now) (h1 : now ≤ 1099511627776) : Good r b (left r b l t now n) (max t now) := by
  have := tk_range (now := now) h
  have hg := good_refill h h0 h1
  unfold left took
  cases g : (decide (n < 0) || decide (tk r b l t now < n)) with
  | true => exact hg
  | false =>
    simp at g
    obtain ⟨a1, a2, a3, a4, a5, a6, a7, a8⟩ := hg
    have := h.l0
    exact ⟨a1, a2, a3, a4, by simp; omega, by simp; omega, a7, a8⟩

end

theorem instant_run (n : Int) : RR none 20 [num n] [] = some (.ret (yes (inB n 1099511627776)), []) := run_of_body (eq_instant RR L n)

def vld (r b l t n : Int) : Bool := (chk r b l t == 0) && inB n 1099511627776
theorem valid_run (r b l t n : Int) : RR none 12 [bk r b l t, num n] [] = some (.ret (yes (vld r b l t n)), []) := by
  refine run_of_body ((eq_valid RR L r b l t n).trans ?_)
  rw [rcheck_run, instant_run]
  simp only [Option.bind_some, ok25, ok4, okH, cond_true, val_int, val_bool, vld]
  cases (chk r b l t == 0) <;> rfl

theorem inB_iff {n m : Int} : inB n m = true ↔ 0 ≤ n ∧ n ≤ m := by
  unfold inB
  by_cases h : 0 ≤ n <;> simp [h]

theorem chk_good {r b l t : Int} : chk r b l t = 0 ↔ Good r b l t := by
  unfold chk
  constructor
  · intro h
    cases hh : (inB r 1099511627776 && inB b 1099511627776 && inB l b && inB t 1099511627776) with
    | false => rw [hh] at h; cases h
    | true =>
      simp only [Bool.and_eq_true, inB_iff] at hh
      obtain ⟨⟨⟨⟨h1, h2⟩, h3, h4⟩, h5, h6⟩, h7, h8⟩ := hh
      exact ⟨h1, h2, h3, h4, h5, h6, h7, h8⟩
  · rintro ⟨a1, a2, a3, a4, a5, a6, a7, a8⟩
    have : (inB r 1099511627776 && inB b 1099511627776 && inB l b && inB t 1099511627776) = true := by
      simp only [Bool.and_eq_true, inB_iff]
      exact ⟨⟨⟨⟨a1, a2⟩, a3, a4⟩, a5, a6⟩, a7, a8⟩
    rw [this]; rfl

theorem vld_good {r b l t n : Int} (h : vld r b l t n = true) : Good r b l t ∧ 0 ≤ n ∧ n ≤ 1099511627776 := by
  unfold vld at h
  rw [Bool.and_eq_true, inB_iff] at h
  exact ⟨chk_good.1 (by simpa using h.1), h.2⟩

end Go.Proofs.Ytdlfldeacoiokaa
