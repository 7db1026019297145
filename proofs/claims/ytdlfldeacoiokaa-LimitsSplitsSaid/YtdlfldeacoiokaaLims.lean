/- The laws of the limits, from what their functions come to. -/
import Derived.Test.YtdlfldeacoiokaaSpec
import Derived.Test.YtdlfldeacoiokaaMath
namespace Go.Proofs.Ytdlfldeacoiokaa
open Go Go.Den
set_option maxRecDepth 100000

theorem ok29 (r b l t : Int) (k : Bool) : okRes Try.prog 29 (.ret (.tup [bk r b l t, yes k])) = true := by kernel_rfl
theorem ok34 (n : Int) (k : Bool) : okRes Try.prog 34 (.ret (.tup [num n, yes k])) = true := by kernel_rfl

section
variable (r b l t n : Int) (k : Bool)
theorem cell0 : ((Res.ret (bk r b l t)).val.data.cell 0).toInt = r := rfl
theorem cell1 : ((Res.ret (bk r b l t)).val.data.cell 1).toInt = b := rfl
theorem cell2 : ((Res.ret (bk r b l t)).val.data.cell 2).toInt = l := rfl
theorem cell3 : ((Res.ret (bk r b l t)).val.data.cell 3).toInt = t := rfl
theorem tup0 : (((Res.ret (.tup [bk r b l t, yes k])).val.comp 0).data.cell 0).toInt = r := rfl
theorem tup1 : (((Res.ret (.tup [bk r b l t, yes k])).val.comp 0).data.cell 1).toInt = b := rfl
theorem tup2 : (((Res.ret (.tup [bk r b l t, yes k])).val.comp 0).data.cell 2).toInt = l := rfl
theorem tup3 : (((Res.ret (.tup [bk r b l t, yes k])).val.comp 0).data.cell 3).toInt = t := rfl
theorem tupk : ((Res.ret (.tup [bk r b l t, yes k])).val.comp 1).data.toBool = k := rfl
theorem two0 : ((Res.ret (.tup [num n, yes k])).val.comp 0).data.toInt = n := rfl
theorem two1 : ((Res.ret (.tup [num n, yes k])).val.comp 1).data.toBool = k := rfl
end

theorem tokensW_run (r b l t now : Int) : R 26 [bk r b l t, num now] [] = some (.ret (num (tkW r b l t now)), []) := by
  refine run_of_body ((eq_tokens R L r b l t now).trans ?_)
  unfold tkW
  by_cases h1 : now ≤ t
  · simp [h1]
  · by_cases h2 : r = 0
    · simp [h2]
    · have h4 : (r == 0) = false := by simpa using h2
      by_cases h3 : IntKind.i64.wrap ((IntKind.i64.wrap (b - l)).tdiv r) < IntKind.i64.wrap (now - t) <;> simp [h1, h2, h3, h4]
theorem rtokensW_run (r b l t now : Int) : R 21 [bk r b l t, num now] [] = some (.ret (num (tkW r b l t now)), []) := by
  refine run_of_body ((eq_rtokens R L r b l t now).trans ?_)
  unfold tkW
  by_cases h1 : now ≤ t
  · simp [h1]
  · by_cases h2 : r = 0
    · simp [h2]
    · have h4 : (r == 0) = false := by simpa using h2
      by_cases h3 : IntKind.i64.wrap ((IntKind.i64.wrap (b - l)).tdiv r) < IntKind.i64.wrap (now - t) <;> simp [h1, h2, h3, h4]

section
variable {r b l t now n : Int} (h : Good r b l t) (h0 : 0 ≤ now) (h1 : now ≤ 1099511627776)

theorem tokens_run (h : Good r b l t) (h0 : 0 ≤ now) (h1 : now ≤ 1099511627776) : R 26 [bk r b l t, num now] [] = some (.ret (num (tk r b l t now)), []) := by
  rw [tokensW_run, tkW_eq h h0 h1]
theorem rtokens_run (h : Good r b l t) (h0 : 0 ≤ now) (h1 : now ≤ 1099511627776) : R 21 [bk r b l t, num now] [] = some (.ret (num (tk r b l t now)), []) := by
  rw [rtokensW_run, tkW_eq h h0 h1]

theorem refill_run (h : Good r b l t) (h0 : 0 ≤ now) (h1 : now ≤ 1099511627776) : R 15 [bk r b l t, num now] [] = some (.ret (bk r b (tk r b l t now) (max t now)), []) := by
  refine run_of_body ((eq_refill R L r b l t now).trans ?_)
  rw [tokens_run h h0 h1]
  simp only [Option.bind_some, ok3, List.isEmpty_nil, Bool.and_true, cond_true, val_int]
theorem rrefill_run (h : Good r b l t) (h0 : 0 ≤ now) (h1 : now ≤ 1099511627776) : R 17 [bk r b l t, num now] [] = some (.ret (bk r b (tk r b l t now) (max t now)), []) := by
  refine run_of_body ((eq_rrefill R L r b l t now).trans ?_)
  rw [rtokens_run h h0 h1]
  simp only [Option.bind_some, ok3, List.isEmpty_nil, Bool.and_true, cond_true, val_int]
  by_cases hh : t < now
  · rw [decide_eq_true hh, cond_true, Int.max_eq_right (by omega)]
  · rw [decide_eq_false hh, cond_false, Int.max_eq_left (by omega)]

/-- Is it taken? -/
def took (r b l t now n : Int) : Bool := !(decide (n < 0) || decide (tk r b l t now < n))
def left (r b l t now n : Int) : Int := bif took r b l t now n then tk r b l t now - n else tk r b l t now

theorem take_of (h : Good r b l t) (g1 : ¬ n < 0) (g2 : ¬ tk r b l t now < n) : IntKind.i64.wrap (tk r b l t now - n) = tk r b l t now - n := by
  have := tk_range (now := now) h
  obtain ⟨a1, a2, a3, a4, a5, a6, a7, a8⟩ := h
  exact wrap_in (by omega) (by omega)

theorem take_run (h : Good r b l t) (h0 : 0 ≤ now) (h1 : now ≤ 1099511627776) : R 13 [bk r b l t, num now, num n] [] = some (.ret (.tup [bk r b (left r b l t now n) (max t now), yes (took r b l t now n)]), []) := by
  refine run_of_body ((eq_take R L r b l t now n).trans ?_)
  rw [refill_run h h0 h1]
  simp only [Option.bind_some, ok23, List.isEmpty_nil, Bool.and_true, cond_true, cell0, cell1, cell2, cell3]
  by_cases c1 : n < 0
  · simp [left, took, c1]
  · by_cases c2 : tk r b l t now < n
    · simp [left, took, c1, c2]
    · simp [left, took, c1, c2, take_of h c1 c2]
theorem rtake_run (h : Good r b l t) (h0 : 0 ≤ now) (h1 : now ≤ 1099511627776) : R 14 [bk r b l t, num now, num n] [] = some (.ret (.tup [bk r b (left r b l t now n) (max t now), yes (took r b l t now n)]), []) := by
  refine run_of_body ((eq_rtake R L r b l t now n).trans ?_)
  rw [rrefill_run h h0 h1]
  simp only [Option.bind_some, ok23, List.isEmpty_nil, Bool.and_true, cond_true, cell0, cell1, cell2, cell3]
  by_cases c1 : n < 0
  · simp [left, took, c1]
  · by_cases c2 : tk r b l t now < n
    · simp [left, took, c1, c2]
    · simp [left, took, c1, c2, take_of h c1 c2]

theorem good_take (h : Good r b l t) (h0 : 0 ≤ now) (h1 : now ≤ 1099511627776) : Good r b (left r b l t now n) (max t now) := by
  have := tk_range (now := now) h
  have hg := good_refill h h0 h1
  unfold left took
  cases g : (decide (n < 0) || decide (tk r b l t now < n)) with
  | true => exact hg
  | false =>
    simp at g
    obtain ⟨a1, a2, a3, a4, a5, a6, a7, a8⟩ := hg
    have := h.l0
    exact ⟨a1, a2, a3, a4, by simp; omega, by simp; omega, a7, a8⟩

/-- The first instant, and whether there is one. -/
def at0 (r b l t now n : Int) : Int := if n ≤ tk r b l t now then now else if b < n ∨ r = 0 then 0 else if 1099511627776 < t + ((n - l - 1) / r + 1) then 0 else t + ((n - l - 1) / r + 1)
def is0 (r b l t now n : Int) : Bool := if n ≤ tk r b l t now then true else if b < n ∨ r = 0 then false else if 1099511627776 < t + ((n - l - 1) / r + 1) then false else true

theorem wait_run (h : Good r b l t) (h0 : 0 ≤ now) (h1 : now ≤ 1099511627776) : R 18 [bk r b l t, num now, num n] [] = some (.ret (.tup [num (at0 r b l t now n), yes (is0 r b l t now n)]), []) := by
  refine run_of_body ((eq_wait R L r b l t now n).trans ?_)
  rw [tokens_run h h0 h1]
  simp only [Option.bind_some, ok3, List.isEmpty_nil, Bool.and_true, cond_true, val_int]
  unfold at0 is0
  have hk := tk_range (now := now) h
  obtain ⟨a1, a2, a3, a4, a5, a6, a7, a8⟩ := h
  by_cases c1 : n ≤ tk r b l t now
  · simp [c1]
  · rw [if_neg c1, if_neg c1]
    by_cases c2 : b < n
    · simp [c1, c2]
    · by_cases c3 : r = 0
      · subst c3; simp [c1]
      · have hr : 0 < r := by omega
        have c3' : (r == 0) = false := by simpa using c3
        have e1 : IntKind.i64.wrap (IntKind.i64.wrap (n - l) - 1) = n - l - 1 := by rw [wrap_in (n := n - l) (by omega) (by omega), wrap_in (by omega) (by omega)]
        have e2 := tdiv_in hr (x := n - l - 1) (by omega) (by omega)
        have e3 := div_nonneg hr (x := n - l - 1) (by omega)
        have e4 := div_le (r := r) (x := n - l - 1) (by omega)
        have e5 : IntKind.i64.wrap (IntKind.i64.wrap (t + (n - l - 1) / r) + 1) = t + ((n - l - 1) / r + 1) := by rw [wrap_in (n := t + (n - l - 1) / r) (by omega) (by omega), wrap_in (by omega) (by omega)]; omega
        rw [e1, e2, e5]
        by_cases c4 : 1099511627776 < t + ((n - l - 1) / r + 1) <;> simp [c1, c2, c3, c3', c4]

theorem rwait_run (h : Good r b l t) (h0 : 0 ≤ now) (h1 : now ≤ 1099511627776) : R 19 [bk r b l t, num now, num n] [] = some (.ret (.tup [num (at0 r b l t now n), yes (is0 r b l t now n)]), []) := by
  refine run_of_body ((eq_rwait R L r b l t now n).trans ?_)
  rw [rtokens_run h h0 h1]
  simp only [Option.bind_some, ok3, List.isEmpty_nil, Bool.and_true, cond_true, val_int]
  unfold at0 is0
  have hk := tk_range (now := now) h
  obtain ⟨a1, a2, a3, a4, a5, a6, a7, a8⟩ := h
  by_cases c1 : n ≤ tk r b l t now
  · simp [c1]
  · rw [if_neg c1, if_neg c1]
    by_cases c2 : b < n
    · simp [c1, c2]
    · by_cases c3 : r = 0
      · subst c3; simp [c1]
      · have hr : 0 < r := by omega
        have c3' : (r == 0) = false := by simpa using c3
        have e1 : IntKind.i64.wrap (n - l) = n - l := wrap_in (by omega) (by omega)
        have e2 := tdiv_in hr (x := n - l) (by omega) (by omega)
        have e3 := div_nonneg hr (x := n - l) (by omega)
        have e4 := div_le (r := r) (x := n - l) (by omega)
        have e5 : (n - l).tmod r = (n - l) % r := Int.tmod_eq_emod_of_nonneg (by omega)
        have e6 : IntKind.i64.wrap (1099511627776 - t) = 1099511627776 - t := wrap_in (by omega) (by omega)
        have e7 := ceil_eq (x := n - l) hr
        rw [e1, e2, e5, e6, e7]
        by_cases c4 : 0 < (n - l) % r
        · rw [if_pos c4]
          have e8 : IntKind.i64.wrap ((n - l) / r + 1) = (n - l) / r + 1 := wrap_in (by omega) (by omega)
          rw [e8]
          by_cases c5 : 1099511627776 < t + ((n - l) / r + 1)
          · simp [c1, c2, c3, c3', c4, c5, show 1099511627776 - t < (n - l) / r + 1 by omega]
          · have e9 : IntKind.i64.wrap (t + ((n - l) / r + 1)) = t + ((n - l) / r + 1) := wrap_in (by omega) (by omega)
            rw [e9]
            simp [c1, c2, c3, c3', c4, c5, show ¬ 1099511627776 - t < (n - l) / r + 1 by omega]
        · rw [if_neg c4]
          by_cases c5 : 1099511627776 < t + (n - l) / r
          · simp [c1, c2, c3, c3', c4, c5, show 1099511627776 - t < (n - l) / r by omega]
          · have e9 : IntKind.i64.wrap (t + (n - l) / r) = t + (n - l) / r := wrap_in (by omega) (by omega)
            rw [e9]
            simp [c1, c2, c3, c3', c4, c5, show ¬ 1099511627776 - t < (n - l) / r by omega]
end

theorem instant_run (n : Int) : R 20 [num n] [] = some (.ret (yes (inB n 1099511627776)), []) := run_of_body (eq_instant R L n)

def vld (r b l t n : Int) : Bool := (chk r b l t == 0) && inB n 1099511627776
theorem valid_run (r b l t n : Int) : R 12 [bk r b l t, num n] [] = some (.ret (yes (vld r b l t n)), []) := by
  refine run_of_body ((eq_valid R L r b l t n).trans ?_)
  rw [rcheck_run, instant_run]
  simp only [Option.bind_some, ok25, ok4, List.isEmpty_nil, Bool.and_true, cond_true, val_int, val_bool, vld]
  cases (chk r b l t == 0) <;> rfl

theorem inB_iff {n m : Int} : inB n m = true ↔ 0 ≤ n ∧ n ≤ m := by
  unfold inB
  by_cases h : 0 ≤ n <;> simp [h]

theorem chk_good {r b l t : Int} : chk r b l t = 0 ↔ Good r b l t := by
  unfold chk
  constructor
  · intro h
    cases hh : (inB r 1099511627776 && inB b 1099511627776 && inB l b && inB t 1099511627776) with
    | false => rw [hh] at h; cases h
    | true =>
      simp only [Bool.and_eq_true, inB_iff] at hh
      obtain ⟨⟨⟨⟨h1, h2⟩, h3, h4⟩, h5, h6⟩, h7, h8⟩ := hh
      exact ⟨h1, h2, h3, h4, h5, h6, h7, h8⟩
  · rintro ⟨a1, a2, a3, a4, a5, a6, a7, a8⟩
    have : (inB r 1099511627776 && inB b 1099511627776 && inB l b && inB t 1099511627776) = true := by
      simp only [Bool.and_eq_true, inB_iff]
      exact ⟨⟨⟨⟨a1, a2⟩, a3, a4⟩, a5, a6⟩, a7, a8⟩
    rw [this]; rfl

theorem vld_good {r b l t n : Int} (h : vld r b l t n = true) : Good r b l t ∧ 0 ≤ n ∧ n ≤ 1099511627776 := by
  unfold vld at h
  rw [Bool.and_eq_true, inB_iff] at h
  exact ⟨chk_good.1 (by simpa using h.1), h.2⟩

theorem same_run (r b l t : Int) : R 16 [bk r b l t, bk r b l t] [] = some (.ret (yes true), []) := by
  refine run_of_body ((eq_same R L r b l t r b l t).trans ?_)
  simp

theorem takes_run (r b l t now n : Int) : R 4 [bk r b l t, num now, num n] [] = some (.ret (yes true), []) := by
  refine run_of_body ((eq_LTakes R L r b l t now n).trans ?_)
  rw [valid_run]
  cases hv : vld r b l t now with
  | false => simp only [Option.bind_some, ok4, List.isEmpty_nil, Bool.and_true, cond_true, val_bool, Bool.not_false, awake_run]
  | true =>
    obtain ⟨h, h0, h1⟩ := vld_good hv
    have g1 := chk_good.2 (good_take (n := n) h h0 h1)
    have g2 := chk_good.2 (good_refill h h0 h1)
    simp only [Option.bind_some, ok4, ok29, ok23, ok25, List.isEmpty_nil, Bool.and_true, cond_true, val_bool, val_int, awake_run, take_run h h0 h1, rtake_run h h0 h1, refill_run h h0 h1, rrefill_run h h0 h1,
      tup0, tup1, tup2, tup3, tupk, cell0, cell1, cell2, cell3, same_run, check_run, g1, g2, beq_self_eq_true, Bool.cond_self]

theorem waits_run (r b l t now n : Int) : R 5 [bk r b l t, num now, num n] [] = some (.ret (yes true), []) := by
  refine run_of_body ((eq_LWaits R L r b l t now n).trans ?_)
  rw [valid_run]
  cases hv : vld r b l t now with
  | false => simp only [Option.bind_some, ok4, List.isEmpty_nil, Bool.and_true, cond_true, val_bool, Bool.not_false, awake_run]
  | true =>
    obtain ⟨h, h0, h1⟩ := vld_good hv
    simp only [Option.bind_some, ok4, ok34, List.isEmpty_nil, Bool.and_true, cond_true, cond_false, val_bool, Bool.not_true, awake_run, wait_run h h0 h1, rwait_run h h0 h1, two0, two1, beq_self_eq_true]

theorem splits_run (r b l t now th : Int) : R 7 [bk r b l t, num now, num th] [] = some (.ret (yes true), []) := by
  refine run_of_body ((eq_LSplits R L r b l t now th).trans ?_)
  rw [valid_run]
  cases hv : vld r b l t now with
  | false => simp only [Option.bind_some, ok4, List.isEmpty_nil, Bool.and_true, cond_true, cond_false, val_bool, Bool.not_false, awake_run]; rfl
  | true =>
    obtain ⟨h, h0, h1⟩ := vld_good hv
    simp only [Option.bind_some, ok4, List.isEmpty_nil, Bool.and_true, cond_true, val_bool, Bool.not_true, beq_self_eq_true, instant_run]
    cases hi : inB th 1099511627776 with
    | false => simp only [awake_run, Option.bind_some, ok4, List.isEmpty_nil, Bool.and_true, cond_true, cond_false, val_bool, Bool.not_false]
    | true =>
      obtain ⟨t0, t1⟩ := inB_iff.1 hi
      by_cases hc : th < now
      · simp only [decide_eq_true hc, awake_run, Option.bind_some, ok4, List.isEmpty_nil, Bool.and_true, cond_true, cond_false, val_bool, Bool.not_true]
      · have hg := good_refill h h0 h1
        have e1 := tk_tk h (show now ≤ th by omega)
        have e2 : max (max t now) th = max t th := by omega
        simp only [decide_eq_false hc, awake_run, Option.bind_some, ok4, ok23, List.isEmpty_nil, Bool.and_true, cond_true, cond_false, val_bool, Bool.not_true, refill_run h h0 h1, refill_run h t0 t1, cell0, cell1, cell2, cell3,
          refill_run hg t0 t1, e1, e2, same_run, beq_self_eq_true]

theorem first_run (r b l t now n th : Int) : R 6 [bk r b l t, num now, num n, num th] [] = some (.ret (yes true), []) := by
  refine run_of_body ((eq_LFirst R L r b l t now n th).trans ?_)
  rw [valid_run]
  cases hv : vld r b l t now with
  | false => simp only [Option.bind_some, ok4, List.isEmpty_nil, Bool.and_true, cond_true, cond_false, val_bool, Bool.not_false, awake_run]; rfl
  | true =>
    obtain ⟨h, h0, h1⟩ := vld_good hv
    simp only [Option.bind_some, ok4, List.isEmpty_nil, Bool.and_true, cond_true, val_bool, Bool.not_true, beq_self_eq_true, instant_run]
    cases hi : inB th 1099511627776 with
    | false => simp only [awake_run, Option.bind_some, ok4, List.isEmpty_nil, Bool.and_true, cond_true, cond_false, val_bool, Bool.not_false]
    | true =>
      obtain ⟨t0, t1⟩ := inB_iff.1 hi
      by_cases hc : th < now
      · simp only [decide_eq_true hc, awake_run, Option.bind_some, ok4, List.isEmpty_nil, Bool.and_true, cond_true, cond_false, val_bool, Bool.not_true]
      · by_cases hn : n < 0
        · simp only [decide_eq_false hc, decide_eq_true hn, awake_run, Option.bind_some, ok4, List.isEmpty_nil, Bool.and_true, cond_true, cond_false, val_bool, Bool.not_true]
        · simp only [decide_eq_false hc, decide_eq_false hn, awake_run, Option.bind_some, ok4, ok34, ok29, List.isEmpty_nil, Bool.and_true, cond_true, cond_false, val_bool, Bool.not_true, wait_run h h0 h1, take_run h t0 t1, two0, two1, tupk]
          have hfirst : is0 r b l t now n = false → at0 r b l t now n = 0 ∧ took r b l t th n = false := by
            intro hf
            have hk := tk_range (now := now) h
            have hk' := tk_range (now := th) h
            unfold is0 at hf
            unfold at0 took
            have hr0 := h.r0
            split at hf
            · cases hf
            · rename_i c1
              rw [if_neg c1]
              split at hf
              · rename_i c2
                rw [if_pos c2]
                refine ⟨rfl, ?_⟩
                have : tk r b l t th < n := by
                  rcases c2 with c2 | c2
                  · omega
                  · have e : ∀ x, tk r b l t x = l := fun x => by unfold tk; rw [if_pos (.inr c2)]
                    rw [e] at *; omega
                simp [this]
              · rename_i c2
                rw [if_neg c2]
                split at hf
                · rename_i c3
                  rw [if_pos c3]
                  refine ⟨rfl, ?_⟩
                  have : tk r b l t th < n := first_gt h (by omega) (by omega) (by omega) (by omega)
                  simp [this]
                · cases hf
          have hsome : is0 r b l t now n = true → now ≤ at0 r b l t now n ∧ at0 r b l t now n ≤ 1099511627776 ∧ n ≤ tk r b l t (at0 r b l t now n) ∧ (at0 r b l t now n ≤ th ∨ tk r b l t th < n) := by
            intro hf
            have hk := tk_range (now := now) h
            unfold is0 at hf
            unfold at0
            have hr0 := h.r0
            split at hf
            · rename_i c1
              rw [if_pos c1]
              exact ⟨by omega, h1, c1, by omega⟩
            · rename_i c1
              rw [if_neg c1]
              split at hf
              · cases hf
              · rename_i c2
                rw [if_neg c2]
                split at hf
                · cases hf
                · rename_i c3
                  rw [if_neg c3]
                  have hr : 0 < r := by omega
                  have hlt : now < t + ((n - l - 1) / r + 1) := by
                    refine Int.lt_of_not_ge fun hge => ?_
                    have := first_le (th := now) h hr (by omega) (by omega) hge
                    omega
                  refine ⟨by omega, by omega, first_le h hr (by omega) (by omega) (Int.le_refl _), ?_⟩
                  by_cases c4 : t + ((n - l - 1) / r + 1) ≤ th
                  · exact .inl c4
                  · exact .inr (first_gt h hr (by omega) (by omega) (by omega))
          cases hw : is0 r b l t now n with
          | false =>
            obtain ⟨e1, e2⟩ := hfirst hw
            simp [e1, e2]
          | true =>
            obtain ⟨e1, e2, e3, e4⟩ := hsome hw
            have e5 : took r b l t (at0 r b l t now n) n = true := by
              unfold took
              simp; omega
            simp only [Bool.not_true, cond_false, take_run h (show 0 ≤ at0 r b l t now n by omega) e2, Option.bind_some, ok29, List.isEmpty_nil, Bool.and_true, cond_true, tupk, e5]
            by_cases c5 : at0 r b l t now n ≤ th
            · simp [c5, e1, e2]
            · have e6 : took r b l t th n = false := by
                unfold took
                simp; omega
              simp [c5, e6, e1, e2]

/-! ### For all data -/

theorem law3 {f : FuncId} (h : ∀ (r b l t m n : Int), R f [bk r b l t, num m, num n] [] = some (.ret (yes true), [])) : LawRuns Try.prog HH f [23, 3, 3] := by
  refine lawRuns_of fun ess he => ?_
  obtain ⟨e0, _, rfl, h0, he⟩ := he.cons_inv
  obtain ⟨e1, _, rfl, h1, he⟩ := he.cons_inv
  obtain ⟨e2, _, rfl, h2, he⟩ := he.cons_inv
  cases he.nil_inv
  obtain ⟨r, b, l, t, rfl⟩ := bucket_inv h0
  obtain ⟨m, rfl, _⟩ := num_inv h1
  obtain ⟨n, rfl, _⟩ := num_inv h2
  simp only [List.zipWith_cons_cons, List.zipWith_nil_left, arg23, arg3]
  exact h r b l t m n
theorem law4 {f : FuncId} (h : ∀ (r b l t m n k : Int), R f [bk r b l t, num m, num n, num k] [] = some (.ret (yes true), [])) : LawRuns Try.prog HH f [23, 3, 3, 3] := by
  refine lawRuns_of fun ess he => ?_
  obtain ⟨e0, _, rfl, h0, he⟩ := he.cons_inv
  obtain ⟨e1, _, rfl, h1, he⟩ := he.cons_inv
  obtain ⟨e2, _, rfl, h2, he⟩ := he.cons_inv
  obtain ⟨e3, _, rfl, h3, he⟩ := he.cons_inv
  cases he.nil_inv
  obtain ⟨r, b, l, t, rfl⟩ := bucket_inv h0
  obtain ⟨m, rfl, _⟩ := num_inv h1
  obtain ⟨n, rfl, _⟩ := num_inv h2
  obtain ⟨k, rfl, _⟩ := num_inv h3
  simp only [List.zipWith_cons_cons, List.zipWith_nil_left, arg23, arg3]
  exact h r b l t m n k

theorem takes_law : LawRuns Try.prog HH 4 [23, 3, 3] := law3 takes_run
theorem waits_law : LawRuns Try.prog HH 5 [23, 3, 3] := law3 waits_run
theorem first_law : LawRuns Try.prog HH 6 [23, 3, 3, 3] := law4 first_run
theorem splits_law : LawRuns Try.prog HH 7 [23, 3, 3] := law3 splits_run

end Go.Proofs.Ytdlfldeacoiokaa
