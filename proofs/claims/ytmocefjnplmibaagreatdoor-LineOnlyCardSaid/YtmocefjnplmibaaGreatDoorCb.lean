/- Topics of the reference; keys; properties. -/
import Derived.Test.YtmocefjnplmibaaGreatDoorCa
namespace Go.Proofs.YtmocefjnplmibaaGreatDoor
open Go Go.Den
set_option maxRecDepth 100000

/-! ### Has -/

def hsX : Out := { ex := .exit 0, fr := List.replicate 17 AV.undef, hp := [], df := [] }
def hsR : Out := { ex := .ret, fr := [AV.undef, AV.undef, AV.undef, AV.undef, yes true] ++ List.replicate 12 AV.undef, hp := [], df := [] }
/-! ### Levels -/

abbrev lvF (s : S8) (a : List E) (f i : Int) : Fr := ((((List.replicate 31 AV.undef).set 0 (.e (.str s))).set 3 (.own 0 9 a)).set 4 (.e (.int .i64 f))).set 5 (.e (.int .i64 i))
def lvX (s : S8) (a : List E) (f : Int) : Out := { ex := .exit 0, fr := [str s, AV.undef, AV.undef, .own 0 9 a, num f] ++ List.replicate 26 AV.undef, hp := [.vec 9 a.length], df := [] }
/-! ### Optional names, keys, numbers -/

theorem opt_run (s : S8) : RR none 76 [str s] [] = some (.ret (yes (optS s)), []) := by
  refine run_of_body ((eq_optional RR LL s).trans ?_)
  unfold optS
  cases strEq s [] with
  | false => exact cond_run rfl (bind_run (Name_run s) (cond_run rfl (cond_run (okB _) rfl)))
  | true => rfl
theorem is_run (a l h : Int) : RR none 32 [num a, num l, num h] [] = some (.ret (yes (btw a l h)), []) := run_of_body (eq_isB RR LL a l h)
theorem mis_run (a h : Int) : RR none 110 [num a, num h] [] = some (.ret (yes (rng a h)), []) := run_of_body (eq_mis RR LL a h)
theorem ib_has (s : S8) (c : UInt8) : decide (0 ≤ Lib.indexByte s c) = hasB c s := by
  unfold hasB
  induction s with
  | nil => rfl
  | cons b s ih =>
    rw [List.all_cons]
    unfold Lib.indexByte
    by_cases h : b = c
    · rw [if_pos (by simpa using h), dec_yes h]; rfl
    · rw [if_neg (by simpa using h), dec_no h]
      have hg := ib_ge s c
      show _ = !(!false && s.all _)
      rw [Bool.not_false, Bool.true_and, ← ih]
      by_cases k : Lib.indexByte s c = -1
      · rw [k]; rfl
      · rw [if_neg (by simpa using k), dec_yes (by omega), dec_yes (by omega)]
theorem key_run (s : S8) : RR none 74 [str s] [] = some (.ret (num (keyE s)), []) := by
  refine run_of_body ((eq_key RR LL s).trans ?_)
  unfold keyE
  cases decide (64 < (s.length : Int)) with
  | true => rfl
  | false =>
    rw [show Nat.toUInt8 0 = 0 from rfl, ib_has]
    cases hasB 0 s <;> rfl
/-! ### Properties -/

def mpX : Out := { ex := .exit 0, fr := List.replicate 40 AV.undef, hp := [], df := [] }
def mpR (n : Int) : Out := { ex := .ret, fr := [AV.undef, AV.undef, num n] ++ List.replicate 37 AV.undef, hp := [], df := [] }
theorem mprops_loop (l : List E) (hl : l.length ≤ 1000) : LL 75 0 lc_75_4 (((((List.replicate 40 AV.undef).set 0 (.e (.sl 97 l))).set 8 (.e (.sl 97 l))).set 9 (.e (.int .i64 (l.length : Int)))).set 10 (.e (.int .i64 0))) [] =
    some ((firstFrom (fun i => (propE l i).map mpR) l.length 0).getD mpX) := by
  refine scan_first (G := fun i => LL 75 0 lc_75_4 (((((List.replicate 40 AV.undef).set 0 (.e (.sl 97 l))).set 8 (.e (.sl 97 l))).set 9 (.e (.int .i64 (l.length : Int)))).set 10 (.e (.int .i64 (i : Int)))) []) ?_ ?_
  · intro i hi r h
    have body := eq_MPropsL4 RR LL l l l.length i
    rw [nat_at, nat_wrap hi (by rw [maxLen_eq]; omega)] at body
    refine loop_of_body (body.trans (cond_run (nat_lt hi) (cond_run (nat_in hi) (bind_run (mkey_run _) (cond_run rfl (cond_run (okB _) ?_))))))
    rw [valB]
    change (match (Option.map mpR (bif !keyS (pK (l.getD i .nili)) then _ else _)) with | some o => some o | none => _) = some r at h
    change (bif !keyS (pK (l.getD i .nili)) then _ else _) = _
    revert h
    cases keyS (pK (l.getD i .nili)) with
    | false => intro h; exact h
    | true =>
      intro h
      change (bif decide (160 < ((pV (l.getD i .nili)).length : Int)) then _ else _) = _
      change (match (Option.map mpR (bif decide (160 < ((pV (l.getD i .nili)).length : Int)) then _ else _)) with | some o => some o | none => _) = some r at h
      revert h
      cases decide (160 < ((pV (l.getD i .nili)).length : Int)) with
      | true => intro h; exact h
      | false =>
        intro h
        by_cases h0 : 0 < i
        · have d0 : decide ((0 : Int) < (i : Int)) = true := dec_yes (by omega)
          rw [d0] at h ⊢
          rw [wrap_in (n := (i : Int) - 1) (by omega) (by omega), show (i : Int) - 1 = ((i - 1 : Nat) : Int) by omega, nat_at]
          refine cond_not rfl (cond_run rfl (cond_run (by rw [dec_yes (by omega), dec_yes (by omega)]; rfl) ?_))
          change (match (Option.map mpR (bif (Op.bytesLess (pK (l.getD i .nili)) (pK (l.getD (i - 1) .nili)) || strEq (pK (l.getD i .nili)) (pK (l.getD (i - 1) .nili))) then _ else _)) with | some o => some o | none => _) = some r at h
          change (bif Op.bytesLess (pK (l.getD i .nili)) (pK (l.getD (i - 1) .nili)) || strEq (pK (l.getD i .nili)) (pK (l.getD (i - 1) .nili)) then _ else _) = _
          revert h
          cases (Op.bytesLess (pK (l.getD i .nili)) (pK (l.getD (i - 1) .nili)) || strEq (pK (l.getD i .nili)) (pK (l.getD (i - 1) .nili))) with
          | true => intro h; exact h
          | false => intro h; exact bind_run h rfl
        · have d0 : decide ((0 : Int) < (i : Int)) = false := dec_no (by omega)
          rw [d0] at h ⊢
          exact cond_not rfl (cond_not rfl (bind_run h rfl))
  · exact loop_of_body ((eq_MPropsL4 RR LL l l l.length l.length).trans (cond_not (nat_end _) rfl))
theorem MProps_run (l : List E) : RR none 75 [.e (.sl 97 l)] [] = some (.ret (num (propsE l)), []) := by
  refine run_of_body ((eq_MProps RR LL l).trans ?_)
  unfold propsE
  cases h : decide (8 < (l.length : Int)) with
  | true => rfl
  | false =>
    have := of_decide_eq_false h
    refine cond_not rfl (bind_run (mprops_loop l (by omega)) ?_)
    rw [firstFrom_map]
    cases firstFrom (propE l) l.length 0 <;> rfl

def rpX : Out := { ex := .exit 0, fr := List.replicate 43 AV.undef, hp := [], df := [] }
def rpR (n : Int) : Out := { ex := .ret, fr := [AV.undef, AV.undef, num n] ++ List.replicate 40 AV.undef, hp := [], df := [] }
end Go.Proofs.YtmocefjnplmibaaGreatDoor
