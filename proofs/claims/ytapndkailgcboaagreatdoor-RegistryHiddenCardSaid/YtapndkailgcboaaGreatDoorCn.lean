/- Names: the program's and the reference's say alike. -/
import Derived.Test.YtapndkailgcboaaGreatDoorCt
import Derived.Lib.SpaceUEq
namespace Go.Proofs.YtapndkailgcboaaGreatDoor
open Go Go.Den
set_option maxRecDepth 100000
set_option linter.unusedSimpArgs false

def lowB (c : Int) : Bool := bif decide (97 ≤ c) then decide (c ≤ 122) else false
def digB (c : Int) : Bool := bif decide (48 ≤ c) then decide (c ≤ 57) else false
def okB (c : UInt8) : Bool := lowB c.toNat || digB c.toNat || decide ((c.toNat : Int) = 45)
def nameS (s : List UInt8) : Bool := decide (1 ≤ s.length) && decide (s.length ≤ 16) && lowB (s.getD 0 0).toNat && s.all okB

theorem lower_run (c : Int) : RR none 59 [.e (.int .u8 c)] [] = some (.ret (yes (lowB c)), []) := run_of_body (eq_lower RR LL c)
theorem digit_run (c : Int) : RR none 60 [.e (.int .u8 c)] [] = some (.ret (yes (digB c)), []) := run_of_body (eq_digit RR LL c)

theorem dropU {s : List UInt8} {i : Nat} (h : i < s.length) : s.drop i = s.getD i 0 :: s.drop (i + 1) := by
  rw [List.getD_eq_getElem?_getD, List.getElem?_eq_getElem h]; exact List.drop_eq_getElem_cons h

theorem rName_loop {s : List UInt8} (hl : s.length ≤ maxLen) : ∀ (j : Nat) (i : Int), 0 ≤ i → i ≤ s.length → j = s.length - i.toNat →
    LL 32 0 lc_32_4 (((List.replicate 42 AV.undef).set 0 (.e (.str s))).set 3 (.e (.int .i64 i))) [] =
      some (bif (s.drop i.toNat).all okB then { ex := .exit 0, fr := [AV.undef] ++ List.replicate 41 AV.undef, hp := [], df := [] } else { ex := .ret, fr := [AV.undef, AV.undef, yes false] ++ List.replicate 39 AV.undef, hp := [], df := [] }) := by
  intro j
  induction j with
  | zero =>
    intro i h0 h1 h2
    refine loop_of_body ((eq_rNameL RR LL s i).trans ?_)
    rw [List.drop_eq_nil_of_le (by omega)]
    exact cond_not (dec_no (by omega)) rfl
  | succ j ih =>
    intro i h0 h1 h2
    have hi : i.toNat < s.length := by omega
    have e2 := ih (i + 1) (by omega) (by omega) (by omega)
    refine loop_of_body ((eq_rNameL RR LL s i).trans ?_)
    rw [show (i + 1).toNat = i.toNat + 1 by omega] at e2
    rw [dropU hi, List.all_cons]
    generalize s.getD i.toNat 0 = c
    have hw : IntKind.i64.wrap (i + 1) = i + 1 := wrap_in (by omega) (by rw [maxLen_eq] at hl; omega)
    have hin : (decide (0 ≤ i) && decide (i < (s.length : Int))) = true := and_yes (dec_yes h0) (dec_yes (by omega))
    refine cond_run (dec_yes (by omega)) (cond_run hin (bind_run (lower_run _) (cond_run okH (cond_run (okBool _) ?_))))
    rw [hw]
    unfold okB
    cases lowB c.toNat with
    | true => exact cond_not rfl (bind_run e2 rfl)
    | false =>
      refine cond_run rfl (cond_run hin (bind_run (digit_run _) (cond_run okH (cond_run (okBool _) ?_))))
      cases digB c.toNat with
      | true => exact cond_not rfl (bind_run e2 rfl)
      | false =>
        refine cond_run rfl (cond_run hin ?_)
        by_cases hc : (c.toNat : Int) = 45
        · rw [dec_yes hc]
          exact cond_not (by simp [hc]) (bind_run e2 rfl)
        · rw [dec_no hc]
          exact cond_run (by simp [hc]) rfl

theorem rName_run {s : List UInt8} (hl : s.length ≤ maxLen) : RR none 32 [str s] [] = some (.ret (yes (nameS s)), []) := by
  refine run_of_body ((eq_rName RR LL s).trans ?_)
  unfold nameS
  by_cases h1 : 1 ≤ s.length
  · by_cases h2 : s.length ≤ 16
    · rw [dec_yes h1, dec_yes h2]
      refine cond_run (by rw [or2_no (dec_no (by omega)) (dec_no (by omega))]; rfl) (cond_run (dec_yes (by omega)) (bind_run (lower_run _) (cond_run okH (cond_run (okBool _) ?_))))
      cases lowB ((s.getD 0 0).toNat : Int) with
      | false => exact cond_run rfl rfl
      | true =>
        refine cond_not rfl ?_
        have e := rName_loop hl s.length 0 (by omega) (by omega) (by simp)
        rw [show (0 : Int).toNat = 0 from rfl, List.drop_zero] at e
        cases hv : s.all okB with
        | true => rw [hv] at e; exact bind_run e (cond_run rfl (cond_run (by kernel_rfl) rfl))
        | false => rw [hv] at e; exact bind_run e (cond_not rfl (cond_run rfl (cond_run (by kernel_rfl) rfl)))
    · rw [dec_no h2, Bool.and_false]
      exact cond_not (by rw [or2_yes (.inr (dec_yes (by omega)))]; rfl) rfl
  · rw [dec_no h1]
    exact cond_not (by rw [or2_yes (.inl (dec_yes (by omega)))]; rfl) rfl

/-! ### The program's, by runes -/

def tRet : Out := { ex := .ret, fr := [AV.undef, AV.undef, yes false] ++ List.replicate 41 AV.undef, hp := [], df := [] }
def tEnd : Out := { ex := .exit 0, fr := [AV.undef] ++ List.replicate 43 AV.undef, hp := [], df := [] }

end Go.Proofs.YtapndkailgcboaaGreatDoor
