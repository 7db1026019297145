/- The order of names in a list of options. -/
import Derived.Test.YtapndkailgcboaaGreatDoorCu
namespace Go.Proofs.YtapndkailgcboaaGreatDoor
open Go Go.Den
set_option maxRecDepth 100000

/-- The first error of a list of names, each behind the one ahead of it. -/
def ordS : Bool → List UInt8 → List (List UInt8) → Int
  | _, _, [] => 0
  | f, p, s :: r => bif namedS s p f == 0 then ordS false s r else namedS s p f
theorem namedS_first (s b c : List UInt8) : namedS s b true = namedS s c true := by
  unfold namedS; cases nameS s <;> rfl
theorem ordS_first (b c : List UInt8) : (r : List (List UInt8)) → ordS true b r = ordS true c r
  | [] => rfl
  | s :: r => by simp only [ordS, namedS_first s b c]
def outO (w n : Nat) (e : Int) : Out := bif e == 0 then { ex := .exit w, fr := AV.undef :: List.replicate (n + 2) AV.undef, hp := [], df := [] }
  else { ex := .ret, fr := [AV.undef, AV.undef, num e] ++ List.replicate n AV.undef, hp := [], df := [] }

theorem options6 {os : List E} (hl : os.length ≤ maxLen) (hs : ∀ x ∈ os, (nmE x).length ≤ maxLen) :
    ∀ (j : Nat) (i : Int), 0 ≤ i → i ≤ os.length → j = os.length - i.toNat →
      LL 65 0 lc_65_6 (((List.replicate 36 AV.undef).set 0 (.e (.sl 9 os))).set 3 (.e (.int .i64 i))) [] =
      some (outO 0 33 (ordS (i == 0) (nmE (os.getD (max 0 (i - 1)).toNat E.nili)) ((os.drop i.toNat).map nmE))) := by
  intro j
  induction j with
  | zero =>
    intro i h0 h1 h2
    refine loop_of_body ((eq_optionsL RR LL os i).trans ?_)
    rw [List.drop_eq_nil_of_le (by omega)]
    exact cond_not (dec_no (by omega)) rfl
  | succ j ih =>
    intro i h0 h1 h2
    have hi : i.toNat < os.length := by omega
    have e2 := ih (i + 1) (by omega) (by omega) (by omega)
    refine loop_of_body ((eq_optionsL RR LL os i).trans ?_)
    rw [show (i + 1).toNat = i.toNat + 1 by omega, beq_false_of_ne (show i + 1 ≠ 0 by omega), show (max 0 (i + 1 - 1)).toNat = i.toNat by omega] at e2
    rw [drop_getD hi, List.map_cons]
    have hx := hs _ (getD_mem hi)
    rw [maxLen_eq] at hl
    refine cond_run (dec_yes (by omega)) (cond_run (and_yes (dec_yes h0) (dec_yes (by omega))) (bind_run (rName_run hx) (cond_run okH (cond_run (okBool _) ?_))))
    change (bif !(nameS (nmE (os.getD i.toNat E.nili))) then _ else _) = _
    unfold ordS namedS
    cases nameS (nmE (os.getD i.toNat E.nili)) with
    | false => exact cond_run rfl rfl
    | true =>
      refine cond_not rfl ?_
      by_cases hz : i = 0
      · subst hz
        refine cond_not rfl ?_
        rw [wrap_in (n := 0 + 1) (by omega) (by omega)]
        exact bind_run e2 rfl
      · rw [dec_yes (show 0 < i by omega), beq_false_of_ne hz, show (max 0 (i - 1)) = i - 1 by omega]
        rw [wrap_in (n := i - 1) (by omega) (by omega)]
        refine cond_run rfl (cond_run (and_yes (dec_yes h0) (dec_yes (by omega))) (cond_run (and_yes (dec_yes (by omega)) (dec_yes (by omega))) ?_))
        change (bif notAfter (nmE (os.getD i.toNat E.nili)) (nmE (os.getD (i - 1).toNat E.nili)) then _ else _) = _
        cases notAfter (nmE (os.getD i.toNat E.nili)) (nmE (os.getD (i - 1).toNat E.nili)) with
        | true => exact cond_run rfl rfl
        | false =>
          refine cond_not rfl ?_
          rw [wrap_in (n := i + 1) (by omega) (by omega)]
          exact bind_run e2 rfl

end Go.Proofs.YtapndkailgcboaaGreatDoor
