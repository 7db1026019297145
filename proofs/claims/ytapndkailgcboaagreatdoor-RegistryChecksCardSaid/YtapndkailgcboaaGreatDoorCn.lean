/- Names: the program's and the reference's say alike. -/
import Derived.Test.YtapndkailgcboaaGreatDoorCt
import Derived.Lib.SpaceUEq
namespace Go.Proofs.YtapndkailgcboaaGreatDoor
open Go Go.Den
set_option maxRecDepth 100000
set_option linter.unusedSimpArgs false

def lowB (c : Int) : Bool := bif decide (97 ≤ c) then decide (c ≤ 122) else false
def digB (c : Int) : Bool := bif decide (48 ≤ c) then decide (c ≤ 57) else false
def okB (c : UInt8) : Bool := lowB c.toNat || digB c.toNat || decide ((c.toNat : Int) = 45)
def nameS (s : List UInt8) : Bool := decide (1 ≤ s.length) && decide (s.length ≤ 16) && lowB (s.getD 0 0).toNat && s.all okB

theorem lower_run (c : Int) : RR none 59 [.e (.int .u8 c)] [] = some (.ret (yes (lowB c)), []) := run_of_body (eq_lower RR LL c)
theorem digit_run (c : Int) : RR none 60 [.e (.int .u8 c)] [] = some (.ret (yes (digB c)), []) := run_of_body (eq_digit RR LL c)

theorem dropU {s : List UInt8} {i : Nat} (h : i < s.length) : s.drop i = s.getD i 0 :: s.drop (i + 1) := by
  rw [List.getD_eq_getElem?_getD, List.getElem?_eq_getElem h]; exact List.drop_eq_getElem_cons h

theorem rName_loop {s : List UInt8} (hl : s.length ≤ maxLen) : ∀ (j : Nat) (i : Int), 0 ≤ i → i ≤ s.length → j = s.length - i.toNat →
    LL 32 0 lc_32_4 (((List.replicate 42 AV.undef).set 0 (.e (.str s))).set 3 (.e (.int .i64 i))) [] =
      some (bif (s.drop i.toNat).all okB then { ex := .exit 0, fr := [AV.undef] ++ List.replicate 41 AV.undef, hp := [], df := [] } else { ex := .ret, fr := [AV.undef, AV.undef, yes false] ++ List.replicate 39 AV.undef, hp := [], df := [] }) := by
  intro j
  induction j with
  | zero =>
    intro i h0 h1 h2
    refine loop_of_body ((eq_rNameL RR LL s i).trans ?_)
    rw [List.drop_eq_nil_of_le (by omega)]
    exact cond_not (dec_no (by omega)) rfl
  | succ j ih =>
    intro i h0 h1 h2
    have hi : i.toNat < s.length := by omega
    have e2 := ih (i + 1) (by omega) (by omega) (by omega)
    refine loop_of_body ((eq_rNameL RR LL s i).trans ?_)
    rw [show (i + 1).toNat = i.toNat + 1 by omega] at e2
    rw [dropU hi, List.all_cons]
    generalize s.getD i.toNat 0 = c
    have hw : IntKind.i64.wrap (i + 1) = i + 1 := wrap_in (by omega) (by rw [maxLen_eq] at hl; omega)
    have hin : (decide (0 ≤ i) && decide (i < (s.length : Int))) = true := and_yes (dec_yes h0) (dec_yes (by omega))
    refine cond_run (dec_yes (by omega)) (cond_run hin (bind_run (lower_run _) (cond_run okH (cond_run (okBool _) ?_))))
    rw [hw]
    unfold okB
    cases lowB c.toNat with
    | true => exact cond_not rfl (bind_run e2 rfl)
    | false =>
      refine cond_run rfl (cond_run hin (bind_run (digit_run _) (cond_run okH (cond_run (okBool _) ?_))))
      cases digB c.toNat with
      | true => exact cond_not rfl (bind_run e2 rfl)
      | false =>
        refine cond_run rfl (cond_run hin ?_)
        by_cases hc : (c.toNat : Int) = 45
        · rw [dec_yes hc]
          exact cond_not (by simp [hc]) (bind_run e2 rfl)
        · rw [dec_no hc]
          exact cond_run (by simp [hc]) rfl

theorem rName_run {s : List UInt8} (hl : s.length ≤ maxLen) : RR none 32 [str s] [] = some (.ret (yes (nameS s)), []) := by
  refine run_of_body ((eq_rName RR LL s).trans ?_)
  unfold nameS
  by_cases h1 : 1 ≤ s.length
  · by_cases h2 : s.length ≤ 16
    · rw [dec_yes h1, dec_yes h2]
      refine cond_run (by rw [or2_no (dec_no (by omega)) (dec_no (by omega))]; rfl) (cond_run (dec_yes (by omega)) (bind_run (lower_run _) (cond_run okH (cond_run (okBool _) ?_))))
      cases lowB ((s.getD 0 0).toNat : Int) with
      | false => exact cond_run rfl rfl
      | true =>
        refine cond_not rfl ?_
        have e := rName_loop hl s.length 0 (by omega) (by omega) (by simp)
        rw [show (0 : Int).toNat = 0 from rfl, List.drop_zero] at e
        cases hv : s.all okB with
        | true => rw [hv] at e; exact bind_run e (cond_run rfl (cond_run (by kernel_rfl) rfl))
        | false => rw [hv] at e; exact bind_run e (cond_not rfl (cond_run rfl (cond_run (by kernel_rfl) rfl)))
    · rw [dec_no h2, Bool.and_false]
      exact cond_not (by rw [or2_yes (.inr (dec_yes (by omega)))]; rfl) rfl
  · rw [dec_no h1]
    exact cond_not (by rw [or2_yes (.inl (dec_yes (by omega)))]; rfl) rfl

/-! ### The program's, by runes -/

theorem rune_at {s : List UInt8} {p : Nat} : ((s.getD p 0).toNat < 128 ∧ Utf8.decode ⟨s.toArray⟩ p = ((s.getD p 0).toNat, 1)) ∨ (128 ≤ (s.getD p 0).toNat ∧ 128 ≤ (Utf8.decode ⟨s.toArray⟩ p).1) := by
  rw [Lib.decode_N]
  simp only [List.toList_toArray]
  generalize (s.getD p 0).toNat = b0
  rcases Lib.decodeN_cases (s.length - p) b0 (s.getD (p + 1) 0).toNat (s.getD (p + 2) 0).toNat (s.getD (p + 3) 0).toNat with h | h | h | h | h
  · exact .inl h
  · by_cases hb : b0 < 128
    · omega
    · exact .inr ⟨by omega, by rw [h.2.2.2.2]; exact h.2.2.2.1⟩
  · by_cases hb : b0 < 128
    · omega
    · exact .inr ⟨by omega, by rw [h.2.2.2.2.2]; simp only; omega⟩
  · by_cases hb : b0 < 128
    · left; exact ⟨hb, Lib.decodeN_ascii _ _ _ _ _ hb⟩
    · exact .inr ⟨by omega, by omega⟩
  · by_cases hb : b0 < 128
    · left; exact ⟨hb, Lib.decodeN_ascii _ _ _ _ _ hb⟩
    · exact .inr ⟨by omega, by rw [h]; simp⟩

def tRet : Out := { ex := .ret, fr := [AV.undef, AV.undef, yes false] ++ List.replicate 41 AV.undef, hp := [], df := [] }
def tEnd : Out := { ex := .exit 0, fr := [AV.undef] ++ List.replicate 43 AV.undef, hp := [], df := [] }

theorem tName_loop {s : List UInt8} : ∀ (j p : Nat), p ≤ s.length → j = s.length - p →
    LL 55 0 lc_55_4 ((List.replicate 44 AV.undef).set 15 (.itr 0)) [.raw (.iter s p)] = some (bif (s.drop p).all okB && (decide (p ≠ 0) || decide (s.length = 0) || lowB (s.getD 0 0).toNat) then tEnd else tRet) := by
  intro j
  induction j with
  | zero =>
    intro p h1 h2
    refine loop_of_body ((eq_tNameL RR LL s p).trans ?_)
    rw [List.drop_eq_nil_of_le (by omega)]
    refine cond_not (dec_no (by omega)) ?_
    have : (decide (p ≠ 0) || decide (s.length = 0)) = true := by
      by_cases hp : p = 0
      · rw [dec_yes (show s.length = 0 by omega), Bool.or_true]
      · simp [hp]
    rw [this]; rfl
  | succ j ih =>
    intro p h1 h2
    have hp : p < s.length := by omega
    refine loop_of_body ((eq_tNameL RR LL s p).trans (cond_run (dec_yes hp) ?_))
    have hs0 : decide (s.length = 0) = false := dec_no (by omega)
    rw [dropU hp, List.all_cons, hs0, Bool.or_false]
    rcases rune_at (s := s) (p := p) with ⟨hc, hd⟩ | ⟨hc, hd⟩
    · rw [hd]
      simp only
      have e2 := ih (p + 1) (by omega) (by omega)
      rw [hs0, show decide (p + 1 ≠ 0) = true from dec_yes (by omega)] at e2
      simp only [Bool.or_true, Bool.true_or, Bool.and_true, Bool.or_false] at e2
      have hlow0 : p = 0 → lowB (s.getD 0 0).toNat = lowB (s.getD p 0).toNat := fun h => by rw [h]
      generalize hlz : lowB (s.getD 0 0).toNat = lz at hlow0
      generalize s.getD p 0 = c at hc hd hlow0 ⊢
      show (bif (!lowB (c.toNat : Int)) == true then _ else _) = _
      rw [show okB c = (lowB (c.toNat : Int) || digB (c.toNat : Int) || decide ((c.toNat : Int) = 45)) from rfl]
      cases hl : lowB (c.toNat : Int) with
      | true =>
        refine cond_not rfl (bind_run e2 ?_)
        rw [hl] at hlow0
        by_cases h0 : p = 0
        · rw [hlow0 h0]; simp
        · simp [h0]
      | false =>
        refine cond_run rfl ?_
        rw [hl] at hlow0
        by_cases h0 : p = 0
        · rw [hlow0 h0]
          refine cond_not (by simp [h0]) ?_
          simp [h0, tRet]
        · refine cond_run (by simp; omega) ?_
          rw [show decide (p ≠ 0) = true from dec_yes h0]
          simp only [Bool.true_or, Bool.and_true, Bool.false_or]
          by_cases h45 : (c.toNat : Int) = 45
          · refine cond_not (by simp [h45]) (bind_run e2 ?_)
            rw [dec_yes h45]; simp
          · rw [dec_no h45, Bool.or_false]
            refine cond_run (by simp [h45]) ?_
            by_cases h48 : (c.toNat : Int) < 48
            · refine cond_not (by simp; omega) ?_
              rw [show digB (c.toNat : Int) = false by unfold digB; rw [dec_no (by omega)]; rfl]; rfl
            · refine cond_run (by simp; omega) ?_
              by_cases h57 : 57 < (c.toNat : Int)
              · refine cond_run (dec_yes h57) ?_
                rw [show digB (c.toNat : Int) = false by unfold digB; rw [dec_yes (by omega), dec_no (by omega)]; rfl]; rfl
              · refine cond_not (dec_no h57) (bind_run e2 ?_)
                rw [show digB (c.toNat : Int) = true by unfold digB; rw [dec_yes (by omega), dec_yes (by omega)]; rfl]; rfl
    · generalize hdd : Utf8.decode ⟨s.toArray⟩ p = q at hd ⊢
      obtain ⟨r, w⟩ := q
      simp only at hd ⊢
      generalize s.getD p 0 = c at hc ⊢
      have hno : okB c = false := by
        unfold okB lowB digB
        rw [dec_yes (show (97 : Int) ≤ c.toNat by omega), dec_no (show ¬ (c.toNat : Int) ≤ 122 by omega), dec_yes (show (48 : Int) ≤ c.toNat by omega), dec_no (show ¬ (c.toNat : Int) ≤ 57 by omega), dec_no (show ¬ (c.toNat : Int) = 45 by omega)]
        rfl
      rw [hno]
      refine cond_run (by rw [dec_yes (show (97 : Int) ≤ r by omega), dec_no (show ¬ (r : Int) ≤ 122 by omega)]; rfl) ?_
      by_cases h0 : p = 0
      · exact cond_not (by simp [h0]) rfl
      · refine cond_run (by simp; omega) (cond_run (by simp; omega) (cond_run (by simp; omega) (cond_run (dec_yes (by omega)) rfl)))

theorem tName_run (s : List UInt8) : RR none 55 [str s] [] = some (.ret (yes (nameS s)), []) := by
  refine run_of_body ((eq_tName RR LL s).trans ?_)
  unfold nameS
  by_cases h1 : 1 ≤ s.length
  · by_cases h2 : s.length ≤ 16
    · rw [dec_yes h1, dec_yes h2]
      refine cond_not (or2_no (dec_no (by omega)) (dec_no (by omega))) ?_
      have e := tName_loop s.length 0 (s := s) (by omega) (by omega)
      rw [List.drop_zero, dec_no (show ¬ (0 : Nat) ≠ 0 by simp), dec_no (show ¬ s.length = 0 by omega)] at e
      simp only [Bool.or_false, Bool.false_or] at e
      rw [Bool.true_and, Bool.true_and, Bool.and_comm]
      cases hv : (s.all okB && lowB ((s.getD 0 0).toNat : Int)) with
      | true => rw [hv] at e; exact bind_run e (cond_run rfl (cond_run (by kernel_rfl) rfl))
      | false => rw [hv] at e; exact bind_run e (cond_not rfl (cond_run rfl (cond_run (by kernel_rfl) rfl)))
    · rw [dec_no h2, Bool.and_false]
      exact cond_run (or2_yes (.inr (dec_yes (by omega)))) rfl
  · rw [dec_no h1]
    exact cond_run (or2_yes (.inl (dec_yes (by omega)))) rfl

end Go.Proofs.YtapndkailgcboaaGreatDoor
