/- What the reference's Deep comes to; it is what the program's deep says. -/
import Derived.Test.YtapndkailgcboaaGreatDoorCs
namespace Go.Proofs.YtapndkailgcboaaGreatDoor
open Go Go.Den
set_option maxRecDepth 100000

def rdeepS : Nat → E → Bool
  | 0, _ => true
  | n + 1, x => (if kindE x = 5 then (ofE x).any (rdeepS n) else false) || (if kindE x = 6 then (fieldsE x).any (fun y => rdeepS n (fieldTy y)) else false)
theorem rdeepS_at (d : Nat) (k mn mx : Int) (os fs gs : List E) : rdeepS (d + 1) (.agg [.int .i64 k, .int .i64 mn, .int .i64 mx, .sl 9 os, .sl 31 fs, .sl 65 gs]) =
    ((if k = 5 then fs.any (rdeepS d) else false) || (if k = 6 then gs.any (fun y => rdeepS d (fieldTy y)) else false)) := rfl

theorem rdeep4 {k mn mx : Int} {os fs gs : List E} {n : Int} {d : Nat} (hl : fs.length ≤ maxLen) (hf : ∀ x ∈ fs, RR none 37 [slotsOf x, num (IntKind.i64.wrap (n + 1))] [] = some (.ret (yes (rdeepS d x)), [])) (ht : ∀ x ∈ fs, Ty x) :
    ∀ (j : Nat) (i : Int), 0 ≤ i → i ≤ fs.length → j = fs.length - i.toNat →
      LL 37 0 lc_37_4 ((((List.replicate 50 AV.undef).set 1 (.e (.int .i64 n))).set 2 (.ptr 0 0)).set 5 (.e (.int .i64 i))) [tyC k mn mx os fs gs] =
      some (bif decide (k = 5) && (fs.drop i.toNat).any (rdeepS d) then { ex := .ret, fr := [AV.undef, AV.undef, AV.undef, AV.undef, yes true] ++ List.replicate 45 AV.undef, hp := [], df := [] }
        else { ex := .exit 0, fr := [AV.undef, num n, AV.ptr 0 0] ++ List.replicate 47 AV.undef, hp := [tyC k mn mx os fs gs], df := [] }) := by
  intro j
  induction j with
  | zero =>
    intro i h0 h1 h2
    refine loop_of_body ((eq_RDeepL4 RR LL k mn mx os fs gs n i).trans ?_)
    rw [List.drop_eq_nil_of_le (by omega), List.any_nil, Bool.and_false]
    exact cond_not (and2_no (.inl (dec_no (by omega)))) rfl
  | succ j ih =>
    intro i h0 h1 h2
    have hi : i.toNat < fs.length := by omega
    have e1 := hf _ (getD_mem hi)
    have e2 := ih (i + 1) (by omega) (by omega) (by omega)
    refine loop_of_body ((eq_RDeepL4 RR LL k mn mx os fs gs n i).trans ?_)
    have hx := ht _ (getD_mem hi)
    rw [show (i + 1).toNat = i.toNat + 1 by omega] at e2
    rw [drop_getD hi, List.any_cons]
    generalize fs.getD i.toNat E.nili = x at e1 hx ⊢
    by_cases h5 : k = 5
    · subst h5
      cases hx
      refine cond_run (and2_yes (dec_yes (by omega)) rfl) (cond_run (and_yes (dec_yes h0) (dec_yes (by omega))) (bind_run e1 (cond_run okH (cond_run (okBool _) ?_))))
      generalize rdeepS d _ = v
      cases v with
      | true => exact cond_run rfl rfl
      | false =>
        refine cond_not rfl ?_
        rw [wrap_in (n := i + 1) (by omega) (by rw [maxLen_eq] at hl; omega)]
        exact bind_run e2 rfl
    · rw [dec_no h5, Bool.false_and]
      exact cond_not (and2_no (.inr (by simpa using h5))) rfl

theorem rdeep9 {k mn mx : Int} {os fs gs : List E} {n : Int} {d : Nat} (hl : gs.length ≤ maxLen) (hf : ∀ x ∈ gs, RR none 37 [slotsOf (fieldTy x), num (IntKind.i64.wrap (n + 1))] [] = some (.ret (yes (rdeepS d (fieldTy x))), [])) (ht : ∀ x ∈ gs, Ty (fieldTy x))
    (hn : ∀ x ∈ gs, ∃ n op cs, x = .agg (.str n :: .bool op :: cs) ∧ n.length ≤ maxLen) :
    ∀ (j : Nat) (i : Int), 0 ≤ i → i ≤ gs.length → j = gs.length - i.toNat →
      LL 37 0 lc_37_9 ((((List.replicate 50 AV.undef).set 1 (.e (.int .i64 n))).set 2 (.ptr 0 0)).set 6 (.e (.int .i64 i))) [tyC k mn mx os fs gs] =
      some (bif decide (k = 6) && (gs.drop i.toNat).any (fun y => rdeepS d (fieldTy y)) then { ex := .ret, fr := [AV.undef, AV.undef, AV.undef, AV.undef, yes true] ++ List.replicate 45 AV.undef, hp := [], df := [] }
        else { ex := .exit 2, fr := [AV.undef] ++ List.replicate 49 AV.undef, hp := [], df := [] }) := by
  intro j
  induction j with
  | zero =>
    intro i h0 h1 h2
    refine loop_of_body ((eq_RDeepL9 RR LL k mn mx os fs gs n i).trans ?_)
    rw [List.drop_eq_nil_of_le (by omega), List.any_nil, Bool.and_false]
    exact cond_not (and2_no (.inl (dec_no (by omega)))) rfl
  | succ j ih =>
    intro i h0 h1 h2
    have hi : i.toNat < gs.length := by omega
    have e1 := hf _ (getD_mem hi)
    have e2 := ih (i + 1) (by omega) (by omega) (by omega)
    refine loop_of_body ((eq_RDeepL9 RR LL k mn mx os fs gs n i).trans ?_)
    obtain ⟨_, _, _, _, _, _, _, _, hx, _⟩ := fieldX (ht _ (getD_mem hi)) (hn _ (getD_mem hi))
    rw [show (i + 1).toNat = i.toNat + 1 by omega] at e2
    rw [drop_getD hi, List.any_cons]
    generalize gs.getD i.toNat E.nili = x at e1 hx ⊢
    by_cases h6 : k = 6
    · subst h6
      subst hx
      refine cond_run (and2_yes (dec_yes (by omega)) rfl) (cond_run (and_yes (dec_yes h0) (dec_yes (by omega))) (bind_run e1 (cond_run okH (cond_run (okBool _) ?_))))
      generalize rdeepS d _ = v
      cases v with
      | true => exact cond_run rfl rfl
      | false =>
        refine cond_not rfl ?_
        rw [wrap_in (n := i + 1) (by omega) (by rw [maxLen_eq] at hl; omega)]
        exact bind_run e2 rfl
    · rw [dec_no h6, Bool.false_and]
      exact cond_not (and2_no (.inr (by simpa using h6))) rfl

theorem rdeep_run : ∀ (d : Nat) (e : E), d ≤ 7 → Ty e → RR none 37 [slotsOf e, num (7 - d)] [] = some (.ret (yes (rdeepS d e)), [])
  | 0, e, _, h => by
    cases h with
    | mk k mn mx os fs gs => exact run_of_body ((eq_RDeep RR LL k mn mx os fs gs 7).trans (cond_run rfl rfl))
  | d + 1, e, hd, h => by
    cases h with
    | mk k mn mx os fs gs ho hol hf hfl hg hgn hgl hk hmn hmx =>
    have hw : IntKind.i64.wrap ((7 : Int) - ((d + 1 : Nat) : Int) + 1) = 7 - (d : Int) := by rw [wrap_in (by omega) (by omega)]; omega
    have e4 := rdeep4 (k := k) (mn := mn) (mx := mx) (os := os) (gs := gs) (n := 7 - ((d + 1 : Nat) : Int)) (d := d) hfl (fun x hx => by rw [hw]; exact rdeep_run d x (by omega) (hf x hx)) hf fs.length 0 (by omega) (by omega) (by simp)
    have e9 := rdeep9 (k := k) (mn := mn) (mx := mx) (os := os) (fs := fs) (n := 7 - ((d + 1 : Nat) : Int)) (d := d) hgl (fun x hx => by rw [hw]; exact rdeep_run d (fieldTy x) (by omega) (hg x hx)) hg hgn gs.length 0 (by omega) (by omega) (by simp)
    refine run_of_body ((eq_RDeep RR LL k mn mx os fs gs (7 - ((d + 1 : Nat) : Int))).trans (cond_not (dec_no (by omega)) ?_))
    rw [rdeepS_at]
    simp only [Int.toNat_zero, List.drop_zero] at e4 e9
    by_cases h5 : k = 5
    · subst h5
      cases hv : fs.any (rdeepS d) with
      | true =>
        rw [hv] at e4
        exact bind_run e4 (cond_not rfl (cond_run rfl (cond_run (by kernel_rfl) rfl)))
      | false =>
        rw [hv] at e4
        exact bind_run e4 (cond_run rfl (cond_run (by kernel_rfl) (bind_run e9 (cond_run rfl (cond_run (by kernel_rfl) rfl)))))
    · rw [dec_no h5, Bool.false_and] at e4
      rw [if_neg h5, Bool.false_or]
      refine bind_run e4 (cond_run rfl (cond_run (by kernel_rfl) ?_))
      by_cases h6 : k = 6
      · subst h6
        rw [if_pos rfl]
        cases hv : gs.any (fun y => rdeepS d (fieldTy y)) with
        | true =>
          rw [hv] at e9
          exact bind_run e9 (cond_not rfl (cond_run rfl (cond_run (by kernel_rfl) rfl)))
        | false =>
          rw [hv] at e9
          exact bind_run e9 (cond_run rfl (cond_run (by kernel_rfl) rfl))
      · rw [dec_no h6, Bool.false_and] at e9
        rw [if_neg h6]
        exact bind_run e9 (cond_run rfl (cond_run (by kernel_rfl) rfl))

end Go.Proofs.YtapndkailgcboaaGreatDoor
