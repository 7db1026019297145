/- The program's check of values. -/
import Derived.Test.YtghdhhmlmdohkaaDoorWa
namespace Go.Proofs.YtghdhhmlmdohkaaDoor
open Go Go.Den
set_option maxRecDepth 100000

theorem zero_len (ns : List E) : ((ns.length : Int) == 0) = !decide (0 < (ns.length : Int)) := by
  by_cases h : ns.length = 0
  · rw [h]; rfl
  · rw [ne_beq (show (ns.length : Int) ≠ 0 by omega), dec_yes (show (0 : Int) < ns.length by omega)]; rfl

theorem spare_run (k n : Int) (x : List UInt8) (ns vs : List E) : RR none 86 [vlA k n x ns vs] [] = some (.ret (yes (oddS k n x ns vs)), []) := by
  refine run_of_body ((eq_spare RR LL k n x ns vs).trans ?_)
  rw [zero_len]
  unfold oddS
  change _ = some (Res.ret (yes (oddB (k == 1) (k == 2) (k == 3) (k == 5) (k == 6) (n == 0) (strEq x []) (decide (0 < (ns.length : Int))) (decide (0 < (vs.length : Int))) ((ns.length : Int) == (vs.length : Int)))), [])
  by_cases h6 : k = 6
  · subst h6
    generalize (n == 0) = n0
    generalize strEq x [] = xe
    generalize decide (0 < (ns.length : Int)) = nn
    generalize decide (0 < (vs.length : Int)) = vv
    generalize ((ns.length : Int) == (vs.length : Int)) = eq
    cases n0 <;> cases xe <;> cases nn <;> cases vv <;> cases eq <;> rfl
  · rw [ne_beq h6]
    generalize (k == 1) = k1
    generalize (k == 2) = k2
    generalize (k == 3) = k3
    generalize (k == 5) = k5
    generalize (n == 0) = n0
    generalize strEq x [] = xe
    generalize decide (0 < (ns.length : Int)) = nn
    generalize decide (0 < (vs.length : Int)) = vv
    generalize ((ns.length : Int) == (vs.length : Int)) = eq
    cases k1 <;> cases k2 <;> cases k3 <;> cases k5 <;> cases n0 <;> cases xe <;> cases nn <;> cases vv <;> cases eq <;> rfl

abbrev vaF (vs : List E) (i : Int) : Fr := ((((List.replicate 80 AV.undef).set 1 (.ptr 0 0)).set 46 (.e (.sl 38 vs))).set 47 (.e (.int .i64 (vs.length : Int)))).set 48 (.e (.int .i64 i))

theorem valid13 {k n : Int} {x : List UInt8} {ns vs : List E} {c : E → Int} (hl : vs.length ≤ maxLen) (hk : k = 6 → ns.length = vs.length)
    (hc : ∀ v ∈ vs, RR none 46 [slotsV v] [] = some (.ret (num (c v)), [])) :
    ∀ (j i : Nat), i + j = vs.length → LL 46 0 lc_46_13 (vaF vs i) [vlC k n x ns vs] =
      some (outO 1 77 (ckL c (k == 6) (i == 0) (nmE (ns.getD (i - 1) .nili)) (ns.drop i) (vs.drop i))) := by
  intro j
  induction j with
  | zero =>
    intro i h
    have : i = vs.length := by omega
    subst this
    rw [List.drop_length]
    exact loop_of_body ((eq_validL13 RR LL vs vs.length vs.length k n x ns vs).trans (cond_not (end_nat _) rfl))
  | succ j ih =>
    intro i h
    have hi : i < vs.length := by omega
    have e2 := ih (i + 1) (by omega)
    rw [show (i + 1 == 0) = false from rfl, Nat.add_sub_cancel] at e2
    have hv := hc _ (getD_mem hi)
    have wmax : max (0 : Int) (IntKind.i64.wrap ((i : Int) - 1)) = ((i - 1 : Nat) : Int) := by
      rw [maxLen_eq] at hl
      rw [wrap_in (by omega) (by omega)]; omega
    have ibeq : ((i : Int) == 0) = (i == 0) := by
      by_cases hz : i = 0
      · subst hz; rfl
      · rw [ne_beq (show (i : Int) ≠ 0 by omega)]; simp [hz]
    refine loop_of_body ((eq_validL13 RR LL vs vs.length i k n x ns vs).trans (cond_run (lt_nat hi) (cond_run (in_nat hi) ?_)))
    rw [drop_getD hi]
    unfold ckL
    rw [getD_drop, List.drop_drop, wmax, at_nat, at_nat, wrap_nat hi hl, ibeq]
    by_cases h6 : k = 6
    · have hin : i < ns.length := by rw [hk h6]; exact hi
      rw [eq_beq h6] at e2 ⊢
      refine cond_run rfl (cond_run (in_nat hin) (cond_run (in_nat (by omega)) (callE (named_run _ _ _) ?_)))
      change (bif !(namedS (nmE (ns.getD i E.nili)) (nmE (ns.getD (i - 1) E.nili)) (i == 0) == 0) then _ else _) = some (outO 1 77 (bif namedS (nmE (ns.getD i E.nili)) (nmE (ns.getD (i - 1) E.nili)) (i == 0) == 0 then _ else namedS (nmE (ns.getD i E.nili)) (nmE (ns.getD (i - 1) E.nili)) (i == 0)))
      generalize hw : namedS (nmE (ns.getD i E.nili)) (nmE (ns.getD (i - 1) E.nili)) (i == 0) = w
      by_cases hz : w = 0
      · subst hz
        refine cond_not rfl (callE hv ?_)
        generalize c (vs.getD i .nili) = v
        by_cases hv0 : v = 0
        · subst hv0; exact cond_not rfl (bind_run e2 rfl)
        · refine cond_run (no_not' hv0) ?_
          rw [ne_beq hv0]
          show _ = some (outO 1 77 v)
          rw [outO_ne _ _ hv0]; rfl
      · refine cond_run (no_not' hz) ?_
        rw [ne_beq hz]
        show some ({ ex := Ex.ret, fr := _, hp := [], df := [] } : Out) = some (outO 1 77 w)
        rw [outO_ne _ _ hz, ← hw]; rfl
    · rw [ne_beq h6] at e2 ⊢
      refine cond_not rfl (callE hv ?_)
      show _ = some (outO 1 77 (bif c (vs.getD i .nili) == 0 then _ else c (vs.getD i .nili)))
      generalize c (vs.getD i .nili) = v
      by_cases hv0 : v = 0
      · subst hv0; exact cond_not rfl (bind_run e2 rfl)
      · refine cond_run (no_not' hv0) ?_
        rw [ne_beq hv0]
        show _ = some (outO 1 77 v)
        rw [outO_ne _ _ hv0]; rfl

theorem valid_run : ∀ (d : Nat) (e : E), rdeepV d e = false → Val e → RR none 46 [slotsOf e] [] = some (.ret (num (checkV d e)), [])
  | 0, e, h, _ => by cases h
  | d + 1, e, h, ht => by
    cases ht with
    | mk k n x ns vs hx hn hnl hv hvl hk hnum =>
    change ((k == 5 || k == 6) && vs.any (rdeepV d)) = false at h
    rw [checkV_at]
    refine run_of_body ((eq_valid RR LL k n x ns vs).trans ?_)
    by_cases h10 : k < 1 ∨ 6 < k ∨ k = 4
    · rw [if_pos h10]
      exact cond_not (ne_beq (by omega)) (cond_not (ne_beq (by omega)) (cond_not (ne_beq (by omega)) (cond_not (ne_beq (by omega)) (cond_not (ne_beq (by omega)) rfl))))
    rw [if_neg h10]
    have main : oddS k n x ns vs = false → (bif decide (0 ≤ 0) then (LL 46 0 lc_46_13 (vaF vs 0) [vlC k n x ns vs]).bind fun o => bif o.ex.isWay (Way.exit 1) then bif okFr (List.replicate 80 AV.undef) o.2 && okHeap [] o.3 then some (Res.ret (num 0), []) else none
      else bif o.ex.isWay Way.ret then bif okFr ([AV.undef, AV.undef, num 0] ++ List.replicate 77 AV.undef) o.2 && okHeap [] o.3 then
        some (Res.ret (num ((List.getD o.fr 2 AV.undef).data.toInt)), ([] : Heap)) else none else none else none) = some (.ret (num (ckL (checkV d) (k == 6) true [] ns vs)), []) := by
      intro hu
      obtain ⟨o1, o2, o3, o4, o5⟩ := odd_no hu
      have hd : ∀ v ∈ vs, rdeepV d v = false := fun v hm => by
        by_cases h56 : k = 5 ∨ k = 6
        · have : (k == 5 || k == 6) = true := by rcases h56 with h | h <;> rw [eq_beq h] <;> simp
          rw [this, Bool.true_and, List.any_eq_false] at h
          simpa using h v hm
        · rw [o3 (by omega) (by omega)] at hm; cases hm
      have e8 := valid13 (k := k) (n := n) (x := x) (c := checkV d) hvl o5 (fun v hm => by rw [slotsV_eq (hv v hm)]; exact valid_run d v (hd v hm) (hv v hm)) vs.length 0 (by omega)
      rw [show (0 == 0) = true from rfl, ckL_first _ _ _ [], List.drop_zero, List.drop_zero] at e8
      exact behindO e8 (by kernel_rfl) (fun e => by kernel_rfl)
    have sp := spare_run k n x ns vs
    have hks : k = 1 ∨ k = 2 ∨ k = 3 ∨ k = 5 ∨ k = 6 := by omega
    rcases hks with rfl | rfl | rfl | rfl | rfl
    · refine cond_run rfl (cond_run rfl (callB sp ?_))
      cases hu : oddS 1 n x ns vs with
      | true => exact cond_run rfl rfl
      | false =>
        refine cond_not rfl (cond_run rfl ?_)
        rw [if_neg (by decide)]
        by_cases hr : -4611686018427387904 ≤ n ∧ n ≤ 4611686018427387904
        · rw [if_neg (by omega)]
          exact cond_run (by rw [dec_no (by omega)]; rfl) (cond_run (by rw [dec_no (by omega)]; rfl) (cond_not rfl (main hu)))
        · rw [if_pos (.inl ⟨rfl, hr⟩)]
          by_cases hlo : n < -4611686018427387904
          · exact cond_not (by rw [dec_yes hlo]; rfl) rfl
          · exact cond_run (by rw [dec_no hlo]; rfl) (cond_not (by rw [dec_yes (by omega)]; rfl) rfl)
    · refine cond_not rfl (cond_run rfl (cond_run rfl (callB sp ?_)))
      cases hu : oddS 2 n x ns vs with
      | true => exact cond_run rfl rfl
      | false =>
        rw [if_neg (by decide), if_neg (by omega)]
        exact cond_not rfl (cond_not rfl (cond_not rfl (main hu)))
    · refine cond_not rfl (cond_not rfl (cond_run rfl (cond_run rfl (callB sp ?_))))
      cases hu : oddS 3 n x ns vs with
      | true => exact cond_run rfl rfl
      | false =>
        rw [if_neg (by decide)]
        refine cond_not rfl (cond_not rfl (cond_run rfl ?_))
        by_cases n0 : n = 0
        · rw [if_neg (by omega)]
          exact cond_not (by rw [eq_beq n0]; rfl) (main hu)
        · refine cond_run (by rw [ne_beq n0]; rfl) ?_
          by_cases n1 : n = 1
          · rw [if_neg (by omega)]
            exact cond_not (by rw [eq_beq n1]; rfl) (main hu)
          · rw [if_pos (.inr ⟨rfl, n0, n1⟩)]
            exact cond_run (by rw [ne_beq n1]; rfl) rfl
    · refine cond_not rfl (cond_not rfl (cond_not rfl (cond_run rfl (cond_run rfl (callB sp ?_)))))
      cases hu : oddS 5 n x ns vs with
      | true => exact cond_run rfl rfl
      | false =>
        rw [if_neg (by decide), if_neg (by omega)]
        exact cond_not rfl (cond_not rfl (cond_not rfl (main hu)))
    · refine cond_not rfl (cond_not rfl (cond_not rfl (cond_not rfl (cond_run rfl (callB sp ?_)))))
      cases hu : oddS 6 n x ns vs with
      | true => exact cond_run rfl rfl
      | false =>
        rw [if_neg (by decide), if_neg (by omega)]
        exact cond_not rfl (cond_not rfl (cond_not rfl (main hu)))

end Go.Proofs.YtghdhhmlmdohkaaDoor
