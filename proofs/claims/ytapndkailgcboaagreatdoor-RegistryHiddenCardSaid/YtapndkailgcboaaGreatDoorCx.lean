/- Check and the reference's Check say the same. -/
import Derived.Test.YtapndkailgcboaaGreatDoorCw
namespace Go.Proofs.YtapndkailgcboaaGreatDoor
open Go Go.Den
set_option maxRecDepth 100000


theorem callB {β : Type} {x : Option (Res × Heap)} {b : Bool} {K : Res × Heap → Option β} {r : Option β} (h : x = some (.ret (yes b), [])) (hK : K (.ret (yes b), []) = r) :
    (x.bind fun rh => bif okHeap [] rh.2 then bif okRes PP 4 rh.1 then K rh else none else none) = r := by
  exact bind_run h (cond_run okH (cond_run (okBool b) hK))
theorem callN {β : Type} {x : Option (Res × Heap)} {n : Int} {K : Res × Heap → Option β} {r : Option β} (h : x = some (.ret (num n), [])) (hK : K (.ret (num n), []) = r) :
    (x.bind fun rh => bif okHeap [] rh.2 then bif okRes PP 3 rh.1 then K rh else none else none) = r := by
  exact bind_run h (cond_run okH (cond_run (okInt n) hK))
theorem callE {β : Type} {x : Option (Res × Heap)} {n : Int} {K : Res × Heap → Option β} {r : Option β} (h : x = some (.ret (num n), [])) (hK : K (.ret (num n), []) = r) :
    (x.bind fun rh => bif okHeap [] rh.2 then bif okRes PP 25 rh.1 then K rh else none else none) = r := by
  exact bind_run h (cond_run okH (cond_run (okErr n) hK))

theorem ne_beq {a b : Int} (h : a ≠ b) : (a == b) = false := beq_false_of_ne h
theorem eq_beq {a b : Int} (h : a = b) : (a == b) = true := by simp [h]

theorem rwithin_run (a b c d : Int) : RR none 64 [num a, num b, num c, num d] [] = some (.ret (yes (rangeS a b c d == 0)), []) := by
  refine run_of_body ((eq_rwithin RR LL a b c d).trans ?_)
  refine congrArg some (congrArg (fun z => (Res.ret (yes z), ([] : Heap))) ?_)
  unfold rangeS
  by_cases h1 : c ≤ a
  · by_cases h2 : a ≤ b
    · by_cases h3 : b ≤ d
      · rw [if_pos ⟨h1, h2, h3⟩, dec_yes h1, dec_yes h2, dec_yes h3]; rfl
      · rw [if_neg (by omega), dec_yes h1, dec_yes h2, dec_no h3]; rfl
    · rw [if_neg (by omega), dec_yes h1, dec_no h2]; rfl
  · rw [if_neg (by omega), dec_no h1]; rfl

theorem outO_ne (w n : Nat) {e : Int} (h : e ≠ 0) : outO w n e = { ex := .ret, fr := [AV.undef, AV.undef, num e] ++ List.replicate n AV.undef, hp := [], df := [] } := by
  unfold outO; rw [ne_beq h]; rfl

theorem options_run {os : List E} (hl : os.length ≤ maxLen) (hs : ∀ x ∈ os, (nmE x).length ≤ maxLen) : RR none 65 [.e (.sl 9 os)] [] = some (.ret (num (optsS os)), []) := by
  refine run_of_body ((eq_options RR LL os).trans ?_)
  unfold optsS
  by_cases h0 : os.length = 0
  · rw [if_pos h0]; exact cond_run (eq_beq (by omega)) rfl
  · rw [if_neg h0]
    refine cond_not (ne_beq (by omega)) ?_
    by_cases h16 : 16 < os.length
    · rw [if_pos h16]; exact cond_run (dec_yes (by omega)) rfl
    · rw [if_neg h16]
      refine cond_not (dec_no (by omega)) ?_
      have e1 := options6 hl hs os.length 0 (by omega) (by omega) (by simp)
      rw [show ((0 : Int) == 0) = true from rfl, ordS_first _ [] _, Int.toNat_zero, List.drop_zero] at e1
      generalize ordS true [] (os.map nmE) = e at e1 ⊢
      by_cases he : e = 0
      · subst he
        exact bind_run e1 (cond_run rfl (cond_run (by kernel_rfl) rfl))
      · rw [outO_ne _ _ he] at e1
        exact bind_run e1 (cond_not rfl (cond_run rfl (cond_run (by kernel_rfl) rfl)))

theorem fldsS_first (c : E → Int) (p q : List UInt8) : (r : List E) → fldsS c true p r = fldsS c true q r
  | [] => rfl
  | x :: r => by simp only [fldsS, namedS_first (nmE x) p q]

def outF (n w : Nat) (e : Int) : Out := bif e == 0 then { ex := .exit w, fr := AV.undef :: List.replicate (n + 4) AV.undef, hp := [], df := [] }
  else { ex := .ret, fr := [AV.undef, AV.undef, AV.undef, AV.undef, num e] ++ List.replicate n AV.undef, hp := [], df := [] }

theorem fields4 {gs : List E} {n : Int} {c : E → Int} (hl : gs.length ≤ maxLen) (hc : ∀ x ∈ gs, RR none 38 [slotsOf (fieldTy x), num n] [] = some (.ret (num (c (fieldTy x))), [])) (ht : ∀ x ∈ gs, Ty (fieldTy x))
    (hn : ∀ x ∈ gs, ∃ n op cs, x = .agg (.str n :: .bool op :: cs) ∧ n.length ≤ maxLen) :
    ∀ (j : Nat) (i : Int), 0 ≤ i → i ≤ gs.length → j = gs.length - i.toNat →
      LL 66 0 lc_66_4 ((((List.replicate 49 AV.undef).set 0 (.e (.sl 65 gs))).set 1 (.e (.int .i64 n))).set 5 (.e (.int .i64 i))) [] =
      some (outF 44 0 (fldsS c (i == 0) (nmE (gs.getD (max 0 (i - 1)).toNat E.nili)) (gs.drop i.toNat))) := by
  intro j
  induction j with
  | zero =>
    intro i h0 h1 h2
    refine loop_of_body ((eq_fieldsL RR LL gs n i).trans ?_)
    rw [List.drop_eq_nil_of_le (by omega)]
    exact cond_not (dec_no (by omega)) rfl
  | succ j ih =>
    intro i h0 h1 h2
    have hi : i.toNat < gs.length := by omega
    have e2 := ih (i + 1) (by omega) (by omega) (by omega)
    refine loop_of_body ((eq_fieldsL RR LL gs n i).trans ?_)
    rw [show (i + 1).toNat = i.toNat + 1 by omega, ne_beq (show i + 1 ≠ 0 by omega), show (max 0 (i + 1 - 1)).toNat = i.toNat by omega] at e2
    rw [drop_getD hi]
    have e1 := hc _ (getD_mem hi)
    obtain ⟨nm, op, k, mn, mx, os, fs, gs', hx, hlen⟩ := fieldX (ht _ (getD_mem hi)) (hn _ (getD_mem hi))
    rw [maxLen_eq] at hl
    have hnm : (nmE (gs.getD i.toNat E.nili)).length ≤ maxLen := by rw [hx]; exact hlen
    -- the check of the field's own type
    have tail : ∀ rr : Option Out, some (outF 44 0 (bif c (fieldTy (gs.getD i.toNat E.nili)) == 0 then fldsS c false (nmE (gs.getD i.toNat E.nili)) (gs.drop (i.toNat + 1)) else c (fieldTy (gs.getD i.toNat E.nili)))) = rr →
        (bif decide (0 ≤ i) && decide (i < (↑gs.length : Int)) then
          (RR none 38 [AV.agg [AV.e (E.int IntKind.i64 ((gs.getD i.toNat E.nili).cell 2).toInt), AV.e (E.int IntKind.i64 ((gs.getD i.toNat E.nili).cell 3).toInt), AV.e (E.int IntKind.i64 ((gs.getD i.toNat E.nili).cell 4).toInt),
              AV.e (E.sl 9 ((gs.getD i.toNat E.nili).cell 5).toList), AV.e (E.sl 31 ((gs.getD i.toNat E.nili).cell 6).toList), AV.e (E.sl 65 ((gs.getD i.toNat E.nili).cell 7).toList)], AV.e (E.int IntKind.i64 n)] []).bind fun rh =>
            bif okHeap [] rh.2 then bif okRes PP 25 rh.fst then
              bif !rh.fst.val.data.toInt == 0 then some { ex := Ex.ret, fr := ([AV.undef, AV.undef, AV.undef, AV.undef, AV.e (E.int IntKind.i64 rh.fst.val.data.toInt)] ++ List.replicate 44 AV.undef), hp := [], df := [] }
              else (LL 66 0 lc_66_4 ([AV.e (E.sl 65 gs), AV.e (E.int IntKind.i64 n), AV.undef, AV.undef, AV.undef, AV.e (E.int IntKind.i64 (IntKind.i64.wrap (i + 1)))] ++ List.replicate 43 AV.undef) []).bind fun o => some o
            else none else none
        else none) = rr := by
      rintro rr rfl
      have e1' : RR none 38 [AV.agg [AV.e (E.int IntKind.i64 ((gs.getD i.toNat E.nili).cell 2).toInt), AV.e (E.int IntKind.i64 ((gs.getD i.toNat E.nili).cell 3).toInt), AV.e (E.int IntKind.i64 ((gs.getD i.toNat E.nili).cell 4).toInt),
              AV.e (E.sl 9 ((gs.getD i.toNat E.nili).cell 5).toList), AV.e (E.sl 31 ((gs.getD i.toNat E.nili).cell 6).toList), AV.e (E.sl 65 ((gs.getD i.toNat E.nili).cell 7).toList)], AV.e (E.int IntKind.i64 n)] [] = some (.ret (num (c (fieldTy (gs.getD i.toNat E.nili)))), []) := by
        rw [hx] at e1 ⊢; exact e1
      refine cond_run (and_yes (dec_yes h0) (dec_yes (by omega))) (callE e1' ?_)
      generalize c (fieldTy (gs.getD i.toNat E.nili)) = v
      by_cases hv : v = 0
      · subst hv
        refine cond_not rfl ?_
        rw [wrap_in (n := i + 1) (by omega) (by omega)]
        exact bind_run e2 rfl
      · refine cond_run (by rw [show (Res.ret (num v)).val.data.toInt = v from rfl, ne_beq hv]; rfl) ?_
        rw [ne_beq hv]
        show _ = some (outF 44 0 v)
        unfold outF
        rw [ne_beq hv]
        rfl
    refine cond_run (dec_yes (by omega)) (cond_run (and_yes (dec_yes h0) (dec_yes (by omega))) (callB (rName_run hnm) ?_))
    change (bif !(nameS (nmE (gs.getD i.toNat E.nili))) then _ else _) = _
    unfold fldsS namedS
    cases nameS (nmE (gs.getD i.toNat E.nili)) with
    | false => exact cond_run rfl rfl
    | true =>
      refine cond_not rfl ?_
      by_cases hz : i = 0
      · subst hz
        refine cond_not rfl ?_
        exact tail _ rfl
      · rw [dec_yes (show 0 < i by omega), ne_beq hz, show (max 0 (i - 1)) = i - 1 by omega]
        rw [wrap_in (n := i - 1) (by omega) (by omega)]
        refine cond_run rfl (cond_run (and_yes (dec_yes h0) (dec_yes (by omega))) (cond_run (and_yes (dec_yes (by omega)) (dec_yes (by omega))) ?_))
        change (bif notAfter (nmE (gs.getD i.toNat E.nili)) (nmE (gs.getD (i - 1).toNat E.nili)) then _ else _) = _
        cases notAfter (nmE (gs.getD i.toNat E.nili)) (nmE (gs.getD (i - 1).toNat E.nili)) with
        | true => exact cond_run rfl rfl
        | false =>
          refine cond_not rfl ?_
          exact tail _ rfl

theorem fields_run {gs : List E} {n : Int} {c : E → Int} (hl : gs.length ≤ maxLen) (hc : ∀ x ∈ gs, RR none 38 [slotsOf (fieldTy x), num n] [] = some (.ret (num (c (fieldTy x))), [])) (ht : ∀ x ∈ gs, Ty (fieldTy x))
    (hn : ∀ x ∈ gs, ∃ n op cs, x = .agg (.str n :: .bool op :: cs) ∧ n.length ≤ maxLen) :
    RR none 66 [.e (.sl 65 gs), num n] [] = some (.ret (num (if 16 < gs.length then 5 else fldsS c true [] gs)), []) := by
  refine run_of_body ((eq_fields RR LL gs n).trans ?_)
  by_cases h16 : 16 < gs.length
  · rw [if_pos h16]; exact cond_run (dec_yes (by omega)) rfl
  · rw [if_neg h16]
    refine cond_not (dec_no (by omega)) ?_
    have e1 := fields4 hl hc ht hn gs.length 0 (by omega) (by omega) (by simp)
    rw [show ((0 : Int) == 0) = true from rfl, fldsS_first _ _ [] _, Int.toNat_zero, List.drop_zero] at e1
    generalize fldsS c true [] gs = e at e1 ⊢
    by_cases he : e = 0
    · subst he
      exact bind_run e1 (cond_run rfl (cond_run (by kernel_rfl) rfl))
    · unfold outF at e1
      rw [ne_beq he] at e1
      exact bind_run e1 (cond_not rfl (cond_run rfl (cond_run (by kernel_rfl) rfl)))

theorem checkS_at (d : Nat) (k mn mx : Int) (os fs gs : List E) : checkS (d + 1) (.agg [.int .i64 k, .int .i64 mn, .int .i64 mx, .sl 9 os, .sl 31 fs, .sl 65 gs]) =
    if k < 1 ∨ 7 < k then 10 else if unusedS k mn mx os.length fs.length gs.length then 28
    else if k = 1 then rangeS mn mx (-4611686018427387904) 4611686018427387904
    else if k = 2 then rangeS mn mx 0 256
    else if k = 4 then optsS os
    else if k = 5 then (if rangeS mn mx 0 32 = 0 then checkS d (fs.getD 0 .nili) else rangeS mn mx 0 32)
    else if k = 6 then (if 16 < gs.length then 5 else fldsS (checkS d) true [] gs)
    else 0 := rfl

theorem unused_one {k mn mx : Int} {o f g : Nat} (h : unusedS k mn mx o f g = false) (h5 : k = 5) : f = 1 := by
  subst h5
  unfold unusedS unusedB at h
  simp only [Bool.or_eq_false_iff] at h
  have := h.1.2
  change (!((f : Int) == 1)) = false at this
  have h1 : ((f : Int) == 1) = true := by simpa using this
  have : (f : Int) = 1 := by simpa using h1
  omega

theorem rcheck_run : ∀ (d : Nat) (e : E), rdeepS d e = false → Ty e → ∀ n, RR none 38 [slotsOf e, num n] [] = some (.ret (num (checkS d e)), [])
  | 0, e, h, _, _ => by cases h
  | d + 1, e, h, ht, n => by
    cases ht with
    | mk k mn mx os fs gs ho hol hf hfl hg hgn hgl hk hmn hmx =>
    rw [rdeepS_at, Bool.or_eq_false_iff] at h
    rw [checkS_at]
    have hos : ∀ x ∈ os, (nmE x).length ≤ maxLen := fun x hx => by obtain ⟨m, rfl, hm⟩ := ho x hx; exact hm
    refine run_of_body ((eq_rcheck RR LL k mn mx os fs gs n).trans ?_)
    by_cases h17 : k < 1 ∨ 7 < k
    · rw [if_pos h17]
      exact cond_run (or2_yes (by rcases h17 with h | h; exact .inl (dec_yes h); exact .inr (dec_yes h))) rfl
    rw [if_neg h17]
    refine cond_not (or2_no (dec_no (by omega)) (dec_no (by omega))) (callB (runused_run k mn mx os fs gs) ?_)
    cases hu : unusedS k mn mx os.length fs.length gs.length with
    | true => exact cond_run rfl rfl
    | false =>
    refine cond_not rfl ?_
    rw [if_neg (by decide)]
    have r01 : ∀ a b : Int, rangeS mn mx a b = 0 ∨ rangeS mn mx a b = 1 := fun a b => by unfold rangeS; split; exact .inl rfl; exact .inr rfl
    by_cases h1 : k = 1
    · rw [if_pos h1]
      refine cond_run (eq_beq h1) (callB (rwithin_run _ _ _ _) ?_)
      rcases r01 (-4611686018427387904) 4611686018427387904 with e | e <;> rw [e]
      · exact cond_not rfl rfl
      · exact cond_run rfl rfl
    rw [if_neg h1]
    refine cond_not (ne_beq h1) ?_
    by_cases h2 : k = 2
    · rw [if_pos h2]
      refine cond_run (eq_beq h2) (callB (rwithin_run _ _ _ _) ?_)
      rcases r01 0 256 with e | e <;> rw [e]
      · exact cond_not rfl rfl
      · exact cond_run rfl rfl
    rw [if_neg h2]
    refine cond_not (ne_beq h2) ?_
    by_cases h4 : k = 4
    · rw [if_pos h4]
      exact cond_run (eq_beq h4) (callE (options_run hol hos) rfl)
    rw [if_neg h4]
    refine cond_not (ne_beq h4) ?_
    by_cases h5 : k = 5
    · rw [if_pos h5]
      have h1' := unused_one hu h5
      refine cond_run (eq_beq h5) (callB (rwithin_run _ _ _ _) ?_)
      rcases r01 0 32 with hr | hr
      · rw [if_pos hr, hr]
        refine cond_not rfl (cond_run (dec_yes (by omega)) ?_)
        have hm : fs.getD 0 .nili ∈ fs := getD_mem (by omega)
        have hd : rdeepS d (fs.getD 0 .nili) = false := by
          have := h.1
          rw [if_pos h5] at this
          rw [List.any_eq_false] at this
          simpa using this _ hm
        have e1 := rcheck_run d _ hd (hf _ hm) (IntKind.i64.wrap (n + 1))
        have hx := hf _ hm
        generalize fs.getD 0 E.nili = x at e1 hx ⊢
        cases hx
        exact callE e1 rfl
      · rw [if_neg (by omega), hr]
        exact cond_run rfl rfl
    rw [if_neg h5]
    refine cond_not (ne_beq h5) ?_
    by_cases h6 : k = 6
    · rw [if_pos h6]
      have hd : ∀ x ∈ gs, rdeepS d (fieldTy x) = false := fun x hx => by
        have := h.2
        rw [if_pos h6, List.any_eq_false] at this
        simpa using this x hx
      exact cond_run (eq_beq h6) (callE (fields_run hgl (c := checkS d) (fun x hx => rcheck_run d _ (hd x hx) (hg x hx) _) hg hgn) rfl)
    rw [if_neg h6]
    exact cond_not (ne_beq h6) rfl

/-- What both say of a schema. -/
def CheckS (e : E) : Int := if rdeepS 6 e = true then 27 else checkS 6 e

theorem RCheck_run {e : E} (h : Ty e) : RR none 15 [slotsOf e] [] = some (.ret (num (CheckS e)), []) := by
  have e1 := rdeep_run 6 e (by omega) h
  have e2 : rdeepS 6 e = false → _ := fun hh => rcheck_run 6 e hh h 1
  unfold CheckS
  cases h with
  | mk k mn mx os fs gs =>
  refine run_of_body ((eq_RCheck RR LL k mn mx os fs gs).trans (callB e1 ?_))
  cases hr : rdeepS 6 (E.agg [E.int IntKind.i64 k, E.int IntKind.i64 mn, E.int IntKind.i64 mx, E.sl 9 os, E.sl 31 fs, E.sl 65 gs]) with
  | true => exact cond_run rfl rfl
  | false => exact cond_not rfl (callE (e2 hr) rfl)

end Go.Proofs.YtapndkailgcboaaGreatDoor
