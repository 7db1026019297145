/- Numbers, read: the program's and the reference's. -/
import Derived.Test.YtmocefjnplmibaaGreatDoorPe
import Derived.Test.YtmocefjnplmibaaGreatDoorRa
import Derived.Test.YtmocefjnplmibaaGreatDoorDn6
namespace Go.Proofs.YtmocefjnplmibaaGreatDoor
open Go Go.Den
set_option maxRecDepth 100000

/-- What reading a number comes to. -/
def numA : Except Int Int → AV
  | .ok n => .tup [num n, num 0]
  | .error e => .tup [num 0, num e]
theorem numR_no {s : S8} (h : numC s = false) : numR s = .error 2 := by unfold numR; rw [h]; rfl
theorem numR_yes {s : S8} (h : numC s = true) (k : inI64 (numV s) = true) : numR s = .ok (numV s) := by unfold numR; rw [if_pos h, if_pos k]
theorem numR_out {s : S8} (h : numC s = true) (k : inI64 (numV s) = false) : numR s = .error 1 := by unfold numR; rw [if_pos h, k]; rfl
theorem i64_wrap (n : Int) : I64 (IntKind.i64.wrap n) := by unfold I64; rw [IntKind.wrap_i64]; omega
theorem inI64_iff {n : Int} : inI64 n = true ↔ I64 n := by unfold inI64 I64; rw [Bool.and_eq_true, decide_eq_true_eq, decide_eq_true_eq]
theorem wrap_id {n : Int} (h : inI64 n = true) : IntKind.i64.wrap n = n := by
  have h := inI64_iff.1 h
  exact wrap_in h.1 h.2
theorem wrap_back {s : S8} (e : Lib.itoa (IntKind.i64.wrap (numV s)) = s) : inI64 (numV s) = true := by
  have h := (itoa_num (IntKind.i64.wrap (numV s))).2
  rw [e] at h
  rw [h]
  exact inI64_iff.2 (i64_wrap _)
theorem wrap_neg {v w : Int} (h : v = w) : IntKind.i64.wrap (0 - IntKind.i64.wrap (-v)) = IntKind.i64.wrap w := by
  subst h
  rw [IntKind.wrap_i64, IntKind.wrap_i64, IntKind.wrap_i64]; omega
theorem natFrom_pow : ∀ (l : S8) (a : Nat), a * 10 ^ l.length ≤ natFrom a l := by
  intro l
  induction l with
  | nil => intro a; show a * 1 ≤ a; omega
  | cons c l ih =>
    intro a
    rw [natFrom_cons, List.length_cons, Nat.pow_succ]
    have := ih (a * 10 + (c.toNat - 48))
    have h2 : a * (10 ^ l.length * 10) ≤ (a * 10 + (c.toNat - 48)) * 10 ^ l.length := by
      rw [Nat.mul_comm (10 ^ l.length) 10, ← Nat.mul_assoc]
      exact Nat.mul_le_mul_right _ (by omega)
    omega
theorem big_out {s : S8} (hc : numC s = true) (h : 20 < s.length) : inI64 (numV s) = false := by
  cases hi : inI64 (numV s) with
  | false => rfl
  | true =>
    have hi := inI64_iff.1 hi
    have hl := Lib.itoa_length_le (numV s) hi.1 hi.2
    unfold numC at hc
    rw [strEq_dec, strEq_dec, Bool.and_eq_true, Bool.and_eq_true] at hc
    obtain ⟨⟨h1, h2⟩, h3⟩ := hc
    have hml : 20 ≤ (magS s).length := by
      unfold magS
      split
      · rw [List.length_drop]; omega
      · omega
    have h48 : (magS s).getD 0 0 ≠ 48 := by
      intro e
      have hs : s ≠ [48] := by rintro rfl; simp at h
      rw [dec_yes e, dec_no hs] at h2; cases h2
    have hp : 10000000000000000000 ≤ natFrom 0 (magS s) := by
      cases hm : magS s with
      | nil => rw [hm] at hml; simp at hml
      | cons c l =>
        rw [hm, List.all_cons, Bool.and_eq_true] at h3
        have hcd := digB_iff.1 h3.1
        have hc48 : c.toNat ≠ 48 := by
          intro e
          rw [hm] at h48
          exact h48 (UInt8.toNat_inj.1 e)
        rw [natFrom_cons]
        have hpw := natFrom_pow l (0 * 10 + (c.toNat - 48))
        have hll : 19 ≤ l.length := by rw [hm, List.length_cons] at hml; omega
        have h19 : 10 ^ 19 ≤ 10 ^ l.length := Nat.pow_le_pow_right (by decide) hll
        have : 1 * 10 ^ 19 ≤ (0 * 10 + (c.toNat - 48)) * 10 ^ l.length := Nat.mul_le_mul (by omega) h19
        omega
    unfold numV at hi
    split at hi <;> (obtain ⟨i1, i2⟩ := hi; omega)

/-! ### The reference's loops -/

theorem scan_from {α : Type} {s : List α} {d : α} {q : α → Bool} {G : Nat → Option Out} {bad fin : Out}
    (hs : ∀ i, i < s.length → ∀ r, (bif q (s.getD i d) then G (i + 1) else some bad) = some r → G i = some r) (hn : G s.length = some fin) (a : Nat) (ha : a ≤ s.length) :
    G a = some (bif (s.drop a).all q then fin else bad) := by
  have key : ∀ k i, i + k = s.length → G i = some (bif (s.drop i).all q then fin else bad) := by
    intro k
    induction k with
    | zero =>
      intro i h
      have : i = s.length := by omega
      subst this
      rw [List.drop_length]
      exact hn
    | succ k ih =>
      intro i h
      have hi : i < s.length := by omega
      refine hs i hi _ ?_
      rw [drop_getD hi d, List.all_cons, ih (i + 1) (by omega)]
      cases q (s.getD i d) <;> rfl
  exact key (s.length - a) a (by omega)
def rd7X (s : S8) (k : Int) : Out := { ex := .exit 0, fr := [str s, AV.undef, AV.undef, AV.undef, num k] ++ List.replicate 70 AV.undef, hp := [], df := [] }
def rd7R : Out := { ex := .ret, fr := [AV.undef, AV.undef, num 0, num 2] ++ List.replicate 71 AV.undef, hp := [], df := [] }
theorem rd7_loop (s : S8) (k : Nat) (hl : s.length ≤ 100000) (hk : k ≤ s.length) : LL 99 0 lc_99_7 ((((List.replicate 75 AV.undef).set 0 (.e (.str s))).set 4 (num (k : Int))).set 5 (num (k : Int))) [] = some (bif (s.drop k).all digB then rd7X s k else rd7R) := by
  refine scan_from (d := 0) (G := fun i => LL 99 0 lc_99_7 ((((List.replicate 75 AV.undef).set 0 (.e (.str s))).set 4 (num (k : Int))).set 5 (num (i : Int))) []) ?_ ?_ k hk
  · intro i hi r h
    have body := eq_ReadNumL7 RR LL s k i
    rw [nat_at, nat_wrap hi (by rw [maxLen_eq]; omega)] at body
    refine loop_of_body (body.trans (cond_run (nat_lt hi) (cond_run (nat_in hi) ?_)))
    generalize s.getD i 0 = c at h ⊢
    unfold digB at h
    by_cases h48 : (48 : Int) ≤ c.toNat
    · rw [dec_yes h48] at h
      refine cond_run (by rw [dec_no (by omega)]; rfl) (cond_run (nat_in hi) ?_)
      by_cases h57 : (c.toNat : Int) ≤ 57
      · rw [dec_yes h57] at h; exact cond_not (dec_no (by omega)) (bind_run h rfl)
      · rw [dec_no h57] at h; exact cond_run (dec_yes (by omega)) h
    · rw [dec_no h48] at h
      exact cond_not (by rw [dec_yes (by omega)]; rfl) h
  · exact loop_of_body ((eq_ReadNumL7 RR LL s k s.length).trans (cond_not (nat_end _) rfl))
def rd15X (s : S8) (k n : Int) : Out := { ex := .exit 2, fr := [str s, AV.undef, AV.undef, AV.undef, num k, AV.undef, num n] ++ List.replicate 68 AV.undef, hp := [], df := [] }
theorem rd15_loop (s : S8) (k : Nat) (hl : s.length ≤ 100000) (hk : k ≤ s.length) (hd : (s.drop k).all digB = true) :
    LL 99 0 lc_99_15 (((((List.replicate 75 AV.undef).set 0 (.e (.str s))).set 4 (num (k : Int))).set 6 (num 0)).set 7 (num (k : Int))) [] = some (rd15X s k (IntKind.i64.wrap (-(natFrom 0 (s.drop k) : Int)))) := by
  have key : ∀ j i, i + j = s.length → k ≤ i → LL 99 0 lc_99_15 (((((List.replicate 75 AV.undef).set 0 (.e (.str s))).set 4 (num (k : Int))).set 6 (num (IntKind.i64.wrap (-(natFrom 0 ((s.take i).drop k) : Int))))).set 7 (num (i : Int))) [] =
      some (rd15X s k (IntKind.i64.wrap (-(natFrom 0 (s.drop k) : Int)))) := by
    intro j
    induction j with
    | zero =>
      intro i h _
      have : i = s.length := by omega
      subst this
      rw [List.take_length]
      exact loop_of_body ((eq_ReadNumL15 RR LL s k _ s.length).trans (cond_not (nat_end _) rfl))
    | succ j ih =>
      intro i h hki
      have hi : i < s.length := by omega
      have body := eq_ReadNumL15 RR LL s k (IntKind.i64.wrap (-(natFrom 0 ((s.take i).drop k) : Int))) i
      rw [nat_at, nat_wrap hi (by rw [maxLen_eq]; omega)] at body
      have hc : 48 ≤ (s.getD i 0).toNat ∧ (s.getD i 0).toNat ≤ 57 := by
        apply digB_iff.1
        apply List.all_eq_true.1 hd
        rw [List.getD_eq_getElem?_getD, List.getElem?_eq_getElem hi]
        exact List.mem_iff_getElem.2 ⟨i - k, by rw [List.length_drop]; omega, by rw [List.getElem_drop]; simp [show k + (i - k) = i by omega]⟩
      have ht : (s.take (i + 1)).drop k = (s.take i).drop k ++ [s.getD i 0] := by
        rw [take_snoc hi 0, List.drop_append_of_le_length (by rw [List.length_take]; omega)]
      have hx := ih (i + 1) (by omega) (by omega)
      rw [ht, natFrom_snoc] at hx
      have hw : IntKind.i64.wrap (IntKind.i64.wrap (IntKind.i64.wrap (-(natFrom 0 ((s.take i).drop k) : Int)) * 10) - IntKind.i64.wrap (IntKind.u8.wrap (((s.getD i 0).toNat : Int) - 48))) =
          IntKind.i64.wrap (-((natFrom 0 ((s.take i).drop k) * 10 + ((s.getD i 0).toNat - 48) : Nat) : Int)) := by
        generalize natFrom 0 ((s.take i).drop k) = v
        generalize (s.getD i 0).toNat = c at hc
        have hu : IntKind.u8.wrap ((c : Int) - 48) = (c : Int) - 48 := by rw [IntKind.wrap_u8]; omega
        rw [hu, IntKind.wrap_i64, IntKind.wrap_i64, IntKind.wrap_i64, IntKind.wrap_i64, IntKind.wrap_i64]
        omega
      rw [hw] at body
      exact loop_of_body (body.trans (cond_run (nat_lt hi) (cond_run (nat_in hi) (bind_run hx rfl))))
  have := key (s.length - k) k (by omega) (Nat.le_refl _)
  rw [List.drop_eq_nil_of_le (by rw [List.length_take]; omega)] at this
  exact this

theorem ReadNumber_run (s : S8) (hlen : s.length ≤ 100000) : RR none 99 [str s] [] = some (.ret (numA (numR s)), []) := by
  refine run_of_body ((eq_ReadNum RR LL s).trans ?_)
  have e45 := byte_is (c := s.getD 0 0) (n := 45) (by decide)
  have e48 := byte_is (c := s.getD 0 0) (n := 48) (by decide)
  have f48 := byte_is (c := s.getD 1 0) (n := 48) (by decide)
  change (((s.getD 0 0).toNat : Int) == 45) = decide (s.getD 0 0 = 45) at e45
  change (((s.getD 0 0).toNat : Int) == 48) = decide (s.getD 0 0 = 48) at e48
  change (((s.getD 1 0).toNat : Int) == 48) = decide (s.getD 1 0 = 48) at f48
  rw [e45, e48, f48]
  cases hs : s with
  | nil => rfl
  | cons x xs =>
  rw [← hs]
  have h1 : 0 < s.length := by rw [hs]; simp
  refine cond_run (by rw [dec_yes (by omega)]; rfl) (cond_run (dec_yes (by omega)) ?_)
  by_cases hs45 : s.getD 0 0 = 45
  · have hm : s.drop 1 = magS s := by unfold magS; rw [if_pos hs45]
    refine cond_run (dec_yes hs45) ?_
    by_cases hl1 : s.length = 1
    · have hmn : magS s = [] := by rw [← hm]; exact List.drop_eq_nil_of_le (by omega)
      rw [numR_no (by unfold numC; rw [hmn]; rfl)]
      exact cond_not (by rw [hl1]; rfl) rfl
    refine cond_run (by rw [show ((s.length : Int) == 1) = false from beq_false_of_ne (by omega)]; rfl) (cond_run (dec_yes (by omega)) ?_)
    have hmg : (magS s).getD 0 0 = s.getD 1 0 := by rw [← hm, getD_drop]
    have hmne : magS s ≠ [] := by rw [← hm]; intro e; have := congrArg List.length e; rw [List.length_drop, List.length_nil] at this; omega
    have hs48 : s ≠ [48] := by intro e; rw [e] at hs45; cases hs45
    by_cases h48 : s.getD 1 0 = 48
    · rw [dec_yes h48, numR_no (by unfold numC; rw [hmg, strEq_dec, strEq_dec, dec_yes h48, dec_no hs48, dec_no hmne]; rfl)]
      exact cond_run rfl (cond_run (dec_yes (by omega)) rfl)
    · rw [dec_no h48]
      refine cond_not rfl ?_
      have hform : (!strEq (magS s) [] && !(decide ((magS s).getD 0 0 = 48) && !strEq s [48]) && true) = true := by rw [hmg, strEq_dec, dec_no h48, dec_no hmne]; rfl
      refine bind_run (rd7_loop s 1 hlen (by omega)) ?_
      cases hd : (s.drop 1).all digB with
      | false => rw [numR_no (by unfold numC; rw [← hm, hd, Bool.and_false])]; rfl
      | true =>
        have hd' : (magS s).all digB = true := by rw [← hm]; exact hd
        have hc : numC s = true := by
          unfold numC
          rw [hd']
          exact hform
        refine cond_run rfl (cond_run rfl ?_)
        by_cases h20 : 20 < s.length
        · rw [numR_out hc (big_out hc h20)]
          exact cond_run (dec_yes (show (20 : Int) < (s.length : Int) by omega)) rfl
        · refine cond_not (dec_no (show ¬ (20 : Int) < (s.length : Int) by omega)) (bind_run (rd15_loop s 1 hlen (by omega) hd) (cond_run rfl (cond_run rfl ?_)))
          have hv : (-(natFrom 0 (s.drop 1) : Int)) = numV s := by unfold numV; rw [if_pos hs45, ← hm]
          refine cond_not rfl ?_
          show ((RR none 48 [num (IntKind.i64.wrap (-(natFrom 0 (s.drop 1) : Int)))] []).bind _) = _
          have hE : IntKind.i64.wrap (-(natFrom 0 (s.drop 1) : Int)) = IntKind.i64.wrap (numV s) := congrArg _ hv
          rw [hE]
          refine callT (Number_run (i64_wrap _)) ?_
          rw [valS]
          show (bif !strEq (Lib.itoa (IntKind.i64.wrap (numV s))) s then some (Res.ret (.tup [num 0, num 1]), ([] : Heap)) else some (Res.ret (.tup [num (IntKind.i64.wrap (numV s)), num 0]), [])) = _
          skip
          cases hi : inI64 (numV s) with
          | true =>
            rw [numR_yes hc hi, wrap_id hi, num_itoa hc, strEq_self]; rfl
          | false =>
            rw [numR_out hc hi, strEq_dec, dec_no (fun e => by rw [wrap_back e] at hi; cases hi)]; rfl
  · have hm : s.drop 0 = magS s := by unfold magS; rw [if_neg hs45]; rfl
    refine cond_not (dec_no hs45) (cond_run (by rw [show ((s.length : Int) == 0) = false from beq_false_of_ne (by omega)]; rfl) (cond_run (dec_yes (by omega)) ?_))
    have hmg : (magS s).getD 0 0 = s.getD 0 0 := by rw [← hm]; rfl
    have hmne : magS s ≠ [] := by rw [← hm]; intro e; have := congrArg List.length e; rw [List.length_drop, List.length_nil] at this; omega
    by_cases h48 : s.getD 0 0 = 48
    · rw [dec_yes h48]
      refine cond_run rfl ?_
      by_cases hl1 : 1 < s.length
      · have hs48 : s ≠ [48] := by intro e; rw [e] at hl1; simp at hl1
        rw [numR_no (by unfold numC; rw [hmg, strEq_dec, strEq_dec, dec_yes h48, dec_no hs48, dec_no hmne]; rfl)]
        exact cond_run (dec_yes (by omega)) rfl
      · have hs48 : s = [48] := by
          have hx : xs = [] := by rw [hs, List.length_cons] at hl1; exact List.length_eq_zero_iff.1 (by omega)
          rw [hs, hx] at h48 ⊢
          rw [show x = 48 from h48]
        refine cond_not (dec_no (by omega)) ?_
        have hform : (!strEq (magS s) [] && !(decide ((magS s).getD 0 0 = 48) && !strEq s [48]) && true) = true := by rw [strEq_dec, strEq_dec, dec_yes hs48, dec_no hmne]; cases decide ((magS s).getD 0 0 = 48) <;> rfl
        refine bind_run (rd7_loop s 0 hlen (by omega)) ?_
        cases hd : (s.drop 0).all digB with
        | false => rw [numR_no (by unfold numC; rw [← hm, hd, Bool.and_false])]; rfl
        | true =>
          have hd' : (magS s).all digB = true := by rw [← hm]; exact hd
          have hc : numC s = true := by
            unfold numC
            rw [hd']
            exact hform
          refine cond_run rfl (cond_run rfl ?_)
          by_cases h20 : 20 < s.length
          · rw [numR_out hc (big_out hc h20)]
            exact cond_run (dec_yes (show (20 : Int) < (s.length : Int) by omega)) rfl
          · refine cond_not (dec_no (show ¬ (20 : Int) < (s.length : Int) by omega)) (bind_run (rd15_loop s 0 hlen (by omega) hd) (cond_run rfl (cond_run rfl ?_)))
            have hv : (natFrom 0 (s.drop 0) : Int) = numV s := by unfold numV; rw [if_neg hs45, ← hm]
            refine cond_run rfl ?_
            show ((RR none 48 [num (IntKind.i64.wrap (0 - IntKind.i64.wrap (-(natFrom 0 (s.drop 0) : Int))))] []).bind _) = _
            have hE : IntKind.i64.wrap (0 - IntKind.i64.wrap (-(natFrom 0 (s.drop 0) : Int))) = IntKind.i64.wrap (numV s) := wrap_neg hv
            rw [hE]
            refine callT (Number_run (i64_wrap _)) ?_
            rw [valS]
            show (bif !strEq (Lib.itoa (IntKind.i64.wrap (numV s))) s then some (Res.ret (.tup [num 0, num 1]), ([] : Heap)) else some (Res.ret (.tup [num (IntKind.i64.wrap (0 - IntKind.i64.wrap (-(natFrom 0 (s.drop 0) : Int)))), num 0]), [])) = _
            rw [hE]
            cases hi : inI64 (numV s) with
            | true =>
              rw [numR_yes hc hi, wrap_id hi, num_itoa hc, strEq_self]; rfl
            | false =>
              rw [numR_out hc hi, strEq_dec, dec_no (fun e => by rw [wrap_back e] at hi; cases hi)]; rfl
    · rw [dec_no h48]
      refine cond_not rfl ?_
      have hform : (!strEq (magS s) [] && !(decide ((magS s).getD 0 0 = 48) && !strEq s [48]) && true) = true := by rw [hmg, strEq_dec, dec_no h48, dec_no hmne]; rfl
      refine bind_run (rd7_loop s 0 hlen (by omega)) ?_
      cases hd : (s.drop 0).all digB with
      | false => rw [numR_no (by unfold numC; rw [← hm, hd, Bool.and_false])]; rfl
      | true =>
        have hd' : (magS s).all digB = true := by rw [← hm]; exact hd
        have hc : numC s = true := by
          unfold numC
          rw [hd']
          exact hform
        refine cond_run rfl (cond_run rfl ?_)
        by_cases h20 : 20 < s.length
        · rw [numR_out hc (big_out hc h20)]
          exact cond_run (dec_yes (show (20 : Int) < (s.length : Int) by omega)) rfl
        · refine cond_not (dec_no (show ¬ (20 : Int) < (s.length : Int) by omega)) (bind_run (rd15_loop s 0 hlen (by omega) hd) (cond_run rfl (cond_run rfl ?_)))
          have hv : (natFrom 0 (s.drop 0) : Int) = numV s := by unfold numV; rw [if_neg hs45, ← hm]
          refine cond_run rfl ?_
          show ((RR none 48 [num (IntKind.i64.wrap (0 - IntKind.i64.wrap (-(natFrom 0 (s.drop 0) : Int))))] []).bind _) = _
          have hE : IntKind.i64.wrap (0 - IntKind.i64.wrap (-(natFrom 0 (s.drop 0) : Int))) = IntKind.i64.wrap (numV s) := wrap_neg hv
          rw [hE]
          refine callT (Number_run (i64_wrap _)) ?_
          rw [valS]
          show (bif !strEq (Lib.itoa (IntKind.i64.wrap (numV s))) s then some (Res.ret (.tup [num 0, num 1]), ([] : Heap)) else some (Res.ret (.tup [num (IntKind.i64.wrap (0 - IntKind.i64.wrap (-(natFrom 0 (s.drop 0) : Int)))), num 0]), [])) = _
          rw [hE]
          cases hi : inI64 (numV s) with
          | true =>
            rw [numR_yes hc hi, wrap_id hi, num_itoa hc, strEq_self]; rfl
          | false =>
            rw [numR_out hc hi, strEq_dec, dec_no (fun e => by rw [wrap_back e] at hi; cases hi)]; rfl

/-! ### The program's test -/

def cnX : Out := { ex := .exit 0, fr := List.replicate 34 AV.undef, hp := [], df := [] }
def cnR : Out := { ex := .ret, fr := [AV.undef, AV.undef, yes false] ++ List.replicate 31 AV.undef, hp := [], df := [] }
theorem canon_loop (t : S8) (hl : t.length ≤ 100000) : LL 122 0 lc_122_5 (((List.replicate 34 AV.undef).set 3 (str t)).set 4 (num 0)) [] = some (bif t.all digB then cnX else cnR) := by
  refine scan_all (d := 0) (G := fun i => LL 122 0 lc_122_5 (((List.replicate 34 AV.undef).set 3 (str t)).set 4 (num (i : Int))) []) ?_ ?_
  · intro i hi r h
    have body := eq_canonicalL5 RR LL t i
    rw [nat_at, nat_wrap hi (by rw [maxLen_eq]; omega)] at body
    refine loop_of_body (body.trans (cond_run (nat_lt hi) (cond_run (nat_in hi) ?_)))
    generalize t.getD i 0 = c at h ⊢
    unfold digB at h
    by_cases h48 : (48 : Int) ≤ c.toNat
    · rw [dec_yes h48] at h
      refine cond_run (by rw [dec_no (by omega)]; rfl) (cond_run (nat_in hi) ?_)
      by_cases h57 : (c.toNat : Int) ≤ 57
      · rw [dec_yes h57] at h; exact cond_not (dec_no (by omega)) (bind_run h rfl)
      · rw [dec_no h57] at h; exact cond_run (dec_yes (by omega)) h
    · rw [dec_no h48] at h
      exact cond_not (by rw [dec_yes (by omega)]; rfl) h
  · exact loop_of_body ((eq_canonicalL5 RR LL t t.length).trans (cond_not (nat_end _) rfl))

end Go.Proofs.YtmocefjnplmibaaGreatDoor
