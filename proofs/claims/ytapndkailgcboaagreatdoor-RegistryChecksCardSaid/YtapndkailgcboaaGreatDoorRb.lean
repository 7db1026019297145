/- Registries: the checks, light. -/
import Derived.Test.YtapndkailgcboaaGreatDoorRa
namespace Go.Proofs.YtapndkailgcboaaGreatDoor
open Go Go.Den
set_option maxRecDepth 100000

abbrev nq (n : List UInt8) (e : E) : Bool := strEq (sN e) n
def ckAt (xs : List E) (i : Nat) : Option Int :=
  if descE (ixS (nq (sN (xs.getD i E.nili))) (xs.take i)) (sN (xs.getD i E.nili)) (sF (xs.getD i E.nili)) (sM (xs.getD i E.nili)) = 0 then
    (if versE (sM (xs.getD i E.nili)) (sV (xs.getD i E.nili)) = 0 then none else some (versE (sM (xs.getD i E.nili)) (sV (xs.getD i E.nili))))
  else some (descE (ixS (nq (sN (xs.getD i E.nili))) (xs.take i)) (sN (xs.getD i E.nili)) (sF (xs.getD i E.nili)) (sM (xs.getD i E.nili)))
def CheckR (xs : List E) : Int := if 32 < xs.length then 5 else (firstO (ckAt xs) xs.length 0).getD 0

/-! ### The program's -/

def ckR (c : Int) : Out := { ex := .ret, fr := [AV.undef, AV.undef, num c] ++ List.replicate 63 AV.undef, hp := [], df := [] }
def ckX2 (xs : List E) (n i : Int) : Out := { ex := .exit 2, fr := [.e (.sl 46 xs)] ++ List.replicate 11 AV.undef ++ [.e (.sl 46 xs), num n, num i] ++ List.replicate 51 AV.undef, hp := [], df := [] }
def ckX : Out := { ex := .exit 0, fr := List.replicate 66 AV.undef, hp := [], df := [] }
theorem ck_inner (xs : List E) (a i : Int) (n f : List UInt8) (m : Int) (vs : List E) (hv : ∀ x ∈ vs, Ty x) (hl : vs.length ≤ 16) :
    LL 12 0 lc_12_12 ((((((((List.replicate 66 AV.undef).set 0 (.e (.sl 46 xs))).set 4 (.ptr 0 0)).set 12 (.e (.sl 46 xs))).set 13 (.e (.int .i64 a))).set 14 (.e (.int .i64 i))).set 37 (.e (.sl 31 vs))).set 38 (.e (.int .i64 (vs.length : Int))) |>.set 39 (.e (.int .i64 0))) [.box [.e (.str n), .e (.str f), .e (.int .i64 m), .e (.sl 31 vs)]] =
      some (((firstO (verAt m vs) vs.length 0).map ckR).getD (ckX2 xs a i)) := by
  refine scan_inv (G := fun j => LL 12 0 lc_12_12 ((((((((List.replicate 66 AV.undef).set 0 (.e (.sl 46 xs))).set 4 (.ptr 0 0)).set 12 (.e (.sl 46 xs))).set 13 (.e (.int .i64 a))).set 14 (.e (.int .i64 i))).set 37 (.e (.sl 31 vs))).set 38 (.e (.int .i64 (vs.length : Int))) |>.set 39 (.e (.int .i64 (j : Int)))) [.box [.e (.str n), .e (.str f), .e (.int .i64 m), .e (.sl 31 vs)]]) ?_ ?_
  · intro j hi hj r h
    have body := eq_Check3L12 RR LL xs xs a i vs vs.length j n f m vs
    have w : IntKind.i64.wrap ((j : Int) + 1) = ((j + 1 : Nat) : Int) := by rw [wrap_in (by omega) (by omega)]; omega
    rw [nat_at, w] at body
    have t2 := hv _ (getD_mem hi)
    have c := Check_run t2
    rw [← slots_ty t2] at c
    refine loop_of_body (body.trans (cond_run (nat_lt hi) (cond_run (nat_in hi) (callE c ?_))))
    unfold verAt at h
    by_cases z : CheckS (vs.getD j E.nili) = 0
    · rw [if_pos z] at h
      refine cond_not (show (!(CheckS (vs.getD j E.nili) == 0)) = false by rw [eq_beq z]; rfl) ?_
      by_cases hp : 0 < j
      · obtain ⟨q, _⟩ := ver_step (m := m) hv hi hj z hp
        have t1 := hv _ (getD_mem (show j - 1 < vs.length by omega))
        rw [← slots_ty t1, ← slots_ty t2] at q
        have w1 : IntKind.i64.wrap ((j : Int) - 1) = ((j - 1 : Nat) : Int) := by rw [wrap_in (by omega) (by omega)]; omega
        rw [w1, nat_at]
        refine cond_run (show (decide ((0 : Int) < (j : Int)) == true) = true by rw [dec_yes (by omega)]; rfl) (cond_run (nat_in (by omega)) (callB q ?_))
        cases hm : modeB m (vs.getD (j - 1) E.nili) (vs.getD j E.nili) with
        | false => rw [if_pos ⟨hp, hm⟩] at h; exact cond_run rfl h
        | true => rw [if_neg (by rintro ⟨_, k⟩; rw [hm] at k; cases k)] at h; exact cond_not rfl (bind_run h rfl)
      · rw [if_neg (fun k => hp k.1)] at h
        exact cond_not (show (decide ((0 : Int) < (j : Int)) == true) = false by rw [dec_no (by omega)]; rfl) (bind_run h rfl)
    · rw [if_neg z] at h
      exact cond_run (show (!(CheckS (vs.getD j E.nili) == 0)) = true by rw [ne_beq z]; rfl) h
  · exact loop_of_body ((eq_Check3L12 RR LL xs xs a i vs vs.length vs.length n f m vs).trans (cond_not (nat_end _) rfl))

theorem ck_loop (xs : List E) (hs : ∀ x ∈ xs, Su x) (hl : xs.length ≤ 32) :
    LL 12 0 lc_12_4 (((((List.replicate 66 AV.undef).set 0 (.e (.sl 46 xs))).set 12 (.e (.sl 46 xs))).set 13 (.e (.int .i64 (xs.length : Int)))).set 14 (.e (.int .i64 0))) [] = some (((firstO (ckAt xs) xs.length 0).map ckR).getD ckX) := by
  refine scan_inv (G := fun i => LL 12 0 lc_12_4 (((((List.replicate 66 AV.undef).set 0 (.e (.sl 46 xs))).set 12 (.e (.sl 46 xs))).set 13 (.e (.int .i64 (xs.length : Int)))).set 14 (.e (.int .i64 (i : Int)))) []) ?_ ?_
  · intro i hi _ r h
    have body := eq_Check3L4 RR LL xs xs xs.length i
    rw [nat_at, List.drop_zero] at body
    have su := hs _ (getD_mem hi)
    unfold ckAt at h
    generalize xs.getD i E.nili = e at body su h
    have d := desc_run (xs.take i) (sN e) (sF e) (sM e) (by rw [List.length_take, maxLen_eq]; omega)
    refine loop_of_body (body.trans (cond_run (nat_lt hi) (cond_run (nat_in hi) (cond_run (by simp; omega) (callE d ?_)))))
    show (bif !(descE (ixS (nq (sN e)) (xs.take i)) (sN e) (sF e) (sM e) == 0) then _ else _) = _
    by_cases z : descE (ixS (nq (sN e)) (xs.take i)) (sN e) (sF e) (sM e) = 0
    · rw [if_pos z] at h
      refine cond_not (by rw [eq_beq z]; rfl) ?_
      cases su with
      | mk n f m vs hn hf hv hvl =>
      change (match (if versE m vs = 0 then none else some (versE m vs)) with | some x => some (ckR x) | none => _) = some r at h
      unfold versE at h
      by_cases h16 : 16 < vs.length
      · rw [if_pos h16] at h
        exact cond_run (dec_yes (show (16 : Int) < (vs.length : Int) by omega)) h
      rw [if_neg h16] at h
      refine cond_not (dec_no (show ¬ (16 : Int) < (vs.length : Int) by omega)) (bind_run (ck_inner xs xs.length i n f m vs hv (by omega)) ?_)
      cases hv0 : firstO (verAt m vs) vs.length 0 with
      | none =>
        rw [hv0] at h
        refine cond_run rfl (cond_run rfl ?_)
        have w : IntKind.i64.wrap ((i : Int) + 1) = ((i + 1 : Nat) : Int) := by rw [wrap_in (by omega) (by omega)]; omega
        show (Option.bind (LL 12 0 lc_12_4 ([AV.e (E.sl 46 xs)] ++ List.replicate 11 AV.undef ++ [AV.e (E.sl 46 xs), num (xs.length : Int), num (IntKind.i64.wrap ((i : Int) + 1))] ++ List.replicate 51 AV.undef) []) fun o => some o) = _
        rw [w]
        exact bind_run h rfl
      | some x =>
        rw [hv0] at h
        have hx : x ≠ 0 := by
          have : ∀ k i, firstO (verAt m vs) k i = some x → x ≠ 0 := by
            intro k
            induction k with
            | zero => intro i h; cases h
            | succ k ih =>
              intro i h
              unfold firstO at h
              cases hc : verAt m vs i with
              | none => rw [hc] at h; exact ih _ h
              | some y =>
                rw [hc] at h
                injection h with h
                subst h
                unfold verAt at hc
                split at hc
                · split at hc
                  · injection hc with hc; omega
                  · cases hc
                · rename_i k; injection hc with hc; rw [← hc]; exact k
          exact this _ _ hv0
        rw [if_neg (show ¬ (some x).getD 0 = 0 from hx)] at h
        exact cond_not rfl (cond_run rfl (cond_run rfl h))
    · rw [if_neg z] at h
      exact cond_run (by rw [ne_beq z]; rfl) h
  · exact loop_of_body ((eq_Check3L4 RR LL xs xs xs.length xs.length).trans (cond_not (nat_end _) rfl))
theorem CheckR_run {xs : List E} (hs : ∀ x ∈ xs, Su x) : RR none 12 [.e (.sl 46 xs)] [] = some (.ret (num (CheckR xs)), []) := by
  refine run_of_body ((eq_Check3 RR LL xs).trans ?_)
  unfold CheckR
  by_cases h : 32 < xs.length
  · rw [if_pos h]; exact cond_run (dec_yes (by omega)) rfl
  rw [if_neg h]
  refine cond_not (dec_no (by omega)) (bind_run (ck_loop xs hs (by omega)) ?_)
  cases firstO (ckAt xs) xs.length 0 <;> rfl

/-! ### The reference's -/

theorem at_take {q : E → Bool} {xs : List E} {i : Nat} (hi : i < xs.length) (hq : q (xs.getD i E.nili) = true) : decide (ixS q xs < (i : Int)) = decide (0 ≤ ixS q (xs.take i)) := by
  have tk : ∀ j, j < i → (xs.take i).getD j E.nili = xs.getD j E.nili := fun j hj => by
    rw [List.getD_eq_getElem?_getD, List.getD_eq_getElem?_getD, List.getElem?_take, if_pos hj]
  have tl : (xs.take i).length = i := by rw [List.length_take]; omega
  rcases ixS_cases q xs with ⟨h1, h2⟩ | ⟨j, h1, h2, h3, h4⟩
  · exact absurd hq (by rw [h2 i hi]; simp)
  · have hji : j ≤ i := by
      by_cases k : j ≤ i
      · exact k
      · exact absurd hq (by rw [h4 i (by omega)]; simp)
    rw [h1]
    rcases ixS_cases q (xs.take i) with ⟨g1, g2⟩ | ⟨l, g1, g2, g3, g4⟩
    · have : ¬ j < i := fun k => by
        have := g2 j (by omega)
        rw [tk j k, h3] at this; cases this
      rw [g1, dec_no (by omega), dec_no (by omega)]
    · have : j < i := by
        by_cases k : j < i
        · exact k
        · have := h4 l (by omega)
          rw [tk l (by omega), this] at g3; cases g3
      rw [g1, dec_yes (by omega), dec_yes (by omega)]

def rkR (c : Int) : Out := { ex := .ret, fr := [AV.undef, AV.undef, num c] ++ List.replicate 49 AV.undef, hp := [], df := [] }
def rkX : Out := { ex := .exit 0, fr := List.replicate 52 AV.undef, hp := [], df := [] }
theorem rk_loop (xs : List E) (hs : ∀ x ∈ xs, Su x) (hl : xs.length ≤ 32) :
    LL 13 0 lc_13_4 (((List.replicate 52 AV.undef).set 0 (.e (.sl 46 xs))).set 3 (.e (.int .i64 0))) [] = some (((firstO (ckAt xs) xs.length 0).map rkR).getD rkX) := by
  refine scan_inv (G := fun i => LL 13 0 lc_13_4 (((List.replicate 52 AV.undef).set 0 (.e (.sl 46 xs))).set 3 (.e (.int .i64 (i : Int)))) []) ?_ ?_
  · intro i hi _ r h
    have body := eq_RCheck3L4 RR LL xs i
    have w : IntKind.i64.wrap ((i : Int) + 1) = ((i + 1 : Nat) : Int) := by rw [wrap_in (by omega) (by omega)]; omega
    rw [nat_at, w] at body
    have su := hs _ (getD_mem hi)
    have ht := at_take (q := nq (sN (xs.getD i E.nili))) hi (by simp [nq, strEq])
    unfold ckAt at h
    generalize xs.getD i E.nili = e at body su h ht
    have i1 := RAt_run xs (sN e) (by rw [maxLen_eq]; omega)
    refine loop_of_body (body.trans (cond_run (nat_lt hi) (cond_run (nat_in hi) (callB (rName_run su.name) ?_))))
    unfold descE at h
    show (bif !nameS (sN e) then _ else _) = _
    cases hn : nameS (sN e) with
    | false => rw [hn] at h; exact cond_run rfl h
    | true =>
    rw [hn] at h
    refine cond_not rfl (cond_run (nat_in hi) (callN i1 ?_))
    show (bif decide (ixS (nq (sN e)) xs < (i : Int)) then _ else _) = _
    rw [ht]
    cases h0 : decide (0 ≤ ixS (nq (sN e)) (xs.take i)) with
    | true => rw [h0] at h; exact cond_run rfl h
    | false =>
    rw [h0] at h
    refine cond_not rfl (cond_run (nat_in hi) (callB (Top.RFilter_run (sF e)) ?_))
    show (bif !Top.filterS (sF e) then _ else _) = _
    cases hf : Top.filterS (sF e) with
    | false => rw [hf] at h; exact cond_run rfl h
    | true =>
    rw [hf] at h
    refine cond_not rfl (cond_run (nat_in hi) (callB (RMode_run (sM e)) ?_))
    show (bif !modeOk (sM e) then _ else _) = _
    cases hm : modeOk (sM e) with
    | false => rw [hm] at h; exact cond_run rfl h
    | true =>
    rw [hm] at h
    refine cond_not rfl (cond_run (nat_in hi) (callE (RVers_run su) ?_))
    show (bif !(versE (sM e) (sV e) == 0) then _ else _) = _
    change (match (if versE (sM e) (sV e) = 0 then none else some (versE (sM e) (sV e))) with | some x => some (rkR x) | none => _) = some r at h
    by_cases z : versE (sM e) (sV e) = 0
    · rw [if_pos z] at h
      exact cond_not (by rw [eq_beq z]; rfl) (bind_run h rfl)
    · rw [if_neg z] at h
      exact cond_run (by rw [ne_beq z]; rfl) h
  · exact loop_of_body ((eq_RCheck3L4 RR LL xs xs.length).trans (cond_not (nat_end _) rfl))
theorem RCheckR_run {xs : List E} (hs : ∀ x ∈ xs, Su x) : RR none 13 [.e (.sl 46 xs)] [] = some (.ret (num (CheckR xs)), []) := by
  refine run_of_body ((eq_RCheck3 RR LL xs).trans ?_)
  unfold CheckR
  by_cases h : 32 < xs.length
  · rw [if_pos h]; exact cond_run (dec_yes (by omega)) rfl
  rw [if_neg h]
  refine cond_not (dec_no (by omega)) (bind_run (rk_loop xs hs (by omega)) ?_)
  cases firstO (ckAt xs) xs.length 0 <;> rfl

/-! ### light -/

theorem light7 {xs : List E} (hs : ∀ x ∈ xs, Su x) (i : Nat) (hi : i < xs.length) : ∀ (k j : Nat) (n : Int), j + k = (sV (xs.getD i E.nili)).length → ∃ m, LL 10 0 lc_10_7 (((((List.replicate 44 AV.undef).set 0 (.e (.sl 46 xs))).set 3 (.e (.int .i64 n))).set 4 (.e (.int .i64 (i : Int)))).set 5 (.e (.int .i64 (j : Int)))) [] =
    some { ex := .exit 2, fr := [.e (.sl 46 xs), AV.undef, AV.undef, num m, num (i : Int)] ++ List.replicate 39 AV.undef, hp := [], df := [] } := by
  have su := hs _ (getD_mem hi)
  intro k
  induction k with
  | zero =>
    intro j n h
    have body := eq_llightL7 RR LL xs n i j
    rw [nat_at] at body
    have : j = (sV (xs.getD i E.nili)).length := by omega
    subst this
    exact ⟨n, loop_of_body (body.trans (cond_run (nat_in hi) (cond_not (by rw [show decide (((sV (xs.getD i E.nili)).length : Int) < ((xs.getD i E.nili).cell 3).toList.length) = false from nat_end _]; rfl) rfl)))⟩
  | succ k ih =>
    intro j n h
    have body := eq_llightL7 RR LL xs n i j
    have hj : j < (sV (xs.getD i E.nili)).length := by omega
    rw [nat_at, nat_at, nat_wrap hj su.vlen] at body
    by_cases hn : n < 600
    · have t2 := su.vers _ (getD_mem hj)
      obtain ⟨m1, e1⟩ := nodes_run t2 n
      rw [← slots_ty t2] at e1
      obtain ⟨m2, e2⟩ := ih (j + 1) m1 (by omega)
      exact ⟨m2, loop_of_body (body.trans (cond_run (nat_in hi) (cond_run (and2_yes (nat_lt hj) (dec_yes hn)) (cond_run (nat_in hi) (cond_run (nat_in hj) (callN e1 (bind_run e2 rfl)))))))⟩
    · exact ⟨n, loop_of_body (body.trans (cond_run (nat_in hi) (cond_not (and2_no (.inr (dec_no hn))) rfl)))⟩
theorem light3 {xs : List E} (hs : ∀ x ∈ xs, Su x) (hl : xs.length ≤ maxLen) : ∀ (k i : Nat) (n : Int), i + k = xs.length → ∃ m, LL 10 0 lc_10_3 ((((List.replicate 44 AV.undef).set 0 (.e (.sl 46 xs))).set 3 (.e (.int .i64 n))).set 4 (.e (.int .i64 (i : Int)))) [] =
    some { ex := .exit 0, fr := [AV.undef, AV.undef, AV.undef, num m] ++ List.replicate 40 AV.undef, hp := [], df := [] } := by
  intro k
  induction k with
  | zero =>
    intro i n h
    have : i = xs.length := by omega
    subst this
    exact ⟨n, loop_of_body ((eq_llightL3 RR LL xs n xs.length).trans (cond_not (and2_no (.inl (nat_end _))) rfl))⟩
  | succ k ih =>
    intro i n h
    have hi : i < xs.length := by omega
    have body := eq_llightL3 RR LL xs n i
    by_cases hn : n < 600
    · obtain ⟨m1, e1⟩ := light7 hs i hi _ 0 (IntKind.i64.wrap (n + 1)) (Nat.zero_add _)
      obtain ⟨m2, e2⟩ := ih (i + 1) m1 (by omega)
      refine ⟨m2, loop_of_body (body.trans (cond_run (and2_yes (nat_lt hi) (dec_yes hn)) (bind_run e1 (cond_run rfl (cond_run rfl ?_)))))⟩
      show (Option.bind (LL 10 0 lc_10_3 ([AV.e (E.sl 46 xs), AV.undef, AV.undef, num m1, num (IntKind.i64.wrap ((i : Int) + 1))] ++ List.replicate 39 AV.undef) []) fun o => some o) = _
      rw [nat_wrap hi hl]
      exact bind_run e2 rfl
    · exact ⟨n, loop_of_body (body.trans (cond_not (and2_no (.inr (dec_no hn))) rfl))⟩
theorem Light_run {xs : List E} (hs : ∀ x ∈ xs, Su x) (hl : xs.length ≤ maxLen) : ∃ b, RR none 10 [.e (.sl 46 xs)] [] = some (.ret (yes b), []) := by
  obtain ⟨m, e⟩ := light3 hs hl xs.length 0 0 (by omega)
  exact ⟨_, run_of_body ((eq_llight RR LL xs).trans (bind_run e (cond_run rfl (cond_run rfl rfl))))⟩

theorem LChecks_run {xs : List E} (hs : ∀ x ∈ xs, Su x) (hl : xs.length ≤ maxLen) : RR none 3 [.e (.sl 46 xs)] [] = some (.ret (yes true), []) := by
  obtain ⟨b, hb⟩ := Light_run hs hl
  refine run_of_body ((eq_LChecks RR LL xs).trans (callB hb ?_))
  cases b with
  | false => exact cond_run rfl rfl
  | true =>
    refine cond_not rfl (callE (CheckR_run hs) (callE (RCheckR_run hs) ?_))
    exact congrArg (fun x : Bool => some (Res.ret (yes x), ([] : Heap))) (beq_self_eq_true (CheckR xs))

/-! ### The argument -/

theorem flatU : flat Tryz.prog depth 46 = some [9, 9, 3, 28] := by kernel_rfl
theorem aggU : isAggB Tryz.prog 46 = true := by kernel_rfl
theorem und22 : Tryz.prog.underlying 22 = some (.slice 46) := by kernel_rfl

theorem su_of {cs : List E} (h : All2 (CellTy Tryz.prog) [9, 9, 3, 28] cs) : Su (.agg cs) := by
  obtain ⟨c0, _, rfl, h0, h⟩ := h.cons_inv
  obtain ⟨c1, _, rfl, h1, h⟩ := h.cons_inv
  obtain ⟨c2, _, rfl, h2, h⟩ := h.cons_inv
  obtain ⟨c3, _, rfl, h3, h⟩ := h.cons_inv
  cases h.nil_inv
  obtain ⟨n, rfl, hn⟩ := h0.str_inv und9
  obtain ⟨f, rfl, hf⟩ := h1.str_inv und9
  obtain ⟨m, rfl, hm⟩ := h2.int_inv und3
  obtain ⟨vs, ft, rfl, hvl, hft, f1, f2⟩ := h3.sl_inv und28
  rw [flatT] at hft
  injection hft with hft
  subst hft
  refine .mk n f m vs hn hf (fun y hy => ?_) hvl
  obtain ⟨i, hi, rfl⟩ := List.getElem_of_mem hy
  have hy' : vs[i]? = some vs[i] := List.getElem?_eq_getElem hi
  obtain ⟨k1, k2, _⟩ := f1 i _ hy'
  have e := k2 aggT
  rw [e]
  exact ty_of _ _ (Nat.lt_succ_self _) (all2_of k1 fun j t c e1 e2 => f2 i _ j t c hy' e1 e2)

theorem reg_param {es : List E} (h : ParamTy Tryz.prog 22 es) : ∃ xs, argOf Tryz.prog 22 es = .e (.sl 46 xs) ∧ (∀ x ∈ xs, Su x) ∧ xs.length ≤ maxLen := by
  have h := h.inv (show flat Tryz.prog depth 22 = some [22] by kernel_rfl)
  obtain ⟨x0, _, rfl, h0, h⟩ := h.cons_inv
  cases h.nil_inv
  obtain ⟨xs, ft, rfl, hxl, hft, f1, f2⟩ := h0.sl_inv und22
  rw [flatU] at hft
  injection hft with hft
  subst hft
  refine ⟨xs, ?_, fun y hy => ?_, hxl⟩
  · unfold argOf
    rw [show isAggB Tryz.prog 22 = false by kernel_rfl]
    rfl
  · obtain ⟨i, hi, rfl⟩ := List.getElem_of_mem hy
    have hy' : xs[i]? = some xs[i] := List.getElem?_eq_getElem hi
    obtain ⟨k1, k2, _⟩ := f1 i _ hy'
    have e := k2 aggU
    rw [e]
    exact su_of (all2_of k1 fun j t c e1 e2 => f2 i _ j t c hy' e1 e2)

theorem checks_law : LawRuns Tryz.prog HH 3 [22] := by
  refine lawRuns_of fun ess he => ?_
  obtain ⟨e0, _, rfl, h0, he⟩ := he.cons_inv
  cases he.nil_inv
  obtain ⟨xs, a0, hs, hl⟩ := reg_param h0
  simp only [List.zipWith_cons_cons, List.zipWith_nil_left, a0]
  exact LChecks_run hs hl

end Go.Proofs.YtapndkailgcboaaGreatDoor
