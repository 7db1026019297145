/- Registries: the checks, light. -/
import Derived.Test.YtapndkailgcboaaGreatDoorRa
namespace Go.Proofs.YtapndkailgcboaaGreatDoor
open Go Go.Den
set_option maxRecDepth 100000

abbrev nq (n : List UInt8) (e : E) : Bool := strEq (sN e) n
def ckAt (xs : List E) (i : Nat) : Option Int :=
  if descE (ixS (nq (sN (xs.getD i E.nili))) (xs.take i)) (sN (xs.getD i E.nili)) (sF (xs.getD i E.nili)) (sM (xs.getD i E.nili)) = 0 then
    (if versE (sM (xs.getD i E.nili)) (sV (xs.getD i E.nili)) = 0 then none else some (versE (sM (xs.getD i E.nili)) (sV (xs.getD i E.nili))))
  else some (descE (ixS (nq (sN (xs.getD i E.nili))) (xs.take i)) (sN (xs.getD i E.nili)) (sF (xs.getD i E.nili)) (sM (xs.getD i E.nili)))
def CheckR (xs : List E) : Int := if 32 < xs.length then 5 else (firstO (ckAt xs) xs.length 0).getD 0

/-! ### The program's -/

def ckR (c : Int) : Out := { ex := .ret, fr := [AV.undef, AV.undef, num c] ++ List.replicate 63 AV.undef, hp := [], df := [] }
def ckX2 (xs : List E) (n i : Int) : Out := { ex := .exit 2, fr := [.e (.sl 46 xs)] ++ List.replicate 11 AV.undef ++ [.e (.sl 46 xs), num n, num i] ++ List.replicate 51 AV.undef, hp := [], df := [] }
def ckX : Out := { ex := .exit 0, fr := List.replicate 66 AV.undef, hp := [], df := [] }
/-! ### The reference's -/

theorem at_take {q : E → Bool} {xs : List E} {i : Nat} (hi : i < xs.length) (hq : q (xs.getD i E.nili) = true) : decide (ixS q xs < (i : Int)) = decide (0 ≤ ixS q (xs.take i)) := by
  have tk : ∀ j, j < i → (xs.take i).getD j E.nili = xs.getD j E.nili := fun j hj => by
    rw [List.getD_eq_getElem?_getD, List.getD_eq_getElem?_getD, List.getElem?_take, if_pos hj]
  have tl : (xs.take i).length = i := by rw [List.length_take]; omega
  rcases ixS_cases q xs with ⟨h1, h2⟩ | ⟨j, h1, h2, h3, h4⟩
  · exact absurd hq (by rw [h2 i hi]; simp)
  · have hji : j ≤ i := by
      by_cases k : j ≤ i
      · exact k
      · exact absurd hq (by rw [h4 i (by omega)]; simp)
    rw [h1]
    rcases ixS_cases q (xs.take i) with ⟨g1, g2⟩ | ⟨l, g1, g2, g3, g4⟩
    · have : ¬ j < i := fun k => by
        have := g2 j (by omega)
        rw [tk j k, h3] at this; cases this
      rw [g1, dec_no (by omega), dec_no (by omega)]
    · have : j < i := by
        by_cases k : j < i
        · exact k
        · have := h4 l (by omega)
          rw [tk l (by omega), this] at g3; cases g3
      rw [g1, dec_yes (by omega), dec_yes (by omega)]

def rkR (c : Int) : Out := { ex := .ret, fr := [AV.undef, AV.undef, num c] ++ List.replicate 49 AV.undef, hp := [], df := [] }
def rkX : Out := { ex := .exit 0, fr := List.replicate 52 AV.undef, hp := [], df := [] }
theorem rk_loop (xs : List E) (hs : ∀ x ∈ xs, Su x) (hl : xs.length ≤ 32) :
    LL 13 0 lc_13_4 (((List.replicate 52 AV.undef).set 0 (.e (.sl 46 xs))).set 3 (.e (.int .i64 0))) [] = some (((firstO (ckAt xs) xs.length 0).map rkR).getD rkX) := by
  refine scan_inv (G := fun i => LL 13 0 lc_13_4 (((List.replicate 52 AV.undef).set 0 (.e (.sl 46 xs))).set 3 (.e (.int .i64 (i : Int)))) []) ?_ ?_
  · intro i hi _ r h
    have body := eq_RCheck3L4 RR LL xs i
    have w : IntKind.i64.wrap ((i : Int) + 1) = ((i + 1 : Nat) : Int) := by rw [wrap_in (by omega) (by omega)]; omega
    rw [nat_at, w] at body
    have su := hs _ (getD_mem hi)
    have ht := at_take (q := nq (sN (xs.getD i E.nili))) hi (by simp [nq, strEq])
    unfold ckAt at h
    generalize xs.getD i E.nili = e at body su h ht
    have i1 := RAt_run xs (sN e) (by rw [maxLen_eq]; omega)
    refine loop_of_body (body.trans (cond_run (nat_lt hi) (cond_run (nat_in hi) (callB (rName_run su.name) ?_))))
    unfold descE at h
    show (bif !nameS (sN e) then _ else _) = _
    cases hn : nameS (sN e) with
    | false => rw [hn] at h; exact cond_run rfl h
    | true =>
    rw [hn] at h
    refine cond_not rfl (cond_run (nat_in hi) (callN i1 ?_))
    show (bif decide (ixS (nq (sN e)) xs < (i : Int)) then _ else _) = _
    rw [ht]
    cases h0 : decide (0 ≤ ixS (nq (sN e)) (xs.take i)) with
    | true => rw [h0] at h; exact cond_run rfl h
    | false =>
    rw [h0] at h
    refine cond_not rfl (cond_run (nat_in hi) (callB (Top.RFilter_run (sF e)) ?_))
    show (bif !Top.filterS (sF e) then _ else _) = _
    cases hf : Top.filterS (sF e) with
    | false => rw [hf] at h; exact cond_run rfl h
    | true =>
    rw [hf] at h
    refine cond_not rfl (cond_run (nat_in hi) (callB (RMode_run (sM e)) ?_))
    show (bif !modeOk (sM e) then _ else _) = _
    cases hm : modeOk (sM e) with
    | false => rw [hm] at h; exact cond_run rfl h
    | true =>
    rw [hm] at h
    refine cond_not rfl (cond_run (nat_in hi) (callE (RVers_run su) ?_))
    show (bif !(versE (sM e) (sV e) == 0) then _ else _) = _
    change (match (if versE (sM e) (sV e) = 0 then none else some (versE (sM e) (sV e))) with | some x => some (rkR x) | none => _) = some r at h
    by_cases z : versE (sM e) (sV e) = 0
    · rw [if_pos z] at h
      exact cond_not (by rw [eq_beq z]; rfl) (bind_run h rfl)
    · rw [if_neg z] at h
      exact cond_run (by rw [ne_beq z]; rfl) h
  · exact loop_of_body ((eq_RCheck3L4 RR LL xs xs.length).trans (cond_not (nat_end _) rfl))
theorem RCheckR_run {xs : List E} (hs : ∀ x ∈ xs, Su x) : RR none 13 [.e (.sl 46 xs)] [] = some (.ret (num (CheckR xs)), []) := by
  refine run_of_body ((eq_RCheck3 RR LL xs).trans ?_)
  unfold CheckR
  by_cases h : 32 < xs.length
  · rw [if_pos h]; exact cond_run (dec_yes (by omega)) rfl
  rw [if_neg h]
  refine cond_not (dec_no (by omega)) (bind_run (rk_loop xs hs (by omega)) ?_)
  cases firstO (ckAt xs) xs.length 0 <;> rfl

/-! ### light -/

theorem light7 {xs : List E} (hs : ∀ x ∈ xs, Su x) (i : Nat) (hi : i < xs.length) : ∀ (k j : Nat) (n : Int), j + k = (sV (xs.getD i E.nili)).length → ∃ m, LL 10 0 lc_10_7 (((((List.replicate 44 AV.undef).set 0 (.e (.sl 46 xs))).set 3 (.e (.int .i64 n))).set 4 (.e (.int .i64 (i : Int)))).set 5 (.e (.int .i64 (j : Int)))) [] =
    some { ex := .exit 2, fr := [.e (.sl 46 xs), AV.undef, AV.undef, num m, num (i : Int)] ++ List.replicate 39 AV.undef, hp := [], df := [] } := by
  have su := hs _ (getD_mem hi)
  intro k
  induction k with
  | zero =>
    intro j n h
    have body := eq_llightL7 RR LL xs n i j
    rw [nat_at] at body
    have : j = (sV (xs.getD i E.nili)).length := by omega
    subst this
    exact ⟨n, loop_of_body (body.trans (cond_run (nat_in hi) (cond_not (by rw [show decide (((sV (xs.getD i E.nili)).length : Int) < ((xs.getD i E.nili).cell 3).toList.length) = false from nat_end _]; rfl) rfl)))⟩
  | succ k ih =>
    intro j n h
    have body := eq_llightL7 RR LL xs n i j
    have hj : j < (sV (xs.getD i E.nili)).length := by omega
    rw [nat_at, nat_at, nat_wrap hj su.vlen] at body
    by_cases hn : n < 600
    · have t2 := su.vers _ (getD_mem hj)
      obtain ⟨m1, e1⟩ := nodes_run t2 n
      rw [← slots_ty t2] at e1
      obtain ⟨m2, e2⟩ := ih (j + 1) m1 (by omega)
      exact ⟨m2, loop_of_body (body.trans (cond_run (nat_in hi) (cond_run (and2_yes (nat_lt hj) (dec_yes hn)) (cond_run (nat_in hi) (cond_run (nat_in hj) (callN e1 (bind_run e2 rfl)))))))⟩
    · exact ⟨n, loop_of_body (body.trans (cond_run (nat_in hi) (cond_not (and2_no (.inr (dec_no hn))) rfl)))⟩
theorem light3 {xs : List E} (hs : ∀ x ∈ xs, Su x) (hl : xs.length ≤ maxLen) : ∀ (k i : Nat) (n : Int), i + k = xs.length → ∃ m, LL 10 0 lc_10_3 ((((List.replicate 44 AV.undef).set 0 (.e (.sl 46 xs))).set 3 (.e (.int .i64 n))).set 4 (.e (.int .i64 (i : Int)))) [] =
    some { ex := .exit 0, fr := [AV.undef, AV.undef, AV.undef, num m] ++ List.replicate 40 AV.undef, hp := [], df := [] } := by
  intro k
  induction k with
  | zero =>
    intro i n h
    have : i = xs.length := by omega
    subst this
    exact ⟨n, loop_of_body ((eq_llightL3 RR LL xs n xs.length).trans (cond_not (and2_no (.inl (nat_end _))) rfl))⟩
  | succ k ih =>
    intro i n h
    have hi : i < xs.length := by omega
    have body := eq_llightL3 RR LL xs n i
    by_cases hn : n < 600
    · obtain ⟨m1, e1⟩ := light7 hs i hi _ 0 (IntKind.i64.wrap (n + 1)) (Nat.zero_add _)
      obtain ⟨m2, e2⟩ := ih (i + 1) m1 (by omega)
      refine ⟨m2, loop_of_body (body.trans (cond_run (and2_yes (nat_lt hi) (dec_yes hn)) (bind_run e1 (cond_run rfl (cond_run rfl ?_)))))⟩
      show (Option.bind (LL 10 0 lc_10_3 ([AV.e (E.sl 46 xs), AV.undef, AV.undef, num m1, num (IntKind.i64.wrap ((i : Int) + 1))] ++ List.replicate 39 AV.undef) []) fun o => some o) = _
      rw [nat_wrap hi hl]
      exact bind_run e2 rfl
    · exact ⟨n, loop_of_body (body.trans (cond_not (and2_no (.inr (dec_no hn))) rfl))⟩
theorem Light_run {xs : List E} (hs : ∀ x ∈ xs, Su x) (hl : xs.length ≤ maxLen) : ∃ b, RR none 10 [.e (.sl 46 xs)] [] = some (.ret (yes b), []) := by
  obtain ⟨m, e⟩ := light3 hs hl xs.length 0 0 (by omega)
  exact ⟨_, run_of_body ((eq_llight RR LL xs).trans (bind_run e (cond_run rfl (cond_run rfl rfl))))⟩

/-! ### The argument -/

theorem flatU : flat Tryz.prog depth 46 = some [9, 9, 3, 28] := by kernel_rfl
theorem aggU : isAggB Tryz.prog 46 = true := by kernel_rfl
theorem und22 : Tryz.prog.underlying 22 = some (.slice 46) := by kernel_rfl

theorem su_of {cs : List E} (h : All2 (CellTy Tryz.prog) [9, 9, 3, 28] cs) : Su (.agg cs) := by
  obtain ⟨c0, _, rfl, h0, h⟩ := h.cons_inv
  obtain ⟨c1, _, rfl, h1, h⟩ := h.cons_inv
  obtain ⟨c2, _, rfl, h2, h⟩ := h.cons_inv
  obtain ⟨c3, _, rfl, h3, h⟩ := h.cons_inv
  cases h.nil_inv
  obtain ⟨n, rfl, hn⟩ := h0.str_inv und9
  obtain ⟨f, rfl, hf⟩ := h1.str_inv und9
  obtain ⟨m, rfl, hm⟩ := h2.int_inv und3
  obtain ⟨vs, ft, rfl, hvl, hft, f1, f2⟩ := h3.sl_inv und28
  rw [flatT] at hft
  injection hft with hft
  subst hft
  refine .mk n f m vs hn hf (fun y hy => ?_) hvl
  obtain ⟨i, hi, rfl⟩ := List.getElem_of_mem hy
  have hy' : vs[i]? = some vs[i] := List.getElem?_eq_getElem hi
  obtain ⟨k1, k2, _⟩ := f1 i _ hy'
  have e := k2 aggT
  rw [e]
  exact ty_of _ _ (Nat.lt_succ_self _) (all2_of k1 fun j t c e1 e2 => f2 i _ j t c hy' e1 e2)

theorem reg_param {es : List E} (h : ParamTy Tryz.prog 22 es) : ∃ xs, argOf Tryz.prog 22 es = .e (.sl 46 xs) ∧ (∀ x ∈ xs, Su x) ∧ xs.length ≤ maxLen := by
  have h := h.inv (show flat Tryz.prog depth 22 = some [22] by kernel_rfl)
  obtain ⟨x0, _, rfl, h0, h⟩ := h.cons_inv
  cases h.nil_inv
  obtain ⟨xs, ft, rfl, hxl, hft, f1, f2⟩ := h0.sl_inv und22
  rw [flatU] at hft
  injection hft with hft
  subst hft
  refine ⟨xs, ?_, fun y hy => ?_, hxl⟩
  · unfold argOf
    rw [show isAggB Tryz.prog 22 = false by kernel_rfl]
    rfl
  · obtain ⟨i, hi, rfl⟩ := List.getElem_of_mem hy
    have hy' : xs[i]? = some xs[i] := List.getElem?_eq_getElem hi
    obtain ⟨k1, k2, _⟩ := f1 i _ hy'
    have e := k2 aggU
    rw [e]
    exact su_of (all2_of k1 fun j t c e1 e2 => f2 i _ j t c hy' e1 e2)

end Go.Proofs.YtapndkailgcboaaGreatDoor
