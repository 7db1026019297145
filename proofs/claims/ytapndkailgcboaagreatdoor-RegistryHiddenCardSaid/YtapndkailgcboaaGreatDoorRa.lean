/- Registries: who is where, what a subject is checked for. -/
import Derived.Test.YtapndkailgcboaaGreatDoorTb
import Derived.Test.YtapndkailgcboaaGreatDoorGe
import Derived.Test.YtapndkailgcboaaGreatDoorMo
namespace Go.Proofs.YtapndkailgcboaaGreatDoor
open Go Go.Den
set_option maxRecDepth 100000

def firstO (c : Nat → Option Int) : Nat → Nat → Option Int
  | 0, _ => none
  | k + 1, i => match c i with | some x => some x | none => firstO c k (i + 1)
theorem scan_inv {n : Nat} {c : Nat → Option Int} {o : Int → Out} {G : Nat → Option Out} {fin : Out}
    (hs : ∀ i, i < n → (∀ j, j < i → c j = none) → ∀ r, (match c i with | some x => some (o x) | none => G (i + 1)) = some r → G i = some r) (hn : G n = some fin) :
    G 0 = some (((firstO c n 0).map o).getD fin) := by
  have key : ∀ k i, i + k = n → (∀ j, j < i → c j = none) → G i = some (((firstO c k i).map o).getD fin) := by
    intro k
    induction k with
    | zero => intro i h _; have : i = n := by omega
              subst this; exact hn
    | succ k ih =>
      intro i h hj
      refine hs i (by omega) hj _ ?_
      unfold firstO
      cases hc : c i with
      | some x => rfl
      | none =>
        refine ih (i + 1) (by omega) fun j h => ?_
        by_cases e : j = i
        · rw [e]; exact hc
        · exact hj j (by omega)
  exact key n 0 (by omega) fun j h => by omega
theorem firstO_none {c : Nat → Option Int} : ∀ {k i : Nat}, firstO c k i = none ↔ ∀ j, i ≤ j → j < i + k → c j = none := by
  intro k
  induction k with
  | zero => intro i; exact ⟨fun _ j h1 h2 => by omega, fun _ => rfl⟩
  | succ k ih =>
    intro i
    unfold firstO
    cases hc : c i with
    | some x => exact ⟨fun h => (by cases h), fun h => (by have := h i (Nat.le_refl _) (by omega); rw [hc] at this; cases this)⟩
    | none =>
      refine ih.trans ⟨fun h j h1 h2 => ?_, fun h j h1 h2 => h j (by omega) (by omega)⟩
      by_cases e : j = i
      · rw [e]; exact hc
      · exact h j (by omega) (by omega)
/-! ### Subjects -/

abbrev sN (e : E) : List UInt8 := (e.cell 0).toStr
abbrev sF (e : E) : List UInt8 := (e.cell 1).toStr
abbrev sM (e : E) : Int := (e.cell 2).toInt
abbrev sV (e : E) : List E := (e.cell 3).toList
inductive Su : E → Prop
  | mk (n f : List UInt8) (m : Int) (vs : List E) (hn : n.length ≤ maxLen) (hf : f.length ≤ maxLen) (hv : ∀ x ∈ vs, Ty x) (hl : vs.length ≤ maxLen) : Su (.agg [.str n, .str f, .int .i64 m, .sl 31 vs])
abbrev suA (n f : List UInt8) (m : Int) (vs : List E) : AV := .agg [str n, str f, num m, .e (.sl 31 vs)]
abbrev suS (e : E) : AV := suA (sN e) (sF e) (sM e) (sV e)
theorem slots_ty {x : E} (h : Ty x) : AV.agg [num (x.cell 0).toInt, num (x.cell 1).toInt, num (x.cell 2).toInt, .e (.sl 9 (x.cell 3).toList), .e (.sl 31 (x.cell 4).toList), .e (.sl 65 (x.cell 5).toList)] = slotsOf x := by cases h; rfl
theorem Su.name {x : E} (h : Su x) : (sN x).length ≤ maxLen := by cases h; assumption
theorem Su.vers {x : E} (h : Su x) : ∀ v ∈ sV x, Ty v := by cases h; assumption
theorem Su.vlen {x : E} (h : Su x) : (sV x).length ≤ maxLen := by cases h; assumption

/-! ### Where a name is -/

/-- The first that is so, or -1. -/
def ixS (q : E → Bool) (xs : List E) : Int := (firstO (fun i => if q (xs.getD i E.nili) = true then some (i : Int) else none) xs.length 0).getD (-1)
theorem firstO_ge {c : Nat → Option Int} (hc : ∀ i x, c i = some x → x = i) : ∀ {k i : Nat} {x : Int}, firstO c k i = some x → ∃ j : Nat, x = j ∧ i ≤ j ∧ j < i + k ∧ c j = some x ∧ ∀ l, i ≤ l → l < j → c l = none := by
  intro k
  induction k with
  | zero => intro i x h; cases h
  | succ k ih =>
    intro i x h
    unfold firstO at h
    cases hi : c i with
    | some y =>
      rw [hi] at h
      injection h with h; subst h
      have := hc i y hi
      subst this
      exact ⟨i, rfl, Nat.le_refl _, by omega, hi, fun l h1 h2 => by omega⟩
    | none =>
      rw [hi] at h
      obtain ⟨j, h1, h2, h3, h4, h5⟩ := ih h
      refine ⟨j, h1, by omega, by omega, h4, fun l h6 h7 => ?_⟩
      by_cases e : l = i
      · rw [e]; exact hi
      · exact h5 l (by omega) h7
theorem ixS_cases (q : E → Bool) (xs : List E) : (ixS q xs = -1 ∧ ∀ j, j < xs.length → q (xs.getD j E.nili) = false) ∨
    ∃ j : Nat, ixS q xs = j ∧ j < xs.length ∧ q (xs.getD j E.nili) = true ∧ ∀ l, l < j → q (xs.getD l E.nili) = false := by
  unfold ixS
  cases h : firstO (fun i => if q (xs.getD i E.nili) = true then some (i : Int) else none) xs.length 0 with
  | none =>
    refine .inl ⟨rfl, fun j hj => ?_⟩
    have := firstO_none.1 h j (by omega) (by omega)
    cases hq : q (xs.getD j E.nili) with
    | false => rfl
    | true => simp only [hq, if_true] at this; cases this
  | some x =>
    obtain ⟨j, h1, _, h3, h4, h5⟩ := firstO_ge (fun i x h => by
      split at h
      · injection h with h; exact h.symm
      · cases h) h
    refine .inr ⟨j, h1, by omega, ?_, fun l hl => ?_⟩
    · cases hq : q (xs.getD j E.nili) with
      | true => rfl
      | false => simp only [hq, Bool.false_eq_true, if_false] at h4; cases h4
    · have := h5 l (by omega) hl
      cases hq : q (xs.getD l E.nili) with
      | false => rfl
      | true => simp only [hq, if_true] at this; cases this

def fxX (k : Nat) (n : List UInt8) : Out := { ex := .exit 0, fr := List.replicate k AV.undef, hp := [.box [str n]], df := [] }
def fxR (n : List UInt8) (i : Int) : Out := { ex := .ret, fr := [AV.undef, AV.undef, AV.undef, AV.undef, num i] ++ List.replicate 14 AV.undef, hp := [.box [str n]], df := [] }
def raX : Out := { ex := .exit 0, fr := List.replicate 20 AV.undef, hp := [], df := [] }
def raR (i : Int) : Out := { ex := .ret, fr := [AV.undef, AV.undef, AV.undef, AV.undef, num i] ++ List.replicate 15 AV.undef, hp := [], df := [] }
theorem ra_loop (xs : List E) (n : List UInt8) (hl : xs.length ≤ maxLen) :
    LL 33 0 lc_33_2 ((((List.replicate 20 AV.undef).set 0 (.e (.sl 46 xs))).set 1 (.e (.str n))).set 5 (.e (.int .i64 0))) [] =
      some (((firstO (fun i => if strEq (sN (xs.getD i E.nili)) n = true then some (i : Int) else none) xs.length 0).map raR).getD raX) := by
  refine scan_inv (G := fun i => LL 33 0 lc_33_2 ((((List.replicate 20 AV.undef).set 0 (.e (.sl 46 xs))).set 1 (.e (.str n))).set 5 (.e (.int .i64 (i : Int)))) []) ?_ ?_
  · intro i hi _ r h
    have body := eq_RAtL2 RR LL xs n i
    rw [nat_at, nat_wrap hi hl] at body
    refine loop_of_body (body.trans (cond_run (nat_lt hi) (cond_run (nat_in hi) ?_)))
    cases hq : strEq (sN (xs.getD i E.nili)) n with
    | true => simp only [hq, if_true] at h; exact cond_run rfl h
    | false => simp only [hq, Bool.false_eq_true, if_false] at h; exact cond_not rfl (bind_run h rfl)
  · exact loop_of_body ((eq_RAtL2 RR LL xs n xs.length).trans (cond_not (nat_end _) rfl))
theorem RAt_run (xs : List E) (n : List UInt8) (hl : xs.length ≤ maxLen) : RR none 33 [.e (.sl 46 xs), str n] [] = some (.ret (num (ixS (fun e => strEq (sN e) n) xs)), []) := by
  refine run_of_body ((eq_RAt RR LL xs n).trans (bind_run (ra_loop xs n hl) ?_))
  unfold ixS
  cases firstO (fun i => if strEq (sN (xs.getD i E.nili)) n = true then some (i : Int) else none) xs.length 0 <;> rfl

/-! ### What is said of a subject -/

def modeOk (m : Int) : Bool := bif decide (1 ≤ m) then decide (m ≤ 4) else false
def descE (at0 : Int) (n f : List UInt8) (m : Int) : Int :=
  bif !nameS n then 11 else bif decide (0 ≤ at0) then 7 else bif !Top.filterS f then 13 else bif modeOk m then 0 else 10
theorem RMode_run (m : Int) : RR none 35 [num m] [] = some (.ret (yes (modeOk m)), []) := run_of_body (eq_RMode RR LL m)
/-! ### Versions -/

def verAt (m : Int) (vs : List E) (i : Nat) : Option Int :=
  if CheckS (vs.getD i E.nili) = 0 then (if 0 < i ∧ modeB m (vs.getD (i - 1) E.nili) (vs.getD i E.nili) = false then some 29 else none) else some (CheckS (vs.getD i E.nili))
def versE (m : Int) (vs : List E) : Int := if 16 < vs.length then 5 else (firstO (verAt m vs) vs.length 0).getD 0

theorem ver_step {m : Int} {vs : List E} {i : Nat} (hv : ∀ x ∈ vs, Ty x) (hi : i < vs.length) (hj : ∀ j, j < i → verAt m vs j = none) (h0 : CheckS (vs.getD i E.nili) = 0) (hp : 0 < i) :
    RR none 16 [num m, slotsOf (vs.getD (i - 1) E.nili), slotsOf (vs.getD i E.nili)] [] = some (.ret (yes (modeB m (vs.getD (i - 1) E.nili) (vs.getD i E.nili))), []) ∧
    RR none 17 [num m, slotsOf (vs.getD (i - 1) E.nili), slotsOf (vs.getD i E.nili)] [] = some (.ret (yes (modeB m (vs.getD (i - 1) E.nili) (vs.getD i E.nili))), []) := by
  have t1 := hv _ (getD_mem (show i - 1 < vs.length by omega))
  have t2 := hv _ (getD_mem hi)
  have z : CheckS (vs.getD (i - 1) E.nili) = 0 := by
    have := hj (i - 1) (by omega)
    unfold verAt at this
    split at this
    · assumption
    · cases this
  exact ⟨Comp_run m (CheckS_ful z t1).okT (CheckS_ful h0 t2).okT t1 t2, RComp_run m (CheckS_ful z t1).okT (CheckS_ful h0 t2).okT t1 t2⟩

def rvX : Out := { ex := .exit 0, fr := List.replicate 44 AV.undef, hp := [], df := [] }
def rvR (i : Int) : Out := { ex := .ret, fr := [AV.undef, AV.undef, num i] ++ List.replicate 41 AV.undef, hp := [], df := [] }
theorem rv_loop (n f : List UInt8) (m : Int) (vs : List E) (hv : ∀ x ∈ vs, Ty x) (hl : vs.length ≤ 16) :
    LL 36 0 lc_36_4 (((List.replicate 44 AV.undef).set 1 (.ptr 0 0)).set 3 (.e (.int .i64 0))) [.box [.e (.str n), .e (.str f), .e (.int .i64 m), .e (.sl 31 vs)]] = some (((firstO (verAt m vs) vs.length 0).map rvR).getD rvX) := by
  refine scan_inv (G := fun i => LL 36 0 lc_36_4 (((List.replicate 44 AV.undef).set 1 (.ptr 0 0)).set 3 (.e (.int .i64 (i : Int)))) [.box [.e (.str n), .e (.str f), .e (.int .i64 m), .e (.sl 31 vs)]]) ?_ ?_
  · intro i hi hj r h
    have body := eq_RVersL4 RR LL i n f m vs
    have w : IntKind.i64.wrap ((i : Int) + 1) = ((i + 1 : Nat) : Int) := by rw [wrap_in (by omega) (by omega)]; omega
    rw [nat_at, w] at body
    have t2 := hv _ (getD_mem hi)
    have c := RCheck_run t2
    rw [← slots_ty t2] at c
    refine loop_of_body (body.trans (cond_run (nat_lt hi) (cond_run (nat_in hi) (callE c ?_))))
    unfold verAt at h
    by_cases z : CheckS (vs.getD i E.nili) = 0
    · rw [if_pos z] at h
      refine cond_not (show (!(CheckS (vs.getD i E.nili) == 0)) = false by rw [eq_beq z]; rfl) ?_
      by_cases hp : 0 < i
      · obtain ⟨_, q⟩ := ver_step (m := m) hv hi hj z hp
        have t1 := hv _ (getD_mem (show i - 1 < vs.length by omega))
        rw [← slots_ty t1, ← slots_ty t2] at q
        have w1 : IntKind.i64.wrap ((i : Int) - 1) = ((i - 1 : Nat) : Int) := by rw [wrap_in (by omega) (by omega)]; omega
        rw [w1, nat_at]
        refine cond_run (show (decide ((0 : Int) < (i : Int)) == true) = true by rw [dec_yes (by omega)]; rfl) (cond_run (nat_in (by omega)) (cond_run (nat_in hi) (callB q ?_)))
        cases hm : modeB m (vs.getD (i - 1) E.nili) (vs.getD i E.nili) with
        | false => rw [if_pos ⟨hp, hm⟩] at h; exact cond_run rfl h
        | true => rw [if_neg (by rintro ⟨_, k⟩; rw [hm] at k; cases k)] at h; exact cond_not rfl (bind_run h rfl)
      · rw [if_neg (fun k => hp k.1)] at h
        exact cond_not (show (decide ((0 : Int) < (i : Int)) == true) = false by rw [dec_no (by omega)]; rfl) (bind_run h rfl)
    · rw [if_neg z] at h
      exact cond_run (show (!(CheckS (vs.getD i E.nili) == 0)) = true by rw [ne_beq z]; rfl) h
  · exact loop_of_body ((eq_RVersL4 RR LL vs.length n f m vs).trans (cond_not (nat_end _) rfl))
theorem RVers_run {x : E} (h : Su x) : RR none 36 [suS x] [] = some (.ret (num (versE (sM x) (sV x))), []) := by
  cases h with
  | mk n f m vs hn hf hv hl =>
  refine run_of_body ((eq_RVers RR LL n f m vs).trans ?_)
  show _ = some (Res.ret (num (versE m vs)), [])
  unfold versE
  by_cases h16 : 16 < vs.length
  · rw [if_pos h16]; exact cond_run (dec_yes (by omega)) rfl
  rw [if_neg h16]
  refine cond_not (dec_no (by omega)) (bind_run (rv_loop n f m vs hv (by omega)) ?_)
  cases firstO (verAt m vs) vs.length 0 <;> rfl

end Go.Proofs.YtapndkailgcboaaGreatDoor
