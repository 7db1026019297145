/- Matches: the program's and the reference's. -/
import Derived.Test.YtapndkailgcboaaGreatDoorTb
import Derived.Test.YtapndkailgcboaaGreatDoorMa
namespace Go.Proofs.YtapndkailgcboaaGreatDoor.Top
open Go Go.Den Go.Den.Zm
set_option maxRecDepth 100000

theorem int_eq_dec (a b : Nat) : ((a : Int) == (b : Int)) = decide (a = b) := by
  by_cases e : a = b
  · rw [dec_yes e, e]; simp
  · rw [dec_no e]; simp; omega

def sysB (s : S8) : Bool := bif decide (0 < (s.length : Int)) then ((s.getD 0 0).toNat : Int) == 36 else false
theorem tSystem_run (s : S8) : RR none 88 [str s] [] = some (.ret (yes (sysB s)), []) := by
  refine run_of_body ((eq_tSystem RR LL s).trans ?_)
  unfold sysB
  cases h : decide (0 < (s.length : Int)) <;> rfl
theorem rSystem_run (s : S8) : RR none 53 [str s] [] = some (.ret (yes (sysB s)), []) := by
  refine run_of_body ((eq_rSystem RR LL s).trans ?_)
  unfold sysB
  cases h : decide (0 < (s.length : Int)) <;> rfl

abbrev lvs (s : S8) : List E := (splitAt 47 s).map E.str
theorem lvs_pos (s : S8) : 0 < (lvs s).length := by
  show 0 < ((splitAt 47 s).map E.str).length
  rw [List.length_map, split_len]; omega
def wildB (s : S8) : Bool := strEq (lv (lvs s) 0) [43] || strEq (lv (lvs s) 0) [35]

def mlv (fs ts : List E) : Nat → Nat → Bool
  | 0, _ => decide (fs.length = ts.length)
  | k + 1, i => if strEq (lv fs i) [35] = true then true else if i = ts.length then false else if strEq (lv fs i) [43] = true ∨ strEq (lv fs i) (lv ts i) = true then mlv fs ts k (i + 1) else false
def matchS (f t : S8) : Bool := filterS f && validS t && !(wildB f && sysB t) && mlv (lvs f) (lvs t) (lvs f).length 0

/-! ### The program's -/

def mtX (fs ts : List E) : Out := { ex := .exit 0, fr := [AV.undef, AV.undef, AV.undef, AV.undef, AV.undef, .e (.sl 9 fs), .e (.sl 9 ts)] ++ List.replicate 51 AV.undef, hp := [], df := [] }
def mtR (b : Bool) : Out := { ex := .ret, fr := [AV.undef, AV.undef, AV.undef, AV.undef, yes b] ++ List.replicate 53 AV.undef, hp := [], df := [] }
theorem mt_loop (fs ts : List E) (hf : fs.length ≤ 1000) (ht : ts.length ≤ 1000) : ∀ (k i : Nat), i + k = fs.length → i ≤ ts.length →
    ∃ o, LL 46 0 lc_46_5 ((((((List.replicate 58 AV.undef).set 5 (.e (.sl 9 fs))).set 6 (.e (.sl 9 ts))).set 26 (.e (.sl 9 fs))).set 27 (.e (.int .i64 (fs.length : Int)))).set 28 (.e (.int .i64 (i : Int)))) [] = some o ∧
      ((o = mtX fs ts ∧ mlv fs ts k i = decide (fs.length = ts.length)) ∨ o = mtR (mlv fs ts k i)) := by
  intro k
  induction k with
  | zero =>
    intro i h _
    have : i = fs.length := by omega
    subst this
    exact ⟨_, loop_of_body ((eq_MatchesL5 RR LL fs ts fs fs.length fs.length).trans (cond_not (nat_end _) rfl)), .inl ⟨rfl, rfl⟩⟩
  | succ k ih =>
    intro i h him
    have hi : i < fs.length := by omega
    have body := eq_MatchesL5 RR LL fs ts fs fs.length i
    have w : IntKind.i64.wrap ((i : Int) + 1) = ((i + 1 : Nat) : Int) := by rw [wrap_in (by omega) (by omega)]; omega
    rw [nat_at, w] at body
    unfold mlv
    by_cases h35 : strEq (lv fs i) [35] = true
    · rw [if_pos h35]
      exact ⟨_, loop_of_body (body.trans (cond_run (nat_lt hi) (cond_run (nat_in hi) (cond_run h35 rfl)))), .inr rfl⟩
    rw [if_neg h35]
    have h35' : strEq (lv fs i) [35] = false := by simpa using h35
    by_cases hm : i = ts.length
    · rw [if_pos hm]
      exact ⟨_, loop_of_body (body.trans (cond_run (nat_lt hi) (cond_run (nat_in hi) (cond_not h35' (cond_run (by simp; omega) rfl))))), .inr rfl⟩
    rw [if_neg hm]
    have hj : i < ts.length := by omega
    have hne : ((i : Int) == (ts.length : Int)) = false := by simp; omega
    by_cases hc : strEq (lv fs i) [43] = true ∨ strEq (lv fs i) (lv ts i) = true
    · rw [if_pos hc]
      obtain ⟨o, h1, h2⟩ := ih (i + 1) (by omega) (by omega)
      refine ⟨o, loop_of_body (body.trans (cond_run (nat_lt hi) (cond_run (nat_in hi) (cond_not h35' (cond_not hne ?_))))), h2⟩
      show (bif strEq (lv fs i) [43] == false then _ else _) = _
      cases h43 : strEq (lv fs i) [43] with
      | true => exact cond_not rfl (bind_run h1 rfl)
      | false =>
        have he : strEq (lv fs i) (lv ts i) = true := hc.resolve_left (by rw [h43]; simp)
        exact cond_run rfl (cond_run (nat_in hj) (cond_run he (bind_run h1 rfl)))
    · rw [if_neg hc]
      rw [not_or] at hc
      have h43 : strEq (lv fs i) [43] = false := by simpa using hc.1
      have he : strEq (lv fs i) (lv ts i) = false := by simpa using hc.2
      refine ⟨mtR false, loop_of_body (body.trans (cond_run (nat_lt hi) (cond_run (nat_in hi) (cond_not h35' (cond_not hne ?_))))), .inr rfl⟩
      show (bif strEq (lv fs i) [43] == false then _ else _) = _
      rw [h43]
      exact cond_run rfl (cond_run (nat_in hj) (cond_not he rfl))

theorem valid_sized {s : S8} (h : validS s = true) : sizedS s = true := by
  unfold validS at h
  rw [Bool.and_eq_true, Bool.and_eq_true] at h
  exact h.1.1
theorem filter_sized {s : S8} (h : filterS s = true) : sizedS s = true := by
  unfold filterS at h
  rw [Bool.and_eq_true] at h
  exact h.1
theorem lvs_len {s : S8} (h : sizedS s = true) : (lvs s).length ≤ 8 := by
  show ((splitAt 47 s).map E.str).length ≤ 8
  rw [List.length_map]; exact sized_split h

theorem barred_run (f t : S8) (hf : f.length ≤ 1000000) : RR none 73 [str f, str t] [] = some (.ret (yes (wildB f && sysB t)), []) := by
  have hw : RR none 87 [str (lv (lvs f) 0)] [] = some (.ret (yes (wildB f)), []) := by
    refine run_of_body ((eq_wild RR LL _).trans ?_)
    unfold wildB
    cases strEq (lv (lvs f) 0) [43] <;> rfl
  have h0 : decide ((0 : Int) < ((lvs f).length : Int)) = true := dec_yes (by have := lvs_pos f; omega)
  refine run_of_body ((eq_barred RR LL f t).trans (bind_run (tLevels_run f hf) (cond_run rfl (cond_run (okL _) (cond_run h0 (bind_run hw (cond_run rfl (cond_run (okB _) ?_))))))))
  show (bif wildB f == true then _ else _) = _
  cases wildB f with
  | false => exact cond_not rfl rfl
  | true => exact cond_run rfl (bind_run (tSystem_run t) (cond_run rfl (cond_run (okB _) rfl)))

theorem Matches_run (f t : S8) : RR none 46 [str f, str t] [] = some (.ret (yes (matchS f t)), []) := by
  refine run_of_body ((eq_Matches RR LL f t).trans (bind_run (Filter_run f) (cond_run rfl (cond_run (okB _) ?_))))
  unfold matchS
  show (bif (!filterS f) == false then _ else _) = _
  cases hf : filterS f with
  | false => exact cond_not rfl rfl
  | true =>
  refine cond_run rfl (bind_run (Valid_run t) (cond_run rfl (cond_run (okB _) ?_)))
  show (bif (!validS t) == false then _ else _) = _
  cases hv : validS t with
  | false => exact cond_not rfl rfl
  | true =>
  have sf := filter_sized hf
  have st := valid_sized hv
  have lf := sized_len sf
  have lt := sized_len st
  refine cond_run rfl (bind_run (barred_run f t (by omega)) (cond_run rfl (cond_run (okB _) ?_)))
  show (bif (wildB f && sysB t) then _ else _) = _
  cases (wildB f && sysB t) with
  | true => exact cond_run rfl rfl
  | false =>
  obtain ⟨o, h1, h2⟩ := mt_loop (lvs f) (lvs t) (by have := lvs_len sf; omega) (by have := lvs_len st; omega) (lvs f).length 0 (by omega) (by omega)
  refine cond_not rfl (bind_run (tLevels_run f (by omega)) (cond_run rfl (cond_run (okL _) (bind_run (tLevels_run t (by omega)) (cond_run rfl (cond_run (okL _) (bind_run h1 ?_)))))))
  rcases h2 with ⟨rfl, h2⟩ | rfl
  · rw [h2]
    refine cond_run rfl (cond_run rfl ?_)
    show some (Res.ret (yes (((lvs f).length : Int) == ((lvs t).length : Int))), ([] : Heap)) = _
    rw [int_eq_dec]
    rfl
  · cases mlv (lvs f) (lvs t) (lvs f).length 0 <;> rfl

/-! ### The reference's -/

theorem rwild_run (f : S8) : RR none 52 [.e (.sl 9 (lvs f))] [] = some (.ret (yes (wildB f)), []) := by
  have h0 : decide ((0 : Int) < ((lvs f).length : Int)) = true := dec_yes (by have := lvs_pos f; omega)
  refine run_of_body ((eq_rwild RR LL (lvs f)).trans (cond_run h0 ?_))
  unfold wildB
  show (bif strEq (lv (lvs f) 0) [43] == false then _ else _) = _
  cases strEq (lv (lvs f) 0) [43] with
  | true => exact cond_not rfl rfl
  | false => exact cond_run rfl (cond_run h0 rfl)

end Go.Proofs.YtapndkailgcboaaGreatDoor.Top
