/- Topics of the reference; keys; properties. -/
import Derived.Test.YtmocefjnplmibaaGreatDoorCa
namespace Go.Proofs.YtmocefjnplmibaaGreatDoor
open Go Go.Den
set_option maxRecDepth 100000

/-! ### Has -/

def hsX : Out := { ex := .exit 0, fr := List.replicate 17 AV.undef, hp := [], df := [] }
def hsR : Out := { ex := .ret, fr := [AV.undef, AV.undef, AV.undef, AV.undef, yes true] ++ List.replicate 12 AV.undef, hp := [], df := [] }
theorem has_loop (s : S8) (c : UInt8) (hs : s.length ≤ 1000000) : LL 114 0 lc_114_2 ((((List.replicate 17 AV.undef).set 0 (.e (.str s))).set 1 (.e (.int .u8 (c.toNat : Int)))).set 5 (.e (.int .i64 0))) [] =
    some (bif s.all (fun b => !decide (b = c)) then hsX else hsR) := by
  refine scan_all (d := 0) (G := fun i => LL 114 0 lc_114_2 ((((List.replicate 17 AV.undef).set 0 (.e (.str s))).set 1 (.e (.int .u8 (c.toNat : Int)))).set 5 (.e (.int .i64 (i : Int)))) []) ?_ ?_
  · intro i hi r h
    have body := eq_R1HasL2 RR LL s (c.toNat : Int) i
    rw [nat_at, nat_wrap hi (by rw [maxLen_eq]; omega), byte_is (c := s.getD i 0) (n := c.toNat) c.toNat_lt] at body
    refine loop_of_body (body.trans (cond_run (nat_lt hi) (cond_run (nat_in hi) ?_)))
    rw [show UInt8.ofNat c.toNat = c by simp]
    by_cases e : s.getD i 0 = c
    · rw [dec_yes e] at h ⊢; exact cond_run rfl h
    · rw [dec_no e] at h ⊢; exact cond_not rfl (bind_run h rfl)
  · exact loop_of_body ((eq_R1HasL2 RR LL s (c.toNat : Int) s.length).trans (cond_not (nat_end _) rfl))
theorem Has_run (s : S8) (c : UInt8) (hs : s.length ≤ 1000000) : RR none 114 [str s, .e (.int .u8 (c.toNat : Int))] [] = some (.ret (yes (hasB c s)), []) := by
  refine run_of_body ((eq_R1Has RR LL s _).trans (bind_run (has_loop s c hs) ?_))
  unfold hasB
  cases s.all (fun b => !decide (b = c)) <;> rfl

/-! ### Levels -/

abbrev lvF (s : S8) (a : List E) (f i : Int) : Fr := ((((List.replicate 31 AV.undef).set 0 (.e (.str s))).set 3 (.own 0 9 a)).set 4 (.e (.int .i64 f))).set 5 (.e (.int .i64 i))
def lvX (s : S8) (a : List E) (f : Int) : Out := { ex := .exit 0, fr := [str s, AV.undef, AV.undef, .own 0 9 a, num f] ++ List.replicate 26 AV.undef, hp := [.vec 9 a.length], df := [] }
theorem levels_loop {s : S8} (hs : s.length ≤ 1000000) : ∀ (j i f : Nat) (a : List E), i + j = s.length → f ≤ i → 47 ∉ (s.take i).drop f → a.length ≤ f →
    ∃ a' f', LL 144 0 lc_144_4 (lvF s a f i) [.vec 9 a.length] = some (lvX s a' ((f' : Nat) : Int)) ∧ f' ≤ s.length ∧ a'.length ≤ f' ∧ a' ++ [E.str (s.drop f')] = a ++ (splitAt 47 (s.drop f)).map E.str := by
  intro j
  induction j with
  | zero =>
    intro i f a h hf hn ha
    have : i = s.length := by omega
    subst this
    refine ⟨a, f, loop_of_body ((eq_R1LevelsL4 RR LL s a f s.length).trans (cond_not (nat_end _) rfl)), hf, ha, ?_⟩
    rw [List.take_length] at hn
    rw [split_none hn]; rfl
  | succ j ih =>
    intro i f a h hf hn ha
    have hi : i < s.length := by omega
    have body := eq_R1LevelsL4 RR LL s a f i
    have e47 := byte_is (c := s.getD i 0) (n := 47) (by decide)
    change (((s.getD i 0).toNat : Int) == 47) = decide (s.getD i 0 = 47) at e47
    rw [nat_at, nat_wrap hi (by rw [maxLen_eq]; omega), e47, nat_at] at body
    have htk : s.take (i + 1) = s.take i ++ [s.getD i 0] := by
      rw [List.getD_eq_getElem?_getD, List.getElem?_eq_getElem hi, List.take_add_one, List.getElem?_eq_getElem hi]; rfl
    have hfl : f ≤ (s.take i).length := by rw [List.length_take]; omega
    by_cases e : s.getD i 0 = 47
    · obtain ⟨a', f', h1, h2, h3, h4⟩ := ih (i + 1) (i + 1) (a ++ [E.str ((s.take i).drop f)]) (by omega) (Nat.le_refl _) (by rw [List.drop_eq_nil_of_le (by rw [List.length_take]; omega)]; simp) (by simp; omega)
      refine ⟨a', f', loop_of_body (body.trans (cond_run (nat_lt hi) (cond_run (nat_in hi) (cond_run (dec_yes e) (cond_run ?_ (cond_run ?_ (bind_run h1 rfl))))))), h2, h3, ?_⟩
      · rw [dec_yes (by omega), dec_yes (by omega), dec_yes (by omega)]; rfl
      · rw [dec_yes rfl, dec_yes (by simp; omega)]; rfl
      · rw [h4]
        have hd : s.drop f = (s.take i).drop f ++ 47 :: s.drop (i + 1) := by
          conv => lhs; rw [← List.take_append_drop i s, List.drop_append_of_le_length hfl]
          rw [drop_getD hi 0, e]
        rw [hd, split_cons hn]
        simp
    · obtain ⟨a', f', h1, h2, h3, h4⟩ := ih (i + 1) f a (by omega) (by omega) (by
        rw [htk, List.drop_append_of_le_length hfl]
        intro hm
        rcases List.mem_append.1 hm with hm | hm
        · exact hn hm
        · simp at hm; exact e hm.symm) ha
      exact ⟨a', f', loop_of_body (body.trans (cond_run (nat_lt hi) (cond_run (nat_in hi) (cond_not (dec_no e) (bind_run h1 rfl))))), h2, h3, h4⟩
theorem Levels_run (s : S8) (hs : s.length ≤ 1000000) : RR none 144 [str s] [] = some (.ret (.e (.sl 9 ((splitAt 47 s).map E.str))), []) := by
  obtain ⟨a, f, h1, h2, h3, h4⟩ := levels_loop hs s.length 0 0 [] (by omega) (Nat.le_refl _) (by simp) (Nat.le_refl _)
  refine run_of_body ((eq_R1Levels RR LL s).trans (bind_run h1 (cond_run rfl (cond_run rfl (cond_run ?_ (cond_run ?_ ?_))))))
  · show (decide ((0 : Int) ≤ (f : Int)) && decide ((f : Int) ≤ (s.length : Int)) && decide ((s.length : Int) ≤ (s.length : Int))) = true
    rw [dec_yes (by omega), dec_yes (by omega), dec_yes (by omega)]; rfl
  · show (decide (a.length = a.length) && decide ((a.length + 1) * 16 ≤ 140737488355328)) = true
    rw [dec_yes rfl, dec_yes (by omega)]; rfl
  · show some (Res.ret (.e (.sl 9 (a ++ [E.str (List.drop ((f : Int)).toNat (List.take ((s.length : Int)).toNat s))]))), ([] : Heap)) = _
    rw [nat_at, nat_at, List.take_length, h4]
    rfl
theorem R1sized_run (s : S8) : RR none 129 [str s] [] = some (.ret (yes (sizedS s)), []) := by
  refine run_of_body ((eq_R1sized RR LL s).trans ?_)
  have hx : (bif decide (1 ≤ (s.length : Int)) then decide ((s.length : Int) ≤ 64) else false) = len64 s := by
    unfold len64
    rw [not_btw]
    exact (Bool.not_not _).symm
  rw [hx]
  unfold sizedS
  cases h : len64 s with
  | false => exact cond_not rfl rfl
  | true =>
    rw [h] at hx
    have hl : s.length ≤ 64 := by
      by_cases k : (1 : Int) ≤ s.length
      · rw [dec_yes k] at hx; have := of_decide_eq_true hx; omega
      · omega
    refine cond_run rfl (bind_run (Has_run s 0 (by omega)) (cond_run rfl (cond_run (okB _) ?_)))
    rw [valB]
    cases hasB 0 s with
    | true => exact cond_not rfl rfl
    | false =>
      refine cond_run rfl (bind_run (Levels_run s (by omega)) (cond_run rfl (cond_run (okL _) ?_)))
      show some (Res.ret (yes (decide ((((splitAt 47 s).map E.str).length : Int) ≤ 8))), ([] : Heap)) = _
      rw [List.length_map]; rfl
theorem sized_len {s : S8} (h : sizedS s = true) : s.length ≤ 64 := by
  unfold sizedS at h
  rw [Bool.and_eq_true, Bool.and_eq_true] at h
  have h' := unnot' h.1.1
  by_cases k : (s.length : Int) < 1
  · omega
  · rw [dec_no k] at h'; have := of_decide_eq_false h'; omega
theorem R1Valid_run (s : S8) : RR none 115 [str s] [] = some (.ret (yes (validS s)), []) := by
  refine run_of_body ((eq_R1Valid RR LL s).trans (bind_run (R1sized_run s) (cond_run rfl (cond_run (okB _) ?_))))
  unfold validS
  rw [valB]
  cases h : sizedS s with
  | false => exact cond_not rfl rfl
  | true =>
    have hl := sized_len h
    refine cond_run rfl (bind_run (Has_run s 43 (by omega)) (cond_run rfl (cond_run (okB _) ?_)))
    rw [valB]
    cases hasB 43 s with
    | true => exact cond_not rfl rfl
    | false =>
      refine cond_run rfl (bind_run (Has_run s 35 (by omega)) (cond_run rfl (cond_run (okB _) ?_)))
      rw [valB]; rfl

/-! ### Optional names, keys, numbers -/

theorem opt_run (s : S8) : RR none 76 [str s] [] = some (.ret (yes (optS s)), []) := by
  refine run_of_body ((eq_optional RR LL s).trans ?_)
  unfold optS
  cases strEq s [] with
  | false => exact cond_run rfl (bind_run (Name_run s) (cond_run rfl (cond_run (okB _) rfl)))
  | true => rfl
theorem Ropt_run (s : S8) : RR none 81 [str s] [] = some (.ret (yes (optS s)), []) := by
  refine run_of_body ((eq_Roptional RR LL s).trans ?_)
  unfold optS
  cases strEq s [] with
  | false => exact cond_run rfl (bind_run (RName_run s) (cond_run rfl (cond_run (okB _) rfl)))
  | true => rfl
theorem is_run (a l h : Int) : RR none 32 [num a, num l, num h] [] = some (.ret (yes (btw a l h)), []) := run_of_body (eq_isB RR LL a l h)
theorem mis_run (a h : Int) : RR none 110 [num a, num h] [] = some (.ret (yes (rng a h)), []) := run_of_body (eq_mis RR LL a h)
theorem from_run (a h : Int) : RR none 37 [num a, num h] [] = some (.ret (yes (rng a h)), []) := run_of_body (eq_from RR LL a h)
theorem ib_has (s : S8) (c : UInt8) : decide (0 ≤ Lib.indexByte s c) = hasB c s := by
  unfold hasB
  induction s with
  | nil => rfl
  | cons b s ih =>
    rw [List.all_cons]
    unfold Lib.indexByte
    by_cases h : b = c
    · rw [if_pos (by simpa using h), dec_yes h]; rfl
    · rw [if_neg (by simpa using h), dec_no h]
      have hg := ib_ge s c
      show _ = !(!false && s.all _)
      rw [Bool.not_false, Bool.true_and, ← ih]
      by_cases k : Lib.indexByte s c = -1
      · rw [k]; rfl
      · rw [if_neg (by simpa using k), dec_yes (by omega), dec_yes (by omega)]
theorem key_run (s : S8) : RR none 74 [str s] [] = some (.ret (num (keyE s)), []) := by
  refine run_of_body ((eq_key RR LL s).trans ?_)
  unfold keyE
  cases decide (64 < (s.length : Int)) with
  | true => rfl
  | false =>
    rw [show Nat.toUInt8 0 = 0 from rfl, ib_has]
    cases hasB 0 s <;> rfl
theorem Rkey_run (s : S8) : RR none 84 [str s] [] = some (.ret (num (keyE s)), []) := by
  refine run_of_body ((eq_Rkey RR LL s).trans ?_)
  unfold keyE
  cases h : decide (64 < (s.length : Int)) with
  | true => rfl
  | false =>
    have := of_decide_eq_false h
    refine cond_not rfl (bind_run (Has_run s 0 (by omega)) (cond_run rfl (cond_run (okB _) ?_)))
    rw [valB]
    cases hasB 0 s <;> rfl

/-! ### Properties -/

def mpX : Out := { ex := .exit 0, fr := List.replicate 40 AV.undef, hp := [], df := [] }
def mpR (n : Int) : Out := { ex := .ret, fr := [AV.undef, AV.undef, num n] ++ List.replicate 37 AV.undef, hp := [], df := [] }
theorem mprops_loop (l : List E) (hl : l.length ≤ 1000) : LL 75 0 lc_75_4 (((((List.replicate 40 AV.undef).set 0 (.e (.sl 97 l))).set 8 (.e (.sl 97 l))).set 9 (.e (.int .i64 (l.length : Int)))).set 10 (.e (.int .i64 0))) [] =
    some ((firstFrom (fun i => (propE l i).map mpR) l.length 0).getD mpX) := by
  refine scan_first (G := fun i => LL 75 0 lc_75_4 (((((List.replicate 40 AV.undef).set 0 (.e (.sl 97 l))).set 8 (.e (.sl 97 l))).set 9 (.e (.int .i64 (l.length : Int)))).set 10 (.e (.int .i64 (i : Int)))) []) ?_ ?_
  · intro i hi r h
    have body := eq_MPropsL4 RR LL l l l.length i
    rw [nat_at, nat_wrap hi (by rw [maxLen_eq]; omega)] at body
    refine loop_of_body (body.trans (cond_run (nat_lt hi) (cond_run (nat_in hi) (bind_run (mkey_run _) (cond_run rfl (cond_run (okB _) ?_))))))
    rw [valB]
    change (match (Option.map mpR (bif !keyS (pK (l.getD i .nili)) then _ else _)) with | some o => some o | none => _) = some r at h
    change (bif !keyS (pK (l.getD i .nili)) then _ else _) = _
    revert h
    cases keyS (pK (l.getD i .nili)) with
    | false => intro h; exact h
    | true =>
      intro h
      change (bif decide (160 < ((pV (l.getD i .nili)).length : Int)) then _ else _) = _
      change (match (Option.map mpR (bif decide (160 < ((pV (l.getD i .nili)).length : Int)) then _ else _)) with | some o => some o | none => _) = some r at h
      revert h
      cases decide (160 < ((pV (l.getD i .nili)).length : Int)) with
      | true => intro h; exact h
      | false =>
        intro h
        by_cases h0 : 0 < i
        · have d0 : decide ((0 : Int) < (i : Int)) = true := dec_yes (by omega)
          rw [d0] at h ⊢
          rw [wrap_in (n := (i : Int) - 1) (by omega) (by omega), show (i : Int) - 1 = ((i - 1 : Nat) : Int) by omega, nat_at]
          refine cond_not rfl (cond_run rfl (cond_run (by rw [dec_yes (by omega), dec_yes (by omega)]; rfl) ?_))
          change (match (Option.map mpR (bif (Op.bytesLess (pK (l.getD i .nili)) (pK (l.getD (i - 1) .nili)) || strEq (pK (l.getD i .nili)) (pK (l.getD (i - 1) .nili))) then _ else _)) with | some o => some o | none => _) = some r at h
          change (bif Op.bytesLess (pK (l.getD i .nili)) (pK (l.getD (i - 1) .nili)) || strEq (pK (l.getD i .nili)) (pK (l.getD (i - 1) .nili)) then _ else _) = _
          revert h
          cases (Op.bytesLess (pK (l.getD i .nili)) (pK (l.getD (i - 1) .nili)) || strEq (pK (l.getD i .nili)) (pK (l.getD (i - 1) .nili))) with
          | true => intro h; exact h
          | false => intro h; exact bind_run h rfl
        · have d0 : decide ((0 : Int) < (i : Int)) = false := dec_no (by omega)
          rw [d0] at h ⊢
          exact cond_not rfl (cond_not rfl (bind_run h rfl))
  · exact loop_of_body ((eq_MPropsL4 RR LL l l l.length l.length).trans (cond_not (nat_end _) rfl))
theorem MProps_run (l : List E) : RR none 75 [.e (.sl 97 l)] [] = some (.ret (num (propsE l)), []) := by
  refine run_of_body ((eq_MProps RR LL l).trans ?_)
  unfold propsE
  cases h : decide (8 < (l.length : Int)) with
  | true => rfl
  | false =>
    have := of_decide_eq_false h
    refine cond_not rfl (bind_run (mprops_loop l (by omega)) ?_)
    rw [firstFrom_map]
    cases firstFrom (propE l) l.length 0 <;> rfl

def rpX : Out := { ex := .exit 0, fr := List.replicate 43 AV.undef, hp := [], df := [] }
def rpR (n : Int) : Out := { ex := .ret, fr := [AV.undef, AV.undef, num n] ++ List.replicate 40 AV.undef, hp := [], df := [] }
theorem rprops_loop (l : List E) (hl : l.length ≤ 1000) : LL 113 0 lc_113_4 (((List.replicate 43 AV.undef).set 0 (.e (.sl 97 l))).set 3 (.e (.int .i64 0))) [] =
    some ((firstFrom (fun i => (propE l i).map rpR) l.length 0).getD rpX) := by
  refine scan_first (G := fun i => LL 113 0 lc_113_4 (((List.replicate 43 AV.undef).set 0 (.e (.sl 97 l))).set 3 (.e (.int .i64 (i : Int)))) []) ?_ ?_
  · intro i hi r h
    have body := eq_R5PropsL4 RR LL l i
    rw [nat_at, nat_wrap hi (by rw [maxLen_eq]; omega)] at body
    refine loop_of_body (body.trans (cond_run (nat_lt hi) (cond_run (nat_in hi) (bind_run (R5Key_run _) (cond_run rfl (cond_run (okB _) ?_))))))
    rw [valB]
    change (match (Option.map rpR (bif !keyS (pK (l.getD i .nili)) then _ else _)) with | some o => some o | none => _) = some r at h
    change (bif !keyS (pK (l.getD i .nili)) then _ else _) = _
    revert h
    cases keyS (pK (l.getD i .nili)) with
    | false => intro h; exact h
    | true =>
      intro h
      refine cond_not rfl (cond_run (nat_in hi) ?_)
      change (bif decide (160 < ((pV (l.getD i .nili)).length : Int)) then _ else _) = _
      change (match (Option.map rpR (bif decide (160 < ((pV (l.getD i .nili)).length : Int)) then _ else _)) with | some o => some o | none => _) = some r at h
      revert h
      cases decide (160 < ((pV (l.getD i .nili)).length : Int)) with
      | true => intro h; exact h
      | false =>
        intro h
        by_cases h0 : 0 < i
        · have d0 : decide ((0 : Int) < (i : Int)) = true := dec_yes (by omega)
          rw [d0] at h ⊢
          rw [wrap_in (n := (i : Int) - 1) (by omega) (by omega), show (i : Int) - 1 = ((i - 1 : Nat) : Int) by omega, nat_at]
          refine cond_not rfl (cond_run rfl (cond_run (nat_in hi) (cond_run (by rw [dec_yes (by omega), dec_yes (by omega)]; rfl) ?_)))
          change (match (Option.map rpR (bif (Op.bytesLess (pK (l.getD i .nili)) (pK (l.getD (i - 1) .nili)) || strEq (pK (l.getD i .nili)) (pK (l.getD (i - 1) .nili))) then _ else _)) with | some o => some o | none => _) = some r at h
          change (bif Op.bytesLess (pK (l.getD i .nili)) (pK (l.getD (i - 1) .nili)) || strEq (pK (l.getD i .nili)) (pK (l.getD (i - 1) .nili)) then _ else _) = _
          revert h
          cases (Op.bytesLess (pK (l.getD i .nili)) (pK (l.getD (i - 1) .nili)) || strEq (pK (l.getD i .nili)) (pK (l.getD (i - 1) .nili))) with
          | true => intro h; exact h
          | false => intro h; exact bind_run h rfl
        · have d0 : decide ((0 : Int) < (i : Int)) = false := dec_no (by omega)
          rw [d0] at h ⊢
          exact cond_not rfl (cond_not rfl (bind_run h rfl))
  · exact loop_of_body ((eq_R5PropsL4 RR LL l l.length).trans (cond_not (nat_end _) rfl))
theorem R5Props_run (l : List E) : RR none 113 [.e (.sl 97 l)] [] = some (.ret (num (propsE l)), []) := by
  refine run_of_body ((eq_R5Props RR LL l).trans ?_)
  unfold propsE
  cases h : decide (8 < (l.length : Int)) with
  | true => rfl
  | false =>
    have := of_decide_eq_false h
    refine cond_not rfl (bind_run (rprops_loop l (by omega)) ?_)
    rw [firstFrom_map]
    cases firstFrom (propE l) l.length 0 <;> rfl

end Go.Proofs.YtmocefjnplmibaaGreatDoor
