/- The reference's reader of properties. -/
import Derived.Test.YtmocefjnplmibaaGreatDoorXa
namespace Go.Proofs.YtmocefjnplmibaaGreatDoor
open Go Go.Den
set_option maxRecDepth 100000

/-- Where the first = is, or the end. -/
def eqAt (x : S8) : Nat := (x.takeWhile (fun b => b != 61)).length
theorem eqAt_le (x : S8) : eqAt x ≤ x.length := (List.takeWhile_sublist _).length_le
theorem eqAt_ib : ∀ x : S8, Lib.indexByte x 61 = if eqAt x < x.length then (eqAt x : Int) else -1 := by
  intro x
  induction x with
  | nil => rfl
  | cons c x ih =>
    unfold Lib.indexByte eqAt
    by_cases hc : c = 61
    · rw [if_pos (by simpa using hc), hc]; rfl
    · rw [if_neg (by simpa using hc), List.takeWhile_cons_of_pos (by simpa using hc), List.length_cons, List.length_cons]
      show _ = if eqAt x + 1 < x.length + 1 then ((eqAt x + 1 : Nat) : Int) else -1
      by_cases h : eqAt x < x.length
      · have e1 : Lib.indexByte x 61 = (eqAt x : Int) := by rw [ih, if_pos h]
        have e2 : eqAt x + 1 < x.length + 1 := by omega
        have e3 : ¬ ((eqAt x : Int) == -1) = true := by simp
        rw [e1, if_pos e2, if_neg e3]; omega
      · have e1 : Lib.indexByte x 61 = -1 := by rw [ih, if_neg h]
        have e2 : ¬ eqAt x + 1 < x.length + 1 := by omega
        rw [e1, if_neg e2]; rfl
theorem eqAt_drop {x : S8} {i : Nat} (hi : i < x.length) : (eqAt (x.drop i) = if x.getD i 0 = 61 then 0 else eqAt (x.drop (i + 1)) + 1) := by
  rw [drop_getD hi 0]
  unfold eqAt
  by_cases h : x.getD i 0 = 61
  · rw [if_pos h, h]; rfl
  · rw [if_neg h, List.takeWhile_cons_of_pos (by simpa using h), List.length_cons]

abbrev xqF (a : List E) (x : S8) (q : Int) : Fr := ((((List.replicate 65 AV.undef).set 0 (.ptr 0 0)).set 3 (.own 1 97 a)).set 4 (.e (.str x))).set 5 (.e (.int .i64 q))
def xqX (l : List S8) (i : Nat) (e : Int) (a : List E) (x : S8) (q : Int) : Out := { ex := .exit 2, fr := [AV.ptr 0 0, AV.undef, AV.undef, .own 1 97 a, str x, num q] ++ List.replicate 59 AV.undef, hp := by3 l i e ++ [.vec 97 a.length], df := [] }
theorem xq_loop (l : List S8) (i : Nat) (e : Int) (a : List E) {x : S8} (hx : x.length ≤ 100000) : ∀ (j k : Nat), k + j = x.length →
    LL 105 1 lc_105_5 (xqF a x (k : Int)) (by3 l i e ++ [.vec 97 a.length]) = some (xqX l i e a x ((k + eqAt (x.drop k) : Nat) : Int)) := by
  intro j
  induction j with
  | zero =>
    intro k h
    have : k = x.length := by omega
    subst this
    rw [List.drop_length]
    exact loop_of_body ((eq_xPropsL5 RR LL (strs l) (i : Int) e a x x.length).trans (cond_not (by rw [nat_end]; rfl) rfl))
  | succ j ih =>
    intro k h
    have hk : k < x.length := by omega
    have body := eq_xPropsL5 RR LL (strs l) (i : Int) e a x k
    have e61 := byte_is (c := x.getD k 0) (n := 61) (by decide)
    change (((x.getD k 0).toNat : Int) == 61) = decide (x.getD k 0 = 61) at e61
    rw [nat_at, nat_wrap hk (by rw [maxLen_eq]; omega), e61] at body
    refine loop_of_body (body.trans (cond_run (by rw [nat_lt hk]; rfl) (cond_run (nat_in hk) ?_)))
    rw [eqAt_drop hk]
    by_cases hc : x.getD k 0 = 61
    · rw [if_pos hc]
      exact cond_not (by rw [dec_yes hc]; rfl) rfl
    · rw [if_neg hc]
      refine cond_run (by rw [dec_no hc]; rfl) (bind_run (ih (k + 1) (by omega)) ?_)
      rw [show k + 1 + eqAt (x.drop (k + 1)) = k + (eqAt (x.drop (k + 1)) + 1) by omega]

def xpX (l : List S8) (a : List E) (i : Nat) (e : Int) : Out := { ex := .exit 0, fr := [AV.undef, AV.undef, AV.undef, .own 1 97 a] ++ List.replicate 61 AV.undef, hp := by3 l i e ++ [.vec 97 a.length], df := [] }
def xpR (l : List S8) (i : Nat) (e : Int) : Out := { ex := .ret, fr := [AV.undef, AV.undef, .own 1 97 []] ++ List.replicate 62 AV.undef, hp := by3 l i e ++ [.vec 97 0], df := [] }
abbrev xpF (a : List E) : Fr := ((List.replicate 65 AV.undef).set 0 (.ptr 0 0)).set 3 (.own 1 97 a)
theorem xp_stop (l : List S8) (a : List E) (i : Nat) {e : Int} (he : e ≠ 0) : LL 105 1 lc_105_2 (xpF a) (by3 l i e ++ [.vec 97 a.length]) = some (xpX l a i e) :=
  loop_of_body ((eq_xPropsL2 RR LL (strs l) (i : Int) e a).trans (cond_not (by rw [beq_false_of_ne he]; rfl) rfl))

/-- One round, where a field is left: what the loop comes to. -/
def xpO (l : List S8) (a : List E) (i : Nat) (x : S8) : Out ⊕ (List E × Int) :=
  if eqAt x = x.length then .inl (xpR l (i + 1) 2)
  else .inr (a ++ [.agg [.str (x.take (eqAt x)), .str (valE [] (txtR (x.drop (eqAt x + 1))))]], errE (txtR (x.drop (eqAt x + 1))))
theorem xp_round {l : List S8} (hl : l.length ≤ 1000000) (hx : ∀ i, (l.getD i []).length ≤ 10000) {i : Nat} (hi : i < l.length) (a : List E) (ha : a.length ≤ i) {r : Out}
    (hr : (match xpO l a i (l.getD i []) with | .inl o => some o | .inr (b, e) => LL 105 1 lc_105_2 (xpF b) (by3 l (i + 1) e ++ [.vec 97 b.length])) = some r) :
    LL 105 1 lc_105_2 (xpF a) (by3 l i 0 ++ [.vec 97 a.length]) = some r := by
  have body := eq_xPropsL2 RR LL (strs l) (i : Int) 0 a
  rw [w1 hi hl, w2 hi hl, nat_at, strs_get l i hi] at body
  simp only [elems97] at body
  have hxi := hx i
  generalize l.getD i [] = x at body hxi hr
  have hq := xq_loop l (i + 1) 0 a (x := x) (by omega) x.length 0 (by omega)
  rw [List.drop_zero, Nat.zero_add] at hq
  have hle := eqAt_le x
  refine loop_of_body (body.trans (cond_run rfl (cond_run (by rw [List.length_map]; exact nat_lt hi) (cond_run rfl (cond_not (lenS hi) (cond_run (inS hi) (bind_run hq (cond_run rfl (cond_run rfl ?_)))))))))
  unfold xpO at hr
  show (bif ((eqAt x : Int) == (x.length : Int)) then _ else _) = _
  by_cases hc : eqAt x = x.length
  · rw [if_pos hc] at hr
    exact cond_run (by simp [hc]) (cond_run rfl hr)
  · rw [if_neg hc] at hr
    have hu := RUnquote_run (t := x.drop (eqAt x + 1)) (by rw [List.length_drop]; omega)
    have hw : IntKind.i64.wrap ((eqAt x : Int) + 1) = ((eqAt x + 1 : Nat) : Int) := by rw [wrap_in (by omega) (by omega)]; omega
    have hu' : RR none 13 [str (List.drop (IntKind.i64.wrap ((eqAt x : Int) + 1)).toNat (List.take ((x.length : Int)).toNat x))] [] = some (.ret (unqA (unqS (x.drop (eqAt x + 1)))), []) := by
      rw [hw, nat_at, nat_at, List.take_length]; exact hu
    have g1 : (decide (0 ≤ IntKind.i64.wrap ((eqAt x : Int) + 1)) && decide (IntKind.i64.wrap ((eqAt x : Int) + 1) ≤ (x.length : Int)) && decide ((x.length : Int) ≤ (x.length : Int))) = true := by
      rw [hw, dec_yes (by omega), dec_yes (by omega), dec_yes (by omega)]; rfl
    have g2 : (decide ((0 : Int) ≤ (eqAt x : Int)) && decide ((eqAt x : Int) ≤ (x.length : Int))) = true := by rw [dec_yes (by omega), dec_yes (by omega)]; rfl
    refine cond_not (beq_false_of_ne (by omega)) (cond_run g1 (bind_run hu' (cond_run rfl (cond_run (unqA_ok _) (cond_run rfl (cond_run g2 (cond_run (and_yes (dec_yes rfl) (dec_yes (by show (a.length + 1) * 32 ≤ _; omega))) ?_)))))))
    unfold txtR at hr
    cases he : unqS (x.drop (eqAt x + 1)) with
    | none => rw [he] at hr; exact bind_run hr rfl
    | some t => rw [he] at hr; exact bind_run hr rfl

/-- What the loop comes to: the properties, or an error with some list. -/
theorem xp_loop {l : List S8} (hl : l.length ≤ 1000000) (hx : ∀ i, (l.getD i []).length ≤ 10000) : ∀ (j i : Nat) (a : List E), i + j = l.length → a.length ≤ i →
    (∀ r, prpsR (l.drop i) = .ok r → LL 105 1 lc_105_2 (xpF a) (by3 l i 0 ++ [.vec 97 a.length]) = some (xpX l (a ++ r) l.length 0)) ∧
    (∀ e, prpsR (l.drop i) = .error e → ∃ m, (∃ b : List E, b.length ≤ l.length ∧ LL 105 1 lc_105_2 (xpF a) (by3 l i 0 ++ [.vec 97 a.length]) = some (xpX l b m e)) ∨ LL 105 1 lc_105_2 (xpF a) (by3 l i 0 ++ [.vec 97 a.length]) = some (xpR l m e)) := by
  intro j
  induction j with
  | zero =>
    intro i a h _
    have : i = l.length := by omega
    subst this
    rw [List.drop_length]
    refine ⟨fun r hr => ?_, fun e he => by cases he⟩
    injection hr with hr; subst hr
    rw [List.append_nil]
    exact loop_of_body ((eq_xPropsL2 RR LL (strs l) (l.length : Int) 0 a).trans (cond_run rfl (cond_not (by rw [List.length_map]; exact nat_end _) rfl)))
  | succ j ih =>
    intro i a h ha
    have hi : i < l.length := by omega
    have step := fun (r : Out) => xp_round hl hx hi a ha (r := r)
    rw [drop_getD hi []]
    generalize l.getD i [] = x at step
    unfold prpsR prpR1 cutP
    rw [eqAt_ib]
    unfold xpO at step
    have hle := eqAt_le x
    by_cases hc : eqAt x = x.length
    · rw [if_neg (show ¬ eqAt x < x.length by omega), if_neg (show ¬ (0 : Int) ≤ -1 by omega)]
      rw [if_pos hc] at step
      refine ⟨fun r hr => (by cases hr), fun e he => ?_⟩
      have he : (Except.error 2 : Except Int (List E)) = .error e := he
      injection he with he; subst he
      exact ⟨i + 1, .inr (step _ rfl)⟩
    · rw [if_pos (show eqAt x < x.length by omega), if_pos (show (0 : Int) ≤ (eqAt x : Int) by omega), nat_at]
      rw [if_neg hc] at step
      cases ht : txtR (x.drop (eqAt x + 1)) with
      | error e' =>
        rw [ht] at step
        refine ⟨fun r hr => ?_, fun e he => ?_⟩
        · have hr : ((((txtR (x.drop (eqAt x + 1))).map fun t => E.agg [.str (x.take (eqAt x)), .str t]).bind fun p => (prpsR (l.drop (i + 1))).bind fun r => .ok (p :: r)) : Except Int (List E)) = .ok r := hr
          rw [ht] at hr; cases hr
        · have he : ((((txtR (x.drop (eqAt x + 1))).map fun t => E.agg [.str (x.take (eqAt x)), .str t]).bind fun p => (prpsR (l.drop (i + 1))).bind fun r => .ok (p :: r)) : Except Int (List E)) = .error e := he
          rw [ht] at he
          have he : (Except.error e' : Except Int (List E)) = .error e := he
          injection he with he; subst he
          have hne : e' ≠ 0 := by
            unfold txtR at ht
            split at ht
            · cases ht
            · injection ht with ht; omega
          exact ⟨i + 1, .inl ⟨_, by rw [List.length_append]; show a.length + 1 ≤ _; omega, step _ (xp_stop l _ (i + 1) hne)⟩⟩
      | ok t =>
        rw [ht] at step
        obtain ⟨i1, i2⟩ := ih (i + 1) (a ++ [.agg [.str (x.take (eqAt x)), .str t]]) (by omega) (by simp; omega)
        refine ⟨fun r hr => ?_, fun e he => ?_⟩
        · have hr : ((((txtR (x.drop (eqAt x + 1))).map fun t => E.agg [.str (x.take (eqAt x)), .str t]).bind fun p => (prpsR (l.drop (i + 1))).bind fun r => .ok (p :: r)) : Except Int (List E)) = .ok r := hr
          rw [ht] at hr
          have hr : ((prpsR (l.drop (i + 1))).bind fun r => .ok (E.agg [.str (x.take (eqAt x)), .str t] :: r) : Except Int (List E)) = .ok r := hr
          cases hp : prpsR (l.drop (i + 1)) with
          | error e => rw [hp] at hr; cases hr
          | ok q =>
            rw [hp] at hr
            injection hr with hr; subst hr
            have := step _ (i1 q hp)
            rw [List.append_assoc] at this
            exact this
        · have he : ((((txtR (x.drop (eqAt x + 1))).map fun t => E.agg [.str (x.take (eqAt x)), .str t]).bind fun p => (prpsR (l.drop (i + 1))).bind fun r => .ok (p :: r)) : Except Int (List E)) = .error e := he
          rw [ht] at he
          have he : ((prpsR (l.drop (i + 1))).bind fun r => .ok (E.agg [.str (x.take (eqAt x)), .str t] :: r) : Except Int (List E)) = .error e := he
          cases hp : prpsR (l.drop (i + 1)) with
          | ok q => rw [hp] at he; cases he
          | error e' =>
            rw [hp] at he
            have he : (Except.error e' : Except Int (List E)) = .error e := he
            injection he with he; subst he
            obtain ⟨m, ⟨b, hb, hm⟩ | hm⟩ := i2 _ hp
            · exact ⟨m, .inl ⟨b, hb, step _ hm⟩⟩
            · exact ⟨m, .inr (step _ hm)⟩

theorem xprops_ok {l : List S8} (hl : l.length ≤ 1000000) (hx : ∀ i, (l.getD i []).length ≤ 10000) {i : Nat} (hi : i ≤ l.length) {r : List E} (h : prpsR (l.drop i) = .ok r) : RR none 105 [.ptr 0 0] (by3 l i 0) = some (.ret (prp r), by3 l l.length 0) :=
  run_of_body ((eq_xProps RR LL (strs l) (i : Int) 0).trans (bind_run ((xp_loop hl hx (l.length - i) i [] (by omega) (Nat.zero_le _)).1 r h) rfl))
theorem xprops_err {l : List S8} (hl : l.length ≤ 1000000) (hx : ∀ i, (l.getD i []).length ≤ 10000) {i : Nat} (hi : i ≤ l.length) {e : Int} (h : prpsR (l.drop i) = .error e) : ∃ m b, b.length ≤ l.length ∧ RR none 105 [.ptr 0 0] (by3 l i 0) = some (.ret (prp b), by3 l m e) := by
  obtain ⟨m, ⟨b, hb, hm⟩ | hm⟩ := (xp_loop hl hx (l.length - i) i [] (by omega) (Nat.zero_le _)).2 e h
  · exact ⟨m, b, hb, run_of_body ((eq_xProps RR LL (strs l) (i : Int) 0).trans (bind_run hm rfl))⟩
  · exact ⟨m, [], Nat.zero_le _, run_of_body ((eq_xProps RR LL (strs l) (i : Int) 0).trans (bind_run hm rfl))⟩
theorem xprops_dead (l : List S8) (i : Nat) {e : Int} (he : e ≠ 0) : RR none 105 [.ptr 0 0] (by3 l i e) = some (.ret (prp []), by3 l i e) :=
  run_of_body ((eq_xProps RR LL (strs l) (i : Int) e).trans (bind_run (xp_stop l [] i he) rfl))

end Go.Proofs.YtmocefjnplmibaaGreatDoor
