/- The reference's reader: numbers, texts in quotes. -/
import Derived.Test.YtghdhhmlmdohkaaGreatDoorRa
namespace Go.Proofs.YtghdhhmlmdohkaaGreatDoor
open Go Go.Den
set_option maxRecDepth 100000

theorem bindF {α : Type} {x : Option Out} {o : Out} {s : List UInt8} {val : α → AV} {pr : PR α} {K : Out → Option (Res × Heap)} (h : x = some o) (hK : ReadsF (K o) s val pr) : ReadsF (x.bind K) s val pr := by rw [h]; exact hK

/-! ### number -/

def finR (s : List UInt8) (p : Int) (g : Bool) (n : Int) (q : Int) : Option (Res × Heap) :=
  bif decide (4611686018427387904 < n) then some (.ret (num 0), rdr s q 1 p) else bif g then some (.ret (num (IntKind.i64.wrap (0 - n))), rdr s q 0 0) else some (.ret (num n), rdr s q 0 0)

theorem num_fin {s l l1 : List UInt8} (hl : l <:+ s) (h1 : l1 <:+ s) (g : Bool) :
    ReadsF (finR s (pos s l) g ((satV topN 0 (l1.takeWhile digC) : Nat) : Int) (pos s (l1.dropWhile digC))) s num
      (if 4611686018427387904 < decV 0 (l1.takeWhile digC) then .err 1 l else .ok (if g = true then -(decV 0 (l1.takeWhile digC) : Int) else decV 0 (l1.takeWhile digC)) (l1.dropWhile digC)) := by
  have hsuf : l1.dropWhile digC <:+ s := (List.dropWhile_suffix digC).trans h1
  rw [satV_min _ _ (Nat.zero_le _)]
  generalize decV 0 (l1.takeWhile digC) = v
  unfold finR
  by_cases hb : 4611686018427387904 < v
  · rw [if_pos hb]
    exact condF (dec_yes (by show (4611686018427387904 : Int) < ((min v 4611686018427387905 : Nat) : Int); omega)) ⟨hl, by decide, 0, _, rfl⟩
  · rw [if_neg hb, Nat.min_eq_left (by show v ≤ 4611686018427387905; omega)]
    refine condF' (dec_no (by omega)) ?_
    cases g with
    | true =>
      refine ⟨hsuf, ?_⟩
      show some (Res.ret (num (IntKind.i64.wrap (0 - (v : Int)))), _) = _
      rw [wrap_in (by omega) (by omega), show (0 : Int) - (v : Int) = -(v : Int) by omega]
      rfl
    | false => exact ⟨hsuf, rfl⟩

theorem rnumber_run {s l : List UInt8} (hs : s.length ≤ 100000) (hl : l <:+ s) : ReadsF (RR none 153 [.ptr 0 0] (rdr s (pos s l) 0 0)) s num (numL l) := by
  refine readsF_of (eq_rnumber RR LL s (pos s l) 0 0) (condF (pos_ge hl) ?_)
  rw [is_at hl 45 45 rfl (by decide)]
  unfold numL
  dsimp only
  cases hg : (hd l == 45) with
  | true =>
    have h45 : hd l = 45 := by simpa using hg
    obtain ⟨st1, st2⟩ := pos_step hl hs (by rw [h45]; decide)
    rw [st1]
    refine condF rfl (condF (pos_ge st2) ?_)
    rw [dig_at st2, is_at st2 48 48 rfl (by decide)]
    simp only [if_true]
    cases hdg : digC (hd (l.drop 1)) with
    | false =>
      have n48 : hd (l.drop 1) ≠ 48 := by intro e; rw [e] at hdg; revert hdg; decide
      rw [if_neg n48, if_pos (takeWhile_no hdg).1]
      exact condF' rfl ⟨st2, by decide, 0, _, rfl⟩
    | true =>
      refine condF rfl (condF rfl (condF (pos_ge st2) ?_))
      by_cases h48 : hd (l.drop 1) = 48
      · rw [if_pos h48, h48]
        exact condF rfl ⟨st2, by decide, 0, _, rfl⟩
      · have tw := (takeWhile_hd (p := digC) (by decide) hdg).1
        rw [if_neg h48, beq_false_of_ne h48, if_neg (by rw [tw]; simp)]
        refine condF' rfl (condF (pos_ge st2) (bindF (rnumber_loop hs _ (l.drop 1) 0 rfl st2 (by omega)) (condF rfl (condF rfl ?_))))
        exact num_fin hl st2 true
  | false =>
    refine condF' rfl (condF (pos_ge hl) ?_)
    rw [dig_at hl, is_at hl 48 48 rfl (by decide)]
    simp only [Bool.false_eq_true, if_false]
    cases hdg : digC (hd l) with
    | false =>
      have n48 : hd l ≠ 48 := by intro e; rw [e] at hdg; revert hdg; decide
      rw [if_neg n48, if_pos (takeWhile_no hdg).1]
      exact condF' rfl ⟨hl, by decide, 0, _, rfl⟩
    | true =>
      refine condF rfl (condF' rfl (condF (pos_ge hl) ?_))
      by_cases h48 : hd l = 48
      · rw [if_pos h48, h48]
        obtain ⟨_, st2⟩ := pos_step hl hs (by rw [h48]; decide)
        exact bindF (rnumber_zero hs hl h48) (condF rfl (condF rfl ⟨st2, rfl⟩))
      · have tw := (takeWhile_hd (p := digC) (by decide) hdg).1
        rw [if_neg h48, beq_false_of_ne h48, if_neg (by rw [tw]; simp)]
        refine bindF (rnumber_loop hs _ l 0 rfl hl (by omega)) (condF rfl (condF rfl ?_))
        have := num_fin hl hl false
        simp only [Bool.false_eq_true, if_false] at this
        exact this

/-! ### escape -/

theorem hexI_all : ∀ k : Fin 256, hexI (k.val : Int) = (match hexV (UInt8.ofNat k.val) with | some v => (v : Int) | none => -1) := by decide +kernel
theorem hexI_of (c : UInt8) : hexI (c.toNat : Int) = (match hexV c with | some v => (v : Int) | none => -1) := by
  have := hexI_all ⟨c.toNat, c.toNat_lt⟩
  simpa using this

/-- An escaped byte, at its backslash. -/
def escL (l : List UInt8) : PR UInt8 :=
  if hd (l.drop 1) = 34 ∨ hd (l.drop 1) = 92 then .ok (hd (l.drop 1)) ((l.drop 1).drop 1)
  else (needL [120] (l.drop 1)).andThen fun _ l1 => (hexL l1).andThen fun a l2 => (hexL l2).andThen fun b l3 =>
    if 32 ≤ 16 * a + b ∧ 16 * a + b ≤ 126 then .err 2 l else .ok (UInt8.ofNat (16 * a + b)) l3
theorem quotL_esc1 {n : Nat} {acc l : List UInt8} (h : hd l = 92) : quotL (n + 1) acc l = (escL l).andThen fun c l' => quotL n (acc ++ [c]) l' := by
  rw [quotL]
  unfold escL
  rw [if_neg (by rw [h]; decide), if_neg (by rw [h]; decide), if_neg (fun h' => h' h)]
  by_cases h1 : hd (l.drop 1) = 34 ∨ hd (l.drop 1) = 92
  · rw [if_pos h1, if_pos h1]; rfl
  rw [if_neg h1, if_neg h1, needL_cons]
  by_cases h2 : hd (l.drop 1) = 120
  · rw [if_pos h2, if_pos h2]
    show _ = PR.andThen (PR.andThen (PR.ok () ((l.drop 1).drop 1)) _) _
    rw [PR.ok_then]
    cases hexL ((l.drop 1).drop 1) with
    | err e r => rfl
    | ok a r =>
      rw [PR.ok_then, PR.ok_then]
      cases hexL r with
      | err e r => rfl
      | ok b r2 =>
        rw [PR.ok_then, PR.ok_then]
        split <;> rfl
  · rw [if_neg h2, if_neg h2]; rfl

def escOut (s : List UInt8) (p : Int) (x : Option Out) : PR Nat → Prop
  | .ok v l => l <:+ s ∧ x = some { ex := .exit 0, fr := [.ptr 0 0, AV.undef, AV.undef, num p, num v] ++ List.replicate 109 AV.undef, hp := rdr s (pos s l) 0 0, df := [] }
  | .err e l => l <:+ s ∧ e ≠ 0 ∧ x = some { ex := .ret, fr := [AV.undef, AV.undef, .e (.int .u8 0)] ++ List.replicate 111 AV.undef, hp := rdr s (pos s l) e (pos s l), df := [] }
abbrev escF (p v k : Int) : Fr := ((((List.replicate 114 AV.undef).set 0 (.ptr 0 0)).set 3 (.e (.int .i64 p))).set 4 (.e (.int .i64 v))).set 5 (.e (.int .i64 k))

theorem esc_round {s l : List UInt8} {p : Int} {v k : Nat} {f : Nat → List UInt8 → PR Nat} (hs : s.length ≤ 100000) (hl : l <:+ s) (hk : k < 2) (hv : v < 16)
    (ih : ∀ a r, a < 16 → r <:+ s → escOut s p (LL 168 1 lc_168_9 (escF p ((16 * v + a : Nat) : Int) ((k + 1 : Nat) : Int)) (rdr s (pos s r) 0 0)) (f a r)) :
    escOut s p (LL 168 1 lc_168_9 (escF p v k) (rdr s (pos s l) 0 0)) ((hexL l).andThen f) := by
  have body := eq_rescL9 RR LL s (pos s l) 0 0 p v k
  unfold hexL
  cases hx : hexV (hd l) with
  | none =>
    refine ⟨hl, by decide, loop_of_body (body.trans (cond_run (by rw [dec_yes (by omega)]; rfl) (cond_run rfl ?_)))⟩
    by_cases hne : l = []
    · exact cond_not (by rw [hne, dec_yes (by unfold pos; simp)]; rfl) rfl
    · have h2 := List.length_pos_iff.2 hne
      have h3 := hl.length_le
      refine cond_run (by rw [dec_no (by unfold pos; omega)]; rfl) (cond_run (in_pos hl hne) (cond_run ?_ rfl))
      rw [at_pos hl, hexI_of, hx]; rfl
  | some a =>
    obtain ⟨a1, nz⟩ := hexV_lt hx
    obtain ⟨st1, st2⟩ := pos_step hl hs nz
    have hne : l ≠ [] := by rintro rfl; exact nz rfl
    have h2 := List.length_pos_iff.2 hne
    have h3 := hl.length_le
    have e := ih a (l.drop 1) a1 st2
    have step : ∀ o, LL 168 1 lc_168_9 (escF p ((16 * v + a : Nat) : Int) ((k + 1 : Nat) : Int)) (rdr s (pos s (l.drop 1)) 0 0) = some o → LL 168 1 lc_168_9 (escF p v k) (rdr s (pos s l) 0 0) = some o := by
      intro o ho
      refine loop_of_body (body.trans (cond_run (by rw [dec_yes (by omega)]; rfl) (cond_run rfl (cond_run (by rw [dec_no (by unfold pos; omega)]; rfl) (cond_run (in_pos hl hne) ?_)))))
      rw [at_pos hl, hexI_of, hx]
      refine cond_not (dec_no (by simp only; omega)) (cond_run (in_pos hl hne) ?_)
      rw [st1, wrap_in (n := 16 * (v : Int)) (by omega) (by omega)]
      simp only
      rw [wrap_in (n := 16 * (v : Int) + (a : Int)) (by omega) (by omega), wrap_in (n := (k : Int) + 1) (by omega) (by omega), show 16 * (v : Int) + (a : Int) = ((16 * v + a : Nat) : Int) by omega]
      exact bind_run ho rfl
    show escOut s p _ (f a (l.drop 1))
    generalize f a (l.drop 1) = pr at e
    cases pr with
    | ok a r => exact ⟨e.1, step _ e.2⟩
    | err e' r => exact ⟨e.1, e.2.1, step _ e.2.2⟩

theorem esc_loop {s l : List UInt8} {p : Int} (hs : s.length ≤ 100000) (hl : l <:+ s) :
    escOut s p (LL 168 1 lc_168_9 (escF p 0 0) (rdr s (pos s l) 0 0)) ((hexL l).andThen fun a l2 => (hexL l2).andThen fun b l3 => .ok (16 * a + b) l3) := by
  refine esc_round (v := 0) (k := 0) hs hl (by omega) (by omega) fun a r ha hr => ?_
  rw [show 16 * 0 + a = a by omega]
  refine esc_round (v := a) (k := 1) hs hr (by omega) ha fun b r2 hb hr2 => ?_
  exact ⟨hr2, loop_of_body ((eq_rescL9 RR LL s (pos s r2) 0 0 p ((16 * a + b : Nat) : Int) 2).trans (cond_not rfl rfl))⟩

abbrev byA (c : UInt8) : AV := .e (.int .u8 (c.toNat : Int))
theorem u8_wrap {n : Nat} : IntKind.u8.wrap (n : Int) = (((UInt8.ofNat n).toNat : Nat) : Int) := by
  rw [UInt8.toNat_ofNat']
  unfold IntKind.wrap
  simp [IntKind.signed, IntKind.bits]

theorem esc_run {s l : List UInt8} (hs : s.length ≤ 100000) (hl : l <:+ s) (h92 : hd l = 92) : ReadsF (RR none 168 [.ptr 0 0] (rdr s (pos s l) 0 0)) s byA (escL l) := by
  obtain ⟨st1, st2⟩ := pos_step hl hs (by rw [h92]; decide)
  have body := eq_resc RR LL s (pos s l) 0 0
  rw [st1, is_at st2 34 34 rfl (by decide), is_at st2 92 92 rfl (by decide)] at body
  unfold escL
  have here : ∀ (hq : hd (l.drop 1) ≠ 0), (bif decide (0 ≤ IntKind.i64.wrap (IntKind.i64.wrap (pos s (l.drop 1) + 1) - 1)) && decide (IntKind.i64.wrap (IntKind.i64.wrap (pos s (l.drop 1) + 1) - 1) < (s.length : Int)) then
      some (Res.ret (.e (.int .u8 (((s.getD (IntKind.i64.wrap (IntKind.i64.wrap (pos s (l.drop 1) + 1) - 1)).toNat 0).toNat : Nat) : Int))), rdr s (IntKind.i64.wrap (pos s (l.drop 1) + 1)) 0 0) else none) = some (.ret (byA (hd (l.drop 1))), rdr s (pos s ((l.drop 1).drop 1)) 0 0) := by
    intro hq
    obtain ⟨st3, st4⟩ := pos_step st2 hs hq
    have hless := drop_less hq
    have hle := st2.length_le
    have back : IntKind.i64.wrap (pos s ((l.drop 1).drop 1) - 1) = pos s (l.drop 1) := by
      have h3 : ((l.drop 1).drop 1).length = (l.drop 1).length - 1 := List.length_drop
      unfold pos
      rw [wrap_in (by omega) (by omega)]
      omega
    rw [st3, back, at_pos st2]
    exact cond_run (in_pos st2 (by rintro e; rw [e] at hq; exact hq rfl)) rfl
  by_cases k34 : hd (l.drop 1) = 34
  · rw [if_pos (.inl k34)]
    refine readsF_of body (condF (pos_ge st2) (condF' (by rw [k34]; rfl) ?_))
    exact ⟨(List.drop_suffix 1 _).trans st2, here (by rw [k34]; decide)⟩
  by_cases k92 : hd (l.drop 1) = 92
  · rw [if_pos (.inr k92)]
    refine readsF_of body (condF (pos_ge st2) (condF (by rw [k92]; rfl) (condF (pos_ge st2) (condF (by rw [k92]; rfl) ?_))))
    exact ⟨(List.drop_suffix 1 _).trans st2, here (by rw [k92]; decide)⟩
  rw [if_neg (fun h => h.elim k34 k92)]
  refine readsF_of body (condF (pos_ge st2) (condF (by rw [beq_false_of_ne k34]; rfl) (condF (pos_ge st2) (condF' (beq_false_of_ne k92) ?_))))
  refine thenF (word_run hs st2) (fun a => rfl) ?_ ?_
  · intro e l1 a q he hl1
    have hloop : LL 168 1 lc_168_9 (escF (pos s l) 0 0) (rdr s q e (pos s l1)) = some { ex := .exit 0, fr := [.ptr 0 0, AV.undef, AV.undef, num (pos s l), num 0] ++ List.replicate 109 AV.undef, hp := rdr s q e (pos s l1), df := [] } :=
      loop_of_body ((eq_rescL9 RR LL s q e (pos s l1) (pos s l) 0 0).trans (cond_run rfl (cond_not (beq_false_of_ne he) rfl)))
    refine bindF hloop (condF rfl (condF rfl (condF' ?_ ⟨hl1, he, 0, _, rfl⟩)))
    show (bif bif e == 0 then _ else false then _ else false) = false
    rw [beq_false_of_ne he]; rfl
  · intro _ l1 h1 hl1
    have e := esc_loop (p := pos s l) hs hl1
    have key : ((hexL l1).andThen fun a l2 => (hexL l2).andThen fun b l3 => if 32 ≤ 16 * a + b ∧ 16 * a + b ≤ 126 then PR.err 2 l else .ok (UInt8.ofNat (16 * a + b)) l3) =
        ((hexL l1).andThen fun a l2 => (hexL l2).andThen fun b l3 => .ok (16 * a + b) l3).andThen fun v l3 => if 32 ≤ v ∧ v ≤ 126 then PR.err 2 l else .ok (UInt8.ofNat v) l3 := by
      cases hexL l1 with
      | err _ _ => rfl
      | ok a r =>
        rw [PR.ok_then, PR.ok_then]
        cases hexL r with
        | err _ _ => rfl
        | ok b r => rfl
    rw [key]
    generalize ((hexL l1).andThen fun a l2 => (hexL l2).andThen fun b l3 => PR.ok (16 * a + b) l3) = pr at e
    cases pr with
    | err e' r =>
      obtain ⟨q1, q2, q3⟩ := e
      exact bindF q3 (condF' rfl (condF rfl (condF rfl ⟨q1, q2, 0, _, rfl⟩)))
    | ok v r =>
      obtain ⟨q1, q2⟩ := e
      rw [PR.ok_then]
      refine bindF q2 (condF rfl (condF rfl ?_))
      show ReadsF (bif bif decide (32 ≤ (v : Int)) then decide ((v : Int) ≤ 126) else false then some (Res.ret (.e (.int .u8 (IntKind.u8.wrap (v : Int)))), rdr s (pos s r) 2 (pos s l)) else some (Res.ret (.e (.int .u8 (IntKind.u8.wrap (v : Int)))), rdr s (pos s r) 0 0)) s byA _
      rw [u8_wrap]
      by_cases hp : 32 ≤ v ∧ v ≤ 126
      · rw [if_pos hp]
        exact condF (by rw [dec_yes (by omega), dec_yes (by omega)]; rfl) ⟨hl, by decide, _, _, rfl⟩
      · rw [if_neg hp]
        refine condF' ?_ ⟨q1, rfl⟩
        by_cases h : 32 ≤ v
        · rw [dec_yes (by omega), dec_no (by omega)]; rfl
        · rw [dec_no (by omega)]; rfl

end Go.Proofs.YtghdhhmlmdohkaaGreatDoor
