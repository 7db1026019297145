/- The reference's reader: words, names, numbers. -/
import Derived.Test.YtghdhhmlmdohkaaGreatDoorVe
import Derived.Test.YtghdhhmlmdohkaaGreatDoorKc
namespace Go.Proofs.YtghdhhmlmdohkaaGreatDoor
open Go Go.Den
set_option maxRecDepth 100000

/-- A reader at a place of its text, with a fault and the fault's place. -/
abbrev rdrO (s : List UInt8) (i x a : Int) : Ob := .box [str s, num i, num x, num a]
abbrev rdr (s : List UInt8) (i x a : Int) : Heap := [rdrO s i x a]

/-- What a run of the reader comes to: a value and the rest, or anything with a fault. -/
def ReadsF {α : Type} (x : Option (Res × Heap)) (s : List UInt8) (val : α → AV) (pr : PR α) : Prop :=
  match pr with
  | .ok a l => l <:+ s ∧ x = some (.ret (val a), rdr s (pos s l) 0 0)
  | .err e l => l <:+ s ∧ e ≠ 0 ∧ ∃ a q, x = some (.ret (val a), rdr s q e (pos s l))

theorem readsF_of {α : Type} {md : Den.Mode} {f : FuncId} {args : List AV} {σ : Heap} {X : Option (Res × Heap)} {s : List UInt8} {val : α → AV} {pr : PR α} (hb : bodyRun PP HH RR LL md f args σ = X) (h : ReadsF X s val pr) : ReadsF (RR md f args σ) s val pr := by
  cases pr with
  | ok a l => exact ⟨h.1, run_of_body (hb.trans h.2)⟩
  | err e l =>
    obtain ⟨h1, h2, a, q, h3⟩ := h
    exact ⟨h1, h2, a, q, run_of_body (hb.trans h3)⟩

theorem okRdr (s s' : List UInt8) (i i' x x' a a' : Int) : okHeap (rdr s i x a) (rdr s' i' x' a') = true := rfl

theorem thenF {α γ : Type} {x : Option (Res × Heap)} {s s0 : List UInt8} {p0 x0 a0 : Int} {val : α → AV} {val' : γ → AV} {pr : PR α} {f : α → List UInt8 → PR γ} {t : TypeId} {K : Res × Heap → Option (Res × Heap)}
    (h : ReadsF x s val pr) (hok : ∀ a, okRes PP t (.ret (val a)) = true)
    (hbad : ∀ e l a q, e ≠ 0 → l <:+ s → ReadsF (K (.ret (val a), rdr s q e (pos s l))) s val' (.err e l))
    (hr : ∀ a l, pr = .ok a l → l <:+ s → ReadsF (K (.ret (val a), rdr s (pos s l) 0 0)) s val' (f a l)) :
    ReadsF (x.bind fun rh => bif okHeap (rdr s0 p0 x0 a0) rh.2 then bif okRes PP t rh.1 then K rh else none else none) s val' (pr.andThen f) := by
  cases pr with
  | ok a l =>
    obtain ⟨h1, h2⟩ := h
    rw [h2]
    show ReadsF (bif okHeap (rdr s0 p0 x0 a0) (rdr s (pos s l) 0 0) then bif okRes PP t (.ret (val a)) then K (.ret (val a), rdr s (pos s l) 0 0) else none else none) s val' (f a l)
    rw [okRdr, hok a]
    exact hr a l rfl h1
  | err e l =>
    obtain ⟨h1, h2, a, q, h3⟩ := h
    rw [h3]
    show ReadsF (bif okHeap (rdr s0 p0 x0 a0) (rdr s q e (pos s l)) then bif okRes PP t (.ret (val a)) then K (.ret (val a), rdr s q e (pos s l)) else none else none) s val' (.err e l)
    rw [okRdr, hok a]
    exact hbad e l a q h2 h1
theorem condF {α : Type} {s : List UInt8} {val : α → AV} {pr : PR α} {b : Bool} {x y : Option (Res × Heap)} (hb : b = true) (h : ReadsF x s val pr) : ReadsF (bif b then x else y) s val pr := by rw [hb]; exact h
theorem condF' {α : Type} {s : List UInt8} {val : α → AV} {pr : PR α} {b : Bool} {x y : Option (Res × Heap)} (hb : b = false) (h : ReadsF y s val pr) : ReadsF (bif b then x else y) s val pr := by rw [hb]; exact h

theorem is_at {s l : List UInt8} (h : l <:+ s) (c : UInt8) (n : Int) (hn : (c.toNat : Int) = n) (hc : c ≠ 0) : (decide (pos s l < (s.length : Int)) && pk s (pos s l) == n) = (hd l == c) := by
  subst hn
  rw [pk_pos h, u8_eq]
  cases l with
  | nil =>
    rw [decide_eq_false (by unfold pos; simp)]
    exact (beq_false_of_ne (fun e => hc e.symm)).symm
  | cons x l =>
    have := h.length_le
    rw [decide_eq_true (by unfold pos; simp at this ⊢; omega)]
    rfl
theorem dig_at {s l : List UInt8} (h : l <:+ s) : (decide (48 ≤ pk s (pos s l)) && decide (pk s (pos s l) ≤ 57)) = digC (hd l) := by
  rw [pk_pos h, ← dig_int, bif_and]
theorem in_pos {s l : List UInt8} (h : l <:+ s) (hne : l ≠ []) : (decide (0 ≤ pos s l) && decide (pos s l < (s.length : Int))) = true := by
  have h1 := h.length_le
  have h2 := List.length_pos_iff.2 hne
  rw [pos_ge h, decide_eq_true (by unfold pos; omega)]; rfl
theorem at_pos {s l : List UInt8} (h : l <:+ s) : (((s.getD (pos s l).toNat 0).toNat : Nat) : Int) = ((hd l).toNat : Int) := pk_pos h

/-! ### word -/

def wordOut (s : List UInt8) (x : Option Out) : PR Unit → Prop
  | .ok _ l => l <:+ s ∧ x = some { ex := .exit 0, fr := List.replicate 34 AV.undef, hp := rdr s (pos s l) 0 0, df := [] }
  | .err e l => l <:+ s ∧ e ≠ 0 ∧ x = some { ex := .ret, fr := List.replicate 34 AV.undef, hp := rdr s (pos s l) e (pos s l), df := [] }

abbrev wordF (w : List UInt8) (i : Int) : Fr := (((List.replicate 34 AV.undef).set 0 (.ptr 0 0)).set 1 (.e (.str w))).set 4 (.e (.int .i64 i))
theorem word_loop {s w : List UInt8} (hs : s.length ≤ 100000) (hw : w.length ≤ 100000) (h0 : ∀ c ∈ w, c ≠ 0) : ∀ (j i : Nat) (l : List UInt8), i + j = w.length → l <:+ s →
    wordOut s (LL 91 1 lc_91_1 (wordF w i) (rdr s (pos s l) 0 0)) (needL (w.drop i) l) := by
  intro j
  induction j with
  | zero =>
    intro i l h hl
    have : i = w.length := by omega
    subst this
    rw [List.drop_length]
    exact ⟨hl, loop_of_body ((eq_rwordL1 RR LL s (pos s l) 0 0 w w.length).trans (cond_not (by rw [end_nat]; rfl) rfl))⟩
  | succ j ih =>
    intro i l h hl
    have hi : i < w.length := by omega
    have hx : w.drop i = w.getD i 0 :: w.drop (i + 1) := dropU hi
    have hm : w.getD i 0 ∈ w := by rw [List.getD_eq_getElem?_getD, List.getElem?_eq_getElem hi]; simp
    have hnz := h0 _ hm
    rw [hx, needL_cons]
    have his := is_at hl (w.getD i 0) _ rfl hnz
    by_cases hc : hd l = w.getD i 0
    · rw [if_pos hc]
      obtain ⟨st1, st2⟩ := pos_step hl hs (by rw [hc]; exact hnz)
      have e := ih (i + 1) (l.drop 1) (by omega) st2
      have step : ∀ o, LL 91 1 lc_91_1 (wordF w ((i + 1 : Nat) : Int)) (rdr s (pos s (l.drop 1)) 0 0) = some o → LL 91 1 lc_91_1 (wordF w i) (rdr s (pos s l) 0 0) = some o := by
        intro o ho
        refine loop_of_body ((eq_rwordL1 RR LL s (pos s l) 0 0 w i).trans (cond_run (by rw [lt_nat hi]; rfl) (cond_run rfl (cond_run (in_nat hi) (cond_run (pos_ge hl) (cond_not ?_ ?_))))))
        · rw [at_nat, his, hc]; simp
        · rw [st1, wrap_nat hi (by rw [maxLen_eq]; omega)]
          exact bind_run ho rfl
      generalize hn : needL (w.drop (i + 1)) (l.drop 1) = pr at e ⊢
      cases pr with
      | ok a r => exact ⟨e.1, step _ e.2⟩
      | err e' r => exact ⟨e.1, e.2.1, step _ e.2.2⟩
    · rw [if_neg hc]
      refine ⟨hl, by decide, loop_of_body ((eq_rwordL1 RR LL s (pos s l) 0 0 w i).trans (cond_run (by rw [lt_nat hi]; rfl) (cond_run rfl (cond_run (in_nat hi) (cond_run (pos_ge hl) (cond_run ?_ rfl))))))⟩
      rw [at_nat, his, beq_false_of_ne hc]; rfl

theorem word_run {s l : List UInt8} (hs : s.length ≤ 100000) {w : List UInt8} (hl : l <:+ s) (hw : w.length ≤ 100000 := by decide) (h0 : ∀ c ∈ w, c ≠ 0 := by decide) :
    ReadsF (RR none 91 [.ptr 0 0, str w] (rdr s (pos s l) 0 0)) s (fun _ : Unit => .tup []) (needL w l) := by
  have e := word_loop hs hw h0 w.length 0 l (by omega) hl
  rw [List.drop_zero] at e
  cases hn : needL w l with
  | ok a r =>
    rw [hn] at e
    exact ⟨e.1, run_of_body ((eq_rword RR LL s (pos s l) 0 0 w).trans (bind_run e.2 (cond_run rfl (cond_run rfl rfl))))⟩
  | err x r =>
    rw [hn] at e
    exact ⟨e.1, e.2.1, (), _, run_of_body ((eq_rword RR LL s (pos s l) 0 0 w).trans (bind_run e.2.2 (cond_not rfl (cond_run rfl (cond_run rfl rfl)))))⟩
/-- .. behind a fault nothing is read. -/
theorem word_bad {s w : List UInt8} {q e a : Int} (he : e ≠ 0) : RR none 91 [.ptr 0 0, str w] (rdr s q e a) = some (.ret (.tup []), rdr s q e a) := by
  have hl : LL 91 1 lc_91_1 (wordF w 0) (rdr s q e a) = some { ex := .exit 0, fr := List.replicate 34 AV.undef, hp := rdr s q e a, df := [] } := by
    refine loop_of_body ((eq_rwordL1 RR LL s q e a w 0).trans ?_)
    by_cases h : (0 : Int) < (w.length : Int)
    · exact cond_run (by rw [decide_eq_true h]; rfl) (cond_not (beq_false_of_ne he) rfl)
    · exact cond_not (by rw [decide_eq_false h]; rfl) rfl
  exact run_of_body ((eq_rword RR LL s q e a w).trans (bind_run hl (cond_run rfl (cond_run rfl rfl))))

/-! ### name -/

theorem low_f (c : UInt8) (X : Bool) : (decide ((97 : Int) ≤ (c.toNat : Int)) && decide ((c.toNat : Int) ≤ 122) || !true && X) = lowC c := by
  rw [← low_int, bif_and]; simp
theorem nam_f (c : UInt8) : (decide ((97 : Int) ≤ (c.toNat : Int)) && decide ((c.toNat : Int) ≤ 122) || !false && (decide ((48 : Int) ≤ (c.toNat : Int)) && decide ((c.toNat : Int) ≤ 57) || (c.toNat : Int) == 45)) = namC c := by
  have e3 : ((c.toNat : Int) == 45) = (c == 45) := u8_eq (b := 45)
  unfold namC
  rw [← low_int, ← dig_int, bif_and, bif_and, e3]
  cases (decide ((97 : Int) ≤ (c.toNat : Int)) && decide ((c.toNat : Int) ≤ 122)) <;> simp

theorem nm_loop {s : List UInt8} {p : Int} (hs : s.length ≤ 100000) : ∀ (m : Nat) (l : List UInt8), l.length = m → l <:+ s →
    LL 140 1 lc_140_5 (((List.replicate 36 AV.undef).set 0 (.ptr 0 0)).set 3 (.e (.int .i64 p))) (rdr s (pos s l) 0 0) =
      some { ex := .exit 0, fr := [.ptr 0 0, AV.undef, AV.undef, num p] ++ List.replicate 32 AV.undef, hp := rdr s (pos s (l.dropWhile namC)) 0 0, df := [] } := by
  intro m
  induction m with
  | zero =>
    intro l h hl
    have : l = [] := List.length_eq_zero_iff.1 h
    subst this
    refine loop_of_body ((eq_rnmL5 RR LL s (pos s []) 0 0 p).trans (cond_run (pos_ge hl) (cond_not ?_ rfl)))
    rw [pk_pos hl, nam_f]; rfl
  | succ m ih =>
    intro l h hl
    refine loop_of_body ((eq_rnmL5 RR LL s (pos s l) 0 0 p).trans (cond_run (pos_ge hl) ?_))
    rw [pk_pos hl, nam_f]
    cases hd1 : namC (hd l) with
    | false =>
      obtain ⟨_, t2⟩ := takeWhile_no hd1
      rw [t2]; rfl
    | true =>
      obtain ⟨_, t2, nz, ne⟩ := takeWhile_hd (by decide) hd1
      obtain ⟨st1, st2⟩ := pos_step hl hs nz
      have hm : (l.drop 1).length = m := by rw [List.length_drop]; omega
      rw [t2, st1]
      exact bind_run (ih (l.drop 1) hm st2) rfl

theorem nm_run {s l : List UInt8} (hs : s.length ≤ 100000) (hl : l <:+ s) : ReadsF (RR none 140 [.ptr 0 0] (rdr s (pos s l) 0 0)) s str (wordL l) := by
  refine readsF_of (eq_rnm RR LL s (pos s l) 0 0) (condF (pos_ge hl) ?_)
  rw [pk_pos hl, low_f]
  unfold wordL
  cases hlo : lowC (hd l) with
  | false => exact condF rfl ⟨hl, by decide, [], _, rfl⟩
  | true =>
    refine condF' rfl ?_
    have hsuf : l.dropWhile namC <:+ l := List.dropWhile_suffix namC
    refine ⟨hsuf.trans hl, bind_run (nm_loop hs l.length l rfl hl) (cond_run rfl (cond_run rfl ((cond_run ?_ ?_))))⟩
    · have h1 := (hsuf.trans hl).length_le
      have h2 := hsuf.length_le
      have h3 := hl.length_le
      show (decide (0 ≤ pos s l) && decide (pos s l ≤ pos s (l.dropWhile namC)) && decide (pos s (l.dropWhile namC) ≤ (s.length : Int))) = true
      unfold pos
      simp
      omega
    · show some (Res.ret (str (List.drop (pos s l).toNat (List.take (pos s (l.dropWhile namC)).toNat s))), rdr s (pos s (l.dropWhile namC)) 0 0) = _
      rw [cut_pos hl hsuf, takeWhile_cut]

/-! ### number -/

/-- Numbers that stay below a bound. -/
def satV (b n : Nat) (ds : List UInt8) : Nat := ds.foldl (fun n c => min (10 * n + (c.toNat - 48)) b) n
theorem satV_cons (b n : Nat) (c : UInt8) (ds : List UInt8) : satV b n (c :: ds) = satV b (min (10 * n + (c.toNat - 48)) b) ds := by simp only [satV, List.foldl_cons]
theorem decV_ge : ∀ (ds : List UInt8) (n : Nat), n ≤ decV n ds := by
  intro ds
  induction ds with
  | nil => intro n; exact Nat.le_refl _
  | cons d ds ih => intro n; exact Nat.le_trans (by omega) (ih (10 * n + (d.toNat - 48)))
theorem satV_min {b : Nat} : ∀ (ds : List UInt8) (n : Nat), n ≤ b → satV b n ds = min (decV n ds) b := by
  intro ds
  induction ds with
  | nil =>
    intro n h
    have e : satV b n [] = n := rfl
    have e2 : decV n [] = n := rfl
    rw [e, e2]; omega
  | cons c ds ih =>
    intro n h
    rw [satV_cons]
    have e : decV n (c :: ds) = decV (10 * n + (c.toNat - 48)) ds := rfl
    rw [e]
    by_cases hb : 10 * n + (c.toNat - 48) ≤ b
    · rw [Nat.min_eq_left hb]
      exact ih _ hb
    · rw [Nat.min_eq_right (by omega), ih _ (Nat.le_refl _)]
      have h1 := decV_ge ds b
      have h2 := decV_ge ds (10 * n + (c.toNat - 48))
      omega
abbrev topN : Nat := 4611686018427387905

abbrev numF (p : Int) (g : Bool) (n : Int) (z : Bool) : Fr := (((((List.replicate 87 AV.undef).set 0 (.ptr 0 0)).set 3 (.e (.int .i64 p))).set 4 (.e (.bool g))).set 5 (.e (.int .i64 n))).set 6 (.e (.bool z))
def numO (s : List UInt8) (p : Int) (g : Bool) (n : Int) (q : Int) : Out := { ex := .exit 0, fr := [.ptr 0 0, AV.undef, AV.undef, num p, yes g, num n] ++ List.replicate 81 AV.undef, hp := rdr s q 0 0, df := [] }

/-- One digit more. -/
theorem num_step {s l : List UInt8} {p : Int} {g z : Bool} {n : Nat} {o : Out} (hs : s.length ≤ 100000) (hl : l <:+ s) (hn : n ≤ 4611686018427387905) (hd1 : digC (hd l) = true)
    (h : LL 153 1 lc_153_10 (numF p g ((min (10 * n + ((hd l).toNat - 48)) 4611686018427387905 : Nat) : Int) z) (rdr s (pos s (l.drop 1)) 0 0) = some o) :
    (bif decide (461168601842738790 < (n : Int)) then
      (LL 153 1 lc_153_10 (numF p g 4611686018427387905 z) (rdr s (IntKind.i64.wrap (pos s l + 1)) 0 0)).bind fun o => some o
    else bif decide (0 ≤ pos s l) && decide (pos s l < (s.length : Int)) then
      bif decide (4611686018427387904 < IntKind.i64.wrap (IntKind.i64.wrap (10 * (n : Int)) + IntKind.i64.wrap (IntKind.u8.wrap ((((s.getD (pos s l).toNat 0).toNat : Nat) : Int) - 48)))) then
        (LL 153 1 lc_153_10 (numF p g 4611686018427387905 z) (rdr s (IntKind.i64.wrap (pos s l + 1)) 0 0)).bind fun o => some o
      else (LL 153 1 lc_153_10 (numF p g (IntKind.i64.wrap (IntKind.i64.wrap (10 * (n : Int)) + IntKind.i64.wrap (IntKind.u8.wrap ((((s.getD (pos s l).toNat 0).toNat : Nat) : Int) - 48)))) z) (rdr s (IntKind.i64.wrap (pos s l + 1)) 0 0)).bind fun o => some o
    else none) = some o := by
  obtain ⟨_, _, nz, ne⟩ := takeWhile_hd (p := digC) (by decide) hd1
  obtain ⟨st1, st2⟩ := pos_step hl hs nz
  have hc := hd1
  simp only [digC, Bool.and_eq_true, decide_eq_true_eq, UInt8.le_iff_toNat_le] at hc
  have c1 : 48 ≤ (hd l).toNat := hc.1
  have c2 : (hd l).toNat ≤ 57 := hc.2
  rw [st1, at_pos hl, u8sub _ c1 (by omega)]
  by_cases hb : 461168601842738790 < n
  · refine cond_run (dec_yes (by omega)) (bind_run ?_ rfl)
    rw [Nat.min_eq_right (by omega)] at h
    exact h
  · rw [wrap_in (n := 10 * (n : Int)) (by omega) (by omega), wrap_in (n := 10 * (n : Int) + (((hd l).toNat : Int) - 48)) (by omega) (by omega)]
    refine cond_not (dec_no (by omega)) (cond_run (in_pos hl ne) ?_)
    by_cases hm : 4611686018427387904 < 10 * (n : Int) + (((hd l).toNat : Int) - 48)
    · refine cond_run (dec_yes hm) (bind_run ?_ rfl)
      rw [Nat.min_eq_right (by omega)] at h
      exact h
    · refine cond_not (dec_no hm) (bind_run ?_ rfl)
      rw [Nat.min_eq_left (by omega)] at h
      rw [show 10 * (n : Int) + (((hd l).toNat : Int) - 48) = ((10 * n + ((hd l).toNat - 48) : Nat) : Int) by omega]
      exact h

theorem rnumber_loop {s : List UInt8} {p : Int} {g : Bool} (hs : s.length ≤ 100000) : ∀ (m : Nat) (l : List UInt8) (n : Nat), l.length = m → l <:+ s → n ≤ 4611686018427387905 →
    LL 153 1 lc_153_10 (numF p g n false) (rdr s (pos s l) 0 0) = some (numO s p g (satV topN n (l.takeWhile digC)) (pos s (l.dropWhile digC))) := by
  intro m
  induction m with
  | zero =>
    intro l n h hl hn
    have : l = [] := List.length_eq_zero_iff.1 h
    subst this
    refine loop_of_body ((eq_rnumberL10 RR LL s (pos s []) 0 0 p g n false).trans (cond_run (pos_ge hl) (cond_not ?_ rfl)))
    rw [dig_at hl]; rfl
  | succ m ih =>
    intro l n h hl hn
    refine loop_of_body ((eq_rnumberL10 RR LL s (pos s l) 0 0 p g n false).trans (cond_run (pos_ge hl) ?_))
    rw [dig_at hl]
    cases hd1 : digC (hd l) with
    | false =>
      obtain ⟨t1, t2⟩ := takeWhile_no hd1
      rw [t1, t2]; rfl
    | true =>
      obtain ⟨t1, t2, nz, ne⟩ := takeWhile_hd (by decide) hd1
      have hm : (l.drop 1).length = m := by rw [List.length_drop]; omega
      have st2 := (List.drop_suffix 1 l).trans hl
      rw [t1, t2, satV_cons]
      exact cond_run rfl (cond_not rfl (num_step hs hl hn hd1 (ih (l.drop 1) _ hm st2 (Nat.min_le_right _ _))))

/-- A nought alone. -/
theorem rnumber_zero {s l : List UInt8} {g : Bool} (hs : s.length ≤ 100000) (hl : l <:+ s) (h48 : hd l = 48) :
    LL 153 1 lc_153_10 (numF (pos s l) g 0 true) (rdr s (pos s l) 0 0) = some (numO s (pos s l) g 0 (pos s (l.drop 1))) := by
  have hd1 : digC (hd l) = true := by rw [h48]; decide
  obtain ⟨st1, st2⟩ := pos_step hl hs (by rw [h48]; decide)
  have hlt : pos s l < pos s (l.drop 1) := by
    have := drop_less (l := l) (by rw [h48]; decide)
    unfold pos; omega
  have inner : LL 153 1 lc_153_10 (numF (pos s l) g 0 true) (rdr s (pos s (l.drop 1)) 0 0) = some (numO s (pos s l) g 0 (pos s (l.drop 1))) := by
    refine loop_of_body ((eq_rnumberL10 RR LL s (pos s (l.drop 1)) 0 0 (pos s l) g 0 true).trans (cond_run (pos_ge st2) ?_))
    rw [dig_at st2]
    cases digC (hd (l.drop 1)) with
    | false => exact cond_not rfl rfl
    | true => exact cond_run rfl (cond_run rfl (cond_not (by rw [dec_yes hlt]; rfl) rfl))
  refine loop_of_body ((eq_rnumberL10 RR LL s (pos s l) 0 0 (pos s l) g 0 true).trans (cond_run (pos_ge hl) (cond_run (by rw [dig_at hl, hd1]; rfl) (cond_run rfl (cond_run (by rw [dec_no (by omega)]; rfl) ?_)))))
  refine num_step (n := 0) hs hl (by omega) hd1 ?_
  rw [h48]
  exact inner

end Go.Proofs.YtghdhhmlmdohkaaGreatDoor
