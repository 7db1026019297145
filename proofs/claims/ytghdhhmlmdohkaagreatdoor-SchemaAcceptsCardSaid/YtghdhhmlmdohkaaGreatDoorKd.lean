/- Value and Accepts. -/
import Derived.Test.YtghdhhmlmdohkaaGreatDoorKc
import Derived.Test.YtghdhhmlmdohkaaGreatDoorSp1
namespace Go.Proofs.YtghdhhmlmdohkaaGreatDoor
open Go Go.Den
set_option maxRecDepth 100000

/-- What Value answers. -/
def valS (s : List UInt8) : AV :=
  if 65536 < s.length then .tup [nilV, num 0, num 5] else
  match valL 9 39 6 s with
  | .ok y l => if l = [] then .tup [slotsV y, num 0, num 0] else .tup [nilV, num (pos s l), num 2]
  | .err e l => .tup [nilV, num (pos s l), num e]

theorem numL_err {l r : List UInt8} {e : Int} (h : numL l = .err e r) : e ≠ 0 := by
  unfold numL at h
  dsimp only at h
  repeat' split at h
  all_goals (cases h <;> decide)
theorem needL_err : ∀ {w l r : List UInt8} {e : Int}, needL w l = .err e r → e ≠ 0
  | [], _, _, _, h => by cases h
  | c :: w, l, r, e, h => by
    unfold needL at h
    split at h
    · exact needL_err h
    · injection h with h; omega
theorem wordL_err {l r : List UInt8} {e : Int} (h : wordL l = .err e r) : e ≠ 0 := by
  unfold wordL at h
  split at h
  · cases h
  · injection h with h; omega
theorem hexL_err {l r : List UInt8} {e : Int} (h : hexL l = .err e r) : e ≠ 0 := by
  unfold hexL at h
  split at h
  · cases h
  · injection h with h; omega
theorem then_err {α β : Type} {x : PR α} {f : α → List UInt8 → PR β} {e : Int} {r : List UInt8} (h : x.andThen f = .err e r) (hx : ∀ r, x = .err e r → e ≠ 0) (hf : ∀ a q, x = .ok a q → f a q = .err e r → e ≠ 0) : e ≠ 0 := by
  cases x with
  | err e' r' => injection h with h1 h2; subst h1; exact hx _ rfl
  | ok a q => exact hf a q rfl h

theorem quotL_err : ∀ (n : Nat) (acc l r : List UInt8) (e : Int), l.length < n → quotL n acc l = .err e r → e ≠ 0 := by
  intro n
  induction n with
  | zero => intro acc l r e hn; exact absurd hn (by omega)
  | succ n ih =>
    intro acc l r e hn h
    unfold quotL at h
    split at h
    · cases h
    split at h
    · injection h with h; omega
    rename_i hr
    have hnz : hd l ≠ 0 := fun e => hr (.inl (by rw [e]; decide))
    have l1 := drop_less hnz
    split at h
    · exact ih _ _ _ _ (by omega) h
    split at h
    · rename_i hc
      have l2 := drop_less (l := l.drop 1) (by rcases hc with hc | hc <;> rw [hc] <;> decide)
      exact ih _ _ _ _ (by omega) h
    split at h
    · rename_i hc
      have l2 := drop_less (l := l.drop 1) (by rw [hc]; decide)
      refine then_err h (fun _ => hexL_err) fun a q ha h => then_err h (fun _ => hexL_err) fun b q2 hb h => ?_
      have := (hexL_ok ha).2
      have := (hexL_ok hb).2
      split at h
      · injection h with h; omega
      · exact ih _ _ _ _ (by omega) h
    · injection h with h; omega

theorem tail_le {α : Type} {x : PR α} {l r : List UInt8} {a : α} (h : x.Tail l) (hx : x = .ok a r) : r.length ≤ l.length := by
  rw [hx] at h; exact List.IsSuffix.length_le h

theorem valL_err : ∀ (d : Nat) (l r : List UInt8) (e : Int), valL 9 39 d l = .err e r → e ≠ 0 := by
  intro d
  induction d with
  | zero => intro l r e h; injection h with h; omega
  | succ d ih =>
    have els : ∀ (n : Nat) (acc : List E) (l r : List UInt8) (e : Int), l.length < n → elsL (valL 9 39 d) n acc l = .err e r → e ≠ 0 := by
      intro n
      induction n with
      | zero => intro acc l r e hn; exact absurd hn (by omega)
      | succ n ihn =>
        intro acc l r e hn h
        unfold elsL at h
        refine then_err h (fun r => ih l r e) fun y l1 hy h => ?_
        have := tail_le (valL_tail 9 39 d l) hy
        split at h
        · rename_i hc
          have l2 := drop_less (l := l1) (by rw [hc]; decide)
          exact ihn _ _ _ _ (by omega) h
        · exact then_err h (fun _ => needL_err) fun _ _ _ h => by cases h
    have ent : ∀ (n : Nat) (ns acc : List E) (l r : List UInt8) (e : Int), l.length < n → entL (valL 9 39 d) n ns acc l = .err e r → e ≠ 0 := by
      intro n
      induction n with
      | zero => intro ns acc l r e hn; exact absurd hn (by omega)
      | succ n ihn =>
        intro ns acc l r e hn h
        unfold entL at h
        refine then_err h (fun _ => wordL_err) fun x l1 hx h => ?_
        have := (wordL_less hx).1
        split at h
        · injection h with h; omega
        split at h
        · injection h with h; omega
        refine then_err h (fun _ => needL_err) fun _ l2 h2 h => ?_
        have := tail_le (needL_tail [58] l1) h2
        refine then_err h (fun r => ih l2 r e) fun y l3 hy h => ?_
        have := tail_le (valL_tail 9 39 d l2) hy
        split at h
        · rename_i hc
          have l4 := drop_less (l := l3) (by rw [hc]; decide)
          exact ihn _ _ _ _ _ (by omega) h
        · exact then_err h (fun _ => needL_err) fun _ _ _ h => by cases h
    intro l r e h
    unfold valL at h
    split at h
    · exact then_err h (fun _ => numL_err) fun _ _ _ h => by cases h
    split at h
    · exact then_err h (fun _ => needL_err) fun _ _ _ h => by cases h
    split at h
    · exact then_err h (fun _ => needL_err) fun _ _ _ h => by cases h
    split at h
    · exact then_err h (fun r => quotL_err _ _ _ _ _ (Nat.lt_succ_self _)) fun _ _ _ h => by cases h
    split at h
    · split at h
      · cases h
      · exact then_err h (fun r => els _ _ _ _ _ (Nat.lt_succ_self _)) fun _ _ _ h => by cases h
    split at h
    · split at h
      · cases h
      · exact then_err h (fun r => ent _ _ _ _ _ _ (Nat.lt_succ_self _)) fun _ _ _ h => by cases h
    · injection h with h; omega

theorem okV41 (k n : Int) (x : List UInt8) (ns vs : List E) (p e : Int) : okRes PP 40 (.ret (.tup [.agg [num k, num n, str x, .e (.sl 9 ns), .e (.sl 39 vs)], num p, num e])) = true := by kernel_rfl
theorem okPay (s : List UInt8) : okRes PP 40 (.ret (payS s)) = true := by
  unfold payS
  split
  · split <;> exact okV41 ..
  · exact okV41 ..
theorem okVal (s : List UInt8) : okRes PP 40 (.ret (valS s)) = true := by
  unfold valS
  split
  · exact okV41 ..
  · split
    · split <;> exact okV41 ..
    · exact okV41 ..

theorem Value_run (s : List UInt8) : RR none 19 [str s] [] = some (.ret (valS s), []) := by
  refine run_of_body ((eq_Value RR LL s).trans ?_)
  unfold valS
  by_cases hb : 65536 < s.length
  · rw [if_pos hb]
    exact cond_run (dec_yes (by omega)) rfl
  rw [if_neg hb]
  refine cond_not (dec_no (by omega)) (bind_run (payload_run (s := s) (by omega)) (cond_run rfl (cond_run (okPay s) ?_)))
  have herr : ∀ e l, valL 9 39 6 s = .err e l → e ≠ 0 := fun e l h => valL_err 6 s l e h
  unfold payS
  cases hv : valL 9 39 6 s with
  | ok y l =>
    dsimp only
    by_cases hl : l = []
    · rw [if_pos hl]
      exact cond_not rfl rfl
    · rw [if_neg hl]
      exact cond_run rfl rfl
  | err e l =>
    exact cond_run (by show (!(e == 0)) = true; rw [ne_beq (herr e l hv)]; rfl) rfl

theorem valL_all {s : List UInt8} {y : E} (hs : s.length ≤ 100000) (h : valL 9 39 6 s = .ok y []) : FulV 9 39 6 y ∧ Val y := by
  obtain ⟨h1, h2⟩ := valL_back 6 s y [] h
  rw [List.append_nil] at h2
  exact ⟨h1, h1.val (by rw [← h2]; exact hs)⟩

end Go.Proofs.YtghdhhmlmdohkaaGreatDoor
