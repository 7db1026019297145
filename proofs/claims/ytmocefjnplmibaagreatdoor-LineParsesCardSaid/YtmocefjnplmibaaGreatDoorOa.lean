/- A line that is accepted is the line of the request that is returned. -/
import Derived.Test.YtmocefjnplmibaaGreatDoorPd
import Derived.Test.YtmocefjnplmibaaGreatDoorRc
namespace Go.Proofs.YtmocefjnplmibaaGreatDoor
open Go Go.Den
set_option maxRecDepth 100000

/-! ### LineOnly -/

theorem ok43 (r : Req) (e : Int) : okRes PP 43 (.ret (.tup [reqA r, num e])) = true := by kernel_rfl
theorem parA_ok (x : Except Int Req) : okRes PP 43 (.ret (parA x)) = true := by cases x <;> exact ok43 _ _
theorem split_piece : ∀ (s : S8) (i : Nat), ((splitAt 32 s).getD i []).length ≤ s.length := by
  intro s
  induction s with
  | nil => intro i; cases i with | zero => exact Nat.le_refl _ | succ i => exact Nat.le_refl _
  | cons x s ih =>
    intro i
    unfold splitAt
    by_cases h : x = 32
    · rw [if_pos h]
      cases i with
      | zero => exact Nat.zero_le _
      | succ i => have := ih i; show ((splitAt 32 s).getD i []).length ≤ _; rw [List.length_cons]; omega
    · rw [if_neg h]
      cases hs : splitAt 32 s with
      | nil => have := split_len 32 s; rw [hs] at this; simp at this
      | cons y r =>
        rw [hs] at ih
        cases i with
        | zero => have := ih 0; show (x :: y).length ≤ _; rw [List.length_cons, List.length_cons]; have : y.length ≤ s.length := this; omega
        | succ i => have := ih (i + 1); show (r.getD i []).length ≤ _; have : (r.getD i []).length ≤ s.length := this; rw [List.length_cons]; omega
theorem split_num (s : S8) : (splitAt 32 s).length ≤ s.length + 1 := by
  rw [split_len]
  have := List.countP_le_length (p := fun b => decide (b = 32)) (l := s)
  omega
theorem parse_len {l : List S8} {r : Req} (h : parseL l = .ok r) : r.bd.mtch.length ≤ l.length ∧ r.msg.props.length ≤ l.length := by
  unfold parseL at h
  split at h
  · cases h
  rename_i hk0
  split at h
  · cases h
  obtain ⟨q, hb, h⟩ := bind_ok h
  split at h
  · injection h with h; subst h
    exact bodyR_len ((kOf_cases (l.getD 0 [])).resolve_left hk0).1 hb
  · cases h
def Good {α : Type} (x : Except Int α) : Prop := ∀ e, x = .error e → e ≠ 0
theorem good_ok {α : Type} (a : α) : Good (.ok a : Except Int α) := fun e h => by cases h
theorem good_bind {α β : Type} {x : Except Int α} {f : α → Except Int β} (hx : Good x) (hf : ∀ a, Good (f a)) : Good (x.bind f) := by
  intro e h
  cases x with
  | error e' =>
    have h : (Except.error e' : Except Int β) = .error e := h
    injection h with h; subst h
    exact hx _ rfl
  | ok a => exact hf a e h
theorem good_cond {α : Type} {b : Bool} {x y : Except Int α} (hx : Good x) (hy : Good y) : Good (bif b then x else y) := by
  cases b
  · exact hy
  · exact hx
theorem numR_good (s : S8) : Good (numR s) := by
  intro e h
  unfold numR at h
  split at h
  · split at h
    · cases h
    · injection h with h; omega
  · injection h with h; omega
theorem truR_good (s : S8) : Good (truR s) := by
  intro e h
  unfold truR at h
  split at h
  · cases h
  split at h
  · cases h
  · injection h with h; omega
theorem txtR_good (s : S8) : Good (txtR s) := by
  intro e h
  unfold txtR at h
  split at h
  · cases h
  · injection h with h; omega
theorem optR_good (s : S8) : Good (optR s) := by
  intro e h
  unfold optR at h
  split at h
  · injection h with h; omega
  split at h <;> cases h
theorem kndR_good (s : S8) : Good (kndR s) := fun e h => by have := kndR_err h; omega
theorem prpR1_good (s : S8) : Good (prpR1 s) := by
  intro e h
  unfold prpR1 at h
  split at h
  · rename_i k v _
    cases ht : txtR v with
    | error e' => rw [ht] at h; injection h with h; subst h; exact txtR_good v _ ht
    | ok a => rw [ht] at h; cases h
  · injection h with h; omega
theorem prpsR_good : ∀ l : List S8, Good (prpsR l) := by
  intro l
  induction l with
  | nil => exact good_ok _
  | cons x l ih => exact good_bind (prpR1_good x) fun _ => good_bind ih fun _ => good_ok _
theorem msgR_good (l : List S8) (i : Nat) : Good (msgR l i) :=
  good_bind (txtR_good _) fun _ => good_bind (txtR_good _) fun _ => good_bind (numR_good _) fun _ => good_bind (truR_good _) fun _ => good_bind (numR_good _) fun _ => good_bind (numR_good _) fun _ =>
    good_bind (optR_good _) fun _ => good_bind (numR_good _) fun _ => good_bind (prpsR_good _) fun _ => good_ok _
theorem bodyR_good (k : Int) (l : List S8) : Good (bodyR k l) :=
  good_bind (numR_good _) fun _ => good_bind (numR_good _) fun _ =>
    good_cond (good_bind (kndR_good _) fun _ => good_bind (optR_good _) fun _ => good_ok _) <|
    good_cond (good_bind (numR_good _) fun _ => good_bind (numR_good _) fun _ => good_bind (numR_good _) fun _ => good_bind (optR_good _) fun _ => good_ok _) <|
    good_cond (good_bind (txtR_good _) fun _ => good_bind (truR_good _) fun _ => good_bind (prpsR_good _) fun _ => good_ok _) <|
    good_cond (good_bind (optR_good _) fun _ => good_bind (txtR_good _) fun _ => good_bind (msgR_good _ _) fun _ => good_ok _) <|
    good_cond (good_bind (numR_good _) fun _ => good_bind (numR_good _) fun _ => good_ok _) <|
    good_cond (good_bind (numR_good _) fun _ => good_ok _) <|
    good_cond (good_bind (numR_good _) fun _ => good_bind (truR_good _) fun _ => good_ok _) <|
    good_cond (good_ok _) (good_ok _)
end Go.Proofs.YtmocefjnplmibaaGreatDoor
