/- A line that is accepted is the line of the request that is returned. -/
import Derived.Test.YtmocefjnplmibaaGreatDoorPd
import Derived.Test.YtmocefjnplmibaaGreatDoorRc
namespace Go.Proofs.YtmocefjnplmibaaGreatDoor
open Go Go.Den
set_option maxRecDepth 100000

theorem join_split : ∀ (s : S8), joinS (splitAt 32 s) = s := by
  intro s
  induction s with
  | nil => exact Lib.join_one [] [32]
  | cons x s ih =>
    unfold splitAt
    cases hs : splitAt 32 s with
    | nil => have := split_len 32 s; rw [hs] at this; simp at this
    | cons y r =>
      rw [hs] at ih
      have ih : Lib.join (y :: r) [32] = s := ih
      rw [Lib.join_cons] at ih
      by_cases h : x = 32
      · rw [if_pos h]
        show Lib.join ([] :: y :: r) [32] = _
        rw [Lib.join_cons]
        have e : Lib.joinTail [32] (y :: r) = 32 :: (y ++ Lib.joinTail [32] r) := by simp [Lib.joinTail]
        rw [e, ih, h]; rfl
      · rw [if_neg h]
        show Lib.join ((x :: y) :: r) [32] = _
        rw [Lib.join_cons]
        show x :: (y ++ Lib.joinTail [32] r) = _
        rw [ih]
theorem numR_inv {x : S8} {n : Int} (h : numR x = .ok n) : Lib.itoa n = x := by
  unfold numR at h
  split at h
  · rename_i hc
    split at h
    · injection h with h; subst h; exact num_itoa hc
    · cases h
  · cases h
theorem truR_inv {x : S8} {b : Bool} (h : truR x = .ok b) : truS b = x := by
  unfold truR at h
  split at h
  · rename_i hc; injection h with h; subst h; exact hc.symm
  · split at h
    · rename_i hc; injection h with h; subst h; exact hc.symm
    · cases h
theorem txtR_inv {x a : S8} (h : txtR x = .ok a) : quoS a = x := by
  unfold txtR at h
  split at h
  · rename_i hc; injection h with h; subst h; exact unqS_some hc
  · cases h
theorem optR_inv {x a : S8} (h : optR x = .ok a) : mayS a = x := by
  unfold optR at h
  split at h
  · cases h
  · rename_i h0
    split at h
    · rename_i hc; injection h with h; subst h; exact hc.symm
    · injection h with h; subst h
      unfold mayS
      rw [strEq_dec, dec_no h0]; rfl
theorem kndR_inv {x : S8} {k : Int} (h : kndR x = .ok k) : exwS k = x := by
  unfold kndR at h
  split at h
  · rename_i hc; injection h with h; subst h; exact hc.symm
  split at h
  · rename_i hc; injection h with h; subst h; exact hc.symm
  split at h
  · rename_i hc; injection h with h; subst h; exact hc.symm
  split at h
  · rename_i hc; injection h with h; subst h; exact hc.symm
  · cases h
theorem ib_at : ∀ (x : S8), 0 ≤ Lib.indexByte x 61 → x.take (Lib.indexByte x 61).toNat ++ 61 :: x.drop ((Lib.indexByte x 61).toNat + 1) = x := by
  intro x
  induction x with
  | nil => intro h; exact absurd h (by show ¬ (0 : Int) ≤ -1; omega)
  | cons c x ih =>
    intro h
    unfold Lib.indexByte at h ⊢
    by_cases hc : c = 61
    · rw [if_pos (by simpa using hc), hc]; rfl
    · rw [if_neg (by simpa using hc)] at h ⊢
      by_cases h1 : Lib.indexByte x 61 = -1
      · rw [h1] at h; exact absurd h (by decide)
      · rw [if_neg (by simpa using h1)]
        have hg := ib_ge x 61
        have hn : (Lib.indexByte x 61 + 1).toNat = (Lib.indexByte x 61).toNat + 1 := by omega
        rw [hn]
        show c :: (x.take _ ++ 61 :: x.drop _) = _
        rw [ih (by omega)]
theorem prpR1_inv {x : S8} {p : E} (h : prpR1 x = .ok p) : prpS p = x := by
  unfold prpR1 cutP at h
  by_cases hq : 0 ≤ Lib.indexByte x 61
  · rw [if_pos hq] at h
    have h : (txtR (x.drop ((Lib.indexByte x 61).toNat + 1))).map (fun t => E.agg [.str (x.take (Lib.indexByte x 61).toNat), .str t]) = .ok p := h
    cases ht : txtR (x.drop ((Lib.indexByte x 61).toNat + 1)) with
    | error e => rw [ht] at h; cases h
    | ok t =>
      rw [ht] at h
      injection h with h; subst h
      show x.take _ ++ [61] ++ quoS t = x
      rw [txtR_inv ht, List.append_assoc]
      exact ib_at x hq
  · rw [if_neg hq] at h; cases h
theorem prpsR_inv : ∀ {l : List S8} {r : List E}, prpsR l = .ok r → r.map prpS = l := by
  intro l
  induction l with
  | nil => intro r h; injection h with h; subst h; rfl
  | cons x l ih =>
    intro r h
    obtain ⟨p, hp, h⟩ := bind_ok h
    obtain ⟨q, hq, h⟩ := bind_ok h
    injection h with h; subst h
    rw [List.map_cons, prpR1_inv hp, ih hq]
theorem msgR_inv {l : List S8} {i : Nat} {m : Msg} (hi : i + 8 ≤ l.length) (h : msgR l i = .ok m) : mfS m = l.drop i := by
  unfold msgR at h
  obtain ⟨v0, q0, h⟩ := bind_ok h
  obtain ⟨v1, q1, h⟩ := bind_ok h
  obtain ⟨v2, q2, h⟩ := bind_ok h
  obtain ⟨v3, q3, h⟩ := bind_ok h
  obtain ⟨v4, q4, h⟩ := bind_ok h
  obtain ⟨v5, q5, h⟩ := bind_ok h
  obtain ⟨v6, q6, h⟩ := bind_ok h
  obtain ⟨v7, q7, h⟩ := bind_ok h
  obtain ⟨v8, q8, h⟩ := bind_ok h
  injection h with h; subst h
  show [quoS v0, quoS v1, Lib.itoa v2, truS v3, Lib.itoa v4, Lib.itoa v5, mayS v6, Lib.itoa v7] ++ v8.map prpS = _
  rw [txtR_inv q0, txtR_inv q1, numR_inv q2, truR_inv q3, numR_inv q4, numR_inv q5, optR_inv q6, numR_inv q7, prpsR_inv q8]
  rw [drop_getD (show i < l.length by omega) [], drop_getD (show i + 1 < l.length by omega) [], drop_getD (show i + 1 + 1 < l.length by omega) [], drop_getD (show i + 1 + 1 + 1 < l.length by omega) [],
    drop_getD (show i + 1 + 1 + 1 + 1 < l.length by omega) [], drop_getD (show i + 1 + 1 + 1 + 1 + 1 < l.length by omega) [], drop_getD (show i + 1 + 1 + 1 + 1 + 1 + 1 < l.length by omega) [], drop_getD (show i + 1 + 1 + 1 + 1 + 1 + 1 + 1 < l.length by omega) []]
  rfl

theorem inv_k1 {l : List S8} {r : Req} (hn : l.length = 6) (h0 : wordS 1 = l.getD 0 []) (h : bodyR 1 l = .ok r) : reqF r = l := by
  match l, hn with
  | [a0, a1, a2, a3, a4, a5], hn =>
    unfold bodyR at h
    have h0 : wordS 1 = a0 := h0
    obtain ⟨v0, q0, h⟩ := bind_ok h
    have e0 : Lib.itoa v0 = a1 := numR_inv q0
    obtain ⟨v1, q1, h⟩ := bind_ok h
    have e1 : Lib.itoa v1 = a2 := numR_inv q1
    obtain ⟨v3, q3, h⟩ := bind_ok h
    have e3 : exwS v3 = a4 := kndR_inv q3
    obtain ⟨v4, q4, h⟩ := bind_ok h
    have e4 : mayS v4 = a5 := optR_inv q4
    injection h with h; subst h
    show [wordS 1, Lib.itoa v0, Lib.itoa v1, a3, exwS v3, mayS v4] = _
    rw [h0, e0, e1, e3, e4]
theorem inv_k2 {l : List S8} {r : Req} (hn : l.length = 8) (h0 : wordS 2 = l.getD 0 []) (h : bodyR 2 l = .ok r) : reqF r = l := by
  match l, hn with
  | [a0, a1, a2, a3, a4, a5, a6, a7], hn =>
    unfold bodyR at h
    have h0 : wordS 2 = a0 := h0
    obtain ⟨v0, q0, h⟩ := bind_ok h
    have e0 : Lib.itoa v0 = a1 := numR_inv q0
    obtain ⟨v1, q1, h⟩ := bind_ok h
    have e1 : Lib.itoa v1 = a2 := numR_inv q1
    obtain ⟨v3, q3, h⟩ := bind_ok h
    have e3 : Lib.itoa v3 = a4 := numR_inv q3
    obtain ⟨v4, q4, h⟩ := bind_ok h
    have e4 : Lib.itoa v4 = a5 := numR_inv q4
    obtain ⟨v5, q5, h⟩ := bind_ok h
    have e5 : Lib.itoa v5 = a6 := numR_inv q5
    obtain ⟨v6, q6, h⟩ := bind_ok h
    have e6 : mayS v6 = a7 := optR_inv q6
    injection h with h; subst h
    show [wordS 2, Lib.itoa v0, Lib.itoa v1, a3, Lib.itoa v3, Lib.itoa v4, Lib.itoa v5, mayS v6] = _
    rw [h0, e0, e1, e3, e4, e5, e6]
theorem inv_k3 {l : List S8} {r : Req} (hn : 7 ≤ l.length) (h0 : wordS 3 = l.getD 0 []) (h : bodyR 3 l = .ok r) : reqF r = l := by
  match l, hn with
  | a0 :: a1 :: a2 :: a3 :: a4 :: a5 :: a6 :: rest, hn =>
    unfold bodyR at h
    have h0 : wordS 3 = a0 := h0
    obtain ⟨v0, q0, h⟩ := bind_ok h
    have e0 : Lib.itoa v0 = a1 := numR_inv q0
    obtain ⟨v1, q1, h⟩ := bind_ok h
    have e1 : Lib.itoa v1 = a2 := numR_inv q1
    obtain ⟨v4, q4, h⟩ := bind_ok h
    have e4 : quoS v4 = a5 := txtR_inv q4
    obtain ⟨v5, q5, h⟩ := bind_ok h
    have e5 : truS v5 = a6 := truR_inv q5
    obtain ⟨v6, q6, h⟩ := bind_ok h
    have e6 : v6.map prpS = rest := prpsR_inv q6
    injection h with h; subst h
    show [wordS 3, Lib.itoa v0, Lib.itoa v1] ++ ([a3, a4, quoS v4, truS v5] ++ v6.map prpS) = _
    rw [h0, e0, e1, e4, e5, e6]
    rfl
theorem inv_k4 {l : List S8} {r : Req} (hn : 7 ≤ l.length) (h0 : wordS 4 = l.getD 0 []) (h : bodyR 4 l = .ok r) : reqF r = l := by
  match l, hn with
  | a0 :: a1 :: a2 :: a3 :: a4 :: a5 :: a6 :: rest, hn =>
    unfold bodyR at h
    have h0 : wordS 4 = a0 := h0
    obtain ⟨v0, q0, h⟩ := bind_ok h
    have e0 : Lib.itoa v0 = a1 := numR_inv q0
    obtain ⟨v1, q1, h⟩ := bind_ok h
    have e1 : Lib.itoa v1 = a2 := numR_inv q1
    obtain ⟨v4, q4, h⟩ := bind_ok h
    have e4 : quoS v4 = a5 := txtR_inv q4
    obtain ⟨v5, q5, h⟩ := bind_ok h
    have e5 : truS v5 = a6 := truR_inv q5
    obtain ⟨v6, q6, h⟩ := bind_ok h
    have e6 : v6.map prpS = rest := prpsR_inv q6
    injection h with h; subst h
    show [wordS 4, Lib.itoa v0, Lib.itoa v1] ++ ([a3, a4, quoS v4, truS v5] ++ v6.map prpS) = _
    rw [h0, e0, e1, e4, e5, e6]
    rfl
theorem inv_k5 {l : List S8} {r : Req} (hn : 13 ≤ l.length) (h0 : wordS 5 = l.getD 0 []) (h : bodyR 5 l = .ok r) : reqF r = l := by
  match l, hn with
  | a0 :: a1 :: a2 :: a3 :: a4 :: rest, hn =>
    unfold bodyR at h
    have h0 : wordS 5 = a0 := h0
    obtain ⟨v0, q0, h⟩ := bind_ok h
    have e0 : Lib.itoa v0 = a1 := numR_inv q0
    obtain ⟨v1, q1, h⟩ := bind_ok h
    have e1 : Lib.itoa v1 = a2 := numR_inv q1
    obtain ⟨v2, q2, h⟩ := bind_ok h
    have e2 : mayS v2 = a3 := optR_inv q2
    obtain ⟨v3, q3, h⟩ := bind_ok h
    have e3 : quoS v3 = a4 := txtR_inv q3
    obtain ⟨v4, q4, h⟩ := bind_ok h
    have e4 : mfS v4 = rest := msgR_inv (l := a0 :: a1 :: a2 :: a3 :: a4 :: rest) (i := 5) (by simp only [List.length_cons] at hn ⊢; omega) q4
    injection h with h; subst h
    show [wordS 5, Lib.itoa v0, Lib.itoa v1] ++ ([mayS v2, quoS v3] ++ mfS v4) = _
    rw [h0, e0, e1, e2, e3, e4]
    rfl
theorem inv_k6 {l : List S8} {r : Req} (hn : l.length = 6) (h0 : wordS 6 = l.getD 0 []) (h : bodyR 6 l = .ok r) : reqF r = l := by
  match l, hn with
  | [a0, a1, a2, a3, a4, a5], hn =>
    unfold bodyR at h
    have h0 : wordS 6 = a0 := h0
    obtain ⟨v0, q0, h⟩ := bind_ok h
    have e0 : Lib.itoa v0 = a1 := numR_inv q0
    obtain ⟨v1, q1, h⟩ := bind_ok h
    have e1 : Lib.itoa v1 = a2 := numR_inv q1
    obtain ⟨v2, q2, h⟩ := bind_ok h
    have e2 : Lib.itoa v2 = a3 := numR_inv q2
    obtain ⟨v4, q4, h⟩ := bind_ok h
    have e4 : Lib.itoa v4 = a5 := numR_inv q4
    injection h with h; subst h
    show [wordS 6, Lib.itoa v0, Lib.itoa v1, Lib.itoa v2, a4, Lib.itoa v4] = _
    rw [h0, e0, e1, e2, e4]
theorem inv_k7 {l : List S8} {r : Req} (hn : l.length = 4) (h0 : wordS 7 = l.getD 0 []) (h : bodyR 7 l = .ok r) : reqF r = l := by
  match l, hn with
  | [a0, a1, a2, a3], hn =>
    unfold bodyR at h
    have h0 : wordS 7 = a0 := h0
    obtain ⟨v0, q0, h⟩ := bind_ok h
    have e0 : Lib.itoa v0 = a1 := numR_inv q0
    obtain ⟨v1, q1, h⟩ := bind_ok h
    have e1 : Lib.itoa v1 = a2 := numR_inv q1
    obtain ⟨v2, q2, h⟩ := bind_ok h
    have e2 : Lib.itoa v2 = a3 := numR_inv q2
    injection h with h; subst h
    show [wordS 7, Lib.itoa v0, Lib.itoa v1, Lib.itoa v2] = _
    rw [h0, e0, e1, e2]
theorem inv_k8 {l : List S8} {r : Req} (hn : l.length = 5) (h0 : wordS 8 = l.getD 0 []) (h : bodyR 8 l = .ok r) : reqF r = l := by
  match l, hn with
  | [a0, a1, a2, a3, a4], hn =>
    unfold bodyR at h
    have h0 : wordS 8 = a0 := h0
    obtain ⟨v0, q0, h⟩ := bind_ok h
    have e0 : Lib.itoa v0 = a1 := numR_inv q0
    obtain ⟨v1, q1, h⟩ := bind_ok h
    have e1 : Lib.itoa v1 = a2 := numR_inv q1
    obtain ⟨v2, q2, h⟩ := bind_ok h
    have e2 : Lib.itoa v2 = a3 := numR_inv q2
    obtain ⟨v3, q3, h⟩ := bind_ok h
    have e3 : truS v3 = a4 := truR_inv q3
    injection h with h; subst h
    show [wordS 8, Lib.itoa v0, Lib.itoa v1, Lib.itoa v2, truS v3] = _
    rw [h0, e0, e1, e2, e3]
theorem inv_k9 {l : List S8} {r : Req} (hn : l.length = 5) (h0 : wordS 9 = l.getD 0 []) (h : bodyR 9 l = .ok r) : reqF r = l := by
  match l, hn with
  | [a0, a1, a2, a3, a4], hn =>
    unfold bodyR at h
    have h0 : wordS 9 = a0 := h0
    obtain ⟨v0, q0, h⟩ := bind_ok h
    have e0 : Lib.itoa v0 = a1 := numR_inv q0
    obtain ⟨v1, q1, h⟩ := bind_ok h
    have e1 : Lib.itoa v1 = a2 := numR_inv q1
    obtain ⟨v2, q2, h⟩ := bind_ok h
    have e2 : Lib.itoa v2 = a3 := numR_inv q2
    obtain ⟨v3, q3, h⟩ := bind_ok h
    have e3 : truS v3 = a4 := truR_inv q3
    injection h with h; subst h
    show [wordS 9, Lib.itoa v0, Lib.itoa v1, Lib.itoa v2, truS v3] = _
    rw [h0, e0, e1, e2, e3]
theorem inv_k10 {l : List S8} {r : Req} (hn : l.length = 3) (h0 : wordS 10 = l.getD 0 []) (h : bodyR 10 l = .ok r) : reqF r = l := by
  match l, hn with
  | [a0, a1, a2], hn =>
    unfold bodyR at h
    have h0 : wordS 10 = a0 := h0
    obtain ⟨v0, q0, h⟩ := bind_ok h
    have e0 : Lib.itoa v0 = a1 := numR_inv q0
    obtain ⟨v1, q1, h⟩ := bind_ok h
    have e1 : Lib.itoa v1 = a2 := numR_inv q1
    injection h with h; subst h
    show [wordS 10, Lib.itoa v0, Lib.itoa v1] = _
    rw [h0, e0, e1]
theorem inv_k11 {l : List S8} {r : Req} (hn : l.length = 3) (h0 : wordS 11 = l.getD 0 []) (h : bodyR 11 l = .ok r) : reqF r = l := by
  match l, hn with
  | [a0, a1, a2], hn =>
    unfold bodyR at h
    have h0 : wordS 11 = a0 := h0
    obtain ⟨v0, q0, h⟩ := bind_ok h
    have e0 : Lib.itoa v0 = a1 := numR_inv q0
    obtain ⟨v1, q1, h⟩ := bind_ok h
    have e1 : Lib.itoa v1 = a2 := numR_inv q1
    injection h with h; subst h
    show [wordS 11, Lib.itoa v0, Lib.itoa v1] = _
    rw [h0, e0, e1]
theorem inv_k12 {l : List S8} {r : Req} (hn : l.length = 3) (h0 : wordS 12 = l.getD 0 []) (h : bodyR 12 l = .ok r) : reqF r = l := by
  match l, hn with
  | [a0, a1, a2], hn =>
    unfold bodyR at h
    have h0 : wordS 12 = a0 := h0
    obtain ⟨v0, q0, h⟩ := bind_ok h
    have e0 : Lib.itoa v0 = a1 := numR_inv q0
    obtain ⟨v1, q1, h⟩ := bind_ok h
    have e1 : Lib.itoa v1 = a2 := numR_inv q1
    injection h with h; subst h
    show [wordS 12, Lib.itoa v0, Lib.itoa v1] = _
    rw [h0, e0, e1]
theorem inv_k13 {l : List S8} {r : Req} (hn : l.length = 4) (h0 : wordS 13 = l.getD 0 []) (h : bodyR 13 l = .ok r) : reqF r = l := by
  match l, hn with
  | [a0, a1, a2, a3], hn =>
    unfold bodyR at h
    have h0 : wordS 13 = a0 := h0
    obtain ⟨v0, q0, h⟩ := bind_ok h
    have e0 : Lib.itoa v0 = a1 := numR_inv q0
    obtain ⟨v1, q1, h⟩ := bind_ok h
    have e1 : Lib.itoa v1 = a2 := numR_inv q1
    injection h with h; subst h
    show [wordS 13, Lib.itoa v0, Lib.itoa v1, a3] = _
    rw [h0, e0, e1]
theorem inv_k14 {l : List S8} {r : Req} (hn : l.length = 4) (h0 : wordS 14 = l.getD 0 []) (h : bodyR 14 l = .ok r) : reqF r = l := by
  match l, hn with
  | [a0, a1, a2, a3], hn =>
    unfold bodyR at h
    have h0 : wordS 14 = a0 := h0
    obtain ⟨v0, q0, h⟩ := bind_ok h
    have e0 : Lib.itoa v0 = a1 := numR_inv q0
    obtain ⟨v1, q1, h⟩ := bind_ok h
    have e1 : Lib.itoa v1 = a2 := numR_inv q1
    injection h with h; subst h
    show [wordS 14, Lib.itoa v0, Lib.itoa v1, a3] = _
    rw [h0, e0, e1]
theorem inv_k15 {l : List S8} {r : Req} (hn : l.length = 4) (h0 : wordS 15 = l.getD 0 []) (h : bodyR 15 l = .ok r) : reqF r = l := by
  match l, hn with
  | [a0, a1, a2, a3], hn =>
    unfold bodyR at h
    have h0 : wordS 15 = a0 := h0
    obtain ⟨v0, q0, h⟩ := bind_ok h
    have e0 : Lib.itoa v0 = a1 := numR_inv q0
    obtain ⟨v1, q1, h⟩ := bind_ok h
    have e1 : Lib.itoa v1 = a2 := numR_inv q1
    injection h with h; subst h
    show [wordS 15, Lib.itoa v0, Lib.itoa v1, a3] = _
    rw [h0, e0, e1]
theorem parse_inv {l : List S8} {r : Req} (h : parseL l = .ok r) : reqF r = l ∧ checkE r = 0 := by
  unfold parseL at h
  split at h
  · cases h
  rename_i hk0
  split at h
  · cases h
  rename_i hf
  obtain ⟨q, hb, h⟩ := bind_ok h
  split at h
  · rename_i hc
    injection h with h; subst h
    refine ⟨?_, hc⟩
    obtain ⟨hk, hw⟩ := (kOf_cases (l.getD 0 [])).resolve_left hk0
    generalize kOf (l.getD 0 []) = k at *
    have hf : fitsC k l.length = true := by cases hx : fitsC k l.length with | true => rfl | false => exact absurd hx hf
    unfold fitsC at hf
    rw [Bool.and_eq_true] at hf
    have f1 := of_decide_eq_false (unnot' hf.1)
    have f2 : openB k = false → ¬ cntS k < (l.length : Int) := fun ho => by
      have := hf.2
      rw [ho] at this
      exact of_decide_eq_false (unnot' this)
    rcases kinds hk with rfl | rfl | rfl | rfl | rfl | rfl | rfl | rfl | rfl | rfl | rfl | rfl | rfl | rfl | rfl
    · exact inv_k1 (by have : ¬ (l.length : Int) < 6 := f1; have : ¬ (6 : Int) < l.length := f2 rfl; omega) hw hb
    · exact inv_k2 (by have : ¬ (l.length : Int) < 8 := f1; have : ¬ (8 : Int) < l.length := f2 rfl; omega) hw hb
    · exact inv_k3 (by have : ¬ (l.length : Int) < 7 := f1; omega) hw hb
    · exact inv_k4 (by have : ¬ (l.length : Int) < 7 := f1; omega) hw hb
    · exact inv_k5 (by have : ¬ (l.length : Int) < 13 := f1; omega) hw hb
    · exact inv_k6 (by have : ¬ (l.length : Int) < 6 := f1; have : ¬ (6 : Int) < l.length := f2 rfl; omega) hw hb
    · exact inv_k7 (by have : ¬ (l.length : Int) < 4 := f1; have : ¬ (4 : Int) < l.length := f2 rfl; omega) hw hb
    · exact inv_k8 (by have : ¬ (l.length : Int) < 5 := f1; have : ¬ (5 : Int) < l.length := f2 rfl; omega) hw hb
    · exact inv_k9 (by have : ¬ (l.length : Int) < 5 := f1; have : ¬ (5 : Int) < l.length := f2 rfl; omega) hw hb
    · exact inv_k10 (by have : ¬ (l.length : Int) < 3 := f1; have : ¬ (3 : Int) < l.length := f2 rfl; omega) hw hb
    · exact inv_k11 (by have : ¬ (l.length : Int) < 3 := f1; have : ¬ (3 : Int) < l.length := f2 rfl; omega) hw hb
    · exact inv_k12 (by have : ¬ (l.length : Int) < 3 := f1; have : ¬ (3 : Int) < l.length := f2 rfl; omega) hw hb
    · exact inv_k13 (by have : ¬ (l.length : Int) < 4 := f1; have : ¬ (4 : Int) < l.length := f2 rfl; omega) hw hb
    · exact inv_k14 (by have : ¬ (l.length : Int) < 4 := f1; have : ¬ (4 : Int) < l.length := f2 rfl; omega) hw hb
    · exact inv_k15 (by have : ¬ (l.length : Int) < 4 := f1; have : ¬ (4 : Int) < l.length := f2 rfl; omega) hw hb
  · cases h

/-! ### LineOnly -/

theorem ok43 (r : Req) (e : Int) : okRes PP 43 (.ret (.tup [reqA r, num e])) = true := by kernel_rfl
theorem parA_ok (x : Except Int Req) : okRes PP 43 (.ret (parA x)) = true := by cases x <;> exact ok43 _ _
theorem split_piece : ∀ (s : S8) (i : Nat), ((splitAt 32 s).getD i []).length ≤ s.length := by
  intro s
  induction s with
  | nil => intro i; cases i with | zero => exact Nat.le_refl _ | succ i => exact Nat.le_refl _
  | cons x s ih =>
    intro i
    unfold splitAt
    by_cases h : x = 32
    · rw [if_pos h]
      cases i with
      | zero => exact Nat.zero_le _
      | succ i => have := ih i; show ((splitAt 32 s).getD i []).length ≤ _; rw [List.length_cons]; omega
    · rw [if_neg h]
      cases hs : splitAt 32 s with
      | nil => have := split_len 32 s; rw [hs] at this; simp at this
      | cons y r =>
        rw [hs] at ih
        cases i with
        | zero => have := ih 0; show (x :: y).length ≤ _; rw [List.length_cons, List.length_cons]; have : y.length ≤ s.length := this; omega
        | succ i => have := ih (i + 1); show (r.getD i []).length ≤ _; have : (r.getD i []).length ≤ s.length := this; rw [List.length_cons]; omega
theorem split_num (s : S8) : (splitAt 32 s).length ≤ s.length + 1 := by
  rw [split_len]
  have := List.countP_le_length (p := fun b => decide (b = 32)) (l := s)
  omega
theorem parse_len {l : List S8} {r : Req} (h : parseL l = .ok r) : r.bd.mtch.length ≤ l.length ∧ r.msg.props.length ≤ l.length := by
  unfold parseL at h
  split at h
  · cases h
  rename_i hk0
  split at h
  · cases h
  obtain ⟨q, hb, h⟩ := bind_ok h
  split at h
  · injection h with h; subst h
    exact bodyR_len ((kOf_cases (l.getD 0 [])).resolve_left hk0).1 hb
  · cases h
def Good {α : Type} (x : Except Int α) : Prop := ∀ e, x = .error e → e ≠ 0
theorem good_ok {α : Type} (a : α) : Good (.ok a : Except Int α) := fun e h => by cases h
theorem good_bind {α β : Type} {x : Except Int α} {f : α → Except Int β} (hx : Good x) (hf : ∀ a, Good (f a)) : Good (x.bind f) := by
  intro e h
  cases x with
  | error e' =>
    have h : (Except.error e' : Except Int β) = .error e := h
    injection h with h; subst h
    exact hx _ rfl
  | ok a => exact hf a e h
theorem good_cond {α : Type} {b : Bool} {x y : Except Int α} (hx : Good x) (hy : Good y) : Good (bif b then x else y) := by
  cases b
  · exact hy
  · exact hx
theorem numR_good (s : S8) : Good (numR s) := by
  intro e h
  unfold numR at h
  split at h
  · split at h
    · cases h
    · injection h with h; omega
  · injection h with h; omega
theorem truR_good (s : S8) : Good (truR s) := by
  intro e h
  unfold truR at h
  split at h
  · cases h
  split at h
  · cases h
  · injection h with h; omega
theorem txtR_good (s : S8) : Good (txtR s) := by
  intro e h
  unfold txtR at h
  split at h
  · cases h
  · injection h with h; omega
theorem optR_good (s : S8) : Good (optR s) := by
  intro e h
  unfold optR at h
  split at h
  · injection h with h; omega
  split at h <;> cases h
theorem kndR_good (s : S8) : Good (kndR s) := fun e h => by have := kndR_err h; omega
theorem prpR1_good (s : S8) : Good (prpR1 s) := by
  intro e h
  unfold prpR1 at h
  split at h
  · rename_i k v _
    cases ht : txtR v with
    | error e' => rw [ht] at h; injection h with h; subst h; exact txtR_good v _ ht
    | ok a => rw [ht] at h; cases h
  · injection h with h; omega
theorem prpsR_good : ∀ l : List S8, Good (prpsR l) := by
  intro l
  induction l with
  | nil => exact good_ok _
  | cons x l ih => exact good_bind (prpR1_good x) fun _ => good_bind ih fun _ => good_ok _
theorem msgR_good (l : List S8) (i : Nat) : Good (msgR l i) :=
  good_bind (txtR_good _) fun _ => good_bind (txtR_good _) fun _ => good_bind (numR_good _) fun _ => good_bind (truR_good _) fun _ => good_bind (numR_good _) fun _ => good_bind (numR_good _) fun _ =>
    good_bind (optR_good _) fun _ => good_bind (numR_good _) fun _ => good_bind (prpsR_good _) fun _ => good_ok _
theorem bodyR_good (k : Int) (l : List S8) : Good (bodyR k l) :=
  good_bind (numR_good _) fun _ => good_bind (numR_good _) fun _ =>
    good_cond (good_bind (kndR_good _) fun _ => good_bind (optR_good _) fun _ => good_ok _) <|
    good_cond (good_bind (numR_good _) fun _ => good_bind (numR_good _) fun _ => good_bind (numR_good _) fun _ => good_bind (optR_good _) fun _ => good_ok _) <|
    good_cond (good_bind (txtR_good _) fun _ => good_bind (truR_good _) fun _ => good_bind (prpsR_good _) fun _ => good_ok _) <|
    good_cond (good_bind (optR_good _) fun _ => good_bind (txtR_good _) fun _ => good_bind (msgR_good _ _) fun _ => good_ok _) <|
    good_cond (good_bind (numR_good _) fun _ => good_bind (numR_good _) fun _ => good_ok _) <|
    good_cond (good_bind (numR_good _) fun _ => good_ok _) <|
    good_cond (good_bind (numR_good _) fun _ => good_bind (truR_good _) fun _ => good_ok _) <|
    good_cond (good_ok _) (good_ok _)
theorem parse_err {l : List S8} {e : Int} (h : parseL l = .error e) : e ≠ 0 := by
  unfold parseL at h
  split at h
  · injection h with h; omega
  split at h
  · injection h with h; omega
  · refine good_bind (bodyR_good _ _) (fun r => ?_) e h
    intro e' h'
    split at h'
    · cases h'
    · injection h' with h'; subst h'; assumption

theorem LOnly_run (s : S8) : RR none 10 [str s] [] = some (.ret (yes true), []) := by
  refine run_of_body ((eq_LOnly RR LL s).trans ?_)
  by_cases hl : (9000 : Int) < s.length
  · exact cond_run (dec_yes hl) rfl
  have hn := split_num s
  have hp := Parse_run (s := s) (by omega) (fun i => Nat.le_trans (split_piece s i) (by omega)) (by omega)
  refine cond_not (dec_no hl) (bind_run hp (cond_run rfl (cond_run (parA_ok _) ?_)))
  cases hr : parseL (splitAt 32 s) with
  | error e =>
    have he := parse_err hr
    exact cond_run (by show (!(e == 0)) = true; rw [beq_false_of_ne he]; rfl) (cond_run rfl (bind_run (R5Same_run .zero .zero (Nat.zero_le _)) (cond_run rfl (cond_run (okB _) (cond_run (by rw [valB]; decide +kernel) rfl)))))
  | ok r =>
    obtain ⟨h1, h2⟩ := parse_inv hr
    obtain ⟨g1, g2⟩ := parse_len hr
    have b1 : r.bd.mtch.length ≤ maxLen := by rw [maxLen_eq]; omega
    have b2 : r.msg.props.length ≤ maxLen := by rw [maxLen_eq]; omega
    have hq := Request_run r b1 b2
    have hc := Check_run r b1 b2
    unfold reqRes at hq
    rw [h1, h2, show (bif (0 : Int) == 0 then joinS (splitAt 32 s) else []) = s from join_split s] at hq
    rw [h2] at hc
    refine cond_not rfl (bind_run hq (cond_run rfl (cond_run (ok24 _ _) (cond_run ?_ (bind_run hc (cond_run rfl (cond_run (okN _) (cond_run rfl rfl))))))))
    show ((bif true then strEq s s else false) == true) = true
    rw [strEq_self]; rfl
end Go.Proofs.YtmocefjnplmibaaGreatDoor
