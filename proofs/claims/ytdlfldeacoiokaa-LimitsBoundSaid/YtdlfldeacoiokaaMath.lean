/- The arithmetic of buckets, without a program. -/
import Derived.Laws.BitsLemmas
namespace Go.Proofs.Ytdlfldeacoiokaa
open Go

structure Good (r b l t : Int) : Prop where
  r0 : 0 ≤ r
  r1 : r ≤ 1099511627776
  b0 : 0 ≤ b
  b1 : b ≤ 1099511627776
  l0 : 0 ≤ l
  l1 : l ≤ b
  t0 : 0 ≤ t
  t1 : t ≤ 1099511627776

/-- The tokens at an instant. -/
def tk (r b l t now : Int) : Int := if now ≤ t ∨ r = 0 then l else if (b - l) / r < now - t then b else l + r * (now - t)

theorem wrap_in {n : Int} (h0 : -9223372036854775808 ≤ n) (h1 : n ≤ 9223372036854775807) : IntKind.i64.wrap n = n := by rw [IntKind.wrap_i64]; omega

/-- As the program reckons it. -/
def tkW (r b l t now : Int) : Int :=
  if now ≤ t ∨ r = 0 then l else if IntKind.i64.wrap ((IntKind.i64.wrap (b - l)).tdiv r) < IntKind.i64.wrap (now - t) then b
  else IntKind.i64.wrap (l + IntKind.i64.wrap (r * IntKind.i64.wrap (now - t)))

theorem le_div {a x r : Int} (hr : 0 < r) : a ≤ x / r ↔ a * r ≤ x := Int.le_ediv_iff_mul_le hr
theorem div_lt' {a x r : Int} (hr : 0 < r) : x / r < a ↔ x < a * r := Int.ediv_lt_iff_lt_mul hr
theorem div_nonneg {x r : Int} (hr : 0 < r) (hx : 0 ≤ x) : 0 ≤ x / r := Int.ediv_nonneg hx (Int.le_of_lt hr)
theorem div_le {x r : Int} (hx : 0 ≤ x) : x / r ≤ x := Int.ediv_le_self r hx

theorem tdiv_in {x r : Int} (hr : 0 < r) (hx : 0 ≤ x) (hx1 : x ≤ 9223372036854775807) : IntKind.i64.wrap (x.tdiv r) = x / r := by
  rw [Int.tdiv_eq_ediv_of_nonneg hx]
  have := div_nonneg hr hx
  have := div_le (r := r) hx
  exact wrap_in (by omega) (by omega)

theorem tkW_eq {r b l t now : Int} (h : Good r b l t) (h0 : 0 ≤ now) (h1 : now ≤ 1099511627776) : tkW r b l t now = tk r b l t now := by
  obtain ⟨a1, a2, a3, a4, a5, a6, a7, a8⟩ := h
  unfold tkW tk
  by_cases hc : now ≤ t ∨ r = 0
  · rw [if_pos hc, if_pos hc]
  · rw [if_neg hc, if_neg hc]
    have hr : 0 < r := by omega
    rw [wrap_in (n := b - l) (by omega) (by omega), wrap_in (n := now - t) (by omega) (by omega), tdiv_in hr (by omega) (by omega)]
    by_cases hd : (b - l) / r < now - t
    · rw [if_pos hd, if_pos hd]
    · rw [if_neg hd, if_neg hd]
      have hm : (now - t) * r ≤ b - l := (le_div hr).1 (by omega)
      have hm0 : 0 ≤ (now - t) * r := Int.mul_nonneg (by omega) (by omega)
      rw [Int.mul_comm] at hm hm0
      rw [wrap_in (n := r * (now - t)) (by omega) (by omega), wrap_in (by omega) (by omega)]

theorem tk_range {r b l t now : Int} (h : Good r b l t) : l ≤ tk r b l t now ∧ tk r b l t now ≤ b := by
  obtain ⟨a1, a2, a3, a4, a5, a6, a7, a8⟩ := h
  unfold tk
  split
  · omega
  · rename_i hc
    have hr : 0 < r := by omega
    split
    · omega
    · rename_i hd
      have hm : (now - t) * r ≤ b - l := (le_div hr).1 (by omega)
      have hm0 : 0 ≤ (now - t) * r := Int.mul_nonneg (by omega) (by omega)
      rw [Int.mul_comm] at hm hm0
      omega

theorem good_refill {r b l t now : Int} (h : Good r b l t) (h0 : 0 ≤ now) (h1 : now ≤ 1099511627776) : Good r b (tk r b l t now) (max t now) := by
  have := tk_range (now := now) h
  obtain ⟨a1, a2, a3, a4, a5, a6, a7, a8⟩ := h
  exact ⟨a1, a2, a3, a4, by omega, by omega, by omega, by omega⟩

/-- Refilling twice is refilling once. -/
theorem tk_tk {r b l t now th : Int} (h : Good r b l t) (hn : now ≤ th) : tk r b (tk r b l t now) (max t now) th = tk r b l t th := by
  obtain ⟨a1, a2, a3, a4, a5, a6, a7, a8⟩ := h
  by_cases hr0 : r = 0
  · unfold tk; simp [hr0]
  · have hr : 0 < r := by omega
    by_cases h1 : now ≤ t
    · have e1 : tk r b l t now = l := by unfold tk; rw [if_pos (.inl h1)]
      rw [e1, Int.max_eq_left h1]
    · have e2 : max t now = now := Int.max_eq_right (by omega)
      rw [e2]
      by_cases h2 : th ≤ now
      · have : th = now := by omega
        subst this
        have hself : ∀ x, tk r b x th th = x := fun x => by unfold tk; rw [if_pos (.inl (Int.le_refl _))]
        exact hself _
      · have h3 : ¬ (th ≤ now ∨ r = 0) := by omega
        have h4 : ¬ (th ≤ t ∨ r = 0) := by omega
        have h5 : ¬ (now ≤ t ∨ r = 0) := by omega
        by_cases h6 : (b - l) / r < now - t
        · have e1 : tk r b l t now = b := by unfold tk; rw [if_neg h5, if_pos h6]
          rw [e1]
          unfold tk
          rw [if_neg h3, if_neg h4, if_pos (by simp; omega), if_pos (by omega)]
        · have e1 : tk r b l t now = l + r * (now - t) := by unfold tk; rw [if_neg h5, if_neg h6]
          rw [e1]
          unfold tk
          rw [if_neg h3, if_neg h4]
          have e3 : (b - (l + r * (now - t))) / r = (b - l) / r - (now - t) := by
            rw [show b - (l + r * (now - t)) = (b - l) + r * (-(now - t)) by rw [Int.mul_neg]; omega, Int.add_mul_ediv_left _ _ (by omega)]; omega
          rw [e3]
          by_cases h7 : (b - l) / r < th - t
          · rw [if_pos (by omega), if_pos h7]
          · rw [if_neg (by omega), if_neg h7]
            have : r * (th - t) = r * (now - t) + r * (th - now) := by rw [← Int.mul_add]; congr 1; omega
            omega

/-- The first instant at which n tokens are there, if they are not there yet. -/
theorem first_le {r b l t n th : Int} (h : Good r b l t) (hr : 0 < r) (hn : l < n) (hb : n ≤ b) (hth : t + ((n - l - 1) / r + 1) ≤ th) : n ≤ tk r b l t th := by
  obtain ⟨a1, a2, a3, a4, a5, a6, a7, a8⟩ := h
  have h0 := div_nonneg (x := n - l - 1) hr (by omega)
  unfold tk
  rw [if_neg (by omega)]
  split
  · exact hb
  · have : (n - l - 1) / r < th - t := by omega
    rw [div_lt' hr, Int.mul_comm] at this
    omega
theorem first_gt {r b l t n th : Int} (h : Good r b l t) (hr : 0 < r) (hn : l < n) (hb : n ≤ b) (hth : th < t + ((n - l - 1) / r + 1)) : tk r b l t th < n := by
  obtain ⟨a1, a2, a3, a4, a5, a6, a7, a8⟩ := h
  unfold tk
  split
  · exact hn
  · rename_i hc
    have hle : th - t ≤ (n - l - 1) / r := by omega
    have hmono : (n - l - 1) / r ≤ (b - l) / r := Int.ediv_le_ediv hr (by omega)
    rw [if_neg (by omega)]
    rw [le_div hr, Int.mul_comm] at hle
    omega

theorem ceil_eq {x r : Int} (hr : 0 < r) : (x - 1) / r + 1 = if 0 < x % r then x / r + 1 else x / r := by
  have h1 := Int.mul_ediv_add_emod x r
  have h2 := Int.emod_nonneg x (show r ≠ 0 by omega)
  have h3 := Int.emod_lt_of_pos x hr
  split
  · rename_i hp
    have : (x - 1) / r = x / r := by
      rw [show x - 1 = (x % r - 1) + r * (x / r) by omega, Int.add_mul_ediv_left _ _ (by omega), Int.ediv_eq_zero_of_lt (by omega) (by omega)]
      omega
    omega
  · rename_i hp
    have hz : x % r = 0 := by omega
    have : (x - 1) / r = x / r - 1 := by
      rw [show x - 1 = (r - 1) + r * (x / r - 1) by rw [Int.mul_sub]; omega, Int.add_mul_ediv_left _ _ (by omega), Int.ediv_eq_zero_of_lt (by omega) (by omega)]
      omega
    omega

end Go.Proofs.Ytdlfldeacoiokaa
