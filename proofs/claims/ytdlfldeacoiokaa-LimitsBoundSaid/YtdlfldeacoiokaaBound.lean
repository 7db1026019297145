/- The law LimitsBound, from what its functions come to: the loop and its invariant. -/
import Derived.Test.YtdlfldeacoiokaaBSpec
namespace Go.Proofs.Ytdlfldeacoiokaa
open Go Go.Den
set_option maxRecDepth 100000
set_option linter.unusedSimpArgs false

noncomputable abbrev LL := loop Try.prog HH

/-! ### The arithmetic -/

theorem tk_now {r b l t now : Int} (h : now ≤ t) : tk r b l t now = l := by unfold tk; rw [if_pos (.inl h)]

/-- What is added by a later instant. -/
theorem tk_step {r b l t now th : Int} (h : Good r b l t) (hn : now ≤ th) : tk r b l t th ≤ tk r b l t now + (if t < th then r * (th - max now t) else 0) := by
  have hr := tk_range (now := now) h
  obtain ⟨a1, a2, a3, a4, a5, a6, a7, a8⟩ := h
  by_cases h1 : th ≤ t
  · rw [tk_now h1, tk_now (show now ≤ t by omega), if_neg (by omega)]; omega
  · rw [if_pos (by omega)]
    by_cases h0 : r = 0
    · unfold tk; simp [h0]
    · have hr0 : 0 < r := by omega
      have hup : tk r b l t th ≤ l + r * (th - t) := by
        unfold tk
        rw [if_neg (by omega)]
        split
        · rename_i hd
          rw [div_lt' hr0, Int.mul_comm] at hd
          omega
        · omega
      have hb : tk r b l t th ≤ b := (tk_range (now := th) (r := r) (b := b) (l := l) (t := t) ⟨a1, a2, a3, a4, a5, a6, a7, a8⟩).2
      by_cases h2 : now ≤ t
      · rw [tk_now h2, Int.max_eq_right h2]; exact hup
      · rw [Int.max_eq_left (by omega)]
        have hpos : 0 ≤ r * (th - now) := Int.mul_nonneg a1 (by omega)
        unfold tk at hr ⊢
        rw [if_neg (show ¬ (now ≤ t ∨ r = 0) by omega)] at hr ⊢
        rw [if_neg (show ¬ (th ≤ t ∨ r = 0) by omega)]
        by_cases h3 : (b - l) / r < now - t
        · rw [if_pos h3, if_pos (show (b - l) / r < th - t by omega)]; omega
        · rw [if_neg h3] at hr ⊢
          have e : r * (th - t) = r * (now - t) + r * (th - now) := by rw [← Int.mul_add]; congr 1; omega
          split
          · rename_i h4
            rw [div_lt' hr0, Int.mul_comm] at h4
            omega
          · omega

/-- A greater bucket has no fewer tokens. -/
theorem tk_mono {r b b' l t now : Int} (h : Good r b l t) (hb : b ≤ b') : tk r b l t now ≤ tk r b' l t now := by
  obtain ⟨a1, a2, a3, a4, a5, a6, a7, a8⟩ := h
  unfold tk
  by_cases hc : now ≤ t ∨ r = 0
  · rw [if_pos hc, if_pos hc]; omega
  · rw [if_neg hc, if_neg hc]
    have hr : 0 < r := by omega
    have hm : (b - l) / r ≤ (b' - l) / r := Int.ediv_le_ediv hr (by omega)
    by_cases h1 : (b - l) / r < now - t
    · rw [if_pos h1]
      split
      · exact hb
      · rw [div_lt' hr, Int.mul_comm] at h1; omega
    · rw [if_neg h1]
      split
      · rename_i h2
        have : (now - t) * r ≤ b - l := (le_div hr).1 (by omega)
        rw [Int.mul_comm] at this; omega
      · exact Int.le_refl _

theorem left_nonneg {r b l t now n : Int} (h : Good r b l t) : 0 ≤ left r b l t now n ∧ left r b l t now n ≤ b := by
  have h1 := tk_range (now := now) h
  have h2 := h.l0
  unfold left
  cases hk : took r b l t now n with
  | false => simp; omega
  | true =>
    unfold took at hk
    simp at hk
    simp; omega

/-! ### The loop -/

/-- The operations, as the law takes them. -/
def Ops (ops : List E) : Prop := ∀ i, i < ops.length → 0 ≤ ((ops.getD i E.nili).cell 0).toInt ∧ ((ops.getD i E.nili).cell 0).toInt ≤ 65535

noncomputable def doneO : Out := { ex := .exit 0, fr := [AV.undef] ++ List.replicate 131 AV.undef, hp := [], df := [] }

theorem bound_loop {ops : List E} (ho : Ops ops) : ∀ (k : Nat) (r b l t now ta ad ix : Int), 0 ≤ ix → ix ≤ 60 → k = (60 - ix).toNat → Good r b l t → r ≤ 1000000 → 0 ≤ now → now ≤ 549755813888 + 65535 * ix → 0 ≤ ta →
    tk r b l t now + ta ≤ ad → ad ≤ 1099511627776 + 65535000000 * ix →
    LL 8 0 lc_8_7 (fr8 now ta ad ix ops) [.box [.e (.int .i64 r), .e (.int .i64 b), .e (.int .i64 l), .e (.int .i64 t)]] = some doneO := by
  intro k
  induction k with
  | zero =>
    intro r b l t now ta ad ix i0 i1 hk h hr n0 n1 t0 hinv hub
    refine loop_of_body ((eq_LBoundL RR LL r b l t now ta ad ix ops).trans ?_)
    have hix : decide (ix < 60) = false := by simp; omega
    rw [hix]
    cases decide (ix < (ops.length : Int)) <;> rfl
  | succ k ih =>
    intro r b l t now ta ad ix i0 i1 hk h hr n0 n1 t0 hinv hub
    refine loop_of_body ((eq_LBoundL RR LL r b l t now ta ad ix ops).trans ?_)
    by_cases hl : ix < (ops.length : Int)
    case neg => rw [decide_eq_false hl]; rfl
    have hix : ix < 60 := by omega
    obtain ⟨la0, la1⟩ := ho ix.toNat (by omega)
    generalize ((ops.getD ix.toNat E.nili).cell 0).toInt = la at la0 la1 ⊢
    generalize ((ops.getD ix.toNat E.nili).cell 1).toInt = n
    have e1 : IntKind.i64.wrap la = la := wrap_in (by omega) (by omega)
    have e2 : IntKind.i64.wrap (now + la) = now + la := wrap_in (by omega) (by omega)
    have e3 : IntKind.i64.wrap (ix + 1) = ix + 1 := wrap_in (by omega) (by omega)
    generalize hth : now + la = th at e2 ⊢
    have m0 : 0 ≤ th := by omega
    have m1 : th ≤ 1099511627776 := by omega
    have hg := good_take (n := n) h m0 m1
    have hrun := take_run (n := n) h m0 m1
    have hst := tk_step h (show now ≤ th by omega)
    have hln := left_nonneg (now := th) (n := n) h
    obtain ⟨g1, g2, g3, g4, g5, g6, g7, g8⟩ := id h
    have hmul : ∀ x, 0 ≤ x → x ≤ 65535 → 0 ≤ r * x ∧ r * x ≤ 65535000000 := fun x hx hx' => by
      refine ⟨Int.mul_nonneg g1 hx, ?_⟩
      have h1 : r * x ≤ 1000000 * x := Int.mul_le_mul_of_nonneg_right hr hx
      omega
    have hmx : tk r b (left r b l t th n) (max t th) th = left r b l t th n := tk_now (by omega)
    have htr := tk_range (now := th) h
    have htr' := tk_range (now := now) h
    -- the new sum
    have hnext : ∀ (ad' : Int), tk r b l t th + ta ≤ ad' → ad' ≤ 1099511627776 + 65535000000 * (ix + 1) → took r b l t th n = true → IntKind.i64.wrap (ta + n) = ta + n ∧ decide (n < 0) = false ∧ ta + n ≤ ad' ∧
        LL 8 0 lc_8_7 (fr8 th (ta + n) ad' (ix + 1) ops) [.box [.e (.int .i64 r), .e (.int .i64 b), .e (.int .i64 (left r b l t th n)), .e (.int .i64 (max t th))]] = some doneO := by
      intro ad' q1 q2 hk'
      have hle : left r b l t th n = tk r b l t th - n := by unfold left; rw [hk']; rfl
      have hn0 : ¬ n < 0 := by
        unfold took at hk'
        simp at hk'; omega
      refine ⟨wrap_in (by omega) (by omega), by simpa using hn0, by omega, ?_⟩
      exact ih r b _ _ th _ ad' (ix + 1) (by omega) (by omega) (by omega) hg hr m0 (by omega) (by omega) (by rw [hmx]; omega) q2
    have hnext' : ∀ (ad' : Int), tk r b l t th + ta ≤ ad' → ad' ≤ 1099511627776 + 65535000000 * (ix + 1) → took r b l t th n = false → ta ≤ ad' ∧
        LL 8 0 lc_8_7 (fr8 th ta ad' (ix + 1) ops) [.box [.e (.int .i64 r), .e (.int .i64 b), .e (.int .i64 (left r b l t th n)), .e (.int .i64 (max t th))]] = some doneO := by
      intro ad' q1 q2 hk'
      have hle : left r b l t th n = tk r b l t th := by unfold left; rw [hk']; rfl
      refine ⟨by omega, ?_⟩
      exact ih r b _ _ th _ ad' (ix + 1) (by omega) (by omega) (by omega) hg hr m0 (by omega) (by omega) (by rw [hmx]; omega) q2
    have f1 : ¬ left r b l t th n < 0 := by omega
    have f2 : ¬ b < left r b l t th n := by omega
    have f3 : ¬ max t th < th := by omega
    simp only [decide_eq_true hl, decide_eq_true hix, decide_eq_true i0, cond_true, Bool.and_self, e1, hth, e2, e3, hrun, Option.bind_some, okH, ok29, tup0, tup1, tup2, tup3, tupk, f1, f2, f3, decide_false, Bool.cond_false_right, Bool.cond_true_right, Bool.or_false]
    by_cases c1 : t < th
    · simp only [decide_eq_true c1, cond_true]
      rw [if_pos c1] at hst
      by_cases c2 : now < t
      · have e4 : IntKind.i64.wrap (th - t) = th - t := wrap_in (by omega) (by omega)
        obtain ⟨p0, p1⟩ := hmul (th - t) (by omega) (by omega)
        have e5 : IntKind.i64.wrap (r * (th - t)) = r * (th - t) := wrap_in (by omega) (by omega)
        have e6 : IntKind.i64.wrap (ad + r * (th - t)) = ad + r * (th - t) := wrap_in (by omega) (by omega)
        rw [Int.max_eq_right (by omega)] at hst
        simp only [decide_eq_true c2, cond_true, e4, e5, e6]
        cases hk' : took r b l t th n with
        | true =>
          obtain ⟨q1, q2, q3, q4⟩ := hnext (ad + r * (th - t)) (by omega) (by omega) hk'
          have q5 : decide (ad + r * (th - t) < ta + n) = false := by simp; omega
          simp only [q1, q2, q5, f1, f2, f3, beq_self_eq_true, cond_true, cond_false, Bool.or_false, Bool.cond_false_right]
          exact (congrArg (fun x => Option.bind x fun o => some o) q4).trans rfl
        | false =>
          obtain ⟨q3, q4⟩ := hnext' (ad + r * (th - t)) (by omega) (by omega) hk'
          have q5 : decide (ad + r * (th - t) < ta) = false := by simp; omega
          simp only [q5, f1, f2, f3, show (false == true) = false from rfl, cond_true, cond_false, Bool.or_false, Bool.cond_false_right]
          exact (congrArg (fun x => Option.bind x fun o => some o) q4).trans rfl
      · have e4 : IntKind.i64.wrap (th - now) = th - now := wrap_in (by omega) (by omega)
        obtain ⟨p0, p1⟩ := hmul (th - now) (by omega) (by omega)
        have e5 : IntKind.i64.wrap (r * (th - now)) = r * (th - now) := wrap_in (by omega) (by omega)
        have e6 : IntKind.i64.wrap (ad + r * (th - now)) = ad + r * (th - now) := wrap_in (by omega) (by omega)
        rw [Int.max_eq_left (by omega)] at hst
        simp only [decide_eq_false c2, cond_false, e4, e5, e6]
        cases hk' : took r b l t th n with
        | true =>
          obtain ⟨q1, q2, q3, q4⟩ := hnext (ad + r * (th - now)) (by omega) (by omega) hk'
          have q5 : decide (ad + r * (th - now) < ta + n) = false := by simp; omega
          simp only [q1, q2, q5, f1, f2, f3, beq_self_eq_true, cond_true, cond_false, Bool.or_false, Bool.cond_false_right]
          exact (congrArg (fun x => Option.bind x fun o => some o) q4).trans rfl
        | false =>
          obtain ⟨q3, q4⟩ := hnext' (ad + r * (th - now)) (by omega) (by omega) hk'
          have q5 : decide (ad + r * (th - now) < ta) = false := by simp; omega
          simp only [q5, f1, f2, f3, show (false == true) = false from rfl, cond_true, cond_false, Bool.or_false, Bool.cond_false_right]
          exact (congrArg (fun x => Option.bind x fun o => some o) q4).trans rfl
    · simp only [decide_eq_false c1, cond_false]
      rw [if_neg c1] at hst
      cases hk' : took r b l t th n with
      | true =>
        obtain ⟨q1, q2, q3, q4⟩ := hnext ad (by omega) (by omega) hk'
        have q5 : decide (ad < ta + n) = false := by simp; omega
        simp only [q1, q2, q5, f1, f2, f3, beq_self_eq_true, cond_true, cond_false, Bool.or_false, Bool.cond_false_right]
        exact (congrArg (fun x => Option.bind x fun o => some o) q4).trans rfl
      | false =>
        obtain ⟨q3, q4⟩ := hnext' ad (by omega) (by omega) hk'
        have q5 : decide (ad < ta) = false := by simp; omega
        simp only [q5, f1, f2, f3, show (false == true) = false from rfl, cond_true, cond_false, Bool.or_false, Bool.cond_false_right]
        exact (congrArg (fun x => Option.bind x fun o => some o) q4).trans rfl

/-! ### The law -/

theorem rtokens26 (r b l t now : Int) (h : Good r b l t) (h0 : 0 ≤ now) (h1 : now ≤ 1099511627776) (hb : b ≤ 1099511627776) : RR none 21 [bk r 1099511627776 l t, num now] [] = some (.ret (num (tk r 1099511627776 l t now)), []) :=
  rtokens_run (b := 1099511627776) ⟨h.r0, h.r1, by omega, by omega, h.l0, by have := h.l1; omega, h.t0, h.t1⟩ h0 h1

theorem doneK {X Y : Option (Res × Heap)} : (bif doneO.ex.isWay (Way.exit 0) then bif okFr ([AV.undef] ++ List.replicate 131 AV.undef) doneO.fr && okHeap [] doneO.hp then X else none else Y) = X := by
  have h : okFr ([AV.undef] ++ List.replicate 131 AV.undef) doneO.fr = true := by kernel_rfl
  rw [h]; rfl

theorem bound_run {ops : List E} (ho : Ops ops) (r b l t now : Int) : RR none 8 [bk r b l t, num now, .e (.sl 42 ops)] [] = some (.ret (yes true), []) := by
  refine run_of_body ((eq_LBound RR LL r b l t now ops).trans ?_)
  rw [valid_run]
  cases hv : vld r b l t now with
  | false => simp only [Option.bind_some, ok4, okH, cond_true, val_bool, Bool.not_false, awake_run]
  | true =>
    obtain ⟨h, h0, h1⟩ := vld_good hv
    simp only [Option.bind_some, ok4, okH, cond_true, val_bool, Bool.not_true, cond_false]
    by_cases c1 : 1000000 < r
    · simp only [decide_eq_true c1, cond_true, awake_run, Option.bind_some, ok4, okH, val_bool]
    · by_cases c2 : 549755813888 < now
      · simp only [decide_eq_true c2, Bool.cond_true_right, Bool.or_true, cond_true, awake_run, Option.bind_some, ok4, okH, val_bool]
      · simp only [decide_eq_false c1, decide_eq_false c2, cond_false]
        have hk := tk_range (now := now) h
        obtain ⟨g1, g2, g3, g4, g5, g6, g7, g8⟩ := id h
        by_cases c3 : t < now
        · have hr := rtokens26 r b l t now h h0 h1 g4
          have hmono := tk_mono (now := now) h g4
          have hmax : tk r 1099511627776 l t now ≤ 1099511627776 := (tk_range (now := now) (r := r) (b := 1099511627776) (l := l) (t := t) ⟨g1, g2, by omega, by omega, g5, by omega, g7, g8⟩).2
          have hloop := bound_loop ho 60 r b l t now 0 (tk r 1099511627776 l t now) 0 (by omega) (by omega) (by omega) h (by omega) h0 (by omega) (by omega) (by omega) (by omega)
          unfold fr8 at hloop
          simp only [decide_eq_true c3, cond_true, hr, Option.bind_some, okH, ok3, val_int]
          rw [hloop]
          simp only [Option.bind_some, doneK, awake_run, okH, ok4, cond_true, val_bool]
        · have hloop := bound_loop ho 60 r b l t now 0 l 0 (by omega) (by omega) (by omega) h (by omega) h0 (by omega) (by omega) (by rw [tk_now (by omega)]; omega) (by omega)
          unfold fr8 at hloop
          simp only [decide_eq_false c3, cond_false]
          rw [hloop]
          simp only [Option.bind_some, doneK, awake_run, okH, ok4, cond_true, val_bool]

end Go.Proofs.Ytdlfldeacoiokaa
