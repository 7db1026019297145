/- The reference's reader: numbers, texts in quotes. -/
import Derived.Test.YtghdhhmlmdohkaaGreatDoorRa
namespace Go.Proofs.YtghdhhmlmdohkaaGreatDoor
open Go Go.Den
set_option maxRecDepth 100000

theorem bindF {α : Type} {x : Option Out} {o : Out} {s : List UInt8} {val : α → AV} {pr : PR α} {K : Out → Option (Res × Heap)} (h : x = some o) (hK : ReadsF (K o) s val pr) : ReadsF (x.bind K) s val pr := by rw [h]; exact hK

/-! ### number -/

def finR (s : List UInt8) (p : Int) (g : Bool) (n : Int) (q : Int) : Option (Res × Heap) :=
  bif decide (4611686018427387904 < n) then some (.ret (num 0), rdr s q 1 p) else bif g then some (.ret (num (IntKind.i64.wrap (0 - n))), rdr s q 0 0) else some (.ret (num n), rdr s q 0 0)

theorem num_fin {s l l1 : List UInt8} (hl : l <:+ s) (h1 : l1 <:+ s) (g : Bool) :
    ReadsF (finR s (pos s l) g ((satV topN 0 (l1.takeWhile digC) : Nat) : Int) (pos s (l1.dropWhile digC))) s num
      (if 4611686018427387904 < decV 0 (l1.takeWhile digC) then .err 1 l else .ok (if g = true then -(decV 0 (l1.takeWhile digC) : Int) else decV 0 (l1.takeWhile digC)) (l1.dropWhile digC)) := by
  have hsuf : l1.dropWhile digC <:+ s := (List.dropWhile_suffix digC).trans h1
  rw [satV_min _ _ (Nat.zero_le _)]
  generalize decV 0 (l1.takeWhile digC) = v
  unfold finR
  by_cases hb : 4611686018427387904 < v
  · rw [if_pos hb]
    exact condF (dec_yes (by show (4611686018427387904 : Int) < ((min v 4611686018427387905 : Nat) : Int); omega)) ⟨hl, by decide, 0, _, rfl⟩
  · rw [if_neg hb, Nat.min_eq_left (by show v ≤ 4611686018427387905; omega)]
    refine condF' (dec_no (by omega)) ?_
    cases g with
    | true =>
      refine ⟨hsuf, ?_⟩
      show some (Res.ret (num (IntKind.i64.wrap (0 - (v : Int)))), _) = _
      rw [wrap_in (by omega) (by omega), show (0 : Int) - (v : Int) = -(v : Int) by omega]
      rfl
    | false => exact ⟨hsuf, rfl⟩

theorem rnumber_run {s l : List UInt8} (hs : s.length ≤ 100000) (hl : l <:+ s) : ReadsF (RR none 153 [.ptr 0 0] (rdr s (pos s l) 0 0)) s num (numL l) := by
  refine readsF_of (eq_rnumber RR LL s (pos s l) 0 0) (condF (pos_ge hl) ?_)
  rw [is_at hl 45 45 rfl (by decide)]
  unfold numL
  dsimp only
  cases hg : (hd l == 45) with
  | true =>
    have h45 : hd l = 45 := by simpa using hg
    obtain ⟨st1, st2⟩ := pos_step hl hs (by rw [h45]; decide)
    rw [st1]
    refine condF rfl (condF (pos_ge st2) ?_)
    rw [dig_at st2, is_at st2 48 48 rfl (by decide)]
    simp only [if_true]
    cases hdg : digC (hd (l.drop 1)) with
    | false =>
      have n48 : hd (l.drop 1) ≠ 48 := by intro e; rw [e] at hdg; revert hdg; decide
      rw [if_neg n48, if_pos (takeWhile_no hdg).1]
      exact condF' rfl ⟨st2, by decide, 0, _, rfl⟩
    | true =>
      refine condF rfl (condF rfl (condF (pos_ge st2) ?_))
      by_cases h48 : hd (l.drop 1) = 48
      · rw [if_pos h48, h48]
        exact condF rfl ⟨st2, by decide, 0, _, rfl⟩
      · have tw := (takeWhile_hd (p := digC) (by decide) hdg).1
        rw [if_neg h48, beq_false_of_ne h48, if_neg (by rw [tw]; simp)]
        refine condF' rfl (condF (pos_ge st2) (bindF (rnumber_loop hs _ (l.drop 1) 0 rfl st2 (by omega)) (condF rfl (condF rfl ?_))))
        exact num_fin hl st2 true
  | false =>
    refine condF' rfl (condF (pos_ge hl) ?_)
    rw [dig_at hl, is_at hl 48 48 rfl (by decide)]
    simp only [Bool.false_eq_true, if_false]
    cases hdg : digC (hd l) with
    | false =>
      have n48 : hd l ≠ 48 := by intro e; rw [e] at hdg; revert hdg; decide
      rw [if_neg n48, if_pos (takeWhile_no hdg).1]
      exact condF' rfl ⟨hl, by decide, 0, _, rfl⟩
    | true =>
      refine condF rfl (condF' rfl (condF (pos_ge hl) ?_))
      by_cases h48 : hd l = 48
      · rw [if_pos h48, h48]
        obtain ⟨_, st2⟩ := pos_step hl hs (by rw [h48]; decide)
        exact bindF (rnumber_zero hs hl h48) (condF rfl (condF rfl ⟨st2, rfl⟩))
      · have tw := (takeWhile_hd (p := digC) (by decide) hdg).1
        rw [if_neg h48, beq_false_of_ne h48, if_neg (by rw [tw]; simp)]
        refine bindF (rnumber_loop hs _ l 0 rfl hl (by omega)) (condF rfl (condF rfl ?_))
        have := num_fin hl hl false
        simp only [Bool.false_eq_true, if_false] at this
        exact this

/-! ### escape -/

/-- An escaped byte, at its backslash. -/
def escL (l : List UInt8) : PR UInt8 :=
  if hd (l.drop 1) = 34 ∨ hd (l.drop 1) = 92 then .ok (hd (l.drop 1)) ((l.drop 1).drop 1)
  else (needL [120] (l.drop 1)).andThen fun _ l1 => (hexL l1).andThen fun a l2 => (hexL l2).andThen fun b l3 =>
    if 32 ≤ 16 * a + b ∧ 16 * a + b ≤ 126 then .err 2 l else .ok (UInt8.ofNat (16 * a + b)) l3
def escOut (s : List UInt8) (p : Int) (x : Option Out) : PR Nat → Prop
  | .ok v l => l <:+ s ∧ x = some { ex := .exit 0, fr := [.ptr 0 0, AV.undef, AV.undef, num p, num v] ++ List.replicate 109 AV.undef, hp := rdr s (pos s l) 0 0, df := [] }
  | .err e l => l <:+ s ∧ e ≠ 0 ∧ x = some { ex := .ret, fr := [AV.undef, AV.undef, .e (.int .u8 0)] ++ List.replicate 111 AV.undef, hp := rdr s (pos s l) e (pos s l), df := [] }
abbrev escF (p v k : Int) : Fr := ((((List.replicate 114 AV.undef).set 0 (.ptr 0 0)).set 3 (.e (.int .i64 p))).set 4 (.e (.int .i64 v))).set 5 (.e (.int .i64 k))

abbrev byA (c : UInt8) : AV := .e (.int .u8 (c.toNat : Int))
end Go.Proofs.YtghdhhmlmdohkaaGreatDoor
