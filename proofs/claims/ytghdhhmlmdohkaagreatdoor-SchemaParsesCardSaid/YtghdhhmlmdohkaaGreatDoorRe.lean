/- The reference's reader: bounds, enums, lists. -/
import Derived.Test.YtghdhhmlmdohkaaGreatDoorRd
import Derived.Test.YtghdhhmlmdohkaaGreatDoorRs
import Derived.Test.YtghdhhmlmdohkaaGreatDoorKh
namespace Go.Proofs.YtghdhhmlmdohkaaGreatDoor
open Go Go.Den
set_option maxRecDepth 100000

/-! ### loops that gather -/

def gOut (X R : Int → Int → Int → List E → Out) (s : List UInt8) (x : Option Out) : PR (List E) → Prop
  | .ok q l => l <:+ s ∧ x = some (X (pos s l) 0 0 q)
  | .err e l => l <:+ s ∧ e ≠ 0 ∧ ∃ p a, x = some (X p e (pos s l) a) ∨ x = some (R p e (pos s l) a)
section
variable {X R : Int → Int → Int → List E → Out} {s : List UInt8} {pr : PR (List E)}
theorem gOut_of {f : FuncId} {i : Nat} {b : Code} {fr : Fr} {σ : Heap} {x : Option Out} (hb : bodyLoop PP HH RR LL f i b fr σ = x) (h : gOut X R s x pr) : gOut X R s (LL f i b fr σ) pr := by
  cases pr with
  | ok q l => exact ⟨h.1, loop_of_body (hb.trans h.2)⟩
  | err e l =>
    obtain ⟨h1, h2, p, a, h3⟩ := h
    exact ⟨h1, h2, p, a, h3.imp (fun h => loop_of_body (hb.trans h)) (fun h => loop_of_body (hb.trans h))⟩
theorem condG {b : Bool} {x y : Option Out} (hb : b = true) (h : gOut X R s x pr) : gOut X R s (bif b then x else y) pr := by rw [hb]; exact h
theorem condG' {b : Bool} {x y : Option Out} (hb : b = false) (h : gOut X R s y pr) : gOut X R s (bif b then x else y) pr := by rw [hb]; exact h
theorem gOut_bind {x : Option Out} (h : gOut X R s x pr) : gOut X R s (x.bind fun o => some o) pr := by
  have : (x.bind fun o => some o) = x := by cases x <;> rfl
  rw [this]; exact h
theorem gOut_run {x : Option (Res × Heap)} {r : Res × Heap} {K : Res × Heap → Option Out} (h : x = some r) (hK : gOut X R s (K r) pr) : gOut X R s (x.bind K) pr := by rw [h]; exact hK
end
theorem thenG {α : Type} {X R : Int → Int → Int → List E → Out} {s s0 : List UInt8} {p0 x0 a0 : Int} {x : Option (Res × Heap)} {val : α → AV} {pr : PR α} {f : α → List UInt8 → PR (List E)} {t : TypeId} {K : Res × Heap → Option Out}
    (h : ReadsF x s val pr) (hok : ∀ a, okRes PP t (.ret (val a)) = true)
    (hbad : ∀ e l a q, e ≠ 0 → l <:+ s → gOut X R s (K (.ret (val a), rdr s q e (pos s l))) (.err e l))
    (hr : ∀ a l, pr = .ok a l → l <:+ s → gOut X R s (K (.ret (val a), rdr s (pos s l) 0 0)) (f a l)) :
    gOut X R s (x.bind fun rh => bif okHeap (rdr s0 p0 x0 a0) rh.2 then bif okRes PP t rh.1 then K rh else none else none) (pr.andThen f) := by
  cases pr with
  | ok a l =>
    obtain ⟨h1, h2⟩ := h
    rw [h2]
    show gOut X R s (bif okHeap (rdr s0 p0 x0 a0) (rdr s (pos s l) 0 0) then bif okRes PP t (.ret (val a)) then K (.ret (val a), rdr s (pos s l) 0 0) else none else none) (f a l)
    rw [okRdr, hok a]
    exact hr a l rfl h1
  | err e l =>
    obtain ⟨h1, h2, a, q, h3⟩ := h
    rw [h3]
    show gOut X R s (bif okHeap (rdr s0 p0 x0 a0) (rdr s q e (pos s l)) then bif okRes PP t (.ret (val a)) then K (.ret (val a), rdr s q e (pos s l)) else none else none) (.err e l)
    rw [okRdr, hok a]
    exact hbad e l a q h2 h1

theorem no_yes {e : Int} (h : e ≠ 0) : ((!(e == 0)) == false) = false := by rw [beq_false_of_ne h]; rfl
theorem eq_yes {e : Int} (h : e ≠ 0) : ((e == 0) == true) = false := by rw [beq_false_of_ne h]; rfl

/-! ### bounds -/

theorem rpair_run {s l : List UInt8} (hs : s.length ≤ 100000) (hl : l <:+ s) : ReadsF (RR none 139 [.ptr 0 0] (rdr s (pos s l) 0 0)) s (fun q : Int × Int => .tup [num q.1, num q.2]) (pairL l) := by
  unfold pairL
  refine readsF_of (eq_rpair RR LL s (pos s l) 0 0) (thenF (rnumber_run hs hl) (fun a => rfl) ?_ ?_)
  · intro e l1 a q he hl1
    exact condF' (beq_false_of_ne he) (condF (nz_yes he) ⟨hl1, he, (0, 0), _, rfl⟩)
  intro a l1 _ hl1
  refine condF rfl (thenF (word_run hs hl1) (fun a => rfl) ?_ ?_)
  · intro e l2 _ q he hl2
    exact condF (nz_yes he) ⟨hl2, he, (0, 0), _, rfl⟩
  intro _ l2 _ hl2
  refine condF' rfl (thenF (rnumber_run hs hl2) (fun a => rfl) ?_ ?_)
  · intro e l3 b q he hl3
    exact ⟨hl3, he, (a, b), _, rfl⟩
  intro b l3 _ hl3
  exact ⟨hl3, rfl⟩

abbrev bareT (k : Int) : AV := .agg [num k, num 0, num 0, .e (.sl 9 []), .e (.sl 27 []), .e (.sl 81 [])]
theorem rbounded_run {s l : List UInt8} (hs : s.length ≤ 100000) (hl : l <:+ s) (k lo hi : Int) : ReadsF (RR none 92 [.ptr 0 0, bareT k, num lo, num hi] (rdr s (pos s l) 0 0)) s slotsT (openL 9 27 81 k lo hi l) := by
  unfold openL
  refine readsF_of (eq_rbounded RR LL s (pos s l) 0 0 k 0 0 [] [] [] lo hi) (condF rfl (condF (pos_ge hl) ?_))
  rw [is_at hl 32 32 rfl (by decide)]
  by_cases h : hd l = 32
  · rw [if_pos h, h]
    obtain ⟨st1, st2⟩ := pos_step hl hs (by rw [h]; decide)
    rw [st1]
    refine condF rfl (thenF (rpair_run hs st2) (fun q => okPair ..) ?_ ?_)
    · intro e l1 q p he hl1
      exact ⟨hl1, he, mkT 9 27 81 k q.1 q.2 [] [] [], _, rfl⟩
    intro q l1 _ hl1
    exact ⟨hl1, rfl⟩
  · rw [if_neg h, beq_false_of_ne h]
    exact condF' rfl ⟨hl, rfl⟩
theorem rbounded_bad {s : List UInt8} {q e a : Int} (he : e ≠ 0) (k lo hi : Int) : RR none 92 [.ptr 0 0, bareT k, num lo, num hi] (rdr s q e a) = some (.ret (slotsT (mkT 9 27 81 k lo hi [] [] [])), rdr s q e a) :=
  run_of_body ((eq_rbounded RR LL s q e a k 0 0 [] [] [] lo hi).trans (cond_not (eq_yes he) rfl))

/-! ### enums -/

abbrev rtyH (s : List UInt8) (q x a : Int) (k : Int) (os gs : List E) : Heap := [rdrO s q x a, boxT 3 4 5 k 0 0 os [] gs, boxT 6 7 8 0 0 0 [] [] [], .vec 9 os.length, .vec 27 0, .vec 81 gs.length, .vec 9 0, .vec 27 0, .vec 81 0]
abbrev renF : Fr := (((List.replicate 34 AV.undef).set 0 (.ptr 0 0)).set 3 (.ptr 1 0)).set 4 (.ptr 2 0)
def renX (s : List UInt8) (q x a : Int) (os : List E) : Out := { ex := .exit 0, fr := [.ptr 0 0, AV.undef, AV.undef, .ptr 1 0, .ptr 2 0] ++ List.replicate 29 AV.undef, hp := rtyH s q x a 4 os [], df := [] }

theorem renum_loop {s : List UInt8} (hs : s.length ≤ 100000) : ∀ (n : Nat) (l : List UInt8) (acc : List E), l.length < n → l <:+ s → acc.length + n ≤ 200000 →
    gOut (renX s) (renX s) s (LL 93 1 lc_93_2 renF (rtyH s (pos s l) 0 0 4 acc [])) (optsL n acc l) := by
  intro n
  induction n with
  | zero => intro l acc h; exact absurd h (by omega)
  | succ n ih =>
    intro l acc hn hl hacc
    refine gOut_of (eq_renumL2 RR LL s (pos s l) 0 0 4 0 0 acc [] [] 0 0 0 [] [] []) (condG rfl ?_)
    unfold optsL
    have size : (decide (acc.length = acc.length) && decide ((acc.length + 1) * 16 ≤ 140737488355328)) = true := by simp; omega
    refine thenG (nm_run hs hl) (fun a => okSt a) ?_ ?_
    · intro e l1 x q he hl1
      exact condG size (condG' (no_yes he) ⟨hl1, he, q, acc ++ [.str x], .inl rfl⟩)
    intro x l1 hx hl1
    have := (wordL_less hx).1
    refine condG size (condG rfl (condG (pos_ge hl1) ?_))
    show gOut (renX s) (renX s) s (bif !(decide (pos s l1 < (s.length : Int)) && pk s (pos s l1) == 124) then _ else _) _
    rw [is_at hl1 124 124 rfl (by decide)]
    unfold optsM
    by_cases h : hd l1 = 124
    · rw [if_pos h, h]
      obtain ⟨st1, st2⟩ := pos_step hl1 hs (by rw [h]; decide)
      have := drop_less (l := l1) (by rw [h]; decide)
      refine condG' rfl ?_
      show gOut (renX s) (renX s) s ((LL 93 1 lc_93_2 renF (rtyH s (IntKind.i64.wrap (pos s l1 + 1)) 0 0 4 (acc ++ [E.str x]) [])).bind fun o => some o) _
      rw [st1]
      exact gOut_bind (ih (l1.drop 1) (acc ++ [.str x]) (by omega) st2 (by simp; omega))
    · rw [if_neg h, beq_false_of_ne h]
      exact condG rfl ⟨hl1, rfl⟩

theorem renum_run {s l : List UInt8} (hs : s.length ≤ 100000) (hl : l <:+ s) :
    ReadsF (RR none 93 [.ptr 0 0, .agg [num 4, num 0, num 0, .nils 9, .nils 27, .nils 81]] (rdr s (pos s l) 0 0)) s slotsT
      ((needL [101, 110, 117, 109, 40] l).andThen fun _ l => (optsL l.length.succ [] l).andThen fun os l => (needL [41] l).andThen fun _ l => .ok (mkT 9 27 81 4 0 0 os [] []) l) := by
  refine readsF_of (eq_renum RR LL s (pos s l) 0 0 4 0 0) (thenF (word_run hs hl) (fun a => rfl) ?_ ?_)
  · intro e l1 _ q he hl1
    have hloop : LL 93 1 lc_93_2 renF (rtyH s q e (pos s l1) 4 [] []) = some (renX s q e (pos s l1) []) :=
      loop_of_body ((eq_renumL2 RR LL s q e (pos s l1) 4 0 0 [] [] [] 0 0 0 [] [] []).trans (cond_not (beq_false_of_ne he) rfl))
    exact bindF hloop (condF rfl (condF (by kernel_rfl) (bindR (word_bad he) (condF rfl (condF rfl ⟨hl1, he, mkT 9 27 81 4 0 0 [] [] [], _, rfl⟩)))))
  intro _ l1 _ hl1
  have e := renum_loop hs l1.length.succ l1 [] (by omega) hl1 (by have := hl1.length_le; simp; omega)
  generalize optsL l1.length.succ [] l1 = pr at e ⊢
  cases pr with
  | ok os r =>
    obtain ⟨q1, q2⟩ := e
    rw [PR.ok_then]
    exact bindF q2 (condF rfl (condF (by kernel_rfl) (thenF (word_run hs q1) (fun a => rfl) (fun e l1 a q he hl1 => ⟨hl1, he, mkT 9 27 81 4 0 0 os [] [], _, rfl⟩) (fun a l1 h1 hl1 => ⟨hl1, rfl⟩))))
  | err e' r =>
    obtain ⟨q1, q2, p, a, q3⟩ := e
    have q3 := q3.elim id id
    exact bindF q3 (condF rfl (condF (by kernel_rfl) (bindR (word_bad q2) (condF rfl (condF rfl ⟨q1, q2, mkT 9 27 81 4 0 0 a [] [], _, rfl⟩)))))

/-! ### lists -/

abbrev SRun (d : Nat) (s : List UInt8) : Prop := ∀ l, l <:+ s → ReadsF (RR none 45 [.ptr 0 0, num (7 - (d : Int))] (rdr s (pos s l) 0 0)) s slotsT (kindL 9 27 81 d l)

theorem rlist_run {s l : List UInt8} {d : Nat} {t1 : Int} (hs : s.length ≤ 100000) (ht : IntKind.i64.wrap (t1 + 1) = 7 - (d : Int)) (hv : SRun d s) (hl : l <:+ s) :
    ReadsF (RR none 94 [.ptr 0 0, bareT 5, num t1] (rdr s (pos s l) 0 0)) s slotsT
      ((needL [108, 105, 115, 116, 32] l).andThen fun _ l => (pairL l).andThen fun q l => (needL [32, 111, 102, 32] l).andThen fun _ l => (kindL 9 27 81 d l).andThen fun x l => .ok (mkT 9 27 81 5 q.1 q.2 [] [x] []) l) := by
  refine readsF_of (eq_rlist RR LL s (pos s l) 0 0 5 0 0 [] [] [] t1) ?_
  rw [ht]
  refine thenF (word_run hs hl) (fun a => rfl) ?_ ?_
  · intro e l1 _ q he hl1
    have b := beq_false_of_ne he
    exact condF' b (condF' b (condF' b ⟨hl1, he, mkT 9 27 81 5 0 0 [] [] [], _, rfl⟩))
  intro _ l1 _ hl1
  refine condF rfl (thenF (rpair_run hs hl1) (fun q => okPair ..) ?_ ?_)
  · intro e l2 v q he hl2
    have b := beq_false_of_ne he
    exact condF' b (condF' b ⟨hl2, he, mkT 9 27 81 5 v.1 v.2 [] [] [], _, rfl⟩)
  intro v l2 _ hl2
  refine condF rfl (thenF (word_run hs hl2) (fun a => rfl) ?_ ?_)
  · intro e l3 _ q he hl3
    exact condF' (beq_false_of_ne he) ⟨hl3, he, mkT 9 27 81 5 v.1 v.2 [] [] [], _, rfl⟩
  intro _ l3 _ hl3
  refine condF rfl (thenF (hv l3 hl3) (fun a => okTy26 ..) ?_ ?_)
  · intro e l4 y q he hl4
    rw [elemT]
    exact ⟨hl4, he, mkT 9 27 81 5 v.1 v.2 [] [_] [], _, rfl⟩
  intro y l4 hy hl4
  obtain ⟨k, mn, mx, os, fs, gs, rfl⟩ := kindL_part hy
  rw [elemT]
  exact ⟨hl4, rfl⟩

end Go.Proofs.YtghdhhmlmdohkaaGreatDoor
