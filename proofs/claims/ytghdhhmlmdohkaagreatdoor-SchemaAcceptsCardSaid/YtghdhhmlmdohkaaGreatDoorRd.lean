/- The reference's reader: entries, values, Value. -/
import Derived.Test.YtghdhhmlmdohkaaGreatDoorRc
namespace Go.Proofs.YtghdhhmlmdohkaaGreatDoor
open Go Go.Den
set_option maxRecDepth 100000

/-! ### entries -/

def entM (vd : List UInt8 → PR E) : Nat → List E → List E → List UInt8 → PR (List E × List E)
  | 0, _, _, l => .err 0 l
  | n + 1, ns, vs, l => (wordL l).andThen fun x l1 =>
      if 16 < x.length then .err 11 l
      else if lateB ns x then .err 22 l
      else (needL [58] l1).andThen fun _ l2 => (vd l2).andThen fun y l3 =>
        if hd l3 = 44 then entM vd n (ns ++ [.str x]) (vs ++ [y]) (l3.drop 1) else .ok (ns ++ [.str x], vs ++ [y]) l3
theorem entL_M (vd : List UInt8 → PR E) : ∀ (n : Nat) (ns acc : List E) (l : List UInt8), entL vd n ns acc l = (entM vd n ns acc l).andThen fun q l => (needL [125] l).andThen fun _ l => .ok q l := by
  intro n
  induction n with
  | zero => intro ns acc l; rfl
  | succ n ih =>
    intro ns acc l
    rw [entL, entM]
    cases wordL l with
    | err e r => rfl
    | ok x l1 =>
      rw [PR.ok_then, PR.ok_then]
      by_cases h16 : 16 < x.length
      · rw [if_pos h16, if_pos h16]; rfl
      rw [if_neg h16, if_neg h16]
      by_cases hb : lateB ns x = true
      · rw [if_pos hb, if_pos hb]; rfl
      rw [if_neg hb, if_neg hb]
      cases needL [58] l1 with
      | err e r => rfl
      | ok _ l2 =>
        rw [PR.ok_then, PR.ok_then]
        cases vd l2 with
        | err e r => rfl
        | ok y r =>
          rw [PR.ok_then, PR.ok_then]
          by_cases h : hd r = 44
          · rw [if_pos h, if_pos h, ih]
          · rw [if_neg h, if_neg h]; rfl

theorem nz_yes {e : Int} (h : e ≠ 0) : (!(e == 0)) = true := by rw [beq_false_of_ne h]; rfl

theorem rentries_loop {s : List UInt8} {d : Nat} {t1 : Int} (hs : s.length ≤ 100000) (ht : IntKind.i64.wrap (t1 + 1) = 7 - (d : Int)) (hv : VRunF d s) : ∀ (n : Nat) (l : List UInt8) (ns acc : List E), l.length < n → l <:+ s → acc.length + n ≤ 200000 → ns.length = acc.length →
    rlOut true 100 101 s 6 id (LL 151 1 lc_151_6 (listF 106 t1) (rlH s (pos s l) 0 0 6 ns acc)) (entM (valL 9 39 d) n ns acc l) := by
  intro n
  induction n with
  | zero => intro l ns acc h; exact absurd h (by omega)
  | succ n ih =>
    intro l ns acc hn hl hacc hna
    refine rlOut_of (eq_rentriesL6 RR LL s (pos s l) 0 0 t1 0 0 [] [] [] 6 0 [] ns acc) (condL rfl ?_)
    rw [ht, entM]
    refine thenL (nm_run hs hl) (fun a => rfl) ?_ ?_
    · intro e l1 x q he hl1
      refine condL' ?_ (condL' ?_ (rlOut_run (word_bad he) (condL rfl (condL rfl (condL (nz_yes he) ⟨hl1, he, q, ns, acc, .inr ⟨rfl, rfl⟩⟩)))))
      · show (bif e == 0 then _ else false) = false
        rw [beq_false_of_ne he]; rfl
      · show ((bif e == 0 then _ else false) == true) = false
        rw [beq_false_of_ne he]; rfl
    intro x l1 hx hl1
    have hle := (wordL_less hx).1
    by_cases h16 : 16 < x.length
    · rw [if_pos h16]
      refine condL ?_ (condL' rfl (rlOut_run (word_bad (e := 11) (by decide)) (condL rfl (condL rfl (condL rfl ⟨hl, by decide, pos s l1, ns, acc, .inr ⟨rfl, rfl⟩⟩)))))
      show decide ((16 : Int) < (x.length : Int)) = true
      exact dec_yes (by omega)
    rw [if_neg h16]
    refine condL' (by show decide ((16 : Int) < (x.length : Int)) = false; exact dec_no (by omega)) ?_
    refine Eq.mpr (congrArg (fun z => rlOut true 100 101 s 6 id z _) (late_int (ns := ns) (x := x) (by omega) _ _ _)) ?_
    by_cases hlate : lateB ns x = true
    · rw [if_pos hlate]
      exact condL hlate (rlOut_run (word_bad (e := 22) (by decide)) (condL rfl (condL rfl (condL rfl ⟨hl, by decide, pos s l1, ns, acc, .inr ⟨rfl, rfl⟩⟩))))
    rw [if_neg hlate]
    refine condL' (Bool.eq_false_iff.2 hlate) ?_
    refine thenL (word_run hs hl1) (fun a => rfl) ?_ ?_
    · intro e l2 _ q he hl2
      exact condL (nz_yes he) ⟨hl2, he, q, ns, acc, .inr ⟨rfl, rfl⟩⟩
    intro _ l2 h2 hl2
    have hle2 := tail_le (needL_tail [58] l1) h2
    refine condL' rfl (condL ?_ ?_)
    · show (decide (ns.length = ns.length) && decide ((ns.length + 1) * 16 ≤ 140737488355328)) = true
      simp; omega
    refine thenL (hv l2 hl2) (fun a => okV38 ..) ?_ ?_
    · intro e l3 a q he hl3
      refine condL ?_ (condL' ?_ ⟨hl3, he, q, _, _, .inl rfl⟩)
      · show (decide (acc.length = acc.length) && decide ((acc.length + 1) * 80 ≤ 140737488355328)) = true
        simp; omega
      · show ((!(e == 0)) == false) = false
        rw [beq_false_of_ne he]; rfl
    intro y l3 hy hl3
    have hle3 := tail_le (valL_tail 9 39 d l2) hy
    obtain ⟨a, b, c, ns', vs, rfl⟩ := valL_part hy
    show rlOut true 100 101 s 6 id (bif decide (acc.length = acc.length) && decide ((acc.length + ((39, elems PP 39 5 1 [E.sl 39 vs, E.sl 9 ns', E.str c, E.int .i64 b, E.int .i64 a].reverse) : TypeId × List E).snd.length) * 80 ≤ 140737488355328) then
      bif (!((0 : Int) == 0)) == false then bif decide (0 ≤ pos s l3) then bif !(decide (pos s l3 < (s.length : Int)) && pk s (pos s l3) == 44) then
        some (rlX 100 s (pos s l3) 0 0 6 (ns ++ [E.str x]) (acc ++ ((39, elems PP 39 5 1 [E.sl 39 vs, E.sl 9 ns', E.str c, E.int .i64 b, E.int .i64 a].reverse) : TypeId × List E).snd))
      else (LL 151 1 lc_151_6 (listF 106 t1) (rlH s (IntKind.i64.wrap (pos s l3 + 1)) 0 0 6 (ns ++ [E.str x]) (acc ++ ((39, elems PP 39 5 1 [E.sl 39 vs, E.sl 9 ns', E.str c, E.int .i64 b, E.int .i64 a].reverse) : TypeId × List E).snd))).bind fun o => some o
      else none else _ else none) _
    rw [elemV, is_at hl3 44 44 rfl (by decide)]
    refine condL ?_ (condL rfl (condL (pos_ge hl3) ?_))
    · simp; omega
    by_cases h44 : hd l3 = 44
    · rw [if_pos h44, h44]
      obtain ⟨st1, st2⟩ := pos_step hl3 hs (by rw [h44]; decide)
      have := drop_less (l := l3) (by rw [h44]; decide)
      rw [st1]
      exact condL' rfl (rlOut_bind (ih (l3.drop 1) _ _ (by omega) st2 (by simp; omega) (by simp; omega)))
    · rw [if_neg h44, beq_false_of_ne h44]
      exact condL rfl ⟨hl3, rfl⟩

theorem rentries_run {s l : List UInt8} {d : Nat} {t1 : Int} (hs : s.length ≤ 100000) (ht : IntKind.i64.wrap (t1 + 1) = 7 - (d : Int)) (hv : VRunF d s) (hl : l <:+ s) (h123 : hd l = 123) :
    ReadsF (RR none 151 [.ptr 0 0, num t1] (rdr s (pos s l) 0 0)) s slotsV
      (if hd (l.drop 1) = 125 then .ok (mkV 9 39 6 0 [] [] []) ((l.drop 1).drop 1) else (entL (valL 9 39 d) (l.drop 1).length.succ [] [] (l.drop 1)).andThen fun q l => .ok (mkV 9 39 6 0 [] q.1 q.2) l) := by
  obtain ⟨st1, st2⟩ := pos_step hl hs (by rw [h123]; decide)
  refine readsF_of (eq_rentries RR LL s (pos s l) 0 0 t1) ?_
  rw [st1]
  refine condF (pos_ge st2) ?_
  rw [is_at st2 125 125 rfl (by decide)]
  by_cases h125 : hd (l.drop 1) = 125
  · rw [if_pos h125, h125]
    obtain ⟨st3, st4⟩ := pos_step st2 hs (by rw [h125]; decide)
    rw [st3]
    exact condF rfl ⟨st4, rfl⟩
  rw [if_neg h125, beq_false_of_ne h125]
  refine condF' rfl ?_
  have e := rentries_loop hs ht hv (l.drop 1).length.succ (l.drop 1) [] [] (by omega) st2 (by have := st2.length_le; simp at this ⊢; omega) rfl
  rw [entL_M]
  generalize entM (valL 9 39 d) (l.drop 1).length.succ [] [] (l.drop 1) = pr at e
  cases pr with
  | ok q r =>
    obtain ⟨q1, q2⟩ := e
    rw [PR.ok_then]
    refine bindF q2 (condF rfl (condF (by kernel_rfl) ?_))
    have as1 : ((needL [125] r).andThen fun _ l => PR.ok q l).andThen (fun q l => PR.ok (mkV 9 39 6 0 [] q.1 q.2) l) = (needL [125] r).andThen fun _ l => .ok (mkV 9 39 6 0 [] q.1 q.2) l := by
      cases needL [125] r <;> rfl
    rw [as1]
    exact thenF (word_run hs q1) (fun a => rfl) (fun e l1 a p he hl1 => ⟨hl1, he, mkV 9 39 6 0 [] q.1 q.2, _, rfl⟩) (fun a l1 h1 hl1 => ⟨hl1, rfl⟩)
  | err e' r =>
    obtain ⟨q1, q2, p, ns, vs, q3 | ⟨_, q3⟩⟩ := e
    · exact bindF q3 (condF rfl (condF (by kernel_rfl) (bindR (word_bad q2) (condF rfl (condF rfl ⟨q1, q2, mkV 9 39 6 0 [] ns vs, _, rfl⟩)))))
    · exact bindF q3 (condF' rfl (condF rfl (condF (by kernel_rfl) ⟨q1, q2, mkV 9 39 6 0 [] ns vs, _, rfl⟩)))

/-! ### value -/

theorem rvalue_run {s : List UInt8} (hs : s.length ≤ 100000) : ∀ (d : Nat), d ≤ 7 → VRunF d s := by
  intro d
  induction d with
  | zero =>
    intro _ l hl
    exact readsF_of (eq_rvalue RR LL s (pos s l) 0 0 (7 - ((0 : Nat) : Int))) (condF rfl ⟨hl, by decide, mkV 9 39 0 0 [] [] [], _, rfl⟩)
  | succ d ih =>
    intro hd7 l hl
    have ih := ih (by omega)
    have ht : IntKind.i64.wrap ((7 - ((d + 1 : Nat) : Int)) + 1) = 7 - (d : Int) := by rw [wrap_in (by omega) (by omega)]; omega
    generalize hg : (7 - ((d + 1 : Nat) : Int)) = t1 at ht
    refine readsF_of (eq_rvalue RR LL s (pos s l) 0 0 t1) (condF' (dec_no (by omega)) (condF (pos_ge hl) ?_))
    rw [is_at hl 116 116 rfl (by decide), is_at hl 102 102 rfl (by decide), is_at hl 34 34 rfl (by decide), is_at hl 91 91 rfl (by decide), is_at hl 123 123 rfl (by decide), is_at hl 45 45 rfl (by decide), dig_at hl]
    rw [valL]
    by_cases h116 : hd l = 116
    · rw [if_neg (by rw [h116]; decide), if_neg (by rw [h116]; decide), if_pos h116]
      exact condF (by rw [h116]; rfl) (thenF (word_run hs hl) (fun a => rfl) (fun e l1 a q he hl1 => ⟨hl1, he, mkV 9 39 3 1 [] [] [], _, rfl⟩) (fun a l1 h1 hl1 => ⟨hl1, rfl⟩))
    refine condF' (beq_false_of_ne h116) (condF (pos_ge hl) ?_)
    by_cases h102 : hd l = 102
    · rw [if_neg (by rw [h102]; decide), if_pos h102]
      exact condF (by rw [h102]; rfl) (thenF (word_run hs hl) (fun a => rfl) (fun e l1 a q he hl1 => ⟨hl1, he, mkV 9 39 3 0 [] [] [], _, rfl⟩) (fun a l1 h1 hl1 => ⟨hl1, rfl⟩))
    refine condF' (beq_false_of_ne h102) (condF (pos_ge hl) ?_)
    by_cases h34 : hd l = 34
    · rw [if_neg (by rw [h34]; decide), if_neg h102, if_neg h116, if_pos h34]
      exact condF (by rw [h34]; rfl) (thenF (rquoted_run hs hl h34) (fun a => rfl) (fun e l1 a q he hl1 => ⟨hl1, he, mkV 9 39 2 0 a [] [], _, rfl⟩) (fun a l1 h1 hl1 => ⟨hl1, rfl⟩))
    refine condF' (beq_false_of_ne h34) (condF (pos_ge hl) ?_)
    have asis : ∀ pr : PR E, pr.andThen (fun y l => .ok y l) = pr := by intro pr; cases pr <;> rfl
    by_cases h91 : hd l = 91
    · rw [if_neg (by rw [h91]; decide), if_neg h102, if_neg h116, if_neg h34, if_pos h91]
      have e := relements_run hs ht ih hl h91
      rw [← asis (if hd (l.drop 1) = 93 then _ else _)]
      exact condF (by rw [h91]; rfl) (thenF e (fun a => okV38 ..) (fun e l1 a q he hl1 => ⟨hl1, he, a, _, rfl⟩) (fun a l1 h1 hl1 => ⟨hl1, rfl⟩))
    refine condF' (beq_false_of_ne h91) (condF (pos_ge hl) ?_)
    by_cases h123 : hd l = 123
    · rw [if_neg (by rw [h123]; decide), if_neg h102, if_neg h116, if_neg h34, if_neg h91, if_pos h123]
      have e := rentries_run hs ht ih hl h123
      rw [← asis (if hd (l.drop 1) = 125 then _ else _)]
      exact condF (by rw [h123]; rfl) (thenF e (fun a => okV38 ..) (fun e l1 a q he hl1 => ⟨hl1, he, a, _, rfl⟩) (fun a l1 h1 hl1 => ⟨hl1, rfl⟩))
    refine condF' (beq_false_of_ne h123) (condF (pos_ge hl) ?_)
    have numb := thenF (s0 := s) (p0 := pos s l) (x0 := 0) (a0 := 0) (t := 3) (val' := slotsV) (f := fun n l => PR.ok (mkV 9 39 1 n [] [] []) l)
      (K := fun rh => some (Res.ret (.agg [num 1, num rh.1.val.data.toInt, str [], .e (.sl 9 []), .e (.sl 39 [])]), [rdrO (((rh.2.ob 0).cell 0).data.toStr) (((rh.2.ob 0).cell 1).data.toInt) (((rh.2.ob 0).cell 2).data.toInt) (((rh.2.ob 0).cell 3).data.toInt)]))
      (rnumber_run hs hl) (fun a => rfl) (fun e l1 a q he hl1 => ⟨hl1, he, mkV 9 39 1 a [] [] [], _, rfl⟩) (fun a l1 h1 hl1 => ⟨hl1, rfl⟩)
    by_cases h45 : hd l = 45
    · rw [if_pos (.inl h45)]
      exact condF' (by rw [h45]; rfl) numb
    refine condF (by rw [beq_false_of_ne h45]; rfl) (condF (pos_ge hl) ?_)
    by_cases hdg : digC (hd l) = true
    · rw [if_pos (.inr hdg)]
      exact condF hdg numb
    · rw [if_neg (fun h => h.elim h45 hdg), if_neg h102, if_neg h116, if_neg h34, if_neg h91, if_neg h123]
      exact condF' (Bool.eq_false_iff.2 hdg) ⟨hl, by decide, mkV 9 39 0 0 [] [] [], _, rfl⟩

theorem RValue_run (s : List UInt8) : RR none 58 [str s] [] = some (.ret (valS s), []) := by
  refine run_of_body ((eq_RValue RR LL s).trans ?_)
  unfold valS
  by_cases hb : 65536 < s.length
  · rw [if_pos hb]
    exact cond_run (dec_yes (by omega)) rfl
  rw [if_neg hb]
  have e := rvalue_run (s := s) (by omega) 6 (by omega) s List.suffix_rfl
  rw [pos_all] at e
  change ReadsF (RR none 105 [.ptr 0 0, num 1] (rdr s 0 0 0)) s slotsV _ at e
  refine cond_not (dec_no (by omega)) ?_
  cases hv : valL 9 39 6 s with
  | ok y l =>
    rw [hv] at e
    obtain ⟨h1, h2⟩ := e
    have hle := h1.length_le
    refine bind_run h2 (cond_run rfl (cond_run (okV38 ..) (cond_run rfl ?_)))
    dsimp only
    by_cases hl : l = []
    · rw [if_pos hl]
      refine cond_not ?_ (cond_not rfl rfl)
      show decide (pos s l < (s.length : Int)) = false
      rw [hl]; exact dec_no (by unfold pos; simp)
    · rw [if_neg hl]
      have := List.length_pos_iff.2 hl
      refine cond_run ?_ (cond_run rfl rfl)
      show decide (pos s l < (s.length : Int)) = true
      exact dec_yes (by unfold pos; omega)
  | err c l =>
    rw [hv] at e
    obtain ⟨h1, h2, a, q, h3⟩ := e
    refine bind_run h3 (cond_run rfl (cond_run (okV38 ..) (cond_not ?_ (cond_run (nz_yes h2) rfl))))
    show ((c == 0) == true) = false
    rw [beq_false_of_ne h2]; rfl

end Go.Proofs.YtghdhhmlmdohkaaGreatDoor
