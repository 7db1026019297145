/- The reference's reader: records, schemas. -/
import Derived.Test.YtghdhhmlmdohkaaGreatDoorRe
namespace Go.Proofs.YtghdhhmlmdohkaaGreatDoor
open Go Go.Den
set_option maxRecDepth 100000

/-! ### records -/

def recM (kd : List UInt8 → PR E) : Nat → List E → List UInt8 → PR (List E)
  | 0, _, l => .err 0 l
  | n + 1, acc, l => (wordL l).andThen fun x l1 => (needL [58, 32] (dropM l1)).andThen fun _ l2 => (kd l2).andThen fun y l3 =>
      if hd l3 = 44 then (needL [44, 32] l3).andThen fun _ l4 => recM kd n (acc ++ [mkF x (markL l1) y]) l4 else .ok (acc ++ [mkF x (markL l1) y]) l3
theorem recL_M (kd : List UInt8 → PR E) : ∀ (n : Nat) (acc : List E) (l : List UInt8), recL kd n acc l = (recM kd n acc l).andThen fun fs l => (needL [125] l).andThen fun _ l => .ok fs l := by
  intro n
  induction n with
  | zero => intro acc l; rfl
  | succ n ih =>
    intro acc l
    unfold recL recM
    cases wordL l with
    | err e r => rfl
    | ok x l1 =>
      rw [PR.ok_then, PR.ok_then]
      cases needL [58, 32] (dropM l1) with
      | err e r => rfl
      | ok _ l2 =>
        rw [PR.ok_then, PR.ok_then]
        cases kd l2 with
        | err e r => rfl
        | ok y r =>
          rw [PR.ok_then, PR.ok_then]
          by_cases h : hd r = 44
          · have e : needL [44, 32] r = needL [32] (r.drop 1) := if_pos h
            rw [if_pos h, if_pos h, e, PR.assoc]
            congr 1
            funext _ l4
            exact ih _ _
          · rw [if_neg h, if_neg h]; rfl

abbrev rrF (t1 : Int) : Fr := ((((List.replicate 74 AV.undef).set 0 (.ptr 0 0)).set 2 (.e (.int .i64 t1))).set 4 (.ptr 1 0)).set 6 (.ptr 2 0)
def rrX (s : List UInt8) (q x a : Int) (gs : List E) : Out := { ex := .exit 0, fr := [.ptr 0 0, AV.undef, AV.undef, AV.undef, .ptr 1 0, AV.undef, .ptr 2 0] ++ List.replicate 67 AV.undef, hp := rtyH s q x a 6 [] gs, df := [] }
def rrR (s : List UInt8) (q x a : Int) (gs : List E) : Out := { ex := .ret, fr := List.replicate 6 AV.undef ++ [.ptr 1 0] ++ List.replicate 67 AV.undef, hp := [rdrO s q x a, boxT 2 3 4 6 0 0 [] [] gs, .vec 9 0, .vec 27 0, .vec 81 gs.length], df := [] }

theorem rrecord_loop {s : List UInt8} {d : Nat} {t1 : Int} (hs : s.length ≤ 100000) (ht : IntKind.i64.wrap (t1 + 1) = 7 - (d : Int)) (hv : SRun d s) : ∀ (n : Nat) (l : List UInt8) (acc : List E), l.length < n → l <:+ s → acc.length + n ≤ 200000 →
    gOut (rrX s) (rrR s) s (LL 95 1 lc_95_5 (rrF t1) (rtyH s (pos s l) 0 0 6 [] acc)) (recM (kindL 9 27 81 d) n acc l) := by
  intro n
  induction n with
  | zero => intro l acc h; exact absurd h (by omega)
  | succ n ih =>
    intro l acc hn hl hacc
    refine gOut_of (eq_rrecordL5 RR LL s (pos s l) 0 0 t1 6 0 0 [] [] acc 0 0 0 [] [] []) (condG rfl ?_)
    rw [ht]
    unfold recM
    have size : (decide (acc.length = acc.length) && decide ((acc.length + 1) * 120 ≤ 140737488355328)) = true := by simp; omega
    refine thenG (nm_run hs hl) (fun a => okSt a) ?_ ?_
    · intro e l1 x q he hl1
      exact condG' (eq_yes he) (gOut_run (word_bad he) (condG rfl (condG rfl (condG (nz_yes he) ⟨hl1, he, q, acc, .inr rfl⟩))))
    intro x l1 hx hl1
    have hx1 := (wordL_less hx).1
    refine condG rfl (condG (pos_ge hl1) ?_)
    show gOut (rrX s) (rrR s) s (bif decide (pos s l1 < (s.length : Int)) && pk s (pos s l1) == 63 then _ else _) _
    rw [is_at hl1 63 63 rfl (by decide)]
    have hcase : (hd l1 = 63 ∧ markL l1 = true ∧ dropM l1 = l1.drop 1) ∨ (hd l1 ≠ 63 ∧ markL l1 = false ∧ dropM l1 = l1) := by
      unfold dropM markL
      by_cases h : hd l1 = 63
      · rw [h]; exact .inl ⟨rfl, rfl, rfl⟩
      · rw [beq_false_of_ne h]; exact .inr ⟨h, rfl, rfl⟩
    rcases hcase with ⟨h63, hm, hd'⟩ | ⟨h63, hm, hd'⟩
    · obtain ⟨st1, st2⟩ := pos_step hl1 hs (by rw [h63]; decide)
      have hl2 : (l1.drop 1).length ≤ l1.length := by rw [List.length_drop]; omega
      rw [hm, hd', h63]
      refine condG rfl ?_
      show gOut (rrX s) (rrR s) s ((RR none 91 [.ptr 0 0, str [58, 32]] (rdr s (IntKind.i64.wrap (pos s l1 + 1)) 0 0)).bind _) _
      rw [st1]
      generalize l1.drop 1 = l2 at st2 hl2
      refine thenG (word_run hs st2) (fun a => rfl) ?_ ?_
      · intro e l3 _ q he hl3
        exact condG (nz_yes he) ⟨hl3, he, q, acc, .inr rfl⟩
      intro _ l3 h3 hl3
      have t3 := tail_le (needL_tail [58, 32] l2) h3
      refine condG' rfl (thenG (hv l3 hl3) (fun a => okTy26 ..) ?_ ?_)
      · intro e l4 y q he hl4
        rw [elemF]
        exact condG size (condG' (no_yes he) ⟨hl4, he, q, _, .inl rfl⟩)
      intro y l4 hy hl4
      have t4 := tail_le (kindL_tail 9 27 81 d l3) hy
      obtain ⟨k, mn, mx, os, fs, gs, rfl⟩ := kindL_part hy
      rw [elemF]
      refine condG size (condG rfl (condG (pos_ge hl4) ?_))
      show gOut (rrX s) (rrR s) s (bif !(decide (pos s l4 < (s.length : Int)) && pk s (pos s l4) == 44) then _ else _) _
      rw [is_at hl4 44 44 rfl (by decide)]
      by_cases h44 : hd l4 = 44
      · rw [if_pos h44, h44]
        refine condG' rfl (thenG (word_run hs hl4) (fun a => rfl) ?_ ?_)
        · intro e l5 _ q he hl5
          exact gOut_bind (gOut_of (eq_rrecordL5 RR LL s q e (pos s l5) t1 6 0 0 [] [] _ 0 0 0 [] [] []) (condG' (beq_false_of_ne he) ⟨hl5, he, q, _, .inl rfl⟩))
        intro _ l5 h5 hl5
        have t5 := tail_le (needL_tail [44, 32] l4) h5
        exact gOut_bind (ih l5 _ (by omega) hl5 (by simp; omega))
      · rw [if_neg h44, beq_false_of_ne h44]
        exact condG rfl ⟨hl4, rfl⟩
    · rw [hm, hd', beq_false_of_ne h63]
      refine condG' rfl (thenG (word_run hs hl1) (fun a => rfl) ?_ ?_)
      · intro e l3 _ q he hl3
        exact condG (nz_yes he) ⟨hl3, he, q, acc, .inr rfl⟩
      intro _ l3 h3 hl3
      have t3 := tail_le (needL_tail [58, 32] l1) h3
      refine condG' rfl (thenG (hv l3 hl3) (fun a => okTy26 ..) ?_ ?_)
      · intro e l4 y q he hl4
        rw [elemF]
        exact condG size (condG' (no_yes he) ⟨hl4, he, q, _, .inl rfl⟩)
      intro y l4 hy hl4
      have t4 := tail_le (kindL_tail 9 27 81 d l3) hy
      obtain ⟨k, mn, mx, os, fs, gs, rfl⟩ := kindL_part hy
      rw [elemF]
      refine condG size (condG rfl (condG (pos_ge hl4) ?_))
      show gOut (rrX s) (rrR s) s (bif !(decide (pos s l4 < (s.length : Int)) && pk s (pos s l4) == 44) then _ else _) _
      rw [is_at hl4 44 44 rfl (by decide)]
      by_cases h44 : hd l4 = 44
      · rw [if_pos h44, h44]
        refine condG' rfl (thenG (word_run hs hl4) (fun a => rfl) ?_ ?_)
        · intro e l5 _ q he hl5
          exact gOut_bind (gOut_of (eq_rrecordL5 RR LL s q e (pos s l5) t1 6 0 0 [] [] _ 0 0 0 [] [] []) (condG' (beq_false_of_ne he) ⟨hl5, he, q, _, .inl rfl⟩))
        intro _ l5 h5 hl5
        have t5 := tail_le (needL_tail [44, 32] l4) h5
        exact gOut_bind (ih l5 _ (by omega) hl5 (by simp; omega))
      · rw [if_neg h44, beq_false_of_ne h44]
        exact condG rfl ⟨hl4, rfl⟩

theorem rrecord_run {s l : List UInt8} {d : Nat} {t1 : Int} (hs : s.length ≤ 100000) (ht : IntKind.i64.wrap (t1 + 1) = 7 - (d : Int)) (hv : SRun d s) (hl : l <:+ s) (h123 : hd l = 123) :
    ReadsF (RR none 95 [.ptr 0 0, .agg [num 6, num 0, num 0, .nils 9, .nils 27, .nils 81], num t1] (rdr s (pos s l) 0 0)) s slotsT
      (if hd (l.drop 1) = 125 then .ok (mkT 9 27 81 6 0 0 [] [] []) ((l.drop 1).drop 1) else (recL (kindL 9 27 81 d) (l.drop 1).length.succ [] (l.drop 1)).andThen fun fs l => .ok (mkT 9 27 81 6 0 0 [] [] fs) l) := by
  obtain ⟨st1, st2⟩ := pos_step hl hs (by rw [h123]; decide)
  refine readsF_of (eq_rrecord RR LL s (pos s l) 0 0 6 0 0 t1) ?_
  rw [st1]
  refine condF (pos_ge st2) ?_
  rw [is_at st2 125 125 rfl (by decide)]
  by_cases h125 : hd (l.drop 1) = 125
  · rw [if_pos h125, h125]
    obtain ⟨st3, st4⟩ := pos_step st2 hs (by rw [h125]; decide)
    rw [st3]
    exact condF rfl ⟨st4, rfl⟩
  rw [if_neg h125, beq_false_of_ne h125]
  refine condF' rfl ?_
  have e := rrecord_loop hs ht hv (l.drop 1).length.succ (l.drop 1) [] (by omega) st2 (by have := st2.length_le; simp at this ⊢; omega)
  rw [recL_M]
  generalize recM (kindL 9 27 81 d) (l.drop 1).length.succ [] (l.drop 1) = pr at e
  cases pr with
  | ok q r =>
    obtain ⟨q1, q2⟩ := e
    rw [PR.ok_then]
    refine bindF q2 (condF rfl (condF (by kernel_rfl) ?_))
    rw [PR.assoc]
    exact thenF (word_run hs q1) (fun a => rfl) (fun e l1 a p he hl1 => ⟨hl1, he, mkT 9 27 81 6 0 0 [] [] q, _, rfl⟩) (fun a l1 h1 hl1 => ⟨hl1, rfl⟩)
  | err e' r =>
    obtain ⟨q1, q2, p, gs, q3 | q3⟩ := e
    · exact bindF q3 (condF rfl (condF (by kernel_rfl) (bindR (word_bad q2) (condF rfl (condF rfl ⟨q1, q2, mkT 9 27 81 6 0 0 [] [] gs, _, rfl⟩)))))
    · exact bindF q3 (condF' rfl (condF rfl (condF (by kernel_rfl) ⟨q1, q2, mkT 9 27 81 6 0 0 [] [] gs, _, rfl⟩)))

/-! ### schemas -/

theorem rschema_run {s : List UInt8} (hs : s.length ≤ 100000) : ∀ (d : Nat), d ≤ 7 → SRun d s := by
  intro d
  induction d with
  | zero =>
    intro _ l hl
    exact readsF_of (eq_rschema RR LL s (pos s l) 0 0 (7 - ((0 : Nat) : Int))) (condF rfl ⟨hl, by decide, mkT 9 27 81 0 0 0 [] [] [], _, rfl⟩)
  | succ d ih =>
    intro hd7 l hl
    have ih := ih (by omega)
    have ht : IntKind.i64.wrap ((7 - ((d + 1 : Nat) : Int)) + 1) = 7 - (d : Int) := by rw [wrap_in (by omega) (by omega)]; omega
    generalize hg : (7 - ((d + 1 : Nat) : Int)) = t1 at ht
    refine readsF_of (eq_rschema RR LL s (pos s l) 0 0 t1) (condF' (dec_no (by omega)) (condF (pos_ge hl) ?_))
    rw [is_at hl 105 105 rfl (by decide), is_at hl 116 116 rfl (by decide), is_at hl 98 98 rfl (by decide), is_at hl 97 97 rfl (by decide), is_at hl 101 101 rfl (by decide), is_at hl 108 108 rfl (by decide), is_at hl 123 123 rfl (by decide)]
    unfold kindL
    by_cases h105 : hd l = 105
    · rw [if_pos h105]
      refine condF (by rw [h105]; rfl) (thenF (word_run hs hl) (fun a => rfl) ?_ ?_)
      · intro e l1 _ q he hl1
        exact bindR (rbounded_bad he 1 (-4611686018427387904) 4611686018427387904) (condF rfl (condF (okTy26 ..) ⟨hl1, he, mkT 9 27 81 1 (-4611686018427387904) 4611686018427387904 [] [] [], _, rfl⟩))
      intro _ l1 _ hl1
      rw [← PR.asis (openL 9 27 81 _ _ _ l1)]
      exact thenF (rbounded_run hs hl1 1 (-4611686018427387904) 4611686018427387904) (fun a => okTy26 ..) (fun e l2 a q he hl2 => ⟨hl2, he, a, _, rfl⟩) (fun a l2 _ hl2 => ⟨hl2, rfl⟩)
    rw [if_neg h105]
    refine condF' (beq_false_of_ne h105) (condF (pos_ge hl) ?_)
    by_cases h116 : hd l = 116
    · rw [if_pos h116]
      refine condF (by rw [h116]; rfl) (thenF (word_run hs hl) (fun a => rfl) ?_ ?_)
      · intro e l1 _ q he hl1
        exact bindR (rbounded_bad he 2 0 256) (condF rfl (condF (okTy26 ..) ⟨hl1, he, mkT 9 27 81 2 0 256 [] [] [], _, rfl⟩))
      intro _ l1 _ hl1
      rw [← PR.asis (openL 9 27 81 _ _ _ l1)]
      exact thenF (rbounded_run hs hl1 2 0 256) (fun a => okTy26 ..) (fun e l2 a q he hl2 => ⟨hl2, he, a, _, rfl⟩) (fun a l2 _ hl2 => ⟨hl2, rfl⟩)
    rw [if_neg h116]
    refine condF' (beq_false_of_ne h116) (condF (pos_ge hl) ?_)
    by_cases h98 : hd l = 98
    · rw [if_pos h98]
      exact condF (by rw [h98]; rfl) (thenF (word_run hs hl) (fun a => rfl) (fun e l1 a q he hl1 => ⟨hl1, he, mkT 9 27 81 3 0 0 [] [] [], _, rfl⟩) (fun a l1 h1 hl1 => ⟨hl1, rfl⟩))
    rw [if_neg h98]
    refine condF' (beq_false_of_ne h98) (condF (pos_ge hl) ?_)
    by_cases h97 : hd l = 97
    · rw [if_pos h97]
      exact condF (by rw [h97]; rfl) (thenF (word_run hs hl) (fun a => rfl) (fun e l1 a q he hl1 => ⟨hl1, he, mkT 9 27 81 7 0 0 [] [] [], _, rfl⟩) (fun a l1 h1 hl1 => ⟨hl1, rfl⟩))
    rw [if_neg h97]
    refine condF' (beq_false_of_ne h97) (condF (pos_ge hl) ?_)
    by_cases h101 : hd l = 101
    · rw [if_pos h101]
      refine condF (by rw [h101]; rfl) ?_
      rw [← PR.asis ((needL [101, 110, 117, 109, 40] l).andThen _)]
      exact thenF (renum_run hs hl) (fun a => okTy26 ..) (fun e l2 a q he hl2 => ⟨hl2, he, a, _, rfl⟩) (fun a l2 _ hl2 => ⟨hl2, rfl⟩)
    rw [if_neg h101]
    refine condF' (beq_false_of_ne h101) (condF (pos_ge hl) ?_)
    by_cases h108 : hd l = 108
    · rw [if_pos h108]
      refine condF (by rw [h108]; rfl) ?_
      rw [← PR.asis ((needL [108, 105, 115, 116, 32] l).andThen _)]
      exact thenF (rlist_run hs ht ih hl) (fun a => okTy26 ..) (fun e l2 a q he hl2 => ⟨hl2, he, a, _, rfl⟩) (fun a l2 _ hl2 => ⟨hl2, rfl⟩)
    rw [if_neg h108]
    refine condF' (beq_false_of_ne h108) (condF (pos_ge hl) ?_)
    by_cases h123 : hd l = 123
    · rw [if_pos h123]
      have e := rrecord_run hs ht ih hl h123
      rw [← PR.asis (if hd (l.drop 1) = 125 then _ else _)]
      exact condF (by rw [h123]; rfl) (thenF e (fun a => okTy26 ..) (fun e l1 a q he hl1 => ⟨hl1, he, a, _, rfl⟩) (fun a l1 h1 hl1 => ⟨hl1, rfl⟩))
    rw [if_neg h123]
    exact condF' (beq_false_of_ne h123) ⟨hl, by decide, mkT 9 27 81 0 0 0 [] [] [], _, rfl⟩

end Go.Proofs.YtghdhhmlmdohkaaGreatDoor
