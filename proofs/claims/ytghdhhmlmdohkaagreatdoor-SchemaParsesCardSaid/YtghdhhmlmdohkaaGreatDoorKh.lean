/- The program's scanner: a whole schema. -/
import Derived.Test.YtghdhhmlmdohkaaGreatDoorKg
namespace Go.Proofs.YtghdhhmlmdohkaaGreatDoor
open Go Go.Den
set_option maxRecDepth 100000

theorem kind_run {s : List UInt8} (hs : s.length ≤ 100000) : ∀ (d : Nat), d ≤ 7 → TRun d s := by
  intro d
  induction d with
  | zero =>
    intro _ l hl
    exact reads_of (eq_kind RR LL s (pos s l) (7 - ((0 : Nat) : Int))) (condR rfl ⟨hl, _, rfl⟩)
  | succ d ih =>
    intro hd7 l hl
    have ih := ih (by omega)
    have ht : IntKind.i64.wrap ((7 - ((d + 1 : Nat) : Int)) + 1) = 7 - (d : Int) := by rw [wrap_in (by omega) (by omega)]; omega
    generalize hg : (7 - ((d + 1 : Nat) : Int)) = t1 at ht
    refine reads_of (eq_kind RR LL s (pos s l) t1) (condR' (dec_no (by omega)) (condR (pos_ge hl) ?_))
    rw [pk_pos hl, ht]
    unfold kindL
    have eqb : ∀ b : UInt8, (((hd l).toNat : Int) == (b.toNat : Int)) = (hd l == b) := fun b => u8_eq
    have e105 := eqb 105
    have e116 := eqb 116
    have e98 := eqb 98
    have e97 := eqb 97
    have e101 := eqb 101
    have e108 := eqb 108
    have e123 := eqb 123
    change (((hd l).toNat : Int) == 105) = _ at e105
    change (((hd l).toNat : Int) == 116) = _ at e116
    change (((hd l).toNat : Int) == 98) = _ at e98
    change (((hd l).toNat : Int) == 97) = _ at e97
    change (((hd l).toNat : Int) == 101) = _ at e101
    change (((hd l).toNat : Int) == 108) = _ at e108
    change (((hd l).toNat : Int) == 123) = _ at e123
    rw [e105, e116, e98, e97, e101, e108, e123]
    by_cases h105 : hd l = 105
    · rw [if_pos h105]
      refine condR (by rw [h105]; rfl) (thenR (needL_run hs hl) (fun a => rfl) (fun v q => rfl) ?_)
      intro _ l1 _ hl1
      rw [← PR.asis (openL 9 27 81 _ _ _ l1)]
      refine thenR (open_run hs hl1 1 (-4611686018427387904) 4611686018427387904) (fun a => okTy26 ..) (fun v q => rfl) ?_
      intro y l2 _ hl2
      exact ⟨hl2, rfl⟩
    rw [if_neg h105]
    refine condR' (beq_false_of_ne h105) ?_
    by_cases h116 : hd l = 116
    · rw [if_pos h116]
      refine condR (by rw [h116]; rfl) (thenR (needL_run hs hl) (fun a => rfl) (fun v q => rfl) ?_)
      intro _ l1 _ hl1
      rw [← PR.asis (openL 9 27 81 _ _ _ l1)]
      refine thenR (open_run hs hl1 2 0 256) (fun a => okTy26 ..) (fun v q => rfl) ?_
      intro y l2 _ hl2
      exact ⟨hl2, rfl⟩
    rw [if_neg h116]
    refine condR' (beq_false_of_ne h116) ?_
    by_cases h98 : hd l = 98
    · rw [if_pos h98]
      refine condR (by rw [h98]; rfl) (thenR (needL_run hs hl) (fun a => rfl) (fun v q => rfl) ?_)
      intro _ l1 _ hl1
      exact ⟨hl1, rfl⟩
    rw [if_neg h98]
    refine condR' (beq_false_of_ne h98) ?_
    by_cases h97 : hd l = 97
    · rw [if_pos h97]
      refine condR (by rw [h97]; rfl) (thenR (needL_run hs hl) (fun a => rfl) (fun v q => rfl) ?_)
      intro _ l1 _ hl1
      exact ⟨hl1, rfl⟩
    rw [if_neg h97]
    refine condR' (beq_false_of_ne h97) ?_
    by_cases h101 : hd l = 101
    · rw [if_pos h101]
      refine condR (by rw [h101]; rfl) (thenR (needL_run hs hl) (fun a => rfl) (fun v q => rfl) ?_)
      intro _ l1 _ hl1
      unfold optsL
      rw [PR.assoc]
      refine thenR (name_run hs hl1) (fun a => okSt a) (fun v q => rfl) ?_
      intro x l2 hx hl2
      have hx1 := (wordL_less hx).1
      have hlen := hl1.length_le
      have e := enum_loop hs l1.length.succ l2 [E.str x] (by omega) hl2 (by simp; omega)
      cases hq : optsM l1.length.succ [E.str x] l2 with
      | ok os r =>
        have hq' : optsM l1.length.succ ([] ++ [E.str x]) l2 = .ok os r := hq
        rw [hq'] 
        rw [hq] at e
        obtain ⟨e1, e2⟩ := e
        have e2 : LL 88 1 lc_88_19 ([.ptr 0 0, AV.undef, AV.undef, AV.undef, .ptr 1 0, .ptr 2 0] ++ List.replicate 84 AV.undef) (tyH s (pos s l2) 4 [E.str x] []) = some (enO s os r) := e2
        show Reads ((LL 88 1 lc_88_19 ([.ptr 0 0, AV.undef, AV.undef, AV.undef, .ptr 1 0, .ptr 2 0] ++ List.replicate 84 AV.undef) (tyH s (pos s l2) 4 [E.str x] [])).bind _) s slotsT _
        rw [e2, Option.bind_some, PR.ok_then]
        refine condR rfl (condR (by kernel_rfl) (thenR (needL_run hs e1) (fun a => rfl) (fun v q => rfl) ?_))
        intro _ l3 _ hl3
        exact ⟨hl3, rfl⟩
      | err c r =>
        have hq' : optsM l1.length.succ ([] ++ [E.str x]) l2 = .err c r := hq
        rw [hq']
        rw [hq] at e
        obtain ⟨e1, q, e2⟩ := e
        exact ⟨e1, q, bind_run e2 (cond_not rfl (cond_run rfl (cond_run rfl rfl)))⟩
    rw [if_neg h101]
    refine condR' (beq_false_of_ne h101) ?_
    by_cases h108 : hd l = 108
    · rw [if_pos h108]
      refine condR (by rw [h108]; rfl) (thenR (needL_run hs hl) (fun a => rfl) (fun v q => rfl) ?_)
      intro _ l1 _ hl1
      refine thenR (bounds_run hs hl1) (fun q => okPair ..) (fun v q => rfl) ?_
      intro q l2 _ hl2
      refine thenR (needL_run hs hl2) (fun a => rfl) (fun v q => rfl) ?_
      intro _ l3 _ hl3
      refine thenR (ih l3 hl3) (fun a => okTy26 ..) (fun v q => rfl) ?_
      intro y l4 hy hl4
      obtain ⟨k, mn, mx, os, fs, gs, rfl⟩ := kindL_part hy
      rw [elemT]
      exact ⟨hl4, rfl⟩
    rw [if_neg h108]
    refine condR' (beq_false_of_ne h108) ?_
    by_cases h123 : hd l = 123
    · rw [if_pos h123]
      have e := record_run hs ht ih hl h123
      rw [← PR.asis (if hd (l.drop 1) = 125 then _ else _)]
      refine condR (by rw [h123]; rfl) (thenR e (fun a => okTy26 ..) (fun v q => rfl) ?_)
      intro y l1 _ hl1
      exact ⟨hl1, rfl⟩
    rw [if_neg h123]
    exact condR' (beq_false_of_ne h123) ⟨hl, _, rfl⟩

/-! ### faults are no zeros -/

theorem pairL_err {l r : List UInt8} {e : Int} (h : pairL l = .err e r) : e ≠ 0 := by
  unfold pairL at h
  exact then_err h (fun _ => numL_err) fun _ _ _ h => then_err h (fun _ => needL_err) fun _ _ _ h => then_err h (fun _ => numL_err) fun _ _ _ h => by cases h
theorem openL_err {k lo hi : Int} {l r : List UInt8} {e : Int} (h : openL 9 27 81 k lo hi l = .err e r) : e ≠ 0 := by
  unfold openL at h
  split at h
  · exact then_err h (fun _ => pairL_err) fun _ _ _ h => by cases h
  · cases h
theorem optsM_err : ∀ (n : Nat) (acc : List E) (l r : List UInt8) (e : Int), l.length < n → optsM n acc l = .err e r → e ≠ 0 := by
  intro n
  induction n with
  | zero => intro acc l r e hn; omega
  | succ n ih =>
    intro acc l r e hn h
    unfold optsM at h
    split at h
    · rename_i hc
      have l4 := drop_less (l := l) (by rw [hc]; decide)
      refine then_err h (fun _ => wordL_err) fun x l1 hx h => ?_
      have := (wordL_less hx).1
      exact ih _ _ _ _ (by omega) h
    · cases h
theorem kindL_err : ∀ (d : Nat) (l r : List UInt8) (e : Int), kindL 9 27 81 d l = .err e r → e ≠ 0 := by
  intro d
  induction d with
  | zero => intro l r e h; injection h with h; omega
  | succ d ih =>
    have rec' : ∀ (n : Nat) (acc : List E) (l r : List UInt8) (e : Int), l.length < n → recL (kindL 9 27 81 d) n acc l = .err e r → e ≠ 0 := by
      intro n
      induction n with
      | zero => intro acc l r e hn; omega
      | succ n ihn =>
        intro acc l r e hn h
        unfold recL at h
        refine then_err h (fun _ => wordL_err) fun x l1 hx h => ?_
        have h1 := (wordL_less hx).1
        refine then_err h (fun _ => needL_err) fun _ l2 h2 h => ?_
        have h3 := tail_le (needL_tail [58, 32] (dropM l1)) h2
        have h4 := (dropM_tail l1).length_le
        refine then_err h (fun r => ih l2 r e) fun y l3 hy h => ?_
        have h5 := tail_le (kindL_tail 9 27 81 d l2) hy
        split at h
        · rename_i hc
          have l4 := drop_less (l := l3) (by rw [hc]; decide)
          refine then_err h (fun _ => needL_err) fun _ l5 h6 h => ?_
          have h7 := tail_le (needL_tail [32] (l3.drop 1)) h6
          exact ihn _ _ _ _ (by omega) h
        · exact then_err h (fun _ => needL_err) fun _ _ _ h => by cases h
    intro l r e h
    unfold kindL at h
    split at h
    · exact then_err h (fun _ => needL_err) fun _ _ _ h => openL_err h
    split at h
    · exact then_err h (fun _ => needL_err) fun _ _ _ h => openL_err h
    split at h
    · exact then_err h (fun _ => needL_err) fun _ _ _ h => by cases h
    split at h
    · exact then_err h (fun _ => needL_err) fun _ _ _ h => by cases h
    split at h
    · refine then_err h (fun _ => needL_err) fun _ l1 _ h => ?_
      refine then_err h (fun r h => ?_) fun _ _ _ h => then_err h (fun _ => needL_err) fun _ _ _ h => by cases h
      unfold optsL at h
      refine then_err h (fun _ => wordL_err) fun x l2 hx h => ?_
      have := (wordL_less hx).1
      exact optsM_err _ _ _ _ _ (by omega) h
    split at h
    · exact then_err h (fun _ => needL_err) fun _ _ _ h => then_err h (fun _ => pairL_err) fun _ _ _ h => then_err h (fun _ => needL_err) fun _ l3 _ h => then_err h (fun r => ih l3 r e) fun _ _ _ h => by cases h
    split at h
    · split at h
      · cases h
      · exact then_err h (fun r => rec' _ _ _ _ _ (Nat.lt_succ_self _)) fun _ _ _ h => by cases h
    · injection h with h; omega

/-! ### scanned -/

def nilT : AV := .agg [num 0, num 0, num 0, .e (.sl 9 []), .e (.sl 27 []), .e (.sl 81 [])]
/-- What a text is as a schema, by its form alone: the schema; or a place and a fault. -/
def scaS (s : List UInt8) : AV :=
  match kindL 9 27 81 6 s with
  | .ok y l => if l = [] then .tup [slotsT y, num 0, num 0] else .tup [nilT, num (pos s l), num 2]
  | .err e l => .tup [nilT, num (pos s l), num e]

theorem scanned_run {s : List UInt8} (hs : s.length ≤ 100000) : RR none 44 [str s] [] = some (.ret (scaS s), []) := by
  have e := kind_run hs 6 (by omega) s List.suffix_rfl
  rw [pos_all] at e
  change Reads (RR none 88 [.ptr 0 0, num 1] (scn s 0)) s slotsT _ at e
  refine run_of_body ((eq_scanned RR LL s).trans ?_)
  unfold scaS
  cases hv : kindL 9 27 81 6 s with
  | ok y l =>
    rw [hv] at e
    obtain ⟨h1, h2⟩ := e
    refine bind_run h2 (cond_run rfl (cond_not rfl (cond_run (okTy26 ..) ?_)))
    dsimp only
    have hle := h1.length_le
    by_cases hl : l = []
    · rw [if_pos hl]
      refine cond_not ?_ (bind_run (rescue_no 0 0) (cond_run rfl (cond_run rfl rfl)))
      show (!(pos s l == (s.length : Int))) = false
      rw [hl, eq_beq (by unfold pos; simp)]; rfl
    · rw [if_neg hl]
      refine cond_run ?_ (bind_run (rescue_yes 0 0 (pos s l) 2) (cond_run rfl (cond_run rfl rfl)))
      show (!(pos s l == (s.length : Int))) = true
      have := List.length_pos_iff.2 hl
      rw [ne_beq (by unfold pos; omega)]; rfl
  | err e' l =>
    rw [hv] at e
    obtain ⟨h1, q, h2⟩ := e
    exact bind_run h2 (cond_run rfl (cond_run rfl (bind_run (rescue_yes 0 0 (pos s l) e') (cond_run rfl (cond_run rfl rfl)))))

end Go.Proofs.YtghdhhmlmdohkaaGreatDoor
