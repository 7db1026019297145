/- The program's scanner: schemas. -/
import Derived.Test.YtghdhhmlmdohkaaGreatDoorKd
import Derived.Test.YtghdhhmlmdohkaaGreatDoorJe
namespace Go.Proofs.YtghdhhmlmdohkaaGreatDoor
open Go Go.Den
set_option maxRecDepth 100000

theorem PR.asis {α : Type} (pr : PR α) : pr.andThen (fun y l => .ok y l) = pr := by cases pr <;> rfl
theorem PR.assoc {α β γ : Type} (x : PR α) (f : α → List UInt8 → PR β) (g : β → List UInt8 → PR γ) : (x.andThen f).andThen g = x.andThen fun a l => (f a l).andThen g := by cases x <;> rfl
theorem okSt (s : List UInt8) : okRes PP 9 (.ret (str s)) = true := by kernel_rfl
theorem okTy26 (a b c : Int) (d e f : List E) : okRes PP 27 (.ret (.agg [num a, num b, num c, .e (.sl 9 d), .e (.sl 27 e), .e (.sl 81 f)])) = true := by kernel_rfl
theorem okPair (a b : Int) : okRes PP 154 (.ret (.tup [num a, num b])) = true := by kernel_rfl

/-- A schema as its parts. -/
def PartT (y : E) : Prop := ∃ k mn mx os fs gs, y = mkT 9 27 81 k mn mx os fs gs
theorem openL_part {k lo hi : Int} {l r : List UInt8} {y : E} (h : openL 9 27 81 k lo hi l = .ok y r) : PartT y := by
  unfold openL at h
  split at h
  · obtain ⟨_, _, _, h⟩ := PR.then_ok h; injection h with h; exact ⟨_, _, _, _, _, _, h.symm⟩
  · injection h with h; exact ⟨_, _, _, _, _, _, h.symm⟩
theorem kindL_part {d : Nat} {l r : List UInt8} {y : E} (h : kindL 9 27 81 d l = .ok y r) : PartT y := by
  cases d with
  | zero => cases h
  | succ d =>
    unfold kindL at h
    split at h
    · obtain ⟨_, _, _, h⟩ := PR.then_ok h; exact openL_part h
    split at h
    · obtain ⟨_, _, _, h⟩ := PR.then_ok h; exact openL_part h
    split at h
    · obtain ⟨_, _, _, h⟩ := PR.then_ok h; injection h with h; exact ⟨_, _, _, _, _, _, h.symm⟩
    split at h
    · obtain ⟨_, _, _, h⟩ := PR.then_ok h; injection h with h; exact ⟨_, _, _, _, _, _, h.symm⟩
    split at h
    · obtain ⟨_, _, _, h⟩ := PR.then_ok h; obtain ⟨_, _, _, h⟩ := PR.then_ok h; obtain ⟨_, _, _, h⟩ := PR.then_ok h; injection h with h; exact ⟨_, _, _, _, _, _, h.symm⟩
    split at h
    · obtain ⟨_, _, _, h⟩ := PR.then_ok h; obtain ⟨_, _, _, h⟩ := PR.then_ok h; obtain ⟨_, _, _, h⟩ := PR.then_ok h; obtain ⟨_, _, _, h⟩ := PR.then_ok h; injection h with h; exact ⟨_, _, _, _, _, _, h.symm⟩
    split at h
    · split at h
      · injection h with h; exact ⟨_, _, _, _, _, _, h.symm⟩
      · obtain ⟨_, _, _, h⟩ := PR.then_ok h; injection h with h; exact ⟨_, _, _, _, _, _, h.symm⟩
    · cases h

theorem elemF (v : E) (x : List UInt8) (b : Bool) : elems PP 81 8 1 [E.sl 81 (v.cell 5).toList, E.sl 27 (v.cell 4).toList, E.sl 9 (v.cell 3).toList, E.int .i64 (v.cell 2).toInt, E.int .i64 (v.cell 1).toInt, E.int .i64 (v.cell 0).toInt, E.bool b, E.str x].reverse =
    [mkF x b (mkT 9 27 81 (v.cell 0).toInt (v.cell 1).toInt (v.cell 2).toInt (v.cell 3).toList (v.cell 4).toList (v.cell 5).toList)] := by kernel_rfl
theorem elemT (v : E) : elems PP 27 6 1 [E.sl 81 (v.cell 5).toList, E.sl 27 (v.cell 4).toList, E.sl 9 (v.cell 3).toList, E.int .i64 (v.cell 2).toInt, E.int .i64 (v.cell 1).toInt, E.int .i64 (v.cell 0).toInt].reverse =
    [mkT 9 27 81 (v.cell 0).toInt (v.cell 1).toInt (v.cell 2).toInt (v.cell 3).toList (v.cell 4).toList (v.cell 5).toList] := by kernel_rfl

theorem bounds_run {s l : List UInt8} (hs : s.length ≤ 100000) (hl : l <:+ s) : Reads (RR none 137 [.ptr 0 0] (scn s (pos s l))) s (fun q : Int × Int => .tup [num q.1, num q.2]) (pairL l) := by
  unfold pairL
  refine reads_of (eq_bounds RR LL s (pos s l)) (thenR (number_run hs hl) (fun a => okInt a) (fun v q => rfl) ?_)
  intro a l1 _ hl1
  refine thenR (needL_run hs hl1) (fun a => rfl) (fun v q => rfl) ?_
  intro _ l2 _ hl2
  refine thenR (number_run hs hl2) (fun a => okInt a) (fun v q => rfl) ?_
  intro b l3 _ hl3
  exact ⟨hl3, rfl⟩

theorem open_run {s l : List UInt8} (hs : s.length ≤ 100000) (hl : l <:+ s) (k lo hi : Int) : Reads (RR none 134 [.ptr 0 0, num k, num lo, num hi] (scn s (pos s l))) s slotsT (openL 9 27 81 k lo hi l) := by
  unfold openL
  refine reads_of (eq_open RR LL s (pos s l) k lo hi) (condR (pos_ge hl) ?_)
  rw [pk_pos hl, show (((hd l).toNat : Int) == 32) = (hd l == 32) from u8_eq (b := 32)]
  by_cases h : hd l = 32
  · rw [if_pos h, h]
    obtain ⟨st1, st2⟩ := pos_step hl hs (by rw [h]; decide)
    rw [st1]
    refine condR' rfl (thenR (bounds_run hs st2) (fun q => okPair ..) (fun v q => rfl) ?_)
    intro q l1 _ hl1
    exact ⟨hl1, rfl⟩
  · rw [if_neg h, beq_false_of_ne h]
    exact condR rfl ⟨hl, rfl⟩

/-- A schema's run is right at every depth above. -/
abbrev TRun (d : Nat) (s : List UInt8) : Prop := ∀ l, l <:+ s → Reads (RR none 88 [.ptr 0 0, num (7 - (d : Int))] (scn s (pos s l))) s slotsT (kindL 9 27 81 d l)

abbrev boxT (p q r : Nat) (k mn mx : Int) (os fs gs : List E) : Ob := .box [num k, num mn, num mx, .own p 9 os, .own q 27 fs, .own r 81 gs]
abbrev tyH (s : List UInt8) (p : Int) (k : Int) (os gs : List E) : Heap := [scnO s p, boxT 3 4 5 0 0 0 [] [] [], boxT 6 7 8 k 0 0 os [] gs, .vec 9 0, .vec 27 0, .vec 81 0, .vec 9 os.length, .vec 27 0, .vec 81 gs.length]
abbrev enF : Fr := (((List.replicate 90 AV.undef).set 0 (.ptr 0 0)).set 4 (.ptr 1 0)).set 5 (.ptr 2 0)
def enO (s : List UInt8) (os : List E) (l : List UInt8) : Out := { ex := .exit 1, fr := [.ptr 0 0, AV.undef, AV.undef, AV.undef, .ptr 1 0, .ptr 2 0] ++ List.replicate 84 AV.undef, hp := tyH s (pos s l) 4 os [], df := [] }

theorem enum_loop {s : List UInt8} (hs : s.length ≤ 100000) : ∀ (n : Nat) (l : List UInt8) (acc : List E), l.length < n → l <:+ s → acc.length + n ≤ 200000 →
    ReadsO 90 (LL 88 1 lc_88_19 enF (tyH s (pos s l) 4 acc [])) s (enO s) (optsM n acc l) := by
  intro n
  induction n with
  | zero => intro l acc h; exact absurd h (by omega)
  | succ n ih =>
    intro l acc hn hl hacc
    refine readsO_of (eq_kindL19 RR LL s (pos s l) 0 0 0 [] [] [] 4 0 0 acc [] []) (condO (pos_ge hl) ?_)
    rw [pk_pos hl, show (((hd l).toNat : Int) == 124) = (hd l == 124) from u8_eq (b := 124)]
    unfold optsM
    by_cases h : hd l = 124
    · rw [if_pos h, h]
      obtain ⟨st1, st2⟩ := pos_step hl hs (by rw [h]; decide)
      have := drop_less (l := l) (by rw [h]; decide)
      rw [st1]
      refine condO' rfl (thenO (name_run hs st2) (fun a => okSt a) (fun v q => rfl) ?_)
      intro x l1 hx hl1
      have := (wordL_less hx).1
      refine condO ?_ (readsO_bind (ih l1 (acc ++ [E.str x]) (by omega) hl1 (by simp; omega)))
      show (decide (acc.length = acc.length) && decide ((acc.length + 1) * 16 ≤ 140737488355328)) = true
      simp; omega
    · rw [if_neg h, beq_false_of_ne h]
      exact condO rfl ⟨hl, rfl⟩

def recO (s : List UInt8) (gs : List E) (l : List UInt8) : Out :=
  { ex := .ret, fr := [AV.undef, AV.undef, AV.undef, AV.undef, .ptr 1 0] ++ List.replicate 34 AV.undef, hp := [scnO s (pos s l), boxT 2 3 4 6 0 0 [] [] gs, .vec 9 0, .vec 27 0, .vec 81 gs.length], df := [] }

theorem record_loop {s : List UInt8} {d : Nat} {t1 : Int} (hs : s.length ≤ 100000) (ht : IntKind.i64.wrap (t1 + 1) = 7 - (d : Int)) (hv : TRun d s) : ∀ (n : Nat) (l : List UInt8) (acc : List E), l.length < n → l <:+ s → acc.length + n ≤ 200000 →
    ReadsO 39 (LL 138 1 lc_138_5 (listF 39 t1) (tyH s (pos s l) 6 [] acc)) s (recO s) (recL (kindL 9 27 81 d) n acc l) := by
  intro n
  induction n with
  | zero => intro l acc h; exact absurd h (by omega)
  | succ n ih =>
    intro l acc hn hl hacc
    refine readsO_of (eq_recordL5 RR LL s (pos s l) t1 0 0 0 [] [] [] 6 0 0 [] [] acc) ?_
    rw [ht]
    unfold recL
    refine thenO (name_run hs hl) (fun a => okSt a) (fun v q => rfl) ?_
    intro x l1 hx hl1
    have hx1 := (wordL_less hx).1
    refine condO (pos_ge hl1) ?_
    show ReadsO 39 (bif !(pk s (pos s l1) == 63) then _ else _) s _ _
    rw [pk_pos hl1, show (((hd l1).toNat : Int) == 63) = (hd l1 == 63) from u8_eq (b := 63)]
    have hcase : (hd l1 = 63 ∧ markL l1 = true ∧ dropM l1 = l1.drop 1) ∨ (hd l1 ≠ 63 ∧ markL l1 = false ∧ dropM l1 = l1) := by
      unfold dropM markL
      by_cases h : hd l1 = 63
      · rw [h]; exact .inl ⟨rfl, rfl, rfl⟩
      · rw [beq_false_of_ne h]; exact .inr ⟨h, rfl, rfl⟩
    rcases hcase with ⟨h63, hm, hd'⟩ | ⟨h63, hm, hd'⟩
    · obtain ⟨st1, st2⟩ := pos_step hl1 hs (by rw [h63]; decide)
      have hl2 : (l1.drop 1).length ≤ l1.length := by rw [List.length_drop]; omega
      rw [hm, hd', h63]
      refine condO' rfl ?_
      show ReadsO 39 ((RR none 133 [.ptr 0 0, str [58, 32]] (scn s (IntKind.i64.wrap (pos s l1 + 1)))).bind _) s _ _
      rw [st1]
      generalize l1.drop 1 = l2 at st2 hl2
      refine thenO (needL_run hs st2) (fun a => rfl) (fun v q => rfl) ?_
      intro _ l3 h3 hl3
      have t3 := tail_le (needL_tail [58, 32] l2) h3
      refine thenO (hv l3 hl3) (fun a => okTy26 ..) (fun v q => rfl) ?_
      intro y l4 hy hl4
      have t4 := tail_le (kindL_tail 9 27 81 d l3) hy
      obtain ⟨k, mn, mx, os, fs, gs, rfl⟩ := kindL_part hy
      rw [elemF]
      refine condO ?_ (condO (pos_ge hl4) ?_)
      · show (decide (acc.length = acc.length) && decide ((acc.length + 1) * 120 ≤ 140737488355328)) = true
        simp; omega
      show ReadsO 39 (bif !(pk s (pos s l4) == 44) then _ else _) s _ _
      rw [pk_pos hl4, show (((hd l4).toNat : Int) == 44) = (hd l4 == 44) from u8_eq (b := 44)]
      by_cases h44 : hd l4 = 44
      · rw [if_pos h44, h44]
        obtain ⟨st3, st4⟩ := pos_step hl4 hs (by rw [h44]; decide)
        have := drop_less (l := l4) (by rw [h44]; decide)
        refine condO' rfl ?_
        show ReadsO 39 ((RR none 133 [.ptr 0 0, str [32]] (scn s (IntKind.i64.wrap (pos s l4 + 1)))).bind _) s _ _
        rw [st3]
        refine thenO (needL_run hs st4) (fun a => rfl) (fun v q => rfl) ?_
        intro _ l5 h5 hl5
        have t5 := tail_le (needL_tail [32] (l4.drop 1)) h5
        exact readsO_bind (ih l5 _ (by omega) hl5 (by simp; omega))
      · rw [if_neg h44, beq_false_of_ne h44]
        refine condO rfl (thenO (needL_run hs hl4) (fun a => rfl) (fun v q => rfl) ?_)
        intro _ l5 h5 hl5
        exact ⟨hl5, rfl⟩
    · rw [hm, hd', beq_false_of_ne h63]
      refine condO rfl ?_
      have hl2 : l1.length ≤ l1.length := Nat.le_refl _
      refine thenO (needL_run hs hl1) (fun a => rfl) (fun v q => rfl) ?_
      intro _ l3 h3 hl3
      have t3 := tail_le (needL_tail [58, 32] l1) h3
      refine thenO (hv l3 hl3) (fun a => okTy26 ..) (fun v q => rfl) ?_
      intro y l4 hy hl4
      have t4 := tail_le (kindL_tail 9 27 81 d l3) hy
      obtain ⟨k, mn, mx, os, fs, gs, rfl⟩ := kindL_part hy
      rw [elemF]
      refine condO ?_ (condO (pos_ge hl4) ?_)
      · show (decide (acc.length = acc.length) && decide ((acc.length + 1) * 120 ≤ 140737488355328)) = true
        simp; omega
      show ReadsO 39 (bif !(pk s (pos s l4) == 44) then _ else _) s _ _
      rw [pk_pos hl4, show (((hd l4).toNat : Int) == 44) = (hd l4 == 44) from u8_eq (b := 44)]
      by_cases h44 : hd l4 = 44
      · rw [if_pos h44, h44]
        obtain ⟨st3, st4⟩ := pos_step hl4 hs (by rw [h44]; decide)
        have := drop_less (l := l4) (by rw [h44]; decide)
        refine condO' rfl ?_
        show ReadsO 39 ((RR none 133 [.ptr 0 0, str [32]] (scn s (IntKind.i64.wrap (pos s l4 + 1)))).bind _) s _ _
        rw [st3]
        refine thenO (needL_run hs st4) (fun a => rfl) (fun v q => rfl) ?_
        intro _ l5 h5 hl5
        have t5 := tail_le (needL_tail [32] (l4.drop 1)) h5
        exact readsO_bind (ih l5 _ (by omega) hl5 (by simp; omega))
      · rw [if_neg h44, beq_false_of_ne h44]
        refine condO rfl (thenO (needL_run hs hl4) (fun a => rfl) (fun v q => rfl) ?_)
        intro _ l5 h5 hl5
        exact ⟨hl5, rfl⟩

theorem record_run {s l : List UInt8} {d : Nat} {t1 : Int} (hs : s.length ≤ 100000) (ht : IntKind.i64.wrap (t1 + 1) = 7 - (d : Int)) (hv : TRun d s) (hl : l <:+ s) (h123 : hd l = 123) :
    Reads (RR none 138 [.ptr 0 0, num t1] (scn s (pos s l))) s slotsT
      (if hd (l.drop 1) = 125 then .ok (mkT 9 27 81 6 0 0 [] [] []) ((l.drop 1).drop 1) else (recL (kindL 9 27 81 d) (l.drop 1).length.succ [] (l.drop 1)).andThen fun fs l => .ok (mkT 9 27 81 6 0 0 [] [] fs) l) := by
  have e0 : (if hd (l.drop 1) = 125 then PR.ok (mkT 9 27 81 6 0 0 [] [] []) ((l.drop 1).drop 1) else (recL (kindL 9 27 81 d) (l.drop 1).length.succ [] (l.drop 1)).andThen fun fs l => .ok (mkT 9 27 81 6 0 0 [] [] fs) l) =
      (needL [123] l).andThen fun _ l => (if hd l = 125 then PR.ok (mkT 9 27 81 6 0 0 [] [] []) (l.drop 1) else (recL (kindL 9 27 81 d) l.length.succ [] l).andThen fun fs l => .ok (mkT 9 27 81 6 0 0 [] [] fs) l) := by
    unfold needL
    rw [if_pos h123]; rfl
  rw [e0]
  refine reads_of (eq_record RR LL s (pos s l) t1) (thenR (needL_run hs hl) (fun a => rfl) (fun v q => rfl) ?_)
  intro _ l1 h1 hl1
  have hlen := hl1.length_le
  refine condR (pos_ge hl1) ?_
  show Reads (bif !(pk s (pos s l1) == 125) then _ else _) s slotsT _
  rw [pk_pos hl1, show (((hd l1).toNat : Int) == 125) = (hd l1 == 125) from u8_eq (b := 125)]
  by_cases h125 : hd l1 = 125
  · rw [if_pos h125, h125]
    obtain ⟨st1, st2⟩ := pos_step hl1 hs (by rw [h125]; decide)
    refine condR' rfl ⟨st2, ?_⟩
    show some (Res.ret (.agg [num 6, num 0, num 0, .e (.sl 9 []), .e (.sl 27 []), .e (.sl 81 [])]), scn s (IntKind.i64.wrap (pos s l1 + 1))) = _
    rw [st1]; rfl
  · rw [if_neg h125, beq_false_of_ne h125]
    refine condR rfl ?_
    have e := record_loop hs ht hv l1.length.succ l1 [] (by omega) hl1 (by simp; omega)
    cases hq : recL (kindL 9 27 81 d) l1.length.succ [] l1 with
    | ok x r =>
      rw [hq] at e
      exact ⟨e.1, bind_run e.2 (cond_run rfl (cond_run (by kernel_rfl) rfl))⟩
    | err c r =>
      rw [hq] at e
      obtain ⟨e1, q, e2⟩ := e
      exact ⟨e1, q, bind_run e2 (cond_not rfl (cond_run rfl (cond_run rfl rfl)))⟩

end Go.Proofs.YtghdhhmlmdohkaaGreatDoor
