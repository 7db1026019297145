/- The program's scanner: values. -/
import Derived.Test.YtghdhhmlmdohkaaGreatDoorKb
import Derived.Test.YtghdhhmlmdohkaaGreatDoorSp1
namespace Go.Proofs.YtghdhhmlmdohkaaGreatDoor
open Go Go.Den
set_option maxRecDepth 100000

/-- A value as its parts. -/
def PartV (y : E) : Prop := ∃ k n x ns vs, y = mkV 9 39 k n x ns vs
theorem valL_part {d : Nat} {l r : List UInt8} {y : E} (h : valL 9 39 d l = .ok y r) : PartV y := by
  cases d with
  | zero => cases h
  | succ d =>
    unfold valL at h
    split at h
    · obtain ⟨_, _, _, h⟩ := PR.then_ok h; injection h with h; exact ⟨_, _, _, _, _, h.symm⟩
    split at h
    · obtain ⟨_, _, _, h⟩ := PR.then_ok h; injection h with h; exact ⟨_, _, _, _, _, h.symm⟩
    split at h
    · obtain ⟨_, _, _, h⟩ := PR.then_ok h; injection h with h; exact ⟨_, _, _, _, _, h.symm⟩
    split at h
    · obtain ⟨_, _, _, h⟩ := PR.then_ok h; injection h with h; exact ⟨_, _, _, _, _, h.symm⟩
    split at h
    · split at h
      · injection h with h; exact ⟨_, _, _, _, _, h.symm⟩
      · obtain ⟨_, _, _, h⟩ := PR.then_ok h; injection h with h; exact ⟨_, _, _, _, _, h.symm⟩
    split at h
    · split at h
      · injection h with h; exact ⟨_, _, _, _, _, h.symm⟩
      · obtain ⟨_, _, _, h⟩ := PR.then_ok h; injection h with h; exact ⟨_, _, _, _, _, h.symm⟩
    · cases h

theorem elemV (a b : Int) (c : List UInt8) (d e : List E) : elems PP 39 5 1 [E.sl 39 e, E.sl 9 d, E.str c, E.int .i64 b, E.int .i64 a].reverse = [mkV 9 39 a b c d e] := by kernel_rfl
theorem okV38 (a b : Int) (c : List UInt8) (d e : List E) : okRes PP 39 (.ret (.agg [num a, num b, str c, .e (.sl 9 d), .e (.sl 39 e)])) = true := by kernel_rfl

/-- A value's run is right at every depth above. -/
abbrev VRun (d : Nat) (s : List UInt8) : Prop := ∀ l, l <:+ s → Reads (RR none 103 [.ptr 0 0, num (7 - (d : Int))] (scn s (pos s l))) s slotsV (valL 9 39 d l)

abbrev boxV (p q : Nat) (k n : Int) (x : List UInt8) (ns vs : List E) : Ob := .box [num k, num n, str x, .own p 9 ns, .own q 39 vs]
abbrev listH (s : List UInt8) (p : Int) (k : Int) (ns vs : List E) : Heap := [scnO s p, boxV 3 4 0 0 [] [] [], boxV 5 6 k 0 [] ns vs, .vec 9 0, .vec 39 0, .vec 9 ns.length, .vec 39 vs.length]
abbrev listF (n : Nat) (t1 : Int) : Fr := ((((List.replicate n AV.undef).set 0 (.ptr 0 0)).set 1 (.e (.int .i64 t1))).set 4 (.ptr 1 0)).set 5 (.ptr 2 0)
def listO (n : Nat) (s : List UInt8) (k : Int) (q : List E × List E) (l : List UInt8) : Out :=
  { ex := .ret, fr := [AV.undef, AV.undef, AV.undef, AV.undef, .ptr 1 0] ++ List.replicate n AV.undef, hp := [scnO s (pos s l), boxV 2 3 k 0 [] q.1 q.2, .vec 9 q.1.length, .vec 39 q.2.length], df := [] }


theorem list_loop {s : List UInt8} {d : Nat} {t1 : Int} (hs : s.length ≤ 100000) (ht : IntKind.i64.wrap (t1 + 1) = 7 - (d : Int)) (hv : VRun d s) : ∀ (n : Nat) (l : List UInt8) (acc : List E), l.length < n → l <:+ s → acc.length + n ≤ 200000 →
    ReadsO 27 (LL 146 1 lc_146_5 (listF 27 t1) (listH s (pos s l) 5 [] acc)) s (fun vs => listO 22 s 5 ([], vs)) (elsL (valL 9 39 d) n acc l) := by
  intro n
  induction n with
  | zero => intro l acc h; exact absurd h (by omega)
  | succ n ih =>
    intro l acc hn hl hacc
    refine readsO_of (eq_listL5 RR LL s (pos s l) t1 0 0 [] [] [] 5 0 [] [] acc) ?_
    rw [ht]
    unfold elsL
    refine thenO (hv l hl) (fun a => okV38 ..) (fun v q => rfl) ?_
    intro y l1 hy hl1
    have htail : l1 <:+ l := by have := valL_tail 9 39 d l; rw [hy] at this; exact this
    obtain ⟨a, b, c, ns, vs, rfl⟩ := valL_part hy
    have hle := htail.length_le
    -- the value behind the others
    show ReadsO 27 (bif decide (acc.length = acc.length) && decide ((acc.length + ((39, elems PP 39 5 1 [E.sl 39 vs, E.sl 9 ns, E.str c, E.int .i64 b, E.int .i64 a].reverse) : TypeId × List E).snd.length) * 80 ≤ 140737488355328) then
      bif decide (0 ≤ pos s l1) then bif !(pk s (pos s l1) == 44) then
        (RR none 133 [.ptr 0 0, str [93]] (scn s (pos s l1))).bind fun rh_1 => bif okHeap (scn s (pos s l1)) rh_1.2 then bif rh_1.1.isPan then some { ex := .pan rh_1.1.why, fr := List.replicate 27 AV.undef, hp := scn (((rh_1.2.ob 0).cell 0).data.toStr) (((rh_1.2.ob 0).cell 1).data.toInt), df := [] } else bif okRes PP 0 rh_1.1 then
          some { ex := .ret, fr := [AV.undef, AV.undef, AV.undef, AV.undef, .ptr 1 0] ++ List.replicate 22 AV.undef, hp := [scnO (((rh_1.2.ob 0).cell 0).data.toStr) (((rh_1.2.ob 0).cell 1).data.toInt), boxV 2 3 5 0 [] [] (acc ++ ((39, elems PP 39 5 1 [E.sl 39 vs, E.sl 9 ns, E.str c, E.int .i64 b, E.int .i64 a].reverse) : TypeId × List E).snd), .vec 9 0, .vec 39 (acc ++ ((39, elems PP 39 5 1 [E.sl 39 vs, E.sl 9 ns, E.str c, E.int .i64 b, E.int .i64 a].reverse) : TypeId × List E).snd).length], df := [] } else none else none
      else (LL 146 1 lc_146_5 (listF 27 t1) (listH s (IntKind.i64.wrap (pos s l1 + 1)) 5 [] (acc ++ ((39, elems PP 39 5 1 [E.sl 39 vs, E.sl 9 ns, E.str c, E.int .i64 b, E.int .i64 a].reverse) : TypeId × List E).snd))).bind fun o => some o
      else none else none) s _ _
    rw [elemV]
    refine condO ?_ (condO (pos_ge hl1) ?_)
    · simp; omega
    rw [pk_pos hl1, show (((hd l1).toNat : Int) == 44) = (hd l1 == 44) from u8_eq (b := 44)]
    by_cases h44 : hd l1 = 44
    · rw [if_pos h44, h44]
      obtain ⟨st1, st2⟩ := pos_step hl1 hs (by rw [h44]; decide)
      have := drop_less (l := l1) (by rw [h44]; decide)
      rw [st1]
      exact condO' rfl (readsO_bind (ih (l1.drop 1) _ (by omega) st2 (by simp; omega)))
    · rw [if_neg h44, beq_false_of_ne h44]
      refine condO rfl ?_
      refine thenO (needL_run hs hl1) (fun a => rfl) (fun v q => rfl) ?_
      intro _ l2 h2 hl2
      exact ⟨hl2, rfl⟩

theorem list_run {s l : List UInt8} {d : Nat} {t1 : Int} (hs : s.length ≤ 100000) (ht : IntKind.i64.wrap (t1 + 1) = 7 - (d : Int)) (hv : VRun d s) (hl : l <:+ s) (h91 : hd l = 91) :
    Reads (RR none 146 [.ptr 0 0, num t1] (scn s (pos s l))) s slotsV
      (if hd (l.drop 1) = 93 then .ok (mkV 9 39 5 0 [] [] []) ((l.drop 1).drop 1) else (elsL (valL 9 39 d) (l.drop 1).length.succ [] (l.drop 1)).andThen fun vs l => .ok (mkV 9 39 5 0 [] [] vs) l) := by
  have e0 : (if hd (l.drop 1) = 93 then PR.ok (mkV 9 39 5 0 [] [] []) ((l.drop 1).drop 1) else (elsL (valL 9 39 d) (l.drop 1).length.succ [] (l.drop 1)).andThen fun vs l => .ok (mkV 9 39 5 0 [] [] vs) l) =
      (needL [91] l).andThen fun _ l => (if hd l = 93 then PR.ok (mkV 9 39 5 0 [] [] []) (l.drop 1) else (elsL (valL 9 39 d) l.length.succ [] l).andThen fun vs l => .ok (mkV 9 39 5 0 [] [] vs) l) := by
    unfold needL
    rw [if_pos h91]; rfl
  rw [e0]
  refine reads_of (eq_list RR LL s (pos s l) t1) (thenR (needL_run hs hl) (fun a => rfl) (fun v q => rfl) ?_)
  intro _ l1 h1 hl1
  have hlen := hl1.length_le
  show Reads (bif decide (0 ≤ pos s l1) then bif !(pk s (pos s l1) == 93) then _ else _ else none) s slotsV _
  refine condR (pos_ge hl1) ?_
  rw [pk_pos hl1, show (((hd l1).toNat : Int) == 93) = (hd l1 == 93) from u8_eq (b := 93)]
  by_cases h93 : hd l1 = 93
  · rw [if_pos h93, h93]
    obtain ⟨st1, st2⟩ := pos_step hl1 hs (by rw [h93]; decide)
    refine condR' rfl ⟨st2, ?_⟩
    show some (Res.ret (.agg [num 5, num 0, str [], .e (.sl 9 []), .e (.sl 39 [])]), scn s (IntKind.i64.wrap (pos s l1 + 1))) = _
    rw [st1]; rfl
  · rw [if_neg h93, beq_false_of_ne h93]
    refine condR rfl ?_
    have e := list_loop hs ht hv l1.length.succ l1 [] (by omega) hl1 (by simp; omega)
    cases hq : elsL (valL 9 39 d) l1.length.succ [] l1 with
    | ok x r =>
      rw [hq] at e
      exact ⟨e.1, bind_run e.2 (cond_run rfl (cond_run (by kernel_rfl) rfl))⟩
    | err c r =>
      rw [hq] at e
      obtain ⟨e1, q, e2⟩ := e
      exact ⟨e1, q, bind_run e2 (cond_not rfl (cond_run rfl (cond_run rfl rfl)))⟩

/-! ### named -/

theorem late_int {ns : List E} {x : List UInt8} {α : Type} (hl : ns.length ≤ 200000) (A B C : α) :
    (bif decide ((0 : Int) < (ns.length : Int)) == true then
      (bif decide (0 ≤ IntKind.i64.wrap ((ns.length : Int) - 1)) && decide (IntKind.i64.wrap ((ns.length : Int) - 1) < (ns.length : Int)) then
        (bif Op.bytesLess x ((ns.getD (IntKind.i64.wrap ((ns.length : Int) - 1)).toNat .nili).cell 0).toStr || strEq x ((ns.getD (IntKind.i64.wrap ((ns.length : Int) - 1)).toNat .nili).cell 0).toStr then A else B) else C) else B) = bif lateB ns x then A else B := by
  unfold lateB
  by_cases h : 0 < ns.length
  · rw [wrap_in (by omega) (by omega), dec_yes (show (0 : Int) < (ns.length : Int) by omega), dec_yes (show 0 ≤ (ns.length : Int) - 1 by omega), dec_yes (show (ns.length : Int) - 1 < (ns.length : Int) by omega), decide_eq_true h]
    rw [show ((ns.length : Int) - 1).toNat = ns.length - 1 by omega]
    rfl
  · rw [dec_no (show ¬ (0 : Int) < (ns.length : Int) by omega), decide_eq_false h]
    rfl

theorem pnamed_loop {s : List UInt8} {d : Nat} {t1 : Int} (hs : s.length ≤ 100000) (ht : IntKind.i64.wrap (t1 + 1) = 7 - (d : Int)) (hv : VRun d s) : ∀ (n : Nat) (l : List UInt8) (ns acc : List E), l.length < n → l <:+ s → acc.length + n ≤ 200000 → ns.length = acc.length →
    ReadsO 66 (LL 147 1 lc_147_5 (listF 66 t1) (listH s (pos s l) 6 ns acc)) s (listO 61 s 6) (entL (valL 9 39 d) n ns acc l) := by
  intro n
  induction n with
  | zero => intro l ns acc h; exact absurd h (by omega)
  | succ n ih =>
    intro l ns acc hn hl hacc hna
    refine readsO_of (eq_pnamedL5 RR LL s (pos s l) t1 0 0 [] [] [] 6 0 [] ns acc) ?_
    rw [ht]
    unfold entL
    refine thenO (name_run hs hl) (fun a => rfl) (fun v q => rfl) ?_
    intro x l1 hx hl1
    have hle := (wordL_less hx).1
    by_cases h16 : 16 < x.length
    · rw [if_pos h16]
      exact condO (dec_yes (by show (16 : Int) < (x.length : Int); omega)) ⟨hl, _, rfl⟩
    rw [if_neg h16]
    refine condO' (dec_no (by show ¬ (16 : Int) < (x.length : Int); omega)) ?_
    refine Eq.mpr (congrArg (fun z => ReadsO 66 z s (listO 61 s 6) _) (late_int (ns := ns) (x := x) (by omega) _ _ _)) ?_
    by_cases hlate : lateB ns x = true
    · rw [if_pos hlate]
      exact condO hlate ⟨hl, _, rfl⟩
    rw [if_neg hlate]
    refine condO' (Bool.eq_false_iff.2 hlate) ?_
    refine thenO (needL_run hs hl1) (fun a => rfl) (fun v q => rfl) ?_
    intro _ l2 h2 hl2
    have hle2 : l2.length ≤ l1.length := by have := needL_tail [58] l1; rw [h2] at this; exact (show l2 <:+ l1 from this).length_le
    refine condO ?_ ?_
    · show (decide (ns.length = ns.length) && decide ((ns.length + 1) * 16 ≤ 140737488355328)) = true
      simp; omega
    refine thenO (hv l2 hl2) (fun a => okV38 ..) (fun v q => rfl) ?_
    intro y l3 hy hl3
    have htail : l3 <:+ l2 := by have := valL_tail 9 39 d l2; rw [hy] at this; exact this
    obtain ⟨a, b, c, ns', vs, rfl⟩ := valL_part hy
    have hle3 := htail.length_le
    show ReadsO 66 (bif decide (acc.length = acc.length) && decide ((acc.length + ((39, elems PP 39 5 1 [E.sl 39 vs, E.sl 9 ns', E.str c, E.int .i64 b, E.int .i64 a].reverse) : TypeId × List E).snd.length) * 80 ≤ 140737488355328) then
      bif decide (0 ≤ pos s l3) then bif !(pk s (pos s l3) == 44) then
        (RR none 133 [.ptr 0 0, str [125]] (scn s (pos s l3))).bind fun rh_1 => bif okHeap (scn s (pos s l3)) rh_1.2 then bif rh_1.1.isPan then some { ex := .pan rh_1.1.why, fr := List.replicate 66 AV.undef, hp := scn (((rh_1.2.ob 0).cell 0).data.toStr) (((rh_1.2.ob 0).cell 1).data.toInt), df := [] } else bif okRes PP 0 rh_1.1 then
          some { ex := .ret, fr := [AV.undef, AV.undef, AV.undef, AV.undef, .ptr 1 0] ++ List.replicate 61 AV.undef, hp := [scnO (((rh_1.2.ob 0).cell 0).data.toStr) (((rh_1.2.ob 0).cell 1).data.toInt), boxV 2 3 6 0 [] (ns ++ [E.str x]) (acc ++ ((39, elems PP 39 5 1 [E.sl 39 vs, E.sl 9 ns', E.str c, E.int .i64 b, E.int .i64 a].reverse) : TypeId × List E).snd), .vec 9 (ns ++ [E.str x]).length, .vec 39 (acc ++ ((39, elems PP 39 5 1 [E.sl 39 vs, E.sl 9 ns', E.str c, E.int .i64 b, E.int .i64 a].reverse) : TypeId × List E).snd).length], df := [] } else none else none
      else (LL 147 1 lc_147_5 (listF 66 t1) (listH s (IntKind.i64.wrap (pos s l3 + 1)) 6 (ns ++ [E.str x]) (acc ++ ((39, elems PP 39 5 1 [E.sl 39 vs, E.sl 9 ns', E.str c, E.int .i64 b, E.int .i64 a].reverse) : TypeId × List E).snd))).bind fun o => some o
      else none else none) s _ _
    rw [elemV]
    refine condO ?_ (condO (pos_ge hl3) ?_)
    · simp; omega
    rw [pk_pos hl3, show (((hd l3).toNat : Int) == 44) = (hd l3 == 44) from u8_eq (b := 44)]
    by_cases h44 : hd l3 = 44
    · rw [if_pos h44, h44]
      obtain ⟨st1, st2⟩ := pos_step hl3 hs (by rw [h44]; decide)
      have := drop_less (l := l3) (by rw [h44]; decide)
      rw [st1]
      exact condO' rfl (readsO_bind (ih (l3.drop 1) _ _ (by omega) st2 (by simp; omega) (by simp; omega)))
    · rw [if_neg h44, beq_false_of_ne h44]
      refine condO rfl ?_
      refine thenO (needL_run hs hl3) (fun a => rfl) (fun v q => rfl) ?_
      intro _ l4 h4 hl4
      exact ⟨hl4, rfl⟩

theorem pnamed_run {s l : List UInt8} {d : Nat} {t1 : Int} (hs : s.length ≤ 100000) (ht : IntKind.i64.wrap (t1 + 1) = 7 - (d : Int)) (hv : VRun d s) (hl : l <:+ s) (h123 : hd l = 123) :
    Reads (RR none 147 [.ptr 0 0, num t1] (scn s (pos s l))) s slotsV
      (if hd (l.drop 1) = 125 then .ok (mkV 9 39 6 0 [] [] []) ((l.drop 1).drop 1) else (entL (valL 9 39 d) (l.drop 1).length.succ [] [] (l.drop 1)).andThen fun q l => .ok (mkV 9 39 6 0 [] q.1 q.2) l) := by
  have e0 : (if hd (l.drop 1) = 125 then PR.ok (mkV 9 39 6 0 [] [] []) ((l.drop 1).drop 1) else (entL (valL 9 39 d) (l.drop 1).length.succ [] [] (l.drop 1)).andThen fun q l => .ok (mkV 9 39 6 0 [] q.1 q.2) l) =
      (needL [123] l).andThen fun _ l => (if hd l = 125 then PR.ok (mkV 9 39 6 0 [] [] []) (l.drop 1) else (entL (valL 9 39 d) l.length.succ [] [] l).andThen fun q l => .ok (mkV 9 39 6 0 [] q.1 q.2) l) := by
    unfold needL
    rw [if_pos h123]; rfl
  rw [e0]
  refine reads_of (eq_pnamed RR LL s (pos s l) t1) (thenR (needL_run hs hl) (fun a => rfl) (fun v q => rfl) ?_)
  intro _ l1 h1 hl1
  have hlen := hl1.length_le
  show Reads (bif decide (0 ≤ pos s l1) then bif !(pk s (pos s l1) == 125) then _ else _ else none) s slotsV _
  refine condR (pos_ge hl1) ?_
  rw [pk_pos hl1, show (((hd l1).toNat : Int) == 125) = (hd l1 == 125) from u8_eq (b := 125)]
  by_cases h125 : hd l1 = 125
  · rw [if_pos h125, h125]
    obtain ⟨st1, st2⟩ := pos_step hl1 hs (by rw [h125]; decide)
    refine condR' rfl ⟨st2, ?_⟩
    show some (Res.ret (.agg [num 6, num 0, str [], .e (.sl 9 []), .e (.sl 39 [])]), scn s (IntKind.i64.wrap (pos s l1 + 1))) = _
    rw [st1]; rfl
  · rw [if_neg h125, beq_false_of_ne h125]
    refine condR rfl ?_
    have e := pnamed_loop hs ht hv l1.length.succ l1 [] [] (by omega) hl1 (by simp; omega) rfl
    cases hq : entL (valL 9 39 d) l1.length.succ [] [] l1 with
    | ok x r =>
      rw [hq] at e
      exact ⟨e.1, bind_run e.2 (cond_run rfl (cond_run (by kernel_rfl) rfl))⟩
    | err c r =>
      rw [hq] at e
      obtain ⟨e1, q, e2⟩ := e
      exact ⟨e1, q, bind_run e2 (cond_not rfl (cond_run rfl (cond_run rfl rfl)))⟩

/-! ### value -/

theorem dig_step {α : Type} (c : UInt8) (A B : α) :
    (bif ((c.toNat : Int) == 45) == false then (bif decide ((48 : Int) ≤ (c.toNat : Int)) == true then (bif decide ((c.toNat : Int) ≤ 57) then A else B) else B) else A) = bif (c == 45 || digC c) then A else B := by
  have e1 := le_int 48 c
  have e2 := le_int c 57
  have e3 : ((c.toNat : Int) == 45) = (c == 45) := u8_eq (b := 45)
  change decide ((48 : Int) ≤ (c.toNat : Int)) = _ at e1
  change decide ((c.toNat : Int) ≤ 57) = _ at e2
  rw [e1, e2, e3]
  unfold digC
  cases decide (48 ≤ c) <;> cases decide (c ≤ 57) <;> cases (c == 45) <;> rfl

theorem value_run {s : List UInt8} (hs : s.length ≤ 100000) : ∀ (d : Nat), d ≤ 7 → VRun d s := by
  intro d
  induction d with
  | zero =>
    intro _ l hl
    exact reads_of (eq_value RR LL s (pos s l) (7 - ((0 : Nat) : Int))) (condR rfl ⟨hl, _, rfl⟩)
  | succ d ih =>
    intro hd7 l hl
    have ih := ih (by omega)
    have ht : IntKind.i64.wrap ((7 - ((d + 1 : Nat) : Int)) + 1) = 7 - (d : Int) := by rw [wrap_in (by omega) (by omega)]; omega
    generalize hg : (7 - ((d + 1 : Nat) : Int)) = t1 at ht
    refine reads_of (eq_value RR LL s (pos s l) t1) (condR' (dec_no (by omega)) (condR (pos_ge hl) ?_))
    rw [pk_pos hl]
    refine Eq.mpr (congrArg (fun z => Reads z s slotsV _) (dig_step (hd l) _ _)) ?_
    unfold valL
    by_cases hn : hd l = 45 ∨ digC (hd l) = true
    · rw [if_pos hn]
      refine condR (by rcases hn with h | h; rw [h]; rfl; rw [h]; simp) ?_
      refine thenR (number_run hs hl) (fun a => rfl) (fun v q => rfl) ?_
      intro n l1 h1 hl1
      exact ⟨hl1, rfl⟩
    rw [if_neg hn]
    refine condR' (by
      have h1 : hd l ≠ 45 := fun h => hn (.inl h)
      have h2 : digC (hd l) = false := Bool.eq_false_iff.2 (fun h => hn (.inr h))
      rw [beq_false_of_ne h1, h2]; rfl) ?_
    have eqb : ∀ b : UInt8, (((hd l).toNat : Int) == (b.toNat : Int)) = (hd l == b) := fun b => u8_eq
    have e102 := eqb 102
    have e116 := eqb 116
    have e34 := eqb 34
    have e91 := eqb 91
    have e123 := eqb 123
    change (((hd l).toNat : Int) == 102) = _ at e102
    change (((hd l).toNat : Int) == 116) = _ at e116
    change (((hd l).toNat : Int) == 34) = _ at e34
    change (((hd l).toNat : Int) == 91) = _ at e91
    change (((hd l).toNat : Int) == 123) = _ at e123
    rw [e102, e116, e34, e91, e123]
    by_cases h102 : hd l = 102
    · rw [if_pos h102]
      refine condR (by rw [h102]; rfl) (thenR (needL_run hs hl) (fun a => rfl) (fun v q => rfl) ?_)
      intro _ l1 h1 hl1
      exact ⟨hl1, rfl⟩
    rw [if_neg h102]
    refine condR' (beq_false_of_ne h102) ?_
    by_cases h116 : hd l = 116
    · rw [if_pos h116]
      refine condR (by rw [h116]; rfl) (thenR (needL_run hs hl) (fun a => rfl) (fun v q => rfl) ?_)
      intro _ l1 h1 hl1
      exact ⟨hl1, rfl⟩
    rw [if_neg h116]
    refine condR' (beq_false_of_ne h116) ?_
    by_cases h34 : hd l = 34
    · rw [if_pos h34]
      refine condR (by rw [h34]; rfl) (thenR (quoted_run hs hl h34) (fun a => rfl) (fun v q => rfl) ?_)
      intro x l1 h1 hl1
      exact ⟨hl1, rfl⟩
    rw [if_neg h34]
    refine condR' (beq_false_of_ne h34) ?_
    have asis : ∀ pr : PR E, pr.andThen (fun y l => .ok y l) = pr := by intro pr; cases pr <;> rfl
    by_cases h91 : hd l = 91
    · rw [if_pos h91]
      have e := list_run hs ht ih hl h91
      rw [← asis (if hd (l.drop 1) = 93 then _ else _)]
      refine condR (by rw [h91]; rfl) (thenR e (fun a => okV38 ..) (fun v q => rfl) ?_)
      intro y l1 h1 hl1
      exact ⟨hl1, rfl⟩
    rw [if_neg h91]
    refine condR' (beq_false_of_ne h91) ?_
    by_cases h123 : hd l = 123
    · rw [if_pos h123]
      have e := pnamed_run hs ht ih hl h123
      rw [← asis (if hd (l.drop 1) = 125 then _ else _)]
      refine condR (by rw [h123]; rfl) (thenR e (fun a => okV38 ..) (fun v q => rfl) ?_)
      intro y l1 h1 hl1
      exact ⟨hl1, rfl⟩
    rw [if_neg h123]
    exact condR' (beq_false_of_ne h123) ⟨hl, _, rfl⟩

/-! ### payload, Value -/

def nilV : AV := .agg [num 0, num 0, str [], .e (.sl 9 []), .e (.sl 39 [])]
/-- What a text is as a value: the value; or a place and a fault. -/
def payS (s : List UInt8) : AV :=
  match valL 9 39 6 s with
  | .ok y l => if l = [] then .tup [slotsV y, num 0, num 0] else .tup [nilV, num (pos s l), num 2]
  | .err e l => .tup [nilV, num (pos s l), num e]

theorem pos_all (s : List UInt8) : pos s s = 0 := by unfold pos; omega
theorem rescue_no (p q : Int) : RR (some none) 87 [.ptr 0 0, .ptr 1 0] [.box [num p], .box [num q]] = some (.ret (.tup []), [.box [num p], .box [num q]]) := run_of_body (eq_rescueN RR LL p q)
theorem rescue_yes (p q a b : Int) : RR (some (some (flt a b))) 87 [.ptr 0 0, .ptr 1 0] [.box [num p], .box [num q]] = some (.rcv (.tup []), [.box [num a], .box [num b]]) := run_of_body (eq_rescueP RR LL p q a b)

theorem payload_run {s : List UInt8} (hs : s.length ≤ 100000) : RR none 54 [str s] [] = some (.ret (payS s), []) := by
  have e := value_run hs 6 (by omega) s List.suffix_rfl
  rw [pos_all] at e
  change Reads (RR none 103 [.ptr 0 0, num 1] (scn s 0)) s slotsV _ at e
  refine run_of_body ((eq_payload RR LL s).trans ?_)
  unfold payS
  cases hv : valL 9 39 6 s with
  | ok y l =>
    rw [hv] at e
    obtain ⟨h1, h2⟩ := e
    refine bind_run h2 (cond_run rfl (cond_not rfl (cond_run (okV38 ..) ?_)))
    dsimp only
    have hle := h1.length_le
    by_cases hl : l = []
    · rw [if_pos hl]
      refine cond_not ?_ (bind_run (rescue_no 0 0) (cond_run rfl (cond_run rfl rfl)))
      show (!(pos s l == (s.length : Int))) = false
      rw [hl, eq_beq (by unfold pos; simp)]; rfl
    · rw [if_neg hl]
      refine cond_run ?_ (bind_run (rescue_yes 0 0 (pos s l) 2) (cond_run rfl (cond_run rfl rfl)))
      show (!(pos s l == (s.length : Int))) = true
      have := List.length_pos_iff.2 hl
      rw [ne_beq (by unfold pos; omega)]; rfl
  | err c l =>
    rw [hv] at e
    obtain ⟨h1, q, h2⟩ := e
    exact bind_run h2 (cond_run rfl (cond_run rfl (bind_run (rescue_yes 0 0 (pos s l) c) (cond_run rfl (cond_run rfl rfl)))))

end Go.Proofs.YtghdhhmlmdohkaaGreatDoor
