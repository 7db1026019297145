/- The reference's reader: texts in quotes, lists. -/
import Derived.Test.YtghdhhmlmdohkaaGreatDoorRb
import Derived.Test.YtghdhhmlmdohkaaGreatDoorKd
namespace Go.Proofs.YtghdhhmlmdohkaaGreatDoor
open Go Go.Den
set_option maxRecDepth 100000

/-! ### quoted -/

abbrev rqH (s : List UInt8) (q x a : Int) (acc : List E) : Heap := [rdrO s q x a, .vec 5 acc.length]
abbrev rqF (acc : List E) : Fr := ((List.replicate 93 AV.undef).set 0 (.ptr 0 0)).set 3 (.own 1 5 acc)
def rqX (s : List UInt8) (q x a : Int) (acc : List E) : Out := { ex := .exit 0, fr := [.ptr 0 0, AV.undef, AV.undef, .own 1 5 acc] ++ List.replicate 89 AV.undef, hp := rqH s q x a acc, df := [] }
def rqR (s : List UInt8) (q x a : Int) : Out := { ex := .ret, fr := [AV.undef, AV.undef, str []] ++ List.replicate 90 AV.undef, hp := rdr s q x a, df := [] }
def rqOut (s : List UInt8) (x : Option Out) : PR (List UInt8) → Prop
  | .ok acc r => r <:+ s ∧ ∃ q, IntKind.i64.wrap (q + 1) = pos s r ∧ x = some (rqX s q 0 0 (bytesE acc))
  | .err e r => r <:+ s ∧ e ≠ 0 ∧ ((∃ q, x = some (rqR s q e (pos s r))) ∨ ∃ q acc, x = some (rqX s q e (pos s r) (bytesE acc)))

theorem rqOut_of {s : List UInt8} {f : FuncId} {m : Nat} {b : Code} {fr : Fr} {σ : Heap} {X : Option Out} {pr : PR (List UInt8)} (hb : bodyLoop PP HH RR LL f m b fr σ = X) (h : rqOut s X pr) : rqOut s (LL f m b fr σ) pr := by
  cases pr with
  | ok acc r => obtain ⟨h1, q, h2, h3⟩ := h; exact ⟨h1, q, h2, loop_of_body (hb.trans h3)⟩
  | err e r =>
    obtain ⟨h1, h2, h3⟩ := h
    refine ⟨h1, h2, ?_⟩
    rcases h3 with ⟨q, h3⟩ | ⟨q, acc, h3⟩
    · exact .inl ⟨q, loop_of_body (hb.trans h3)⟩
    · exact .inr ⟨q, acc, loop_of_body (hb.trans h3)⟩
theorem condQ {s : List UInt8} {pr : PR (List UInt8)} {b : Bool} {x y : Option Out} (hb : b = true) (h : rqOut s x pr) : rqOut s (bif b then x else y) pr := by rw [hb]; exact h
theorem condQ' {s : List UInt8} {pr : PR (List UInt8)} {b : Bool} {x y : Option Out} (hb : b = false) (h : rqOut s y pr) : rqOut s (bif b then x else y) pr := by rw [hb]; exact h
theorem rqOut_bind {s : List UInt8} {pr : PR (List UInt8)} {x : Option Out} (h : rqOut s x pr) : rqOut s (x.bind fun o => some o) pr := by
  have : (x.bind fun o => some o) = x := by cases x <;> rfl
  rw [this]; exact h
theorem rqOut_run {s : List UInt8} {pr : PR (List UInt8)} {x : Option (Res × Heap)} {r : Res × Heap} {K : Res × Heap → Option Out} (h : x = some r) (hK : rqOut s (K r) pr) : rqOut s (x.bind K) pr := by rw [h]; exact hK

theorem escL_less {l r : List UInt8} {c : UInt8} (h92 : hd l = 92) (h : escL l = .ok c r) : r.length < l.length := by
  have h0 := drop_less (l := l) (by rw [h92]; decide)
  unfold escL at h
  split at h
  · rename_i hc
    injection h with _ h
    have := drop_less (l := l.drop 1) (by rcases hc with hc | hc <;> rw [hc] <;> decide)
    rw [← h]; omega
  · obtain ⟨_, l1, e1, h⟩ := PR.then_ok h
    have t1 := tail_le (needL_tail [120] (l.drop 1)) e1
    obtain ⟨a, l2, e2, h⟩ := PR.then_ok h
    have t2 := (hexL_ok e2).2
    obtain ⟨b, l3, e3, h⟩ := PR.then_ok h
    have t3 := (hexL_ok e3).2
    split at h
    · cases h
    · injection h with _ h
      rw [← h]; omega

theorem rquoted_loop {s : List UInt8} (hs : s.length ≤ 100000) : ∀ (n : Nat) (l acc : List UInt8), l.length < n → l <:+ s → acc.length + l.length ≤ s.length →
    rqOut s (LL 149 1 lc_149_3 (rqF (bytesE acc)) (rqH s (pos s l) 0 0 (bytesE acc))) (quotL n acc l) := by
  intro n
  induction n with
  | zero => intro l acc h; exact absurd h (by omega)
  | succ n ih =>
    intro l acc hn hl hacc
    have hle := hl.length_le
    refine rqOut_of (eq_rquotedL3 RR LL s (pos s l) 0 0 (bytesE acc)) (condQ rfl (condQ (pos_ge hl) ?_))
    rw [is_at hl 34 34 rfl (by decide), is_at hl 92 92 rfl (by decide), at_pos hl]
    by_cases h34 : hd l = 34
    · obtain ⟨st1, st2⟩ := pos_step hl hs (by rw [h34]; decide)
      rw [quotL, if_pos h34]
      exact condQ' (by rw [h34]; rfl) ⟨st2, _, st1, rfl⟩
    refine condQ (by rw [beq_false_of_ne h34]; rfl) ?_
    by_cases hne : l = []
    · subst hne
      rw [quotL, if_neg h34, if_pos (.inl (by decide))]
      exact condQ' (by rw [dec_yes (by unfold pos; simp)]; rfl) ⟨hl, by decide, .inl ⟨_, rfl⟩⟩
    have h2 := List.length_pos_iff.2 hne
    refine condQ (by rw [dec_no (by unfold pos; omega)]; rfl) (condQ (in_pos hl hne) ?_)
    have e1 := lt_int (hd l) 32
    have e2 := lt_int 126 (hd l)
    change decide (((hd l).toNat : Int) < 32) = _ at e1
    change decide ((126 : Int) < ((hd l).toNat : Int)) = _ at e2
    rw [e1, e2]
    by_cases hlo : hd l < 32
    · rw [quotL, if_neg h34, if_pos (.inl hlo)]
      exact condQ' (by rw [decide_eq_true hlo]; rfl) ⟨hl, by decide, .inl ⟨_, rfl⟩⟩
    refine condQ (by rw [decide_eq_false hlo]; rfl) (condQ (in_pos hl hne) ?_)
    by_cases hhi : 126 < hd l
    · rw [quotL, if_neg h34, if_pos (.inr hhi)]
      exact condQ (decide_eq_true hhi) ⟨hl, by decide, .inl ⟨_, rfl⟩⟩
    have hnz : hd l ≠ 0 := fun e => hlo (by rw [e]; decide)
    refine condQ' (decide_eq_false hhi) (condQ (pos_ge hl) ?_)
    have size : (decide ((bytesE acc).length = (bytesE acc).length) && decide (((bytesE acc).length + 1) * 1 ≤ 140737488355328)) = true := by
      rw [bytesE_len]; simp; omega
    by_cases h92 : hd l = 92
    · rw [quotL_esc1 h92]
      refine condQ (by rw [h92]; rfl) ?_
      have e := esc_run hs hl h92
      cases hx : escL l with
      | err e' r =>
        rw [hx] at e
        obtain ⟨q1, q2, a, q, q3⟩ := e
        refine rqOut_run q3 (condQ rfl (condQ rfl (condQ size (rqOut_bind ?_))))
        show rqOut s (LL 149 1 lc_149_3 (rqF (bytesE acc ++ [.int .u8 (a.toNat : Int)])) (rqH s q e' (pos s r) (bytesE acc ++ [.int .u8 (a.toNat : Int)]))) _
        rw [bytesE_snoc]
        exact rqOut_of (eq_rquotedL3 RR LL s q e' (pos s r) (bytesE (acc ++ [a]))) (condQ' (by rw [beq_false_of_ne q2]; rfl) ⟨q1, q2, .inr ⟨q, _, rfl⟩⟩)
      | ok c r =>
        rw [hx] at e
        obtain ⟨q1, q3⟩ := e
        have hless := escL_less h92 hx
        refine rqOut_run q3 (condQ rfl (condQ rfl (condQ size (rqOut_bind ?_))))
        show rqOut s (LL 149 1 lc_149_3 (rqF (bytesE acc ++ [.int .u8 (c.toNat : Int)])) (rqH s (pos s r) 0 0 (bytesE acc ++ [.int .u8 (c.toNat : Int)]))) (quotL n (acc ++ [c]) r)
        rw [bytesE_snoc]
        exact ih r (acc ++ [c]) (by omega) q1 (by simp; omega)
    · obtain ⟨st1, st2⟩ := pos_step hl hs hnz
      have hless := drop_less hnz
      rw [quotL, if_neg h34, if_neg (fun h => h.elim hlo hhi), if_pos h92]
      refine condQ' (beq_false_of_ne h92) (condQ (in_pos hl hne) (condQ size (rqOut_bind ?_)))
      show rqOut s (LL 149 1 lc_149_3 (rqF (bytesE acc ++ [.int .u8 ((hd l).toNat : Int)])) (rqH s (IntKind.i64.wrap (pos s l + 1)) 0 0 (bytesE acc ++ [.int .u8 ((hd l).toNat : Int)]))) (quotL n (acc ++ [hd l]) (l.drop 1))
      rw [bytesE_snoc, st1]
      exact ih (l.drop 1) (acc ++ [hd l]) (by omega) st2 (by simp; omega)

theorem rquoted_run {s l : List UInt8} (hs : s.length ≤ 100000) (hl : l <:+ s) (h34 : hd l = 34) : ReadsF (RR none 149 [.ptr 0 0] (rdr s (pos s l) 0 0)) s str (quotL (l.drop 1).length.succ [] (l.drop 1)) := by
  obtain ⟨st1, st2⟩ := pos_step hl hs (by rw [h34]; decide)
  have e := rquoted_loop hs (l.drop 1).length.succ (l.drop 1) [] (by omega) st2 (by simpa using st2.length_le)
  refine readsF_of (eq_rquoted RR LL s (pos s l) 0 0) ?_
  rw [st1]
  cases hq : quotL (l.drop 1).length.succ [] (l.drop 1) with
  | ok acc r =>
    rw [hq] at e
    obtain ⟨q1, q, q2, q3⟩ := e
    refine bindF q3 (condF rfl (condF (by kernel_rfl) (condF (isByte_bytesE acc) ⟨q1, ?_⟩)))
    show some (Res.ret (str (unbytes (bytesE acc))), rdr s (IntKind.i64.wrap (q + 1)) 0 0) = _
    rw [unbytes_bytesE, q2]
  | err e' r =>
    rw [hq] at e
    obtain ⟨q1, q2, q3⟩ := e
    rcases q3 with ⟨q, q3⟩ | ⟨q, acc, q3⟩
    · exact bindF q3 (condF' rfl (condF rfl (condF rfl ⟨q1, q2, [], _, rfl⟩)))
    · refine bindF q3 (condF rfl (condF (by kernel_rfl) (condF (isByte_bytesE acc) ⟨q1, q2, _, _, rfl⟩)))

theorem bindR {α : Type} {x : Option (Res × Heap)} {r : Res × Heap} {s : List UInt8} {val : α → AV} {pr : PR α} {K : Res × Heap → Option (Res × Heap)} (h : x = some r) (hK : ReadsF (K r) s val pr) : ReadsF (x.bind K) s val pr := by rw [h]; exact hK

/-! ### elements -/

abbrev VRunF (d : Nat) (s : List UInt8) : Prop := ∀ l, l <:+ s → ReadsF (RR none 105 [.ptr 0 0, num (7 - (d : Int))] (rdr s (pos s l) 0 0)) s slotsV (valL 9 39 d l)
abbrev rlH (s : List UInt8) (q x a : Int) (k : Int) (ns vs : List E) : Heap := [rdrO s q x a, boxV 3 4 0 0 [] [] [], boxV 5 6 k 0 [] ns vs, .vec 9 0, .vec 39 0, .vec 9 ns.length, .vec 39 vs.length]
def rlX (n : Nat) (s : List UInt8) (q x a : Int) (k : Int) (ns vs : List E) : Out := { ex := .exit 0, fr := [.ptr 0 0, AV.undef, AV.undef, AV.undef, .ptr 1 0, .ptr 2 0] ++ List.replicate n AV.undef, hp := rlH s q x a k ns vs, df := [] }
def rlR (n : Nat) (s : List UInt8) (q x a : Int) (k : Int) (ns vs : List E) : Out := { ex := .ret, fr := [AV.undef, AV.undef, AV.undef, AV.undef, .ptr 1 0] ++ List.replicate n AV.undef, hp := [rdrO s q x a, boxV 2 3 k 0 [] ns vs, .vec 9 ns.length, .vec 39 vs.length], df := [] }
def rlOut {α : Type} (w : Bool) (n m : Nat) (s : List UInt8) (k : Int) (mk : α → List E × List E) (x : Option Out) : PR α → Prop
  | .ok q l => l <:+ s ∧ x = some (rlX n s (pos s l) 0 0 k (mk q).1 (mk q).2)
  | .err e l => l <:+ s ∧ e ≠ 0 ∧ ∃ p ns vs, x = some (rlX n s p e (pos s l) k ns vs) ∨ (w = true ∧ x = some (rlR m s p e (pos s l) k ns vs))
section
variable {α : Type} {w : Bool} {n m : Nat} {s : List UInt8} {k : Int} {mk : α → List E × List E} {pr : PR α}
theorem rlOut_of {f : FuncId} {i : Nat} {b : Code} {fr : Fr} {σ : Heap} {X : Option Out} (hb : bodyLoop PP HH RR LL f i b fr σ = X) (h : rlOut w n m s k mk X pr) : rlOut w n m s k mk (LL f i b fr σ) pr := by
  cases pr with
  | ok q l => exact ⟨h.1, loop_of_body (hb.trans h.2)⟩
  | err e l =>
    obtain ⟨h1, h2, p, ns, vs, h3⟩ := h
    exact ⟨h1, h2, p, ns, vs, h3.imp (fun h => loop_of_body (hb.trans h)) (fun h => ⟨h.1, loop_of_body (hb.trans h.2)⟩)⟩
theorem condL {b : Bool} {x y : Option Out} (hb : b = true) (h : rlOut w n m s k mk x pr) : rlOut w n m s k mk (bif b then x else y) pr := by rw [hb]; exact h
theorem condL' {b : Bool} {x y : Option Out} (hb : b = false) (h : rlOut w n m s k mk y pr) : rlOut w n m s k mk (bif b then x else y) pr := by rw [hb]; exact h
theorem rlOut_bind {x : Option Out} (h : rlOut w n m s k mk x pr) : rlOut w n m s k mk (x.bind fun o => some o) pr := by
  have : (x.bind fun o => some o) = x := by cases x <;> rfl
  rw [this]; exact h
theorem rlOut_run {x : Option (Res × Heap)} {r : Res × Heap} {K : Res × Heap → Option Out} (h : x = some r) (hK : rlOut w n m s k mk (K r) pr) : rlOut w n m s k mk (x.bind K) pr := by rw [h]; exact hK
end
/-- Behind a reader, in a loop. -/
theorem thenL {α β : Type} {w : Bool} {n m : Nat} {s s0 : List UInt8} {k p0 x0 a0 : Int} {mk : β → List E × List E} {x : Option (Res × Heap)} {val : α → AV} {pr : PR α} {f : α → List UInt8 → PR β} {t : TypeId} {K : Res × Heap → Option Out}
    (h : ReadsF x s val pr) (hok : ∀ a, okRes PP t (.ret (val a)) = true)
    (hbad : ∀ e l a q, e ≠ 0 → l <:+ s → rlOut w n m s k mk (K (.ret (val a), rdr s q e (pos s l))) (.err e l))
    (hr : ∀ a l, pr = .ok a l → l <:+ s → rlOut w n m s k mk (K (.ret (val a), rdr s (pos s l) 0 0)) (f a l)) :
    rlOut w n m s k mk (x.bind fun rh => bif okHeap (rdr s0 p0 x0 a0) rh.2 then bif okRes PP t rh.1 then K rh else none else none) (pr.andThen f) := by
  cases pr with
  | ok a l =>
    obtain ⟨h1, h2⟩ := h
    rw [h2]
    show rlOut w n m s k mk (bif okHeap (rdr s0 p0 x0 a0) (rdr s (pos s l) 0 0) then bif okRes PP t (.ret (val a)) then K (.ret (val a), rdr s (pos s l) 0 0) else none else none) (f a l)
    rw [okRdr, hok a]
    exact hr a l rfl h1
  | err e l =>
    obtain ⟨h1, h2, a, q, h3⟩ := h
    rw [h3]
    show rlOut w n m s k mk (bif okHeap (rdr s0 p0 x0 a0) (rdr s q e (pos s l)) then bif okRes PP t (.ret (val a)) then K (.ret (val a), rdr s q e (pos s l)) else none else none) (.err e l)
    rw [okRdr, hok a]
    exact hbad e l a q h2 h1

def elsM (vd : List UInt8 → PR E) : Nat → List E → List UInt8 → PR (List E)
  | 0, _, l => .err 0 l
  | n + 1, acc, l => (vd l).andThen fun y l1 => if hd l1 = 44 then elsM vd n (acc ++ [y]) (l1.drop 1) else .ok (acc ++ [y]) l1
theorem elsL_M (vd : List UInt8 → PR E) : ∀ (n : Nat) (acc : List E) (l : List UInt8), elsL vd n acc l = (elsM vd n acc l).andThen fun vs l => (needL [93] l).andThen fun _ l => .ok vs l := by
  intro n
  induction n with
  | zero => intro acc l; rfl
  | succ n ih =>
    intro acc l
    rw [elsL, elsM]
    cases vd l with
    | err e r => rfl
    | ok y r =>
      rw [PR.ok_then, PR.ok_then]
      by_cases h : hd r = 44
      · rw [if_pos h, if_pos h, ih]
      · rw [if_neg h, if_neg h]; rfl

theorem relements_loop {s : List UInt8} {d : Nat} {t1 : Int} (hs : s.length ≤ 100000) (ht : IntKind.i64.wrap (t1 + 1) = 7 - (d : Int)) (hv : VRunF d s) : ∀ (n : Nat) (l : List UInt8) (acc : List E), l.length < n → l <:+ s → acc.length + n ≤ 200000 →
    rlOut false 47 101 s 5 (fun vs => ([], vs)) (LL 150 1 lc_150_6 (listF 53 t1) (rlH s (pos s l) 0 0 5 [] acc)) (elsM (valL 9 39 d) n acc l) := by
  intro n
  induction n with
  | zero => intro l acc h; exact absurd h (by omega)
  | succ n ih =>
    intro l acc hn hl hacc
    refine rlOut_of (eq_relementsL6 RR LL s (pos s l) 0 0 t1 0 0 [] [] [] 5 0 [] [] acc) (condL rfl ?_)
    rw [ht, elsM]
    refine thenL (hv l hl) (fun a => okV38 ..) ?_ ?_
    · intro e l1 a q he hl1
      refine condL ?_ (condL' ?_ ?_)
      · show (decide (acc.length = acc.length) && decide ((acc.length + 1) * 80 ≤ 140737488355328)) = true
        simp; omega
      · show ((!(e == 0)) == false) = false
        rw [beq_false_of_ne he]; rfl
      · exact ⟨hl1, he, q, [], _, .inl rfl⟩
    · intro y l1 hy hl1
      have htail : l1 <:+ l := by have := valL_tail 9 39 d l; rw [hy] at this; exact this
      obtain ⟨a, b, c, ns, vs, rfl⟩ := valL_part hy
      have hle := htail.length_le
      show rlOut false 47 101 s 5 _ (bif decide (acc.length = acc.length) && decide ((acc.length + ((39, elems PP 39 5 1 [E.sl 39 vs, E.sl 9 ns, E.str c, E.int .i64 b, E.int .i64 a].reverse) : TypeId × List E).snd.length) * 80 ≤ 140737488355328) then
        bif (!((0 : Int) == 0)) == false then bif decide (0 ≤ pos s l1) then bif !(decide (pos s l1 < (s.length : Int)) && pk s (pos s l1) == 44) then
          some (rlX 47 s (pos s l1) 0 0 5 [] (acc ++ ((39, elems PP 39 5 1 [E.sl 39 vs, E.sl 9 ns, E.str c, E.int .i64 b, E.int .i64 a].reverse) : TypeId × List E).snd))
        else (LL 150 1 lc_150_6 (listF 53 t1) (rlH s (IntKind.i64.wrap (pos s l1 + 1)) 0 0 5 [] (acc ++ ((39, elems PP 39 5 1 [E.sl 39 vs, E.sl 9 ns, E.str c, E.int .i64 b, E.int .i64 a].reverse) : TypeId × List E).snd))).bind fun o => some o
        else none else _ else none) _
      rw [elemV, is_at hl1 44 44 rfl (by decide)]
      refine condL ?_ (condL rfl (condL (pos_ge hl1) ?_))
      · simp; omega
      by_cases h44 : hd l1 = 44
      · rw [if_pos h44, h44]
        obtain ⟨st1, st2⟩ := pos_step hl1 hs (by rw [h44]; decide)
        have := drop_less (l := l1) (by rw [h44]; decide)
        rw [st1]
        exact condL' rfl (rlOut_bind (ih (l1.drop 1) _ (by omega) st2 (by simp; omega)))
      · rw [if_neg h44, beq_false_of_ne h44]
        exact condL rfl ⟨hl1, rfl⟩

theorem relements_run {s l : List UInt8} {d : Nat} {t1 : Int} (hs : s.length ≤ 100000) (ht : IntKind.i64.wrap (t1 + 1) = 7 - (d : Int)) (hv : VRunF d s) (hl : l <:+ s) (h91 : hd l = 91) :
    ReadsF (RR none 150 [.ptr 0 0, num t1] (rdr s (pos s l) 0 0)) s slotsV
      (if hd (l.drop 1) = 93 then .ok (mkV 9 39 5 0 [] [] []) ((l.drop 1).drop 1) else (elsL (valL 9 39 d) (l.drop 1).length.succ [] (l.drop 1)).andThen fun vs l => .ok (mkV 9 39 5 0 [] [] vs) l) := by
  obtain ⟨st1, st2⟩ := pos_step hl hs (by rw [h91]; decide)
  refine readsF_of (eq_relements RR LL s (pos s l) 0 0 t1) ?_
  rw [st1]
  refine condF (pos_ge st2) ?_
  rw [is_at st2 93 93 rfl (by decide)]
  by_cases h93 : hd (l.drop 1) = 93
  · rw [if_pos h93, h93]
    obtain ⟨st3, st4⟩ := pos_step st2 hs (by rw [h93]; decide)
    rw [st3]
    exact condF rfl ⟨st4, rfl⟩
  rw [if_neg h93, beq_false_of_ne h93]
  refine condF' rfl ?_
  have e := relements_loop hs ht hv (l.drop 1).length.succ (l.drop 1) [] (by omega) st2 (by have := st2.length_le; simp at this ⊢; omega)
  rw [elsL_M]
  generalize elsM (valL 9 39 d) (l.drop 1).length.succ [] (l.drop 1) = pr at e
  cases pr with
  | ok vs r =>
    obtain ⟨q1, q2⟩ := e
    rw [PR.ok_then]
    refine bindF q2 (condF rfl (condF (by kernel_rfl) ?_))
    have as1 : ((needL [93] r).andThen fun _ l => PR.ok vs l).andThen (fun vs l => PR.ok (mkV 9 39 5 0 [] [] vs) l) = (needL [93] r).andThen fun _ l => .ok (mkV 9 39 5 0 [] [] vs) l := by
      cases needL [93] r <;> rfl
    rw [as1]
    exact thenF (word_run hs q1) (fun a => rfl) (fun e l1 a q he hl1 => ⟨hl1, he, mkV 9 39 5 0 [] [] vs, _, rfl⟩) (fun a l1 h1 hl1 => ⟨hl1, rfl⟩)
  | err e' r =>
    obtain ⟨q1, q2, p, ns, vs, q3 | q3⟩ := e
    · exact bindF q3 (condF rfl (condF (by kernel_rfl) (bindR (word_bad q2) (condF rfl (condF rfl ⟨q1, q2, mkV 9 39 5 0 [] ns vs, _, rfl⟩)))))
    · cases q3.1

end Go.Proofs.YtghdhhmlmdohkaaGreatDoor
