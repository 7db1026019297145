/- Topics and filters: the levels of a name, how long it may be. -/
import Derived.Test.YtapndkailgcboaaGreatDoorTe
import Derived.Test.YtapndkailgcboaaGreatDoorCx
import Derived.Test.YtapndkailgcboaaGreatDoorDn8
namespace Go.Proofs.YtapndkailgcboaaGreatDoor.Top
open Go Go.Den Go.Den.Zm
set_option maxRecDepth 100000

theorem okB (b : Bool) : okRes PP 4 (.ret (yes b)) = true := by kernel_rfl
theorem okL (l : List E) : okRes PP 27 (.ret (.e (.sl 9 l))) = true := by kernel_rfl
theorem valB (b : Bool) : (Res.ret (yes b)).val.data.toBool = b := rfl
theorem valL (l : List E) : (Res.ret (.e (.sl 9 l))).val.data.toList = l := rfl

theorem unnot' {b : Bool} (h : (!b) = true) : b = false := by cases b <;> first | rfl | cases h

/-! ### Topics -/

theorem runes_byte {s : S8} {p : Nat} (h : p < s.length) (c : Nat) (hc : c < 128) :
    (((Utf8.decode ⟨s.toArray⟩ p).fst : Int) == (c : Int)) = decide (s.getD p 0 = UInt8.ofNat c) := by
  by_cases ha : (s.getD p 0).toNat < 128
  · rw [dec_lo h ha]; exact byte_is (by omega)
  · obtain ⟨h1, _⟩ := dec_hi h (by omega)
    rw [dec_no (fun e => ha (by rw [e]; simp; omega))]
    simp; omega
theorem runes_step {s : S8} {p : Nat} (h : p < s.length) (ha : (s.getD p 0).toNat < 128) : (Utf8.decode ⟨s.toArray⟩ p).2 = 1 := by rw [dec_lo h ha]

def szX (n : Int) : Out := { ex := .exit 0, fr := [AV.undef, AV.undef, AV.undef, num n] ++ List.replicate 24 AV.undef, hp := [], df := [] }
def szR : Out := { ex := .ret, fr := [AV.undef, AV.undef, yes false] ++ List.replicate 25 AV.undef, hp := [], df := [] }
def szF (n : Nat) (c : UInt8) : Option Nat := if c = 0 then none else if c = 47 then some (n + 1) else some n
theorem szF_all : ∀ (s : S8) (n : Nat), s.foldlM szF n = if 0 ∈ s then none else some (n + s.countP (fun b => decide (b = 47))) := by
  intro s
  induction s with
  | nil => intro n; rfl
  | cons c s ih =>
    intro n
    rw [List.foldlM_cons]
    unfold szF
    by_cases h0 : c = 0
    · rw [if_pos h0, if_pos (by rw [h0]; simp)]; rfl
    rw [if_neg h0]
    have hm : (0 ∈ c :: s) ↔ 0 ∈ s := by
      rw [List.mem_cons]
      exact ⟨fun h => h.elim (fun e => absurd e.symm h0) id, .inr⟩
    by_cases h47 : c = 47
    · rw [if_pos h47]
      show s.foldlM szF (n + 1) = _
      rw [ih, List.countP_cons, if_pos (show decide (c = 47) = true by simpa using h47)]
      by_cases hz : (0 : UInt8) ∈ s
      · rw [if_pos hz, if_pos (hm.2 hz)]
      · rw [if_neg hz, if_neg (fun h => hz (hm.1 h))]
        congr 1; omega
    · rw [if_neg h47]
      show s.foldlM szF n = _
      rw [ih, List.countP_cons, if_neg (show ¬ decide (c = 47) = true by simpa using h47)]
      by_cases hz : (0 : UInt8) ∈ s
      · rw [if_pos hz, if_pos (hm.2 hz)]
      · rw [if_neg hz, if_neg (fun h => hz (hm.1 h))]
        congr 1

theorem sized_loop (s : S8) (hs : s.length ≤ 1000) : LL 82 0 lc_82_5 (((List.replicate 28 AV.undef).set 3 (.e (.int .i64 1))).set 15 (.itr 0)) [.raw (.iter s 0)] =
    some ((s.foldlM szF 0).elim szR fun k => szX (1 + (k : Int))) := by
  refine (runes_scan (s := s) (St := Nat) (f := szF) (bad := szR) (fin := fun k => szX (1 + (k : Int))) (I := fun p k => k ≤ p)
    (G := fun p k => LL 82 0 lc_82_5 (((List.replicate 28 AV.undef).set 3 (.e (.int .i64 (1 + (k : Int))))).set 15 (.itr 0)) [.raw (.iter s p)]) ?_ ?_ ?_ ?_ ?_ 0 (Nat.le_refl 0))
  · intro p k hp hk r h
    have e0 := runes_byte hp 0 (by decide)
    have e47 := runes_byte hp 47 (by decide)
    change (_ == 0) = decide (s.getD p 0 = 0) at e0
    change (_ == 47) = decide (s.getD p 0 = 47) at e47
    have body := eq_tSizedL5 RR LL (1 + (k : Int)) s p
    rw [e0, e47] at body
    refine loop_of_body (body.trans (cond_run (dec_yes hp) ?_))
    by_cases ha : (s.getD p 0).toNat < 128
    · rw [dec_yes ha] at h
      rw [runes_step hp ha]
      unfold szF at h
      by_cases h0 : s.getD p 0 = 0
      · rw [if_pos h0] at h; exact cond_run (dec_yes h0) h
      rw [if_neg h0] at h
      refine cond_not (dec_no h0) ?_
      by_cases h47 : s.getD p 0 = 47
      · rw [if_pos h47] at h
        refine cond_run (dec_yes h47) ?_
        rw [wrap_in (by omega) (by omega)]
        refine bind_run (Eq.trans ?_ h) rfl
        show LL 82 0 lc_82_5 _ _ = LL 82 0 lc_82_5 _ _
        rw [show (1 + (k : Int) + 1) = 1 + ((k + 1 : Nat) : Int) by omega]
        rfl
      · rw [if_neg h47] at h
        exact cond_not (dec_no h47) (bind_run h rfl)
    · rw [dec_no ha] at h
      exact cond_not (dec_no (fun e => ha (by rw [e]; decide))) (cond_not (dec_no (fun e => ha (by rw [e]; decide))) (bind_run h rfl))
  · intro k c hc
    unfold szF
    rw [if_neg (by rintro rfl; revert hc; decide), if_neg (by rintro rfl; revert hc; decide)]
  · intro p k c k' hk h
    unfold szF at h
    split at h
    · cases h
    · split at h <;> injection h with h <;> omega
  · intro p q k h1 h2; omega
  · intro k _
    exact loop_of_body ((eq_tSizedL5 RR LL (1 + (k : Int)) s s.length).trans (cond_not (dec_no (Nat.lt_irrefl _)) rfl))
theorem len64_iff (s : S8) : (bif decide ((s.length : Int) < 1) then true else decide (64 < (s.length : Int))) = !len64 s := by unfold len64; rw [Bool.not_not]
theorem sized_run (s : S8) : RR none 82 [str s] [] = some (.ret (yes (sizedS s)), []) := by
  refine run_of_body ((eq_tSized RR LL s).trans ?_)
  rw [len64_iff]
  unfold sizedS
  cases h : len64 s with
  | false => exact cond_run rfl rfl
  | true =>
    have hl : s.length ≤ 64 := by
      have h' := unnot' h
      by_cases k : (s.length : Int) < 1
      · omega
      · rw [dec_no k] at h'; have := of_decide_eq_false h'; omega
    refine cond_not rfl (bind_run (sized_loop s (by omega)) ?_)
    rw [szF_all]
    by_cases h0 : (0 : UInt8) ∈ s
    · rw [if_pos h0, has_iff.2 h0]; rfl
    · have hf : hasB 0 s = false := by cases hh : hasB 0 s with | false => rfl | true => exact absurd (has_iff.1 hh) h0
      rw [if_neg h0, hf, split_len]
      show some (Res.ret (yes (decide (1 + ((0 + s.countP (fun b => decide (b = 47)) : Nat) : Int) ≤ 8))), ([] : Heap)) = some (Res.ret (yes (decide (((s.countP (fun b => decide (b = 47)) + 1 : Nat) : Int) ≤ 8))), [])
      rw [show (1 + ((0 + s.countP (fun b => decide (b = 47)) : Nat) : Int)) = ((s.countP (fun b => decide (b = 47)) + 1 : Nat) : Int) by omega]

def vlX : Out := { ex := .exit 0, fr := List.replicate 19 AV.undef, hp := [], df := [] }
def vlR : Out := { ex := .ret, fr := [AV.undef, AV.undef, yes false] ++ List.replicate 16 AV.undef, hp := [], df := [] }
def vlF (_ : Unit) (c : UInt8) : Option Unit := if c = 43 ∨ c = 35 then none else some ()
theorem vlF_all : ∀ (s : S8), s.foldlM vlF () = if 43 ∈ s ∨ 35 ∈ s then none else some () := by
  intro s
  induction s with
  | nil => rfl
  | cons c s ih =>
    rw [List.foldlM_cons]
    unfold vlF
    by_cases h : c = 43 ∨ c = 35
    · rw [if_pos h, if_pos (by rcases h with rfl | rfl <;> simp)]; rfl
    · rw [if_neg h]
      show s.foldlM vlF () = _
      rw [ih]
      rw [not_or] at h
      by_cases k : 43 ∈ s ∨ 35 ∈ s
      · rw [if_pos k, if_pos (by rcases k with k | k <;> simp [k])]
      · rw [if_neg k, if_neg]
        rw [not_or] at k
        rintro (e | e)
        · rcases List.mem_cons.1 e with e | e
          · exact h.1 e.symm
          · exact k.1 e
        · rcases List.mem_cons.1 e with e | e
          · exact h.2 e.symm
          · exact k.2 e
theorem valid_loop (s : S8) : LL 72 0 lc_72_4 ((List.replicate 19 AV.undef).set 9 (.itr 0)) [.raw (.iter s 0)] = some ((s.foldlM vlF ()).elim vlR fun _ => vlX) := by
  refine (runes_scan (s := s) (St := Unit) (f := vlF) (bad := vlR) (fin := fun _ => vlX) (I := fun _ _ => True)
    (G := fun p _ => LL 72 0 lc_72_4 ((List.replicate 19 AV.undef).set 9 (.itr 0)) [.raw (.iter s p)]) ?_ ?_ ?_ ?_ ?_ () trivial)
  · intro p k hp _ r h
    have e43 := runes_byte hp 43 (by decide)
    have e35 := runes_byte hp 35 (by decide)
    change (_ == 43) = decide (s.getD p 0 = 43) at e43
    change (_ == 35) = decide (s.getD p 0 = 35) at e35
    have body := eq_tValidL4 RR LL s p
    rw [e43, e35] at body
    refine loop_of_body (body.trans (cond_run (dec_yes hp) ?_))
    by_cases ha : (s.getD p 0).toNat < 128
    · rw [dec_yes ha] at h
      rw [runes_step hp ha]
      unfold vlF at h
      by_cases h1 : s.getD p 0 = 43 ∨ s.getD p 0 = 35
      · rw [if_pos h1] at h
        refine cond_run ?_ h
        rcases h1 with h1 | h1
        · rw [dec_yes h1]; rfl
        · rw [dec_yes h1]; cases decide (s.getD p 0 = 43) <;> rfl
      · rw [if_neg h1] at h
        rw [not_or] at h1
        exact cond_not (by rw [dec_no h1.1, dec_no h1.2]; rfl) (bind_run h rfl)
    · rw [dec_no ha] at h
      refine cond_not ?_ (bind_run h rfl)
      rw [dec_no (fun e => ha (by rw [e]; decide)), dec_no (fun e => ha (by rw [e]; decide))]; rfl
  · intro k c hc
    unfold vlF
    rw [if_neg (by rintro (rfl | rfl) <;> revert hc <;> decide)]
  · intros; trivial
  · intros; trivial
  · intro k _
    exact loop_of_body ((eq_tValidL4 RR LL s s.length).trans (cond_not (dec_no (Nat.lt_irrefl _)) rfl))
theorem Valid_run (s : S8) : RR none 72 [str s] [] = some (.ret (yes (validS s)), []) := by
  refine run_of_body ((eq_tValid RR LL s).trans (bind_run (sized_run s) (cond_run rfl (cond_run (okB _) ?_))))
  unfold validS
  cases h : sizedS s with
  | false => exact cond_run rfl rfl
  | true =>
    refine cond_not rfl (bind_run (valid_loop s) ?_)
    rw [vlF_all]
    by_cases k : 43 ∈ s ∨ 35 ∈ s
    · rw [if_pos k]
      have : (true && !hasB 43 s && !hasB 35 s) = false := by
        rcases k with k | k
        · rw [has_iff.2 k]; rfl
        · rw [has_iff.2 k]; cases hasB 43 s <;> rfl
      rw [this]; rfl
    · rw [if_neg k]
      rw [not_or] at k
      have h1 : hasB 43 s = false := by cases hh : hasB 43 s with | false => rfl | true => exact absurd (has_iff.1 hh) k.1
      have h2 : hasB 35 s = false := by cases hh : hasB 35 s with | false => rfl | true => exact absurd (has_iff.1 hh) k.2
      rw [h1, h2]; rfl

/-! ### Has -/

def hsX : Out := { ex := .exit 0, fr := List.replicate 17 AV.undef, hp := [], df := [] }
def hsR : Out := { ex := .ret, fr := [AV.undef, AV.undef, AV.undef, AV.undef, yes true] ++ List.replicate 12 AV.undef, hp := [], df := [] }
theorem has_loop (s : S8) (c : UInt8) (hs : s.length ≤ 1000000) : LL 62 0 lc_62_2 ((((List.replicate 17 AV.undef).set 0 (.e (.str s))).set 1 (.e (.int .u8 (c.toNat : Int)))).set 5 (.e (.int .i64 0))) [] =
    some (bif s.all (fun b => !decide (b = c)) then hsX else hsR) := by
  refine scan_all (d := 0) (G := fun i => LL 62 0 lc_62_2 ((((List.replicate 17 AV.undef).set 0 (.e (.str s))).set 1 (.e (.int .u8 (c.toNat : Int)))).set 5 (.e (.int .i64 (i : Int)))) []) ?_ ?_
  · intro i hi r h
    have body := eq_rHasL2 RR LL s (c.toNat : Int) i
    rw [nat_at, nat_wrap hi (by rw [maxLen_eq]; omega), byte_is (c := s.getD i 0) (n := c.toNat) c.toNat_lt] at body
    refine loop_of_body (body.trans (cond_run (nat_lt hi) (cond_run (nat_in hi) ?_)))
    rw [show UInt8.ofNat c.toNat = c by simp]
    by_cases e : s.getD i 0 = c
    · rw [dec_yes e] at h ⊢; exact cond_run rfl h
    · rw [dec_no e] at h ⊢; exact cond_not rfl (bind_run h rfl)
  · exact loop_of_body ((eq_rHasL2 RR LL s (c.toNat : Int) s.length).trans (cond_not (nat_end _) rfl))
theorem Has_run (s : S8) (c : UInt8) (hs : s.length ≤ 1000000) : RR none 62 [str s, .e (.int .u8 (c.toNat : Int))] [] = some (.ret (yes (hasB c s)), []) := by
  refine run_of_body ((eq_rHas RR LL s _).trans (bind_run (has_loop s c hs) ?_))
  unfold hasB
  cases s.all (fun b => !decide (b = c)) <;> rfl

/-! ### Levels -/

abbrev lvF (s : S8) (a : List E) (f i : Int) : Fr := ((((List.replicate 31 AV.undef).set 0 (.e (.str s))).set 3 (.own 0 9 a)).set 4 (.e (.int .i64 f))).set 5 (.e (.int .i64 i))
def lvX (s : S8) (a : List E) (f : Int) : Out := { ex := .exit 0, fr := [str s, AV.undef, AV.undef, .own 0 9 a, num f] ++ List.replicate 26 AV.undef, hp := [.vec 9 a.length], df := [] }
theorem levels_loop {s : S8} (hs : s.length ≤ 1000000) : ∀ (j i f : Nat) (a : List E), i + j = s.length → f ≤ i → 47 ∉ (s.take i).drop f → a.length ≤ f →
    ∃ a' f', LL 51 0 lc_51_4 (lvF s a f i) [.vec 9 a.length] = some (lvX s a' ((f' : Nat) : Int)) ∧ f' ≤ s.length ∧ a'.length ≤ f' ∧ a' ++ [E.str (s.drop f')] = a ++ (splitAt 47 (s.drop f)).map E.str := by
  intro j
  induction j with
  | zero =>
    intro i f a h hf hn ha
    have : i = s.length := by omega
    subst this
    refine ⟨a, f, loop_of_body ((eq_rLevelsL4 RR LL s a f s.length).trans (cond_not (nat_end _) rfl)), hf, ha, ?_⟩
    rw [List.take_length] at hn
    rw [split_none hn]; rfl
  | succ j ih =>
    intro i f a h hf hn ha
    have hi : i < s.length := by omega
    have body := eq_rLevelsL4 RR LL s a f i
    have e47 := byte_is (c := s.getD i 0) (n := 47) (by decide)
    change (((s.getD i 0).toNat : Int) == 47) = decide (s.getD i 0 = 47) at e47
    rw [nat_at, nat_wrap hi (by rw [maxLen_eq]; omega), e47, nat_at] at body
    have htk : s.take (i + 1) = s.take i ++ [s.getD i 0] := by
      rw [List.getD_eq_getElem?_getD, List.getElem?_eq_getElem hi, List.take_add_one, List.getElem?_eq_getElem hi]; rfl
    have hfl : f ≤ (s.take i).length := by rw [List.length_take]; omega
    by_cases e : s.getD i 0 = 47
    · obtain ⟨a', f', h1, h2, h3, h4⟩ := ih (i + 1) (i + 1) (a ++ [E.str ((s.take i).drop f)]) (by omega) (Nat.le_refl _) (by rw [List.drop_eq_nil_of_le (by rw [List.length_take]; omega)]; simp) (by simp; omega)
      refine ⟨a', f', loop_of_body (body.trans (cond_run (nat_lt hi) (cond_run (nat_in hi) (cond_run (dec_yes e) (cond_run ?_ (cond_run ?_ (bind_run h1 rfl))))))), h2, h3, ?_⟩
      · rw [dec_yes (by omega), dec_yes (by omega), dec_yes (by omega)]; rfl
      · rw [dec_yes rfl, dec_yes (by simp; omega)]; rfl
      · rw [h4]
        have hd : s.drop f = (s.take i).drop f ++ 47 :: s.drop (i + 1) := by
          conv => lhs; rw [← List.take_append_drop i s, List.drop_append_of_le_length hfl]
          rw [Go.Den.drop_getD hi 0, e]
        rw [hd, split_cons hn]
        simp
    · obtain ⟨a', f', h1, h2, h3, h4⟩ := ih (i + 1) f a (by omega) (by omega) (by
        rw [htk, List.drop_append_of_le_length hfl]
        intro hm
        rcases List.mem_append.1 hm with hm | hm
        · exact hn hm
        · simp at hm; exact e hm.symm) ha
      exact ⟨a', f', loop_of_body (body.trans (cond_run (nat_lt hi) (cond_run (nat_in hi) (cond_not (dec_no e) (bind_run h1 rfl))))), h2, h3, h4⟩
theorem Levels_run (s : S8) (hs : s.length ≤ 1000000) : RR none 51 [str s] [] = some (.ret (.e (.sl 9 ((splitAt 47 s).map E.str))), []) := by
  obtain ⟨a, f, h1, h2, h3, h4⟩ := levels_loop hs s.length 0 0 [] (by omega) (Nat.le_refl _) (by simp) (Nat.le_refl _)
  refine run_of_body ((eq_rLevels RR LL s).trans (bind_run h1 (cond_run rfl (cond_run rfl (cond_run ?_ (cond_run ?_ ?_))))))
  · show (decide ((0 : Int) ≤ (f : Int)) && decide ((f : Int) ≤ (s.length : Int)) && decide ((s.length : Int) ≤ (s.length : Int))) = true
    rw [dec_yes (by omega), dec_yes (by omega), dec_yes (by omega)]; rfl
  · show (decide (a.length = a.length) && decide ((a.length + 1) * 16 ≤ 140737488355328)) = true
    rw [dec_yes rfl, dec_yes (by omega)]; rfl
  · show some (Res.ret (.e (.sl 9 (a ++ [E.str (List.drop ((f : Int)).toNat (List.take ((s.length : Int)).toNat s))]))), ([] : Heap)) = _
    rw [nat_at, nat_at, List.take_length, h4]
    rfl
theorem R1sized_run (s : S8) : RR none 61 [str s] [] = some (.ret (yes (sizedS s)), []) := by
  refine run_of_body ((eq_rSized RR LL s).trans ?_)
  have hx : (bif decide (1 ≤ (s.length : Int)) then decide ((s.length : Int) ≤ 64) else false) = len64 s := by
    unfold len64
    rw [not_btw]
    exact (Bool.not_not _).symm
  rw [hx]
  unfold sizedS
  cases h : len64 s with
  | false => exact cond_not rfl rfl
  | true =>
    rw [h] at hx
    have hl : s.length ≤ 64 := by
      by_cases k : (1 : Int) ≤ s.length
      · rw [dec_yes k] at hx; have := of_decide_eq_true hx; omega
      · omega
    refine cond_run rfl (bind_run (Has_run s 0 (by omega)) (cond_run rfl (cond_run (okB _) ?_)))
    rw [valB]
    cases hasB 0 s with
    | true => exact cond_not rfl rfl
    | false =>
      refine cond_run rfl (bind_run (Levels_run s (by omega)) (cond_run rfl (cond_run (okL _) ?_)))
      show some (Res.ret (yes (decide ((((splitAt 47 s).map E.str).length : Int) ≤ 8))), ([] : Heap)) = _
      rw [List.length_map]; rfl
theorem sized_len {s : S8} (h : sizedS s = true) : s.length ≤ 64 := by
  unfold sizedS at h
  rw [Bool.and_eq_true, Bool.and_eq_true] at h
  have h' := unnot' h.1.1
  by_cases k : (s.length : Int) < 1
  · omega
  · rw [dec_no k] at h'; have := of_decide_eq_false h'; omega
end Go.Proofs.YtapndkailgcboaaGreatDoor.Top
