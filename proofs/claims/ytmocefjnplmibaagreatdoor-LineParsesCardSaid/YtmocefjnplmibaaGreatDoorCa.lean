/- Names, topics, keys: the program's and the reference's. -/
import Derived.Test.YtmocefjnplmibaaGreatDoorCe
import Derived.Test.YtmocefjnplmibaaGreatDoorQf
import Derived.Test.YtmocefjnplmibaaGreatDoorDn6
namespace Go.Proofs.YtmocefjnplmibaaGreatDoor
open Go Go.Den
set_option maxRecDepth 100000

theorem okB (b : Bool) : okRes PP 4 (.ret (yes b)) = true := by kernel_rfl
theorem okN (n : Int) : okRes PP 23 (.ret (num n)) = true := by kernel_rfl
theorem okI (n : Int) : okRes PP 3 (.ret (num n)) = true := by kernel_rfl
theorem okL (l : List E) : okRes PP 66 (.ret (.e (.sl 9 l))) = true := by kernel_rfl
theorem okH0 : okHeap [] [] = true := rfl
theorem valB (b : Bool) : (Res.ret (yes b)).val.data.toBool = b := rfl
theorem valN (n : Int) : (Res.ret (num n)).val.data.toInt = n := rfl
theorem valS (s : List UInt8) : (Res.ret (str s)).val.data.toStr = s := rfl
theorem unnot {b : Bool} (h : (!b) = false) : b = true := by cases b <;> first | rfl | cases h
theorem unnot' {b : Bool} (h : (!b) = true) : b = false := by cases b <;> first | rfl | cases h

/-! ### Names -/

def nmX : Out := { ex := .exit 0, fr := List.replicate 44 AV.undef, hp := [], df := [] }
def nmR : Out := { ex := .ret, fr := [AV.undef, AV.undef, yes false] ++ List.replicate 41 AV.undef, hp := [], df := [] }
def nameAt (s : S8) (i : Nat) : Bool := lowB (s.getD i 0) || (!((i : Int) == 0) && nameC (s.getD i 0))
theorem lowB_hi {c : UInt8} (h : 128 ≤ c.toNat) : lowB c = false := by unfold lowB; rw [dec_yes (by omega), dec_no (by omega)]; rfl
theorem nameC_hi {c : UInt8} (h : 128 ≤ c.toNat) : nameC c = false := by
  unfold nameC
  rw [lowB_hi h]
  unfold digB
  rw [dec_yes (by omega), dec_no (by omega), dec_no (by rintro rfl; revert h; decide)]; rfl
theorem name_loop (s : S8) : LL 73 0 lc_73_4 ((List.replicate 44 AV.undef).set 15 (.itr 0)) [.raw (.iter s 0)] = some (bif allFrom (nameAt s) s.length 0 then nmX else nmR) := by
  refine scan_ix (G := fun i => LL 73 0 lc_73_4 ((List.replicate 44 AV.undef).set 15 (.itr 0)) [.raw (.iter s i)]) ?_ ?_
  · intro i hi r h
    refine loop_of_body ((eq_NameL4 RR LL s i).trans (cond_run (dec_yes hi) ?_))
    have go : LL 73 0 lc_73_4 ((List.replicate 44 AV.undef).set 15 (.itr 0)) [.raw (.iter s (i + 1))] = some r →
        ((LL 73 0 lc_73_4 ((List.replicate 44 AV.undef).set 15 (.itr 0)) [.raw (.iter s (i + 1))]).bind fun o => some o) = some r := fun h => bind_run h rfl
    change (bif lowB (s.getD i 0) || (!((i : Int) == 0) && nameC (s.getD i 0)) then _ else some nmR) = some r at h
    by_cases ha : (s.getD i 0).toNat < 128
    · rw [dec_lo hi ha]
      have e45 := byte_is (c := s.getD i 0) (n := 45) (by decide)
      generalize s.getD i 0 = c at h ha e45 ⊢
      change ((c.toNat : Int) == 45) = decide (c = 45) at e45
      cases hl : lowB c with
      | true =>
        rw [hl] at h
        exact cond_not (show ((!lowB c) == true) = false by rw [hl]; rfl) (go h)
      | false =>
        rw [hl] at h
        refine cond_run (show ((!lowB c) == true) = true by rw [hl]; rfl) ?_
        cases hi0 : ((i : Int) == 0) with
        | true => rw [hi0] at h; exact cond_not rfl h
        | false =>
          rw [hi0] at h
          refine cond_run rfl ?_
          unfold nameC at h
          rw [hl] at h
          have e : ((c.toNat : Int) == 45) = decide (c = 45) := e45
          by_cases h45 : c = 45
          · rw [dec_yes h45] at h e
            refine cond_not (show ((!(c.toNat : Int) == 45) == true) = false by rw [e]; rfl) (go ?_)
            cases hd : digB c <;> rw [hd] at h <;> exact h
          · rw [dec_no h45] at h e
            refine cond_run (show ((!(c.toNat : Int) == 45) == true) = true by rw [e]; rfl) ?_
            unfold digB at h
            by_cases h48 : (48 : Int) ≤ c.toNat
            · rw [dec_yes h48] at h
              refine cond_run (show (decide ((c.toNat : Int) < 48) == false) = true by rw [dec_no (by omega)]; rfl) ?_
              by_cases h57 : (c.toNat : Int) ≤ 57
              · rw [dec_yes h57] at h
                exact cond_not (dec_no (show ¬ (57 : Int) < c.toNat by omega)) (go h)
              · rw [dec_no h57] at h
                exact cond_run (dec_yes (show (57 : Int) < c.toNat by omega)) h
            · rw [dec_no h48] at h
              exact cond_not (show (decide ((c.toNat : Int) < 48) == false) = false by rw [dec_yes (by omega)]; rfl) h
    · have ha : 128 ≤ (s.getD i 0).toNat := by omega
      rw [lowB_hi ha, nameC_hi ha] at h
      have hbad : some nmR = some r := by cases hi0 : ((i : Int) == 0) <;> rw [hi0] at h <;> exact h
      obtain ⟨h1, _⟩ := dec_hi hi ha
      generalize (Utf8.decode ⟨s.toArray⟩ i).fst = u at h1 ⊢
      refine cond_run (by rw [dec_yes (show (97 : Int) ≤ u by omega), dec_no (show ¬ (u : Int) ≤ 122 by omega)]; rfl) ?_
      cases hi0 : ((i : Int) == 0) with
      | true => exact cond_not rfl hbad
      | false =>
        exact cond_run rfl (cond_run (by rw [show ((u : Int) == 45) = false by simp; omega]; rfl) (cond_run (by rw [dec_no (show ¬ (u : Int) < 48 by omega)]; rfl) (cond_run (dec_yes (show (57 : Int) < u by omega)) hbad)))
  · exact loop_of_body ((eq_NameL4 RR LL s s.length).trans (cond_not (dec_no (Nat.lt_irrefl _)) rfl))

theorem nameAt_all (s : S8) (h : 1 ≤ s.length) : allFrom (nameAt s) s.length 0 = (lowB (s.getD 0 0) && s.all nameC) := by
  rw [Bool.eq_iff_iff, allFrom_iff, Bool.and_eq_true, List.all_eq_true]
  constructor
  · intro k
    have k0 : lowB (s.getD 0 0) = true := by simpa [nameAt] using k 0 (Nat.le_refl _) (by omega)
    refine ⟨k0, fun c hc => ?_⟩
    obtain ⟨i, hi, rfl⟩ := List.mem_iff_getElem.1 hc
    have := k i (by omega) (by omega)
    unfold nameAt at this
    rw [show s.getD i 0 = s[i] by rw [List.getD_eq_getElem?_getD, List.getElem?_eq_getElem hi]; rfl] at this
    cases hl : lowB s[i] with
    | true => unfold nameC; rw [hl]; rfl
    | false => rw [hl] at this; simpa using (by simpa using this : _ ∧ _).2
  · rintro ⟨k0, k⟩ j _ hj
    unfold nameAt
    by_cases h0 : j = 0
    · subst h0; rw [k0]; rfl
    · have hj : j < s.length := by omega
      have hm : s.getD j 0 ∈ s := by rw [List.getD_eq_getElem?_getD, List.getElem?_eq_getElem hj]; simp
      rw [k _ hm, show ((j : Int) == 0) = false by simp; omega]
      simp
theorem Name_run (s : S8) : RR none 73 [str s] [] = some (.ret (yes (nameS s)), []) := by
  refine run_of_body ((eq_Name RR LL s).trans ?_)
  cases h : len16 s with
  | false =>
    refine cond_run (unnot h) ?_
    unfold nameS; rw [h]; rfl
  | true =>
    have hl : 1 ≤ s.length := by
      unfold len16 at h
      by_cases k : (s.length : Int) < 1
      · rw [dec_yes k] at h; cases h
      · omega
    refine cond_not (by unfold len16 at h; simpa using h) (bind_run (name_loop s) ?_)
    unfold nameS
    rw [h, Bool.true_and, nameAt_all s hl]
    cases lowB (s.getD 0 0) && s.all nameC <;> rfl

theorem lower_run (c : UInt8) : RR none 111 [.e (.int .u8 (c.toNat : Int))] [] = some (.ret (yes (lowB c)), []) := run_of_body (eq_lower RR LL _)
theorem digit_run (c : UInt8) : RR none 112 [.e (.int .u8 (c.toNat : Int))] [] = some (.ret (yes (digB c)), []) := run_of_body (eq_digit RR LL _)
def rnX : Out := { ex := .exit 0, fr := List.replicate 42 AV.undef, hp := [], df := [] }
def rnR : Out := { ex := .ret, fr := [AV.undef, AV.undef, yes false] ++ List.replicate 39 AV.undef, hp := [], df := [] }
theorem rname_loop (s : S8) (hs : s.length ≤ 100) : LL 80 0 lc_80_4 (((List.replicate 42 AV.undef).set 0 (.e (.str s))).set 3 (.e (.int .i64 0))) [] = some (bif s.all nameC then rnX else rnR) := by
  refine scan_all (d := 0) (G := fun i => LL 80 0 lc_80_4 (((List.replicate 42 AV.undef).set 0 (.e (.str s))).set 3 (.e (.int .i64 (i : Int)))) []) ?_ ?_
  · intro i hi r h
    have body := eq_R1NameL4 RR LL s i
    rw [nat_at, nat_wrap hi (by rw [maxLen_eq]; omega)] at body
    have e45 := byte_is (c := s.getD i 0) (n := 45) (by decide)
    change (((s.getD i 0).toNat : Int) == 45) = decide (s.getD i 0 = 45) at e45
    rw [e45] at body
    refine loop_of_body (body.trans (cond_run (nat_lt hi) (cond_run (nat_in hi) (bind_run (lower_run _) (cond_run rfl (cond_run (okB _) ?_))))))
    have go : LL 80 0 lc_80_4 (((List.replicate 42 AV.undef).set 0 (.e (.str s))).set 3 (.e (.int .i64 ((i + 1 : Nat) : Int)))) [] = some r →
        ((LL 80 0 lc_80_4 (((List.replicate 42 AV.undef).set 0 (.e (.str s))).set 3 (.e (.int .i64 ((i + 1 : Nat) : Int)))) []).bind fun o => some o) = some r := fun h => bind_run h rfl
    generalize s.getD i 0 = c at h e45 ⊢
    unfold nameC at h
    cases hl : lowB c with
    | true => rw [hl] at h; exact cond_not rfl (go h)
    | false =>
      refine cond_run rfl (cond_run (nat_in hi) (bind_run (digit_run _) (cond_run rfl (cond_run (okB _) ?_))))
      rw [hl] at h
      cases hd : digB c with
      | true => rw [hd] at h; exact cond_not rfl (go h)
      | false =>
        rw [hd] at h
        refine cond_run rfl (cond_run (nat_in hi) ?_)
        by_cases h45 : c = 45
        · rw [dec_yes h45] at h ⊢; exact cond_not rfl (go h)
        · rw [dec_no h45] at h ⊢; exact cond_run rfl h
  · exact loop_of_body ((eq_R1NameL4 RR LL s s.length).trans (cond_not (nat_end _) rfl))
theorem RName_run (s : S8) : RR none 80 [str s] [] = some (.ret (yes (nameS s)), []) := by
  refine run_of_body ((eq_R1Name RR LL s).trans ?_)
  cases h : len16 s with
  | false =>
    refine cond_not (by unfold len16 at h; rw [show (bif decide ((s.length : Int) < 1) then true else decide (16 < (s.length : Int))) = true from unnot h]; rfl) ?_
    unfold nameS; rw [h]; rfl
  | true =>
    have h' : (bif decide ((s.length : Int) < 1) then true else decide (16 < (s.length : Int))) = false := by unfold len16 at h; simpa using h
    have hl : 1 ≤ s.length ∧ s.length ≤ 16 := by
      by_cases k : (s.length : Int) < 1
      · rw [dec_yes k] at h'; cases h'
      · rw [dec_no k] at h'; have := of_decide_eq_false h'; omega
    refine cond_run (by rw [h']; rfl) (cond_run (dec_yes (by omega)) (bind_run (lower_run _) (cond_run rfl (cond_run (okB _) ?_))))
    unfold nameS
    rw [h, Bool.true_and]
    cases hl : lowB (s.getD 0 0) with
    | false => exact cond_run rfl rfl
    | true =>
      refine cond_not rfl (bind_run (rname_loop s (by omega)) ?_)
      cases s.all nameC <;> rfl

/-! ### Keys -/

def mkX : Out := { ex := .exit 0, fr := List.replicate 40 AV.undef, hp := [], df := [] }
def mkR : Out := { ex := .ret, fr := [AV.undef, AV.undef, yes false] ++ List.replicate 37 AV.undef, hp := [], df := [] }
theorem mkey_loop (s : S8) (hs : s.length ≤ 100) : LL 108 0 lc_108_4 (((List.replicate 40 AV.undef).set 0 (.e (.str s))).set 3 (.e (.int .i64 0))) [] = some (bif s.all nameC then mkX else mkR) := by
  refine scan_all (d := 0) (G := fun i => LL 108 0 lc_108_4 (((List.replicate 40 AV.undef).set 0 (.e (.str s))).set 3 (.e (.int .i64 (i : Int)))) []) ?_ ?_
  · intro i hi r h
    have body := eq_mkeyL4 RR LL s i
    rw [nat_at, nat_wrap hi (by rw [maxLen_eq]; omega)] at body
    refine loop_of_body (body.trans (cond_run (nat_lt hi) (cond_run (nat_in hi) ?_)))
    have go : LL 108 0 lc_108_4 (((List.replicate 40 AV.undef).set 0 (.e (.str s))).set 3 (.e (.int .i64 ((i + 1 : Nat) : Int)))) [] = some r →
        ((LL 108 0 lc_108_4 (((List.replicate 40 AV.undef).set 0 (.e (.str s))).set 3 (.e (.int .i64 ((i + 1 : Nat) : Int)))) []).bind fun o => some o) = some r := fun h => bind_run h rfl
    have e45 := byte_is (c := s.getD i 0) (n := 45) (by decide)
    change (((s.getD i 0).toNat : Int) == 45) = decide (s.getD i 0 = 45) at e45
    rw [e45]
    generalize s.getD i 0 = c at h ⊢
    rw [not_btw]
    change (bif lowB c || digB c || decide (c = 45) then _ else some mkR) = some r at h
    change (bif (!lowB c) == true then _ else _) = _
    cases hl : lowB c with
    | true => rw [hl] at h; exact cond_not rfl (go h)
    | false =>
      rw [hl] at h
      refine cond_run rfl ?_
      unfold digB at h
      by_cases h48 : (48 : Int) ≤ c.toNat
      · rw [dec_yes h48] at h
        refine cond_run (by rw [dec_no (by omega)]; rfl) ?_
        by_cases h57 : (c.toNat : Int) ≤ 57
        · rw [dec_yes h57] at h
          exact cond_not (by rw [dec_no (by omega)]; rfl) (go h)
        · rw [dec_no h57] at h
          rw [dec_yes (show (57 : Int) < c.toNat by omega)]
          by_cases h45 : c = 45
          · rw [dec_yes h45] at h ⊢; exact cond_not rfl (go h)
          · rw [dec_no h45] at h ⊢; exact cond_run rfl h
      · rw [dec_no h48] at h
        refine cond_not (by rw [dec_yes (by omega)]; rfl) ?_
        by_cases h45 : c = 45
        · rw [dec_yes h45] at h ⊢; exact cond_not rfl (go h)
        · rw [dec_no h45] at h ⊢; exact cond_run rfl h
  · exact loop_of_body ((eq_mkeyL4 RR LL s s.length).trans (cond_not (nat_end _) rfl))
theorem mkey_run (s : S8) : RR none 108 [str s] [] = some (.ret (yes (keyS s)), []) := by
  refine run_of_body ((eq_mkey RR LL s).trans ?_)
  cases h : len16 s with
  | false =>
    refine cond_run (unnot h) ?_
    unfold keyS; rw [h]; rfl
  | true =>
    have h' : (bif decide ((s.length : Int) < 1) then true else decide (16 < (s.length : Int))) = false := by unfold len16 at h; simpa using h
    have hl : s.length ≤ 16 := by
      by_cases k : (s.length : Int) < 1
      · omega
      · rw [dec_no k] at h'; have := of_decide_eq_false h'; omega
    refine cond_not h' (bind_run (mkey_loop s (by omega)) ?_)
    unfold keyS
    rw [h, Bool.true_and]
    cases s.all nameC <;> rfl

theorem r5key_loop (s : S8) (hs : s.length ≤ 100) : LL 128 0 lc_128_4 (((List.replicate 42 AV.undef).set 0 (.e (.str s))).set 3 (.e (.int .i64 0))) [] = some (bif s.all nameC then rnX else rnR) := by
  refine scan_all (d := 0) (G := fun i => LL 128 0 lc_128_4 (((List.replicate 42 AV.undef).set 0 (.e (.str s))).set 3 (.e (.int .i64 (i : Int)))) []) ?_ ?_
  · intro i hi r h
    have body := eq_R5KeyL4 RR LL s i
    rw [nat_at, nat_wrap hi (by rw [maxLen_eq]; omega)] at body
    refine loop_of_body (body.trans (cond_run (nat_lt hi) (cond_run (nat_in hi) ?_)))
    have go : LL 128 0 lc_128_4 (((List.replicate 42 AV.undef).set 0 (.e (.str s))).set 3 (.e (.int .i64 ((i + 1 : Nat) : Int)))) [] = some r →
        ((LL 128 0 lc_128_4 (((List.replicate 42 AV.undef).set 0 (.e (.str s))).set 3 (.e (.int .i64 ((i + 1 : Nat) : Int)))) []).bind fun o => some o) = some r := fun h => bind_run h rfl
    have e45 := byte_is (c := s.getD i 0) (n := 45) (by decide)
    change (((s.getD i 0).toNat : Int) == 45) = decide (s.getD i 0 = 45) at e45
    rw [e45]
    generalize s.getD i 0 = c at h ⊢
    change (bif lowB c || digB c || decide (c = 45) then _ else some rnR) = some r at h
    change (bif (!lowB c) == true then _ else _) = _
    cases hl : lowB c with
    | true => rw [hl] at h; exact cond_not rfl (go h)
    | false =>
      rw [hl] at h
      refine cond_run rfl ?_
      unfold digB at h
      by_cases h48 : (48 : Int) ≤ c.toNat
      · rw [dec_yes h48] at h ⊢
        refine cond_run rfl ?_
        by_cases h57 : (c.toNat : Int) ≤ 57
        · rw [dec_yes h57] at h ⊢
          exact cond_not rfl (go h)
        · rw [dec_no h57] at h ⊢
          by_cases h45 : c = 45
          · rw [dec_yes h45] at h ⊢; exact cond_not rfl (go h)
          · rw [dec_no h45] at h ⊢; exact cond_run rfl h
      · rw [dec_no h48] at h ⊢
        refine cond_not rfl ?_
        by_cases h45 : c = 45
        · rw [dec_yes h45] at h ⊢; exact cond_not rfl (go h)
        · rw [dec_no h45] at h ⊢; exact cond_run rfl h
  · exact loop_of_body ((eq_R5KeyL4 RR LL s s.length).trans (cond_not (nat_end _) rfl))
theorem R5Key_run (s : S8) : RR none 128 [str s] [] = some (.ret (yes (keyS s)), []) := by
  refine run_of_body ((eq_R5Key RR LL s).trans ?_)
  cases h : len16 s with
  | false =>
    refine cond_run (unnot h) ?_
    unfold keyS; rw [h]; rfl
  | true =>
    have h' : (bif decide ((s.length : Int) < 1) then true else decide (16 < (s.length : Int))) = false := unnot' h
    have hl : s.length ≤ 16 := by
      by_cases k : (s.length : Int) < 1
      · omega
      · rw [dec_no k] at h'; have := of_decide_eq_false h'; omega
    refine cond_not h' (bind_run (r5key_loop s (by omega)) ?_)
    unfold keyS
    rw [h, Bool.true_and]
    cases s.all nameC <;> rfl

/-! ### Topics -/

theorem runes_byte {s : S8} {p : Nat} (h : p < s.length) (c : Nat) (hc : c < 128) :
    (((Utf8.decode ⟨s.toArray⟩ p).fst : Int) == (c : Int)) = decide (s.getD p 0 = UInt8.ofNat c) := by
  by_cases ha : (s.getD p 0).toNat < 128
  · rw [dec_lo h ha]; exact byte_is (by omega)
  · obtain ⟨h1, _⟩ := dec_hi h (by omega)
    rw [dec_no (fun e => ha (by rw [e]; simp; omega))]
    simp; omega
theorem runes_step {s : S8} {p : Nat} (h : p < s.length) (ha : (s.getD p 0).toNat < 128) : (Utf8.decode ⟨s.toArray⟩ p).2 = 1 := by rw [dec_lo h ha]

def szX (n : Int) : Out := { ex := .exit 0, fr := [AV.undef, AV.undef, AV.undef, num n] ++ List.replicate 24 AV.undef, hp := [], df := [] }
def szR : Out := { ex := .ret, fr := [AV.undef, AV.undef, yes false] ++ List.replicate 25 AV.undef, hp := [], df := [] }
def szF (n : Nat) (c : UInt8) : Option Nat := if c = 0 then none else if c = 47 then some (n + 1) else some n
theorem szF_all : ∀ (s : S8) (n : Nat), s.foldlM szF n = if 0 ∈ s then none else some (n + s.countP (fun b => decide (b = 47))) := by
  intro s
  induction s with
  | nil => intro n; rfl
  | cons c s ih =>
    intro n
    rw [List.foldlM_cons]
    unfold szF
    by_cases h0 : c = 0
    · rw [if_pos h0, if_pos (by rw [h0]; simp)]; rfl
    rw [if_neg h0]
    have hm : (0 ∈ c :: s) ↔ 0 ∈ s := by
      rw [List.mem_cons]
      exact ⟨fun h => h.elim (fun e => absurd e.symm h0) id, .inr⟩
    by_cases h47 : c = 47
    · rw [if_pos h47]
      show s.foldlM szF (n + 1) = _
      rw [ih, List.countP_cons, if_pos (show decide (c = 47) = true by simpa using h47)]
      by_cases hz : (0 : UInt8) ∈ s
      · rw [if_pos hz, if_pos (hm.2 hz)]
      · rw [if_neg hz, if_neg (fun h => hz (hm.1 h))]
        congr 1; omega
    · rw [if_neg h47]
      show s.foldlM szF n = _
      rw [ih, List.countP_cons, if_neg (show ¬ decide (c = 47) = true by simpa using h47)]
      by_cases hz : (0 : UInt8) ∈ s
      · rw [if_pos hz, if_pos (hm.2 hz)]
      · rw [if_neg hz, if_neg (fun h => hz (hm.1 h))]
        congr 1

theorem sized_loop (s : S8) (hs : s.length ≤ 1000) : LL 127 0 lc_127_5 (((List.replicate 28 AV.undef).set 3 (.e (.int .i64 1))).set 15 (.itr 0)) [.raw (.iter s 0)] =
    some ((s.foldlM szF 0).elim szR fun k => szX (1 + (k : Int))) := by
  refine (runes_scan (s := s) (St := Nat) (f := szF) (bad := szR) (fin := fun k => szX (1 + (k : Int))) (I := fun p k => k ≤ p)
    (G := fun p k => LL 127 0 lc_127_5 (((List.replicate 28 AV.undef).set 3 (.e (.int .i64 (1 + (k : Int))))).set 15 (.itr 0)) [.raw (.iter s p)]) ?_ ?_ ?_ ?_ ?_ 0 (Nat.le_refl 0))
  · intro p k hp hk r h
    have e0 := runes_byte hp 0 (by decide)
    have e47 := runes_byte hp 47 (by decide)
    change (_ == 0) = decide (s.getD p 0 = 0) at e0
    change (_ == 47) = decide (s.getD p 0 = 47) at e47
    have body := eq_sizedL5 RR LL (1 + (k : Int)) s p
    rw [e0, e47] at body
    refine loop_of_body (body.trans (cond_run (dec_yes hp) ?_))
    by_cases ha : (s.getD p 0).toNat < 128
    · rw [dec_yes ha] at h
      rw [runes_step hp ha]
      unfold szF at h
      by_cases h0 : s.getD p 0 = 0
      · rw [if_pos h0] at h; exact cond_run (dec_yes h0) h
      rw [if_neg h0] at h
      refine cond_not (dec_no h0) ?_
      by_cases h47 : s.getD p 0 = 47
      · rw [if_pos h47] at h
        refine cond_run (dec_yes h47) ?_
        rw [wrap_in (by omega) (by omega)]
        refine bind_run (Eq.trans ?_ h) rfl
        show LL 127 0 lc_127_5 _ _ = LL 127 0 lc_127_5 _ _
        rw [show (1 + (k : Int) + 1) = 1 + ((k + 1 : Nat) : Int) by omega]
        rfl
      · rw [if_neg h47] at h
        exact cond_not (dec_no h47) (bind_run h rfl)
    · rw [dec_no ha] at h
      exact cond_not (dec_no (fun e => ha (by rw [e]; decide))) (cond_not (dec_no (fun e => ha (by rw [e]; decide))) (bind_run h rfl))
  · intro k c hc
    unfold szF
    rw [if_neg (by rintro rfl; revert hc; decide), if_neg (by rintro rfl; revert hc; decide)]
  · intro p k c k' hk h
    unfold szF at h
    split at h
    · cases h
    · split at h <;> injection h with h <;> omega
  · intro p q k h1 h2; omega
  · intro k _
    exact loop_of_body ((eq_sizedL5 RR LL (1 + (k : Int)) s s.length).trans (cond_not (dec_no (Nat.lt_irrefl _)) rfl))
theorem len64_iff (s : S8) : (bif decide ((s.length : Int) < 1) then true else decide (64 < (s.length : Int))) = !len64 s := by unfold len64; rw [Bool.not_not]
theorem sized_run (s : S8) : RR none 127 [str s] [] = some (.ret (yes (sizedS s)), []) := by
  refine run_of_body ((eq_sized RR LL s).trans ?_)
  rw [len64_iff]
  unfold sizedS
  cases h : len64 s with
  | false => exact cond_run rfl rfl
  | true =>
    have hl : s.length ≤ 64 := by
      have h' := unnot' h
      by_cases k : (s.length : Int) < 1
      · omega
      · rw [dec_no k] at h'; have := of_decide_eq_false h'; omega
    refine cond_not rfl (bind_run (sized_loop s (by omega)) ?_)
    rw [szF_all]
    by_cases h0 : (0 : UInt8) ∈ s
    · rw [if_pos h0, has_iff.2 h0]; rfl
    · have hf : hasB 0 s = false := by cases hh : hasB 0 s with | false => rfl | true => exact absurd (has_iff.1 hh) h0
      rw [if_neg h0, hf, split_len]
      show some (Res.ret (yes (decide (1 + ((0 + s.countP (fun b => decide (b = 47)) : Nat) : Int) ≤ 8))), ([] : Heap)) = some (Res.ret (yes (decide (((s.countP (fun b => decide (b = 47)) + 1 : Nat) : Int) ≤ 8))), [])
      rw [show (1 + ((0 + s.countP (fun b => decide (b = 47)) : Nat) : Int)) = ((s.countP (fun b => decide (b = 47)) + 1 : Nat) : Int) by omega]

def vlX : Out := { ex := .exit 0, fr := List.replicate 19 AV.undef, hp := [], df := [] }
def vlR : Out := { ex := .ret, fr := [AV.undef, AV.undef, yes false] ++ List.replicate 16 AV.undef, hp := [], df := [] }
def vlF (_ : Unit) (c : UInt8) : Option Unit := if c = 43 ∨ c = 35 then none else some ()
theorem vlF_all : ∀ (s : S8), s.foldlM vlF () = if 43 ∈ s ∨ 35 ∈ s then none else some () := by
  intro s
  induction s with
  | nil => rfl
  | cons c s ih =>
    rw [List.foldlM_cons]
    unfold vlF
    by_cases h : c = 43 ∨ c = 35
    · rw [if_pos h, if_pos (by rcases h with rfl | rfl <;> simp)]; rfl
    · rw [if_neg h]
      show s.foldlM vlF () = _
      rw [ih]
      rw [not_or] at h
      by_cases k : 43 ∈ s ∨ 35 ∈ s
      · rw [if_pos k, if_pos (by rcases k with k | k <;> simp [k])]
      · rw [if_neg k, if_neg]
        rw [not_or] at k
        rintro (e | e)
        · rcases List.mem_cons.1 e with e | e
          · exact h.1 e.symm
          · exact k.1 e
        · rcases List.mem_cons.1 e with e | e
          · exact h.2 e.symm
          · exact k.2 e
theorem valid_loop (s : S8) : LL 109 0 lc_109_4 ((List.replicate 19 AV.undef).set 9 (.itr 0)) [.raw (.iter s 0)] = some ((s.foldlM vlF ()).elim vlR fun _ => vlX) := by
  refine (runes_scan (s := s) (St := Unit) (f := vlF) (bad := vlR) (fin := fun _ => vlX) (I := fun _ _ => True)
    (G := fun p _ => LL 109 0 lc_109_4 ((List.replicate 19 AV.undef).set 9 (.itr 0)) [.raw (.iter s p)]) ?_ ?_ ?_ ?_ ?_ () trivial)
  · intro p k hp _ r h
    have e43 := runes_byte hp 43 (by decide)
    have e35 := runes_byte hp 35 (by decide)
    change (_ == 43) = decide (s.getD p 0 = 43) at e43
    change (_ == 35) = decide (s.getD p 0 = 35) at e35
    have body := eq_ValidL4 RR LL s p
    rw [e43, e35] at body
    refine loop_of_body (body.trans (cond_run (dec_yes hp) ?_))
    by_cases ha : (s.getD p 0).toNat < 128
    · rw [dec_yes ha] at h
      rw [runes_step hp ha]
      unfold vlF at h
      by_cases h1 : s.getD p 0 = 43 ∨ s.getD p 0 = 35
      · rw [if_pos h1] at h
        refine cond_run ?_ h
        rcases h1 with h1 | h1
        · rw [dec_yes h1]; rfl
        · rw [dec_yes h1]; cases decide (s.getD p 0 = 43) <;> rfl
      · rw [if_neg h1] at h
        rw [not_or] at h1
        exact cond_not (by rw [dec_no h1.1, dec_no h1.2]; rfl) (bind_run h rfl)
    · rw [dec_no ha] at h
      refine cond_not ?_ (bind_run h rfl)
      rw [dec_no (fun e => ha (by rw [e]; decide)), dec_no (fun e => ha (by rw [e]; decide))]; rfl
  · intro k c hc
    unfold vlF
    rw [if_neg (by rintro (rfl | rfl) <;> revert hc <;> decide)]
  · intros; trivial
  · intros; trivial
  · intro k _
    exact loop_of_body ((eq_ValidL4 RR LL s s.length).trans (cond_not (dec_no (Nat.lt_irrefl _)) rfl))
theorem Valid_run (s : S8) : RR none 109 [str s] [] = some (.ret (yes (validS s)), []) := by
  refine run_of_body ((eq_Valid RR LL s).trans (bind_run (sized_run s) (cond_run rfl (cond_run (okB _) ?_))))
  unfold validS
  cases h : sizedS s with
  | false => exact cond_run rfl rfl
  | true =>
    refine cond_not rfl (bind_run (valid_loop s) ?_)
    rw [vlF_all]
    by_cases k : 43 ∈ s ∨ 35 ∈ s
    · rw [if_pos k]
      have : (true && !hasB 43 s && !hasB 35 s) = false := by
        rcases k with k | k
        · rw [has_iff.2 k]; rfl
        · rw [has_iff.2 k]; cases hasB 43 s <;> rfl
      rw [this]; rfl
    · rw [if_neg k]
      rw [not_or] at k
      have h1 : hasB 43 s = false := by cases hh : hasB 43 s with | false => rfl | true => exact absurd (has_iff.1 hh) k.1
      have h2 : hasB 35 s = false := by cases hh : hasB 35 s with | false => rfl | true => exact absurd (has_iff.1 hh) k.2
      rw [h1, h2]; rfl

end Go.Proofs.YtmocefjnplmibaaGreatDoor
