/- Hidden: what covers a filter that matches, matches. -/
import Derived.Test.YtapndkailgcboaaGreatDoorRe
namespace Go.Proofs.YtapndkailgcboaaGreatDoor
open Go Go.Den
set_option maxRecDepth 100000
namespace Top
open Go.Den.Zm

def cvL (fs gs : List E) : Nat → Nat → Bool
  | 0, _ => decide (fs.length = gs.length)
  | k + 1, i => if strEq (lv fs i) [35] = true then true else if i = gs.length then false else if strEq (lv fs i) [43] = true then (!strEq (lv gs i) [35] && cvL fs gs k (i + 1)) else (strEq (lv fs i) (lv gs i) && cvL fs gs k (i + 1))
def coverS (f g : S8) : Bool := filterS f && filterS g && !(wildB f && sysB g) && cvL (lvs f) (lvs g) (lvs f).length 0

theorem rcovs_run (fs gs : List E) (hf : fs.length ≤ 1000) (hg : gs.length ≤ 1000) : ∀ (k i : Nat), i + k = fs.length → i ≤ gs.length →
    RR none 54 [.e (.sl 9 fs), .e (.sl 9 gs), num (i : Int)] [] = some (.ret (yes (cvL fs gs k i)), []) := by
  intro k
  induction k with
  | zero =>
    intro i h him
    have : i = fs.length := by omega
    subst this
    refine run_of_body ((eq_rcovs RR LL fs gs fs.length).trans (cond_not (by rw [nat_end]; rfl) ?_))
    rw [show ((fs.length : Int) == (fs.length : Int)) = true from beq_self_eq_true _]
    refine cond_run rfl ?_
    unfold cvL
    show some (Res.ret (yes ((fs.length : Int) == (gs.length : Int))), ([] : Heap)) = _
    rw [int_eq_dec]
  | succ k ih =>
    intro i h him
    have hi : i < fs.length := by omega
    have body := eq_rcovs RR LL fs gs i
    have w : IntKind.i64.wrap ((i : Int) + 1) = ((i + 1 : Nat) : Int) := by rw [wrap_in (by omega) (by omega)]; omega
    have hn : ((i : Int) == (fs.length : Int)) = false := by rw [int_eq_dec]; exact dec_no (by omega)
    rw [nat_at, w, hn] at body
    unfold cvL
    refine run_of_body (body.trans (cond_run (by rw [nat_lt hi]; rfl) (cond_run (nat_in hi) ?_)))
    by_cases h35 : strEq (lv fs i) [35] = true
    · rw [if_pos h35]; exact cond_run h35 rfl
    rw [if_neg h35]
    have h35' : strEq (lv fs i) [35] = false := by simpa using h35
    refine cond_not h35' ?_
    by_cases hm : i = gs.length
    · rw [if_pos hm]
      exact cond_run (show ((i : Int) == (gs.length : Int)) = true by rw [int_eq_dec]; exact dec_yes hm) rfl
    rw [if_neg hm]
    have hj : i < gs.length := by omega
    refine cond_not (show ((i : Int) == (gs.length : Int)) = false by rw [int_eq_dec]; exact dec_no hm) (cond_run (nat_in hi) ?_)
    have r := ih (i + 1) (by omega) (by omega)
    show (bif strEq (lv fs i) [43] then _ else _) = _
    cases h43 : strEq (lv fs i) [43] with
    | true =>
      rw [if_pos rfl]
      refine cond_run rfl (cond_run (nat_in hj) ?_)
      show (bif (!strEq (lv gs i) [35]) == true then _ else _) = _
      cases strEq (lv gs i) [35] with
      | true => exact cond_not rfl rfl
      | false => exact cond_run rfl (bind_run r (cond_run rfl (cond_run (okB _) rfl)))
    | false =>
      rw [if_neg (by simp)]
      refine cond_not rfl (cond_run (nat_in hi) (cond_run (nat_in hj) ?_))
      show (bif strEq (lv fs i) (lv gs i) == true then _ else _) = _
      cases strEq (lv fs i) (lv gs i) with
      | false => exact cond_not rfl rfl
      | true => exact cond_run rfl (bind_run r (cond_run rfl (cond_run (okB _) rfl)))

theorem RCovers_run (f g : S8) : RR none 28 [str f, str g] [] = some (.ret (yes (coverS f g)), []) := by
  refine run_of_body ((eq_RCovers RR LL f g).trans (bind_run (RFilter_run f) (cond_run rfl (cond_run (okB _) ?_))))
  unfold coverS
  show (bif (!filterS f) == false then _ else _) = _
  cases hf : filterS f with
  | false => exact cond_not rfl rfl
  | true =>
  refine cond_run rfl (bind_run (RFilter_run g) (cond_run rfl (cond_run (okB _) ?_)))
  show (bif !filterS g then _ else _) = _
  cases hv : filterS g with
  | false => exact cond_run rfl rfl
  | true =>
  have sf := filter_sized hf
  have st := filter_sized hv
  have lf := sized_len sf
  have lt := sized_len st
  have r := rcovs_run (lvs f) (lvs g) (by have := lvs_len sf; omega) (by have := lvs_len st; omega) (lvs f).length 0 (by omega) (by omega)
  refine cond_not rfl (bind_run (Levels_run f (by omega)) (cond_run rfl (cond_run (okL _) (bind_run (rwild_run f) (cond_run rfl (cond_run (okB _) ?_))))))
  show (bif wildB f == true then _ else _) = _
  cases wildB f with
  | false => exact cond_not rfl (bind_run (Levels_run g (by omega)) (cond_run rfl (cond_run (okL _) (bind_run r (cond_run rfl (cond_run (okB _) rfl))))))
  | true =>
  refine cond_run rfl (bind_run (rSystem_run g) (cond_run rfl (cond_run (okB _) ?_)))
  show (bif (!sysB g) == true then _ else _) = _
  cases sysB g with
  | true => exact cond_not rfl rfl
  | false => exact cond_run rfl (bind_run (Levels_run g (by omega)) (cond_run rfl (cond_run (okL _) (bind_run r (cond_run rfl (cond_run (okB _) rfl))))))

/-! ### The plain law -/

theorem strEq_iff {a b : S8} : strEq a b = true ↔ a = b := by unfold strEq; exact beq_iff_eq

theorem cv_match (fs gs ts : List E) : ∀ (k k' i : Nat), i + k = fs.length → i + k' = gs.length → cvL fs gs k i = true → mlv gs ts k' i = true → mlv fs ts k i = true := by
  intro k
  induction k with
  | zero =>
    intro k' i h h' hc hm
    unfold cvL at hc
    have e := of_decide_eq_true hc
    have : k' = 0 := by omega
    subst this
    unfold mlv at hm ⊢
    rw [e]; exact hm
  | succ k ih =>
    intro k' i h h' hc hm
    unfold cvL at hc
    unfold mlv
    by_cases h35 : strEq (lv fs i) [35] = true
    · rw [if_pos h35]
    rw [if_neg h35] at hc ⊢
    by_cases hi : i = gs.length
    · rw [if_pos hi] at hc; cases hc
    rw [if_neg hi] at hc
    obtain ⟨k'', rfl⟩ : ∃ k'', k' = k'' + 1 := ⟨k' - 1, by omega⟩
    unfold mlv at hm
    by_cases h43 : strEq (lv fs i) [43] = true
    · rw [if_pos h43, Bool.and_eq_true] at hc
      have g35 : ¬ strEq (lv gs i) [35] = true := by
        intro k; rw [k] at hc; cases hc.1
      rw [if_neg g35] at hm
      by_cases ht : i = ts.length
      · rw [if_pos ht] at hm; cases hm
      rw [if_neg ht] at hm ⊢
      rw [if_pos (.inl h43)]
      split at hm
      · exact ih k'' (i + 1) (by omega) (by omega) hc.2 hm
      · cases hm
    · rw [if_neg h43, Bool.and_eq_true] at hc
      have e := strEq_iff.1 hc.1
      rw [← e, if_neg h35] at hm
      by_cases ht : i = ts.length
      · rw [if_pos ht] at hm; cases hm
      rw [if_neg ht] at hm ⊢
      split at hm
      · rename_i hq
        rw [if_pos hq]
        exact ih k'' (i + 1) (by omega) (by omega) hc.2 hm
      · cases hm

theorem sys_head (s : S8) : sysB s = true ↔ (lv (lvs s) 0).getD 0 0 = 36 := by
  have key : sysB s = true ↔ s.getD 0 0 = 36 := by
    unfold sysB
    cases s with
    | nil => simp
    | cons c s =>
      have := byte_is (c := c) (n := 36) (by decide)
      change ((c.toNat : Int) == 36) = decide (c = 36) at this
      rw [dec_yes (show (0 : Int) < ((c :: s).length : Int) by simp)]
      show ((c.toNat : Int) == 36) = true ↔ c = 36
      rw [this]; exact decide_eq_true_iff
  rw [key]
  show s.getD 0 0 = 36 ↔ (((((splitAt 47 s).map E.str).getD 0 E.nili).cell 0).toStr).getD 0 0 = 36
  cases s with
  | nil => simp [splitAt, E.cell, E.cells, E.toStr]
  | cons c s =>
    unfold splitAt
    by_cases h : c = 47
    · rw [if_pos h]; subst h
      simp [E.cell, E.cells, E.toStr]
    · rw [if_neg h]
      cases splitAt 47 s <;> simp [E.cell, E.cells, E.toStr]

theorem cover_match {f g t : S8} (hc : coverS f g = true) (hm : matchS g t = true) : matchS f t = true := by
  unfold coverS at hc
  unfold matchS at hm ⊢
  rw [Bool.and_eq_true, Bool.and_eq_true, Bool.and_eq_true] at hc hm
  rw [Bool.and_eq_true, Bool.and_eq_true, Bool.and_eq_true]
  obtain ⟨⟨⟨c1, c2⟩, c3⟩, c4⟩ := hc
  obtain ⟨⟨⟨m1, m2⟩, m3⟩, m4⟩ := hm
  refine ⟨⟨⟨c1, m2⟩, ?_⟩, cv_match _ _ _ _ _ 0 (by omega) (by omega) c4 m4⟩
  cases hw : wildB f with
  | false => rfl
  | true =>
    cases hs : sysB t with
    | false => rfl
    | true =>
      exfalso
      rw [hw] at c3
      rw [hs] at m3
      have hg : sysB g = false := by cases h : sysB g with | false => rfl | true => rw [h] at c3; cases c3
      have hwg : wildB g = false := by cases h : wildB g with | false => rfl | true => rw [h] at m3; cases m3
      unfold wildB at hwg
      rw [Bool.or_eq_false_iff] at hwg
      obtain ⟨k, hk⟩ : ∃ k, (lvs g).length = k + 1 := ⟨(lvs g).length - 1, by have := lvs_pos g; omega⟩
      rw [hk] at m4
      unfold mlv at m4
      rw [if_neg (by rw [hwg.2]; simp), if_neg (by have := lvs_pos t; omega)] at m4
      split at m4
      · rename_i h
        rcases h with h | h
        · rw [hwg.1] at h; cases h
        · have e := strEq_iff.1 h
          have h36 := (sys_head t).1 hs
          rw [← e] at h36
          rw [(sys_head g).2 h36] at hg
          cases hg
      · cases m4
end Top

/-! ### Names are unique -/

theorem ck_none {xs : List E} (h : CheckR xs = 0) : ∀ i, i < xs.length → ckAt xs i = none := by
  unfold CheckR at h
  by_cases h32 : 32 < xs.length
  · rw [if_pos h32] at h; cases h
  rw [if_neg h32] at h
  have hn : firstO (ckAt xs) xs.length 0 = none := by
    cases hf : firstO (ckAt xs) xs.length 0 with
    | none => rfl
    | some c =>
      rw [hf] at h
      have : c = 0 := h
      subst this
      exfalso
      have : ∀ k i, firstO (ckAt xs) k i ≠ some 0 := by
        intro k
        induction k with
        | zero => intro i h; cases h
        | succ k ih =>
          intro i h
          unfold firstO at h
          cases hc : ckAt xs i with
          | none => rw [hc] at h; exact ih _ h
          | some y =>
            rw [hc] at h
            injection h with h
            subst h
            unfold ckAt at hc
            split at hc
            · split at hc
              · cases hc
              · rename_i k; injection hc with hc; exact k hc
            · rename_i k; injection hc with hc; exact k hc
      exact this _ _ hf
  exact fun i hi => firstO_none.1 hn i (by omega) (by omega)

theorem names_apart {xs : List E} (h : CheckR xs = 0) {i j : Nat} (hi : i < xs.length) (hj : j < i) : sN (xs.getD j E.nili) ≠ sN (xs.getD i E.nili) := by
  have hc := ck_none h i hi
  unfold ckAt at hc
  split at hc
  · rename_i hd
    have h0 : ¬ 0 ≤ ixS (nq (sN (xs.getD i E.nili))) (xs.take i) := by
      intro k
      unfold descE at hd
      rw [dec_yes k] at hd
      cases hn : nameS (sN (xs.getD i E.nili)) <;> rw [hn] at hd <;> cases hd
    intro e
    rcases ixS_cases (nq (sN (xs.getD i E.nili))) (xs.take i) with ⟨_, g2⟩ | ⟨l, g1, _⟩
    · have := g2 j (by rw [List.length_take]; omega)
      have tk : (xs.take i).getD j E.nili = xs.getD j E.nili := by
        rw [List.getD_eq_getElem?_getD, List.getD_eq_getElem?_getD, List.getElem?_take, if_pos hj]
      rw [tk] at this
      unfold nq at this
      rw [e] at this
      simp [strEq] at this
    · rw [g1] at h0; omega
  · cases hc

/-! ### The law's loops -/

def hdX : Out := { ex := .exit 0, fr := List.replicate 60 AV.undef, hp := [], df := [] }
theorem hd_inner (xs : List E) (x : E) (b : Bool) (i : Nat) (hi : i < xs.length) (hl : xs.length ≤ 1000) (hno : ∀ e, e < i → strEq (sN (xs.getD i E.nili)) (sN x) = true → Top.coverS (sF (xs.getD e E.nili)) (sF (xs.getD i E.nili)) = false) :
    LL 8 0 lc_8_8 ((((((List.replicate 60 AV.undef).set 0 (.e (.sl 46 xs))).set 5 (.ptr 0 0)).set 6 (.e (.bool b))).set 7 (.e (.int .i64 (i : Int)))).set 8 (.e (.int .i64 0))) [.box [str (sN x), str (sF x), num (sM x), .e (.sl 31 (sV x))]] =
      some { ex := .exit 2, fr := [.e (.sl 46 xs), AV.undef, AV.undef, AV.undef, AV.undef, AV.ptr 0 0, yes b, num (i : Int)] ++ List.replicate 52 AV.undef, hp := [.box [str (sN x), str (sF x), num (sM x), .e (.sl 31 (sV x))]], df := [] } := by
  refine scan_to (n := i) (G := fun e => LL 8 0 lc_8_8 ((((((List.replicate 60 AV.undef).set 0 (.e (.sl 46 xs))).set 5 (.ptr 0 0)).set 6 (.e (.bool b))).set 7 (.e (.int .i64 (i : Int)))).set 8 (.e (.int .i64 (e : Int)))) [.box [str (sN x), str (sF x), num (sM x), .e (.sl 31 (sV x))]]) ?_ ?_
  · intro e he r h
    have body := eq_LHiddenL8 RR LL xs b i e (sN x) (sF x) (sM x) (sV x)
    have w : IntKind.i64.wrap ((e : Int) + 1) = ((e + 1 : Nat) : Int) := by rw [wrap_in (by omega) (by omega)]; omega
    rw [nat_at, nat_at, w] at body
    refine loop_of_body (body.trans (cond_run (nat_lt he) (cond_run (nat_in hi) ?_)))
    have hn := hno e he
    show (bif strEq (sN (xs.getD i E.nili)) (sN x) == true then _ else _) = _
    cases hq : strEq (sN (xs.getD i E.nili)) (sN x) with
    | false => exact cond_not rfl (bind_run h rfl)
    | true =>
      refine cond_run rfl (cond_run (nat_in (by omega)) (cond_run (nat_in hi) (callB (Top.RCovers_run _ _) ?_)))
      show (bif Top.coverS (sF (xs.getD e E.nili)) (sF (xs.getD i E.nili)) then _ else _) = _
      rw [hn hq]
      exact cond_not rfl (bind_run h rfl)
  · have body := eq_LHiddenL8 RR LL xs b i i (sN x) (sF x) (sM x) (sV x)
    exact loop_of_body (body.trans (cond_not (nat_end _) rfl))

theorem hd_outer (xs : List E) (x : E) (hl : xs.length ≤ 1000) (hno : ∀ i e, i < xs.length → e < i → strEq (sN (xs.getD i E.nili)) (sN x) = true → Top.coverS (sF (xs.getD e E.nili)) (sF (xs.getD i E.nili)) = false) :
    LL 8 0 lc_8_5 (((((List.replicate 60 AV.undef).set 0 (.e (.sl 46 xs))).set 5 (.ptr 0 0)).set 6 (.e (.bool true))).set 7 (.e (.int .i64 0))) [.box [str (sN x), str (sF x), num (sM x), .e (.sl 31 (sV x))]] = some hdX := by
  refine scan_to (n := xs.length) (G := fun i => LL 8 0 lc_8_5 (((((List.replicate 60 AV.undef).set 0 (.e (.sl 46 xs))).set 5 (.ptr 0 0)).set 6 (.e (.bool true))).set 7 (.e (.int .i64 (i : Int)))) [.box [str (sN x), str (sF x), num (sM x), .e (.sl 31 (sV x))]]) ?_ ?_
  · intro i hi r h
    have body := eq_LHiddenL5 RR LL xs true i (sN x) (sF x) (sM x) (sV x)
    have inner := hd_inner xs x true i hi hl (fun e he => hno i e hi he)
    refine loop_of_body (body.trans (cond_run (show (bif true then decide ((i : Int) < (xs.length : Int)) else false) = true from nat_lt hi) (bind_run inner (cond_run rfl (cond_run rfl ?_)))))
    have w : IntKind.i64.wrap ((i : Int) + 1) = ((i + 1 : Nat) : Int) := by rw [wrap_in (by omega) (by omega)]; omega
    show (Option.bind (LL 8 0 lc_8_5 ([AV.e (E.sl 46 xs), AV.undef, AV.undef, AV.undef, AV.undef, AV.ptr 0 0, yes true, num (IntKind.i64.wrap ((i : Int) + 1))] ++ List.replicate 52 AV.undef) [.box [str (sN x), str (sF x), num (sM x), .e (.sl 31 (sV x))]]) fun o => some o) = _
    rw [w]
    exact bind_run h rfl
  · exact loop_of_body ((eq_LHiddenL5 RR LL xs true xs.length (sN x) (sF x) (sM x) (sV x)).trans (cond_not (show (bif true then decide ((xs.length : Int) < (xs.length : Int)) else false) = false from nat_end _) rfl))

theorem LHidden_run {xs : List E} (t : List UInt8) (hs : ∀ x ∈ xs, Su x) (hl : xs.length ≤ maxLen) : RR none 8 [.e (.sl 46 xs), str t] [] = some (.ret (yes true), []) := by
  obtain ⟨b, hb⟩ := Light_run hs hl
  refine run_of_body ((eq_LHidden RR LL xs t).trans (callB hb ?_))
  cases b with
  | false => exact cond_not rfl rfl
  | true =>
  refine cond_run rfl (callE (RCheckR_run hs) ?_)
  by_cases z : CheckR xs = 0
  · refine cond_not (b := !(CheckR xs == 0)) (by rw [eq_beq z]; rfl) ?_
    obtain ⟨h32, hsm⟩ := ck_small hs z
    refine bind_run (Find_run t (by omega) hsm) (cond_run rfl (cond_run (by kernel_rfl) ?_))
    have outer : LL 8 0 lc_8_5 (((((List.replicate 60 AV.undef).set 0 (.e (.sl 46 xs))).set 5 (.ptr 0 0)).set 6 (.e (.bool (fndB xs t)))).set 7 (.e (.int .i64 0))) [.box [str (sN (fndE xs t)), str (sF (fndE xs t)), num (sM (fndE xs t)), .e (.sl 31 (sV (fndE xs t)))]] = some hdX := by
      unfold fndB fndE
      rcases ixS_cases (mq t) xs with ⟨h1, _⟩ | ⟨j, h1, h2, h3, h4⟩
      · rw [h1]
        exact loop_of_body ((eq_LHiddenL5 RR LL xs false 0 [] [] 0 []).trans (cond_not rfl rfl))
      · rw [h1, if_pos (show (0 : Int) ≤ (j : Int) by omega), nat_at, dec_yes (show (0 : Int) ≤ (j : Int) by omega)]
        refine hd_outer xs _ (by omega) fun i e hi he hq => ?_
        have hij : i = j := by
          have e1 := Top.strEq_iff.1 hq
          by_cases a : i < j
          · exact absurd e1 (names_apart z h2 a)
          · by_cases b : j < i
            · exact absurd e1.symm (names_apart z hi b)
            · omega
        subst hij
        cases hc : Top.coverS (sF (xs.getD e E.nili)) (sF (xs.getD i E.nili)) with
        | false => rfl
        | true =>
          have := h4 e he
          unfold mq at this h3
          rw [Top.cover_match hc h3] at this
          cases this
    exact bind_run outer (cond_run rfl (cond_run rfl rfl))
  · exact cond_run (b := !(CheckR xs == 0)) (by rw [ne_beq z]; rfl) rfl

theorem hidden_law : LawRuns Tryz.prog HH 8 [22, 9] := by
  refine lawRuns_of fun ess he => ?_
  obtain ⟨e0, _, rfl, h0, he⟩ := he.cons_inv
  obtain ⟨e1, _, rfl, h1, he⟩ := he.cons_inv
  cases he.nil_inv
  obtain ⟨xs, a0, hs, hl⟩ := reg_param h0
  obtain ⟨s, _, a1⟩ := str_param h1
  simp only [List.zipWith_cons_cons, List.zipWith_nil_left, a0, a1]
  exact LHidden_run s hs hl

end Go.Proofs.YtapndkailgcboaaGreatDoor
