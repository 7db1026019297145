/- Filters: the program's and the reference's. -/
import Derived.Test.YtapndkailgcboaaGreatDoorTa
namespace Go.Proofs.YtapndkailgcboaaGreatDoor.Top
open Go Go.Den Go.Den.Zm
set_option maxRecDepth 100000

abbrev lv (es : List E) (i : Nat) : S8 := ((es.getD i E.nili).cell 0).toStr
def lvlOk (s : S8) (last : Bool) : Bool := !(hasB 43 s && !strEq s [43]) && !(hasB 35 s && (!strEq s [35] || !last))
def goodL (es : List E) : Bool := allFrom (fun i => lvlOk (lv es i) (decide (i + 1 = es.length))) es.length 0
def filterS (s : S8) : Bool := sizedS s && goodL ((splitAt 47 s).map E.str)

theorem split_le (c : UInt8) : ∀ (s : S8), ∀ x ∈ splitAt c s, x.length ≤ s.length := by
  intro s
  induction s with
  | nil => intro x hx; simp [splitAt] at hx; subst hx; simp
  | cons b s ih =>
    intro x hx
    unfold splitAt at hx
    split at hx
    · rcases List.mem_cons.1 hx with rfl | hx
      · simp
      · have := ih x hx; simp; omega
    · split at hx
      · simp at hx; subst hx; simp
      · rename_i y ys hy
        rcases List.mem_cons.1 hx with rfl | hx
        · have := ih y (by rw [hy]; simp)
          simp; omega
        · have := ih x (by rw [hy]; simp [hx])
          simp; omega

/-! ### The program's -/

def flF (p q : Bool) (_ : Unit) (c : UInt8) : Option Unit := if (c = 43 ∧ p = true) ∨ (c = 35 ∧ q = true) then none else some ()
theorem flF_all (p q : Bool) : ∀ (s : S8), s.foldlM (flF p q) () = if (43 ∈ s ∧ p = true) ∨ (35 ∈ s ∧ q = true) then none else some () := by
  intro s
  induction s with
  | nil => rfl
  | cons c s ih =>
    rw [List.foldlM_cons]
    unfold flF
    by_cases h : (c = 43 ∧ p = true) ∨ (c = 35 ∧ q = true)
    · rw [if_pos h, if_pos (by rcases h with ⟨rfl, h⟩ | ⟨rfl, h⟩ <;> simp [h])]; rfl
    · rw [if_neg h]
      show s.foldlM (flF p q) () = _
      rw [ih]
      by_cases k : (43 ∈ s ∧ p = true) ∨ (35 ∈ s ∧ q = true)
      · rw [if_pos k, if_pos (by rcases k with ⟨k, h⟩ | ⟨k, h⟩ <;> simp [k, h])]
      · rw [if_neg k, if_neg]
        rintro (⟨e, hp⟩ | ⟨e, hp⟩)
        · rcases List.mem_cons.1 e with e | e
          · exact h (.inl ⟨e.symm, hp⟩)
          · exact k (.inl ⟨e, hp⟩)
        · rcases List.mem_cons.1 e with e | e
          · exact h (.inr ⟨e.symm, hp⟩)
          · exact k (.inr ⟨e, hp⟩)

theorem one_is {s : S8} {c : UInt8} (h : c ∈ s) : (!((s.length : Int) == 1)) = !strEq s [c] := by
  unfold strEq
  by_cases h1 : s.length = 1
  · obtain ⟨x, rfl⟩ := List.length_eq_one_iff.1 h1
    have : c = x := by simpa using h
    subst this
    simp
  · have e1 : ((s.length : Int) == 1) = false := by simp; omega
    have e2 : (s == [c]) = false := by
      cases hh : s == [c] with
      | false => rfl
      | true => rw [eq_of_beq hh] at h1; exact absurd rfl h1
    rw [e1, e2]

theorem lvl_fold (s : S8) (last : Bool) : (s.foldlM (flF (!((s.length : Int) == 1)) ((!((s.length : Int) == 1)) || !last)) ()).isSome = lvlOk s last := by
  rw [flF_all]
  unfold lvlOk
  have h43 : (43 ∈ s ∧ (!((s.length : Int) == 1)) = true) ↔ (hasB 43 s && !strEq s [43]) = true := by
    rw [Bool.and_eq_true, has_iff]
    exact ⟨fun ⟨a, b⟩ => ⟨a, by rw [← one_is a]; exact b⟩, fun ⟨a, b⟩ => ⟨a, by rw [one_is a]; exact b⟩⟩
  have h35 : (35 ∈ s ∧ ((!((s.length : Int) == 1)) || !last) = true) ↔ (hasB 35 s && (!strEq s [35] || !last)) = true := by
    rw [Bool.and_eq_true, has_iff]
    exact ⟨fun ⟨a, b⟩ => ⟨a, by rw [← one_is a]; exact b⟩, fun ⟨a, b⟩ => ⟨a, by rw [one_is a]; exact b⟩⟩
  by_cases k : (43 ∈ s ∧ (!((s.length : Int) == 1)) = true) ∨ (35 ∈ s ∧ ((!((s.length : Int) == 1)) || !last) = true)
  · rw [if_pos k]
    rcases k with k | k
    · rw [h43.1 k]; rfl
    · rw [h35.1 k]; cases (hasB 43 s && !strEq s [43]) <;> rfl
  · rw [if_neg k]
    rw [not_or] at k
    have e1 : (hasB 43 s && !strEq s [43]) = false := by
      cases hh : (hasB 43 s && !strEq s [43]) with
      | false => rfl
      | true => exact absurd (h43.2 hh) k.1
    have e2 : (hasB 35 s && (!strEq s [35] || !last)) = false := by
      cases hh : (hasB 35 s && (!strEq s [35] || !last)) with
      | false => rfl
      | true => exact absurd (h35.2 hh) k.2
    rw [e1, e2]; rfl

abbrev ftF (es : List E) (t4 : Bool) (i : Int) (s : S8) (n : Int) : Fr := ((((((((List.replicate 53 AV.undef).set 3 (.e (.sl 9 es))).set 4 (.e (.bool t4))).set 5 (.e (.int .i64 i))).set 6 (.e (.str s))).set 15 (.e (.sl 9 es))).set 16 (.e (.int .i64 n))).set 17 (.e (.int .i64 i))).set 23 (.itr 0)
def ftX (es : List E) (t4 : Bool) (i n : Int) : Out := { ex := .exit 2, fr := [AV.undef, AV.undef, AV.undef, .e (.sl 9 es), yes t4] ++ List.replicate 10 AV.undef ++ [.e (.sl 9 es), num n, num i] ++ List.replicate 35 AV.undef, hp := [], df := [] }
def ftB (b : Bool) : Out := { ex := .exit 0, fr := [AV.undef, AV.undef, AV.undef, AV.undef, yes b] ++ List.replicate 48 AV.undef, hp := [], df := [] }

theorem ft_inner (es : List E) (t4 : Bool) (i : Nat) (s : S8) (n : Int) (hi : i < es.length) (hl : es.length ≤ 1000) :
    LL 56 0 lc_56_9 (ftF es t4 i s n) [.raw (.iter s 0)] = some (bif lvlOk s (decide (i + 1 = es.length)) then ftX es t4 i n else ftB false) := by
  have key := runes_scan (s := s) (St := Unit) (f := flF (!((s.length : Int) == 1)) ((!((s.length : Int) == 1)) || !decide (i + 1 = es.length))) (bad := ftB false) (fin := fun _ => ftX es t4 i n) (I := fun _ _ => True)
    (G := fun p _ => LL 56 0 lc_56_9 (ftF es t4 i s n) [.raw (.iter s p)]) ?_ ?_ ?_ ?_ ?_ () trivial
  · refine key.trans ?_
    rw [← lvl_fold]
    cases s.foldlM (flF (!((s.length : Int) == 1)) ((!((s.length : Int) == 1)) || !decide (i + 1 = es.length))) () <;> rfl
  · intro p k hp _ r h
    have e43 := runes_byte hp 43 (by decide)
    have e35 := runes_byte hp 35 (by decide)
    change (_ == 43) = decide (s.getD p 0 = 43) at e43
    change (_ == 35) = decide (s.getD p 0 = 35) at e35
    have body := eq_ttFilterL9 RR LL es t4 i s es n i s p
    have hw : IntKind.i64.wrap ((es.length : Int) - 1) = (es.length : Int) - 1 := wrap_in (by omega) (by omega)
    have hd : decide ((i : Int) < (es.length : Int) - 1) = !decide (i + 1 = es.length) := by
      by_cases e : i + 1 = es.length
      · rw [dec_yes e, dec_no (by omega)]; rfl
      · rw [dec_no e, dec_yes (by omega)]; rfl
    rw [e43, e35, hw, hd] at body
    refine loop_of_body (body.trans (cond_run (dec_yes hp) ?_))
    generalize hL1 : (!((s.length : Int) == 1)) = L1 at h ⊢
    generalize (!decide (i + 1 = es.length)) = L2 at h ⊢
    by_cases ha : (s.getD p 0).toNat < 128
    · rw [dec_yes ha] at h
      rw [runes_step hp ha]
      unfold flF at h
      by_cases h43 : s.getD p 0 = 43
      · rw [dec_yes h43]
        have h35 : ¬ s.getD p 0 = 35 := by rw [h43]; decide
        rw [dec_no h35]
        cases L1 with
        | true => rw [if_pos (.inl ⟨h43, rfl⟩)] at h; exact cond_not rfl h
        | false =>
          rw [if_neg (by rintro (⟨_, h⟩ | ⟨h, _⟩); cases h; exact h35 h)] at h
          exact cond_run rfl (cond_not rfl (bind_run h rfl))
      · rw [dec_no h43]
        refine cond_run rfl ?_
        by_cases h35 : s.getD p 0 = 35
        · rw [dec_yes h35]
          refine cond_run rfl ?_
          cases L1 with
          | true => rw [if_pos (.inr ⟨h35, rfl⟩)] at h; exact cond_not rfl h
          | false =>
            refine cond_run rfl ?_
            cases L2 with
            | true => rw [if_pos (.inr ⟨h35, rfl⟩)] at h; exact cond_run rfl h
            | false =>
              rw [if_neg (by rintro (⟨h, _⟩ | ⟨_, h⟩); exact h43 h; cases h)] at h
              exact cond_not rfl (bind_run h rfl)
        · rw [dec_no h35]
          rw [if_neg (by rintro (⟨h, _⟩ | ⟨h, _⟩); exact h43 h; exact h35 h)] at h
          exact cond_not rfl (bind_run h rfl)
    · rw [dec_no ha] at h
      have h43 : ¬ s.getD p 0 = 43 := fun e => ha (by rw [e]; decide)
      have h35 : ¬ s.getD p 0 = 35 := fun e => ha (by rw [e]; decide)
      rw [dec_no h43, dec_no h35]
      exact cond_run rfl (cond_not rfl (bind_run h rfl))
  · intro k c hc
    unfold flF
    rw [if_neg]
    rintro (⟨rfl, _⟩ | ⟨rfl, _⟩) <;> revert hc <;> decide
  · intros; trivial
  · intros; trivial
  · intro k _
    exact loop_of_body ((eq_ttFilterL9 RR LL es t4 i s es n i s s.length).trans (cond_not (dec_no (Nat.lt_irrefl _)) rfl))

theorem ft_outer (es : List E) (hl : es.length ≤ 1000) :
    LL 56 0 lc_56_6 ((((((List.replicate 53 AV.undef).set 3 (.e (.sl 9 es))).set 4 (.e (.bool true))).set 15 (.e (.sl 9 es))).set 16 (.e (.int .i64 (es.length : Int)))).set 17 (.e (.int .i64 0))) [] = some (bif goodL es then ftB true else ftB false) := by
  unfold goodL
  refine scan_ix (G := fun i => LL 56 0 lc_56_6 ((((((List.replicate 53 AV.undef).set 3 (.e (.sl 9 es))).set 4 (.e (.bool true))).set 15 (.e (.sl 9 es))).set 16 (.e (.int .i64 (es.length : Int)))).set 17 (.e (.int .i64 (i : Int)))) []) ?_ ?_
  · intro i hi r h
    have body := eq_ttFilterL6 RR LL es true es es.length i
    have inner := ft_inner es true i (lv es i) es.length hi hl
    rw [nat_at] at body
    refine loop_of_body (body.trans (cond_run (nat_lt hi) (cond_run (nat_in hi) (bind_run inner ?_))))
    cases hk : lvlOk (lv es i) (decide (i + 1 = es.length)) with
    | true =>
      rw [show lvlOk ((es.getD i E.nili).cell 0).toStr (decide (i + 1 = es.length)) = true from hk] at h
      refine cond_run rfl (cond_run rfl ?_)
      have w : IntKind.i64.wrap ((i : Int) + 1) = ((i + 1 : Nat) : Int) := by rw [wrap_in (by omega) (by omega)]; omega
      show (Option.bind (LL 56 0 lc_56_6 ([AV.undef, AV.undef, AV.undef, AV.e (E.sl 9 es), yes true] ++ List.replicate 10 AV.undef ++ [AV.e (E.sl 9 es), num (es.length : Int), num (IntKind.i64.wrap ((i : Int) + 1))] ++ List.replicate 35 AV.undef) []) fun o => some o) = _
      rw [w]
      exact bind_run h rfl
    | false =>
      rw [show lvlOk ((es.getD i E.nili).cell 0).toStr (decide (i + 1 = es.length)) = false from hk] at h
      exact cond_not rfl (cond_run rfl (cond_run rfl h))
  · exact loop_of_body ((eq_ttFilterL6 RR LL es true es es.length es.length).trans (cond_not (nat_end _) rfl))

theorem tLevels_run (s : S8) (hs : s.length ≤ 1000000) : RR none 74 [str s] [] = some (.ret (.e (.sl 9 ((splitAt 47 s).map E.str))), []) :=
  run_of_body ((eq_tLevels RR LL s).trans (cond_run (dec_yes (by omega)) rfl))

theorem sized_split {s : S8} (h : sizedS s = true) : (splitAt 47 s).length ≤ 8 := by
  unfold sizedS at h
  rw [Bool.and_eq_true] at h
  have := of_decide_eq_true h.2
  omega

theorem Filter_run (s : S8) : RR none 56 [str s] [] = some (.ret (yes (filterS s)), []) := by
  refine run_of_body ((eq_ttFilter RR LL s).trans (bind_run (sized_run s) (cond_run rfl (cond_run (okB _) ?_))))
  unfold filterS
  cases h : sizedS s with
  | false => exact cond_run rfl rfl
  | true =>
    have hl := sized_len h
    have fo := ft_outer ((splitAt 47 s).map E.str) (by rw [List.length_map]; have := sized_split h; omega)
    refine cond_not rfl (bind_run (tLevels_run s (by omega)) (cond_run rfl (cond_run (okL _) (bind_run fo ?_))))
    cases goodL ((splitAt 47 s).map E.str) <;> rfl

/-! ### The reference's -/

def rfX : Out := { ex := .exit 0, fr := List.replicate 47 AV.undef, hp := [], df := [] }
def rfR : Out := { ex := .ret, fr := [AV.undef, AV.undef, yes false] ++ List.replicate 44 AV.undef, hp := [], df := [] }

theorem rf_loop (es : List E) (hl : es.length ≤ 1000) (hs : ∀ i, i < es.length → (lv es i).length ≤ 1000000) :
    LL 34 0 lc_34_5 (((List.replicate 47 AV.undef).set 3 (.e (.sl 9 es))).set 4 (.e (.int .i64 0))) [] = some (bif goodL es then rfX else rfR) := by
  unfold goodL
  refine scan_ix (G := fun i => LL 34 0 lc_34_5 (((List.replicate 47 AV.undef).set 3 (.e (.sl 9 es))).set 4 (.e (.int .i64 (i : Int)))) []) ?_ ?_
  · intro i hi r h
    have body := eq_rFilterL5 RR LL es i
    have w : IntKind.i64.wrap ((i : Int) + 1) = ((i + 1 : Nat) : Int) := by rw [wrap_in (by omega) (by omega)]; omega
    have hw : IntKind.i64.wrap ((es.length : Int) - 1) = (es.length : Int) - 1 := wrap_in (by omega) (by omega)
    have hd : (!((i : Int) == (es.length : Int) - 1)) = !decide (i + 1 = es.length) := by
      by_cases e : i + 1 = es.length
      · rw [dec_yes e, show ((i : Int) == (es.length : Int) - 1) = true by simp; omega]
      · rw [dec_no e, show ((i : Int) == (es.length : Int) - 1) = false by simp; omega]
    rw [nat_at, w, hw, hd] at body
    have h43 := Has_run (lv es i) 43 (hs i hi)
    have h35 := Has_run (lv es i) 35 (hs i hi)
    unfold lvlOk at h
    refine loop_of_body (body.trans (cond_run (nat_lt hi) (cond_run (nat_in hi) (bind_run h43 (cond_run rfl (cond_run (okB _) ?_))))))
    show (bif hasB 43 (lv es i) == true then _ else _) = _
    change (bif !(hasB 43 (lv es i) && !strEq (lv es i) [43]) && !(hasB 35 (lv es i) && (!strEq (lv es i) [35] || !decide (i + 1 = es.length))) then LL 34 0 lc_34_5 (((List.replicate 47 AV.undef).set 3 (.e (.sl 9 es))).set 4 (.e (.int .i64 ((i + 1 : Nat) : Int)))) [] else some rfR) = some r at h
    have tail : ∀ {b : Bool}, b = (hasB 43 (lv es i) && !strEq (lv es i) [43]) → b = false →
        ((RR none 62 [str (lv es i), AV.e (E.int IntKind.u8 35)] []).bind fun rh => bif okHeap [] rh.2 then bif okRes PP 4 rh.fst then bif rh.fst.val.data.toBool == true then
          bif decide ((0 : Int) ≤ (i : Int)) && decide ((i : Int) < (es.length : Int)) then bif (!strEq (lv es i) ([35] : List UInt8)) == false then bif !decide (i + 1 = es.length) then
            some rfR else (LL 34 0 lc_34_5 (((List.replicate 47 AV.undef).set 3 (.e (.sl 9 es))).set 4 (.e (.int .i64 ((i + 1 : Nat) : Int)))) []).bind fun o => some o
            else some rfR else none else (LL 34 0 lc_34_5 (((List.replicate 47 AV.undef).set 3 (.e (.sl 9 es))).set 4 (.e (.int .i64 ((i + 1 : Nat) : Int)))) []).bind fun o => some o else none else none) = some r := by
      intro b hb hf
      rw [← hb, hf] at h
      refine bind_run h35 (cond_run rfl (cond_run (okB _) ?_))
      show (bif hasB 35 (lv es i) == true then _ else _) = _
      revert h
      generalize hasB 35 (lv es i) = b35
      generalize strEq (lv es i) [35] = s35
      generalize decide (i + 1 = es.length) = la
      intro h
      cases b35 with
      | false => exact cond_not rfl (bind_run h rfl)
      | true =>
        refine cond_run rfl (cond_run (nat_in hi) ?_)
        cases s35 with
        | false => exact cond_not rfl h
        | true =>
          refine cond_run rfl ?_
          cases la with
          | false => exact cond_run rfl h
          | true => exact cond_not rfl (bind_run h rfl)
    cases k43 : hasB 43 (lv es i) with
    | false => exact cond_not rfl (cond_run (nat_in hi) (tail (b := false) (by rw [k43]; rfl) rfl))
    | true =>
      refine cond_run rfl (cond_run (nat_in hi) ?_)
      cases s43 : strEq (lv es i) [43] with
      | false =>
        rw [k43, s43] at h
        exact cond_run rfl h
      | true =>
        refine cond_not rfl (cond_run (nat_in hi) (tail (b := false) (by rw [k43, s43]; rfl) rfl))
  · exact loop_of_body ((eq_rFilterL5 RR LL es es.length).trans (cond_not (nat_end _) rfl))

theorem lv_split {s : S8} {i : Nat} (hi : i < ((splitAt 47 s).map E.str).length) : (lv ((splitAt 47 s).map E.str) i).length ≤ s.length := by
  rw [List.length_map] at hi
  have e : ((splitAt 47 s).map E.str).getD i E.nili = E.str (splitAt 47 s)[i] := by
    rw [List.getD_eq_getElem?_getD, List.getElem?_map, List.getElem?_eq_getElem hi]; rfl
  unfold lv
  rw [e]
  exact split_le 47 s _ (List.getElem_mem hi)

theorem RFilter_run (s : S8) : RR none 34 [str s] [] = some (.ret (yes (filterS s)), []) := by
  refine run_of_body ((eq_rFilter RR LL s).trans (bind_run (R1sized_run s) (cond_run rfl (cond_run (okB _) ?_))))
  unfold filterS
  cases h : sizedS s with
  | false => exact cond_run rfl rfl
  | true =>
    have hl := sized_len h
    have fo := rf_loop ((splitAt 47 s).map E.str) (by rw [List.length_map]; have := sized_split h; omega) (fun i hi => by have := lv_split hi; omega)
    refine cond_not rfl (bind_run (Levels_run s (by omega)) (cond_run rfl (cond_run (okL _) (bind_run fo ?_))))
    cases goodL ((splitAt 47 s).map E.str) <;> rfl

end Go.Proofs.YtapndkailgcboaaGreatDoor.Top
