/- The reference's readers of fields. -/
import Derived.Test.YtmocefjnplmibaaGreatDoorPx
import Derived.Test.YtmocefjnplmibaaGreatDoorPd
namespace Go.Proofs.YtmocefjnplmibaaGreatDoor
open Go Go.Den
set_option maxRecDepth 100000

/-! ### The fields of a line -/

abbrev fdF (s : S8) (a : List E) (f i : Int) : Fr := ((((List.replicate 31 AV.undef).set 0 (.e (.str s))).set 3 (.own 0 9 a)).set 4 (.e (.int .i64 f))).set 5 (.e (.int .i64 i))
theorem fields_loop {s : S8} (hs : s.length ≤ 1000000) : ∀ (j i f : Nat) (a : List E), i + j = s.length → f ≤ i → 32 ∉ (s.take i).drop f → a.length ≤ f →
    ∃ a' f', LL 62 0 lc_62_4 (fdF s a f i) [.vec 9 a.length] = some (lvX s a' ((f' : Nat) : Int)) ∧ f' ≤ s.length ∧ a'.length ≤ f' ∧ a' ++ [E.str (s.drop f')] = a ++ (splitAt 32 (s.drop f)).map E.str := by
  intro j
  induction j with
  | zero =>
    intro i f a h hf hn ha
    have : i = s.length := by omega
    subst this
    refine ⟨a, f, loop_of_body ((eq_FieldsL4 RR LL s a f s.length).trans (cond_not (nat_end _) rfl)), hf, ha, ?_⟩
    rw [List.take_length] at hn
    rw [split_none hn]; rfl
  | succ j ih =>
    intro i f a h hf hn ha
    have hi : i < s.length := by omega
    have body := eq_FieldsL4 RR LL s a f i
    have e47 := byte_is (c := s.getD i 0) (n := 32) (by decide)
    change (((s.getD i 0).toNat : Int) == 32) = decide (s.getD i 0 = 32) at e47
    rw [nat_at, nat_wrap hi (by rw [maxLen_eq]; omega), e47, nat_at] at body
    have htk : s.take (i + 1) = s.take i ++ [s.getD i 0] := take_snoc hi 0
    have hfl : f ≤ (s.take i).length := by rw [List.length_take]; omega
    by_cases e : s.getD i 0 = 32
    · obtain ⟨a', f', h1, h2, h3, h4⟩ := ih (i + 1) (i + 1) (a ++ [E.str ((s.take i).drop f)]) (by omega) (Nat.le_refl _) (by rw [List.drop_eq_nil_of_le (by rw [List.length_take]; omega)]; simp) (by simp; omega)
      refine ⟨a', f', loop_of_body (body.trans (cond_run (nat_lt hi) (cond_run (nat_in hi) (cond_run (dec_yes e) (cond_run ?_ (cond_run ?_ (bind_run h1 rfl))))))), h2, h3, ?_⟩
      · rw [dec_yes (by omega), dec_yes (by omega), dec_yes (by omega)]; rfl
      · rw [dec_yes rfl, dec_yes (by simp; omega)]; rfl
      · rw [h4]
        have hd : s.drop f = (s.take i).drop f ++ 32 :: s.drop (i + 1) := by
          conv => lhs; rw [← List.take_append_drop i s, List.drop_append_of_le_length hfl]
          rw [drop_getD hi 0, e]
        rw [hd, split_cons hn]
        simp
    · obtain ⟨a', f', h1, h2, h3, h4⟩ := ih (i + 1) f a (by omega) (by omega) (by
        rw [htk, List.drop_append_of_le_length hfl]
        intro hm
        rcases List.mem_append.1 hm with hm | hm
        · exact hn hm
        · simp at hm; exact e hm.symm) ha
      exact ⟨a', f', loop_of_body (body.trans (cond_run (nat_lt hi) (cond_run (nat_in hi) (cond_not (dec_no e) (bind_run h1 rfl))))), h2, h3, h4⟩
theorem Fields_run (s : S8) (hs : s.length ≤ 1000000) : RR none 62 [str s] [] = some (.ret (.e (.sl 9 (strs (splitAt 32 s)))), []) := by
  obtain ⟨a, f, h1, h2, h3, h4⟩ := fields_loop hs s.length 0 0 [] (by omega) (Nat.le_refl _) (by simp) (Nat.le_refl _)
  refine run_of_body ((eq_Fields RR LL s).trans (bind_run h1 (cond_run rfl (cond_run rfl (cond_run ?_ (cond_run ?_ ?_))))))
  · show (decide ((0 : Int) ≤ (f : Int)) && decide ((f : Int) ≤ (s.length : Int)) && decide ((s.length : Int) ≤ (s.length : Int))) = true
    rw [dec_yes (by omega), dec_yes (by omega), dec_yes (by omega)]; rfl
  · show (decide (a.length = a.length) && decide ((a.length + 1) * 16 ≤ 140737488355328)) = true
    rw [dec_yes rfl, dec_yes (by omega)]; rfl
  · show some (Res.ret (.e (.sl 9 (a ++ [E.str (List.drop ((f : Int)).toNat (List.take ((s.length : Int)).toNat s))]))), ([] : Heap)) = _
    rw [nat_at, nat_at, List.take_length, h4]
    rfl

/-! ### One field at a time -/

abbrev by3 (l : List S8) (i : Nat) (e : Int) : Heap := [.box [.e (.sl 9 (strs l)), num (i : Int), num e]]
def valE {α : Type} (d : α) : Except Int α → α
  | .ok a => a
  | .error _ => d
def errE {α : Type} : Except Int α → Int
  | .ok _ => 0
  | .error e => e
theorem dead_c {e : Int} (h : e ≠ 0) : ((!(e == 0)) == false) = false := by rw [beq_false_of_ne h]; rfl
theorem lenS {l : List S8} {i : Nat} (hi : i < l.length) : decide ((((strs l).length : Nat) : Int) ≤ (i : Int)) = false := by rw [List.length_map]; exact dec_no (by omega)
theorem ok117 (x : Except Int Int) : okRes PP 117 (.ret (numA x)) = true := by cases x <;> kernel_rfl

theorem xnum_live {l : List S8} {i : Nat} (hi : i < l.length) (hl : l.length ≤ 1000000) (hs : (l.getD i []).length ≤ 100000) : RR none 65 [.ptr 0 0] (by3 l i 0) = some (.ret (num (valE 0 (numR (l.getD i [])))), by3 l (i + 1) (errE (numR (l.getD i [])))) := by
  have body := eq_xNumber RR LL (strs l) (i : Int) 0
  rw [w1 hi hl, w2 hi hl, nat_at, strs_get l i hi] at body
  refine run_of_body (body.trans (cond_run rfl (cond_not (lenS hi) (cond_run (inS hi) (bind_run (ReadNumber_run _ hs) (cond_run rfl (cond_run (ok117 _) (cond_run rfl ?_))))))))
  cases numR (l.getD i []) <;> rfl
theorem numR_nil : numR [] = .error 2 := rfl
theorem xnum_dead (l : List S8) (i : Nat) {e : Int} (he : e ≠ 0) : RR none 65 [.ptr 0 0] (by3 l i e) = some (.ret (num 0), by3 l i e) := by
  have h := ReadNumber_run [] (by decide)
  rw [numR_nil] at h
  exact run_of_body ((eq_xNumber RR LL (strs l) (i : Int) e).trans (cond_not (dead_c he) (bind_run h (cond_run rfl (cond_run (ok117 (.error 2)) (cond_not (beq_false_of_ne he) rfl))))))
theorem xtxt_live {l : List S8} {i : Nat} (hi : i < l.length) (hl : l.length ≤ 1000000) (hs : (l.getD i []).length ≤ 10000) : RR none 103 [.ptr 0 0] (by3 l i 0) = some (.ret (str (valE [] (txtR (l.getD i [])))), by3 l (i + 1) (errE (txtR (l.getD i [])))) := by
  have body := eq_xText RR LL (strs l) (i : Int) 0
  rw [w1 hi hl, w2 hi hl, nat_at, strs_get l i hi] at body
  refine run_of_body (body.trans (cond_run rfl (cond_not (lenS hi) (cond_run (inS hi) (bind_run (RUnquote_run hs) (cond_run rfl (cond_run (unqA_ok _) (cond_run rfl ?_))))))))
  unfold txtR
  cases unqS (l.getD i []) <;> rfl
theorem xtxt_dead (l : List S8) (i : Nat) {e : Int} (he : e ≠ 0) : RR none 103 [.ptr 0 0] (by3 l i e) = some (.ret (str []), by3 l i e) := by
  have h := RUnquote_run (t := []) (by decide)
  have hn : unqS [] = none := by decide +kernel
  rw [hn] at h
  exact run_of_body ((eq_xText RR LL (strs l) (i : Int) e).trans (cond_not (dead_c he) (bind_run h (cond_run rfl (cond_run (unqA_ok none) (cond_not (beq_false_of_ne he) rfl))))))
theorem xtru_live {l : List S8} {i : Nat} (hi : i < l.length) (hl : l.length ≤ 1000000) : RR none 104 [.ptr 0 0] (by3 l i 0) = some (.ret (yes (valE false (truR (l.getD i [])))), by3 l (i + 1) (errE (truR (l.getD i [])))) := by
  have body := eq_xTruth RR LL (strs l) (i : Int) 0
  rw [w1 hi hl, w2 hi hl, nat_at, strs_get l i hi] at body
  refine run_of_body (body.trans (cond_run rfl (cond_not (lenS hi) (cond_run (inS hi) ?_))))
  generalize l.getD i [] = s
  rw [strEq_dec, strEq_dec]
  unfold truR
  by_cases h1 : s = [121, 101, 115]
  · rw [if_pos h1, dec_yes h1]; rfl
  · rw [if_neg h1, dec_no h1]
    by_cases h2 : s = [110, 111]
    · rw [if_pos h2, dec_yes h2]; rfl
    · rw [if_neg h2, dec_no h2]; rfl
theorem xtru_dead (l : List S8) (i : Nat) {e : Int} (he : e ≠ 0) : RR none 104 [.ptr 0 0] (by3 l i e) = some (.ret (yes false), by3 l i e) :=
  run_of_body ((eq_xTruth RR LL (strs l) (i : Int) e).trans (cond_not (dead_c he) (cond_not (beq_false_of_ne he) rfl)))
theorem xopt_live {l : List S8} {i : Nat} (hi : i < l.length) (hl : l.length ≤ 1000000) : RR none 102 [.ptr 0 0] (by3 l i 0) = some (.ret (str (valE [] (optR (l.getD i [])))), by3 l (i + 1) (errE (optR (l.getD i [])))) := by
  have body := eq_xOpt RR LL (strs l) (i : Int) 0
  rw [w1 hi hl, w2 hi hl, nat_at, strs_get l i hi] at body
  refine run_of_body (body.trans (cond_run rfl (cond_not (lenS hi) (cond_run (inS hi) ?_))))
  generalize l.getD i [] = s
  rw [strEq_dec, strEq_dec]
  unfold optR
  by_cases h1 : s = []
  · rw [if_pos h1, h1]; rfl
  · rw [if_neg h1, dec_no h1]
    by_cases h2 : s = [45]
    · rw [if_pos h2, dec_yes h2]; rfl
    · rw [if_neg h2, dec_no h2]; rfl
theorem xopt_dead (l : List S8) (i : Nat) {e : Int} (he : e ≠ 0) : RR none 102 [.ptr 0 0] (by3 l i e) = some (.ret (str []), by3 l i e) :=
  run_of_body ((eq_xOpt RR LL (strs l) (i : Int) e).trans (cond_not (dead_c he) (cond_not (beq_false_of_ne he) rfl)))

def xkX (l : List S8) (i : Nat) (e : Int) : Out := { ex := .exit 0, fr := [AV.ptr 0 0] ++ List.replicate 17 AV.undef, hp := by3 l i e, df := [] }
def xkR (l : List S8) (i : Nat) (e k : Int) : Out := { ex := .ret, fr := [AV.undef, AV.undef, num k] ++ List.replicate 15 AV.undef, hp := by3 l i e, df := [] }
theorem xkind_step (l : List S8) (i : Nat) (e : Int) (s : S8) (k : Int) (h : btw k 1 4 = true) {r : Out} (hr : (if s = exwS k then some (xkR l i e k) else LL 101 1 lc_101_3 ((((List.replicate 18 AV.undef).set 0 (.ptr 0 0)).set 3 (str s)).set 4 (num (k + 1))) (by3 l i e)) = some r) :
    LL 101 1 lc_101_3 ((((List.replicate 18 AV.undef).set 0 (.ptr 0 0)).set 3 (str s)).set 4 (num k)) (by3 l i e) = some r := by
  have hk := btw_iff.1 h
  have body := eq_xKindL3 RR LL (strs l) (i : Int) e s k
  rw [wrap_in (n := k + 1) (by omega) (by omega)] at body
  refine loop_of_body (body.trans (cond_run (dec_yes (by omega)) (callT (Exchange_run k h) ?_)))
  rw [valS, strEq_dec]
  by_cases e : s = exwS k
  · rw [if_pos e] at hr
    exact cond_run (dec_yes e.symm) hr
  · rw [if_neg e] at hr
    exact cond_not (dec_no (fun h => e h.symm)) (bind_run hr rfl)
theorem xkind_loop (l : List S8) (i : Nat) (e : Int) (s : S8) : LL 101 1 lc_101_3 ((((List.replicate 18 AV.undef).set 0 (.ptr 0 0)).set 3 (str s)).set 4 (num 1)) (by3 l i e) = some (match kndR s with | .ok k => xkR l i e k | .error _ => xkX l i e) := by
  unfold kndR
  refine xkind_step l i e s 1 rfl ?_
  by_cases e1 : s = exwS 1
  · rw [if_pos e1, if_pos e1]
  rw [if_neg e1, if_neg e1]
  refine xkind_step l i e s 2 rfl ?_
  by_cases e2 : s = exwS 2
  · rw [if_pos e2, if_pos e2]
  rw [if_neg e2, if_neg e2]
  refine xkind_step l i e s 3 rfl ?_
  by_cases e3 : s = exwS 3
  · rw [if_pos e3, if_pos e3]
  rw [if_neg e3, if_neg e3]
  refine xkind_step l i e s 4 rfl ?_
  by_cases e4 : s = exwS 4
  · rw [if_pos e4, if_pos e4]
  rw [if_neg e4, if_neg e4]
  exact loop_of_body ((eq_xKindL3 RR LL (strs l) (i : Int) e s 5).trans (cond_not rfl rfl))
theorem xknd_live {l : List S8} {i : Nat} (hi : i < l.length) (hl : l.length ≤ 1000000) : RR none 101 [.ptr 0 0] (by3 l i 0) = some (.ret (num (valE 0 (kndR (l.getD i [])))), by3 l (i + 1) (errE (kndR (l.getD i [])))) := by
  have body := eq_xKind RR LL (strs l) (i : Int) 0
  rw [w1 hi hl, w2 hi hl, nat_at, strs_get l i hi] at body
  refine run_of_body (body.trans (cond_run rfl (cond_not (lenS hi) (cond_run (inS hi) (bind_run (xkind_loop l (i + 1) 0 _) ?_)))))
  cases hk : kndR (l.getD i []) with
  | ok k => rfl
  | error e => rw [kndR_err hk]; rfl
theorem xknd_dead (l : List S8) (i : Nat) {e : Int} (he : e ≠ 0) : RR none 101 [.ptr 0 0] (by3 l i e) = some (.ret (num 0), by3 l i e) := by
  have h := xkind_loop l i e []
  exact run_of_body ((eq_xKind RR LL (strs l) (i : Int) e).trans (cond_not (dead_c he) (bind_run h (cond_run rfl (cond_run rfl (cond_not (beq_false_of_ne he) rfl))))))

end Go.Proofs.YtmocefjnplmibaaGreatDoor
