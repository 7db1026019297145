/- Copies of a registry; what is found. -/
import Derived.Test.YtapndkailgcboaaGreatDoorRc
import Derived.Test.YtapndkailgcboaaGreatDoorTm
namespace Go.Proofs.YtapndkailgcboaaGreatDoor
open Go Go.Den
set_option maxRecDepth 100000

/-- A subject with short lists. -/
inductive SuS : E → Prop
  | mk (n f : List UInt8) (m : Int) (vs : List E) (hl : vs.length ≤ 16) (hv : ∀ x ∈ vs, Sm x) : SuS (.agg [.str n, .str f, .int .i64 m, .sl 31 vs])

abbrev cpF (a v xs vs : List E) (n i l j : Int) : Fr := (((((((((List.replicate 40 AV.undef).set 3 (.own 0 46 a)).set 5 (.ptr 1 0)).set 6 (.own 2 31 v)).set 13 (.e (.sl 46 xs))).set 14 (.e (.int .i64 n))).set 15 (.e (.int .i64 i))).set 20 (.e (.sl 31 vs))).set 21 (.e (.int .i64 l))).set 22 (.e (.int .i64 j))
abbrev cpH (a v vs : List E) (n f : List UInt8) (m : Int) : Heap := [.vec 46 a.length, .box [str n, str f, num m, .e (.sl 31 vs)], .vec 31 v.length]
def cpX (a v xs vs : List E) (n i : Int) (nm fl : List UInt8) (m : Int) : Out := { ex := .exit 2, fr := [AV.undef, AV.undef, AV.undef, AV.own 0 46 a, AV.undef, AV.ptr 1 0, AV.own 2 31 v] ++ List.replicate 6 AV.undef ++ [AV.e (E.sl 46 xs), num n, num i] ++ List.replicate 24 AV.undef, hp := cpH a v vs nm fl m, df := [] }

theorem copies7 (a xs vs : List E) (n i : Int) (nm fl : List UInt8) (m : Int) (hl : vs.length ≤ 16) (hs : ∀ x ∈ vs, Sm x) : ∀ (k j : Nat), j + k = vs.length →
    LL 41 0 lc_41_7 (cpF a (vs.take j) xs vs n i vs.length j) (cpH a (vs.take j) vs nm fl m) = some (cpX a vs xs vs n i nm fl m) := by
  intro k
  induction k with
  | zero =>
    intro j h
    have : j = vs.length := by omega
    subst this
    rw [List.take_length]
    exact loop_of_body ((eq_copiesL7 RR LL a vs xs n i vs vs.length vs.length nm fl m vs).trans (cond_not (nat_end _) rfl))
  | succ k ih =>
    intro j h
    have hj : j < vs.length := by omega
    have body := eq_copiesL7 RR LL a (vs.take j) xs n i vs vs.length j nm fl m vs
    have w : IntKind.i64.wrap ((j : Int) + 1) = ((j + 1 : Nat) : Int) := by rw [wrap_in (by omega) (by omega)]; omega
    rw [nat_at, w] at body
    have sm := hs _ (getD_mem hj)
    have c := clone_run sm
    have e : vs.take (j + 1) = vs.take j ++ [vs.getD j E.nili] := by
      rw [List.take_add_one, List.getElem?_eq_getElem hj, List.getD_eq_getElem?_getD, List.getElem?_eq_getElem hj]; rfl
    have r := ih (j + 1) (by omega)
    rw [e] at r
    generalize vs.getD j E.nili = x at body c r sm
    cases sm with
    | mk k' mn' mx' os' fs' gs' _ _ _ _ _ _ =>
    have tl : (vs.take j).length ≤ 16 := by rw [List.length_take]; omega
    refine loop_of_body (body.trans (cond_run (nat_lt hj) (cond_run (nat_in hj) (bind_run c (cond_run rfl (cond_run (by kernel_rfl) (cond_run ?_ ?_)))))))
    · show (decide ((vs.take j).length = (vs.take j).length) && decide (((vs.take j).length + (elems PP 31 6 1 [E.int .i64 k', E.int .i64 mn', E.int .i64 mx', E.sl 9 os', E.sl 31 fs', E.sl 65 gs']).length) * 96 ≤ 140737488355328)) = true
      rw [el31, dec_yes rfl, dec_yes (by simp; omega)]; rfl
    · have q := el31 k' mn' mx' os' fs' gs'
      show (Option.bind (LL 41 0 lc_41_7 ([AV.undef, AV.undef, AV.undef, AV.own 0 46 a, AV.undef, AV.ptr 1 0, AV.own 2 31 (vs.take j ++ elems PP 31 6 1 [E.int .i64 k', E.int .i64 mn', E.int .i64 mx', E.sl 9 os', E.sl 31 fs', E.sl 65 gs'])] ++ List.replicate 6 AV.undef ++ [AV.e (E.sl 46 xs), num n, num i, AV.undef, AV.undef, AV.undef, AV.undef, AV.e (E.sl 31 vs), num (vs.length : Int), num ((j + 1 : Nat) : Int)] ++ List.replicate 17 AV.undef)
        (cpH a (vs.take j ++ elems PP 31 6 1 [E.int .i64 k', E.int .i64 mn', E.int .i64 mx', E.sl 9 os', E.sl 31 fs', E.sl 65 gs']) vs nm fl m)) fun o => some o) = _
      rw [q]
      exact bind_run r rfl

theorem copies3 (xs : List E) (hl : xs.length ≤ 1000) (hs : ∀ x ∈ xs, SuS x) : ∀ (k i : Nat), i + k = xs.length →
    LL 41 0 lc_41_3 (((((List.replicate 40 AV.undef).set 3 (.own 0 46 (xs.take i))).set 13 (.e (.sl 46 xs))).set 14 (.e (.int .i64 (xs.length : Int)))).set 15 (.e (.int .i64 (i : Int)))) [.vec 46 (xs.take i).length] =
      some { ex := .exit 0, fr := [AV.undef, AV.undef, AV.undef, AV.own 0 46 xs] ++ List.replicate 36 AV.undef, hp := [.vec 46 xs.length], df := [] } := by
  intro k
  induction k with
  | zero =>
    intro i h
    have : i = xs.length := by omega
    subst this
    rw [List.take_length]
    exact loop_of_body ((eq_copiesL3 RR LL xs xs xs.length xs.length).trans (cond_not (nat_end _) rfl))
  | succ k ih =>
    intro i h
    have hi : i < xs.length := by omega
    have body := eq_copiesL3 RR LL (xs.take i) xs xs.length i
    rw [nat_at] at body
    have e : xs.take (i + 1) = xs.take i ++ [xs.getD i E.nili] := by
      rw [List.take_add_one, List.getElem?_eq_getElem hi, List.getD_eq_getElem?_getD, List.getElem?_eq_getElem hi]; rfl
    have r := ih (i + 1) (by omega)
    rw [e] at r
    have su := hs _ (getD_mem hi)
    generalize xs.getD i E.nili = x at body r su
    cases su with
    | mk n f m vs hvl hv =>
    have tl : (xs.take i).length ≤ 1000 := by rw [List.length_take]; omega
    have inner := copies7 (xs.take i) xs vs xs.length i n f m hvl hv vs.length 0 (by omega)
    rw [List.take_zero] at inner
    refine loop_of_body (body.trans (cond_run (nat_lt hi) (cond_run (nat_in hi) (bind_run inner (cond_run rfl (cond_run rfl (cond_run ?_ ?_)))))))
    · show (decide ((xs.take i).length = (xs.take i).length) && decide (((xs.take i).length + (elems PP 46 4 1 [E.str n, E.str f, E.int .i64 m, E.sl 31 vs]).length) * 64 ≤ 140737488355328)) = true
      rw [el46, dec_yes rfl, dec_yes (by simp; omega)]; rfl
    · have q := el46 n f m vs
      have w : IntKind.i64.wrap ((i : Int) + 1) = ((i + 1 : Nat) : Int) := by rw [wrap_in (by omega) (by omega)]; omega
      show (Option.bind (LL 41 0 lc_41_3 ([AV.undef, AV.undef, AV.undef, AV.own 0 46 (xs.take i ++ elems PP 46 4 1 [E.str n, E.str f, E.int .i64 m, E.sl 31 vs])] ++ List.replicate 9 AV.undef ++ [AV.e (E.sl 46 xs), num (xs.length : Int), num (IntKind.i64.wrap ((i : Int) + 1))] ++ List.replicate 24 AV.undef)
        [.vec 46 (xs.take i ++ elems PP 46 4 1 [E.str n, E.str f, E.int .i64 m, E.sl 31 vs]).length]) fun o => some o) = _
      rw [q, w]
      exact bind_run r rfl

theorem copies_run {xs : List E} (hl : xs.length ≤ 1000) (hs : ∀ x ∈ xs, SuS x) : RR none 41 [.e (.sl 46 xs)] [] = some (.ret (.own 0 46 xs), [.vec 46 xs.length]) := by
  have e := copies3 xs hl hs xs.length 0 (by omega)
  rw [List.take_zero] at e
  have w : IntKind.i64.wrap ((xs.length : Int) + 1) = (xs.length : Int) + 1 := wrap_in (by omega) (by omega)
  refine run_of_body ((eq_copies RR LL xs).trans (cond_run ?_ (bind_run e (cond_run rfl (cond_run rfl rfl)))))
  rw [w, dec_yes (by omega), dec_yes (by omega)]; rfl

/-- A registry that passes the check has short lists. -/
theorem ck_small {xs : List E} (hs : ∀ x ∈ xs, Su x) (h : CheckR xs = 0) : xs.length ≤ 32 ∧ ∀ x ∈ xs, SuS x := by
  unfold CheckR at h
  by_cases h32 : 32 < xs.length
  · rw [if_pos h32] at h; cases h
  rw [if_neg h32] at h
  refine ⟨by omega, fun x hx => ?_⟩
  have hn : firstO (ckAt xs) xs.length 0 = none := by
    cases hf : firstO (ckAt xs) xs.length 0 with
    | none => rfl
    | some c =>
      rw [hf] at h
      have : c = 0 := h
      subst this
      exfalso
      have : ∀ k i, firstO (ckAt xs) k i ≠ some 0 := by
        intro k
        induction k with
        | zero => intro i h; cases h
        | succ k ih =>
          intro i h
          unfold firstO at h
          cases hc : ckAt xs i with
          | none => rw [hc] at h; exact ih _ h
          | some y =>
            rw [hc] at h
            injection h with h
            subst h
            unfold ckAt at hc
            split at hc
            · split at hc
              · cases hc
              · rename_i k; injection hc with hc; exact k hc
            · rename_i k; injection hc with hc; exact k hc
      exact this _ _ hf
  obtain ⟨i, hi, rfl⟩ := List.getElem_of_mem hx
  have hi0 := firstO_none.1 hn i (by omega) (by omega)
  have hg : xs.getD i E.nili = xs[i] := by rw [List.getD_eq_getElem?_getD, List.getElem?_eq_getElem hi]; rfl
  have su := hs _ (List.getElem_mem hi)
  unfold ckAt at hi0
  rw [hg] at hi0
  generalize xs[i] = x at su hi0
  cases su with
  | mk n f m vs hn' hf hv hvl =>
  split at hi0
  · rename_i hd
    split at hi0
    · rename_i hv0
      change versE m vs = 0 at hv0
      unfold versE at hv0
      by_cases h16 : 16 < vs.length
      · rw [if_pos h16] at hv0; cases hv0
      rw [if_neg h16] at hv0
      refine .mk n f m vs (by omega) fun v hvm => ?_
      obtain ⟨j, hj, rfl⟩ := List.getElem_of_mem hvm
      have hvn : firstO (verAt m vs) vs.length 0 = none := by
        cases hf : firstO (verAt m vs) vs.length 0 with
        | none => rfl
        | some c =>
          rw [hf] at hv0
          have : c = 0 := hv0
          subst this
          exfalso
          have : ∀ k i, firstO (verAt m vs) k i ≠ some 0 := by
            intro k
            induction k with
            | zero => intro i h; cases h
            | succ k ih =>
              intro i h
              unfold firstO at h
              cases hc : verAt m vs i with
              | none => rw [hc] at h; exact ih _ h
              | some y =>
                rw [hc] at h
                injection h with h
                subst h
                unfold verAt at hc
                split at hc
                · split at hc
                  · injection hc with hc; cases hc
                  · cases hc
                · rename_i k; injection hc with hc; exact k hc
          exact this _ _ hf
      have hj0 := firstO_none.1 hvn j (by omega) (by omega)
      have hgj : vs.getD j E.nili = vs[j] := by rw [List.getD_eq_getElem?_getD, List.getElem?_eq_getElem hj]; rfl
      unfold verAt at hj0
      rw [hgj] at hj0
      split at hj0
      · rename_i hc
        exact Ful.sm (CheckS_ful hc (hv _ (List.getElem_mem hj)))
      · cases hj0
    · cases hi0
  · cases hi0

end Go.Proofs.YtapndkailgcboaaGreatDoor
