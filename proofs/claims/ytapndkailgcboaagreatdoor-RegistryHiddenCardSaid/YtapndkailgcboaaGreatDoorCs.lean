/- What the functions of Check come to. -/
import Derived.Test.YtapndkailgcboaaGreatDoorSp1
import Derived.Test.YtapndkailgcboaaGreatDoorCe
namespace Go.Proofs.YtapndkailgcboaaGreatDoor
open Go Go.Den
set_option maxRecDepth 100000

noncomputable abbrev RR := run Go.Proofs.Tryz.prog HH
noncomputable abbrev LL := loop Go.Proofs.Tryz.prog HH
abbrev tyA (k mn mx : Int) (os fs gs : List E) : AV := .agg [.e (.int .i64 k), .e (.int .i64 mn), .e (.int .i64 mx), .e (.sl 9 os), .e (.sl 31 fs), .e (.sl 65 gs)]
abbrev tyC (k mn mx : Int) (os fs gs : List E) : Ob := .box [.e (.int .i64 k), .e (.int .i64 mn), .e (.int .i64 mx), .e (.sl 9 os), .e (.sl 31 fs), .e (.sl 65 gs)]
abbrev Ty : E → Prop := IsTy 9 31 65

theorem okH : okHeap [] [] = true := rfl
theorem okInt (n : Int) : okRes Go.Proofs.Tryz.prog 3 (.ret (.e (.int .i64 n))) = true := by kernel_rfl
theorem okErr (n : Int) : okRes Go.Proofs.Tryz.prog 25 (.ret (.e (.int .i64 n))) = true := by kernel_rfl
theorem okBool (b : Bool) : okRes Go.Proofs.Tryz.prog 4 (.ret (.e (.bool b))) = true := by kernel_rfl

/-! ### nodes: it comes to some number -/

def fr3 (n : Int) : Fr := [AV.undef, num n, AV.ptr 0 0] ++ List.replicate 56 AV.undef
def fr7 (n : Int) : Fr := [AV.undef, num n] ++ List.replicate 57 AV.undef

theorem nodes3 {k mn mx : Int} {os fs gs : List E} (hl : fs.length ≤ maxLen) (hf : ∀ x ∈ fs, ∀ n, ∃ m, RR none 14 [slotsOf x, num n] [] = some (.ret (num m), [])) (ht : ∀ x ∈ fs, Ty x) :
    ∀ (j : Nat) (i n : Int), 0 ≤ i → i ≤ fs.length → j = fs.length - i.toNat → ∃ m, LL 14 0 lc_14_3 ((((List.replicate 59 AV.undef).set 1 (.e (.int .i64 n))).set 2 (.ptr 0 0)).set 5 (.e (.int .i64 i))) [tyC k mn mx os fs gs] =
      some { ex := .exit 0, fr := [AV.undef, num m, AV.ptr 0 0] ++ List.replicate 56 AV.undef, hp := [tyC k mn mx os fs gs], df := [] } := by
  intro j
  induction j with
  | zero =>
    intro i n h0 h1 h2
    refine ⟨n, loop_of_body ((eq_nodesL3 RR LL k mn mx os fs gs n i).trans ?_)⟩
    exact cond_not (and2_no (.inl (dec_no (by omega)))) rfl
  | succ j ih =>
    intro i n h0 h1 h2
    by_cases hn : n < 600
    · have hi : i.toNat < fs.length := by omega
      obtain ⟨m1, e1⟩ := hf _ (getD_mem hi) n
      obtain ⟨m2, e2⟩ := ih (i + 1) m1 (by omega) (by omega) (by omega)
      refine ⟨m2, loop_of_body ((eq_nodesL3 RR LL k mn mx os fs gs n i).trans ?_)⟩
      have hx := ht _ (getD_mem hi)
      generalize fs.getD i.toNat E.nili = x at e1 hx ⊢
      cases hx
      refine cond_run (and2_yes (dec_yes (by omega)) (dec_yes hn)) (cond_run (and_yes (dec_yes h0) (dec_yes (by omega))) (bind_run e1 (cond_run okH (cond_run (okInt m1) ?_))))
      rw [wrap_in (n := i + 1) (by omega) (by rw [maxLen_eq] at hl; omega)]
      exact bind_run e2 rfl
    · refine ⟨n, loop_of_body ((eq_nodesL3 RR LL k mn mx os fs gs n i).trans ?_)⟩
      exact cond_not (and2_no (.inr (dec_no hn))) rfl

theorem nodes7 {k mn mx : Int} {os fs gs : List E} (hl : gs.length ≤ maxLen) (hg : ∀ x ∈ gs, ∀ n, ∃ m, RR none 14 [slotsOf (fieldTy x), num n] [] = some (.ret (num m), [])) (ht : ∀ x ∈ gs, Ty (fieldTy x))
    (hn : ∀ x ∈ gs, ∃ n op cs, x = .agg (.str n :: .bool op :: cs) ∧ n.length ≤ maxLen) :
    ∀ (j : Nat) (i n : Int), 0 ≤ i → i ≤ gs.length → j = gs.length - i.toNat → ∃ m, LL 14 0 lc_14_7 ((((List.replicate 59 AV.undef).set 1 (.e (.int .i64 n))).set 2 (.ptr 0 0)).set 6 (.e (.int .i64 i))) [tyC k mn mx os fs gs] =
      some { ex := .exit 2, fr := [AV.undef, num m] ++ List.replicate 57 AV.undef, hp := [], df := [] } := by
  intro j
  induction j with
  | zero =>
    intro i n h0 h1 h2
    refine ⟨n, loop_of_body ((eq_nodesL7 RR LL k mn mx os fs gs n i).trans ?_)⟩
    exact cond_not (and2_no (.inl (dec_no (by omega)))) rfl
  | succ j ih =>
    intro i n h0 h1 h2
    by_cases hn3 : n < 600
    · have hi : i.toNat < gs.length := by omega
      obtain ⟨m1, e1⟩ := hg _ (getD_mem hi) n
      obtain ⟨m2, e2⟩ := ih (i + 1) m1 (by omega) (by omega) (by omega)
      refine ⟨m2, loop_of_body ((eq_nodesL7 RR LL k mn mx os fs gs n i).trans ?_)⟩
      obtain ⟨_, _, _, _, _, _, _, _, hx, _⟩ := fieldX (ht _ (getD_mem hi)) (hn _ (getD_mem hi))
      generalize gs.getD i.toNat E.nili = x at e1 hx ⊢
      subst hx
      refine cond_run (and2_yes (dec_yes (by omega)) (dec_yes hn3)) (cond_run (and_yes (dec_yes h0) (dec_yes (by omega))) (bind_run e1 (cond_run okH (cond_run (okInt m1) ?_))))
      rw [wrap_in (n := i + 1) (by omega) (by rw [maxLen_eq] at hl; omega)]
      exact bind_run e2 rfl
    · refine ⟨n, loop_of_body ((eq_nodesL7 RR LL k mn mx os fs gs n i).trans ?_)⟩
      exact cond_not (and2_no (.inr (dec_no hn3))) rfl

theorem nodes_run {e : E} (h : Ty e) : ∀ n, ∃ m, RR none 14 [slotsOf e, num n] [] = some (.ret (num m), []) := by
  induction h with
  | mk k mn mx os fs gs ho hol hf hfl hg hgn hgl hk hmn hmx ihf ihg =>
    intro n
    obtain ⟨m1, e1⟩ := nodes3 (k := k) (mn := mn) (mx := mx) (os := os) (gs := gs) hfl ihf hf fs.length 0 (IntKind.i64.wrap (n + IntKind.i64.wrap (IntKind.i64.wrap (IntKind.i64.wrap (1 + (os.length : Int)) + (gs.length : Int)) + (fs.length : Int)))) (by omega) (by omega) (by simp)
    obtain ⟨m2, e2⟩ := nodes7 (k := k) (mn := mn) (mx := mx) (os := os) (fs := fs) hgl ihg hg hgn gs.length 0 m1 (by omega) (by omega) (by simp)
    refine ⟨m2, run_of_body ((eq_nodes RR LL k mn mx os fs gs n).trans ?_)⟩
    refine bind_run e1 (cond_run rfl (cond_run (by kernel_rfl) ?_))
    refine bind_run e2 (cond_run rfl (cond_run (by kernel_rfl) rfl))

/-! ### deep -/

def deepS : Nat → E → Int
  | 0, _ => 1
  | n + 1, x => (if kindE x = 5 then (ofE x).foldl (fun m y => max m (deepS n y)) 0 else if kindE x = 6 then (fieldsE x).foldl (fun m y => max m (deepS n (fieldTy y))) 0 else 0) + 1

theorem drop_getD {xs : List E} {i : Nat} (h : i < xs.length) : xs.drop i = xs.getD i .nili :: xs.drop (i + 1) := by
  rw [getD_at h]; exact List.drop_eq_getElem_cons h

end Go.Proofs.YtapndkailgcboaaGreatDoor
