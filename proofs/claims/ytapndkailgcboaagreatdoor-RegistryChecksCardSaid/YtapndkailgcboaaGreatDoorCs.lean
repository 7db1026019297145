/- What the functions of Check come to. -/
import Derived.Test.YtapndkailgcboaaGreatDoorSp1
import Derived.Test.YtapndkailgcboaaGreatDoorCe
namespace Go.Proofs.YtapndkailgcboaaGreatDoor
open Go Go.Den
set_option maxRecDepth 100000

noncomputable abbrev RR := run Go.Proofs.Tryz.prog HH
noncomputable abbrev LL := loop Go.Proofs.Tryz.prog HH
abbrev tyA (k mn mx : Int) (os fs gs : List E) : AV := .agg [.e (.int .i64 k), .e (.int .i64 mn), .e (.int .i64 mx), .e (.sl 9 os), .e (.sl 31 fs), .e (.sl 65 gs)]
abbrev tyC (k mn mx : Int) (os fs gs : List E) : Ob := .box [.e (.int .i64 k), .e (.int .i64 mn), .e (.int .i64 mx), .e (.sl 9 os), .e (.sl 31 fs), .e (.sl 65 gs)]
abbrev Ty : E → Prop := IsTy 9 31 65

theorem okH : okHeap [] [] = true := rfl
theorem okInt (n : Int) : okRes Go.Proofs.Tryz.prog 3 (.ret (.e (.int .i64 n))) = true := by kernel_rfl
theorem okErr (n : Int) : okRes Go.Proofs.Tryz.prog 25 (.ret (.e (.int .i64 n))) = true := by kernel_rfl
theorem okBool (b : Bool) : okRes Go.Proofs.Tryz.prog 4 (.ret (.e (.bool b))) = true := by kernel_rfl

/-! ### nodes: it comes to some number -/

def fr3 (n : Int) : Fr := [AV.undef, num n, AV.ptr 0 0] ++ List.replicate 56 AV.undef
def fr7 (n : Int) : Fr := [AV.undef, num n] ++ List.replicate 57 AV.undef

theorem nodes3 {k mn mx : Int} {os fs gs : List E} (hl : fs.length ≤ maxLen) (hf : ∀ x ∈ fs, ∀ n, ∃ m, RR none 14 [slotsOf x, num n] [] = some (.ret (num m), [])) (ht : ∀ x ∈ fs, Ty x) :
    ∀ (j : Nat) (i n : Int), 0 ≤ i → i ≤ fs.length → j = fs.length - i.toNat → ∃ m, LL 14 0 lc_14_3 ((((List.replicate 59 AV.undef).set 1 (.e (.int .i64 n))).set 2 (.ptr 0 0)).set 5 (.e (.int .i64 i))) [tyC k mn mx os fs gs] =
      some { ex := .exit 0, fr := [AV.undef, num m, AV.ptr 0 0] ++ List.replicate 56 AV.undef, hp := [tyC k mn mx os fs gs], df := [] } := by
  intro j
  induction j with
  | zero =>
    intro i n h0 h1 h2
    refine ⟨n, loop_of_body ((eq_nodesL3 RR LL k mn mx os fs gs n i).trans ?_)⟩
    exact cond_not (and2_no (.inl (dec_no (by omega)))) rfl
  | succ j ih =>
    intro i n h0 h1 h2
    by_cases hn : n < 600
    · have hi : i.toNat < fs.length := by omega
      obtain ⟨m1, e1⟩ := hf _ (getD_mem hi) n
      obtain ⟨m2, e2⟩ := ih (i + 1) m1 (by omega) (by omega) (by omega)
      refine ⟨m2, loop_of_body ((eq_nodesL3 RR LL k mn mx os fs gs n i).trans ?_)⟩
      have hx := ht _ (getD_mem hi)
      generalize fs.getD i.toNat E.nili = x at e1 hx ⊢
      cases hx
      refine cond_run (and2_yes (dec_yes (by omega)) (dec_yes hn)) (cond_run (and_yes (dec_yes h0) (dec_yes (by omega))) (bind_run e1 (cond_run okH (cond_run (okInt m1) ?_))))
      rw [wrap_in (n := i + 1) (by omega) (by rw [maxLen_eq] at hl; omega)]
      exact bind_run e2 rfl
    · refine ⟨n, loop_of_body ((eq_nodesL3 RR LL k mn mx os fs gs n i).trans ?_)⟩
      exact cond_not (and2_no (.inr (dec_no hn))) rfl

theorem nodes7 {k mn mx : Int} {os fs gs : List E} (hl : gs.length ≤ maxLen) (hg : ∀ x ∈ gs, ∀ n, ∃ m, RR none 14 [slotsOf (fieldTy x), num n] [] = some (.ret (num m), [])) (ht : ∀ x ∈ gs, Ty (fieldTy x))
    (hn : ∀ x ∈ gs, ∃ n op cs, x = .agg (.str n :: .bool op :: cs) ∧ n.length ≤ maxLen) :
    ∀ (j : Nat) (i n : Int), 0 ≤ i → i ≤ gs.length → j = gs.length - i.toNat → ∃ m, LL 14 0 lc_14_7 ((((List.replicate 59 AV.undef).set 1 (.e (.int .i64 n))).set 2 (.ptr 0 0)).set 6 (.e (.int .i64 i))) [tyC k mn mx os fs gs] =
      some { ex := .exit 2, fr := [AV.undef, num m] ++ List.replicate 57 AV.undef, hp := [], df := [] } := by
  intro j
  induction j with
  | zero =>
    intro i n h0 h1 h2
    refine ⟨n, loop_of_body ((eq_nodesL7 RR LL k mn mx os fs gs n i).trans ?_)⟩
    exact cond_not (and2_no (.inl (dec_no (by omega)))) rfl
  | succ j ih =>
    intro i n h0 h1 h2
    by_cases hn3 : n < 600
    · have hi : i.toNat < gs.length := by omega
      obtain ⟨m1, e1⟩ := hg _ (getD_mem hi) n
      obtain ⟨m2, e2⟩ := ih (i + 1) m1 (by omega) (by omega) (by omega)
      refine ⟨m2, loop_of_body ((eq_nodesL7 RR LL k mn mx os fs gs n i).trans ?_)⟩
      obtain ⟨_, _, _, _, _, _, _, _, hx, _⟩ := fieldX (ht _ (getD_mem hi)) (hn _ (getD_mem hi))
      generalize gs.getD i.toNat E.nili = x at e1 hx ⊢
      subst hx
      refine cond_run (and2_yes (dec_yes (by omega)) (dec_yes hn3)) (cond_run (and_yes (dec_yes h0) (dec_yes (by omega))) (bind_run e1 (cond_run okH (cond_run (okInt m1) ?_))))
      rw [wrap_in (n := i + 1) (by omega) (by rw [maxLen_eq] at hl; omega)]
      exact bind_run e2 rfl
    · refine ⟨n, loop_of_body ((eq_nodesL7 RR LL k mn mx os fs gs n i).trans ?_)⟩
      exact cond_not (and2_no (.inr (dec_no hn3))) rfl

theorem nodes_run {e : E} (h : Ty e) : ∀ n, ∃ m, RR none 14 [slotsOf e, num n] [] = some (.ret (num m), []) := by
  induction h with
  | mk k mn mx os fs gs ho hol hf hfl hg hgn hgl hk hmn hmx ihf ihg =>
    intro n
    obtain ⟨m1, e1⟩ := nodes3 (k := k) (mn := mn) (mx := mx) (os := os) (gs := gs) hfl ihf hf fs.length 0 (IntKind.i64.wrap (n + IntKind.i64.wrap (IntKind.i64.wrap (IntKind.i64.wrap (1 + (os.length : Int)) + (gs.length : Int)) + (fs.length : Int)))) (by omega) (by omega) (by simp)
    obtain ⟨m2, e2⟩ := nodes7 (k := k) (mn := mn) (mx := mx) (os := os) (fs := fs) hgl ihg hg hgn gs.length 0 m1 (by omega) (by omega) (by simp)
    refine ⟨m2, run_of_body ((eq_nodes RR LL k mn mx os fs gs n).trans ?_)⟩
    refine bind_run e1 (cond_run rfl (cond_run (by kernel_rfl) ?_))
    refine bind_run e2 (cond_run rfl (cond_run (by kernel_rfl) rfl))

/-! ### deep -/

def deepS : Nat → E → Int
  | 0, _ => 1
  | n + 1, x => (if kindE x = 5 then (ofE x).foldl (fun m y => max m (deepS n y)) 0 else if kindE x = 6 then (fieldsE x).foldl (fun m y => max m (deepS n (fieldTy y))) 0 else 0) + 1

theorem deepS_at (d : Nat) (k mn mx : Int) (os fs gs : List E) : deepS (d + 1) (.agg [.int .i64 k, .int .i64 mn, .int .i64 mx, .sl 9 os, .sl 31 fs, .sl 65 gs]) =
    (if k = 5 then fs.foldl (fun m y => max m (deepS d y)) 0 else if k = 6 then gs.foldl (fun m y => max m (deepS d (fieldTy y))) 0 else 0) + 1 := rfl

theorem foldl_max {α : Type} (g : α → Int) (c : Int) : ∀ (l : List α) (m : Int), (∀ x ∈ l, g x ≤ c) → m ≤ c → m ≤ l.foldl (fun m y => max m (g y)) m ∧ l.foldl (fun m y => max m (g y)) m ≤ c
  | [], m, _, h => ⟨Int.le_refl _, h⟩
  | x :: l, m, h, hm => by
    have := h x (by simp)
    obtain ⟨h1, h2⟩ := foldl_max g c l (max m (g x)) (fun y hy => h y (by simp [hy])) (by omega)
    exact ⟨by simp only [List.foldl_cons]; omega, by simpa using h2⟩

theorem deepS_range : ∀ (n : Nat) (x : E), 1 ≤ deepS n x ∧ deepS n x ≤ n + 1
  | 0, x => by simp [deepS]
  | n + 1, x => by
    have h1 := foldl_max (deepS n) (n + 1) (ofE x) 0 (fun y _ => (deepS_range n y).2) (by omega)
    have h2 := foldl_max (fun y => deepS n (fieldTy y)) (n + 1) (fieldsE x) 0 (fun y _ => (deepS_range n _).2) (by omega)
    unfold deepS
    split
    · constructor <;> push_cast <;> omega
    · split
      · constructor <;> push_cast <;> omega
      · constructor <;> push_cast <;> omega

theorem drop_getD {xs : List E} {i : Nat} (h : i < xs.length) : xs.drop i = xs.getD i .nili :: xs.drop (i + 1) := by
  rw [getD_at h]; exact List.drop_eq_getElem_cons h

theorem deep6 {k mn mx : Int} {os fs gs : List E} {n : Int} {d : Nat} (hl : fs.length ≤ maxLen) (hw : IntKind.i64.wrap (n - 1) = d) (hf : ∀ x ∈ fs, RR none 57 [slotsOf x, num d] [] = some (.ret (num (deepS d x)), [])) (ht : ∀ x ∈ fs, Ty x) :
    ∀ (j : Nat) (i m : Int), 0 ≤ i → i ≤ fs.length → j = fs.length - i.toNat →
      LL 57 0 lc_57_6 (((((((List.replicate 49 AV.undef).set 1 (.e (.int .i64 n))).set 2 (.ptr 0 0)).set 5 (.e (.int .i64 m))).set 16 (.e (.sl 31 fs))).set 17 (.e (.int .i64 fs.length))).set 18 (.e (.int .i64 i))) [tyC k mn mx os fs gs] =
      some { ex := .exit 0, fr := [AV.undef, num n, AV.ptr 0 0, AV.undef, AV.undef, num ((fs.drop i.toNat).foldl (fun m y => max m (deepS d y)) m)] ++ List.replicate 43 AV.undef, hp := [tyC k mn mx os fs gs], df := [] } := by
  intro j
  induction j with
  | zero =>
    intro i m h0 h1 h2
    refine loop_of_body ((eq_deepL6 RR LL k mn mx os fs gs n m i fs.length).trans ?_)
    rw [List.drop_eq_nil_of_le (by omega)]
    exact cond_not (dec_no (by omega)) rfl
  | succ j ih =>
    intro i m h0 h1 h2
    have hi : i.toNat < fs.length := by omega
    have e1 := hf _ (getD_mem hi)
    have e2 := ih (i + 1) (max m (deepS d (fs.getD i.toNat E.nili))) (by omega) (by omega) (by omega)
    refine loop_of_body ((eq_deepL6 RR LL k mn mx os fs gs n m i fs.length).trans ?_)
    have hx := ht _ (getD_mem hi)
    rw [show (i + 1).toNat = i.toNat + 1 by omega] at e2
    rw [drop_getD hi, List.foldl_cons]
    generalize fs.getD i.toNat E.nili = x at e1 e2 hx ⊢
    cases hx
    rw [hw]
    refine cond_run (dec_yes (by omega)) (cond_run (and_yes (dec_yes h0) (dec_yes (by omega))) (bind_run e1 (cond_run okH (cond_run (okInt _) ?_))))
    rw [wrap_in (n := i + 1) (by omega) (by rw [maxLen_eq] at hl; omega)]
    exact bind_run e2 rfl

theorem deep12 {gs : List E} {n : Int} {d : Nat} (hl : gs.length ≤ maxLen) (hw : IntKind.i64.wrap (n - 1) = d) (hf : ∀ x ∈ gs, RR none 57 [slotsOf (fieldTy x), num d] [] = some (.ret (num (deepS d (fieldTy x))), [])) (ht : ∀ x ∈ gs, Ty (fieldTy x))
    (hn : ∀ x ∈ gs, ∃ n op cs, x = .agg (.str n :: .bool op :: cs) ∧ n.length ≤ maxLen) :
    ∀ (j : Nat) (i m : Int), 0 ≤ i → i ≤ gs.length → j = gs.length - i.toNat →
      LL 57 0 lc_57_12 ((((((List.replicate 49 AV.undef).set 1 (.e (.int .i64 n))).set 5 (.e (.int .i64 m))).set 33 (.e (.sl 65 gs))).set 34 (.e (.int .i64 gs.length))).set 35 (.e (.int .i64 i))) [] =
      some { ex := .exit 2, fr := [AV.undef, AV.undef, AV.undef, AV.undef, AV.undef, num ((gs.drop i.toNat).foldl (fun m y => max m (deepS d (fieldTy y))) m)] ++ List.replicate 43 AV.undef, hp := [], df := [] } := by
  intro j
  induction j with
  | zero =>
    intro i m h0 h1 h2
    refine loop_of_body ((eq_deepL12 RR LL gs n m i gs.length).trans ?_)
    rw [List.drop_eq_nil_of_le (by omega)]
    exact cond_not (dec_no (by omega)) rfl
  | succ j ih =>
    intro i m h0 h1 h2
    have hi : i.toNat < gs.length := by omega
    have e1 := hf _ (getD_mem hi)
    have e2 := ih (i + 1) (max m (deepS d (fieldTy (gs.getD i.toNat E.nili)))) (by omega) (by omega) (by omega)
    refine loop_of_body ((eq_deepL12 RR LL gs n m i gs.length).trans ?_)
    obtain ⟨_, _, _, _, _, _, _, _, hx, _⟩ := fieldX (ht _ (getD_mem hi)) (hn _ (getD_mem hi))
    rw [show (i + 1).toNat = i.toNat + 1 by omega] at e2
    rw [drop_getD hi, List.foldl_cons]
    generalize gs.getD i.toNat E.nili = x at e1 e2 hx ⊢
    subst hx
    rw [hw]
    refine cond_run (dec_yes (by omega)) (cond_run (and_yes (dec_yes h0) (dec_yes (by omega))) (bind_run e1 (cond_run okH (cond_run (okInt _) ?_))))
    rw [wrap_in (n := i + 1) (by omega) (by rw [maxLen_eq] at hl; omega)]
    exact bind_run e2 rfl

theorem deep_run : ∀ (d : Nat) (e : E), d ≤ 1000 → Ty e → RR none 57 [slotsOf e, num d] [] = some (.ret (num (deepS d e)), [])
  | 0, e, _, h => by
    cases h with
    | mk k mn mx os fs gs => exact run_of_body ((eq_deep RR LL k mn mx os fs gs 0).trans (cond_run rfl rfl))
  | d + 1, e, hd, h => by
    cases h with
    | mk k mn mx os fs gs ho hol hf hfl hg hgn hgl hk hmn hmx =>
    have hw : IntKind.i64.wrap (((d + 1 : Nat) : Int) - 1) = d := by rw [wrap_in (by omega) (by omega)]; omega
    have e6 := deep6 (k := k) (mn := mn) (mx := mx) (os := os) (gs := gs) hfl hw (fun x hx => deep_run d x (by omega) (hf x hx)) hf fs.length 0 0 (by omega) (by omega) (by simp)
    have e12 := deep12 hgl hw (fun x hx => deep_run d (fieldTy x) (by omega) (hg x hx)) hg hgn gs.length 0 0 (by omega) (by omega) (by simp)
    have hr := deepS_range (d + 1) (.agg [.int .i64 k, .int .i64 mn, .int .i64 mx, .sl 9 os, .sl 31 fs, .sl 65 gs])
    refine run_of_body ((eq_deep RR LL k mn mx os fs gs ((d + 1 : Nat) : Int)).trans (cond_not (by simp; omega) ?_))
    rw [deepS_at] at hr ⊢
    by_cases h5 : k = 5
    · subst h5
      rw [if_pos rfl] at hr ⊢
      refine cond_run rfl (bind_run e6 (cond_run rfl (cond_run (by kernel_rfl) (cond_not rfl ?_))))
      refine congrArg some (congrArg (fun z => (Res.ret (num z), ([] : Heap))) ?_)
      show IntKind.i64.wrap (fs.foldl (fun m y => max m (deepS d y)) 0 + 1) = _
      exact wrap_in (by omega) (by omega)
    · rw [if_neg h5] at hr ⊢
      refine cond_not (by simpa using h5) ?_
      by_cases h6 : k = 6
      · subst h6
        rw [if_pos rfl] at hr ⊢
        refine cond_run rfl (bind_run e12 (cond_run rfl (cond_run (by kernel_rfl) ?_)))
        refine congrArg some (congrArg (fun z => (Res.ret (num z), ([] : Heap))) ?_)
        show IntKind.i64.wrap (gs.foldl (fun m y => max m (deepS d (fieldTy y))) 0 + 1) = _
        exact wrap_in (by omega) (by omega)
      · rw [if_neg h6]
        exact cond_not (by simpa using h6) rfl

end Go.Proofs.YtapndkailgcboaaGreatDoor
