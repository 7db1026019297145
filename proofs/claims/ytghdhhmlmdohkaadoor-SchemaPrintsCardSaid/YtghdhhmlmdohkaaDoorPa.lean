/- How many parts a schema has that is light. -/
import Derived.Test.YtghdhhmlmdohkaaDoorVa
import Derived.Test.YtghdhhmlmdohkaaDoorSp2
namespace Go.Proofs.YtghdhhmlmdohkaaDoor
open Go Go.Den
set_option maxRecDepth 100000

theorem nodes3x {k mn mx : Int} {os fs gs : List E} {sz : E → Nat} (hl : fs.length ≤ maxLen) (hf : ∀ x ∈ fs, ∀ n : Int, 0 ≤ n → n < 300 → ∃ m : Int, RR none 35 [slotsOf x, num n] [] = some (.ret (num m), []) ∧ 0 ≤ m ∧ (m < 300 → m = n + sz x)) (ht : ∀ x ∈ fs, Ty x) :
    ∀ (j : Nat) (i n : Int), 0 ≤ i → i ≤ fs.length → j = fs.length - i.toNat → 0 ≤ n → ∃ m : Int, LL 35 0 lc_35_3 ((((List.replicate 59 AV.undef).set 1 (.e (.int .i64 n))).set 2 (.ptr 0 0)).set 5 (.e (.int .i64 i))) [tyC k mn mx os fs gs] =
      some { ex := .exit 0, fr := [AV.undef, num m, AV.ptr 0 0] ++ List.replicate 56 AV.undef, hp := [tyC k mn mx os fs gs], df := [] } ∧ 0 ≤ m ∧ (m < 300 → m = n + ((fs.drop i.toNat).map sz).sum) := by
  intro j
  induction j with
  | zero =>
    intro i n h0 h1 h2 hn0
    refine ⟨n, loop_of_body ((eq_nodesL3 RR LL k mn mx os fs gs n i).trans ?_), hn0, fun _ => ?_⟩
    · exact cond_not (and2_no (.inl (dec_no (by omega)))) rfl
    · rw [List.drop_eq_nil_of_le (by omega)]; simp
  | succ j ih =>
    intro i n h0 h1 h2 hn0
    by_cases hn : n < 300
    · have hi : i.toNat < fs.length := by omega
      obtain ⟨m1, e1, g1, q1⟩ := hf _ (getD_mem hi) n hn0 hn
      obtain ⟨m2, e2, g2, q2⟩ := ih (i + 1) m1 (by omega) (by omega) (by omega) g1
      refine ⟨m2, loop_of_body ((eq_nodesL3 RR LL k mn mx os fs gs n i).trans ?_), g2, fun hm => ?_⟩
      · have hx := ht _ (getD_mem hi)
        generalize fs.getD i.toNat E.nili = x at e1 hx ⊢
        cases hx
        refine cond_run (and2_yes (dec_yes (by omega)) (dec_yes hn)) (cond_run (and_yes (dec_yes h0) (dec_yes (by omega))) (bind_run e1 (cond_run okH (cond_run (okInt m1) ?_))))
        rw [wrap_in (n := i + 1) (by omega) (by rw [maxLen_eq] at hl; omega)]
        exact bind_run e2 rfl
      · have e := q2 hm
        rw [show (i + 1).toNat = i.toNat + 1 by omega] at e
        rw [drop_getD hi, List.map_cons, List.sum_cons]
        have := q1 (by omega)
        push_cast
        omega
    · refine ⟨n, loop_of_body ((eq_nodesL3 RR LL k mn mx os fs gs n i).trans ?_), hn0, fun hm => by omega⟩
      exact cond_not (and2_no (.inr (dec_no hn))) rfl

theorem nodes7x {k mn mx : Int} {os fs gs : List E} {sz : E → Nat} (hl : gs.length ≤ maxLen) (hg : ∀ x ∈ gs, ∀ n : Int, 0 ≤ n → n < 300 → ∃ m : Int, RR none 35 [slotsOf (fieldTy x), num n] [] = some (.ret (num m), []) ∧ 0 ≤ m ∧ (m < 300 → m = n + sz x)) (ht : ∀ x ∈ gs, Ty (fieldTy x))
    (hn : ∀ x ∈ gs, ∃ n op cs, x = .agg (.str n :: .bool op :: cs) ∧ n.length ≤ maxLen) :
    ∀ (j : Nat) (i n : Int), 0 ≤ i → i ≤ gs.length → j = gs.length - i.toNat → 0 ≤ n → ∃ m : Int, LL 35 0 lc_35_7 ((((List.replicate 59 AV.undef).set 1 (.e (.int .i64 n))).set 2 (.ptr 0 0)).set 6 (.e (.int .i64 i))) [tyC k mn mx os fs gs] =
      some { ex := .exit 2, fr := [AV.undef, num m] ++ List.replicate 57 AV.undef, hp := [], df := [] } ∧ 0 ≤ m ∧ (m < 300 → m = n + ((gs.drop i.toNat).map sz).sum) := by
  intro j
  induction j with
  | zero =>
    intro i n h0 h1 h2 hn0
    refine ⟨n, loop_of_body ((eq_nodesL7 RR LL k mn mx os fs gs n i).trans ?_), hn0, fun _ => ?_⟩
    · exact cond_not (and2_no (.inl (dec_no (by omega)))) rfl
    · rw [List.drop_eq_nil_of_le (by omega)]; simp
  | succ j ih =>
    intro i n h0 h1 h2 hn0
    by_cases hn3 : n < 300
    · have hi : i.toNat < gs.length := by omega
      obtain ⟨m1, e1, g1, q1⟩ := hg _ (getD_mem hi) n hn0 hn3
      obtain ⟨m2, e2, g2, q2⟩ := ih (i + 1) m1 (by omega) (by omega) (by omega) g1
      refine ⟨m2, loop_of_body ((eq_nodesL7 RR LL k mn mx os fs gs n i).trans ?_), g2, fun hm => ?_⟩
      · obtain ⟨_, _, _, _, _, _, _, _, hx, _⟩ := fieldX (ht _ (getD_mem hi)) (hn _ (getD_mem hi))
        clear q1
        generalize gs.getD i.toNat E.nili = x at e1 hx ⊢
        subst hx
        refine cond_run (and2_yes (dec_yes (by omega)) (dec_yes hn3)) (cond_run (and_yes (dec_yes h0) (dec_yes (by omega))) (bind_run e1 (cond_run okH (cond_run (okInt m1) ?_))))
        rw [wrap_in (n := i + 1) (by omega) (by rw [maxLen_eq] at hl; omega)]
        exact bind_run e2 rfl
      · have e := q2 hm
        rw [show (i + 1).toNat = i.toNat + 1 by omega] at e
        rw [drop_getD hi, List.map_cons, List.sum_cons]
        have := q1 (by omega)
        push_cast
        omega
    · refine ⟨n, loop_of_body ((eq_nodesL7 RR LL k mn mx os fs gs n i).trans ?_), hn0, fun hm => by omega⟩
      exact cond_not (and2_no (.inr (dec_no hn3))) rfl

theorem ful_parts {d : Nat} {x : E} (h : Ful 9 26 64 (d + 1) x) : (optsE x).length ≤ 16 ∧ (ofE x).length ≤ 1 ∧ (fieldsE x).length ≤ 16 ∧ (∀ y ∈ ofE x, Ful 9 26 64 d y) ∧ ∀ g ∈ fieldsE x, Ful 9 26 64 d (fieldTy g) := by
  rcases h with ⟨mn, mx, rfl, h1, h2, h3⟩ | ⟨mn, mx, rfl, h1, h2, h3⟩ | rfl | ⟨os, rfl, h1, h2, h3, h4⟩ | ⟨mn, mx, y, rfl, h1, h2, h3, h4⟩ | ⟨gs, rfl, h1, h2, h3⟩ | rfl
  · exact ⟨by show 0 ≤ 16; omega, by show 0 ≤ 1; omega, by show 0 ≤ 16; omega, fun y hy => (by cases hy), fun y hy => (by cases hy)⟩
  · exact ⟨by show 0 ≤ 16; omega, by show 0 ≤ 1; omega, by show 0 ≤ 16; omega, fun y hy => (by cases hy), fun y hy => (by cases hy)⟩
  · exact ⟨by show 0 ≤ 16; omega, by show 0 ≤ 1; omega, by show 0 ≤ 16; omega, fun y hy => (by cases hy), fun y hy => (by cases hy)⟩
  · exact ⟨h2, by show 0 ≤ 1; omega, by show 0 ≤ 16; omega, fun y hy => (by cases hy), fun y hy => (by cases hy)⟩
  · refine ⟨by show 0 ≤ 16; omega, by show 1 ≤ 1; omega, by show 0 ≤ 16; omega, fun z hz => ?_, fun y hy => (by cases hy)⟩
    have hz : z ∈ [y] := hz
    simp at hz
    subst hz; exact h4
  · refine ⟨by show 0 ≤ 16; omega, by show 0 ≤ 1; omega, h1, fun y hy => (by cases hy), fun g hg => ?_⟩
    obtain ⟨n, o, y, rfl, _, _, hy⟩ := h3 g hg
    rw [hy.fieldTy]; exact hy
  · exact ⟨by show 0 ≤ 16; omega, by show 0 ≤ 1; omega, by show 0 ≤ 16; omega, fun y hy => (by cases hy), fun y hy => (by cases hy)⟩

theorem nodes_runx : ∀ (d : Nat) (x : E), Ful 9 26 64 d x → Ty x → ∀ n : Int, 0 ≤ n → n < 300 → ∃ m : Int, RR none 35 [slotsOf x, num n] [] = some (.ret (num m), []) ∧ 0 ≤ m ∧ (m < 300 → m = n + sizT d x)
  | 0, _, h, _, _, _, _ => by cases h
  | d + 1, x, fx, h, n, n0, n1 => by
    obtain ⟨p1, p2, p3, p4, p5⟩ := ful_parts fx
    cases h with
    | mk k mn mx os fs gs ho hol hf hfl hg hgn hgl hk hmn hmx =>
    change os.length ≤ 16 at p1
    change fs.length ≤ 1 at p2
    change gs.length ≤ 16 at p3
    have hw : IntKind.i64.wrap (n + IntKind.i64.wrap (IntKind.i64.wrap (IntKind.i64.wrap (1 + (os.length : Int)) + (gs.length : Int)) + (fs.length : Int))) = n + (1 + os.length + gs.length + fs.length) := by
      rw [wrap_in (n := 1 + (os.length : Int)) (by omega) (by omega), wrap_in (n := 1 + (os.length : Int) + (gs.length : Int)) (by omega) (by omega), wrap_in (n := 1 + (os.length : Int) + (gs.length : Int) + (fs.length : Int)) (by omega) (by omega), wrap_in (by omega) (by omega)]
    obtain ⟨m1, e1, g1, q1⟩ := nodes3x (k := k) (mn := mn) (mx := mx) (os := os) (gs := gs) (sz := sizT d) hfl (fun y hy n h0 h1 => nodes_runx d y (p4 y hy) (hf y hy) n h0 h1) hf fs.length 0 (n + (1 + os.length + gs.length + fs.length)) (by omega) (by omega) (by simp) (by omega)
    obtain ⟨m2, e2, g2, q2⟩ := nodes7x (k := k) (mn := mn) (mx := mx) (os := os) (fs := fs) (sz := fun g => sizT d (fieldTy g)) hgl (fun y hy n h0 h1 => nodes_runx d _ (p5 y hy) (hg y hy) n h0 h1) hg hgn gs.length 0 m1 (by omega) (by omega) (by simp) g1
    refine ⟨m2, run_of_body ((eq_nodes RR LL k mn mx os fs gs n).trans ?_), g2, fun hm => ?_⟩
    · rw [hw]
      exact bind_run e1 (cond_run rfl (cond_run (by kernel_rfl) (bind_run e2 (cond_run rfl (cond_run (by kernel_rfl) rfl)))))
    · have r2 := q2 hm
      rw [show (0 : Int).toNat = 0 from rfl, List.drop_zero] at r2
      have r1 := q1 (by omega)
      rw [show (0 : Int).toNat = 0 from rfl, List.drop_zero] at r1
      rw [r2, r1]
      show _ = n + ((1 + os.length + gs.length + fs.length + (fs.map (sizT d)).sum + (gs.map fun g => sizT d (fieldTy g)).sum : Nat) : Int)
      push_cast
      omega

theorem light_runx {d : Nat} {x : E} (fx : Ful 9 26 64 d x) (h : Ty x) : ∃ b, RR none 12 [slotsOf x] [] = some (.ret (yes b), []) ∧ (b = true → sizT d x < 300) := by
  obtain ⟨m, hm, h0, h1⟩ := nodes_runx d x fx h 0 (by omega) (by omega)
  cases h with
  | mk k mn mx os fs gs =>
    refine ⟨decide (m < 300), run_of_body ((eq_light RR LL k mn mx os fs gs).trans (bind_run hm (cond_run okH (cond_run (okInt m) rfl)))), fun hb => ?_⟩
    have : m < 300 := of_decide_eq_true hb
    have := h1 this
    omega

end Go.Proofs.YtghdhhmlmdohkaaDoor
