/- How many parts a value has that is small. -/
import Derived.Test.YtghdhhmlmdohkaaDoorWh
import Derived.Test.YtghdhhmlmdohkaaDoorSp2
namespace Go.Proofs.YtghdhhmlmdohkaaDoor
open Go Go.Den
set_option maxRecDepth 100000

theorem parts3x {k x1 : Int} {x : List UInt8} {ns vs : List E} {sz : E → Nat} (hl : vs.length ≤ maxLen)
    (hf : ∀ v ∈ vs, ∀ n : Int, 0 ≤ n → n < 3000 → ∃ m : Int, RR none 44 [slotsOf v, num n] [] = some (.ret (num m), []) ∧ 0 ≤ m ∧ (m < 3000 → m = n + sz v)) (ht : ∀ v ∈ vs, Val v) :
    ∀ (j : Nat) (i n : Int), 0 ≤ i → i ≤ vs.length → j = vs.length - i.toNat → 0 ≤ n → ∃ m : Int, LL 44 0 lc_44_3 ((((List.replicate 39 AV.undef).set 1 (.e (.int .i64 n))).set 2 (.ptr 0 0)).set 5 (.e (.int .i64 i))) [vlC k x1 x ns vs] =
      some { ex := .exit 0, fr := [AV.undef, num m] ++ List.replicate 37 AV.undef, hp := [], df := [] } ∧ 0 ≤ m ∧ (m < 3000 → m = n + ((vs.drop i.toNat).map sz).sum) := by
  intro j
  induction j with
  | zero =>
    intro i n h0 h1 h2 hn0
    refine ⟨n, loop_of_body ((eq_partsL3 RR LL n i k x1 x ns vs).trans ?_), hn0, fun _ => ?_⟩
    · exact cond_not (and2_no (.inl (dec_no (by omega)))) rfl
    · rw [List.drop_eq_nil_of_le (by omega)]; simp
  | succ j ih =>
    intro i n h0 h1 h2 hn0
    by_cases hn : n < 3000
    · have hi : i.toNat < vs.length := by omega
      obtain ⟨m1, e1, g1, q1⟩ := hf _ (getD_mem hi) n hn0 hn
      obtain ⟨m2, e2, g2, q2⟩ := ih (i + 1) m1 (by omega) (by omega) (by omega) g1
      refine ⟨m2, loop_of_body ((eq_partsL3 RR LL n i k x1 x ns vs).trans ?_), g2, fun hm => ?_⟩
      · have hx := ht _ (getD_mem hi)
        generalize vs.getD i.toNat E.nili = y at e1 hx ⊢
        cases hx
        refine cond_run (and2_yes (dec_yes (by omega)) (dec_yes hn)) (cond_run (and_yes (dec_yes h0) (dec_yes (by omega))) (callN e1 ?_))
        rw [wrap_in (n := i + 1) (by omega) (by rw [maxLen_eq] at hl; omega)]
        exact bind_run e2 rfl
      · have e := q2 hm
        rw [show (i + 1).toNat = i.toNat + 1 by omega] at e
        rw [drop_getD hi, List.map_cons, List.sum_cons]
        have := q1 (by omega)
        push_cast
        omega
    · refine ⟨n, loop_of_body ((eq_partsL3 RR LL n i k x1 x ns vs).trans ?_), hn0, fun hm => by omega⟩
      exact cond_not (and2_no (.inr (dec_no hn))) rfl

/-- Nothing in it is longer than the form's reach. -/
def SizV (v : E) : Prop := ∀ c ∈ v.cells, SizeE reachBytes c
theorem reach_eq : reachBytes = 140737488351232 := rfl
theorem sizV_inv {k n : Int} {x : List UInt8} {ns vs : List E} (h : SizV (.agg [.int .i64 k, .int .i64 n, .str x, .sl 9 ns, .sl 38 vs])) :
    x.length ≤ 140737488351232 ∧ ns.length ≤ 140737488351232 ∧ vs.length ≤ 140737488351232 ∧ ∀ y ∈ vs, SizV y := by
  have h1 := h (.str x) (by simp [E.cells])
  have h2 := h (.sl 9 ns) (by simp [E.cells])
  have h3 := h (.sl 38 vs) (by simp [E.cells])
  cases h1 with
  | str _ h1 =>
  cases h2 with
  | sl _ _ h2 _ =>
  cases h3 with
  | sl _ _ h3 h4 => exact ⟨h1, h2, h3, fun y hy c hc => h4 y hy c hc⟩

theorem parts_runx : ∀ (d : Nat) (v : E), FulV 9 38 d v → Val v → SizV v → ∀ n : Int, 0 ≤ n → n < 3000 → ∃ m : Int, RR none 44 [slotsOf v, num n] [] = some (.ret (num m), []) ∧ 0 ≤ m ∧ (m < 3000 → m = n + sizV d v)
  | 0, _, h, _, _, _, _, _ => by cases h
  | d + 1, v, fv, h, hs, n, n0, n1 => by
    have sub : ∀ y ∈ listE v, FulV 9 38 d y := by
      rcases fv with ⟨n, rfl, _⟩ | ⟨x, rfl⟩ | rfl | rfl | ⟨vs, rfl, hv⟩ | ⟨ns, vs, rfl, hl, ha, hn, hv⟩
      · intro y hy; cases hy
      · intro y hy; cases hy
      · intro y hy; cases hy
      · intro y hy; cases hy
      · exact hv
      · exact hv
    cases h with
    | mk k x1 x ns vs hx hn hnl hv hvl hk hnum =>
    obtain ⟨s1, s2, s3, s4⟩ := sizV_inv hs
    have hw : IntKind.i64.wrap (n + IntKind.i64.wrap (IntKind.i64.wrap (IntKind.i64.wrap (1 + (x.length : Int)) + (ns.length : Int)) + (vs.length : Int))) = n + (1 + x.length + ns.length + vs.length) := by
      rw [wrap_in (n := 1 + (x.length : Int)) (by omega) (by omega), wrap_in (n := 1 + (x.length : Int) + (ns.length : Int)) (by omega) (by omega), wrap_in (n := 1 + (x.length : Int) + (ns.length : Int) + (vs.length : Int)) (by omega) (by omega), wrap_in (by omega) (by omega)]
    obtain ⟨m1, e1, g1, q1⟩ := parts3x (k := k) (x1 := x1) (x := x) (ns := ns) (sz := sizV d) hvl (fun v hm n h0 h1 => parts_runx d v (sub v hm) (hv v hm) (s4 v hm) n h0 h1) hv vs.length 0 (n + (1 + x.length + ns.length + vs.length)) (by omega) (by omega) (by simp) (by omega)
    refine ⟨m1, run_of_body ((eq_parts RR LL k x1 x ns vs n).trans ?_), g1, fun hm => ?_⟩
    · rw [hw]
      exact bind_run e1 (cond_run rfl (cond_run (by kernel_rfl) rfl))
    · have := q1 hm
      rw [show (0 : Int).toNat = 0 from rfl, List.drop_zero] at this
      rw [this]
      show _ = n + ((1 + x.length + ns.length + vs.length + (vs.map (sizV d)).sum : Nat) : Int)
      push_cast
      omega

theorem small_runx {d : Nat} {v : E} (fv : FulV 9 38 d v) (h : Val v) (hs : SizV v) : ∃ b, RR none 20 [slotsOf v] [] = some (.ret (yes b), []) ∧ (b = true → sizV d v < 3000) := by
  obtain ⟨m, hm, h0, h1⟩ := parts_runx d v fv h hs 0 (by omega) (by omega)
  cases h with
  | mk k x1 x ns vs =>
    refine ⟨decide (m < 3000), run_of_body ((eq_small RR LL k x1 x ns vs).trans (callN hm rfl)), fun hb => ?_⟩
    have : m < 3000 := of_decide_eq_true hb
    have := h1 this
    omega

end Go.Proofs.YtghdhhmlmdohkaaDoor
