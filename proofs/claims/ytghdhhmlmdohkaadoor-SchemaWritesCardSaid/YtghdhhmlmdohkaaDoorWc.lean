/- The program's depth of values. -/
import Derived.Test.YtghdhhmlmdohkaaDoorWb
namespace Go.Proofs.YtghdhhmlmdohkaaDoor
open Go Go.Den
set_option maxRecDepth 100000

/-- How many levels a value has, to a bound. -/
def depthS : Nat → E → Nat
  | 0, _ => 1
  | n + 1, v => if (kindE v == 5 || kindE v == 6) = true then (listE v).foldl (fun m y => max m (depthS n y)) 0 + 1 else 1

theorem fold_le {f : E → Nat} {B : Nat} : ∀ (l : List E) (m : Nat), m ≤ B → (∀ y ∈ l, f y ≤ B) → l.foldl (fun m y => max m (f y)) m ≤ B := by
  intro l
  induction l with
  | nil => intro m h _; exact h
  | cons x l ih =>
    intro m h hf
    have := hf x (by simp)
    exact ih _ (Nat.max_le.2 ⟨h, this⟩) fun y hy => hf y (by simp [hy])
theorem fold_ge {f : E → Nat} : ∀ (l : List E) (m : Nat), m ≤ l.foldl (fun m y => max m (f y)) m ∧ ∀ y ∈ l, f y ≤ l.foldl (fun m y => max m (f y)) m := by
  intro l
  induction l with
  | nil => intro m; exact ⟨Nat.le_refl _, by simp⟩
  | cons x l ih =>
    intro m
    obtain ⟨h1, h2⟩ := ih (max m (f x))
    refine ⟨Nat.le_trans (by omega) h1, fun y hy => ?_⟩
    rcases List.mem_cons.1 hy with rfl | hy
    · exact Nat.le_trans (by omega) h1
    · exact h2 y hy
theorem fold_in {f : E → Nat} : ∀ (l : List E) (m : Nat), l.foldl (fun m y => max m (f y)) m = m ∨ ∃ y ∈ l, l.foldl (fun m y => max m (f y)) m = f y := by
  intro l
  induction l with
  | nil => intro m; exact .inl rfl
  | cons x l ih =>
    intro m
    rcases ih (max m (f x)) with h | ⟨y, hy, h⟩
    · by_cases hx : f x ≤ m
      · left; show List.foldl _ (max m (f x)) l = m; rw [h]; omega
      · right; exact ⟨x, by simp, by show List.foldl _ (max m (f x)) l = f x; rw [h]; omega⟩
    · exact .inr ⟨y, by simp [hy], h⟩

theorem depthS_le : ∀ (n : Nat) (v : E), depthS n v ≤ n + 1
  | 0, _ => Nat.le_refl _
  | n + 1, v => by
    unfold depthS
    split
    · have := fold_le (f := depthS n) (B := n + 1) (listE v) 0 (by omega) fun y _ => depthS_le n y
      omega
    · omega
theorem depthS_deep : ∀ (n : Nat) (v : E), (depthS n v = n + 1) ↔ rdeepV n v = true
  | 0, _ => by simp [depthS, rdeepV]
  | n + 1, v => by
    unfold depthS rdeepV
    cases hk : (kindE v == 5 || kindE v == 6) with
    | false => simp
    | true =>
      rw [if_pos rfl, Bool.true_and, List.any_eq_true]
      constructor
      · intro h
        rcases fold_in (f := depthS n) (listE v) 0 with h0 | ⟨y, hy, h0⟩
        · omega
        · exact ⟨y, hy, (depthS_deep n y).1 (by omega)⟩
      · rintro ⟨y, hy, h⟩
        have h1 := (depthS_deep n y).2 h
        have h2 := (fold_ge (f := depthS n) (listE v) 0).2 y hy
        have h3 := fold_le (f := depthS n) (B := n + 1) (listE v) 0 (by omega) fun y _ => depthS_le n y
        omega

abbrev deF (vs : List E) (n m i : Int) : Fr := (((((List.replicate 34 AV.undef).set 1 (.e (.int .i64 n))).set 5 (.e (.int .i64 m))).set 19 (.e (.sl 38 vs))).set 20 (.e (.int .i64 (vs.length : Int)))).set 21 (.e (.int .i64 i))
theorem depth_loop {vs : List E} {n : Nat} {t1 : Int} (hl : vs.length ≤ maxLen) (hw : IntKind.i64.wrap (t1 - 1) = n) (hf : ∀ v ∈ vs, RR none 45 [slotsV v, num n] [] = some (.ret (num (depthS n v)), [])) : ∀ (j i m : Nat), i + j = vs.length →
    LL 45 0 lc_45_6 (deF vs t1 m i) [] = some { ex := .exit 0, fr := [AV.undef, AV.undef, AV.undef, AV.undef, AV.undef, num ((vs.drop i).foldl (fun m y => max m (depthS n y)) m : Nat)] ++ List.replicate 28 AV.undef, hp := [], df := [] } := by
  intro j
  induction j with
  | zero =>
    intro i m h
    have : i = vs.length := by omega
    subst this
    rw [List.drop_length]
    exact loop_of_body ((eq_depthL6 RR LL t1 m vs vs.length vs.length).trans (cond_not (end_nat _) rfl))
  | succ j ih =>
    intro i m h
    have hi : i < vs.length := by omega
    have e := hf _ (getD_mem hi)
    refine loop_of_body ((eq_depthL6 RR LL t1 m vs vs.length i).trans (cond_run (lt_nat hi) (cond_run (in_nat hi) ?_)))
    rw [drop_getD hi, at_nat, hw, wrap_nat hi hl]
    refine callN e (bind_run ?_ rfl)
    have := ih (i + 1) (max m (depthS n (vs.getD i .nili))) (by omega)
    have hm : max (m : Int) ((depthS n (vs.getD i .nili) : Nat) : Int) = ((max m (depthS n (vs.getD i .nili)) : Nat) : Int) := by omega
    rw [← hm] at this
    exact this

theorem depth_run : ∀ (n : Nat) (v : E), n ≤ 20 → Val v → RR none 45 [slotsOf v, num n] [] = some (.ret (num (depthS n v)), [])
  | 0, v, _, h => by
    cases h with
    | mk k x1 x ns vs => exact run_of_body ((eq_depth RR LL k x1 x ns vs 0).trans (cond_run rfl rfl))
  | n + 1, v, hn, h => by
    cases h with
    | mk k x1 x ns vs hx hns hnl hv hvl hk hnum =>
    have hw : IntKind.i64.wrap (((n + 1 : Nat) : Int) - 1) = n := by rw [wrap_in (by omega) (by omega)]; omega
    have e := depth_loop (t1 := ((n + 1 : Nat) : Int)) hvl hw (fun v hm => by rw [slotsV_eq (hv v hm)]; exact depth_run n v (by omega) (hv v hm)) vs.length 0 0 (by omega)
    rw [List.drop_zero] at e
    refine run_of_body ((eq_depth RR LL k x1 x ns vs ((n + 1 : Nat) : Int)).trans (cond_not (ne_beq (by omega)) ?_))
    unfold depthS
    change (bif (bif k == 5 then true else k == 6) then _ else _) = some (Res.ret (num ((if (k == 5 || k == 6) = true then vs.foldl (fun m y => max m (depthS n y)) 0 + 1 else 1 : Nat) : Int)), [])
    have hb := fold_le (f := depthS n) (B := n + 1) vs 0 (by omega) fun y _ => depthS_le n y
    by_cases h56 : (k == 5 || k == 6) = true
    · rw [if_pos h56]
      refine cond_run (by cases h5 : (k == 5) <;> simp_all) (bind_run e (cond_run rfl (cond_run rfl ?_)))
      show some (Res.ret (num (IntKind.i64.wrap (((vs.foldl (fun m y => max m (depthS n y)) 0 : Nat) : Int) + 1))), ([] : Heap)) = _
      rw [wrap_in (by omega) (by omega)]
      rfl
    · rw [if_neg h56]
      refine cond_not (by cases h5 : (k == 5) <;> simp_all) rfl

end Go.Proofs.YtghdhhmlmdohkaaDoor
