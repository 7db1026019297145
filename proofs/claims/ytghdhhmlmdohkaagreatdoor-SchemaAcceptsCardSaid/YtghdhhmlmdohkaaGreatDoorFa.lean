/- Fits, the program's. -/
import Derived.Test.YtghdhhmlmdohkaaGreatDoorNu
import Derived.Test.YtghdhhmlmdohkaaGreatDoorHa
import Derived.Test.YtghdhhmlmdohkaaGreatDoorFg
namespace Go.Proofs.YtghdhhmlmdohkaaGreatDoor
open Go Go.Den
set_option maxRecDepth 100000

/-! ### the length of paths -/

theorem elemsS_len {f : E → Option (List UInt8)} {B : Nat} : ∀ {l : List E} {i : Nat} {p : List UInt8}, (∀ x ∈ l, ∀ p, f x = some p → p.length ≤ B) → i + l.length ≤ 9223372036854775807 → elemsS f i l = some p → p.length ≤ 22 + B
  | [], i, p, _, _, h => by cases h
  | x :: l, i, p, hf, hi, h => by
    unfold elemsS at h
    cases hx : f x with
    | some q =>
      rw [hx] at h
      injection h with h
      have := hf x (by simp) q hx
      have := itoa_len (n := (i : Int)) (by omega) (by simp at hi; omega)
      rw [← h]; simp; omega
    | none =>
      rw [hx] at h
      exact elemsS_len (fun y hy => hf y (by simp [hy])) (by simp at hi ⊢; omega) h
theorem membS_len {f : E → E → Option (List UInt8)} {B : Nat} : ∀ {ts ns vs : List E} {p : List UInt8}, (∀ t ∈ ts, (nmE t).length ≤ 16) → (∀ n ∈ ns, (nmE n).length ≤ 16) → ns.length = vs.length → (∀ t ∈ ts, ∀ v ∈ vs, ∀ p, f (fieldTy t) v = some p → p.length ≤ B) →
    membS f ts ns vs = some p → p.length ≤ 17 + B
  | [], [], _, _, _, _, _, _, h => by cases h
  | [], n :: ns, _, p, _, hn, _, _, h => by
    injection h with h
    have := hn n (by simp)
    rw [← h]; simp; omega
  | t :: ts, [], vs, p, ht, hn, hl, hf, h => by
    unfold membS at h
    split at h
    · exact membS_len (fun x hx => ht x (by simp [hx])) hn hl (fun x hx => hf x (by simp [hx])) h
    · injection h with h
      have := ht t (by simp)
      rw [← h]; simp; omega
  | t :: ts, n :: ns, [], p, ht, hn, hl, hf, h => by simp at hl
  | t :: ts, n :: ns, v :: vs, p, ht, hn, hl, hf, h => by
    unfold membS at h
    split at h
    · split at h
      · exact membS_len (fun x hx => ht x (by simp [hx])) hn hl (fun x hx => hf x (by simp [hx])) h
      · injection h with h
        have := ht t (by simp)
        rw [← h]; simp; omega
    · split at h
      · injection h with h
        have := hn n (by simp)
        rw [← h]; simp; omega
      · cases hq : f (fieldTy t) ((v :: vs).getD 0 .nili) with
        | some q =>
          rw [hq] at h
          injection h with h
          have h1 := hf t (by simp) v (by simp) q hq
          have := hn n (by simp)
          rw [← h]; simp; omega
        | none =>
          rw [hq] at h
          exact membS_len (ts := ts) (ns := ns) (vs := vs) (fun x hx => ht x (by simp [hx])) (fun x hx => hn x (by simp [hx])) (by simpa using hl) (fun x hx y hy => hf x (by simp [hx]) y (by simp [hy])) h

theorem ful_names {d : Nat} {t : E} (h : Ful 9 27 81 d t) : ∀ g ∈ fieldsE t, (nmE g).length ≤ 16 := by
  cases d with
  | zero => cases h
  | succ d =>
    rcases h with ⟨_, _, rfl, _⟩ | ⟨_, _, rfl, _⟩ | rfl | ⟨_, rfl, _⟩ | ⟨_, _, _, rfl, _⟩ | ⟨gs, rfl, _, _, h⟩ | rfl <;> intro g hg
    · cases hg
    · cases hg
    · cases hg
    · cases hg
    · cases hg
    · obtain ⟨n, o, y, rfl, _, h2, _⟩ := h g hg
      exact h2
    · cases hg
theorem ful_sub5 {d : Nat} {t : E} (h : Ful 9 27 81 (d + 1) t) (h5 : kindE t = 5) : Ful 9 27 81 d (ofOne t) ∧ (ofE t).length = 1 ∧ maxE t ≤ 32 ∧ 0 ≤ minE t := by
  rcases h with ⟨_, _, rfl, _⟩ | ⟨_, _, rfl, _⟩ | rfl | ⟨_, rfl, _⟩ | ⟨mn, mx, y, rfl, h1, h2, h3, h4⟩ | ⟨gs, rfl, _⟩ | rfl
  any_goals (rw [kind_mkT] at h5; omega)
  exact ⟨h4, rfl, h3, h1⟩
theorem ful_sub6 {d : Nat} {t : E} (h : Ful 9 27 81 (d + 1) t) (h6 : kindE t = 6) : ∀ g ∈ fieldsE t, Ful 9 27 81 d (fieldTy g) := by
  rcases h with ⟨_, _, rfl, _⟩ | ⟨_, _, rfl, _⟩ | rfl | ⟨_, rfl, _⟩ | ⟨mn, mx, y, rfl, _⟩ | ⟨gs, rfl, _, _, h⟩ | rfl
  any_goals (rw [kind_mkT] at h6; omega)
  intro g hg
  obtain ⟨n, o, y, rfl, _, _, hy⟩ := h g hg
  rw [hy.fieldTy]; exact hy
theorem fulV_sub5 {e : Nat} {v : E} (h : FulV 9 39 e v) (h5 : kindE v = 5) : ∃ e', ∀ x ∈ listE v, FulV 9 39 e' x := by
  cases e with
  | zero => cases h
  | succ e =>
    rcases h with ⟨n, rfl, _⟩ | ⟨x, rfl⟩ | rfl | rfl | ⟨vs, rfl, hv⟩ | ⟨ns, vs, rfl, _⟩
    any_goals (rw [kind_mkV] at h5; omega)
    exact ⟨e, hv⟩
theorem fulV_sub6 {e : Nat} {v : E} (h : FulV 9 39 e v) (h6 : kindE v = 6) : (∃ e', ∀ x ∈ listE v, FulV 9 39 e' x) ∧ (namesE v).length = (listE v).length ∧ ∀ n ∈ namesE v, (nmE n).length ≤ 16 := by
  cases e with
  | zero => cases h
  | succ e =>
    rcases h with ⟨n, rfl, _⟩ | ⟨x, rfl⟩ | rfl | rfl | ⟨vs, rfl, hv⟩ | ⟨ns, vs, rfl, hl, _, hn, hv⟩
    any_goals (rw [kind_mkV] at h6; omega)
    refine ⟨⟨e, hv⟩, hl, fun n hm => ?_⟩
    obtain ⟨m, rfl, _, h2⟩ := hn n hm
    exact h2

theorem fits_len : ∀ (d : Nat) {e : Nat} {t v : E} {p : List UInt8}, Ful 9 27 81 d t → FulV 9 39 e v → fitsS d t v = some p → p.length ≤ 40 * d
  | 0, _, _, _, _, h, _, _ => by cases h
  | d + 1, e, t, v, p, ht, hv, h => by
    have no : ∀ {b : Bool}, yesS b = some p → p.length ≤ 40 * (d + 1) := fun {b} h => by
      cases b with
      | true => cases h
      | false => injection h with h; rw [← h]; simp
    unfold fitsS at h
    split at h
    · cases h
    split at h
    · exact no h
    split at h
    · exact no h
    split at h
    · exact no h
    split at h
    · exact no h
    split at h
    · rename_i h5
      split at h
      · rename_i hc
        obtain ⟨k1, k2, k3, k4⟩ := ful_sub5 ht h5
        obtain ⟨e', hv'⟩ := fulV_sub5 hv hc.1
        have := elemsS_len (B := 40 * d) (fun x hx p hp => fits_len d k1 (hv' x hx) hp) (by omega) h
        omega
      · injection h with h; rw [← h]; simp
    split at h
    · rename_i h6
      split at h
      · rename_i hc
        obtain ⟨⟨e', hv'⟩, hl, hn⟩ := fulV_sub6 hv hc
        have := membS_len (B := 40 * d) (ful_names ht) hn hl (fun g hg x hx p hp => fits_len d (ful_sub6 ht h6 g hg) (hv' x hx) hp) h
        omega
      · injection h with h; rw [← h]; simp
    · injection h with h; rw [← h]; simp

/-! ### elements -/

abbrev outP (n w : Nat) (p : Option (List UInt8)) : Out := match p with | none => { ex := .exit w, fr := List.replicate (n + 6) AV.undef, hp := [], df := [] } | some p => { ex := .ret, fr := [AV.undef, AV.undef, AV.undef, AV.undef, str p, yes false] ++ List.replicate n AV.undef, hp := [], df := [] }
def fitR (p : Option (List UInt8)) : Res := match p with | none => .ret (.tup [str [], yes true]) | some p => .ret (.tup [str p, yes false])
theorem okFit (s : List UInt8) (b : Bool) : okRes PP 42 (.ret (.tup [str s, yes b])) = true := by kernel_rfl
theorem callP {β : Type} {x : Option (Res × Heap)} {p : Option (List UInt8)} {K : Res × Heap → Option β} {r : Option β} (h : x = some (fitR p, [])) (hK : K (fitR p, []) = r) :
    (x.bind fun rh => bif okHeap [] rh.2 then bif okRes PP 42 rh.1 then K rh else none else none) = r := by
  refine bind_run h (cond_run okH (cond_run ?_ hK))
  cases p with
  | none => exact okFit ..
  | some p => exact okFit ..
theorem behindP {n w : Nat} {p : Option (List UInt8)} {x : Option Out} (h : x = some (outP n w p))
    (hk : (okFr (List.replicate (n + 6) AV.undef) (List.replicate (n + 6) AV.undef) && okHeap [] []) = true) (hk2 : ∀ p, (okFr ([AV.undef, AV.undef, AV.undef, AV.undef, str [], yes false] ++ List.replicate n AV.undef) ([AV.undef, AV.undef, AV.undef, AV.undef, str p, yes false] ++ List.replicate n AV.undef) && okHeap [] []) = true) :
    (x.bind fun o => bif o.ex.isWay (Way.exit w) then bif okFr (List.replicate (n + 6) AV.undef) o.2 && okHeap [] o.3 then some (Res.ret (.tup [str [], yes true]), ([] : Heap)) else none
      else bif o.ex.isWay Way.ret then bif okFr ([AV.undef, AV.undef, AV.undef, AV.undef, str [], yes false] ++ List.replicate n AV.undef) o.2 && okHeap [] o.3 then
        some (Res.ret (.tup [str ((List.getD o.fr 4 AV.undef).data.toStr), yes ((List.getD o.fr 5 AV.undef).data.toBool)]), ([] : Heap)) else none else none) = some (fitR p, []) := by
  cases p with
  | none =>
    refine bind_run h (cond_run ?_ (cond_run hk rfl))
    show (w == w) = true
    simp
  | some p => exact bind_run h (cond_not rfl (cond_run rfl (cond_run (hk2 p) rfl)))

theorem elements2 {t : E} {k mn mx : Int} {os fs gs vs : List E} {f : E → Option (List UInt8)} (hl : vs.length ≤ maxLen) (hp : ∀ v ∈ vs, ∀ p, f v = some p → p.length ≤ 1000)
    (hf : ∀ v ∈ vs, RR none 20 [tyA k mn mx os fs gs, slotsV v] [] = some (fitR (f v), [])) :
    ∀ (j i : Nat), i + j = vs.length → LL 56 0 lc_56_2 (((((List.replicate 33 AV.undef).set 2 (.ptr 0 0)).set 11 (.e (.sl 39 vs))).set 12 (.e (.int .i64 vs.length))).set 13 (.e (.int .i64 (i : Int)))) [tyC k mn mx os fs gs] =
      some (outP 27 0 (elemsS f i (vs.drop i))) := by
  intro j
  induction j with
  | zero =>
    intro i h
    have : i = vs.length := by omega
    subst this
    rw [List.drop_length]
    exact loop_of_body ((eq_elementsL2 RR LL vs vs.length vs.length k mn mx os fs gs).trans (cond_not (end_nat _) rfl))
  | succ j ih =>
    intro i h
    have hi : i < vs.length := by omega
    have e2 := ih (i + 1) (by omega)
    have e1 := hf _ (getD_mem hi)
    have b1 := hp _ (getD_mem hi)
    refine loop_of_body ((eq_elementsL2 RR LL vs vs.length i k mn mx os fs gs).trans (cond_run (lt_nat hi) (cond_run (in_nat hi) ?_)))
    rw [drop_getD hi, at_nat, wrap_nat hi hl]
    unfold elemsS
    refine callP e1 ?_
    cases hx : f (vs.getD i .nili) with
    | none => exact cond_not rfl (bind_run e2 rfl)
    | some p =>
      have hb := b1 p hx
      rw [maxLen_eq] at hl
      have il := itoa_len (n := (i : Int)) (by omega) (by omega)
      refine cond_run rfl (cond_run (and_yes (dec_yes (by omega)) (dec_yes (by omega))) (cond_run (dec_yes (by omega)) (cond_run (dec_yes (by simp; omega)) (cond_run (dec_yes ?_) ?_))))
      · show ([91] ++ Lib.itoa i ++ [93]).length + p.length ≤ _
        simp; omega
      · show some (outP 27 0 (some ([91] ++ Lib.itoa i ++ [93] ++ p))) = _
        simp

theorem elements_run {k mn mx : Int} {os fs gs vs ns : List E} {k' n' : Int} {x : List UInt8} {f : E → Option (List UInt8)} (hl : vs.length ≤ maxLen) (hp : ∀ v ∈ vs, ∀ p, f v = some p → p.length ≤ 1000)
    (hf : ∀ v ∈ vs, RR none 20 [tyA k mn mx os fs gs, slotsV v] [] = some (fitR (f v), [])) :
    RR none 56 [tyA k mn mx os fs gs, vlA k' n' x ns vs] [] = some (fitR (elemsS f 0 vs), []) := by
  have e1 := elements2 (t := .nili) hl hp hf vs.length 0 (by omega)
  rw [List.drop_zero] at e1
  exact run_of_body ((eq_elements RR LL k mn mx os fs gs k' n' x ns vs).trans (behindP e1 (by kernel_rfl) (fun p => by kernel_rfl)))

/-! ### members -/

theorem members2 {k mn mx k' n' : Int} {os fs gs ns vs : List E} {x : List UInt8} {f : E → E → Option (List UInt8)} (hgl : gs.length ≤ maxLen) (hl : ns.length ≤ maxLen) (hnv : ns.length = vs.length)
    (hgn : ∀ g ∈ gs, (nmE g).length ≤ 16) (hnn : ∀ n ∈ ns, (nmE n).length ≤ 16) (hp : ∀ g ∈ gs, ∀ v ∈ vs, ∀ p, f (fieldTy g) v = some p → p.length ≤ 1000)
    (hf : ∀ g ∈ gs, ∀ v ∈ vs, RR none 20 [slotsF g, slotsV v] [] = some (fitR (f (fieldTy g) v), [])) :
    ∀ (m i j : Nat), i ≤ gs.length → j ≤ ns.length → m = (gs.length - i) + (ns.length - j) →
      LL 57 0 lc_57_2 (((((List.replicate 120 AV.undef).set 2 (.ptr 0 0)).set 3 (.ptr 1 0)).set 6 (.e (.int .i64 (i : Int)))).set 7 (.e (.int .i64 (j : Int)))) [tyC k mn mx os fs gs, vlC k' n' x ns vs] =
      some (outP 114 0 (membS f (gs.drop i) (ns.drop j) (vs.drop j))) := by
  intro m
  induction m using Nat.strongRecOn with
  | _ m ih =>
  intro i j h1 h2 hm
  refine loop_of_body ((eq_membersL2 RR LL i j k mn mx os fs gs k' n' x ns vs).trans ?_)
  by_cases hi : i < gs.length <;> by_cases hj : j < ns.length
  · have hjv : j < vs.length := by omega
    have ng := hgn _ (getD_mem hi)
    have nn := hnn _ (getD_mem hj)
    have e2 := ih (m - 1) (by omega) (i + 1) j (by omega) (by omega) (by omega)
    have e3 := ih (m - 2) (by omega) (i + 1) (j + 1) (by omega) (by omega) (by omega)
    have e1 := hf _ (getD_mem hi) _ (getD_mem hjv)
    have b1 := hp _ (getD_mem hi) _ (getD_mem hjv)
    rw [drop_getD hj] at e2
    rw [drop_getD hi, drop_getD hj]
    unfold membS
    rw [getD_drop, List.drop_drop]
    rw [at_nat, at_nat, wrap_nat hi hgl, wrap_nat hj hl]
    refine cond_run (or2_yes (.inl (lt_nat hi))) (cond_run (by rw [ne_beq (show (j : Int) ≠ ns.length by omega)]; rfl) (cond_run (by rw [lt_nat hi]; rfl) (cond_run (in_nat hi) (cond_run (in_nat hj) ?_))))
    change (bif Op.bytesLess (nmE (gs.getD i .nili)) (nmE (ns.getD j .nili)) then _ else _) = _
    cases hl1 : Op.bytesLess (nmE (gs.getD i .nili)) (nmE (ns.getD j .nili)) with
    | true =>
      rw [if_pos rfl]
      refine cond_run rfl (cond_run (in_nat hi) ?_)
      change (bif !(optF (gs.getD i .nili)) then _ else _) = _
      cases ho : optF (gs.getD i .nili) with
      | false =>
        rw [if_neg (by decide)]
        refine cond_run rfl (cond_run (in_nat hi) (cond_run (dec_yes ?_) rfl))
        change 1 + (nmE (gs.getD i .nili)).length ≤ _
        omega
      | true =>
        rw [if_pos rfl]
        exact cond_not rfl (bind_run e2 rfl)
    | false =>
      rw [if_neg (by decide)]
      refine cond_not rfl (cond_run (by rw [ne_beq (show (i : Int) ≠ gs.length by omega)]; rfl) (cond_run (in_nat hj) (cond_run (in_nat hi) ?_)))
      change (bif Op.bytesLess (nmE (ns.getD j .nili)) (nmE (gs.getD i .nili)) then _ else _) = _
      cases hl2 : Op.bytesLess (nmE (ns.getD j .nili)) (nmE (gs.getD i .nili)) with
      | true =>
        rw [if_pos rfl]
        refine cond_run rfl (cond_run (in_nat hj) (cond_run (dec_yes ?_) rfl))
        change 1 + (nmE (ns.getD j .nili)).length ≤ _
        omega
      | false =>
        rw [if_neg (by decide)]
        refine cond_not rfl (cond_run (in_nat hi) (cond_run (in_nat hjv) (callP e1 ?_)))
        cases hx : f (fieldTy (gs.getD i .nili)) (vs.getD j .nili) with
        | none => exact cond_not rfl (bind_run e3 rfl)
        | some p =>
          have hb := b1 p hx
          refine cond_run rfl (cond_run (in_nat hj) (cond_run (dec_yes ?_) (cond_run (dec_yes ?_) rfl)))
          · change 1 + (nmE (ns.getD j .nili)).length ≤ _
            omega
          · change (nmE (ns.getD j .nili)).length + 1 + p.length ≤ _
            omega
  · have hj' : j = ns.length := by omega
    have ng := hgn _ (getD_mem hi)
    have e2 := ih (m - 1) (by omega) (i + 1) j (by omega) (by omega) (by omega)
    have hd : ns.drop j = [] := List.drop_eq_nil_of_le (by omega)
    rw [hd] at e2 ⊢
    rw [drop_getD hi]
    unfold membS
    rw [at_nat, wrap_nat hi hgl]
    refine cond_run (or2_yes (.inl (lt_nat hi))) (cond_not (by rw [eq_beq (show (j : Int) = ns.length by omega)]; rfl) (cond_run (in_nat hi) ?_))
    change (bif !(optF (gs.getD i .nili)) then _ else _) = _
    cases ho : optF (gs.getD i .nili) with
    | false =>
      rw [if_neg (by decide)]
      refine cond_run rfl (cond_run (in_nat hi) (cond_run (dec_yes ?_) rfl))
      change 1 + (nmE (gs.getD i .nili)).length ≤ _
      omega
    | true =>
      rw [if_pos rfl]
      exact cond_not rfl (bind_run e2 rfl)
  · have nn := hnn _ (getD_mem hj)
    have hd : gs.drop i = [] := List.drop_eq_nil_of_le (by omega)
    rw [hd, drop_getD hj]
    unfold membS
    rw [at_nat, at_nat]
    refine cond_run (or2_yes (.inr (lt_nat hj))) (cond_run (by rw [ne_beq (show (j : Int) ≠ ns.length by omega)]; rfl) (cond_not (by rw [dec_no (show ¬ (i : Int) < gs.length by omega)]; rfl) (cond_not (by rw [eq_beq (show (i : Int) = gs.length by omega)]; rfl) (cond_run (in_nat hj) (cond_run (dec_yes ?_) rfl)))))
    change 1 + (nmE (ns.getD j .nili)).length ≤ _
    omega
  · have hd : gs.drop i = [] := List.drop_eq_nil_of_le (by omega)
    have hd2 : ns.drop j = [] := List.drop_eq_nil_of_le (by omega)
    rw [hd, hd2]
    exact cond_not (or2_no (dec_no (by omega)) (dec_no (by omega))) rfl

theorem members_run {k mn mx k' n' : Int} {os fs gs ns vs : List E} {x : List UInt8} {f : E → E → Option (List UInt8)} (hgl : gs.length ≤ maxLen) (hl : ns.length ≤ maxLen) (hnv : ns.length = vs.length)
    (hgn : ∀ g ∈ gs, (nmE g).length ≤ 16) (hnn : ∀ n ∈ ns, (nmE n).length ≤ 16) (hp : ∀ g ∈ gs, ∀ v ∈ vs, ∀ p, f (fieldTy g) v = some p → p.length ≤ 1000)
    (hf : ∀ g ∈ gs, ∀ v ∈ vs, RR none 20 [slotsF g, slotsV v] [] = some (fitR (f (fieldTy g) v), [])) :
    RR none 57 [tyA k mn mx os fs gs, vlA k' n' x ns vs] [] = some (fitR (membS f gs ns vs), []) := by
  have e1 := members2 (k := k) (mn := mn) (mx := mx) (os := os) (fs := fs) (k' := k') (n' := n') (x := x) hgl hl hnv hgn hnn hp hf _ 0 0 (by omega) (by omega) rfl
  rw [List.drop_zero, List.drop_zero, List.drop_zero] at e1
  exact run_of_body ((eq_members RR LL k mn mx os fs gs k' n' x ns vs).trans (behindP e1 (by kernel_rfl) (fun p => by kernel_rfl)))

/-! ### Fits -/

theorem fitsS_at (d : Nat) (t v : E) : fitsS (d + 1) t v = (if kindE t = 7 then none
    else if kindE t = 1 then yesS (decide (kindE v = 1) && decide (minE t ≤ minE v) && decide (minE v ≤ maxE t))
    else if kindE t = 2 then yesS (decide (kindE v = 2) && decide (minE t ≤ (txtE v).length) && decide (((txtE v).length : Int) ≤ maxE t))
    else if kindE t = 3 then yesS (decide (kindE v = 3))
    else if kindE t = 4 then yesS (decide (kindE v = 2) && hasS (optsE t) (txtE v))
    else if kindE t = 5 then (if kindE v = 5 ∧ minE t ≤ (listE v).length ∧ ((listE v).length : Int) ≤ maxE t then elemsS (fitsS d (ofOne t)) 0 (listE v) else some [])
    else if kindE t = 6 then (if kindE v = 6 then membS (fitsS d) (fieldsE t) (namesE v) (listE v) else some [])
    else some []) := rfl

theorem fitR_yes (b : Bool) : fitR (yesS b) = .ret (.tup [str [], yes b]) := by cases b <;> rfl
theorem beq_dec (a b : Int) : (a == b) = decide (a = b) := by
  by_cases h : a = b
  · rw [eq_beq h, dec_yes h]
  · rw [ne_beq h, dec_no h]
theorem Fits_run : ∀ (d : Nat) (e : Nat) (t v : E), d ≤ 20 → Ful 9 27 81 d t → FulV 9 39 e v → Ty t → Val v → RR none 20 [slotsOf t, slotsOf v] [] = some (fitR (fitsS d t v), [])
  | 0, _, _, _, _, h, _, _, _ => by cases h
  | d + 1, e, t, v, hd, ft, fv, ht, hv => by
    have s5 := ful_sub5 ft
    have s6 := ful_sub6 ft
    have nm := ful_names ft
    have v5 := fulV_sub5 fv
    have v6 := fulV_sub6 fv
    cases ht with
    | mk k mn mx os fs gs ho hol hf hfl hg hgn hgl hk hmn hmx =>
    cases hv with
    | mk k' n' x ns vs hx hn hnl hvv hvl hk' hnum =>
    rw [fitsS_at]
    change k = 5 → Ful 9 27 81 d (fs.getD 0 .nili) ∧ fs.length = 1 ∧ mx ≤ 32 ∧ 0 ≤ mn at s5
    change k = 6 → ∀ g ∈ gs, Ful 9 27 81 d (fieldTy g) at s6
    change ∀ g ∈ gs, (nmE g).length ≤ 16 at nm
    change k' = 5 → ∃ e', ∀ x ∈ vs, FulV 9 39 e' x at v5
    change k' = 6 → (∃ e', ∀ x ∈ vs, FulV 9 39 e' x) ∧ ns.length = vs.length ∧ ∀ n ∈ ns, (nmE n).length ≤ 16 at v6
    change RR none 20 [tyA k mn mx os fs gs, vlA k' n' x ns vs] [] = some (fitR (if k = 7 then none
      else if k = 1 then yesS (decide (k' = 1) && decide (mn ≤ n') && decide (n' ≤ mx))
      else if k = 2 then yesS (decide (k' = 2) && decide (mn ≤ x.length) && decide ((x.length : Int) ≤ mx))
      else if k = 3 then yesS (decide (k' = 3))
      else if k = 4 then yesS (decide (k' = 2) && hasS os x)
      else if k = 5 then (if k' = 5 ∧ mn ≤ vs.length ∧ (vs.length : Int) ≤ mx then elemsS (fitsS d (fs.getD 0 .nili)) 0 vs else some [])
      else if k = 6 then (if k' = 6 then membS (fitsS d) gs ns vs else some [])
      else some []), [])
    refine run_of_body ((eq_Fits RR LL k mn mx os fs gs k' n' x ns vs).trans ?_)
    by_cases k7 : k = 7
    · rw [if_pos k7]; exact cond_run (eq_beq k7) rfl
    rw [if_neg k7]
    refine cond_not (ne_beq k7) ?_
    by_cases k1 : k = 1
    · rw [if_pos k1, fitR_yes, ← bif_and, ← bif_and, ← beq_dec]; exact cond_run (eq_beq k1) rfl
    rw [if_neg k1]
    refine cond_not (ne_beq k1) ?_
    by_cases k2 : k = 2
    · rw [if_pos k2, fitR_yes, ← bif_and, ← bif_and, ← beq_dec]; exact cond_run (eq_beq k2) rfl
    rw [if_neg k2]
    refine cond_not (ne_beq k2) ?_
    by_cases k3 : k = 3
    · rw [if_pos k3, fitR_yes, ← beq_dec]; exact cond_run (eq_beq k3) rfl
    rw [if_neg k3]
    refine cond_not (ne_beq k3) ?_
    by_cases k4 : k = 4
    · rw [if_pos k4, fitR_yes]
      refine cond_run (eq_beq k4) ?_
      by_cases q : k' = 2
      · rw [dec_yes q, Bool.true_and]
        exact cond_run (by rw [eq_beq q]; rfl) (callB (has_run hol) rfl)
      · rw [dec_no q, Bool.false_and]
        exact cond_not (by rw [ne_beq q]; rfl) rfl
    rw [if_neg k4]
    refine cond_not (ne_beq k4) ?_
    by_cases k5 : k = 5
    · rw [if_pos k5]
      obtain ⟨f1, f2, f3, f4⟩ := s5 k5
      refine cond_run (eq_beq k5) ?_
      rw [bif_and, bif_and, beq_dec]
      by_cases q : k' = 5 ∧ mn ≤ vs.length ∧ (vs.length : Int) ≤ mx
      · rw [if_pos q, dec_yes q.1, dec_yes q.2.1, dec_yes q.2.2]
        refine cond_run rfl (cond_run (dec_yes (by omega)) ?_)
        have m1 : fs.getD 0 .nili ∈ fs := getD_mem (by omega)
        have t1 := hf _ m1
        obtain ⟨e', he'⟩ := v5 q.1
        have ef : ∀ v ∈ vs, RR none 20 [slotsOf (fs.getD 0 .nili), slotsV v] [] = some (fitR (fitsS d (fs.getD 0 .nili) v), []) := fun v hm => by
          rw [slotsV_eq (hvv v hm)]; exact Fits_run d e' _ v (by omega) f1 (he' v hm) t1 (hvv v hm)
        have el : ∀ v ∈ vs, ∀ p, fitsS d (fs.getD 0 .nili) v = some p → p.length ≤ 1000 := fun v hm p hp => by
          have := fits_len d f1 (he' v hm) hp; omega
        have st := slotsT_eq t1
        change (RR none 56 [slotsT (fs.getD 0 .nili), vlA k' n' x ns vs] []).bind _ = _
        generalize fs.getD 0 E.nili = y at ef el st t1 ⊢
        rw [st]
        cases t1
        refine callP (elements_run hvl el ef) ?_
        generalize elemsS _ _ _ = w
        cases w <;> rfl
      · rw [if_neg q]
        refine cond_not ?_ rfl
        by_cases q1 : k' = 5
        · by_cases q2 : mn ≤ vs.length
          · rw [dec_yes q1, dec_yes q2, dec_no (fun h => q ⟨q1, q2, h⟩)]; rfl
          · rw [dec_yes q1, dec_no q2]; rfl
        · rw [dec_no q1]; rfl
    rw [if_neg k5]
    refine cond_not (ne_beq k5) ?_
    by_cases k6 : k = 6
    · rw [if_pos k6]
      refine cond_run (eq_beq k6) ?_
      by_cases q : k' = 6
      · rw [if_pos q]
        obtain ⟨⟨e', he'⟩, hl, hn16⟩ := v6 q
        have g6 := s6 k6
        refine cond_run (eq_beq q) (callP (members_run (f := fitsS d) hgl hnl hl nm hn16 (fun g hm v hv' p hp => ?_) (fun g hm v hv' => ?_)) ?_)
        · have := fits_len d (g6 g hm) (he' v hv') hp; omega
        · rw [slotsF_eq (hg g hm) (hgn g hm), slotsV_eq (hvv v hv')]
          exact Fits_run d e' _ v (by omega) (g6 g hm) (he' v hv') (hg g hm) (hvv v hv')
        · generalize membS _ _ _ _ = w
          cases w <;> rfl
      · rw [if_neg q]; exact cond_not (ne_beq q) rfl
    rw [if_neg k6]
    exact cond_not (ne_beq k6) rfl

end Go.Proofs.YtghdhhmlmdohkaaGreatDoor
