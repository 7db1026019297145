/- Values: how deep they are, whether they are right. -/
import Derived.Test.YtghdhhmlmdohkaaDoorFe
import Derived.Test.YtghdhhmlmdohkaaDoorCy
import Derived.Test.YtghdhhmlmdohkaaDoorSp2
namespace Go.Proofs.YtghdhhmlmdohkaaDoor
open Go Go.Den
set_option maxRecDepth 100000

theorem not_allV {α : Type} {p : α → Bool} (l : List α) : l.all (fun x => !p x) = !l.any p := by
  rw [List.all_eq_not_any_not]; simp

theorem decDigits_len : ∀ (k u : Nat), u < 10 ^ (k + 1) → (Lib.decDigits u).length ≤ k + 1
  | 0, u, h => by
    rw [Lib.decDigits, dif_pos (by simpa using h)]; simp
  | k + 1, u, h => by
    rw [Lib.decDigits]
    split
    · simp
    · rw [Nat.pow_succ] at h
      have := decDigits_len k (u / 10) (by omega)
      simp; omega
theorem itoa_len {n : Int} (h0 : -9223372036854775808 ≤ n) (h1 : n ≤ 9223372036854775807) : (Lib.itoa n).length ≤ 20 := by
  unfold Lib.itoa
  split
  · have := decDigits_len 18 n.natAbs (by omega)
    simp; omega
  · have := decDigits_len 18 n.toNat (by omega)
    omega

theorem bif_and (a b : Bool) : (bif a then b else false) = (a && b) := by cases a <;> rfl


abbrev Val : E → Prop := IsVal 9 38
abbrev vlA (k n : Int) (x : List UInt8) (ns vs : List E) : AV := .agg [num k, num n, str x, .e (.sl 9 ns), .e (.sl 38 vs)]
abbrev vlC (k n : Int) (x : List UInt8) (ns vs : List E) : Ob := .box [num k, num n, str x, .e (.sl 9 ns), .e (.sl 38 vs)]
theorem bTT : (true == true) = true := rfl
theorem bTF : (true == false) = false := rfl
theorem bFT : (false == true) = false := rfl
theorem bFF : (false == false) = true := rfl

/-! ### small -/

theorem parts3 {k x1 : Int} {x : List UInt8} {ns vs : List E} (hl : vs.length ≤ maxLen) (hf : ∀ v ∈ vs, ∀ n, ∃ m, RR none 44 [slotsOf v, num n] [] = some (.ret (num m), [])) (ht : ∀ v ∈ vs, Val v) :
    ∀ (j : Nat) (i n : Int), 0 ≤ i → i ≤ vs.length → j = vs.length - i.toNat → ∃ m, LL 44 0 lc_44_3 ((((List.replicate 39 AV.undef).set 1 (.e (.int .i64 n))).set 2 (.ptr 0 0)).set 5 (.e (.int .i64 i))) [vlC k x1 x ns vs] =
      some { ex := .exit 0, fr := [AV.undef, num m] ++ List.replicate 37 AV.undef, hp := [], df := [] } := by
  intro j
  induction j with
  | zero =>
    intro i n h0 h1 h2
    refine ⟨n, loop_of_body ((eq_partsL3 RR LL n i k x1 x ns vs).trans ?_)⟩
    exact cond_not (and2_no (.inl (dec_no (by omega)))) rfl
  | succ j ih =>
    intro i n h0 h1 h2
    by_cases hn : n < 3000
    · have hi : i.toNat < vs.length := by omega
      obtain ⟨m1, e1⟩ := hf _ (getD_mem hi) n
      obtain ⟨m2, e2⟩ := ih (i + 1) m1 (by omega) (by omega) (by omega)
      refine ⟨m2, loop_of_body ((eq_partsL3 RR LL n i k x1 x ns vs).trans ?_)⟩
      have hx := ht _ (getD_mem hi)
      generalize vs.getD i.toNat E.nili = y at e1 hx ⊢
      cases hx
      refine cond_run (and2_yes (dec_yes (by omega)) (dec_yes hn)) (cond_run (and_yes (dec_yes h0) (dec_yes (by omega))) (callN e1 ?_))
      rw [wrap_in (n := i + 1) (by omega) (by rw [maxLen_eq] at hl; omega)]
      exact bind_run e2 rfl
    · refine ⟨n, loop_of_body ((eq_partsL3 RR LL n i k x1 x ns vs).trans ?_)⟩
      exact cond_not (and2_no (.inr (dec_no hn))) rfl

theorem parts_run {v : E} (h : Val v) : ∀ n, ∃ m, RR none 44 [slotsOf v, num n] [] = some (.ret (num m), []) := by
  induction h with
  | mk k x1 x ns vs hx hn hnl hv hvl hk hnum ih =>
    intro n
    obtain ⟨m1, e1⟩ := parts3 (k := k) (x1 := x1) (x := x) (ns := ns) hvl ih hv vs.length 0 (IntKind.i64.wrap (n + IntKind.i64.wrap (IntKind.i64.wrap (IntKind.i64.wrap (1 + (x.length : Int)) + (ns.length : Int)) + (vs.length : Int)))) (by omega) (by omega) (by simp)
    exact ⟨m1, run_of_body ((eq_parts RR LL k x1 x ns vs n).trans (bind_run e1 (cond_run rfl (cond_run (by kernel_rfl) rfl))))⟩

theorem small_run {v : E} (h : Val v) : ∃ b, RR none 20 [slotsOf v] [] = some (.ret (yes b), []) := by
  obtain ⟨m, hm⟩ := parts_run h 0
  cases h with
  | mk k x1 x ns vs => exact ⟨_, run_of_body ((eq_small RR LL k x1 x ns vs).trans (callN hm rfl))⟩

/-! ### depth -/

def rdeepV : Nat → E → Bool
  | 0, _ => true
  | n + 1, v => (kindE v == 5 || kindE v == 6) && (listE v).any (rdeepV n)

theorem rdeepV4 {k x1 : Int} {x : List UInt8} {ns vs : List E} {n : Int} {d : Nat} (hl : vs.length ≤ maxLen) (hf : ∀ v ∈ vs, RR none 54 [slotsOf v, num (IntKind.i64.wrap (n + 1))] [] = some (.ret (yes (rdeepV d v)), [])) (ht : ∀ v ∈ vs, Val v) :
    LL 54 0 lc_54_4 ((((List.replicate 33 AV.undef).set 1 (.e (.int .i64 n))).set 2 (.ptr 0 0)).set 5 (.e (.int .i64 ((0 : Nat) : Int)))) [vlC k x1 x ns vs] =
      some (bif vs.all (fun v => !((k == 5 || k == 6) && rdeepV d v)) then { ex := .exit 0, fr := List.replicate 33 AV.undef, hp := [], df := [] } else { ex := .ret, fr := [AV.undef, AV.undef, AV.undef, AV.undef, yes true] ++ List.replicate 28 AV.undef, hp := [], df := [] }) := by
  have step : ∀ i, i < vs.length → ∀ o, (((k == 5 || k == 6) && rdeepV d (vs.getD i .nili)) = false → LL 54 0 lc_54_4 ((((List.replicate 33 AV.undef).set 1 (.e (.int .i64 n))).set 2 (.ptr 0 0)).set 5 (.e (.int .i64 ((i + 1 : Nat) : Int)))) [vlC k x1 x ns vs] = some o) →
      (((k == 5 || k == 6) && rdeepV d (vs.getD i .nili)) = true → o = { ex := .ret, fr := [AV.undef, AV.undef, AV.undef, AV.undef, yes true] ++ List.replicate 28 AV.undef, hp := [], df := [] }) → (k == 5 || k == 6) = true →
      LL 54 0 lc_54_4 ((((List.replicate 33 AV.undef).set 1 (.e (.int .i64 n))).set 2 (.ptr 0 0)).set 5 (.e (.int .i64 (i : Int)))) [vlC k x1 x ns vs] = some o := by
    intro i hi o hy hn h56
    refine loop_of_body ((eq_DeepValueL4 RR LL n i k x1 x ns vs).trans (cond_run (by rw [lt_nat hi]; rfl) ?_))
    rw [wrap_nat hi hl, at_nat, in_nat hi]
    have e1 := hf _ (getD_mem hi)
    have hx := ht _ (getD_mem hi)
    rw [h56, Bool.true_and] at hy hn
    generalize vs.getD i E.nili = y at e1 hx hy hn ⊢
    cases hx
    generalize rdeepV d _ = b at e1 hy hn
    cases k5 : (k == 5) with
    | true =>
      refine cond_not rfl (cond_run rfl (callB e1 ?_))
      cases b with
      | true => rw [hn rfl]; exact cond_run rfl rfl
      | false => exact cond_not rfl (bind_run (hy rfl) rfl)
    | false =>
      rw [k5, Bool.false_or] at h56
      refine cond_run rfl (cond_run h56 (cond_run rfl (callB e1 ?_)))
      cases b with
      | true => rw [hn rfl]; exact cond_run rfl rfl
      | false => exact cond_not rfl (bind_run (hy rfl) rfl)
  cases h56 : (k == 5 || k == 6) with
  | true =>
    refine loop_all (F := fun i => LL 54 0 lc_54_4 ((((List.replicate 33 AV.undef).set 1 (.e (.int .i64 n))).set 2 (.ptr 0 0)).set 5 (.e (.int .i64 (i : Int)))) [vlC k x1 x ns vs]) ?_ ?_ ?_
    · exact loop_of_body ((eq_DeepValueL4 RR LL n vs.length k x1 x ns vs).trans (cond_not (by rw [end_nat]; rfl) rfl))
    · intro i hi hp
      exact step i hi _ (fun h => by rw [h56] at h; rw [h] at hp; cases hp) (fun _ => rfl) h56
    · intro i hi hp o ho
      exact step i hi o (fun _ => ho) (fun h => by rw [h56] at h; rw [h] at hp; cases hp) h56
  | false =>
    have e : vs.all (fun v => !(false && rdeepV d v)) = true := by simp
    rw [e]
    rw [Bool.or_eq_false_iff] at h56
    refine loop_of_body ((eq_DeepValueL4 RR LL n (0 : Nat) k x1 x ns vs).trans ?_)
    cases hd : (decide (((0 : Nat) : Int) < (vs.length : Int)) == true) with
    | false => exact cond_not rfl rfl
    | true => exact cond_run rfl (cond_run (by rw [h56.1]; rfl) (cond_not h56.2 rfl))

theorem rdeepV_run : ∀ (d : Nat) (v : E), d ≤ 7 → Val v → RR none 54 [slotsOf v, num (7 - d)] [] = some (.ret (yes (rdeepV d v)), [])
  | 0, v, _, h => by
    cases h with
    | mk k x1 x ns vs => exact run_of_body ((eq_DeepValue RR LL k x1 x ns vs 7).trans (cond_run rfl rfl))
  | d + 1, v, hd, h => by
    cases h with
    | mk k x1 x ns vs hx hn hnl hv hvl hk hnum =>
    have hw : IntKind.i64.wrap ((7 : Int) - ((d + 1 : Nat) : Int) + 1) = 7 - (d : Int) := by rw [wrap_in (by omega) (by omega)]; omega
    have e4 := rdeepV4 (k := k) (x1 := x1) (x := x) (ns := ns) (n := 7 - ((d + 1 : Nat) : Int)) (d := d) hvl (fun v hm => by rw [hw]; exact rdeepV_run d v (by omega) (hv v hm)) hv
    refine run_of_body ((eq_DeepValue RR LL k x1 x ns vs (7 - ((d + 1 : Nat) : Int))).trans (cond_not (dec_no (by omega)) ?_))
    rw [not_allV] at e4
    have e : rdeepV (d + 1) (E.agg [E.int IntKind.i64 k, E.int IntKind.i64 x1, E.str x, E.sl 9 ns, E.sl 38 vs]) = vs.any (fun v => (k == 5 || k == 6) && rdeepV d v) := by
      show ((k == 5 || k == 6) && vs.any (rdeepV d)) = _
      cases (k == 5 || k == 6) <;> simp
    rw [e]
    cases h : vs.any (fun v => (k == 5 || k == 6) && rdeepV d v) with
    | true => rw [h] at e4; exact bind_run e4 (cond_not rfl (cond_run rfl (cond_run (by kernel_rfl) rfl)))
    | false => rw [h] at e4; exact bind_run e4 (cond_run rfl (cond_run (by kernel_rfl) rfl))

/-! ### fields that a kind has no use for -/

def oddB (k1 k2 k3 k5 k6 n0 xe nn vv eq : Bool) : Bool := (!(k1 || k3) && !n0) || (!k2 && !xe) || (!(k5 || k6) && vv) || (!k6 && nn) || (k6 && !eq)
def oddS (k n : Int) (x : List UInt8) (ns vs : List E) : Bool :=
  oddB (k == 1) (k == 2) (k == 3) (k == 5) (k == 6) (n == 0) (strEq x ({ data := #[] } : ByteArray).data.toList) (decide (0 < (ns.length : Int))) (decide (0 < (vs.length : Int))) ((ns.length : Int) == (vs.length : Int))

theorem odd_run (k n : Int) (x : List UInt8) (ns vs : List E) : RR none 100 [vlA k n x ns vs] [] = some (.ret (yes (oddS k n x ns vs)), []) := by
  refine run_of_body ((eq_odd RR LL k n x ns vs).trans ?_)
  unfold oddS
  generalize (k == 1) = k1
  generalize (k == 2) = k2
  generalize (k == 3) = k3
  generalize (k == 5) = k5
  generalize (k == 6) = k6
  generalize (n == 0) = n0
  generalize strEq x _ = xe
  generalize decide (0 < (ns.length : Int)) = nn
  generalize decide (0 < (vs.length : Int)) = vv
  generalize ((ns.length : Int) == (vs.length : Int)) = eq
  cases k1 <;> cases k2 <;> cases k3 <;> cases k5 <;> cases k6 <;> cases n0 <;> cases xe <;> cases nn <;> cases vv <;> cases eq <;> rfl

theorem no_not' {n : Int} (h : n ≠ 0) : (!(n == 0)) = true := by rw [ne_beq h]; rfl

/-! ### whether a value is right -/

abbrev slotsV (y : E) : AV := .agg [num (y.cell 0).toInt, num (y.cell 1).toInt, str (y.cell 2).toStr, .e (.sl 9 (y.cell 3).toList), .e (.sl 38 (y.cell 4).toList)]
abbrev slotsT (y : E) : AV := .agg [num (y.cell 0).toInt, num (y.cell 1).toInt, num (y.cell 2).toInt, .e (.sl 9 (y.cell 3).toList), .e (.sl 26 (y.cell 4).toList), .e (.sl 64 (y.cell 5).toList)]
abbrev slotsF (y : E) : AV := .agg [num (y.cell 2).toInt, num (y.cell 3).toInt, num (y.cell 4).toInt, .e (.sl 9 (y.cell 5).toList), .e (.sl 26 (y.cell 6).toList), .e (.sl 64 (y.cell 7).toList)]
theorem slotsV_eq {y : E} (h : Val y) : slotsV y = slotsOf y := by cases h; rfl
theorem slotsT_eq {y : E} (h : Ty y) : slotsT y = slotsOf y := by cases h; rfl
theorem slotsF_eq {y : E} (h : Ty (fieldTy y)) (hn : ∃ n op cs, y = .agg (.str n :: .bool op :: cs) ∧ n.length ≤ maxLen) : slotsF y = slotsOf (fieldTy y) := by
  obtain ⟨_, _, _, _, _, _, _, _, rfl, _⟩ := fieldX h hn
  rfl

/-- The first error of the names and elements of a list. -/
def ckL (c : E → Int) (r : Bool) : Bool → List UInt8 → List E → List E → Int
  | _, _, _, [] => 0
  | f, p, ns, v :: vs =>
    bif (bif r then namedS (nmE (ns.getD 0 .nili)) p f else 0) == 0 then (bif c v == 0 then ckL c r false (nmE (ns.getD 0 .nili)) (ns.drop 1) vs else c v)
    else (bif r then namedS (nmE (ns.getD 0 .nili)) p f else 0)
/-- The first error of a value. -/
def checkV : Nat → E → Int
  | 0, _ => 0
  | d + 1, .agg [.int _ k, .int _ n, .str x, .sl _ ns, .sl _ vs] =>
    if k < 1 ∨ 6 < k ∨ k = 4 then 10 else if oddS k n x ns vs then 28
    else if (k = 1 ∧ ¬ (-4611686018427387904 ≤ n ∧ n ≤ 4611686018427387904)) ∨ (k = 3 ∧ n ≠ 0 ∧ n ≠ 1) then 1
    else ckL (checkV d) (k == 6) true [] ns vs
  | _, _ => 0

theorem getD_drop {l : List E} {i : Nat} : (l.drop i).getD 0 .nili = l.getD i .nili := by
  rw [List.getD_eq_getElem?_getD, List.getD_eq_getElem?_getD, List.getElem?_drop, Nat.add_zero]

theorem ckTail {k n : Int} {x : List UInt8} {ns vs : List E} {c : E → Int} {i : Nat} {rest : Int} (hi : i < vs.length) (hl : vs.length ≤ maxLen) (hc : RR none 55 [slotsV (vs.getD i .nili)] [] = some (.ret (num (c (vs.getD i .nili))), []))
    (e2 : LL 55 0 lc_55_8 (((List.replicate 95 AV.undef).set 1 (.ptr 0 0)).set 3 (.e (.int .i64 ((i + 1 : Nat) : Int)))) [vlC k n x ns vs] = some (outO 0 92 rest)) :
    (bif decide ((0 : Int) ≤ (i : Int)) && decide ((i : Int) < (vs.length : Int)) then
      (RR none 55 [slotsV (vs.getD (i : Int).toNat .nili)] []).bind fun rh => bif okHeap [] rh.2 then bif okRes PP 29 rh.fst then
        bif !rh.fst.val.data.toInt == 0 then some { ex := Ex.ret, fr := ([AV.undef, AV.undef, num (rh.fst.val.data.toInt)] ++ List.replicate 92 AV.undef), hp := [], df := [] }
        else (LL 55 0 lc_55_8 ([AV.undef, AV.ptr 0 0, AV.undef, num (IntKind.i64.wrap ((i : Int) + 1))] ++ List.replicate 91 AV.undef) [vlC k n x ns vs]).bind fun o => some o
      else none else none else none) = some (outO 0 92 (bif c (vs.getD i .nili) == 0 then rest else c (vs.getD i .nili))) := by
  rw [at_nat, wrap_nat hi hl]
  refine cond_run (in_nat hi) (callE hc ?_)
  generalize c (vs.getD i .nili) = v
  by_cases hv : v = 0
  · subst hv
    exact cond_not rfl (bind_run e2 rfl)
  · refine cond_run (no_not' hv) ?_
    rw [ne_beq hv]
    show _ = some (outO 0 92 v)
    rw [outO_ne _ _ hv]
    rfl

theorem check8 {k n : Int} {x : List UInt8} {ns vs : List E} {c : E → Int} (hl : vs.length ≤ maxLen) (hk : k = 6 → ns.length = vs.length) (hns : ∀ o ∈ ns, (nmE o).length ≤ maxLen)
    (hc : ∀ v ∈ vs, RR none 55 [slotsV v] [] = some (.ret (num (c v)), [])) :
    ∀ (j i : Nat), i + j = vs.length → LL 55 0 lc_55_8 (((List.replicate 95 AV.undef).set 1 (.ptr 0 0)).set 3 (.e (.int .i64 (i : Int)))) [vlC k n x ns vs] =
      some (outO 0 92 (ckL c (k == 6) (i == 0) (nmE (ns.getD (i - 1) .nili)) (ns.drop i) (vs.drop i))) := by
  intro j
  induction j with
  | zero =>
    intro i h
    have : i = vs.length := by omega
    subst this
    rw [List.drop_length]
    exact loop_of_body ((eq_checkValueL8 RR LL vs.length k n x ns vs).trans (cond_not (end_nat _) rfl))
  | succ j ih =>
    intro i h
    have hi : i < vs.length := by omega
    have e2 := ih (i + 1) (by omega)
    rw [show (i + 1 == 0) = false from rfl, Nat.add_sub_cancel] at e2
    have tl := ckTail (c := c) hi hl (hc _ (getD_mem hi)) e2
    refine loop_of_body ((eq_checkValueL8 RR LL i k n x ns vs).trans (cond_run (lt_nat hi) ?_))
    rw [drop_getD hi]
    unfold ckL
    rw [getD_drop, List.drop_drop]
    by_cases h6 : k = 6
    · have k6 := eq_beq h6
      have hin : i < ns.length := by rw [hk h6]; exact hi
      rw [k6] at tl ⊢
      refine cond_run rfl (cond_run (in_nat hin) (callB (rName_run (by rw [at_nat]; exact hns _ (getD_mem hin))) ?_))
      rw [at_nat] at tl ⊢
      change (bif !(nameS (nmE (ns.getD i E.nili))) then _ else _) = some (outO 0 92 (bif namedS _ _ _ == 0 then _ else namedS _ _ _))
      unfold namedS
      cases nameS (nmE (ns.getD i E.nili)) with
      | false => exact cond_run rfl rfl
      | true =>
        refine cond_not rfl (cond_run rfl ?_)
        by_cases hz : i = 0
        · subst hz
          exact cond_not rfl tl
        · have hz' : (i == 0) = false := by simpa using hz
          rw [hz']
          have w1 : IntKind.i64.wrap ((i : Int) - 1) = ((i - 1 : Nat) : Int) := by rw [maxLen_eq] at hl; rw [wrap_in (by omega) (by omega)]; omega
          rw [w1]
          refine cond_run (by rw [dec_yes (show (0 : Int) < (i : Int) by omega)]; rfl) (cond_run (in_nat hin) (cond_run (in_nat (by omega)) ?_))
          rw [at_nat]
          change (bif notAfter (nmE (ns.getD i E.nili)) (nmE (ns.getD (i - 1) E.nili)) then _ else _) = _
          cases notAfter (nmE (ns.getD i E.nili)) (nmE (ns.getD (i - 1) E.nili)) with
          | true => exact cond_run rfl rfl
          | false => exact cond_not rfl tl
    · have k6 := ne_beq h6
      rw [k6] at tl ⊢
      exact cond_not rfl (cond_not rfl tl)

theorem behindO {n w : Nat} {e : Int} {x : Option Out} (h : x = some (outO w n e))
    (hk : (okFr (List.replicate (n + 3) AV.undef) (AV.undef :: List.replicate (n + 2) AV.undef) && okHeap [] []) = true) (hk2 : ∀ e, (okFr ([AV.undef, AV.undef, num 0] ++ List.replicate n AV.undef) ([AV.undef, AV.undef, num e] ++ List.replicate n AV.undef) && okHeap [] []) = true) :
    (x.bind fun o => bif o.ex.isWay (Way.exit w) then bif okFr (List.replicate (n + 3) AV.undef) o.2 && okHeap [] o.3 then some (Res.ret (num 0), []) else none
      else bif o.ex.isWay Way.ret then bif okFr ([AV.undef, AV.undef, num 0] ++ List.replicate n AV.undef) o.2 && okHeap [] o.3 then
        some (Res.ret (num ((List.getD o.fr 2 AV.undef).data.toInt)), ([] : Heap)) else none else none) = some (.ret (num e), []) := by
  by_cases he : e = 0
  · subst he
    refine bind_run h (cond_run ?_ (cond_run hk rfl))
    show (w == w) = true
    simp
  · rw [outO_ne _ _ he] at h
    exact bind_run h (cond_not rfl (cond_run rfl (cond_run (hk2 e) rfl)))

theorem checkV_at (d : Nat) (k n : Int) (x : List UInt8) (ns vs : List E) : checkV (d + 1) (.agg [.int .i64 k, .int .i64 n, .str x, .sl 9 ns, .sl 38 vs]) =
    if k < 1 ∨ 6 < k ∨ k = 4 then 10 else if oddS k n x ns vs then 28
    else if (k = 1 ∧ ¬ (-4611686018427387904 ≤ n ∧ n ≤ 4611686018427387904)) ∨ (k = 3 ∧ n ≠ 0 ∧ n ≠ 1) then 1
    else ckL (checkV d) (k == 6) true [] ns vs := rfl

theorem odd_no {k n : Int} {x : List UInt8} {ns vs : List E} (h : oddS k n x ns vs = false) : (k ≠ 1 → k ≠ 3 → n = 0) ∧ (k ≠ 2 → x = []) ∧ (k ≠ 5 → k ≠ 6 → vs = []) ∧ (k ≠ 6 → ns = []) ∧ (k = 6 → ns.length = vs.length) := by
  unfold oddS oddB at h
  simp only [Bool.or_eq_false_iff, Bool.and_eq_false_iff, Bool.not_eq_false', beq_iff_eq, Bool.or_eq_true] at h
  obtain ⟨⟨⟨⟨h1, h2⟩, h3⟩, h4⟩, h5⟩ := h
  refine ⟨fun a b => ?_, fun a => ?_, fun a b => ?_, fun a => ?_, fun a => ?_⟩
  · rcases h1 with h | h
    · rcases h with h | h
      · exact absurd h a
      · exact absurd h b
    · exact h
  · rcases h2 with h | h
    · exact absurd h a
    · rw [strEq_iff] at h; exact h
  · rcases h3 with h | h
    · rcases h with h | h
      · exact absurd h a
      · exact absurd h b
    · simp only [decide_eq_false_iff_not] at h
      exact List.length_eq_zero_iff.1 (by omega)
  · rcases h4 with h | h
    · exact absurd h a
    · simp only [decide_eq_false_iff_not] at h
      exact List.length_eq_zero_iff.1 (by omega)
  · rcases h5 with h | h
    · rw [eq_beq a] at h; cases h
    · omega

theorem ckL_first (c : E → Int) (r : Bool) (p q : List UInt8) : (ns vs : List E) → ckL c r true p ns vs = ckL c r true q ns vs
  | _, [] => rfl
  | ns, v :: vs => by simp only [ckL, namedS_first (nmE (ns.getD 0 .nili)) p q]

theorem checkValue_run : ∀ (d : Nat) (e : E), rdeepV d e = false → Val e → RR none 55 [slotsOf e] [] = some (.ret (num (checkV d e)), [])
  | 0, e, h, _ => by cases h
  | d + 1, e, h, ht => by
    cases ht with
    | mk k n x ns vs hx hn hnl hv hvl hk hnum =>
    change ((k == 5 || k == 6) && vs.any (rdeepV d)) = false at h
    rw [checkV_at]
    refine run_of_body ((eq_checkValue RR LL k n x ns vs).trans ?_)
    by_cases h10 : k < 1 ∨ 6 < k ∨ k = 4
    · rw [if_pos h10]
      refine cond_run ?_ rfl
      rcases h10 with h | h | h
      · exact or2_yes (.inl (or2_yes (.inl (dec_yes h))))
      · exact or2_yes (.inl (or2_yes (.inr (dec_yes h))))
      · exact or2_yes (.inr (eq_beq h))
    rw [if_neg h10]
    refine cond_not (or2_no (or2_no (dec_no (by omega)) (dec_no (by omega))) (ne_beq (by omega))) (callB (odd_run k n x ns vs) ?_)
    cases hu : oddS k n x ns vs with
    | true => exact cond_run rfl rfl
    | false =>
    refine cond_not rfl ?_
    rw [if_neg (by decide)]
    obtain ⟨o1, o2, o3, o4, o5⟩ := odd_no hu
    have hd : ∀ v ∈ vs, rdeepV d v = false := fun v hm => by
      by_cases h56 : k = 5 ∨ k = 6
      · have : (k == 5 || k == 6) = true := by rcases h56 with h | h <;> rw [eq_beq h] <;> simp
        rw [this, Bool.true_and, List.any_eq_false] at h
        simpa using h v hm
      · rw [o3 (by omega) (by omega)] at hm; cases hm
    have e8 := check8 (k := k) (n := n) (x := x) (c := checkV d) hvl o5 (fun o ho => by obtain ⟨m, rfl, hm⟩ := hn o ho; exact hm) (fun v hm => by rw [slotsV_eq (hv v hm)]; exact checkValue_run d v (hd v hm) (hv v hm)) vs.length 0 (by omega)
    rw [show (0 == 0) = true from rfl, ckL_first _ _ _ [], List.drop_zero, List.drop_zero] at e8
    have fin := behindO e8 (by kernel_rfl) (fun e => by kernel_rfl)
    have r1 : (rangeS n n (-4611686018427387904) 4611686018427387904 == 0) = decide (-4611686018427387904 ≤ n ∧ n ≤ 4611686018427387904) := by
      unfold rangeS
      by_cases hr : -4611686018427387904 ≤ n ∧ n ≤ 4611686018427387904
      · rw [if_pos (by omega), dec_yes hr]; rfl
      · rw [if_neg (by omega), dec_no hr]; rfl
    by_cases h1 : k = 1
    · refine cond_run (by rw [eq_beq h1]; rfl) (callB (rwithin_run _ _ _ _) ?_)
      rw [r1]
      by_cases hr : -4611686018427387904 ≤ n ∧ n ≤ 4611686018427387904
      · rw [dec_yes hr, if_neg (by omega)]
        exact cond_run rfl (cond_not (by rw [ne_beq (show k ≠ 3 by omega)]; rfl) fin)
      · rw [dec_no hr, if_pos (.inl ⟨h1, hr⟩)]
        exact cond_not rfl rfl
    · refine cond_not (by rw [ne_beq h1]; rfl) ?_
      by_cases h3 : k = 3
      · refine cond_run (by rw [eq_beq h3]; rfl) ?_
        by_cases n0 : n = 0
        · rw [if_neg (by omega)]
          exact cond_not (by rw [eq_beq n0]; rfl) fin
        · refine cond_run (by rw [ne_beq n0]; rfl) ?_
          by_cases n1 : n = 1
          · rw [if_neg (by omega)]
            exact cond_not (by rw [eq_beq n1]; rfl) fin
          · rw [if_pos (.inr ⟨h3, n0, n1⟩)]
            exact cond_run (by rw [ne_beq n1]; rfl) rfl
      · rw [if_neg (by omega)]
        exact cond_not (by rw [ne_beq h3]; rfl) fin

def CheckValueS (e : E) : Int := if rdeepV 6 e = true then 27 else checkV 6 e
theorem CheckValue_run {e : E} (h : Val e) : RR none 26 [slotsOf e] [] = some (.ret (num (CheckValueS e)), []) := by
  have e1 := rdeepV_run 6 e (by omega) h
  have e2 : rdeepV 6 e = false → _ := fun hh => checkValue_run 6 e hh h
  unfold CheckValueS
  cases h with
  | mk k n x ns vs =>
  refine run_of_body ((eq_CheckValue RR LL k n x ns vs).trans (callB e1 ?_))
  cases hr : rdeepV 6 (E.agg [E.int IntKind.i64 k, E.int IntKind.i64 n, E.str x, E.sl 9 ns, E.sl 38 vs]) with
  | true => exact cond_run rfl rfl
  | false => exact cond_not rfl (callE (e2 hr) rfl)

theorem ckL_zero {c : E → Int} {r : Bool} : ∀ {vs ns : List E} {f : Bool} {p : List UInt8}, (r = true → ns.length = vs.length) → ckL c r f p ns vs = 0 → (r = true → ordS f p (ns.map nmE) = 0) ∧ ∀ v ∈ vs, c v = 0
  | [], ns, f, p, hl, _ => ⟨fun hr => by rw [List.length_eq_zero_iff.1 (hl hr)]; rfl, by simp⟩
  | v :: vs, ns, f, p, hl, h => by
    unfold ckL at h
    cases he : ((bif r then namedS (nmE (ns.getD 0 .nili)) p f else 0) == 0) with
    | false => rw [he] at h; have : (bif r then namedS (nmE (ns.getD 0 .nili)) p f else 0) = 0 := h; rw [this] at he; cases he
    | true =>
      rw [he] at h
      cases hc : (c v == 0) with
      | false => rw [hc] at h; have : c v = 0 := h; rw [this] at hc; cases hc
      | true =>
        rw [hc] at h
        obtain ⟨k1, k2⟩ := ckL_zero (vs := vs) (ns := ns.drop 1) (fun hr => by have := hl hr; simp at this ⊢; omega) h
        refine ⟨fun hr => ?_, fun w hw => by rcases List.mem_cons.1 hw with rfl | hw; exact (by simpa using hc); exact k2 w hw⟩
        cases ns with
        | nil => have := hl hr; simp at this
        | cons o ns =>
          rw [List.map_cons]
          unfold ordS
          rw [hr] at he
          have he' : (namedS (nmE o) p f == 0) = true := he
          rw [he']
          exact k1 hr

theorem checkV_ful : ∀ (d : Nat) (e : E), checkV d e = 0 → rdeepV d e = false → Val e → FulV 9 38 d e
  | 0, e, _, h, _ => by cases h
  | d + 1, e, hc, hd, ht => by
    cases ht with
    | mk k n x ns vs hx hn hnl hv hvl hk hnum =>
    change ((k == 5 || k == 6) && vs.any (rdeepV d)) = false at hd
    rw [checkV_at] at hc
    by_cases h10 : k < 1 ∨ 6 < k ∨ k = 4
    · rw [if_pos h10] at hc; cases hc
    rw [if_neg h10] at hc
    cases hu : oddS k n x ns vs with
    | true => rw [hu] at hc; cases hc
    | false =>
    rw [hu, if_neg (by decide)] at hc
    obtain ⟨o1, o2, o3, o4, o5⟩ := odd_no hu
    by_cases hr : (k = 1 ∧ ¬ (-4611686018427387904 ≤ n ∧ n ≤ 4611686018427387904)) ∨ (k = 3 ∧ n ≠ 0 ∧ n ≠ 1)
    · rw [if_pos hr] at hc; cases hc
    rw [if_neg hr] at hc
    have hd' : (k = 5 ∨ k = 6) → ∀ v ∈ vs, rdeepV d v = false := fun h56 v hm => by
      have : (k == 5 || k == 6) = true := by rcases h56 with h | h <;> rw [eq_beq h] <;> simp
      rw [this, Bool.true_and, List.any_eq_false] at hd
      simpa using hd v hm
    obtain ⟨z1, z2⟩ := ckL_zero (fun h => o5 (by simpa using h)) hc
    by_cases h1 : k = 1
    · have e2 := o2 (by omega); have e3 := o3 (by omega) (by omega); have e4 := o4 (by omega)
      subst h1; subst e2; subst e3; subst e4
      exact .inl ⟨n, rfl, by omega, by omega⟩
    by_cases h2 : k = 2
    · have e1 := o1 (by omega) (by omega); have e3 := o3 (by omega) (by omega); have e4 := o4 (by omega)
      subst h2; subst e1; subst e3; subst e4
      exact .inr (.inl ⟨x, rfl⟩)
    by_cases h3 : k = 3
    · have e2 := o2 (by omega); have e3 := o3 (by omega) (by omega); have e4 := o4 (by omega)
      have : n = 0 ∨ n = 1 := by omega
      subst h3; subst e2; subst e3; subst e4
      rcases this with rfl | rfl
      · exact .inr (.inr (.inl rfl))
      · exact .inr (.inr (.inr (.inl rfl)))
    by_cases h5 : k = 5
    · have e1 := o1 h1 h3; have e2 := o2 h2; have e4 := o4 (by omega)
      have hd2 := hd' (.inl h5)
      subst h5; subst e1; subst e2; subst e4
      exact .inr (.inr (.inr (.inr (.inl ⟨vs, rfl, fun y hy => checkV_ful d y (z2 y hy) (hd2 y hy) (hv y hy)⟩))))
    · have h6 : k = 6 := by omega
      have e1 := o1 h1 h3; have e2 := o2 h2
      have hd2 := hd' (.inr h6)
      have l6 := o5 h6
      obtain ⟨q1, q2, _⟩ := ordS_zero (z1 (eq_beq h6))
      subst h6; subst e1; subst e2
      refine .inr (.inr (.inr (.inr (.inr ⟨ns, vs, rfl, l6, q2, fun o ho => ?_, fun y hy => checkV_ful d y (z2 y hy) (hd2 y hy) (hv y hy)⟩))))
      obtain ⟨m, rfl, _⟩ := hn o ho
      obtain ⟨n1, n2, _⟩ := nameS_ok (q1 m (List.mem_map_of_mem (f := nmE) ho))
      exact ⟨m, rfl, n1, n2⟩

theorem CheckValueS_ful {e : E} (h : CheckValueS e = 0) (ht : Val e) : FulV 9 38 6 e := by
  unfold CheckValueS at h
  cases hd : rdeepV 6 e with
  | true => rw [hd] at h; cases h
  | false =>
    rw [hd, if_neg (by decide)] at h
    exact checkV_ful 6 e h hd ht

end Go.Proofs.YtghdhhmlmdohkaaDoor
