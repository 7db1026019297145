/- Includes, the program's. -/
import Derived.Test.YtapndkailgcboaaGreatDoorHa
import Derived.Test.YtapndkailgcboaaGreatDoorIe
namespace Go.Proofs.YtapndkailgcboaaGreatDoor
open Go Go.Den
set_option maxRecDepth 100000

/-! ### field -/

abbrev fldA (g : E) : AV := .agg [str (nmE g), yes (optF g), num (g.cell 2).toInt, num (g.cell 3).toInt, num (g.cell 4).toInt, .e (.sl 9 (g.cell 5).toList), .e (.sl 31 (g.cell 6).toList), .e (.sl 65 (g.cell 7).toList)]
abbrev fldZ : AV := .agg [str [], yes false, num 0, num 0, num 0, .e (.sl 9 []), .e (.sl 31 []), .e (.sl 65 [])]
def fieldRes (gs : List E) (n : List UInt8) : Res := match findF gs n with | some g => .ret (.tup [fldA g, yes true]) | none => .ret (.tup [fldZ, yes false])
theorem okFld (a : List UInt8) (b : Bool) (k mn mx : Int) (os fs gs : List E) (c : Bool) : okRes PP 187 (.ret (.tup [.agg [str a, yes b, num k, num mn, num mx, .e (.sl 9 os), .e (.sl 31 fs), .e (.sl 65 gs)], yes c])) = true := by kernel_rfl
theorem callF {β : Type} {x : Option (Res × Heap)} {gs : List E} {n : List UInt8} {K : Res × Heap → Option β} {r : Option β} (h : x = some (fieldRes gs n, [])) (hK : K (fieldRes gs n, []) = r) :
    (x.bind fun rh => bif okHeap [] rh.2 then bif okRes PP 187 rh.1 then K rh else none else none) = r := by
  refine bind_run h (cond_run okH (cond_run ?_ hK))
  unfold fieldRes
  cases findF gs n with
  | none => exact okFld ..
  | some g => exact okFld ..

def fieldFound (g : E) : Out := { ex := .ret, fr := [AV.undef, AV.undef, AV.undef, AV.undef, AV.ptr 0 0, yes true] ++ List.replicate 16 AV.undef, hp := [.box (match fldA g with | .agg cs => cs | _ => [])], df := [] }
def fieldNone : Out := { ex := .exit 0, fr := [AV.undef, AV.undef, AV.undef, AV.undef, AV.ptr 0 0] ++ List.replicate 17 AV.undef, hp := [.box [str [], yes false, num 0, num 0, num 0, .own 1 9 [], .own 2 31 [], .own 3 65 []], .vec 9 0, .vec 31 0, .vec 65 0], df := [] }
theorem scan_find (gs : List E) (n : List UInt8) : scanO (fun g => if strEq (nmE g) n = true then some (fieldFound g) else none) fieldNone gs = match findF gs n with | some g => fieldFound g | none => fieldNone := by
  induction gs with
  | nil => rfl
  | cons g gs ih =>
    unfold scanO findF
    rw [List.find?_cons]
    cases h : strEq (nmE g) n with
    | true => simp
    | false =>
      simp only [Bool.false_eq_true, if_false]
      exact ih

theorem field_loop {gs : List E} {n : List UInt8} (hl : gs.length ≤ maxLen) :
    LL 180 0 lc_180_2 ((((((List.replicate 22 AV.undef).set 1 (.e (.str n))).set 4 (.ptr 0 0)).set 9 (.e (.sl 65 gs))).set 10 (.e (.int .i64 gs.length))).set 11 (.e (.int .i64 ((0 : Nat) : Int)))) [.box [str [], yes false, num 0, num 0, num 0, .own 1 9 [], .own 2 31 [], .own 3 65 []], .vec 9 0, .vec 31 0, .vec 65 0] =
      some (match findF gs n with | some g => fieldFound g | none => fieldNone) := by
  rw [← scan_find]
  refine loop_scan (F := fun i => LL 180 0 lc_180_2 ((((((List.replicate 22 AV.undef).set 1 (.e (.str n))).set 4 (.ptr 0 0)).set 9 (.e (.sl 65 gs))).set 10 (.e (.int .i64 gs.length))).set 11 (.e (.int .i64 (i : Int)))) [.box [str [], yes false, num 0, num 0, num 0, .own 1 9 [], .own 2 31 [], .own 3 65 []], .vec 9 0, .vec 31 0, .vec 65 0]) ?_ ?_ ?_
  · exact loop_of_body ((eq_fieldL RR LL n gs gs.length gs.length [] false 0 0 0 [] [] []).trans (cond_not (end_nat _) rfl))
  · intro i hi o ho
    refine loop_of_body ((eq_fieldL RR LL n gs gs.length i [] false 0 0 0 [] [] []).trans (cond_run (lt_nat hi) (cond_run (in_nat hi) ?_)))
    rw [at_nat]
    generalize gs.getD i E.nili = g at ho ⊢
    cases h : strEq (nmE g) n with
    | true =>
      rw [h] at ho
      injection ho with ho
      rw [← ho]
      exact cond_run h rfl
    | false => rw [h] at ho; cases ho
  · intro i hi hp o ho
    refine loop_of_body ((eq_fieldL RR LL n gs gs.length i [] false 0 0 0 [] [] []).trans (cond_run (lt_nat hi) (cond_run (in_nat hi) ?_)))
    rw [at_nat]
    cases h : strEq (nmE (gs.getD i E.nili)) n with
    | true => rw [h] at hp; cases hp
    | false =>
      refine cond_not h ?_
      rw [wrap_nat hi hl]
      exact bind_run ho rfl

theorem field_run {k mn mx : Int} {os fs gs : List E} {n : List UInt8} (hl : gs.length ≤ maxLen) : RR none 180 [tyA k mn mx os fs gs, str n] [] = some (fieldRes gs n, []) := by
  have e1 := field_loop (n := n) hl
  refine run_of_body ((eq_field RR LL k mn mx os fs gs n).trans ?_)
  unfold fieldRes
  cases h : findF gs n with
  | none =>
    rw [h] at e1
    exact bind_run e1 (cond_run rfl (cond_run (by kernel_rfl) rfl))
  | some g =>
    rw [h] at e1
    exact bind_run e1 (cond_not rfl (cond_run rfl (cond_run rfl rfl)))

/-! ### fields -/

abbrev outY (n w : Nat) (b : Bool) : Out := bif b then { ex := .exit w, fr := List.replicate (n + 5) AV.undef, hp := [], df := [] } else { ex := .ret, fr := [AV.undef, AV.undef, AV.undef, AV.undef, yes false] ++ List.replicate n AV.undef, hp := [], df := [] }

def FOk (gs : List E) : Prop := ∀ g ∈ gs, Ty (fieldTy g) ∧ ∃ n op cs, g = .agg (.str n :: .bool op :: cs) ∧ n.length ≤ maxLen
theorem FOk.at {gs : List E} (h : FOk gs) {g : E} (hg : g ∈ gs) : ∃ n op k mn mx os fs gs', g = .agg [.str n, .bool op, .int .i64 k, .int .i64 mn, .int .i64 mx, .sl 9 os, .sl 31 fs, .sl 65 gs'] ∧ n.length ≤ maxLen :=
  fieldX (h g hg).1 (h g hg).2

def p1S (inc : E → E → Bool) (gsa : List E) (f : E) : Bool := match findF gsa (nmE f) with | some g => inc (fieldTy g) (fieldTy f) | none => false
def p2S (gsb : List E) (g : E) : Bool := optF g || match findF gsb (nmE g) with | some f => !optF f | none => false

theorem flds2 {k mn mx k' mn' mx' : Int} {os fs gsa os' fs' gsb : List E} {inc : E → E → Bool} (hla : gsa.length ≤ maxLen) (hlb : gsb.length ≤ maxLen) (ha : FOk gsa) (hb : FOk gsb)
    (hinc : ∀ g ∈ gsa, ∀ f ∈ gsb, RR none 178 [slotsOf (fieldTy g), slotsOf (fieldTy f)] [] = some (.ret (yes (inc (fieldTy g) (fieldTy f))), [])) :
    LL 179 0 lc_179_2 ((((((List.replicate 64 AV.undef).set 2 (.ptr 0 0)).set 3 (.ptr 1 0)).set 14 (.e (.sl 65 gsb))).set 15 (.e (.int .i64 gsb.length))).set 16 (.e (.int .i64 ((0 : Nat) : Int)))) [tyC k mn mx os fs gsa, tyC k' mn' mx' os' fs' gsb] =
      some (bif gsb.all (p1S inc gsa) then { ex := .exit 0, fr := [AV.undef, AV.undef, AV.ptr 0 0, AV.ptr 1 0] ++ List.replicate 60 AV.undef, hp := [tyC k mn mx os fs gsa, tyC k' mn' mx' os' fs' gsb], df := [] }
        else { ex := .ret, fr := [AV.undef, AV.undef, AV.undef, AV.undef, yes false] ++ List.replicate 59 AV.undef, hp := [], df := [] }) := by
  have step : ∀ i, i < gsb.length → ∀ o, (p1S inc gsa (gsb.getD i .nili) = true → LL 179 0 lc_179_2 ((((((List.replicate 64 AV.undef).set 2 (.ptr 0 0)).set 3 (.ptr 1 0)).set 14 (.e (.sl 65 gsb))).set 15 (.e (.int .i64 gsb.length))).set 16 (.e (.int .i64 ((i + 1 : Nat) : Int)))) [tyC k mn mx os fs gsa, tyC k' mn' mx' os' fs' gsb] = some o) →
      (p1S inc gsa (gsb.getD i .nili) = false → o = { ex := .ret, fr := [AV.undef, AV.undef, AV.undef, AV.undef, yes false] ++ List.replicate 59 AV.undef, hp := [], df := [] }) →
      LL 179 0 lc_179_2 ((((((List.replicate 64 AV.undef).set 2 (.ptr 0 0)).set 3 (.ptr 1 0)).set 14 (.e (.sl 65 gsb))).set 15 (.e (.int .i64 gsb.length))).set 16 (.e (.int .i64 (i : Int)))) [tyC k mn mx os fs gsa, tyC k' mn' mx' os' fs' gsb] = some o := by
    intro i hi o hy hn
    refine loop_of_body ((eq_fldsL2 RR LL gsb gsb.length i k mn mx os fs gsa k' mn' mx' os' fs' gsb).trans (cond_run (lt_nat hi) (cond_run (in_nat hi) (callF (field_run hla) ?_))))
    rw [at_nat, wrap_nat hi hlb]
    have hf := getD_mem hi
    have hi2 := hinc
    revert hy hn
    have hfx := hb.at hf
    generalize gsb.getD i E.nili = f at hf hfx ⊢
    intro hy hn
    unfold p1S at hy hn
    unfold fieldRes
    change (match findF gsa (nmE f) with | some g => _ | none => _) = true → _ at hy
    change (match findF gsa (nmE f) with | some g => _ | none => _) = false → _ at hn
    cases hg : findF gsa (nmE f) with
    | none =>
      rw [hg] at hn
      have hg' : findF gsa (f.cell 0).toStr = none := hg
      rw [hg']
      rw [hn rfl]
      exact cond_not rfl rfl
    | some g =>
      rw [hg] at hn hy
      have hg' : findF gsa (f.cell 0).toStr = some g := hg
      rw [hg']
      obtain ⟨g1, g2⟩ := findF_some hg
      have e1 := hi2 g g1 f hf
      obtain ⟨_, _, _, _, _, _, _, _, hgx, _⟩ := ha.at g1
      obtain ⟨_, _, _, _, _, _, _, _, hfx, _⟩ := hfx
      subst hgx
      subst hfx
      refine cond_run rfl (callB e1 ?_)
      cases hv : inc _ _ with
      | true => exact cond_not rfl (bind_run (hy hv) rfl)
      | false => rw [hn hv]; exact cond_run rfl rfl
  refine loop_all (F := fun i => LL 179 0 lc_179_2 ((((((List.replicate 64 AV.undef).set 2 (.ptr 0 0)).set 3 (.ptr 1 0)).set 14 (.e (.sl 65 gsb))).set 15 (.e (.int .i64 gsb.length))).set 16 (.e (.int .i64 (i : Int)))) [tyC k mn mx os fs gsa, tyC k' mn' mx' os' fs' gsb]) ?_ ?_ ?_
  · exact loop_of_body ((eq_fldsL2 RR LL gsb gsb.length gsb.length k mn mx os fs gsa k' mn' mx' os' fs' gsb).trans (cond_not (end_nat _) rfl))
  · intro i hi hp
    exact step i hi _ (fun h => by rw [hp] at h; cases h) (fun _ => rfl)
  · intro i hi hp o ho
    exact step i hi o (fun _ => ho) (fun h => by rw [hp] at h; cases h)

theorem flds9 {k' mn' mx' : Int} {gsa os' fs' gsb : List E} (hla : gsa.length ≤ maxLen) (hlb : gsb.length ≤ maxLen) :
    LL 179 0 lc_179_9 (((((List.replicate 64 AV.undef).set 3 (.ptr 0 0)).set 39 (.e (.sl 65 gsa))).set 40 (.e (.int .i64 gsa.length))).set 41 (.e (.int .i64 ((0 : Nat) : Int)))) [tyC k' mn' mx' os' fs' gsb] = some (outY 59 2 (gsa.all (p2S gsb))) := by
  have step : ∀ i, i < gsa.length → ∀ o, (p2S gsb (gsa.getD i .nili) = true → LL 179 0 lc_179_9 (((((List.replicate 64 AV.undef).set 3 (.ptr 0 0)).set 39 (.e (.sl 65 gsa))).set 40 (.e (.int .i64 gsa.length))).set 41 (.e (.int .i64 ((i + 1 : Nat) : Int)))) [tyC k' mn' mx' os' fs' gsb] = some o) →
      (p2S gsb (gsa.getD i .nili) = false → o = { ex := .ret, fr := [AV.undef, AV.undef, AV.undef, AV.undef, yes false] ++ List.replicate 59 AV.undef, hp := [], df := [] }) →
      LL 179 0 lc_179_9 (((((List.replicate 64 AV.undef).set 3 (.ptr 0 0)).set 39 (.e (.sl 65 gsa))).set 40 (.e (.int .i64 gsa.length))).set 41 (.e (.int .i64 (i : Int)))) [tyC k' mn' mx' os' fs' gsb] = some o := by
    intro i hi o hy hn
    refine loop_of_body ((eq_fldsL9 RR LL gsa gsa.length i k' mn' mx' os' fs' gsb).trans (cond_run (lt_nat hi) (cond_run (in_nat hi) (callF (field_run hlb) ?_))))
    rw [at_nat, wrap_nat hi hla]
    generalize gsa.getD i E.nili = g at hy hn ⊢
    unfold p2S at hy hn
    unfold fieldRes
    change (bif (!optF g) == true then _ else _) = _
    have hc : findF gsb (g.cell 0).toStr = findF gsb (nmE g) := rfl
    rw [hc]
    cases ho : optF g with
    | true =>
      rw [ho] at hy
      exact cond_not rfl (bind_run (hy rfl) rfl)
    | false =>
      rw [ho] at hy hn
      refine cond_run rfl ?_
      cases hf : findF gsb (nmE g) with
      | none =>
        rw [hf] at hn
        rw [hn rfl]
        exact cond_not rfl rfl
      | some f =>
        rw [hf] at hn hy
        refine cond_run rfl ?_
        change (bif optF f then _ else _) = _
        cases hv : optF f with
        | true =>
          have hn' : (!optF f) = false → _ := hn
          rw [hv] at hn'
          rw [hn' rfl]; exact cond_run rfl rfl
        | false =>
          have hy' : (!optF f) = true → _ := hy
          rw [hv] at hy'
          exact cond_not rfl (bind_run (hy' rfl) rfl)
  refine loop_all (F := fun i => LL 179 0 lc_179_9 (((((List.replicate 64 AV.undef).set 3 (.ptr 0 0)).set 39 (.e (.sl 65 gsa))).set 40 (.e (.int .i64 gsa.length))).set 41 (.e (.int .i64 (i : Int)))) [tyC k' mn' mx' os' fs' gsb]) ?_ ?_ ?_
  · exact loop_of_body ((eq_fldsL9 RR LL gsa gsa.length gsa.length k' mn' mx' os' fs' gsb).trans (cond_not (end_nat _) rfl))
  · intro i hi hp
    exact step i hi _ (fun h => by rw [hp] at h; cases h) (fun _ => rfl)
  · intro i hi hp o ho
    exact step i hi o (fun _ => ho) (fun h => by rw [hp] at h; cases h)

theorem flds_run {k mn mx k' mn' mx' : Int} {os fs gsa os' fs' gsb : List E} {inc : E → E → Bool} (hla : gsa.length ≤ maxLen) (hlb : gsb.length ≤ maxLen) (ha : FOk gsa) (hb : FOk gsb)
    (hinc : ∀ g ∈ gsa, ∀ f ∈ gsb, RR none 178 [slotsOf (fieldTy g), slotsOf (fieldTy f)] [] = some (.ret (yes (inc (fieldTy g) (fieldTy f))), [])) :
    RR none 179 [tyA k mn mx os fs gsa, tyA k' mn' mx' os' fs' gsb] [] = some (.ret (yes (gsb.all (p1S inc gsa) && gsa.all (p2S gsb))), []) := by
  have e2 := flds2 (k := k) (mn := mn) (mx := mx) (os := os) (fs := fs) (k' := k') (mn' := mn') (mx' := mx') (os' := os') (fs' := fs') hla hlb ha hb hinc
  have e9 := flds9 (k' := k') (mn' := mn') (mx' := mx') (os' := os') (fs' := fs') hla hlb
  refine run_of_body ((eq_flds RR LL k mn mx os fs gsa k' mn' mx' os' fs' gsb).trans ?_)
  cases h : gsb.all (p1S inc gsa) with
  | false =>
    rw [h] at e2
    exact bind_run e2 (cond_not rfl (cond_run rfl (cond_run (by kernel_rfl) rfl)))
  | true =>
    rw [h] at e2
    refine bind_run e2 (cond_run rfl (cond_run rfl ?_))
    cases h9 : gsa.all (p2S gsb) with
    | true => rw [h9] at e9; exact bind_run e9 (cond_run rfl (cond_run (by kernel_rfl) rfl))
    | false => rw [h9] at e9; exact bind_run e9 (cond_not rfl (cond_run rfl (cond_run (by kernel_rfl) rfl)))

/-! ### Includes -/

theorem inc6 {k mn mx : Int} {os fs gs l : List E} (hl : l.length ≤ maxLen) :
    LL 178 0 lc_178_6 (((((List.replicate 103 AV.undef).set 2 (.ptr 0 0)).set 34 (.e (.sl 9 l))).set 35 (.e (.int .i64 l.length))).set 36 (.e (.int .i64 ((0 : Nat) : Int)))) [tyC k mn mx os fs gs] =
      some (outY 98 0 (l.all fun s => decide (mn ≤ (nmE s).length) && decide (((nmE s).length : Int) ≤ mx))) := by
  refine loop_all (F := fun i => LL 178 0 lc_178_6 (((((List.replicate 103 AV.undef).set 2 (.ptr 0 0)).set 34 (.e (.sl 9 l))).set 35 (.e (.int .i64 l.length))).set 36 (.e (.int .i64 (i : Int)))) [tyC k mn mx os fs gs]) ?_ ?_ ?_
  · exact loop_of_body ((eq_IncludesL6 RR LL l l.length l.length k mn mx os fs gs).trans (cond_not (end_nat _) rfl))
  · intro i hi hp
    refine loop_of_body ((eq_IncludesL6 RR LL l l.length i k mn mx os fs gs).trans (cond_run (lt_nat hi) (cond_run (in_nat hi) ?_)))
    rw [at_nat]
    change (bif bif decide (((nmE (l.getD i E.nili)).length : Int) < mn) then true else decide (mx < ((nmE (l.getD i E.nili)).length : Int)) then _ else _) = _
    refine cond_run (or2_yes ?_) rfl
    simp only [Bool.and_eq_false_iff, decide_eq_false_iff_not, decide_eq_true_eq] at hp ⊢
    omega
  · intro i hi hp o ho
    refine loop_of_body ((eq_IncludesL6 RR LL l l.length i k mn mx os fs gs).trans (cond_run (lt_nat hi) (cond_run (in_nat hi) ?_)))
    rw [at_nat, wrap_nat hi hl]
    change (bif bif decide (((nmE (l.getD i E.nili)).length : Int) < mn) then true else decide (mx < ((nmE (l.getD i E.nili)).length : Int)) then _ else _) = _
    simp only [Bool.and_eq_true, decide_eq_true_eq] at hp
    exact cond_not (or2_no (dec_no (by omega)) (dec_no (by omega))) (bind_run ho rfl)

theorem inc20 {k mn mx : Int} {os fs gs l : List E} (hl : l.length ≤ maxLen) (ho : os.length ≤ maxLen) :
    LL 178 0 lc_178_20 (((((List.replicate 103 AV.undef).set 2 (.ptr 0 0)).set 67 (.e (.sl 9 l))).set 68 (.e (.int .i64 l.length))).set 69 (.e (.int .i64 ((0 : Nat) : Int)))) [tyC k mn mx os fs gs] =
      some (outY 98 3 (l.all fun s => hasS os (nmE s))) := by
  refine loop_all (F := fun i => LL 178 0 lc_178_20 (((((List.replicate 103 AV.undef).set 2 (.ptr 0 0)).set 67 (.e (.sl 9 l))).set 68 (.e (.int .i64 l.length))).set 69 (.e (.int .i64 (i : Int)))) [tyC k mn mx os fs gs]) ?_ ?_ ?_
  · exact loop_of_body ((eq_IncludesL20 RR LL l l.length l.length k mn mx os fs gs).trans (cond_not (end_nat _) rfl))
  · intro i hi hp
    refine loop_of_body ((eq_IncludesL20 RR LL l l.length i k mn mx os fs gs).trans (cond_run (lt_nat hi) (cond_run (in_nat hi) (callB (has_run ho) ?_))))
    rw [at_nat]
    change (bif !(hasS os (nmE (l.getD i E.nili))) then _ else _) = _
    rw [hp]
    exact cond_run rfl rfl
  · intro i hi hp o ho'
    refine loop_of_body ((eq_IncludesL20 RR LL l l.length i k mn mx os fs gs).trans (cond_run (lt_nat hi) (cond_run (in_nat hi) (callB (has_run ho) ?_))))
    rw [at_nat, wrap_nat hi hl]
    change (bif !(hasS os (nmE (l.getD i E.nili))) then _ else _) = _
    rw [hp]
    exact cond_not rfl (bind_run ho' rfl)

theorem incS_at (d : Nat) (a b : E) : incS (d + 1) a b = (if kindE a = 7 then true
    else if kindE a = 2 ∧ kindE b = 4 then covS a b
    else if kindE a ≠ kindE b then false
    else if kindE a = 1 ∨ kindE a = 2 then insS a b
    else if kindE a = 4 then (optsE b).all fun s => hasS (optsE a) (nmE s)
    else if kindE a = 5 then insS a b && (decide (maxE b = 0) || incS d (ofOne a) (ofOne b))
    else if kindE a = 6 then recS (incS d) a b
    else true) := rfl

/-- A loop that looks whether all are so, and what a function returns behind it. -/
theorem behindY {n w : Nat} {b : Bool} {x : Option Out} (h : x = some (outY n w b)) {A : Option (Res × Heap)} (hA : A = some (.ret (yes true), []))
    (hk : (okFr (List.replicate (n + 5) AV.undef) (List.replicate (n + 5) AV.undef) && okHeap [] []) = true) (hk2 : (okFr ([AV.undef, AV.undef, AV.undef, AV.undef, yes false] ++ List.replicate n AV.undef) ([AV.undef, AV.undef, AV.undef, AV.undef, yes false] ++ List.replicate n AV.undef) && okHeap [] []) = true) :
    (x.bind fun o => bif o.ex.isWay (Way.exit w) then bif okFr (List.replicate (n + 5) AV.undef) o.2 && okHeap [] o.3 then A else none
      else bif o.ex.isWay Way.ret then bif okFr ([AV.undef, AV.undef, AV.undef, AV.undef, yes false] ++ List.replicate n AV.undef) o.2 && okHeap [] o.3 then
        some (Res.ret (yes ((List.getD o.fr 4 AV.undef).data.toBool)), []) else none else none) = some (.ret (yes b), []) := by
  cases b with
  | true =>
    refine bind_run h (cond_run ?_ (cond_run hk hA))
    show (w == w) = true
    simp
  | false =>
    exact bind_run h (cond_not rfl (cond_run rfl (cond_run hk2 rfl)))

theorem Includes_run : ∀ (d : Nat) (a b : E), okT d a → okT d b → Ty a → Ty b → RR none 178 [slotsOf a, slotsOf b] [] = some (.ret (yes (incS d a b)), [])
  | 0, _, _, h, _, _, _ => by cases h
  | d + 1, a, b, oa, ob, ha, hb => by
    obtain ⟨a1, a2, a3, a4, a5, a6⟩ := oa
    obtain ⟨b1, b2, b3, b4, b5, b6⟩ := ob
    cases ha with
    | mk k mn mx os fs gs ho hol hf hfl hg hgn hgl hk hmn hmx =>
    cases hb with
    | mk k' mn' mx' os' fs' gs' ho' hol' hf' hfl' hg' hgn' hgl' hk' hmn' hmx' =>
    rw [incS_at]
    change 1 ≤ k at a1; change k ≤ 7 at a2; change k = 5 → _ at a5; change k = 6 → _ at a6
    change 1 ≤ k' at b1; change k' ≤ 7 at b2; change k' = 5 → _ at b5; change k' = 6 → _ at b6
    change RR none 178 [tyA k mn mx os fs gs, tyA k' mn' mx' os' fs' gs'] [] = some (.ret (yes (if k = 7 then true
      else if k = 2 ∧ k' = 4 then os'.all fun s => decide (mn ≤ (nmE s).length) && decide (((nmE s).length : Int) ≤ mx)
      else if k ≠ k' then false
      else if k = 1 ∨ k = 2 then decide (mn ≤ mn') && decide (mx' ≤ mx)
      else if k = 4 then os'.all fun s => hasS os (nmE s)
      else if k = 5 then (decide (mn ≤ mn') && decide (mx' ≤ mx)) && (decide (mx' = 0) || incS d (fs.getD 0 .nili) (fs'.getD 0 .nili))
      else if k = 6 then gs'.all (p1S (incS d) gs) && gs.all (p2S gs')
      else true)), [])
    refine run_of_body ((eq_Includes RR LL k mn mx os fs gs k' mn' mx' os' fs' gs').trans ?_)
    by_cases k7 : k = 7
    · rw [if_pos k7]; exact cond_run (eq_beq k7) rfl
    rw [if_neg k7]
    refine cond_not (ne_beq k7) ?_
    by_cases k24 : k = 2 ∧ k' = 4
    · rw [if_pos k24]
      exact cond_run (and2_yes (eq_beq k24.1) (eq_beq k24.2)) (behindY (inc6 hol') rfl (by kernel_rfl) (by kernel_rfl))
    rw [if_neg k24]
    refine cond_not (and2_no (by by_cases h : k = 2; exact .inr (ne_beq (fun h' => k24 ⟨h, h'⟩)); exact .inl (ne_beq h))) ?_
    by_cases kk : k = k'
    · rw [if_neg (by simpa using kk)]
      refine cond_not (by rw [eq_beq kk]; rfl) ?_
      have ins : (bif decide (mn ≤ mn') then decide (mx' ≤ mx) else false) = (decide (mn ≤ mn') && decide (mx' ≤ mx)) := by cases decide (mn ≤ mn') <;> rfl
      by_cases k1 : k = 1
      · rw [if_pos (.inl k1)]
        refine cond_run (eq_beq k1) (cond_run (eq_beq k1) ?_)
        rw [ins]
      · refine cond_not (ne_beq k1) ?_
        by_cases k2 : k = 2
        · rw [if_pos (.inr k2)]
          refine cond_run (eq_beq k2) ?_
          rw [ins]
        · rw [if_neg (by omega)]
          refine cond_not (ne_beq k2) ?_
          by_cases k4 : k = 4
          · rw [if_pos k4]
            exact cond_run (eq_beq k4) (behindY (inc20 hol' hol) rfl (by kernel_rfl) (by kernel_rfl))
          rw [if_neg k4]
          refine cond_not (ne_beq k4) ?_
          by_cases k5 : k = 5
          · rw [if_pos k5]
            refine cond_run (eq_beq k5) ?_
            rw [ins]
            cases hin : (decide (mn ≤ mn') && decide (mx' ≤ mx)) with
            | false => exact cond_not rfl rfl
            | true =>
              refine cond_run rfl ?_
              by_cases hz : mx' = 0
              · rw [dec_yes hz, eq_beq hz]
                exact cond_not rfl rfl
              · rw [dec_no hz, ne_beq hz]
                have q5 := a5 k5
                have r5 := b5 (by omega)
                have l1 : fs.length = 1 := q5.2.2.2.1
                have l2 : fs'.length = 1 := r5.2.2.2.1
                refine cond_run rfl (cond_run (dec_yes (by omega)) (cond_run (dec_yes (by omega)) ?_))
                have m1 : fs.getD 0 .nili ∈ fs := getD_mem (by omega)
                have m2 : fs'.getD 0 .nili ∈ fs' := getD_mem (by omega)
                have e1 := Includes_run d (fs.getD 0 .nili) (fs'.getD 0 .nili) q5.2.2.2.2 r5.2.2.2.2 (hf _ m1) (hf' _ m2)
                have t1 := hf _ m1
                have t2 := hf' _ m2
                generalize fs.getD 0 E.nili = x at e1 t1 ⊢
                generalize fs'.getD 0 E.nili = y at e1 t2 ⊢
                cases t1
                cases t2
                refine callB e1 ?_
                simp
          rw [if_neg k5]
          refine cond_not (ne_beq k5) ?_
          by_cases k6 : k = 6
          · rw [if_pos k6]
            have q6 := a6 k6
            have r6 := b6 (by omega)
            refine cond_run (eq_beq k6) (callB (flds_run hgl hgl' (fun g h => ⟨hg g h, hgn g h⟩) (fun g h => ⟨hg' g h, hgn' g h⟩) (fun g h f h' => Includes_run d _ _ (q6.2 g h) (r6.2 f h') (hg g h) (hg' f h'))) rfl)
          rw [if_neg k6]
          exact cond_not (ne_beq k6) rfl
    · rw [if_pos kk]
      exact cond_run (by rw [ne_beq kk]; rfl) rfl

end Go.Proofs.YtapndkailgcboaaGreatDoor
