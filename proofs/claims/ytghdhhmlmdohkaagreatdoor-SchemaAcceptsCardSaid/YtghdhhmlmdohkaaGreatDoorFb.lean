/- Fits, the reference's; the law. -/
import Derived.Test.YtghdhhmlmdohkaaGreatDoorFa
import Derived.Test.YtghdhhmlmdohkaaGreatDoorFr
namespace Go.Proofs.YtghdhhmlmdohkaaGreatDoor
open Go Go.Den
set_option maxRecDepth 100000

def fitQ (q : List UInt8) (p : Option (List UInt8)) : Res := match p with | none => .ret (.tup [str [], yes true]) | some p => .ret (.tup [str (q ++ p), yes false])
theorem callQ {β : Type} {x : Option (Res × Heap)} {q : List UInt8} {p : Option (List UInt8)} {K : Res × Heap → Option β} {r : Option β} (h : x = some (fitQ q p, [])) (hK : K (fitQ q p, []) = r) :
    (x.bind fun rh => bif okHeap [] rh.2 then bif okRes PP 42 rh.1 then K rh else none else none) = r := by
  refine bind_run h (cond_run okH (cond_run ?_ hK))
  cases p with
  | none => exact okFit ..
  | some p => exact okFit ..

/-! ### entry -/

def entOut (i : Nat) : Out := { ex := .ret, fr := [AV.undef, AV.undef, AV.undef, AV.undef, num i] ++ List.replicate 14 AV.undef, hp := [], df := [] }
theorem entry_loop {os : List E} {n : List UInt8} (hl : os.length ≤ maxLen) : ∀ (j i : Nat), i + j = os.length →
    LL 154 0 lc_154_2 ((((List.replicate 19 AV.undef).set 0 (.e (.sl 9 os))).set 1 (.e (.str n))).set 5 (.e (.int .i64 (i : Int)))) [] =
      some (match (os.drop i).findIdx? (fun g => strEq (nmE g) n) with | some k => entOut (i + k) | none => { ex := .exit 0, fr := List.replicate 19 AV.undef, hp := [], df := [] }) := by
  intro j
  induction j with
  | zero =>
    intro i h
    have : i = os.length := by omega
    subst this
    rw [List.drop_length]
    exact loop_of_body ((eq_entryL2 RR LL os n os.length).trans (cond_not (end_nat _) rfl))
  | succ j ih =>
    intro i h
    have hi : i < os.length := by omega
    refine loop_of_body ((eq_entryL2 RR LL os n i).trans (cond_run (lt_nat hi) (cond_run (in_nat hi) ?_)))
    rw [at_nat, drop_getD hi, List.findIdx?_cons]
    have e := ih (i + 1) (by omega)
    change (bif strEq (nmE (os.getD i E.nili)) n then _ else _) = _
    cases hs : strEq (nmE (os.getD i E.nili)) n with
    | true => exact cond_run rfl rfl
    | false =>
      refine cond_not rfl ?_
      rw [wrap_nat hi hl]
      refine bind_run e ?_
      cases (os.drop (i + 1)).findIdx? (fun g => strEq (nmE g) n) with
      | none => rfl
      | some k =>
        show some (entOut (i + 1 + k)) = some (entOut (i + (k + 1)))
        rw [show i + 1 + k = i + (k + 1) by omega]

theorem entry_run {os : List E} {n : List UInt8} (hl : os.length ≤ maxLen) : ∃ i : Int, RR none 154 [.e (.sl 9 os), str n] [] = some (.ret (num i), []) ∧ decide (0 ≤ i) = hasS os n := by
  have e1 := entry_loop (n := n) hl os.length 0 (by omega)
  rw [List.drop_zero] at e1
  cases h : os.findIdx? (fun g => strEq (nmE g) n) with
  | none =>
    rw [h] at e1
    refine ⟨-1, run_of_body ((eq_entry RR LL os n).trans (bind_run e1 (cond_run rfl (cond_run (by kernel_rfl) rfl)))), ?_⟩
    rw [List.findIdx?_eq_none_iff] at h
    have : hasS os n = false := by
      unfold hasS
      rw [List.any_eq_false]
      intro x hx
      rw [h x hx]; decide
    rw [this]; rfl
  | some k =>
    rw [h] at e1
    refine ⟨((0 + k : Nat) : Int), run_of_body ((eq_entry RR LL os n).trans (bind_run e1 (cond_not rfl (cond_run rfl (cond_run rfl rfl))))), ?_⟩
    obtain ⟨h1, h2, _⟩ := List.findIdx?_eq_some_iff_getElem.1 h
    have : hasS os n = true := List.any_eq_true.2 ⟨os[k], List.getElem_mem h1, h2⟩
    rw [this]; exact dec_yes (by omega)

/-! ### a record's fields -/

abbrev outQ (n w : Nat) (q : List UInt8) (p : Option (List UInt8)) : Out := match p with | none => { ex := .exit w, fr := List.replicate (n + 8) AV.undef, hp := [], df := [] } | some p => { ex := .ret, fr := List.replicate 6 AV.undef ++ [str (q ++ p), yes false] ++ List.replicate n AV.undef, hp := [], df := [] }

theorem outQ_dot (n w : Nat) (q a : List UInt8) : outQ n w q (some (46 :: a)) = { ex := .ret, fr := List.replicate 6 AV.undef ++ [str (q ++ [46] ++ a), yes false] ++ List.replicate n AV.undef, hp := [], df := [] } := by
  show ({ ex := .ret, fr := List.replicate 6 AV.undef ++ [str (q ++ 46 :: a), yes false] ++ List.replicate n AV.undef, hp := [], df := [] } : Out) = _
  rw [show q ++ [46] ++ a = q ++ 46 :: a by simp]
theorem fitsRecord2 {k' n' : Int} {gs ns vs : List E} {x q : List UInt8} {f : E → E → Option (List UInt8)} (hgl : gs.length ≤ maxLen) (hl : ns.length ≤ maxLen) (hnv : ns.length = vs.length) (hq : q.length ≤ 100000)
    (hgn : ∀ g ∈ gs, (nmE g).length ≤ 16) (hnn : ∀ n ∈ ns, (nmE n).length ≤ 16)
    (hf : ∀ g ∈ gs, ∀ v ∈ vs, ∀ q', q'.length ≤ q.length + 17 → RR none 106 [slotsF g, slotsV v, str q'] [] = some (fitQ q' (f (fieldTy g) v), [])) :
    ∀ (m i j : Nat), i ≤ gs.length → j ≤ ns.length → m = (gs.length - i) + (ns.length - j) →
      LL 155 0 lc_155_2 ((((((List.replicate 118 AV.undef).set 0 (.e (.sl 81 gs))).set 2 (.e (.str q))).set 4 (.ptr 0 0)).set 8 (.e (.int .i64 (i : Int)))).set 9 (.e (.int .i64 (j : Int)))) [vlC k' n' x ns vs] =
      some (outQ 110 0 q (membS f (gs.drop i) (ns.drop j) (vs.drop j))) := by
  intro m
  induction m using Nat.strongRecOn with
  | _ m ih =>
  intro i j h1 h2 hm
  refine loop_of_body ((eq_fitsRecordL2 RR LL gs q i j k' n' x ns vs).trans ?_)
  have dq : decide (q.length + 1 ≤ 9223372036854775807) = true := dec_yes (by omega)
  by_cases hi : i < gs.length <;> by_cases hj : j < ns.length
  · have hjv : j < vs.length := by omega
    have ng := hgn _ (getD_mem hi)
    have nn := hnn _ (getD_mem hj)
    have e2 := ih (m - 1) (by omega) (i + 1) j (by omega) (by omega) (by omega)
    have e3 := ih (m - 2) (by omega) (i + 1) (j + 1) (by omega) (by omega) (by omega)
    have e1 := hf _ (getD_mem hi) _ (getD_mem hjv) (q ++ [46] ++ nmE (gs.getD i .nili)) (by simp at ng ⊢; omega)
    rw [drop_getD hj] at e2
    rw [drop_getD hi, drop_getD hj]
    unfold membS
    rw [getD_drop, List.drop_drop]
    rw [at_nat, at_nat, wrap_nat hi hgl, wrap_nat hj hl]
    refine cond_run (or2_yes (.inl (lt_nat hi))) (cond_run (by rw [ne_beq (show (i : Int) ≠ gs.length by omega)]; rfl) (cond_run (by rw [lt_nat hj]; rfl) (cond_run (in_nat hj) (cond_run (in_nat hi) ?_))))
    change (bif Op.bytesLess (nmE (ns.getD j .nili)) (nmE (gs.getD i .nili)) then _ else _) = _
    have dg : decide ((q ++ [46]).length + (nmE (gs.getD i .nili)).length ≤ 9223372036854775807) = true := dec_yes (by rw [List.length_append]; show q.length + 1 + _ ≤ _; omega)
    have dn : decide ((q ++ [46]).length + (nmE (ns.getD j .nili)).length ≤ 9223372036854775807) = true := dec_yes (by rw [List.length_append]; show q.length + 1 + _ ≤ _; omega)
    cases hl2 : Op.bytesLess (nmE (ns.getD j .nili)) (nmE (gs.getD i .nili)) with
    | true =>
      rw [less_asymm hl2, if_neg (by decide), if_pos rfl]
      refine cond_run rfl (cond_run dq (cond_run (in_nat hj) (cond_run dn ?_)))
      rw [outQ_dot]
      rfl
    | false =>
      rw [if_neg (show ¬ (false = true) by decide)]
      refine cond_not rfl (cond_run (by rw [ne_beq (show (j : Int) ≠ ns.length by omega)]; rfl) (cond_run (in_nat hi) (cond_run (in_nat hj) ?_)))
      change (bif Op.bytesLess (nmE (gs.getD i .nili)) (nmE (ns.getD j .nili)) then _ else _) = _
      cases hl1 : Op.bytesLess (nmE (gs.getD i .nili)) (nmE (ns.getD j .nili)) with
      | true =>
        rw [if_pos rfl]
        refine cond_run rfl (cond_run (in_nat hi) ?_)
        change (bif !(optF (gs.getD i .nili)) then _ else _) = _
        cases ho : optF (gs.getD i .nili) with
        | false =>
          rw [if_neg (by decide)]
          refine cond_run rfl (cond_run dq (cond_run (in_nat hi) (cond_run dg ?_)))
          rw [outQ_dot]
          rfl
        | true =>
          rw [if_pos rfl]
          exact cond_not rfl (bind_run e2 rfl)
      | false =>
        rw [if_neg (by decide)]
        have eqn := less_tri _ _ hl1 hl2
        refine cond_not rfl (cond_run (in_nat hi) (cond_run (in_nat hjv) (cond_run dq (cond_run (in_nat hi) (cond_run dg (callQ e1 ?_))))))
        cases hx : f (fieldTy (gs.getD i .nili)) (vs.getD j .nili) with
        | none => exact cond_not rfl (bind_run e3 rfl)
        | some p =>
          refine cond_run rfl ?_
          show some ({ ex := .ret, fr := List.replicate 6 AV.undef ++ [str (q ++ [46] ++ nmE (gs.getD i .nili) ++ p), yes false] ++ List.replicate 110 AV.undef, hp := [], df := [] } : Out) = some { ex := .ret, fr := List.replicate 6 AV.undef ++ [str (q ++ (46 :: nmE (ns.getD j .nili) ++ p)), yes false] ++ List.replicate 110 AV.undef, hp := [], df := [] }
          rw [eqn, show q ++ [46] ++ nmE (ns.getD j .nili) ++ p = q ++ (46 :: nmE (ns.getD j .nili) ++ p) by simp]
  · have ng := hgn _ (getD_mem hi)
    have e2 := ih (m - 1) (by omega) (i + 1) j (by omega) (by omega) (by omega)
    have hd : ns.drop j = [] := List.drop_eq_nil_of_le (by omega)
    have dg : decide ((q ++ [46]).length + (nmE (gs.getD i .nili)).length ≤ 9223372036854775807) = true := dec_yes (by rw [List.length_append]; show q.length + 1 + _ ≤ _; omega)
    rw [hd] at e2 ⊢
    rw [drop_getD hi]
    unfold membS
    rw [at_nat, wrap_nat hi hgl]
    refine cond_run (or2_yes (.inl (lt_nat hi))) (cond_run (by rw [ne_beq (show (i : Int) ≠ gs.length by omega)]; rfl) (cond_not (by rw [dec_no (show ¬ (j : Int) < ns.length by omega)]; rfl) (cond_not (by rw [eq_beq (show (j : Int) = ns.length by omega)]; rfl) (cond_run (in_nat hi) ?_))))
    change (bif !(optF (gs.getD i .nili)) then _ else _) = _
    cases ho : optF (gs.getD i .nili) with
    | false =>
      rw [if_neg (by decide)]
      refine cond_run rfl (cond_run dq (cond_run (in_nat hi) (cond_run dg ?_)))
      rw [outQ_dot]
      rfl
    | true =>
      rw [if_pos rfl]
      exact cond_not rfl (bind_run e2 rfl)
  · have nn := hnn _ (getD_mem hj)
    have hd : gs.drop i = [] := List.drop_eq_nil_of_le (by omega)
    have dn : decide ((q ++ [46]).length + (nmE (ns.getD j .nili)).length ≤ 9223372036854775807) = true := dec_yes (by rw [List.length_append]; show q.length + 1 + _ ≤ _; omega)
    rw [hd, drop_getD hj]
    unfold membS
    rw [at_nat, at_nat]
    refine cond_run (or2_yes (.inr (lt_nat hj))) (cond_not (by rw [eq_beq (show (i : Int) = gs.length by omega)]; rfl) (cond_run dq (cond_run (in_nat hj) (cond_run dn ?_))))
    rw [outQ_dot]
    rfl
  · have hd : gs.drop i = [] := List.drop_eq_nil_of_le (by omega)
    have hd2 : ns.drop j = [] := List.drop_eq_nil_of_le (by omega)
    rw [hd, hd2]
    exact cond_not (or2_no (dec_no (by omega)) (dec_no (by omega))) rfl

theorem behindQ {n w : Nat} {q : List UInt8} {p : Option (List UInt8)} {x : Option Out} (h : x = some (outQ n w q p))
    (hk : (okFr (List.replicate (n + 8) AV.undef) (List.replicate (n + 8) AV.undef) && okHeap [] []) = true) (hk2 : ∀ p, (okFr (List.replicate 6 AV.undef ++ [str [], yes false] ++ List.replicate n AV.undef) (List.replicate 6 AV.undef ++ [str p, yes false] ++ List.replicate n AV.undef) && okHeap [] []) = true) :
    (x.bind fun o => bif o.ex.isWay (Way.exit w) then bif okFr (List.replicate (n + 8) AV.undef) o.2 && okHeap [] o.3 then some (Res.ret (.tup [str [], yes true]), ([] : Heap)) else none
      else bif o.ex.isWay Way.ret then bif okFr (List.replicate 6 AV.undef ++ [str [], yes false] ++ List.replicate n AV.undef) o.2 && okHeap [] o.3 then
        some (Res.ret (.tup [str ((List.getD o.fr 6 AV.undef).data.toStr), yes ((List.getD o.fr 7 AV.undef).data.toBool)]), ([] : Heap)) else none else none) = some (fitQ q p, []) := by
  cases p with
  | none =>
    refine bind_run h (cond_run ?_ (cond_run hk rfl))
    show (w == w) = true
    simp
  | some p => exact bind_run h (cond_not rfl (cond_run rfl (cond_run (hk2 (q ++ p)) rfl)))

theorem fitsRecord_run {k' n' : Int} {gs ns vs : List E} {x q : List UInt8} {f : E → E → Option (List UInt8)} (hgl : gs.length ≤ maxLen) (hl : ns.length ≤ maxLen) (hnv : ns.length = vs.length) (hq : q.length ≤ 100000)
    (hgn : ∀ g ∈ gs, (nmE g).length ≤ 16) (hnn : ∀ n ∈ ns, (nmE n).length ≤ 16)
    (hf : ∀ g ∈ gs, ∀ v ∈ vs, ∀ q', q'.length ≤ q.length + 17 → RR none 106 [slotsF g, slotsV v, str q'] [] = some (fitQ q' (f (fieldTy g) v), [])) :
    RR none 155 [.e (.sl 81 gs), vlA k' n' x ns vs, str q] [] = some (fitQ q (membS f gs ns vs), []) := by
  have e1 := fitsRecord2 (k' := k') (n' := n') (x := x) hgl hl hnv hq hgn hnn hf _ 0 0 (by omega) (by omega) rfl
  rw [List.drop_zero, List.drop_zero, List.drop_zero] at e1
  exact run_of_body ((eq_fitsRecord RR LL gs k' n' x ns vs q).trans (behindQ e1 (by kernel_rfl) (fun p => by kernel_rfl)))

/-! ### fits -/

theorem rfits14 {k mn mx k' n' : Int} {os fs gs ns vs : List E} {x q : List UInt8} {f : E → Option (List UInt8)} (hl : vs.length ≤ maxLen) (hfs : 0 < fs.length) (hq : q.length ≤ 100000)
    (hf : ∀ v ∈ vs, ∀ q', q'.length ≤ q.length + 22 → RR none 106 [slotsT (fs.getD 0 .nili), slotsV v, str q'] [] = some (fitQ q' (f v), [])) :
    ∀ (j i : Nat), i + j = vs.length → LL 106 0 lc_106_14 ((((((List.replicate 125 AV.undef).set 2 (.e (.str q))).set 3 (.ptr 0 0)).set 4 (.ptr 1 0)).set 8 (.e (.bool true))).set 9 (.e (.int .i64 (i : Int)))) [tyC k mn mx os fs gs, vlC k' n' x ns vs] =
      some (match elemsS f i (vs.drop i) with
        | none => { ex := .exit 1, fr := [AV.undef, AV.undef, str q, AV.undef, AV.undef, AV.undef, AV.undef, AV.undef, yes true] ++ List.replicate 116 AV.undef, hp := [], df := [] }
        | some p => { ex := .ret, fr := List.replicate 6 AV.undef ++ [str (q ++ p), yes false] ++ List.replicate 117 AV.undef, hp := [], df := [] }) := by
  intro j
  induction j with
  | zero =>
    intro i h
    have : i = vs.length := by omega
    subst this
    rw [List.drop_length]
    exact loop_of_body ((eq_rfitsL14 RR LL q true vs.length k mn mx os fs gs k' n' x ns vs).trans (cond_not (by rw [end_nat]; rfl) rfl))
  | succ j ih =>
    intro i h
    have hi : i < vs.length := by omega
    have e2 := ih (i + 1) (by omega)
    have hll := hl
    rw [maxLen_eq] at hll
    have il := itoa_len (n := (i : Int)) (by omega) (by omega)
    have e1 := hf _ (getD_mem hi) (q ++ [91] ++ Lib.itoa i ++ [93]) (by simp; omega)
    refine loop_of_body ((eq_rfitsL14 RR LL q true i k mn mx os fs gs k' n' x ns vs).trans (cond_run (by rw [lt_nat hi]; rfl) (cond_run (dec_yes (by omega)) (cond_run (in_nat hi) (cond_run (dec_yes (by omega)) (callT (Number_run (by omega) (by omega)) (cond_run (dec_yes ?_) (cond_run (dec_yes ?_) ?_))))))))
    · show (q ++ [91]).length + (Lib.itoa i).length ≤ _
      simp; omega
    · show (q ++ [91] ++ Lib.itoa i).length + 1 ≤ _
      simp; omega
    · rw [drop_getD hi, at_nat, wrap_nat hi hl]
      unfold elemsS
      refine callQ e1 ?_
      cases hx : f (vs.getD i .nili) with
      | none => exact cond_not rfl (bind_run e2 rfl)
      | some p =>
        refine cond_run rfl ?_
        show some ({ ex := .ret, fr := List.replicate 6 AV.undef ++ [str (q ++ [91] ++ Lib.itoa i ++ [93] ++ p), yes false] ++ List.replicate 117 AV.undef, hp := [], df := [] } : Out) = some { ex := .ret, fr := List.replicate 6 AV.undef ++ [str (q ++ (91 :: (Lib.itoa i ++ [93]) ++ p)), yes false] ++ List.replicate 117 AV.undef, hp := [], df := [] }
        rw [show q ++ [91] ++ Lib.itoa i ++ [93] ++ p = q ++ (91 :: (Lib.itoa i ++ [93]) ++ p) by simp]

theorem fitQ_yes (q : List UInt8) (b : Bool) : fitQ q (yesS b) = bif b then .ret (.tup [str [], yes true]) else .ret (.tup [str q, yes false]) := by
  cases b
  · show Res.ret (.tup [str (q ++ []), yes false]) = _
    rw [List.append_nil]; rfl
  · rfl
theorem range_one {n a b : Int} : (rangeS n n a b == 0) = (decide (a ≤ n) && decide (n ≤ b)) := by
  unfold rangeS
  by_cases h1 : a ≤ n
  · by_cases h2 : n ≤ b
    · rw [if_pos (by omega), dec_yes h1, dec_yes h2]; rfl
    · rw [if_neg (by omega), dec_yes h1, dec_no h2]; rfl
  · rw [if_neg (by omega), dec_no h1]; rfl

theorem rfits_run : ∀ (d : Nat) (e : Nat) (t v : E) (q : List UInt8), q.length + 40 * d ≤ 100000 → Ful 9 27 81 d t → FulV 9 39 e v → Ty t → Val v → RR none 106 [slotsOf t, slotsOf v, str q] [] = some (fitQ q (fitsS d t v), [])
  | 0, _, _, _, _, _, h, _, _, _ => by cases h
  | d + 1, e, t, v, q, hq, ft, fv, ht, hv => by
    have s5 := ful_sub5 ft
    have s6 := ful_sub6 ft
    have nm := ful_names ft
    have v5 := fulV_sub5 fv
    have v6 := fulV_sub6 fv
    have kr := ft.okT.1
    have kr2 := ft.okT.2.1
    cases ht with
    | mk k mn mx os fs gs ho hol hf hfl hg hgn hgl hk hmn hmx =>
    cases hv with
    | mk k' n' x ns vs hx hn hnl hvv hvl hk' hnum =>
    rw [fitsS_at]
    change k = 5 → Ful 9 27 81 d (fs.getD 0 .nili) ∧ fs.length = 1 ∧ mx ≤ 32 ∧ 0 ≤ mn at s5
    change k = 6 → ∀ g ∈ gs, Ful 9 27 81 d (fieldTy g) at s6
    change ∀ g ∈ gs, (nmE g).length ≤ 16 at nm
    change k' = 5 → ∃ e', ∀ x ∈ vs, FulV 9 39 e' x at v5
    change k' = 6 → (∃ e', ∀ x ∈ vs, FulV 9 39 e' x) ∧ ns.length = vs.length ∧ ∀ n ∈ ns, (nmE n).length ≤ 16 at v6
    change 1 ≤ k at kr
    change k ≤ 7 at kr2
    change RR none 106 [tyA k mn mx os fs gs, vlA k' n' x ns vs, str q] [] = some (fitQ q (if k = 7 then none
      else if k = 1 then yesS (decide (k' = 1) && decide (mn ≤ n') && decide (n' ≤ mx))
      else if k = 2 then yesS (decide (k' = 2) && decide (mn ≤ x.length) && decide ((x.length : Int) ≤ mx))
      else if k = 3 then yesS (decide (k' = 3))
      else if k = 4 then yesS (decide (k' = 2) && hasS os x)
      else if k = 5 then (if k' = 5 ∧ mn ≤ vs.length ∧ (vs.length : Int) ≤ mx then elemsS (fitsS d (fs.getD 0 .nili)) 0 vs else some [])
      else if k = 6 then (if k' = 6 then membS (fitsS d) gs ns vs else some [])
      else some []), [])
    refine run_of_body ((eq_rfits RR LL k mn mx os fs gs k' n' x ns vs q).trans ?_)
    have nilq : fitQ q (some []) = .ret (.tup [str q, yes false]) := by show Res.ret (.tup [str (q ++ []), yes false]) = _; rw [List.append_nil]
    by_cases k7 : k = 7
    · rw [if_pos k7]; exact cond_run (eq_beq k7) rfl
    rw [if_neg k7]
    refine cond_not (ne_beq k7) ?_
    by_cases k1 : k = 1
    · rw [if_pos k1, fitQ_yes, Bool.and_assoc]
      refine cond_run (eq_beq k1) ?_
      by_cases z : k' = 1
      · rw [dec_yes z, Bool.true_and]
        refine cond_run (by rw [eq_beq (show k = k' by omega)]; rfl) (callB (rwithin_run _ _ _ _) ?_)
        rw [range_one]
        cases (decide (mn ≤ n') && decide (n' ≤ mx)) with
        | true => exact cond_not rfl rfl
        | false => exact cond_run rfl rfl
      · rw [dec_no z, Bool.false_and]
        exact cond_not (by rw [ne_beq (show k ≠ k' by omega)]; rfl) rfl
    rw [if_neg k1]
    refine cond_not (ne_beq k1) ?_
    by_cases k2 : k = 2
    · rw [if_pos k2, fitQ_yes, Bool.and_assoc]
      refine cond_run (eq_beq k2) ?_
      by_cases z : k' = 2
      · rw [dec_yes z, Bool.true_and]
        refine cond_run (by rw [eq_beq (show k = k' by omega)]; rfl) (callB (rwithin_run _ _ _ _) ?_)
        rw [range_one]
        cases (decide (mn ≤ (x.length : Int)) && decide ((x.length : Int) ≤ mx)) with
        | true => exact cond_not rfl rfl
        | false => exact cond_run rfl rfl
      · rw [dec_no z, Bool.false_and]
        exact cond_not (by rw [ne_beq (show k ≠ k' by omega)]; rfl) rfl
    rw [if_neg k2]
    refine cond_not (ne_beq k2) ?_
    by_cases k4 : k = 4
    · rw [if_neg (by omega), if_pos k4, fitQ_yes]
      refine cond_run (eq_beq k4) ?_
      by_cases z : k' = 2
      · obtain ⟨i, i1, i2⟩ := entry_run (n := x) hol
        rw [dec_yes z, Bool.true_and]
        refine cond_run (by rw [eq_beq z]; rfl) (callN i1 ?_)
        change (bif !decide (0 ≤ i) then _ else _) = _
        rw [i2]
        cases hasS os x with
        | true => exact cond_not rfl rfl
        | false => exact cond_run rfl rfl
      · rw [dec_no z, Bool.false_and]
        exact cond_not (by rw [ne_beq z]; rfl) rfl
    refine cond_not (ne_beq k4) ?_
    by_cases k5 : k = 5
    · rw [if_neg (by omega), if_neg k4, if_pos k5]
      obtain ⟨f1, f2, f3, f4⟩ := s5 k5
      refine cond_run (eq_beq k5) ?_
      have stop : ∀ r : Res × Heap, some (fitQ q (some []), ([] : Heap)) = some r → ((LL 106 0 lc_106_14 ((((((List.replicate 125 AV.undef).set 2 (.e (.str q))).set 3 (.ptr 0 0)).set 4 (.ptr 1 0)).set 8 (.e (.bool false))).set 9 (.e (.int .i64 ((0 : Nat) : Int)))) [tyC k mn mx os fs gs, vlC k' n' x ns vs]).bind fun o =>
          bif o.ex.isWay (Way.exit 1) then bif okFr ([AV.undef, AV.undef, str [], AV.undef, AV.undef, AV.undef, AV.undef, AV.undef, yes false] ++ List.replicate 116 AV.undef) o.2 && okHeap [] o.3 then
            bif !(List.getD o.fr 8 AV.undef).data.toBool then some (Res.ret (.tup [str ((List.getD o.fr 2 AV.undef).data.toStr), yes false]), ([] : Heap)) else some (Res.ret (.tup [str [], yes true]), []) else none
          else bif o.ex.isWay Way.ret then bif okFr (List.replicate 6 AV.undef ++ [str [], yes false] ++ List.replicate 117 AV.undef) o.2 && okHeap [] o.3 then
            some (Res.ret (.tup [str ((List.getD o.fr 6 AV.undef).data.toStr), yes ((List.getD o.fr 7 AV.undef).data.toBool)]), []) else none else none) = some r := by
        intro r hr
        have e0 : LL 106 0 lc_106_14 ((((((List.replicate 125 AV.undef).set 2 (.e (.str q))).set 3 (.ptr 0 0)).set 4 (.ptr 1 0)).set 8 (.e (.bool false))).set 9 (.e (.int .i64 ((0 : Nat) : Int)))) [tyC k mn mx os fs gs, vlC k' n' x ns vs] =
            some { ex := .exit 1, fr := [AV.undef, AV.undef, str q, AV.undef, AV.undef, AV.undef, AV.undef, AV.undef, yes false] ++ List.replicate 116 AV.undef, hp := [], df := [] } :=
          loop_of_body ((eq_rfitsL14 RR LL q false (0 : Nat) k mn mx os fs gs k' n' x ns vs).trans (cond_not rfl rfl))
        rw [nilq] at hr
        exact bind_run e0 (cond_run rfl (cond_run rfl (cond_run rfl hr)))
      by_cases z : k' = 5
      · refine cond_run (by rw [eq_beq (show k = k' by omega)]; rfl) (callB (rwithin_run _ _ _ _) ?_)
        rw [range_one]
        by_cases hin : mn ≤ vs.length ∧ (vs.length : Int) ≤ mx
        · rw [if_pos ⟨z, hin⟩, dec_yes hin.1, dec_yes hin.2]
          have m1 : fs.getD 0 .nili ∈ fs := getD_mem (by omega)
          have t1 := hf _ m1
          obtain ⟨e', he'⟩ := v5 z
          have ef : ∀ v ∈ vs, ∀ q', q'.length ≤ q.length + 22 → RR none 106 [slotsT (fs.getD 0 .nili), slotsV v, str q'] [] = some (fitQ q' (fitsS d (fs.getD 0 .nili) v), []) := fun v hm q' hq' => by
            rw [slotsT_eq t1, slotsV_eq (hvv v hm)]; exact rfits_run d e' _ v q' (by omega) f1 (he' v hm) t1 (hvv v hm)
          have e1 := rfits14 (k := k) (mn := mn) (mx := mx) (os := os) (gs := gs) (k' := k') (n' := n') (ns := ns) (x := x) hvl (by omega) (by omega) ef vs.length 0 (by omega)
          rw [List.drop_zero] at e1
          cases hel : elemsS (fitsS d (fs.getD 0 E.nili)) 0 vs with
          | none => rw [hel] at e1; exact bind_run e1 (cond_run rfl (cond_run rfl (cond_not rfl rfl)))
          | some p => rw [hel] at e1; exact bind_run e1 (cond_not rfl (cond_run rfl (cond_run rfl rfl)))
        · rw [if_neg (fun h => hin h.2)]
          have hb : (decide (mn ≤ (vs.length : Int)) && decide ((vs.length : Int) ≤ mx)) = false := by
            by_cases h1 : mn ≤ (vs.length : Int)
            · rw [dec_yes h1, dec_no (fun h => hin ⟨h1, h⟩)]; rfl
            · rw [dec_no h1]; rfl
          rw [hb]
          exact stop _ rfl
      · rw [if_neg (fun h => z h.1)]
        refine cond_not (by rw [ne_beq (show k ≠ k' by omega)]; rfl) (stop _ rfl)
    refine cond_not (ne_beq k5) ?_
    by_cases k6 : k = 6
    · rw [if_neg (by omega), if_neg k4, if_neg k5, if_pos k6]
      refine cond_run (eq_beq k6) ?_
      by_cases z : k' = 6
      · rw [if_pos z]
        obtain ⟨⟨e', he'⟩, hl, hn16⟩ := v6 z
        have g6 := s6 k6
        refine cond_run (eq_beq (by omega)) (callQ (fitsRecord_run (f := fitsS d) hgl hnl hl (by omega) nm hn16 (fun g hm v hv' q' hq' => ?_)) ?_)
        · rw [slotsF_eq (hg g hm) (hgn g hm), slotsV_eq (hvv v hv')]
          exact rfits_run d e' _ v q' (by omega) (g6 g hm) (he' v hv') (hg g hm) (hvv v hv')
        · generalize membS _ _ _ _ = w
          cases w <;> rfl
      · rw [if_neg z, nilq]
        exact cond_not (ne_beq (by omega)) (cond_run (by rw [ne_beq (show k ≠ k' by omega)]; rfl) rfl)
    have k3 : k = 3 := by omega
    rw [if_pos k3, fitQ_yes]
    refine cond_not (ne_beq k6) ?_
    by_cases z : k' = 3
    · rw [dec_yes z]; exact cond_not (by rw [eq_beq (show k = k' by omega)]; rfl) rfl
    · rw [dec_no z]; exact cond_run (by rw [ne_beq (show k ≠ k' by omega)]; rfl) rfl

theorem fitQ_nil (p : Option (List UInt8)) : fitQ [] p = fitR p := by cases p <;> rfl

theorem RFits_run {e : Nat} {t v : E} (ft : Ful 9 27 81 6 t) (fv : FulV 9 39 e v) (ht : Ty t) (hv : Val v) : RR none 59 [slotsOf t, slotsOf v] [] = some (fitR (fitsS 6 t v), []) := by
  have e1 := rfits_run 6 e t v [] (by simp) ft fv ht hv
  rw [fitQ_nil] at e1
  cases ht with
  | mk k mn mx os fs gs =>
  cases hv with
  | mk k' n' x ns vs =>
  refine run_of_body ((eq_RFits RR LL k mn mx os fs gs k' n' x ns vs).trans (callP e1 ?_))
  generalize fitsS 6 _ _ = w
  cases w <;> rfl

end Go.Proofs.YtghdhhmlmdohkaaGreatDoor
