/- The reference's Includes. -/
import Derived.Test.YtapndkailgcboaaGreatDoorIa
import Derived.Test.YtapndkailgcboaaGreatDoorIr
namespace Go.Proofs.YtapndkailgcboaaGreatDoor
open Go Go.Den
set_option maxRecDepth 100000

/-- The index of a field. -/
def idxF (gs : List E) (n : List UInt8) : Int := match gs.findIdx? (fun g => strEq (nmE g) n) with | some i => i | none => -1
theorem idxF_none {gs : List E} {n : List UInt8} (h : findF gs n = none) : idxF gs n = -1 := by
  unfold idxF
  have : gs.findIdx? (fun g => strEq (nmE g) n) = none := by
    rw [List.findIdx?_eq_none_iff]
    intro g hg
    have := findF_none h g hg
    rw [strEq_no]; exact this
  rw [this]
theorem idxF_some {gs : List E} {n : List UInt8} {g : E} (h : findF gs n = some g) : ∃ i : Nat, idxF gs n = i ∧ i < gs.length ∧ gs.getD i .nili = g := by
  unfold idxF
  cases hi : gs.findIdx? (fun g => strEq (nmE g) n) with
  | none =>
    rw [List.findIdx?_eq_none_iff] at hi
    obtain ⟨h1, h2⟩ := findF_some h
    have := hi g h1
    rw [strEq_no] at this
    exact absurd h2 this
  | some i =>
    obtain ⟨h1, h2, h3⟩ := List.findIdx?_eq_some_iff_getElem.1 hi
    refine ⟨i, rfl, h1, ?_⟩
    rw [getD_at h1]
    have : findF gs n = some gs[i] := by
      unfold findF
      rw [List.find?_eq_some_iff_getElem]
      exact ⟨h2, i, h1, rfl, fun j hj => by simpa using h3 j hj⟩
    rw [this] at h
    injection h

def rfOut (i : Nat) : Out := { ex := .ret, fr := [AV.undef, AV.undef, AV.undef, AV.undef, num i] ++ List.replicate 15 AV.undef, hp := [], df := [] }
theorem rfield_loop {gs : List E} {n : List UInt8} (hl : gs.length ≤ maxLen) : ∀ (j i : Nat), i + j = gs.length →
    LL 86 0 lc_86_2 ((((List.replicate 20 AV.undef).set 0 (.e (.sl 65 gs))).set 1 (.e (.str n))).set 5 (.e (.int .i64 (i : Int)))) [] =
      some (match (gs.drop i).findIdx? (fun g => strEq (nmE g) n) with | some k => rfOut (i + k) | none => { ex := .exit 0, fr := List.replicate 20 AV.undef, hp := [], df := [] }) := by
  intro j
  induction j with
  | zero =>
    intro i h
    have : i = gs.length := by omega
    subst this
    rw [List.drop_length]
    exact loop_of_body ((eq_rfieldL RR LL gs n gs.length).trans (cond_not (end_nat _) rfl))
  | succ j ih =>
    intro i h
    have hi : i < gs.length := by omega
    refine loop_of_body ((eq_rfieldL RR LL gs n i).trans (cond_run (lt_nat hi) (cond_run (in_nat hi) ?_)))
    rw [at_nat, drop_getD hi, List.findIdx?_cons]
    have e := ih (i + 1) (by omega)
    change (bif strEq (nmE (gs.getD i E.nili)) n then _ else _) = _
    cases hs : strEq (nmE (gs.getD i E.nili)) n with
    | true => exact cond_run rfl rfl
    | false =>
      refine cond_not rfl ?_
      rw [wrap_nat hi hl]
      refine bind_run e ?_
      cases (gs.drop (i + 1)).findIdx? (fun g => strEq (nmE g) n) with
      | none => rfl
      | some k =>
        show some (rfOut (i + 1 + k)) = some (rfOut (i + (k + 1)))
        rw [show i + 1 + k = i + (k + 1) by omega]

theorem rfield_run {gs : List E} {n : List UInt8} (hl : gs.length ≤ maxLen) : RR none 86 [.e (.sl 65 gs), str n] [] = some (.ret (num (idxF gs n)), []) := by
  have e1 := rfield_loop (n := n) hl gs.length 0 (by omega)
  rw [List.drop_zero] at e1
  refine run_of_body ((eq_rfield RR LL gs n).trans ?_)
  unfold idxF
  cases h : gs.findIdx? (fun g => strEq (nmE g) n) with
  | none => rw [h] at e1; exact bind_run e1 (cond_run rfl (cond_run (by kernel_rfl) rfl))
  | some k =>
    rw [h] at e1
    refine bind_run e1 (cond_not rfl (cond_run rfl (cond_run rfl ?_)))
    show some (Res.ret (num ((0 + k : Nat) : Int)), ([] : Heap)) = _
    rw [Nat.zero_add]

theorem records2 {gsa gsb : List E} {inc : E → E → Bool} (hla : gsa.length ≤ maxLen) (hlb : gsb.length ≤ maxLen) (ha : FOk gsa) (hb : FOk gsb)
    (hinc : ∀ g ∈ gsa, ∀ f ∈ gsb, RR none 40 [slotsOf (fieldTy g), slotsOf (fieldTy f)] [] = some (.ret (yes (inc (fieldTy g) (fieldTy f))), [])) :
    LL 69 0 lc_69_2 ((((List.replicate 68 AV.undef).set 0 (.e (.sl 65 gsa))).set 1 (.e (.sl 65 gsb))).set 5 (.e (.int .i64 ((0 : Nat) : Int)))) [] =
      some (bif gsb.all (p1S inc gsa) then { ex := .exit 0, fr := [.e (.sl 65 gsa), .e (.sl 65 gsb)] ++ List.replicate 66 AV.undef, hp := [], df := [] }
        else { ex := .ret, fr := [AV.undef, AV.undef, AV.undef, AV.undef, yes false] ++ List.replicate 63 AV.undef, hp := [], df := [] }) := by
  have step : ∀ i, i < gsb.length → ∀ o, (p1S inc gsa (gsb.getD i .nili) = true → LL 69 0 lc_69_2 ((((List.replicate 68 AV.undef).set 0 (.e (.sl 65 gsa))).set 1 (.e (.sl 65 gsb))).set 5 (.e (.int .i64 ((i + 1 : Nat) : Int)))) [] = some o) →
      (p1S inc gsa (gsb.getD i .nili) = false → o = { ex := .ret, fr := [AV.undef, AV.undef, AV.undef, AV.undef, yes false] ++ List.replicate 63 AV.undef, hp := [], df := [] }) →
      LL 69 0 lc_69_2 ((((List.replicate 68 AV.undef).set 0 (.e (.sl 65 gsa))).set 1 (.e (.sl 65 gsb))).set 5 (.e (.int .i64 (i : Int)))) [] = some o := by
    intro i hi o hy hn
    refine loop_of_body ((eq_recordsL2 RR LL gsa gsb i).trans (cond_run (lt_nat hi) (cond_run (in_nat hi) (callN (rfield_run hla) ?_))))
    rw [at_nat, wrap_nat hi hlb]
    have hf := getD_mem hi
    have hi2 := hinc
    revert hy hn
    have hfx := hb.at hf
    generalize gsb.getD i E.nili = f at hf hfx ⊢
    intro hy hn
    unfold p1S at hy hn
    change (bif decide (idxF gsa (nmE f) < 0) == false then bif decide (0 ≤ idxF gsa (nmE f)) && decide (idxF gsa (nmE f) < (gsa.length : Int)) then _ else _ else _) = _
    cases hg : findF gsa (nmE f) with
    | none =>
      rw [hg] at hn
      rw [hn rfl]
      rw [idxF_none hg]
      exact cond_not rfl rfl
    | some g =>
      rw [hg] at hn hy
      obtain ⟨k, k1, k2, k3⟩ := idxF_some hg
      obtain ⟨g1, g2⟩ := findF_some hg
      have e1 := hi2 g g1 f hf
      refine cond_run (by rw [k1, dec_no (show ¬ (k : Int) < 0 by omega)]; rfl) (cond_run (by rw [k1]; exact in_nat k2) (cond_run (in_nat hi) ?_))
      have hk : (Res.ret (num (idxF gsa (f.cell 0).toStr))).val.data.toInt.toNat = k := by
        show (idxF gsa (nmE f)).toNat = k
        rw [k1, at_nat]
      rw [hk, k3]
      obtain ⟨_, _, _, _, _, _, _, _, hgx, _⟩ := ha.at g1
      obtain ⟨_, _, _, _, _, _, _, _, hfx, _⟩ := hfx
      clear hk k3 k1 hg g2
      subst hgx
      subst hfx
      refine callB e1 ?_
      cases hv : inc _ _ with
      | true => exact cond_not rfl (bind_run (hy hv) rfl)
      | false => rw [hn hv]; exact cond_run rfl rfl
  refine loop_all (F := fun i => LL 69 0 lc_69_2 ((((List.replicate 68 AV.undef).set 0 (.e (.sl 65 gsa))).set 1 (.e (.sl 65 gsb))).set 5 (.e (.int .i64 (i : Int)))) []) ?_ ?_ ?_
  · exact loop_of_body ((eq_recordsL2 RR LL gsa gsb gsb.length).trans (cond_not (end_nat _) rfl))
  · intro i hi hp
    exact step i hi _ (fun h => by rw [hp] at h; cases h) (fun _ => rfl)
  · intro i hi hp o ho
    exact step i hi o (fun _ => ho) (fun h => by rw [hp] at h; cases h)

theorem records8 {gsa gsb : List E} (hla : gsa.length ≤ maxLen) (hlb : gsb.length ≤ maxLen) :
    LL 69 0 lc_69_8 ((((List.replicate 68 AV.undef).set 0 (.e (.sl 65 gsa))).set 1 (.e (.sl 65 gsb))).set 7 (.e (.int .i64 ((0 : Nat) : Int)))) [] = some (outY 63 2 (gsa.all (p2S gsb))) := by
  have step : ∀ i, i < gsa.length → ∀ o, (p2S gsb (gsa.getD i .nili) = true → LL 69 0 lc_69_8 ((((List.replicate 68 AV.undef).set 0 (.e (.sl 65 gsa))).set 1 (.e (.sl 65 gsb))).set 7 (.e (.int .i64 ((i + 1 : Nat) : Int)))) [] = some o) →
      (p2S gsb (gsa.getD i .nili) = false → o = { ex := .ret, fr := [AV.undef, AV.undef, AV.undef, AV.undef, yes false] ++ List.replicate 63 AV.undef, hp := [], df := [] }) →
      LL 69 0 lc_69_8 ((((List.replicate 68 AV.undef).set 0 (.e (.sl 65 gsa))).set 1 (.e (.sl 65 gsb))).set 7 (.e (.int .i64 (i : Int)))) [] = some o := by
    intro i hi o hy hn
    refine loop_of_body ((eq_recordsL8 RR LL gsa gsb i).trans (cond_run (lt_nat hi) (cond_run (in_nat hi) (callN (rfield_run hlb) (cond_run (in_nat hi) ?_)))))
    rw [at_nat, wrap_nat hi hla]
    generalize gsa.getD i E.nili = g at hy hn ⊢
    unfold p2S at hy hn
    change (bif (!optF g) == true then bif decide (idxF gsb (nmE g) < 0) == false then bif decide (0 ≤ idxF gsb (nmE g)) && decide (idxF gsb (nmE g) < (gsb.length : Int)) then _ else _ else _ else _) = _
    cases ho : optF g with
    | true =>
      rw [ho] at hy
      exact cond_not rfl (bind_run (hy rfl) rfl)
    | false =>
      rw [ho] at hy hn
      refine cond_run rfl ?_
      cases hf : findF gsb (nmE g) with
      | none =>
        rw [hf] at hn
        rw [hn rfl, idxF_none hf]
        exact cond_not rfl rfl
      | some f =>
        rw [hf] at hn hy
        obtain ⟨k, k1, k2, k3⟩ := idxF_some hf
        refine cond_run (by rw [k1, dec_no (show ¬ (k : Int) < 0 by omega)]; rfl) (cond_run (by rw [k1]; exact in_nat k2) ?_)
        have hk : (Res.ret (num (idxF gsb (g.cell 0).toStr))).val.data.toInt.toNat = k := by
          show (idxF gsb (nmE g)).toNat = k
          rw [k1, at_nat]
        rw [hk, k3]
        change (bif optF f then _ else _) = _
        cases hv : optF f with
        | true =>
          have hn' : (!optF f) = false → _ := hn
          rw [hv] at hn'
          rw [hn' rfl]; exact cond_run rfl rfl
        | false =>
          have hy' : (!optF f) = true → _ := hy
          rw [hv] at hy'
          exact cond_not rfl (bind_run (hy' rfl) rfl)
  refine loop_all (F := fun i => LL 69 0 lc_69_8 ((((List.replicate 68 AV.undef).set 0 (.e (.sl 65 gsa))).set 1 (.e (.sl 65 gsb))).set 7 (.e (.int .i64 (i : Int)))) []) ?_ ?_ ?_
  · exact loop_of_body ((eq_recordsL8 RR LL gsa gsb gsa.length).trans (cond_not (end_nat _) rfl))
  · intro i hi hp
    exact step i hi _ (fun h => by rw [hp] at h; cases h) (fun _ => rfl)
  · intro i hi hp o ho
    exact step i hi o (fun _ => ho) (fun h => by rw [hp] at h; cases h)

theorem records_run {gsa gsb : List E} {inc : E → E → Bool} (hla : gsa.length ≤ maxLen) (hlb : gsb.length ≤ maxLen) (ha : FOk gsa) (hb : FOk gsb)
    (hinc : ∀ g ∈ gsa, ∀ f ∈ gsb, RR none 40 [slotsOf (fieldTy g), slotsOf (fieldTy f)] [] = some (.ret (yes (inc (fieldTy g) (fieldTy f))), [])) :
    RR none 69 [.e (.sl 65 gsa), .e (.sl 65 gsb)] [] = some (.ret (yes (gsb.all (p1S inc gsa) && gsa.all (p2S gsb))), []) := by
  have e2 := records2 hla hlb ha hb hinc
  have e9 := records8 hla hlb
  refine run_of_body ((eq_records RR LL gsa gsb).trans ?_)
  cases h : gsb.all (p1S inc gsa) with
  | false =>
    rw [h] at e2
    exact bind_run e2 (cond_not rfl (cond_run rfl (cond_run (by kernel_rfl) rfl)))
  | true =>
    rw [h] at e2
    refine bind_run e2 (cond_run rfl (cond_run rfl ?_))
    cases h9 : gsa.all (p2S gsb) with
    | true => rw [h9] at e9; exact bind_run e9 (cond_run rfl (cond_run (by kernel_rfl) rfl))
    | false => rw [h9] at e9; exact bind_run e9 (cond_not rfl (cond_run rfl (cond_run (by kernel_rfl) rfl)))

theorem covers_loop {k mn mx : Int} {os fs gs l : List E} (hl : l.length ≤ maxLen) :
    LL 67 0 lc_67_2 ((((List.replicate 30 AV.undef).set 1 (.e (.sl 9 l))).set 2 (.ptr 0 0)).set 5 (.e (.int .i64 ((0 : Nat) : Int)))) [tyC k mn mx os fs gs] =
      some (outY 25 0 (l.all fun s => decide (mn ≤ (nmE s).length) && decide (((nmE s).length : Int) ≤ mx))) := by
  refine loop_all (F := fun i => LL 67 0 lc_67_2 ((((List.replicate 30 AV.undef).set 1 (.e (.sl 9 l))).set 2 (.ptr 0 0)).set 5 (.e (.int .i64 (i : Int)))) [tyC k mn mx os fs gs]) ?_ ?_ ?_
  · exact loop_of_body ((eq_coversL RR LL l l.length k mn mx os fs gs).trans (cond_not (end_nat _) rfl))
  · intro i hi hp
    refine loop_of_body ((eq_coversL RR LL l i k mn mx os fs gs).trans (cond_run (lt_nat hi) (cond_run (in_nat hi) ?_)))
    rw [at_nat]
    change (bif decide (((nmE (l.getD i E.nili)).length : Int) < mn) == false then bif _ then bif decide (mx < ((nmE (l.getD i E.nili)).length : Int)) then _ else _ else _ else _) = _
    simp only [Bool.and_eq_false_iff, decide_eq_false_iff_not] at hp
    by_cases hm : ((nmE (l.getD i E.nili)).length : Int) < mn
    · rw [dec_yes hm]; exact cond_not rfl rfl
    · rw [dec_no hm]
      exact cond_run rfl (cond_run (in_nat hi) (cond_run (dec_yes (by omega)) rfl))
  · intro i hi hp o ho
    refine loop_of_body ((eq_coversL RR LL l i k mn mx os fs gs).trans (cond_run (lt_nat hi) (cond_run (in_nat hi) ?_)))
    rw [at_nat, wrap_nat hi hl]
    change (bif decide (((nmE (l.getD i E.nili)).length : Int) < mn) == false then bif _ then bif decide (mx < ((nmE (l.getD i E.nili)).length : Int)) then _ else _ else _ else _) = _
    simp only [Bool.and_eq_true, decide_eq_true_eq] at hp
    rw [dec_no (show ¬ ((nmE (l.getD i E.nili)).length : Int) < mn by omega)]
    exact cond_run rfl (cond_run (in_nat hi) (cond_not (dec_no (by omega)) (bind_run ho rfl)))

theorem covers_run {k mn mx : Int} {os fs gs l : List E} (hl : l.length ≤ maxLen) : RR none 67 [tyA k mn mx os fs gs, .e (.sl 9 l)] [] = some (.ret (yes (l.all fun s => decide (mn ≤ (nmE s).length) && decide (((nmE s).length : Int) ≤ mx))), []) :=
  run_of_body ((eq_covers RR LL k mn mx os fs gs l).trans (behindY (covers_loop hl) rfl (by kernel_rfl) (by kernel_rfl)))

theorem rinc13 {k mn mx k' mn' mx' : Int} {os fs gs l fs' gs' : List E} (hl : l.length ≤ maxLen) (ho : os.length ≤ maxLen) :
    LL 40 0 lc_40_13 ((((List.replicate 92 AV.undef).set 2 (.ptr 0 0)).set 3 (.ptr 1 0)).set 5 (.e (.int .i64 ((0 : Nat) : Int)))) [tyC k mn mx os fs gs, tyC k' mn' mx' l fs' gs'] =
      some (outY 87 1 (l.all fun s => hasS os (nmE s))) := by
  refine loop_all (F := fun i => LL 40 0 lc_40_13 ((((List.replicate 92 AV.undef).set 2 (.ptr 0 0)).set 3 (.ptr 1 0)).set 5 (.e (.int .i64 (i : Int)))) [tyC k mn mx os fs gs, tyC k' mn' mx' l fs' gs']) ?_ ?_ ?_
  · exact loop_of_body ((eq_RIncludesL13 RR LL l.length k mn mx os fs gs k' mn' mx' l fs' gs').trans (cond_not (end_nat _) rfl))
  · intro i hi hp
    refine loop_of_body ((eq_RIncludesL13 RR LL i k mn mx os fs gs k' mn' mx' l fs' gs').trans (cond_run (lt_nat hi) (cond_run (in_nat hi) (callB (rhas_run ho) ?_))))
    rw [at_nat]
    change (bif !(hasS os (nmE (l.getD i E.nili))) then _ else _) = _
    rw [hp]
    exact cond_run rfl rfl
  · intro i hi hp o ho'
    refine loop_of_body ((eq_RIncludesL13 RR LL i k mn mx os fs gs k' mn' mx' l fs' gs').trans (cond_run (lt_nat hi) (cond_run (in_nat hi) (callB (rhas_run ho) ?_))))
    rw [at_nat, wrap_nat hi hl]
    change (bif !(hasS os (nmE (l.getD i E.nili))) then _ else _) = _
    rw [hp]
    exact cond_not rfl (bind_run ho' rfl)

theorem range_ins {mn mx mn' mx' : Int} (h : mn' ≤ mx') : (rangeS mn' mx' mn mx == 0) = (decide (mn ≤ mn') && decide (mx' ≤ mx)) := by
  unfold rangeS
  by_cases h1 : mn ≤ mn'
  · by_cases h2 : mx' ≤ mx
    · rw [if_pos ⟨h1, h, h2⟩, dec_yes h1, dec_yes h2]; rfl
    · rw [if_neg (by omega), dec_yes h1, dec_no h2]; rfl
  · rw [if_neg (by omega), dec_no h1]; rfl

theorem RIncludes_run : ∀ (d : Nat) (a b : E), okT d a → okT d b → Ty a → Ty b → RR none 40 [slotsOf a, slotsOf b] [] = some (.ret (yes (incS d a b)), [])
  | 0, _, _, h, _, _, _ => by cases h
  | d + 1, a, b, oa, ob, ha, hb => by
    obtain ⟨a1, a2, a3, a4, a5, a6⟩ := oa
    obtain ⟨b1, b2, b3, b4, b5, b6⟩ := ob
    cases ha with
    | mk k mn mx os fs gs ho hol hf hfl hg hgn hgl hk hmn hmx =>
    cases hb with
    | mk k' mn' mx' os' fs' gs' ho' hol' hf' hfl' hg' hgn' hgl' hk' hmn' hmx' =>
    rw [incS_at]
    change 1 ≤ k at a1; change k ≤ 7 at a2; change k = 5 → _ at a5; change k = 6 → _ at a6
    change 1 ≤ k' at b1; change k' ≤ 7 at b2; change k' = 5 → _ at b5; change k' = 6 → _ at b6
    change k' = 1 → mn' ≤ mx' at b3; change k' = 2 → 0 ≤ mn' ∧ mn' ≤ mx' ∧ mx' ≤ 256 at b4
    change RR none 40 [tyA k mn mx os fs gs, tyA k' mn' mx' os' fs' gs'] [] = some (.ret (yes (if k = 7 then true
      else if k = 2 ∧ k' = 4 then os'.all fun s => decide (mn ≤ (nmE s).length) && decide (((nmE s).length : Int) ≤ mx)
      else if k ≠ k' then false
      else if k = 1 ∨ k = 2 then decide (mn ≤ mn') && decide (mx' ≤ mx)
      else if k = 4 then os'.all fun s => hasS os (nmE s)
      else if k = 5 then (decide (mn ≤ mn') && decide (mx' ≤ mx)) && (decide (mx' = 0) || incS d (fs.getD 0 .nili) (fs'.getD 0 .nili))
      else if k = 6 then gs'.all (p1S (incS d) gs) && gs.all (p2S gs')
      else true)), [])
    refine run_of_body ((eq_RIncludes RR LL k mn mx os fs gs k' mn' mx' os' fs' gs').trans ?_)
    by_cases k7 : k = 7
    · rw [if_pos k7]; exact cond_run (eq_beq k7) rfl
    rw [if_neg k7]
    refine cond_not (ne_beq k7) ?_
    by_cases k24 : k = 2 ∧ k' = 4
    · rw [if_pos k24]
      exact cond_run (and2_yes (eq_beq k24.1) (eq_beq k24.2)) (callB (covers_run hol') rfl)
    rw [if_neg k24]
    refine cond_not (and2_no (by by_cases h : k = 2; exact .inr (ne_beq (fun h' => k24 ⟨h, h'⟩)); exact .inl (ne_beq h))) ?_
    by_cases kk : k = k'
    · rw [if_neg (by simpa using kk)]
      refine cond_not (by rw [eq_beq kk]; rfl) ?_
      by_cases k1 : k = 1
      · rw [if_pos (.inl k1), ← range_ins (b3 (by omega))]
        exact cond_run (eq_beq k1) (cond_run (eq_beq k1) (callB (rwithin_run _ _ _ _) rfl))
      · refine cond_not (ne_beq k1) ?_
        by_cases k2 : k = 2
        · rw [if_pos (.inr k2), ← range_ins (b4 (by omega)).2.1]
          exact cond_run (eq_beq k2) (callB (rwithin_run _ _ _ _) rfl)
        · rw [if_neg (by omega)]
          refine cond_not (ne_beq k2) ?_
          by_cases k4 : k = 4
          · rw [if_pos k4]
            exact cond_run (eq_beq k4) (behindY (rinc13 hol' hol) rfl (by kernel_rfl) (by kernel_rfl))
          rw [if_neg k4]
          refine cond_not (ne_beq k4) ?_
          by_cases k5 : k = 5
          · rw [if_pos k5]
            have q5 := a5 k5
            have r5 := b5 (by omega)
            rw [← range_ins (show mn' ≤ mx' from r5.2.1)]
            refine cond_run (eq_beq k5) (callB (rwithin_run _ _ _ _) ?_)
            change (bif (rangeS mn' mx' mn mx == 0) == true then _ else _) = _
            cases hin : (rangeS mn' mx' mn mx == 0) with
            | false => exact cond_not rfl rfl
            | true =>
              refine cond_run rfl ?_
              by_cases hz : mx' = 0
              · rw [dec_yes hz, eq_beq hz]
                exact cond_not rfl rfl
              · rw [dec_no hz, ne_beq hz]
                have l1 : fs.length = 1 := q5.2.2.2.1
                have l2 : fs'.length = 1 := r5.2.2.2.1
                refine cond_run rfl (cond_run (dec_yes (by omega)) (cond_run (dec_yes (by omega)) ?_))
                have m1 : fs.getD 0 .nili ∈ fs := getD_mem (by omega)
                have m2 : fs'.getD 0 .nili ∈ fs' := getD_mem (by omega)
                have e1 := RIncludes_run d (fs.getD 0 .nili) (fs'.getD 0 .nili) q5.2.2.2.2 r5.2.2.2.2 (hf _ m1) (hf' _ m2)
                have t1 := hf _ m1
                have t2 := hf' _ m2
                generalize fs.getD 0 E.nili = x at e1 t1 ⊢
                generalize fs'.getD 0 E.nili = y at e1 t2 ⊢
                cases t1
                cases t2
                refine callB e1 ?_
                simp
          rw [if_neg k5]
          refine cond_not (ne_beq k5) ?_
          by_cases k6 : k = 6
          · rw [if_pos k6]
            have q6 := a6 k6
            have r6 := b6 (by omega)
            exact cond_run (eq_beq k6) (callB (records_run hgl hgl' (fun g h => ⟨hg g h, hgn g h⟩) (fun g h => ⟨hg' g h, hgn' g h⟩) (fun g h f h' => RIncludes_run d _ _ (q6.2 g h) (r6.2 f h') (hg g h) (hg' f h'))) rfl)
          rw [if_neg k6]
          exact cond_not (ne_beq k6) rfl
    · rw [if_pos kk]
      exact cond_run (by rw [ne_beq kk]; rfl) rfl

end Go.Proofs.YtapndkailgcboaaGreatDoor
