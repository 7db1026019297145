/- The reference's Print, and schemas compared with themselves. -/
import Derived.Test.YtghdhhmlmdohkaaGreatDoorPb
import Derived.Test.YtghdhhmlmdohkaaGreatDoorSv
namespace Go.Proofs.YtghdhhmlmdohkaaGreatDoor
open Go Go.Den
set_option maxRecDepth 100000

theorem rbtext_run {w : List UInt8} {k mn mx lo hi : Int} {os fs gs : List E} (hw : w.length ≤ 100) (h0 : -9223372036854775807 ≤ mn ∧ mn ≤ 9223372036854775807) (h1 : -9223372036854775807 ≤ mx ∧ mx ≤ 9223372036854775807) :
    RR none 141 [str w, tyA k mn mx os fs gs, num lo, num hi] [] = some (.ret (str (if mn = lo ∧ mx = hi then w else w ++ [32] ++ bnd mn mx)), []) := by
  refine run_of_body ((eq_rbtext RR LL w k mn mx os fs gs lo hi).trans ?_)
  have a1 := itoa_len (n := mn) (by omega) (by omega)
  have a2 := itoa_len (n := mx) (by omega) (by omega)
  by_cases hc : mn = lo ∧ mx = hi
  · rw [if_pos hc]
    exact cond_run (by rw [hc.1, hc.2]; simp) rfl
  · rw [if_neg hc]
    refine cond_not ?_ (cond_run (small_dec (by omega)) (callT (Number_run (by omega) (by omega)) (cond_run (small_dec ?_) (cond_run (small_dec ?_) (callT (Number_run (by omega) (by omega)) (cond_run (small_dec ?_) ?_))))))
    · by_cases hm : mn = lo
      · rw [eq_beq hm, ne_beq (fun h => hc ⟨hm, h⟩)]; rfl
      · rw [ne_beq hm]; rfl
    · show (w ++ [32]).length + (Lib.itoa mn).length ≤ _
      simp only [List.length_append, List.length_cons, List.length_nil]; omega
    · show (w ++ [32] ++ Lib.itoa mn).length + 2 ≤ _
      simp only [List.length_append, List.length_cons, List.length_nil]; omega
    · show (w ++ [32] ++ Lib.itoa mn ++ [46, 46]).length + (Lib.itoa mx).length ≤ _
      simp only [List.length_append, List.length_cons, List.length_nil]; omega
    · show some (Res.ret (str (w ++ [32] ++ Lib.itoa mn ++ [46, 46] ++ Lib.itoa mx)), ([] : Heap)) = _
      unfold bnd
      simp only [List.append_assoc]

/-- Texts behind one another, the first behind s. -/
def sepU (c s : List UInt8) : List (List UInt8) → List UInt8
  | [] => []
  | t :: ts => s ++ t ++ sepU c c ts
theorem sepU_tail (c : List UInt8) : ∀ ts, sepU c c ts = Lib.joinTail c ts
  | [] => rfl
  | t :: ts => by
    show c ++ t ++ sepU c c ts = _
    rw [sepU_tail c ts]
    simp [Lib.joinTail]
theorem sepU_join (c : List UInt8) : ∀ ts, sepU c [] ts = Lib.join ts c
  | [] => rfl
  | t :: ts => by
    show [] ++ t ++ sepU c c ts = _
    rw [sepU_tail, Lib.join_cons]; rfl
def sepJ (c : List UInt8) (i : Nat) : List UInt8 := if i = 0 then [] else c

abbrev roF (t : List UInt8) (i : Nat) : Fr := (((List.replicate 101 AV.undef).set 1 (.ptr 0 0)).set 3 (.e (.str t))).set 4 (.e (.int .i64 (i : Int)))
abbrev rfF (t : List UInt8) (i : Nat) : Fr := (((List.replicate 101 AV.undef).set 1 (.ptr 0 0)).set 3 (.e (.str t))).set 5 (.e (.int .i64 (i : Int)))
def rtO (w : Nat) (t : List UInt8) : Out := { ex := .exit w, fr := [AV.undef, AV.undef, AV.undef, str t] ++ List.replicate 97 AV.undef, hp := [], df := [] }

theorem ropt_loop {k mn mx : Int} {os fs gs : List E} (hl : os.length ≤ 1000) : ∀ (j i : Nat) (t : List UInt8), i + j = os.length → t.length + (sepU [124] (sepJ [124] i) ((os.drop i).map nmE)).length ≤ 10000000000000 →
    LL 96 0 lc_96_13 (roF t i) [tyC k mn mx os fs gs] = some (rtO 1 (t ++ sepU [124] (sepJ [124] i) ((os.drop i).map nmE))) := by
  intro j
  induction j with
  | zero =>
    intro i t h _
    have : i = os.length := by omega
    subst this
    rw [List.drop_length]
    refine loop_of_body ((eq_rtextL13 RR LL t os.length k mn mx os fs gs).trans (cond_not (end_nat _) ?_))
    show some (rtO 1 t) = some (rtO 1 (t ++ []))
    rw [List.append_nil]
  | succ j ih =>
    intro i t h hb
    have hi : i < os.length := by omega
    rw [drop_getD hi, List.map_cons] at hb ⊢
    refine loop_of_body ((eq_rtextL13 RR LL t i k mn mx os fs gs).trans (cond_run (lt_nat hi) ?_))
    rw [at_nat, wrap_nat hi (by rw [maxLen_eq]; omega)]
    generalize os.getD i .nili = o at hb ⊢
    have next := fun t' ht => ih (i + 1) t' (by omega) ht
    rw [show sepJ [124] (i + 1) = [124] from rfl] at next
    generalize (os.drop (i + 1)).map nmE = ts at hb next ⊢
    change t.length + (sepJ [124] i ++ nmE o ++ sepU [124] [124] ts).length ≤ 10000000000000 at hb
    show _ = some (rtO 1 (t ++ (sepJ [124] i ++ nmE o ++ sepU [124] [124] ts)))
    by_cases h0 : i = 0
    · rw [show sepJ [124] i = [] from if_pos h0] at hb ⊢
      simp only [List.length_append, List.length_nil] at hb
      have n := next (t ++ nmE o) (by simp only [List.length_append]; omega)
      rw [List.append_assoc] at n
      exact cond_not (dec_no (by omega)) (cond_run (in_nat hi) (cond_run (small_dec (show t.length + (nmE o).length ≤ 50000000000000 by omega)) (bind_run n rfl)))
    · rw [show sepJ [124] i = [124] from if_neg h0] at hb ⊢
      simp only [List.length_append, List.length_cons, List.length_nil] at hb
      have n := next (t ++ [124] ++ nmE o) (by simp only [List.length_append, List.length_cons, List.length_nil]; omega)
      have e3 : t ++ [124] ++ nmE o ++ sepU [124] [124] ts = t ++ ([124] ++ nmE o ++ sepU [124] [124] ts) := by simp
      rw [e3] at n
      exact cond_run (dec_yes (by omega)) (cond_run (small_dec (by omega)) (cond_run (in_nat hi) (cond_run (small_dec (show (t ++ [124]).length + (nmE o).length ≤ 50000000000000 by simp only [List.length_append, List.length_cons, List.length_nil]; omega)) (bind_run n rfl))))

theorem rfld_loop {k mn mx : Int} {os fs gs : List E} {tx : E → List UInt8} (hl : gs.length ≤ 1000) (hf : ∀ g ∈ gs, RR none 96 [slotsF g] [] = some (.ret (str (tx (fieldTy g))), [])) :
    ∀ (j i : Nat) (t : List UInt8), i + j = gs.length → t.length + (sepU [44, 32] (sepJ [44, 32] i) ((gs.drop i).map (fldS tx))).length ≤ 10000000000000 →
    LL 96 0 lc_96_22 (rfF t i) [tyC k mn mx os fs gs] = some (rtO 3 (t ++ sepU [44, 32] (sepJ [44, 32] i) ((gs.drop i).map (fldS tx)))) := by
  intro j
  induction j with
  | zero =>
    intro i t h _
    have : i = gs.length := by omega
    subst this
    rw [List.drop_length]
    refine loop_of_body ((eq_rtextL22 RR LL t gs.length k mn mx os fs gs).trans (cond_not (end_nat _) ?_))
    show some (rtO 3 t) = some (rtO 3 (t ++ []))
    rw [List.append_nil]
  | succ j ih =>
    intro i t h hb
    have hi : i < gs.length := by omega
    have e1 := hf _ (getD_mem hi)
    rw [drop_getD hi, List.map_cons] at hb ⊢
    refine loop_of_body ((eq_rtextL22 RR LL t i k mn mx os fs gs).trans (cond_run (lt_nat hi) ?_))
    rw [at_nat, wrap_nat hi (by rw [maxLen_eq]; omega), in_nat hi]
    generalize gs.getD i .nili = g at hb e1 ⊢
    have next := fun t' ht => ih (i + 1) t' (by omega) ht
    rw [show sepJ [44, 32] (i + 1) = [44, 32] from rfl] at next
    generalize (gs.drop (i + 1)).map (fldS tx) = ts at hb next ⊢
    change t.length + (sepJ [44, 32] i ++ fldS tx g ++ sepU [44, 32] [44, 32] ts).length ≤ 10000000000000 at hb
    show _ = some (rtO 3 (t ++ (sepJ [44, 32] i ++ fldS tx g ++ sepU [44, 32] [44, 32] ts)))
    by_cases h0 : i = 0
    · rw [show sepJ [44, 32] i = [] from if_pos h0] at hb ⊢
      refine cond_not (dec_no (by omega)) ?_
      have fin : ∀ (p : List UInt8), p = t ++ nmE g ++ (if optF g = true then [63] else []) → p.length ≤ 10000000000000 →
          ((RR none 96 [slotsF g] []).bind fun rh => bif okHeap [] rh.2 then bif okRes PP 9 rh.1 then bif decide (2 + rh.1.val.data.toStr.length ≤ 9223372036854775807) then bif decide (p.length + ([58, 32] ++ rh.1.val.data.toStr).length ≤ 9223372036854775807) then
            (LL 96 0 lc_96_22 (rfF (p ++ ([58, 32] ++ rh.1.val.data.toStr)) (i + 1)) [tyC k mn mx os fs gs]).bind fun o => some o else none else none else none else none) = some (rtO 3 (t ++ ([] ++ fldS tx g ++ sepU [44, 32] [44, 32] ts))) := by
        rintro p hp hpl
        have hfl : fldS tx g = nmE g ++ (if optF g = true then [63] else []) ++ [58, 32] ++ tx (fieldTy g) := rfl
        rw [hfl] at hb ⊢
        have hp2 := congrArg List.length hp
        simp only [List.length_append, List.length_cons, List.length_nil] at hb hp2
        have n := next (p ++ ([58, 32] ++ tx (fieldTy g))) (by simp only [List.length_append, List.length_cons, List.length_nil]; omega)
        refine callT e1 (cond_run (small_dec (show 2 + (tx (fieldTy g)).length ≤ 50000000000000 by omega)) (cond_run (small_dec (show p.length + ([58, 32] ++ tx (fieldTy g)).length ≤ 50000000000000 by simp only [List.length_append, List.length_cons, List.length_nil]; omega)) (bind_run n ?_)))
        rw [hp]
        simp
      have hb' := hb
      have hfl : fldS tx g = nmE g ++ (if optF g = true then [63] else []) ++ [58, 32] ++ tx (fieldTy g) := rfl
      rw [hfl] at hb'
      simp only [List.length_append, List.length_cons, List.length_nil] at hb'
      refine cond_run rfl (cond_run (small_dec ?_) (cond_run rfl ?_))
      · show (t).length + (nmE g).length ≤ _
        first
          | omega
          | (simp only [List.length_append, List.length_cons, List.length_nil]; omega)
      cases ho : optF g with
      | true =>
        rw [ho] at hb' fin
        simp only [if_pos, List.length_cons, List.length_nil] at hb' fin
        refine cond_run ho (cond_run (small_dec (show (t ++ nmE g).length + 1 ≤ 50000000000000 by simp only [List.length_append, List.length_cons, List.length_nil]; omega)) (cond_run rfl (fin (t ++ nmE g ++ [63]) rfl ?_)))
        simp only [List.length_append, List.length_cons, List.length_nil]; omega
      | false =>
        rw [ho] at hb' fin
        refine cond_not ho (cond_run rfl (fin (t ++ nmE g) (by rw [if_neg (by decide), List.append_nil]) ?_))
        simp only [List.length_append, List.length_cons, List.length_nil]; omega
    · rw [show sepJ [44, 32] i = [44, 32] from if_neg h0] at hb ⊢
      refine cond_run (dec_yes (by omega)) ?_
      have fin : ∀ (p : List UInt8), p = t ++ [44, 32] ++ nmE g ++ (if optF g = true then [63] else []) → p.length ≤ 10000000000000 →
          ((RR none 96 [slotsF g] []).bind fun rh => bif okHeap [] rh.2 then bif okRes PP 9 rh.1 then bif decide (2 + rh.1.val.data.toStr.length ≤ 9223372036854775807) then bif decide (p.length + ([58, 32] ++ rh.1.val.data.toStr).length ≤ 9223372036854775807) then
            (LL 96 0 lc_96_22 (rfF (p ++ ([58, 32] ++ rh.1.val.data.toStr)) (i + 1)) [tyC k mn mx os fs gs]).bind fun o => some o else none else none else none else none) = some (rtO 3 (t ++ ([44, 32] ++ fldS tx g ++ sepU [44, 32] [44, 32] ts))) := by
        rintro p hp hpl
        have hfl : fldS tx g = nmE g ++ (if optF g = true then [63] else []) ++ [58, 32] ++ tx (fieldTy g) := rfl
        rw [hfl] at hb ⊢
        have hp2 := congrArg List.length hp
        simp only [List.length_append, List.length_cons, List.length_nil] at hb hp2
        have n := next (p ++ ([58, 32] ++ tx (fieldTy g))) (by simp only [List.length_append, List.length_cons, List.length_nil]; omega)
        refine callT e1 (cond_run (small_dec (show 2 + (tx (fieldTy g)).length ≤ 50000000000000 by omega)) (cond_run (small_dec (show p.length + ([58, 32] ++ tx (fieldTy g)).length ≤ 50000000000000 by simp only [List.length_append, List.length_cons, List.length_nil]; omega)) (bind_run n ?_)))
        rw [hp]
        simp
      have hb' := hb
      have hfl : fldS tx g = nmE g ++ (if optF g = true then [63] else []) ++ [58, 32] ++ tx (fieldTy g) := rfl
      rw [hfl] at hb'
      simp only [List.length_append, List.length_cons, List.length_nil] at hb'
      refine cond_run (small_dec (by omega)) (cond_run rfl (cond_run (small_dec ?_) (cond_run rfl ?_)))
      · show (t ++ [44, 32]).length + (nmE g).length ≤ _
        first
          | omega
          | (simp only [List.length_append, List.length_cons, List.length_nil]; omega)
      cases ho : optF g with
      | true =>
        rw [ho] at hb' fin
        simp only [if_pos, List.length_cons, List.length_nil] at hb' fin
        refine cond_run ho (cond_run (small_dec (show (t ++ [44, 32] ++ nmE g).length + 1 ≤ 50000000000000 by simp only [List.length_append, List.length_cons, List.length_nil]; omega)) (cond_run rfl (fin (t ++ [44, 32] ++ nmE g ++ [63]) rfl ?_)))
        simp only [List.length_append, List.length_cons, List.length_nil]; omega
      | false =>
        rw [ho] at hb' fin
        refine cond_not ho (cond_run rfl (fin (t ++ [44, 32] ++ nmE g) (by rw [if_neg (by decide), List.append_nil]) ?_))
        simp only [List.length_append, List.length_cons, List.length_nil]; omega

theorem rtext_run : ∀ (d : Nat) (x : E), Ful 9 27 81 d x → Ty x → (textS d x).length ≤ 10000000000000 → RR none 96 [slotsOf x] [] = some (.ret (str (textS d x)), [])
  | 0, _, h, _, _ => by cases h
  | d + 1, x, fx, hx, hb => by
    rcases fx with ⟨mn, mx, rfl, h1, h2, h3⟩ | ⟨mn, mx, rfl, h1, h2, h3⟩ | rfl | ⟨os, rfl, h1, h2, h3, h4⟩ | ⟨mn, mx, y, rfl, h1, h2, h3, h4⟩ | ⟨gs, rfl, h1, h2, h3⟩ | rfl
    · have e : textS (d + 1) (mkT 9 27 81 1 mn mx [] [] []) = if mn = -4611686018427387904 ∧ mx = 4611686018427387904 then [105, 110, 116] else [105, 110, 116] ++ [32] ++ bnd mn mx := rfl
      rw [e]
      exact run_of_body ((eq_rtext RR LL 1 mn mx [] [] []).trans (cond_run rfl (callT (rbtext_run (by decide) (by omega) (by omega)) rfl)))
    · have e : textS (d + 1) (mkT 9 27 81 2 mn mx [] [] []) = if mn = 0 ∧ mx = 256 then [116, 101, 120, 116] else [116, 101, 120, 116] ++ [32] ++ bnd mn mx := rfl
      rw [e]
      exact run_of_body ((eq_rtext RR LL 2 mn mx [] [] []).trans (cond_not rfl (cond_run rfl (callT (rbtext_run (by decide) (by omega) (by omega)) rfl))))
    · exact run_of_body ((eq_rtext RR LL 3 0 0 [] [] []).trans (cond_not rfl (cond_not rfl (cond_run rfl rfl))))
    · have e : textS (d + 1) (mkT 9 27 81 4 0 0 os [] []) = [101, 110, 117, 109, 40] ++ Lib.join (os.map nmE) [124] ++ [41] := rfl
      rw [e] at hb ⊢
      simp only [List.length_append, List.length_cons, List.length_nil] at hb
      have e1 := ropt_loop (k := 4) (mn := 0) (mx := 0) (os := os) (fs := []) (gs := []) (by omega) os.length 0 [] (by omega) (by
        rw [show sepJ [124] 0 = [] from rfl, sepU_join, List.drop_zero]; simp only [List.length_nil]; omega)
      rw [show sepJ [124] 0 = [] from rfl, sepU_join, List.drop_zero, List.nil_append] at e1
      refine run_of_body ((eq_rtext RR LL 4 0 0 os [] []).trans (cond_not rfl (cond_not rfl (cond_not rfl (cond_not rfl (cond_run rfl (bind_run e1 (cond_run rfl (cond_run (by kernel_rfl) (cond_run (small_dec ?_) (cond_run (small_dec ?_) rfl)))))))))))
      · show 5 + (Lib.join (os.map nmE) [124]).length ≤ _
        omega
      · show ([101, 110, 117, 109, 40] ++ Lib.join (os.map nmE) [124]).length + 1 ≤ _
        simp only [List.length_append, List.length_cons, List.length_nil]; omega
    · have e : textS (d + 1) (mkT 9 27 81 5 mn mx [] [y] []) = [108, 105, 115, 116, 32] ++ (Lib.itoa mn ++ [46, 46] ++ Lib.itoa mx) ++ [32, 111, 102, 32] ++ textS d y := rfl
      rw [e] at hb ⊢
      have a1 := itoa_len (n := mn) (by omega) (by omega)
      have a2 := itoa_len (n := mx) (by omega) (by omega)
      simp only [List.length_append, List.length_cons, List.length_nil] at hb
      have hy : Ty y := by
        cases hx with
        | mk k mn mx os fs gs ho hol hf hfl hg hgn hgl hk hmn hmx => exact hf y (by simp)
      have e1 := rtext_run d y h4 hy (by omega)
      rw [← slotsT_eq hy] at e1
      refine run_of_body ((eq_rtext RR LL 5 mn mx [] [y] []).trans (cond_not rfl (cond_not rfl (cond_not rfl (cond_not rfl (cond_not rfl (cond_run rfl (cond_run rfl (callT (Number_run (by omega) (by omega)) (cond_run (small_dec ?_) (cond_run (small_dec ?_) (callT (Number_run (by omega) (by omega)) (cond_run (small_dec ?_) (cond_run (small_dec ?_) (callT e1 (cond_run (small_dec ?_) ?_))))))))))))))))
      · show 5 + (Lib.itoa mn).length ≤ _
        omega
      · show ([108, 105, 115, 116, 32] ++ Lib.itoa mn).length + 2 ≤ _
        simp only [List.length_append, List.length_cons, List.length_nil]; omega
      · show ([108, 105, 115, 116, 32] ++ Lib.itoa mn ++ [46, 46]).length + (Lib.itoa mx).length ≤ _
        simp only [List.length_append, List.length_cons, List.length_nil]; omega
      · show ([108, 105, 115, 116, 32] ++ Lib.itoa mn ++ [46, 46] ++ Lib.itoa mx).length + 4 ≤ _
        simp only [List.length_append, List.length_cons, List.length_nil]; omega
      · show ([108, 105, 115, 116, 32] ++ Lib.itoa mn ++ [46, 46] ++ Lib.itoa mx ++ [32, 111, 102, 32]).length + (textS d y).length ≤ _
        simp only [List.length_append, List.length_cons, List.length_nil]; omega
      · show some (Res.ret (str ([108, 105, 115, 116, 32] ++ Lib.itoa mn ++ [46, 46] ++ Lib.itoa mx ++ [32, 111, 102, 32] ++ textS d y)), ([] : Heap)) = _
        simp only [List.append_assoc]
    · have e : textS (d + 1) (mkT 9 27 81 6 0 0 [] [] gs) = [123] ++ Lib.join (gs.map (fldS (textS d))) [44, 32] ++ [125] := rfl
      rw [e] at hb ⊢
      have j2 := join_mem2 (xs := gs.map (fldS (textS d))) (sep := [44, 32])
      simp only [List.length_append, List.length_cons, List.length_nil] at hb
      cases hx with
      | mk k mn mx os fs gs ho hol hf hfl hg hgn hgl hk hmn hmx =>
      have e1 := rfld_loop (k := 6) (mn := 0) (mx := 0) (os := []) (fs := []) (gs := gs) (tx := textS d) (by omega) (fun g hgm => by
        obtain ⟨n, o, y, rfl, _, _, hy⟩ := h3 g hgm
        have hlen := j2 _ (List.mem_map_of_mem (f := fldS (textS d)) hgm)
        rw [slotsF_eq (hg _ hgm) (hgn _ hgm)]
        refine rtext_run d _ (by rw [hy.fieldTy]; exact hy) (hg _ hgm) ?_
        have : (textS d (fieldTy (mkF n o y))).length ≤ (fldS (textS d) (mkF n o y)).length := by unfold fldS; simp only [List.length_append]; omega
        omega) gs.length 0 [] (by omega) (by
        rw [show sepJ [44, 32] 0 = [] from rfl, sepU_join, List.drop_zero]; simp only [List.length_nil]; omega)
      rw [show sepJ [44, 32] 0 = [] from rfl, sepU_join, List.drop_zero, List.nil_append] at e1
      refine run_of_body ((eq_rtext RR LL 6 0 0 [] [] gs).trans (cond_not rfl (cond_not rfl (cond_not rfl (cond_not rfl (cond_not rfl (cond_not rfl (bind_run e1 (cond_run rfl (cond_run (by kernel_rfl) (cond_run (small_dec ?_) (cond_run (small_dec ?_) rfl))))))))))))
      · show 1 + (Lib.join (gs.map (fldS (textS d))) [44, 32]).length ≤ _
        omega
      · show ([123] ++ Lib.join (gs.map (fldS (textS d))) [44, 32]).length + 1 ≤ _
        simp only [List.length_append, List.length_cons, List.length_nil]; omega
    · exact run_of_body ((eq_rtext RR LL 7 0 0 [] [] []).trans (cond_not rfl (cond_not rfl (cond_not rfl (cond_run rfl rfl)))))

/-! ### Same -/

abbrev saF (n : Nat) (i : Nat) : Fr := (((List.replicate 122 AV.undef).set 2 (.ptr 0 0)).set 3 (.ptr 1 0)).set n (.e (.int .i64 (i : Int)))
theorem sameT_loop4 {k mn mx : Int} {os fs gs : List E} (hl : fs.length ≤ maxLen) (hr : ∀ y ∈ fs, RR none 15 [slotsT y, slotsT y] [] = some (.ret (yes true), [])) : ∀ (j i : Nat), i + j = fs.length →
    LL 15 0 lc_15_4 (saF 5 i) [tyC k mn mx os fs gs, tyC k mn mx os fs gs] = some { ex := .exit 0, fr := [AV.undef, AV.undef, .ptr 0 0, .ptr 1 0] ++ List.replicate 118 AV.undef, hp := [tyC k mn mx os fs gs, tyC k mn mx os fs gs], df := [] } := by
  intro j
  induction j with
  | zero =>
    intro i h
    have : i = fs.length := by omega
    subst this
    exact loop_of_body ((eq_SameTL4 RR LL fs.length k mn mx os fs gs k mn mx os fs gs).trans (cond_not (end_nat _) rfl))
  | succ j ih =>
    intro i h
    have hi : i < fs.length := by omega
    have e := hr _ (getD_mem hi)
    refine loop_of_body ((eq_SameTL4 RR LL i k mn mx os fs gs k mn mx os fs gs).trans (cond_run (lt_nat hi) (cond_run (in_nat hi) (cond_run (in_nat hi) ?_))))
    rw [at_nat, wrap_nat hi hl]
    exact callB e (cond_not rfl (bind_run (ih (i + 1) (by omega)) rfl))
theorem sameT_loop9 {k mn mx : Int} {os fs gs : List E} (hl : gs.length ≤ maxLen) (hr : ∀ y ∈ gs, RR none 15 [slotsF y, slotsF y] [] = some (.ret (yes true), [])) : ∀ (j i : Nat), i + j = gs.length →
    LL 15 0 lc_15_9 (saF 6 i) [tyC k mn mx os fs gs, tyC k mn mx os fs gs] = some { ex := .exit 2, fr := List.replicate 122 AV.undef, hp := [], df := [] } := by
  intro j
  induction j with
  | zero =>
    intro i h
    have : i = gs.length := by omega
    subst this
    exact loop_of_body ((eq_SameTL9 RR LL gs.length k mn mx os fs gs k mn mx os fs gs).trans (cond_not (end_nat _) rfl))
  | succ j ih =>
    intro i h
    have hi : i < gs.length := by omega
    have e := hr _ (getD_mem hi)
    refine loop_of_body ((eq_SameTL9 RR LL i k mn mx os fs gs k mn mx os fs gs).trans (cond_run (lt_nat hi) (cond_run (in_nat hi) (cond_run (in_nat hi) (cond_run ?_ (cond_run (in_nat hi) (cond_run (in_nat hi) (cond_run ?_ (cond_run (in_nat hi) (cond_run (in_nat hi) ?_))))))))))
    · rw [strEq_self]; rfl
    · simp
    rw [at_nat, wrap_nat hi hl]
    exact callB e (cond_not rfl (bind_run (ih (i + 1) (by omega)) rfl))

theorem SameT_run {x : E} (h : Ty x) : RR none 15 [slotsOf x, slotsOf x] [] = some (.ret (yes true), []) := by
  induction h with
  | mk k mn mx os fs gs ho hol hf hfl hg hgn hgl hk hmn hmx ihf ihg =>
    have e4 := sameT_loop4 (k := k) (mn := mn) (mx := mx) (os := os) (gs := gs) hfl (fun y hy => by rw [slotsT_eq (hf y hy)]; exact ihf y hy) fs.length 0 (by omega)
    have e9 := sameT_loop9 (k := k) (mn := mn) (mx := mx) (os := os) (fs := fs) hgl (fun y hy => by rw [slotsF_eq (hg y hy) (hgn y hy)]; exact ihg y hy) gs.length 0 (by omega)
    refine run_of_body ((eq_SameT RR LL k mn mx os fs gs k mn mx os fs gs).trans (cond_run ?_ (callB (same_run hol) (cond_not ?_ (bind_run e4 (cond_run rfl (cond_run (by kernel_rfl) (bind_run e9 (cond_run rfl (cond_run (by kernel_rfl) rfl))))))))))
    · simp
    · simp

end Go.Proofs.YtghdhhmlmdohkaaGreatDoor
