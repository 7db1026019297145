/- The program's Print. -/
import Derived.Test.YtghdhhmlmdohkaaGreatDoorPa
import Derived.Test.YtghdhhmlmdohkaaGreatDoorNu
import Derived.Test.YtghdhhmlmdohkaaGreatDoorPn
namespace Go.Proofs.YtghdhhmlmdohkaaGreatDoor
open Go Go.Den
set_option maxRecDepth 100000

def bnd (mn mx : Int) : List UInt8 := Lib.itoa mn ++ [46, 46] ++ Lib.itoa mx
theorem bnd_len {mn mx : Int} (h0 : -9223372036854775807 ≤ mn ∧ mn ≤ 9223372036854775807) (h1 : -9223372036854775807 ≤ mx ∧ mx ≤ 9223372036854775807) : (bnd mn mx).length ≤ 42 := by
  have a1 := itoa_len (n := mn) (by omega) (by omega)
  have a2 := itoa_len (n := mx) (by omega) (by omega)
  unfold bnd
  simp only [List.length_append, List.length_cons, List.length_nil]
  omega
theorem small_dec {n : Nat} (h : n ≤ 50000000000000) : decide (n ≤ 9223372036854775807) = true := by simp; omega
theorem btext_run {k mn mx : Int} {os fs gs : List E} (h0 : -9223372036854775807 ≤ mn ∧ mn ≤ 9223372036854775807) (h1 : -9223372036854775807 ≤ mx ∧ mx ≤ 9223372036854775807) : RR none 97 [tyA k mn mx os fs gs] [] = some (.ret (str (bnd mn mx)), []) := by
  have a1 := itoa_len (n := mn) (by omega) (by omega)
  have a2 := itoa_len (n := mx) (by omega) (by omega)
  refine run_of_body ((eq_btext RR LL k mn mx os fs gs).trans (cond_run (and_yes (dec_yes (by omega)) (dec_yes (by omega))) (cond_run (small_dec (by omega)) (cond_run (and_yes (dec_yes (by omega)) (dec_yes (by omega))) (cond_run (small_dec ?_) rfl)))))
  simp only [List.length_append, List.length_cons, List.length_nil]
  omega

theorem elemS (x : List UInt8) : elems PP 9 1 1 [E.str x].reverse = [E.str x] := by kernel_rfl
abbrev txF (acc gs : List E) (i : Nat) : Fr := ((((List.replicate 84 AV.undef).set 3 (.own 0 9 acc)).set 59 (.e (.sl 81 gs))).set 60 (.e (.int .i64 (gs.length : Int)))).set 61 (.e (.int .i64 (i : Int)))
def txO (ts : List E) : Out := { ex := .exit 1, fr := [AV.undef, AV.undef, AV.undef, .own 0 9 ts] ++ List.replicate 80 AV.undef, hp := [.vec 9 ts.length], df := [] }

theorem text_loop {gs : List E} {tx : E → List UInt8} (hl : gs.length ≤ 16) (ht : ∀ g ∈ gs, Ty (fieldTy g)) (hn : ∀ x ∈ gs, ∃ n op cs, x = .agg (.str n :: .bool op :: cs) ∧ n.length ≤ maxLen)
    (hf : ∀ g ∈ gs, RR none 50 [slotsF g] [] = some (.ret (str (tx (fieldTy g))), []) ∧ (fldS tx g).length ≤ 10000000000000) :
    ∀ (j i : Nat) (acc : List E), i + j = gs.length → acc.length + j ≤ 100 → LL 50 0 lc_50_19 (txF acc gs i) [.vec 9 acc.length] = some (txO (acc ++ (gs.drop i).map fun g => E.str (fldS tx g))) := by
  intro j
  induction j with
  | zero =>
    intro i acc h _
    have : i = gs.length := by omega
    subst this
    rw [List.drop_length, List.map_nil, List.append_nil]
    exact loop_of_body ((eq_textL19 RR LL acc gs gs.length gs.length).trans (cond_not (end_nat _) rfl))
  | succ j ih =>
    intro i acc h ha
    have hi : i < gs.length := by omega
    obtain ⟨e1, hlen⟩ := hf _ (getD_mem hi)
    refine loop_of_body ((eq_textL19 RR LL acc gs gs.length i).trans (cond_run (lt_nat hi) (cond_run (in_nat hi) ?_)))
    rw [drop_getD hi, at_nat, wrap_nat hi (by rw [maxLen_eq]; omega)]
    generalize gs.getD i .nili = g at e1 hlen ⊢
    have next := ih (i + 1) (acc ++ [E.str (fldS tx g)]) (by omega) (by simp; omega)
    rw [List.append_assoc] at next
    cases ho : optF g with
    | true =>
      have e : fldS tx g = nmE g ++ [63] ++ [58, 32] ++ tx (fieldTy g) := by unfold fldS; rw [ho, if_pos rfl]
      rw [e] at hlen next
      simp only [List.length_append, List.length_cons, List.length_nil] at hlen
      have k1 : (nmE g).length + 1 ≤ 50000000000000 := by omega
      have k2 : (nmE g ++ [63]).length + 2 ≤ 50000000000000 := by simp only [List.length_append, List.length_cons, List.length_nil]; omega
      have k3 : (nmE g ++ [63] ++ [58, 32]).length + (tx (fieldTy g)).length ≤ 50000000000000 := by simp only [List.length_append, List.length_cons, List.length_nil]; omega
      refine cond_run ho (cond_run (small_dec k1) (cond_run (small_dec k2) (callT e1 (cond_run (small_dec k3) ?_))))
      rw [elemS]
      refine cond_run ?_ (bind_run ?_ rfl)
      · show (decide (acc.length = acc.length) && decide ((acc.length + 1) * 16 ≤ 140737488355328)) = true
        simp; omega
      · rw [List.map_cons, e]; exact next
    | false =>
      have e : fldS tx g = nmE g ++ [] ++ [58, 32] ++ tx (fieldTy g) := by unfold fldS; rw [ho, if_neg (by decide)]
      rw [e] at hlen next
      simp only [List.length_append, List.length_cons, List.length_nil] at hlen
      have k1 : (nmE g).length + 0 ≤ 50000000000000 := by omega
      have k2 : (nmE g ++ []).length + 2 ≤ 50000000000000 := by simp only [List.length_append, List.length_nil]; omega
      have k3 : (nmE g ++ [] ++ [58, 32]).length + (tx (fieldTy g)).length ≤ 50000000000000 := by simp only [List.length_append, List.length_cons, List.length_nil]; omega
      refine cond_not ho (cond_run (small_dec k1) (cond_run (small_dec k2) (callT e1 (cond_run (small_dec k3) ?_))))
      rw [elemS]
      refine cond_run ?_ (bind_run ?_ rfl)
      · show (decide (acc.length = acc.length) && decide ((acc.length + 1) * 16 ≤ 140737488355328)) = true
        simp; omega
      · rw [List.map_cons, e]; exact next

theorem strs_all {os : List E} (h : ∀ o ∈ os, ∃ n, o = .str n ∧ NameOk n ∧ n.length ≤ 16) : os.all isStr = true ∧ os.map E.toStr = os.map nmE := by
  constructor
  · rw [List.all_eq_true]
    intro o ho
    obtain ⟨n, rfl, _⟩ := h o ho
    rfl
  · refine List.map_congr_left fun o ho => ?_
    obtain ⟨n, rfl, _⟩ := h o ho
    rfl
theorem join_dec {os : List E} {ts : List (List UInt8)} {sep : List UInt8} (ha : os.all isStr = true) (hl : os.length ≤ 1000) (he : os.map E.toStr = ts) (hj : (Lib.join ts sep).length ≤ 50000000000000) :
    (os.all isStr && decide (os.length ≤ 140737488355328) && decide ((Lib.join (os.map E.toStr) sep).length ≤ 140737488355328)) = true := by
  rw [ha, he]; simp; omega

theorem join_mem2 {xs : List (List UInt8)} {sep : List UInt8} : ∀ x ∈ xs, x.length ≤ (Lib.join xs sep).length := by
  cases xs with
  | nil => simp
  | cons y xs =>
    intro x hx
    have e := Lib.join_length y xs sep
    have := lens_mem hx
    rw [e]; omega

theorem text_run : ∀ (d : Nat) (x : E), Ful 9 27 81 d x → Ty x → (textS d x).length ≤ 10000000000000 → RR none 50 [slotsOf x] [] = some (.ret (str (textS d x)), [])
  | 0, _, h, _, _ => by cases h
  | d + 1, x, fx, hx, hb => by
    rcases fx with ⟨mn, mx, rfl, h1, h2, h3⟩ | ⟨mn, mx, rfl, h1, h2, h3⟩ | rfl | ⟨os, rfl, h1, h2, h3, h4⟩ | ⟨mn, mx, y, rfl, h1, h2, h3, h4⟩ | ⟨gs, rfl, h1, h2, h3⟩ | rfl
    · have e : textS (d + 1) (mkT 9 27 81 1 mn mx [] [] []) = if mn = -4611686018427387904 ∧ mx = 4611686018427387904 then [105, 110, 116] else [105, 110, 116, 32] ++ bnd mn mx := rfl
      rw [e]
      have bl := bnd_len (mn := mn) (mx := mx) (by omega) (by omega)
      refine run_of_body ((eq_text RR LL 1 mn mx [] [] []).trans (cond_run rfl ?_))
      by_cases hc : mn = -4611686018427387904 ∧ mx = 4611686018427387904
      · rw [if_pos hc]
        exact cond_run (by rw [hc.1, hc.2]; rfl) rfl
      · rw [if_neg hc]
        refine cond_not ?_ (callT (btext_run (by omega) (by omega)) (cond_run (small_dec ?_) rfl))
        · by_cases hm : mn = -4611686018427387904
          · rw [eq_beq hm, ne_beq (fun h => hc ⟨hm, h⟩)]; rfl
          · rw [ne_beq hm]; rfl
        · show 4 + (bnd mn mx).length ≤ _
          omega
    · have e : textS (d + 1) (mkT 9 27 81 2 mn mx [] [] []) = if mn = 0 ∧ mx = 256 then [116, 101, 120, 116] else [116, 101, 120, 116, 32] ++ bnd mn mx := rfl
      rw [e]
      have bl := bnd_len (mn := mn) (mx := mx) (by omega) (by omega)
      refine run_of_body ((eq_text RR LL 2 mn mx [] [] []).trans (cond_not rfl (cond_run rfl ?_)))
      by_cases hc : mn = 0 ∧ mx = 256
      · rw [if_pos hc]
        exact cond_run (by rw [hc.1, hc.2]; rfl) rfl
      · rw [if_neg hc]
        refine cond_not ?_ (callT (btext_run (by omega) (by omega)) (cond_run (small_dec ?_) rfl))
        · by_cases hm : mn = 0
          · rw [eq_beq hm, ne_beq (fun h => hc ⟨hm, h⟩)]; rfl
          · rw [ne_beq hm]; rfl
        · show 5 + (bnd mn mx).length ≤ _
          omega
    · exact run_of_body ((eq_text RR LL 3 0 0 [] [] []).trans (cond_not rfl (cond_not rfl (cond_run rfl rfl))))
    · have e : textS (d + 1) (mkT 9 27 81 4 0 0 os [] []) = [101, 110, 117, 109, 40] ++ Lib.join (os.map nmE) [124] ++ [41] := rfl
      rw [e] at hb ⊢
      obtain ⟨s1, s2⟩ := strs_all h4
      simp only [List.length_append, List.length_cons, List.length_nil] at hb
      refine run_of_body ((eq_text RR LL 4 0 0 os [] []).trans (cond_not rfl (cond_not rfl (cond_not rfl (cond_run rfl (cond_run (join_dec s1 (by omega) s2 (by omega)) ?_))))))
      rw [s2]
      exact cond_run (small_dec (by omega)) (cond_run (small_dec (by simp only [List.length_append, List.length_cons, List.length_nil]; omega)) rfl)
    · have e : textS (d + 1) (mkT 9 27 81 5 mn mx [] [y] []) = [108, 105, 115, 116, 32] ++ bnd mn mx ++ [32, 111, 102, 32] ++ textS d y := rfl
      rw [e] at hb ⊢
      have bl := bnd_len (mn := mn) (mx := mx) (by omega) (by omega)
      simp only [List.length_append, List.length_cons, List.length_nil] at hb
      have hy : Ty y := by
        cases hx with
        | mk k mn mx os fs gs ho hol hf hfl hg hgn hgl hk hmn hmx => exact hf y (by simp)
      have e1 := text_run d y h4 hy (by omega)
      rw [← slotsT_eq hy] at e1
      refine run_of_body ((eq_text RR LL 5 mn mx [] [y] []).trans (cond_not rfl (cond_not rfl (cond_not rfl (cond_not rfl (cond_run rfl (cond_run rfl (callT (btext_run (by omega) (by omega)) (cond_run (small_dec ?_) (cond_run (small_dec ?_) (callT e1 (cond_run (small_dec ?_) rfl))))))))))))
      · show 5 + (bnd mn mx).length ≤ _
        omega
      · show ([108, 105, 115, 116, 32] ++ bnd mn mx).length + 4 ≤ _
        simp only [List.length_append, List.length_cons, List.length_nil]; omega
      · show ([108, 105, 115, 116, 32] ++ bnd mn mx ++ [32, 111, 102, 32]).length + (textS d y).length ≤ _
        simp only [List.length_append, List.length_cons, List.length_nil]; omega
    · have e : textS (d + 1) (mkT 9 27 81 6 0 0 [] [] gs) = [123] ++ Lib.join (gs.map (fldS (textS d))) [44, 32] ++ [125] := rfl
      rw [e] at hb ⊢
      have j2 := join_mem2 (xs := gs.map (fldS (textS d))) (sep := [44, 32])
      simp only [List.length_append, List.length_cons, List.length_nil] at hb
      cases hx with
      | mk k mn mx os fs gs ho hol hf hfl hg hgn hgl hk hmn hmx =>
      have e1 := text_loop (gs := gs) (tx := textS d) h1 hg hgn (fun g hgm => by
        obtain ⟨n, o, y, rfl, _, _, hy⟩ := h3 g hgm
        have hlen := j2 _ (List.mem_map_of_mem (f := fldS (textS d)) hgm)
        refine ⟨?_, by omega⟩
        rw [slotsF_eq (hg _ hgm) (hgn _ hgm)]
        refine text_run d _ (by rw [hy.fieldTy]; exact hy) (hg _ hgm) ?_
        have : (textS d (fieldTy (mkF n o y))).length ≤ (fldS (textS d) (mkF n o y)).length := by unfold fldS; simp only [List.length_append]; omega
        omega) gs.length 0 [] (by omega) (by simp; omega)
      rw [List.drop_zero, List.nil_append] at e1
      have s1 : (gs.map fun g => E.str (fldS (textS d) g)).all isStr = true := by
        rw [List.all_eq_true]
        intro o ho
        obtain ⟨g, _, rfl⟩ := List.mem_map.1 ho
        rfl
      have s2 : (gs.map fun g => E.str (fldS (textS d) g)).map E.toStr = gs.map (fldS (textS d)) := by
        rw [List.map_map]; rfl
      generalize (gs.map fun g => E.str (fldS (textS d) g)) = ts at e1 s1 s2
      have s3 : ts.length ≤ 1000 := by
        have := congrArg List.length s2
        simp only [List.length_map] at this
        omega
      refine run_of_body ((eq_text RR LL 6 0 0 [] [] gs).trans (cond_not rfl (cond_not rfl (cond_not rfl (cond_not rfl (cond_not rfl (cond_run rfl (bind_run e1 (cond_run rfl (cond_run (by kernel_rfl) ?_))))))))))
      show (bif ts.all isStr && decide (ts.length ≤ 140737488355328) && decide ((Lib.join (ts.map E.toStr) [44, 32]).length ≤ 140737488355328) then
        bif decide (1 + (Lib.join (ts.map E.toStr) [44, 32]).length ≤ 9223372036854775807) then bif decide (([123] ++ Lib.join (ts.map E.toStr) [44, 32]).length + 1 ≤ 9223372036854775807) then
          some (Res.ret (str ([123] ++ Lib.join (ts.map E.toStr) [44, 32] ++ [125])), ([] : Heap)) else none else none else none) = _
      refine cond_run (join_dec s1 s3 s2 (by omega)) ?_
      rw [s2]
      exact cond_run (small_dec (by omega)) (cond_run (small_dec (by simp only [List.length_append, List.length_cons, List.length_nil]; omega)) rfl)
    · exact run_of_body ((eq_text RR LL 7 0 0 [] [] []).trans (cond_not rfl (cond_not rfl (cond_not rfl (cond_not rfl (cond_not rfl (cond_not rfl rfl)))))))

end Go.Proofs.YtghdhhmlmdohkaaGreatDoor
