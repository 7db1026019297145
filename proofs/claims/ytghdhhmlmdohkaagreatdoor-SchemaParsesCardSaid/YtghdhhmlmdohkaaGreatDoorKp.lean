/- Print and Parse, the program's; Print, the reference's. -/
import Derived.Test.YtghdhhmlmdohkaaGreatDoorKh
import Derived.Test.YtghdhhmlmdohkaaGreatDoorPc
namespace Go.Proofs.YtghdhhmlmdohkaaGreatDoor
open Go Go.Den
set_option maxRecDepth 100000

theorem sum_le {α : Type} {g : α → Nat} {B : Nat} : ∀ {l : List α}, (∀ x ∈ l, g x ≤ B) → (l.map g).sum ≤ l.length * B
  | [], _ => by simp
  | x :: l, h => by
    have h1 := h x (by simp)
    have h2 := sum_le (l := l) (fun y hy => h y (by simp [hy]))
    rw [List.map_cons, List.sum_cons, List.length_cons, Nat.succ_mul]
    omega
theorem sizT_le : ∀ {d : Nat} {x : E}, Ful 9 27 81 d x → sizT d x ≤ 60 ^ d
  | 0, _, h => by cases h
  | d + 1, x, h => by
    obtain ⟨p1, p2, p3, p4, p5⟩ := ful_parts h
    have s1 := sum_le (l := ofE x) (g := sizT d) (B := 60 ^ d) (fun y hy => sizT_le (p4 y hy))
    have s2 := sum_le (l := fieldsE x) (g := fun g => sizT d (fieldTy g)) (B := 60 ^ d) (fun y hy => sizT_le (p5 y hy))
    have h0 : 1 ≤ 60 ^ d := Nat.one_le_pow _ _ (by omega)
    have s3 := Nat.mul_le_mul_right (60 ^ d) p2
    have s4 := Nat.mul_le_mul_right (60 ^ d) p3
    show 1 + (optsE x).length + (fieldsE x).length + (ofE x).length + ((ofE x).map (sizT d)).sum + ((fieldsE x).map fun g => sizT d (fieldTy g)).sum ≤ 60 ^ (d + 1)
    rw [Nat.pow_succ]
    omega
theorem itoa_62 (n : Int) (h0 : -4611686018427387904 ≤ n) (h1 : n ≤ 4611686018427387904) : (Lib.itoa n).length ≤ 20 := itoa_len (by omega) (by omega)
theorem text_small {x : E} (h : Ful 9 27 81 6 x) : (textS 6 x).length ≤ 10000000000000 := by
  have h1 := text_le itoa_62 h
  have h2 := sizT_le h
  have : (60 : Nat) ^ 6 = 46656000000 := by decide
  omega

/-- What Print answers. -/
def prS (x : E) : AV := if CheckS x = 0 then .tup [str (textS 6 x), num 0] else .tup [str [], num (CheckS x)]
theorem okP31 (s : List UInt8) (e : Int) : okRes PP 32 (.ret (.tup [str s, num e])) = true := by kernel_rfl
theorem okPr (x : E) : okRes PP 32 (.ret (prS x)) = true := by
  unfold prS
  split
  · exact okP31 ..
  · exact okP31 ..
theorem Print_run {x : E} (hx : Ty x) : RR none 16 [slotsOf x] [] = some (.ret (prS x), []) := by
  have e1 := Check_run hx
  unfold prS
  by_cases hc : CheckS x = 0
  · rw [if_pos hc]
    rw [hc] at e1
    have fx := CheckS_ful hc hx
    have e2 := text_run 6 x fx hx (text_small fx)
    cases hx with
    | mk k mn mx os fs gs => exact run_of_body ((eq_Print RR LL k mn mx os fs gs).trans (callE e1 (cond_not rfl (callT e2 rfl))))
  · rw [if_neg hc]
    generalize CheckS x = e at e1 hc ⊢
    cases hx with
    | mk k mn mx os fs gs => exact run_of_body ((eq_Print RR LL k mn mx os fs gs).trans (callE e1 (cond_run (no_not' hc) rfl)))
theorem RPrint_run {x : E} (hx : Ty x) : RR none 48 [slotsOf x] [] = some (.ret (prS x), []) := by
  have e1 := RCheck_run hx
  unfold prS
  by_cases hc : CheckS x = 0
  · rw [if_pos hc]
    rw [hc] at e1
    have fx := CheckS_ful hc hx
    have e2 := rtext_run 6 x fx hx (text_small fx)
    cases hx with
    | mk k mn mx os fs gs => exact run_of_body ((eq_RPrint RR LL k mn mx os fs gs).trans (callE e1 (cond_not rfl (callT e2 rfl))))
  · rw [if_neg hc]
    generalize CheckS x = e at e1 hc ⊢
    cases hx with
    | mk k mn mx os fs gs => exact run_of_body ((eq_RPrint RR LL k mn mx os fs gs).trans (callE e1 (cond_run (no_not' hc) rfl)))

/-- What Parse answers. -/
def parS (s : List UInt8) : AV :=
  if 65536 < s.length then .tup [nilT, num 0, num 5] else
  match kindL 9 27 81 6 s with
  | .ok y l => if l = [] then (if CheckS y = 0 then (if textS 6 y = s then .tup [slotsT y, num 0, num 0] else .tup [nilT, num 0, num 2]) else .tup [nilT, num 0, num (CheckS y)]) else .tup [nilT, num (pos s l), num 2]
  | .err e l => .tup [nilT, num (pos s l), num e]
theorem okT33 (a b c : Int) (d e f : List E) (p q : Int) : okRes PP 29 (.ret (.tup [.agg [num a, num b, num c, .e (.sl 9 d), .e (.sl 27 e), .e (.sl 81 f)], num p, num q])) = true := by kernel_rfl
theorem okSca (s : List UInt8) : okRes PP 29 (.ret (scaS s)) = true := by
  unfold scaS
  split
  · split <;> exact okT33 ..
  · exact okT33 ..
theorem okPar (s : List UInt8) : okRes PP 29 (.ret (parS s)) = true := by
  unfold parS
  split
  · exact okT33 ..
  · split
    · split
      · split
        · split <;> exact okT33 ..
        · exact okT33 ..
      · exact okT33 ..
    · exact okT33 ..

theorem Parse_run (s : List UInt8) : RR none 13 [str s] [] = some (.ret (parS s), []) := by
  refine run_of_body ((eq_Parse RR LL s).trans ?_)
  unfold parS
  by_cases hb : 65536 < s.length
  · rw [if_pos hb]
    exact cond_run (dec_yes (by omega)) rfl
  rw [if_neg hb]
  refine cond_not (dec_no (by omega)) (bind_run (scanned_run (s := s) (by omega)) (cond_run rfl (cond_run (okSca s) ?_)))
  have herr : ∀ e l, kindL 9 27 81 6 s = .err e l → e ≠ 0 := fun e l h => kindL_err 6 s l e h
  unfold scaS
  cases hv : kindL 9 27 81 6 s with
  | ok y l =>
    dsimp only
    by_cases hl : l = []
    · rw [if_pos hl, if_pos hl]
      have hy : Ty y := kindL_ty 6 s y l (by omega) hv
      have e1 := Print_run hy
      rw [← slotsT_eq hy] at e1
      refine cond_not rfl (bind_run e1 (cond_run rfl (cond_run (okPr y) ?_)))
      unfold prS
      by_cases hc : CheckS y = 0
      · rw [if_pos hc, if_pos hc]
        refine cond_not rfl ?_
        show (bif !strEq (textS 6 y) s then _ else _) = _
        by_cases ht : textS 6 y = s
        · rw [if_pos ht, strEq_iff.2 ht]; rfl
        · rw [if_neg ht, strEq_no.2 ht]; rfl
      · rw [if_neg hc, if_neg hc]
        exact cond_run (no_not' hc) rfl
    · rw [if_neg hl, if_neg hl]
      exact cond_run rfl rfl
  | err e l =>
    exact cond_run (by show (!(e == 0)) = true; rw [ne_beq (herr e l hv)]; rfl) rfl

end Go.Proofs.YtghdhhmlmdohkaaGreatDoor
