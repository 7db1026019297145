/- The program's scanner: names, texts in quotes. -/
import Derived.Test.YtghdhhmlmdohkaaGreatDoorKa
namespace Go.Proofs.YtghdhhmlmdohkaaGreatDoor
open Go Go.Den
set_option maxRecDepth 100000

/-! ### name -/

theorem le_int (k : UInt8) (c : UInt8) : decide ((k.toNat : Int) ≤ (c.toNat : Int)) = decide (k ≤ c) := by
  by_cases h : k ≤ c
  · rw [decide_eq_true h]; exact dec_yes (by have := UInt8.le_iff_toNat_le.1 h; omega)
  · rw [decide_eq_false h]; exact dec_no (fun h' => h (UInt8.le_iff_toNat_le.2 (by omega)))
theorem low_int (c : UInt8) : (bif decide ((97 : Int) ≤ (c.toNat : Int)) then decide ((c.toNat : Int) ≤ 122) else false) = lowC c := by
  have e1 := le_int 97 c
  have e2 := le_int c 122
  change decide ((97 : Int) ≤ (c.toNat : Int)) = _ at e1
  change decide ((c.toNat : Int) ≤ 122) = _ at e2
  rw [e1, e2, bif_and]
  rfl
theorem nam_step {α : Type} (c : UInt8) (A B : α) :
    (bif (bif decide ((97 : Int) ≤ (c.toNat : Int)) then decide ((c.toNat : Int) ≤ 122) else false) == false then
      (bif decide ((48 : Int) ≤ (c.toNat : Int)) == true then (bif bif decide ((c.toNat : Int) ≤ 57) then true else (c.toNat : Int) == 45 then A else B) else bif (c.toNat : Int) == 45 then A else B)
      else A) = bif namC c then A else B := by
  rw [low_int]
  have e1 := le_int 48 c
  have e2 := le_int c 57
  have e3 : ((c.toNat : Int) == 45) = (c == 45) := u8_eq (b := 45)
  change decide ((48 : Int) ≤ (c.toNat : Int)) = _ at e1
  change decide ((c.toNat : Int) ≤ 57) = _ at e2
  rw [e1, e2, e3]
  unfold namC digC
  cases lowC c <;> cases decide (48 ≤ c) <;> cases decide (c ≤ 57) <;> cases (c == 45) <;> rfl

theorem name_loop {s : List UInt8} {p : Int} (hs : s.length ≤ 100000) : ∀ (m : Nat) (l : List UInt8), l.length = m → l <:+ s →
    LL 135 1 lc_135_5 ((((List.replicate 53 AV.undef).set 0 (.ptr 0 0)).set 3 (.e (.int .i64 p))).set 4 (.e (.int .u8 ((hd l).toNat : Int)))) (scn s (pos s l)) =
      some { ex := .exit 0, fr := [.ptr 0 0, AV.undef, AV.undef, num p] ++ List.replicate 49 AV.undef, hp := scn s (pos s (l.dropWhile namC)), df := [] } := by
  intro m
  induction m with
  | zero =>
    intro l h hl
    have : l = [] := List.length_eq_zero_iff.1 h
    subst this
    exact loop_of_body ((eq_nameL5 RR LL s (pos s []) p _).trans ((nam_step _ _ _).trans (cond_not rfl rfl)))
  | succ m ih =>
    intro l h hl
    refine loop_of_body ((eq_nameL5 RR LL s (pos s l) p _).trans ((nam_step _ _ _).trans ?_))
    cases hd1 : namC (hd l) with
    | false =>
      obtain ⟨_, t2⟩ := takeWhile_no hd1
      rw [t2]; rfl
    | true =>
      obtain ⟨_, t2, nz, ne⟩ := takeWhile_hd (by decide) hd1
      obtain ⟨st1, st2⟩ := pos_step hl hs nz
      have hm : (l.drop 1).length = m := by rw [List.length_drop]; omega
      rw [t2, st1, pk_pos st2, pos_ge st2]
      exact bind_run (ih (l.drop 1) hm st2) rfl

theorem cut_pos {s l r : List UInt8} (hl : l <:+ s) (hr : r <:+ l) : List.drop (pos s l).toNat (List.take (pos s r).toNat s) = l.take (l.length - r.length) := by
  have h1 := hl.length_le
  have h2 := hr.length_le
  rw [pos_nat hl, pos_nat (hr.trans hl), at_nat, at_nat, List.drop_take, suffix_drop hl]
  congr 1; omega
theorem takeWhile_cut (p : UInt8 → Bool) (l : List UInt8) : l.take (l.length - (l.dropWhile p).length) = l.takeWhile p := by
  have e := List.takeWhile_append_dropWhile (p := p) (l := l)
  generalize l.takeWhile p = a at e ⊢
  generalize l.dropWhile p = b at e ⊢
  subst e
  simp

theorem name_run {s l : List UInt8} (hs : s.length ≤ 100000) (hl : l <:+ s) : Reads (RR none 135 [.ptr 0 0] (scn s (pos s l))) s str (wordL l) := by
  refine reads_of (eq_name RR LL s (pos s l)) (condR (pos_ge hl) ?_)
  rw [pk_pos hl, low_int]
  unfold wordL
  cases hlo : lowC (hd l) with
  | false => exact condR rfl ⟨hl, _, rfl⟩
  | true =>
    refine condR' rfl (condR (pos_ge hl) ?_)
    have hsuf : l.dropWhile namC <:+ l := List.dropWhile_suffix namC
    refine ⟨hsuf.trans hl, bind_run (name_loop hs l.length l rfl hl) (cond_run rfl (cond_run rfl ((cond_run ?_ ?_))))⟩
    · have h1 := (hsuf.trans hl).length_le
      have h2 := hsuf.length_le
      have h3 := hl.length_le
      show (decide (0 ≤ pos s l) && decide (pos s l ≤ pos s (l.dropWhile namC)) && decide (pos s (l.dropWhile namC) ≤ (s.length : Int))) = true
      unfold pos
      simp
      omega
    · show some (Res.ret (str (List.drop (pos s l).toNat (List.take (pos s (l.dropWhile namC)).toNat s))), scn s (pos s (l.dropWhile namC))) = _
      rw [cut_pos hl hsuf, takeWhile_cut]

/-! ### hex -/

abbrev u8A (v : Nat) : AV := .e (.int .u8 (v : Int))
/-! ### quoted -/

abbrev quotH (s : List UInt8) (p : Int) (acc : List E) : Heap := [scnO s p, .box [.nsp 1 107, .own 2 5 acc], .vec 5 acc.length]
abbrev quotF : Fr := ((List.replicate 87 AV.undef).set 0 (.ptr 0 0)).set 3 (.ptr 1 0)
def quotO (s : List UInt8) (acc : List UInt8) (l : List UInt8) : Out := { ex := .exit 0, fr := [AV.undef, AV.undef, AV.undef, .ptr 1 0] ++ List.replicate 83 AV.undef, hp := quotH s (pos s l) (bytesE acc), df := [] }

theorem drop_less {l : List UInt8} (h : hd l ≠ 0) : (l.drop 1).length < l.length := by
  cases l with
  | nil => exact absurd rfl h
  | cons c l => simp

theorem needL_run {s l : List UInt8} (hs : s.length ≤ 100000) {w : List UInt8} (hl : l <:+ s) (hw : w.length ≤ 100000 := by decide) (h0 : ∀ c ∈ w, c ≠ 0 := by decide) :
    Reads (RR none 133 [.ptr 0 0, str w] (scn s (pos s l))) s (fun _ : Unit => .tup []) (needL w l) := need_run hs hw h0 hl

end Go.Proofs.YtghdhhmlmdohkaaGreatDoor
