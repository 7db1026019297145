/- Unquote: the reference's, and the program's on any text. -/
import Derived.Test.YtmocefjnplmibaaGreatDoorQd
namespace Go.Proofs.YtmocefjnplmibaaGreatDoor
open Go Go.Den
set_option maxRecDepth 100000

def rdX : Out := { ex := .exit 0, fr := List.replicate 13 AV.undef, hp := [], df := [] }
def rdR (r : Int) : Out := { ex := .ret, fr := [AV.undef, AV.undef, num r] ++ List.replicate 10 AV.undef, hp := [], df := [] }
abbrev rdF (c : Int) (i : Int) : Fr := ((List.replicate 13 AV.undef).set 0 (.e (.int .u8 c))).set 3 (.e (.int .i64 i))

theorem ib_ge : ∀ (l : List UInt8) (c : UInt8), -1 ≤ Lib.indexByte l c := by
  intro l c
  induction l with
  | nil => exact Int.le_refl (-1)
  | cons b l ih =>
    unfold Lib.indexByte
    split
    · decide
    split
    · decide
    · rename_i h1
      simp at h1
      omega
def hxv (a b : UInt8) : Int := IntKind.u8.wrap (IntKind.i64.wrap (IntKind.i64.wrap (hxI a * 16) + hxI b))
/-- What the reference reads. -/
def runq : Nat → List UInt8 → List UInt8 → List UInt8
  | 0, _, acc => acc
  | n + 1, l, acc =>
    if l.length ≤ 1 then acc
    else if l.getD 0 0 = 92 then
      (if l.getD 1 0 = 115 then runq n (l.drop 2) (acc ++ [32])
       else if l.getD 1 0 = 120 ∧ 3 < l.length then runq n (l.drop 4) (acc ++ [UInt8.ofNat (hxv (l.getD 2 0) (l.getD 3 0)).toNat])
       else runq n (l.drop 2) (acc ++ [l.getD 1 0]))
    else runq n (l.drop 1) (acc ++ [l.getD 0 0])

abbrev ruF (t a : List UInt8) (i : Int) : Fr := (((List.replicate 60 AV.undef).set 0 (.e (.str t))).set 4 (.e (.str a))).set 5 (.e (.int .i64 i))
def ruX (t a : List UInt8) : Out := { ex := .exit 0, fr := [str t, AV.undef, AV.undef, AV.undef, str a] ++ List.replicate 55 AV.undef, hp := [], df := [] }
/-! ### .. on a quoted text -/

/-! ### Both -/

def innerOf (t : List UInt8) : List UInt8 := (t.take (t.length - 1)).drop 1
/-- The text whose quoted text this is. -/
def unqS (t : List UInt8) : Option (List UInt8) := (unqL (t.length + 1) (innerOf t) []).bind fun a => if quoS a = t then some a else none
theorem inner_quo (s : List UInt8) : innerOf (quoS s) = quoB s := by
  unfold innerOf
  rw [quoS_len]
  unfold quoS
  rw [show (34 :: quoB s ++ [34]) = (34 :: quoB s) ++ [34] from rfl, show (quoB s).length + 2 - 1 = (34 :: quoB s).length by simp, List.take_left' rfl]
  rfl
theorem unqS_quo (s : List UInt8) : unqS (quoS s) = some s := by
  unfold unqS
  have hg := quoB_ge s
  rw [inner_quo, unq_quo s _ [] (by rw [quoS_len]; omega)]
  simp
theorem unqS_some {t a : List UInt8} (h : unqS t = some a) : quoS a = t := by
  unfold unqS at h
  cases e : unqL (t.length + 1) (innerOf t) [] with
  | none => rw [e] at h; cases h
  | some b =>
    rw [e] at h
    simp only [Option.bind_some] at h
    split at h
    · injection h with h; subst h; assumption
    · cases h
theorem unqS_none {t : List UInt8} (h : unqS t = none) (a : List UInt8) : quoS a ≠ t := fun e => by rw [← e, unqS_quo] at h; cases h
def unqA : Option (List UInt8) → AV
  | some a => .tup [str a, num 0]
  | none => .tup [str [], num 2]
theorem strEq_iff (a b : List UInt8) : strEq a b = decide (a = b) := by
  unfold strEq
  by_cases h : a = b
  · subst h; simp
  · rw [dec_no h]; simpa using h

theorem unqL_len : ∀ (n : Nat) (l acc a : List UInt8), unqL n l acc = some a → a.length ≤ acc.length + l.length := by
  intro n
  induction n with
  | zero => intro l acc a h; cases h
  | succ n ih =>
    intro l acc a h
    unfold unqL at h
    split at h
    · injection h with h; subst h; omega
    · rename_i hl
      have := List.length_pos_iff.2 hl
      split at h
      · have := ih _ _ _ h; simp at this; omega
      · split at h
        · cases h
        · rename_i h0
          have k := (escI_ok l).resolve_left h0
          have := ih _ _ _ h; simp at this; omega
theorem Unquote_run {t : List UInt8} (ht : t.length ≤ 10000) : RR none 12 [str t] [] = some (.ret (unqA (unqS t)), []) := by
  cases hu : unqS t with
  | some a =>
    have ha := unqS_some hu
    have hg := quoB_ge a
    have hq := quoS_len a
    rw [← ha]
    exact Unquote_quo (by rw [← ha] at ht; omega)
  | none =>
    refine run_of_body ((eq_Unquote RR LL t).trans ?_)
    show _ = some (Res.ret (.tup [str [], num 2]), ([] : Heap))
    by_cases h2 : t.length < 2
    · exact cond_not (by rw [dec_yes (by omega)]; rfl) rfl
    have ew : IntKind.i64.wrap ((t.length : Int) - 1) = ((t.length - 1 : Nat) : Int) := by rw [wrap_in (by omega) (by omega)]; omega
    rw [ew, at_nat]
    have e34 := u8n (c := t.getD 0 0) (n := 34) (by decide)
    have f34 := u8n (c := t.getD (t.length - 1) 0) (n := 34) (by decide)
    change (((t.getD 0 0).toNat : Int) == 34) = decide (t.getD 0 0 = 34) at e34
    change (((t.getD (t.length - 1) 0).toNat : Int) == 34) = decide (t.getD (t.length - 1) 0 = 34) at f34
    rw [e34, f34]
    refine cond_run (by rw [dec_no (by omega)]; rfl) (cond_run (dec_yes (by omega)) ?_)
    by_cases h0 : t.getD 0 0 = 34
    · refine cond_run (by rw [dec_yes h0]; rfl) (cond_run (by rw [dec_yes (by omega), dec_yes (by omega)]; rfl) ?_)
      by_cases h1 : t.getD (t.length - 1) 0 = 34
      · refine cond_not (by rw [dec_yes h1]; rfl) (cond_run (by rw [dec_yes (by omega), dec_yes (by omega)]; rfl) ?_)
        have hil : (innerOf t).length ≤ t.length := by unfold innerOf; simp; omega
        have e := unquote_loop (s := t) (t := innerOf t) (by omega) (t.length + 1) 0 [] (by simp; omega) (by omega) (by simp)
        rw [List.drop_zero] at e
        refine bind_run e ?_
        cases ha : unqL (t.length + 1) (innerOf t) [] with
        | none => rfl
        | some a =>
          have hlen := unqL_len _ _ _ _ ha
          refine cond_run rfl (cond_run rfl (cond_run (isByte_bytesE a) ?_))
          show ((RR none 14 [str (unbytes (bytesE a))] []).bind _) = _
          rw [unbytes_bytesE]
          refine callT (Quote_run (by simp at hlen; omega)) (cond_run ?_ rfl)
          show (!strEq (quoS a) t) = true
          rw [strEq_iff, dec_no (unqS_none hu a)]; rfl
      · exact cond_run (by rw [dec_no h1]; rfl) rfl
    · exact cond_not (by rw [dec_no h0]; rfl) rfl

/-! ### LineQuotes -/

theorem unqA_ok (o : Option (List UInt8)) : okRes PP 24 (.ret (unqA o)) = true := by cases o <;> exact ok24 _ _
end Go.Proofs.YtmocefjnplmibaaGreatDoor
