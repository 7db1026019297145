/- Numbers as texts, by the reference. -/
import Derived.Test.YtghdhhmlmdohkaaGreatDoorVc
import Derived.Test.YtghdhhmlmdohkaaGreatDoorNe
namespace Go.Proofs.YtghdhhmlmdohkaaGreatDoor
open Go Go.Den
set_option maxRecDepth 100000

/-! ### Numbers as texts -/

theorem u8_digit : ∀ k : Nat, k < 10 → IntKind.u8.wrap (IntKind.i64.wrap (48 + (k : Int))) = 48 + (k : Int) := by decide
theorem u8_byte (k : Nat) (h : k < 10) : ([E.int .u8 (48 + (k : Int))] : List E).all isByte = true ∧ unbytes [E.int .u8 (48 + (k : Int))] = [UInt8.ofNat (48 + k)] := by
  constructor
  · simp [isByte]; omega
  · have e : (48 + (k : Int)).toNat = 48 + k := by omega
    simp only [unbytes, List.map_cons, List.map_nil, E.toInt, e]
theorem okStr (s : List UInt8) : okRes PP 9 (.ret (str s)) = true := by kernel_rfl
theorem callT {β : Type} {x : Option (Res × Heap)} {s : List UInt8} {K : Res × Heap → Option β} {r : Option β} (h : x = some (.ret (str s), [])) (hK : K (.ret (str s), []) = r) :
    (x.bind fun rh => bif okHeap [] rh.2 then bif okRes PP 9 rh.1 then K rh else none else none) = r :=
  bind_run h (cond_run okH (cond_run (okStr s) hK))

theorem Number_nat : ∀ (u : Nat), u ≤ 9223372036854775807 → RR none 142 [num (u : Int)] [] = some (.ret (str (Lib.decDigits u)), []) := by
  intro u
  induction u using Nat.strongRecOn with
  | _ u ih =>
    intro hu
    refine run_of_body ((eq_Number RR LL (u : Int)).trans (cond_not (dec_no (by omega)) ?_))
    by_cases h : u < 10
    · rw [Lib.decDigits, dif_pos h, u8_digit u h]
      refine cond_run (dec_yes (by omega)) (cond_run (u8_byte u h).1 ?_)
      rw [(u8_byte u h).2]
    · rw [Lib.decDigits, dif_neg h]
      have e1 : ((u : Int)).tmod 10 = ((u % 10 : Nat) : Int) := by rw [Int.tmod_eq_emod_of_nonneg (by omega)]; omega
      have e2 : IntKind.i64.wrap ((u : Int).tdiv 10) = ((u / 10 : Nat) : Int) := by
        rw [Int.tdiv_eq_ediv_of_nonneg (by omega), wrap_in (by omega) (by omega)]; omega
      have hm : u % 10 < 10 := by omega
      have hl := decDigits_len 18 (u / 10) (by omega)
      rw [e1, e2, u8_digit _ hm]
      refine cond_not (dec_no (by omega)) (cond_run (u8_byte _ hm).1 (callT (ih (u / 10) (by omega) (by omega)) ?_))
      rw [(u8_byte _ hm).2]
      refine cond_run (dec_yes ?_) rfl
      show (Lib.decDigits (u / 10)).length + 1 ≤ _
      omega

theorem Number_run {n : Int} (h0 : -9223372036854775807 ≤ n) (h1 : n ≤ 9223372036854775807) : RR none 142 [num n] [] = some (.ret (str (Lib.itoa n)), []) := by
  unfold Lib.itoa
  by_cases hn : n < 0
  · rw [if_pos hn]
    have e := Number_nat n.natAbs (by omega)
    refine run_of_body ((eq_Number RR LL n).trans (cond_run (dec_yes hn) ?_))
    rw [wrap_in (by omega) (by omega), show 0 - n = ((n.natAbs : Nat) : Int) by omega]
    have hl := decDigits_len 18 n.natAbs (by omega)
    refine callT e (cond_run (dec_yes ?_) rfl)
    show 1 + (Lib.decDigits n.natAbs).length ≤ _
    omega
  · rw [if_neg hn]
    have e := Number_nat n.toNat (by omega)
    rw [show ((n.toNat : Nat) : Int) = n by omega] at e
    exact e

end Go.Proofs.YtghdhhmlmdohkaaGreatDoor
