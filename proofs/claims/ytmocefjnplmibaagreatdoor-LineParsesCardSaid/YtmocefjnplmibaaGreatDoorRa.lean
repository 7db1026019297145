/- Numbers in decimal; words; lines. -/
import Derived.Test.YtmocefjnplmibaaGreatDoorRe
import Derived.Test.YtmocefjnplmibaaGreatDoorCg
import Derived.Lib.ItoaLen
namespace Go.Proofs.YtmocefjnplmibaaGreatDoor
open Go Go.Den
set_option maxRecDepth 100000

/-! ### Numbers -/

theorem wrap_u64 {n : Int} (h0 : 0 ≤ n) (h1 : n < 18446744073709551616) : IntKind.u64.wrap n = n := by rw [IntKind.wrap_u64]; omega
theorem dig_all : ∀ k : Fin 10, List.drop k.val (List.take (k.val + 1) digs) = [UInt8.ofNat (48 + k.val)] := by decide +kernel
theorem positive_run : ∀ (u : Nat), u < 18446744073709551616 → RR none 90 [.e (.int .u64 (u : Int))] [] = some (.ret (str (Lib.decDigits u)), []) := by
  intro u
  induction u using Nat.strongRecOn with
  | _ u ih =>
  intro hu
  refine run_of_body ((eq_positive RR LL (u : Int)).trans ?_)
  by_cases h : u < 10
  · have := dig_all ⟨u, h⟩
    dsimp only at this
    rw [wrap_u64 (n := (u : Int) + 1) (by omega) (by omega), show (u : Int) + 1 = ((u + 1 : Nat) : Int) by omega, nat_at, nat_at]
    refine cond_run (dec_yes (by omega)) (cond_run ?_ ?_)
    · rw [dec_yes (by omega), dec_yes (by omega), dec_yes (show ((u + 1 : Nat) : Int) ≤ 16 by omega)]; rfl
    · show some (Res.ret (str (List.drop u (List.take (u + 1) digs))), ([] : Heap)) = _
      rw [this, Lib.decDigits, dif_pos h]
  · have hm : ((u : Int)).tmod 10 = ((u % 10 : Nat) : Int) := by rw [Int.tmod_eq_emod_of_nonneg (by omega)]; omega
    have hd : ((u : Int)).tdiv 10 = ((u / 10 : Nat) : Int) := by rw [Int.tdiv_eq_ediv_of_nonneg (by omega)]; omega
    have := dig_all ⟨u % 10, by omega⟩
    dsimp only at this
    rw [hm, hd, wrap_u64 (n := ((u % 10 : Nat) : Int) + 1) (by omega) (by omega), wrap_u64 (n := ((u / 10 : Nat) : Int)) (by omega) (by omega), show ((u % 10 : Nat) : Int) + 1 = ((u % 10 + 1 : Nat) : Int) by omega, nat_at, nat_at]
    refine cond_not (dec_no (by omega)) (cond_run ?_ (bind_run (ih (u / 10) (by omega) (by omega)) (cond_run rfl (cond_run (okStr _) (cond_run ?_ ?_)))))
    · rw [dec_yes (by omega), dec_yes (by omega), dec_yes (show ((u % 10 + 1 : Nat) : Int) ≤ 16 by omega)]; rfl
    · rw [valS]
      show decide ((Lib.decDigits (u / 10)).length + (List.drop (u % 10) (List.take (u % 10 + 1) digs)).length ≤ 9223372036854775807) = true
      rw [this, Lib.decDigits_length]
      have := Lib.nDigits_le20 (u / 10) (by omega)
      exact dec_yes (by simp; omega)
    · show some (Res.ret (str (Lib.decDigits (u / 10) ++ List.drop (u % 10) (List.take (u % 10 + 1) digs))), ([] : Heap)) = _
      rw [this]
      conv => rhs; rw [Lib.decDigits, dif_neg h]
theorem Number_run {n : Int} (h : I64 n) : RR none 48 [num n] [] = some (.ret (str (Lib.itoa n)), []) := by
  obtain ⟨h0, h1⟩ := h
  refine run_of_body ((eq_RNumber RR LL n).trans ?_)
  by_cases hn : 0 ≤ n
  · obtain ⟨u, rfl⟩ : ∃ u : Nat, n = u := ⟨n.toNat, by omega⟩
    rw [wrap_u64 (by omega) (by omega)]
    refine cond_run (dec_yes hn) (bind_run (positive_run u (by omega)) (cond_run rfl (cond_run (okStr _) ?_)))
    rw [valS, Lib.itoa_nonneg]
  · obtain ⟨u, rfl⟩ : ∃ u : Nat, n = -(u : Int) := ⟨n.natAbs, by omega⟩
    rw [wrap_in (n := -(u : Int) + 1) (by omega) (by omega), wrap_in (n := 0 - (-(u : Int) + 1)) (by omega) (by omega), wrap_u64 (n := 0 - (-(u : Int) + 1)) (by omega) (by omega), show (0 - (-(u : Int) + 1) + 1) = (u : Int) by omega, wrap_u64 (n := (u : Int)) (by omega) (by omega)]
    refine cond_not (dec_no hn) (bind_run (positive_run u (by omega)) (cond_run rfl (cond_run (okStr _) (cond_run ?_ ?_))))
    · rw [valS, Lib.decDigits_length]
      have := Lib.nDigits_le20 u (by omega)
      exact dec_yes (by omega)
    · rw [valS, Lib.itoa_neg u (by omega)]; rfl
/-! ### Words -/

def wordS (k : Int) : S8 :=
  [[], [101, 120, 99, 104, 97, 110, 103, 101], [113, 117, 101, 117, 101], [98, 105, 110, 100], [117, 110, 98, 105, 110, 100], [112, 117, 98, 108, 105, 115, 104], [99, 111, 110, 115, 117, 109, 101], [99, 97, 110, 99, 101, 108],
    [97, 99, 107], [110, 97, 99, 107], [98, 101, 103, 105, 110], [99, 111, 109, 109, 105, 116], [114, 111, 108, 108, 98, 97, 99, 107], [112, 117, 114, 103, 101], [100, 101, 108, 101, 116, 101], [100, 101, 115, 99, 114, 105, 98, 101]].getD k.toNat []
def exwS (k : Int) : S8 := [[], [100, 105, 114, 101, 99, 116], [102, 97, 110, 111, 117, 116], [116, 111, 112, 105, 99], [104, 101, 97, 100, 101, 114, 115]].getD k.toNat []
def truS (b : Bool) : S8 := bif b then [121, 101, 115] else [110, 111]
def mayS (s : S8) : S8 := bif strEq s [] then [45] else s
theorem word_run (k : Int) (h : btw k 1 15 = true) : RR none 40 [num k] [] = some (.ret (str (wordS k)), []) := by
  refine run_of_body ((eq_word RR LL k).trans ?_)
  rcases kinds h with rfl | rfl | rfl | rfl | rfl | rfl | rfl | rfl | rfl | rfl | rfl | rfl | rfl | rfl | rfl <;> rfl
theorem Word_run (k : Int) (h : btw k 1 15 = true) : RR none 36 [num k] [] = some (.ret (str (wordS k)), []) := by
  refine run_of_body ((eq_RWord RR LL k).trans ?_)
  rcases kinds h with rfl | rfl | rfl | rfl | rfl | rfl | rfl | rfl | rfl | rfl | rfl | rfl | rfl | rfl | rfl <;> rfl
theorem exWord_run (k : Int) (h : btw k 1 4 = true) : RR none 42 [num k] [] = some (.ret (str (exwS k)), []) := by
  refine run_of_body ((eq_exWord RR LL k).trans ?_)
  have := btw_iff.1 h
  rcases (by omega : k = 1 ∨ k = 2 ∨ k = 3 ∨ k = 4) with rfl | rfl | rfl | rfl <;> rfl
theorem Exchange_run (k : Int) (h : btw k 1 4 = true) : RR none 49 [num k] [] = some (.ret (str (exwS k)), []) := by
  refine run_of_body ((eq_RExchange RR LL k).trans ?_)
  have := btw_iff.1 h
  rcases (by omega : k = 1 ∨ k = 2 ∨ k = 3 ∨ k = 4) with rfl | rfl | rfl | rfl <;> rfl

/-! ### Lines -/

abbrev joinS (l : List S8) : S8 := Lib.join l [32]
end Go.Proofs.YtmocefjnplmibaaGreatDoor
