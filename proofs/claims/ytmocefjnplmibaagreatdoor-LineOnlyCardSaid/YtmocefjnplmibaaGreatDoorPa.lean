/- Numbers, read: the program's and the reference's. -/
import Derived.Test.YtmocefjnplmibaaGreatDoorPe
import Derived.Test.YtmocefjnplmibaaGreatDoorRa
import Derived.Test.YtmocefjnplmibaaGreatDoorDn6
namespace Go.Proofs.YtmocefjnplmibaaGreatDoor
open Go Go.Den
set_option maxRecDepth 100000

/-- What reading a number comes to. -/
def numA : Except Int Int → AV
  | .ok n => .tup [num n, num 0]
  | .error e => .tup [num 0, num e]
theorem numR_no {s : S8} (h : numC s = false) : numR s = .error 2 := by unfold numR; rw [h]; rfl
theorem numR_yes {s : S8} (h : numC s = true) (k : inI64 (numV s) = true) : numR s = .ok (numV s) := by unfold numR; rw [if_pos h, if_pos k]
theorem numR_out {s : S8} (h : numC s = true) (k : inI64 (numV s) = false) : numR s = .error 1 := by unfold numR; rw [if_pos h, k]; rfl
/-! ### The reference's loops -/

def rd7X (s : S8) (k : Int) : Out := { ex := .exit 0, fr := [str s, AV.undef, AV.undef, AV.undef, num k] ++ List.replicate 70 AV.undef, hp := [], df := [] }
def rd7R : Out := { ex := .ret, fr := [AV.undef, AV.undef, num 0, num 2] ++ List.replicate 71 AV.undef, hp := [], df := [] }
def rd15X (s : S8) (k n : Int) : Out := { ex := .exit 2, fr := [str s, AV.undef, AV.undef, AV.undef, num k, AV.undef, num n] ++ List.replicate 68 AV.undef, hp := [], df := [] }
/-! ### The program's test -/

def cnX : Out := { ex := .exit 0, fr := List.replicate 34 AV.undef, hp := [], df := [] }
def cnR : Out := { ex := .ret, fr := [AV.undef, AV.undef, yes false] ++ List.replicate 31 AV.undef, hp := [], df := [] }
theorem canon_loop (t : S8) (hl : t.length ≤ 100000) : LL 122 0 lc_122_5 (((List.replicate 34 AV.undef).set 3 (str t)).set 4 (num 0)) [] = some (bif t.all digB then cnX else cnR) := by
  refine scan_all (d := 0) (G := fun i => LL 122 0 lc_122_5 (((List.replicate 34 AV.undef).set 3 (str t)).set 4 (num (i : Int))) []) ?_ ?_
  · intro i hi r h
    have body := eq_canonicalL5 RR LL t i
    rw [nat_at, nat_wrap hi (by rw [maxLen_eq]; omega)] at body
    refine loop_of_body (body.trans (cond_run (nat_lt hi) (cond_run (nat_in hi) ?_)))
    generalize t.getD i 0 = c at h ⊢
    unfold digB at h
    by_cases h48 : (48 : Int) ≤ c.toNat
    · rw [dec_yes h48] at h
      refine cond_run (by rw [dec_no (by omega)]; rfl) (cond_run (nat_in hi) ?_)
      by_cases h57 : (c.toNat : Int) ≤ 57
      · rw [dec_yes h57] at h; exact cond_not (dec_no (by omega)) (bind_run h rfl)
      · rw [dec_no h57] at h; exact cond_run (dec_yes (by omega)) h
    · rw [dec_no h48] at h
      exact cond_not (by rw [dec_yes (by omega)]; rfl) h
  · exact loop_of_body ((eq_canonicalL5 RR LL t t.length).trans (cond_not (nat_end _) rfl))

end Go.Proofs.YtmocefjnplmibaaGreatDoor
