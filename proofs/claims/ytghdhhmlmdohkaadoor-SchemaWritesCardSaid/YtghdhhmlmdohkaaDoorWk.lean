/- Write, the program's and the reference's. -/
import Derived.Test.YtghdhhmlmdohkaaDoorWj
namespace Go.Proofs.YtghdhhmlmdohkaaDoor
open Go Go.Den
set_option maxRecDepth 100000

/-- The answer of Write to a value that is right. -/
def wrAns (t : List UInt8) : AV := if t.length ≤ 65536 then .tup [str t, num 0] else .tup [str [], num 5]

theorem Write_bad {v : E} (hv : Val v) (h : CheckValueS v ≠ 0) : RR none 21 [slotsOf v] [] = some (.ret (.tup [str [], num (CheckValueS v)]), []) := by
  have e1 := depth_run 6 v (by omega) hv
  unfold CheckValueS at h ⊢
  cases c2 : rdeepV 6 v with
  | true =>
    rw [if_pos rfl]
    have h7 := (depthS_deep 6 v).2 c2
    rw [h7] at e1
    cases hv with
    | mk k n x ns vs => exact run_of_body ((eq_Write RR LL k n x ns vs).trans (callN e1 (cond_run rfl rfl)))
  | false =>
    rw [c2, if_neg (by decide)] at h
    rw [if_neg (by decide)]
    have e2 := valid_run 6 v c2 hv
    have hd : ¬ (6 : Int) < ((depthS 6 v : Nat) : Int) := by
      have h1 := depthS_le 6 v
      have h2 := depthS_deep 6 v
      rw [c2] at h2
      have : depthS 6 v ≠ 7 := fun e => by cases h2.1 e
      omega
    cases hv with
    | mk k n x ns vs => exact run_of_body ((eq_Write RR LL k n x ns vs).trans (callN e1 (cond_not (dec_no hd) (callE e2 (cond_run (no_not' h) rfl)))))

theorem Write_full {v : E} (fv : FulV 9 38 6 v) (hv : Val v) (hw : (writS 6 v).length ≤ 100000) : RR none 21 [slotsOf v] [] = some (.ret (wrAns (writS 6 v)), []) := by
  unfold wrAns
  by_cases hl : (writS 6 v).length ≤ 65536
  · rw [if_pos hl]; exact Write_run fv hv hl
  · rw [if_neg hl]
    obtain ⟨c1, c2⟩ := ful_check 6 v fv
    have e1 := depth_run 6 v (by omega) hv
    have e2 := valid_run 6 v c2 hv
    rw [c1] at e2
    have hd : ¬ (6 : Int) < ((depthS 6 v : Nat) : Int) := by
      have h1 := depthS_le 6 v
      have h2 := depthS_deep 6 v
      rw [c2] at h2
      have : depthS 6 v ≠ 7 := fun e => by cases h2.1 e
      omega
    have e3 := put_run 6 v (by omega) fv hv hw [] (by simp)
    rcases e3 with ⟨h, _⟩ | ⟨_, b', e3⟩
    · simp at h; omega
    · cases hv with
      | mk k n x ns vs =>
      exact run_of_body ((eq_Write RR LL k n x ns vs).trans (callN e1 (cond_not (dec_no hd) (callE e2 (cond_not rfl (bind_run e3 (cond_run rfl (cond_run rfl (cond_run rfl rfl)))))))))

theorem RWrite_bad {v : E} (hv : Val v) (h : CheckValueS v ≠ 0) : RR none 22 [slotsOf v] [] = some (.ret (.tup [str [], num (CheckValueS v)]), []) := by
  have e1 := CheckValue_run hv
  generalize CheckValueS v = e at e1 h ⊢
  cases hv with
  | mk k n x ns vs => exact run_of_body ((eq_RWrite RR LL k n x ns vs).trans (callE e1 (cond_run (no_not' h) rfl)))

theorem RWrite_full {v : E} (fv : FulV 9 38 6 v) (hv : Val v) (hc : CheckValueS v = 0) (hw : (writS 6 v).length ≤ 100000) : RR none 22 [slotsOf v] [] = some (.ret (wrAns (writS 6 v)), []) := by
  have e1 := CheckValue_run hv
  rw [hc] at e1
  have e2 := written_runN 6 v fv hv hw
  unfold wrAns
  generalize writS 6 v = t at e2 ⊢
  cases hv with
  | mk k n x ns vs =>
  refine run_of_body ((eq_RWrite RR LL k n x ns vs).trans (callE e1 (cond_not rfl (bind_run e2 (cond_run rfl (cond_not rfl (cond_run rfl ?_)))))))
  by_cases hl : t.length ≤ 65536
  · rw [if_pos hl]
    refine cond_not (dec_no ?_) (cond_run (isByte_bytesE t) ?_)
    · show ¬ (65536 : Int) < (((bytesE t).length : Nat) : Int)
      rw [bytesE_len]; omega
    · show some (Res.ret (.tup [str (unbytes (bytesE t)), num 0]), ([] : Heap)) = _
      rw [unbytes_bytesE]
  · rw [if_neg hl]
    refine cond_run (dec_yes ?_) rfl
    show (65536 : Int) < (((bytesE t).length : Nat) : Int)
    rw [bytesE_len]; omega

theorem okAns (t : List UInt8) : okRes PP 31 (.ret (wrAns t)) = true := by
  unfold wrAns
  split
  · exact okW31 ..
  · exact okW31 ..

end Go.Proofs.YtghdhhmlmdohkaaDoor
