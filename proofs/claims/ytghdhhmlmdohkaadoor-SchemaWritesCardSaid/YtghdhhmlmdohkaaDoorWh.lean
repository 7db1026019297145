/- The program's Write of a value that is right. -/
import Derived.Test.YtghdhhmlmdohkaaDoorWg
import Derived.Test.YtghdhhmlmdohkaaDoorVb
namespace Go.Proofs.YtghdhhmlmdohkaaDoor
open Go Go.Den
set_option maxRecDepth 100000

theorem okW31 (s : List UInt8) (e : Int) : okRes PP 31 (.ret (.tup [str s, num e])) = true := by kernel_rfl
theorem Write_run {v : E} (fv : FulV 9 38 6 v) (hv : Val v) (hw : (writS 6 v).length ≤ 65536) : RR none 21 [slotsOf v] [] = some (.ret (.tup [str (writS 6 v), num 0]), []) := by
  obtain ⟨c1, c2⟩ := ful_check 6 v fv
  have e1 := depth_run 6 v (by omega) hv
  have e2 := valid_run 6 v c2 hv
  rw [c1] at e2
  have hd : ¬ (6 : Int) < ((depthS 6 v : Nat) : Int) := by
    have h1 := depthS_le 6 v
    have h2 := depthS_deep 6 v
    rw [c2] at h2
    have : depthS 6 v ≠ 7 := fun e => by cases h2.1 e
    omega
  have e3 := put_run 6 v (by omega) fv hv (by omega) [] (by simp)
  rcases e3 with ⟨_, e3⟩ | ⟨h, _⟩
  · cases hv with
    | mk k n x ns vs =>
    generalize hwt : writS 6 (E.agg [E.int .i64 k, E.int .i64 n, E.str x, E.sl 9 ns, E.sl 38 vs]) = t at e3 hw ⊢
    refine run_of_body ((eq_Write RR LL k n x ns vs).trans (callN e1 (cond_not (dec_no hd) (callE e2 (cond_not rfl ?_)))))
    refine bind_run e3 (cond_run rfl (cond_run rfl (cond_not rfl (cond_run ?_ ?_))))
    · show (decide ((bytesE ([] ++ t)).length = (bytesE ([] ++ t)).length) && (bytesE ([] ++ t)).all isByte && decide ((bytesE ([] ++ t)).length ≤ 9223372036854775807)) = true
      rw [isByte_bytesE, bytesE_len, List.nil_append]
      simp; omega
    · show some (Res.ret (.tup [str (unbytes (bytesE ([] ++ t))), num 0]), ([] : Heap)) = _
      rw [unbytes_bytesE, List.nil_append]
  · simp at h; omega

end Go.Proofs.YtghdhhmlmdohkaaDoor
