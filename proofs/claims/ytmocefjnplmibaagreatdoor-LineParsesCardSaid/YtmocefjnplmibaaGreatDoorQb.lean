/- Quote: the reference's. -/
import Derived.Test.YtmocefjnplmibaaGreatDoorQa
namespace Go.Proofs.YtmocefjnplmibaaGreatDoor
open Go Go.Den
set_option maxRecDepth 100000

theorem unb1 (c : UInt8) : unbytes [E.int .u8 (c.toNat : Int)] = [c] := unbytes_bytesE [c]
theorem byt1 (c : UInt8) : ([E.int .u8 (c.toNat : Int)]).all isByte = true := isByte_bytesE [c]

theorem rescaped_run (c : UInt8) : RR none 30 [.e (.int .u8 (c.toNat : Int))] [] = some (.ret (str (escQ c)), []) := by
  refine run_of_body ((eq_rescaped RR LL c.toNat).trans ?_)
  have e34 := u8n (c := c) (n := 34) (by decide)
  have e92 := u8n (c := c) (n := 92) (by decide)
  have e32 := u8n (c := c) (n := 32) (by decide)
  change ((c.toNat : Int) == 34) = decide (c = 34) at e34
  change ((c.toNat : Int) == 92) = decide (c = 92) at e92
  change ((c.toNat : Int) == 32) = decide (c = 32) at e32
  rw [e34, e92, e32]
  by_cases h1 : c = 34 ∨ c = 92
  · have hx : escQ c = [92, c] := if_pos h1
    rw [hx, unb1]
    exact cond_run (by rcases h1 with rfl | rfl <;> rfl) (cond_run (byt1 c) rfl)
  · rw [not_or] at h1
    refine cond_not (by rw [decide_eq_false h1.1, decide_eq_false h1.2]; rfl) ?_
    by_cases h2 : c = 32
    · have hx : escQ c = [92, 115] := by unfold escQ; rw [if_neg (by simp [h1]), if_pos h2]
      rw [hx]
      exact cond_run (decide_eq_true h2) rfl
    refine cond_not (decide_eq_false h2) ?_
    by_cases h3 : 32 < c.toNat ∧ c.toNat < 127
    · have hx : escQ c = [c] := by unfold escQ; rw [if_neg (by simp [h1]), if_neg h2, if_pos h3]
      rw [hx, unb1]
      exact cond_run (by rw [dec_yes (by omega), dec_yes (by omega)]; rfl) (cond_run (byt1 c) rfl)
    have hx : escQ c = [92, 120, digs.getD (c.toNat / 16) 0, digs.getD (c.toNat % 16) 0] := by unfold escQ; rw [if_neg (by simp [h1]), if_neg h2, if_neg h3]
    obtain ⟨p1, p2⟩ := rhi_all ⟨c.toNat, c.toNat_lt⟩
    obtain ⟨p3, p4⟩ := rlo_all ⟨c.toNat, c.toNat_lt⟩
    dsimp only at p1 p2 p3 p4
    refine cond_not ?_ (cond_run p1 (cond_run p3 ?_))
    · by_cases h4 : 32 < c.toNat
      · rw [dec_yes (by omega)]; exact dec_no (by omega)
      · rw [dec_no (by omega)]; rfl
    rw [p2, p4, hx]
    generalize digs.getD (c.toNat / 16) 0 = a
    generalize digs.getD (c.toNat % 16) 0 = b
    exact cond_run (isByte_bytesE [a, b]) (congrArg (fun q => some (Res.ret (str ([92, 120] ++ q)), ([] : Heap))) (unbytes_bytesE [a, b]))

abbrev rquF (s t : List UInt8) (i : Int) : Fr := (((List.replicate 19 AV.undef).set 0 (.e (.str s))).set 3 (.e (.str t))).set 4 (.e (.int .i64 i))
def rquX (t : List UInt8) : Out := { ex := .exit 0, fr := [AV.undef, AV.undef, AV.undef, str t] ++ List.replicate 15 AV.undef, hp := [], df := [] }
theorem rquote_loop {s : List UInt8} (hs : s.length ≤ 100000) : ∀ (j i : Nat) (acc : List UInt8), i + j = s.length → acc.length + 4 * j ≤ 1000000 →
    LL 15 0 lc_15_3 (rquF s acc i) [] = some (rquX (acc ++ quoB (s.drop i))) := by
  intro j
  induction j with
  | zero =>
    intro i acc h hl
    have : i = s.length := by omega
    subst this
    rw [List.drop_length]
    refine loop_of_body ((eq_RQuoteL3 RR LL s acc s.length).trans (cond_not (end_nat _) ?_))
    show _ = some (rquX (acc ++ []))
    rw [List.append_nil]; rfl
  | succ j ih =>
    intro i acc h hl
    have hi : i < s.length := by omega
    have body := eq_RQuoteL3 RR LL s acc i
    rw [at_nat, wrap_nat hi (by rw [maxLen_eq]; omega)] at body
    refine loop_of_body (body.trans (cond_run (lt_nat hi) (cond_run (in_nat hi) ?_)))
    rw [dropU hi]
    generalize s.getD i 0 = c
    have h4 := escQ_len c
    refine callT (rescaped_run c) (cond_run ?_ ?_)
    · show decide (acc.length + (escQ c).length ≤ 9223372036854775807) = true
      exact dec_yes (by omega)
    · show ((LL 15 0 lc_15_3 (rquF s (acc ++ escQ c) ((i + 1 : Nat) : Int)) []).bind fun o => some o) = _
      rw [ih (i + 1) (acc ++ escQ c) (by omega) (by rw [List.length_append]; omega), List.append_assoc]
      rfl

theorem RQuote_run {s : List UInt8} (hs : s.length ≤ 100000) : RR none 15 [str s] [] = some (.ret (str (quoS s)), []) := by
  have e := rquote_loop hs s.length 0 [34] (by omega) (by simp; omega)
  rw [List.drop_zero] at e
  have hl := quoB_len s
  refine run_of_body ((eq_RQuote RR LL s).trans (bind_run e (cond_run rfl (cond_run (by kernel_rfl) (cond_run ?_ rfl)))))
  show decide (([34] ++ quoB s).length + 1 ≤ 9223372036854775807) = true
  refine dec_yes ?_
  simp; omega

end Go.Proofs.YtmocefjnplmibaaGreatDoor
