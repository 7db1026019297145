/- The program's Write: texts in quotes. -/
import Derived.Test.YtghdhhmlmdohkaaDoorWe
import Derived.Test.YtghdhhmlmdohkaaDoorKd
namespace Go.Proofs.YtghdhhmlmdohkaaDoor
open Go Go.Den
set_option maxRecDepth 100000

/-- A builder with these bytes. -/
abbrev bldO (b : List E) : Ob := .box [.nsp 0 69, .own 1 5 b]
abbrev bldE (b : List E) : Heap := [bldO b, .vec 5 b.length]
abbrev bld (b : List UInt8) : Heap := bldE (bytesE b)

theorem bytesE_app (a b : List UInt8) : bytesE a ++ bytesE b = bytesE (a ++ b) := by simp [bytesE]

theorem hex_hi : ∀ k : Fin 256, (([48, 49, 50, 51, 52, 53, 54, 55, 56, 57, 97, 98, 99, 100, 101, 102] : List UInt8).getD ((k.val : Int).fdiv (2 ^ 4)).toNat 0) = hexC (k.val / 16) := by decide +kernel
theorem hex_lo : ∀ k : Fin 256, (([48, 49, 50, 51, 52, 53, 54, 55, 56, 57, 97, 98, 99, 100, 101, 102] : List UInt8).getD (IntKind.u8.wrap ((((BitVec.ofInt 8 (k.val : Int) &&& BitVec.ofInt 8 15).toNat : Nat)) : Int)).toNat 0) = hexC (k.val % 16) := by decide +kernel
theorem hex_in : ∀ k : Fin 256, (decide (0 ≤ (k.val : Int).fdiv (2 ^ 4)) && decide ((k.val : Int).fdiv (2 ^ 4) < ((16 : Nat) : Int))) = true ∧ decide (IntKind.u8.wrap ((((BitVec.ofInt 8 (k.val : Int) &&& BitVec.ofInt 8 15).toNat : Nat)) : Int) < ((16 : Nat) : Int)) = true := by decide +kernel

abbrev quoF (x : List UInt8) (i : Nat) : Fr := ((((List.replicate 53 AV.undef).set 0 (.ptr 0 0)).set 1 (.e (.str x))).set 9 (.e (.int .i64 (x.length : Int)))).set 10 (.e (.int .i64 (i : Int)))
theorem quote_loop {x : List UInt8} (hx : x.length ≤ 100000) : ∀ (j i : Nat) (b : List UInt8), i + j = x.length → b.length + 4 * j ≤ 100000000 →
    LL 90 2 lc_90_2 (((((List.replicate 53 AV.undef).set 0 (.ptr 0 0)).set 1 (.e (.str x))).set 9 (.e (.int .i64 (x.length : Int)))).set 10 (.e (.int .i64 (i : Int)))) (bld b) =
      some { ex := .exit 0, fr := [.ptr 0 0] ++ List.replicate 52 AV.undef, hp := bld (b ++ (x.drop i).flatMap escS), df := [] } := by
  intro j
  induction j with
  | zero =>
    intro i b h hb
    have : i = x.length := by omega
    subst this
    rw [List.drop_length, List.flatMap_nil, List.append_nil]
    exact loop_of_body ((eq_quoteL2 RR LL (bytesE b) x x.length x.length).trans (cond_not (end_nat _) rfl))
  | succ j ih =>
    intro i b h hb
    have hi : i < x.length := by omega
    have hd' : x.drop i = x.getD i 0 :: x.drop (i + 1) := dropU hi
    rw [hd', List.flatMap_cons, ← List.append_assoc]
    have next := fun b' hb' => ih (i + 1) b' (by omega) hb'
    refine loop_of_body ((eq_quoteL2 RR LL (bytesE b) x x.length i).trans (cond_run (lt_nat hi) (cond_run (in_nat hi) ?_)))
    rw [at_nat, wrap_nat hi (by rw [maxLen_eq]; omega)]
    generalize x.getD i 0 = c at *
    have e34 : ((c.toNat : Int) == 34) = (c == 34) := u8_eq (b := 34)
    have e92 : ((c.toNat : Int) == 92) = (c == 92) := u8_eq (b := 92)
    have elo := lt_int c 32
    have ehi := lt_int 126 c
    change decide ((c.toNat : Int) < 32) = _ at elo
    change decide ((126 : Int) < (c.toNat : Int)) = _ at ehi
    have bl := bytesE_len b
    by_cases h1 : c = 34 ∨ c = 92
    · have e : escS c = [92, c] := by unfold escS; rw [if_pos h1]
      refine cond_run ?_ (cond_run (by rw [bl]; simp; omega) (cond_run (by rw [List.length_append, bl]; simp; omega) (bind_run ?_ rfl)))
      · rw [e34, e92]
        rcases h1 with h1 | h1 <;> rw [h1] <;> rfl
      · have e2 : bytesE b ++ ((5, [E.int .u8 92]) : TypeId × List E).snd ++ ((5, [E.int .u8 (c.toNat : Int)]) : TypeId × List E).snd = bytesE (b ++ escS c) := by
          rw [e, ← bytesE_app, List.append_assoc]; rfl
        exact (congrArg (fun z => LL 90 2 lc_90_2 (quoF x (i + 1)) (bldE z)) e2).trans (next (b ++ escS c) (by rw [e]; simp; omega))
    · have n1 : (bif c == 34 then true else c == 92) = false := by
        rw [beq_false_of_ne (fun h => h1 (.inl h)), beq_false_of_ne (fun h => h1 (.inr h))]; rfl
      refine cond_not (by rw [e34, e92]; exact n1) ?_
      by_cases h2 : c < 32 ∨ 126 < c
      · have e : escS c = [92, 120, hexC (c.toNat / 16), hexC (c.toNat % 16)] := by unfold escS; rw [if_neg h1, if_pos h2]
        have a1 := hex_hi ⟨c.toNat, c.toNat_lt⟩
        have a2 := hex_lo ⟨c.toNat, c.toNat_lt⟩
        obtain ⟨a3, a4⟩ := hex_in ⟨c.toNat, c.toNat_lt⟩
        simp only at a1 a2 a3 a4
        rw [a1, a2]
        refine cond_run ?_ (cond_run (by rw [bl]; simp; omega) (cond_run a3 (cond_run ?_ (cond_run a4 (cond_run ?_ (bind_run ?_ rfl))))))
        · rw [elo, ehi]
          rcases h2 with h2 | h2
          · rw [decide_eq_true h2]; rfl
          · rw [decide_eq_true h2]; cases decide (c < 32) <;> rfl
        · simp [bytesE]; omega
        · simp [bytesE]; omega
        · have e2 : bytesE b ++ [E.int .u8 ((92 : Nat) : Int), E.int .u8 ((120 : Nat) : Int)] ++ ((5, [E.int .u8 ((hexC (c.toNat / 16)).toNat : Int)]) : TypeId × List E).snd ++ ((5, [E.int .u8 ((hexC (c.toNat % 16)).toNat : Int)]) : TypeId × List E).snd = bytesE (b ++ escS c) := by
            rw [e, ← bytesE_app, List.append_assoc, List.append_assoc]; rfl
          exact (congrArg (fun z => LL 90 2 lc_90_2 (quoF x (i + 1)) (bldE z)) e2).trans (next (b ++ escS c) (by rw [e]; simp; omega))
      · have e : escS c = [c] := by unfold escS; rw [if_neg h1, if_neg h2]
        refine cond_not ?_ (cond_run (by rw [bl]; simp; omega) (bind_run ?_ rfl))
        · rw [elo, ehi, decide_eq_false (fun h => h2 (.inl h)), decide_eq_false (fun h => h2 (.inr h))]; rfl
        · have e2 : bytesE b ++ ((5, [E.int .u8 (c.toNat : Int)]) : TypeId × List E).snd = bytesE (b ++ escS c) := by
            rw [e, ← bytesE_app]; rfl
          exact (congrArg (fun z => LL 90 2 lc_90_2 (quoF x (i + 1)) (bldE z)) e2).trans (next (b ++ escS c) (by rw [e]; simp; omega))

theorem quote_run {x b : List UInt8} (hx : x.length ≤ 100000) (hb : b.length ≤ 90000000) : RR none 90 [.ptr 0 0, str x] (bld b) = some (.ret (.tup []), bld (b ++ quotS x)) := by
  have e := quote_loop hx x.length 0 (b ++ [34]) (by omega) (by simp; omega)
  rw [List.drop_zero] at e
  have e0 : bytesE b ++ ((5, [E.int .u8 34]) : TypeId × List E).snd = bytesE (b ++ [34]) := by rw [← bytesE_app]; rfl
  have e := (congrArg (fun z => LL 90 2 lc_90_2 (quoF x 0) (bldE z)) e0).trans e
  have hlen : (x.flatMap escS).length ≤ 4 * x.length := by
    have : ∀ y : List UInt8, (y.flatMap escS).length ≤ 4 * y.length := by
      intro y
      induction y with
      | nil => simp
      | cons c y ih =>
        have : (escS c).length ≤ 4 := by unfold escS; split; simp; split <;> simp
        rw [List.flatMap_cons, List.length_append, List.length_cons]; omega
    exact this x
  have bl := bytesE_len b
  refine run_of_body ((eq_quote RR LL (bytesE b) x).trans (cond_run (by rw [bl]; simp; omega) (bind_run e (cond_run rfl (cond_run (by kernel_rfl) (cond_run ?_ ?_))))))
  · show (decide ((bytesE (b ++ [34] ++ x.flatMap escS)).length = (bytesE (b ++ [34] ++ x.flatMap escS)).length) && decide (((bytesE (b ++ [34] ++ x.flatMap escS)).length + 1) * 1 ≤ 140737488355328)) = true
    rw [bytesE_len, decide_eq_true rfl, Bool.true_and]
    refine decide_eq_true ?_
    simp only [List.length_append, List.length_singleton]
    omega
  · have e2 : bytesE (b ++ [34] ++ x.flatMap escS) ++ ((5, [E.int .u8 34]) : TypeId × List E).snd = bytesE (b ++ quotS x) := by
      have e3 : b ++ quotS x = b ++ [34] ++ x.flatMap escS ++ [34] := by unfold quotS; simp
      rw [e3, ← bytesE_app (b ++ [34] ++ x.flatMap escS)]; rfl
    exact congrArg (fun z => some (Res.ret (.tup []), bldE z)) e2

end Go.Proofs.YtghdhhmlmdohkaaDoor
