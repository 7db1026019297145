/- Quote: the program's and the reference's. -/
import Derived.Test.YtmocefjnplmibaaGreatDoorQe
namespace Go.Proofs.YtmocefjnplmibaaGreatDoor
open Go Go.Den
set_option maxRecDepth 100000

noncomputable abbrev RR := run Go.Proofs.Tryz.prog HH
noncomputable abbrev LL := loop Go.Proofs.Tryz.prog HH

theorem at_nat (i : Nat) : ((i : Int)).toNat = i := by omega
theorem wrap_nat {i n : Nat} (h : i < n) (hn : n ≤ maxLen) : IntKind.i64.wrap ((i : Int) + 1) = ((i + 1 : Nat) : Int) := by
  rw [maxLen_eq] at hn
  rw [wrap_in (by omega) (by omega)]
  omega
theorem in_nat {i n : Nat} (h : i < n) : (decide ((0 : Int) ≤ (i : Int)) && decide ((i : Int) < (n : Int))) = true := by
  simp; omega
theorem lt_nat {i n : Nat} (h : i < n) : decide ((i : Int) < (n : Int)) = true := by simp; omega
theorem end_nat (n : Nat) : decide ((n : Int) < (n : Int)) = false := by simp
theorem bytesE_snoc (a : List UInt8) (c : UInt8) : bytesE a ++ [.int .u8 (c.toNat : Int)] = bytesE (a ++ [c]) := by
  simp [bytesE]
theorem bytesE_len (a : List UInt8) : (bytesE a).length = a.length := by simp [bytesE]
theorem dropU {s : List UInt8} {i : Nat} (h : i < s.length) : s.drop i = s.getD i 0 :: s.drop (i + 1) := by
  rw [List.getD_eq_getElem?_getD, List.getElem?_eq_getElem h]; exact List.drop_eq_getElem_cons h
theorem okStr (s : List UInt8) : okRes PP 9 (.ret (str s)) = true := by kernel_rfl
theorem callT {β : Type} {x : Option (Res × Heap)} {s : List UInt8} {K : Res × Heap → Option β} {r : Option β} (h : x = some (.ret (str s), [])) (hK : K (.ret (str s), []) = r) :
    (x.bind fun rh => bif okHeap [] rh.2 then bif okRes PP 9 rh.1 then K rh else none else none) = r :=
  bind_run h (cond_run rfl (cond_run (okStr s) hK))

abbrev digs : List UInt8 := [48, 49, 50, 51, 52, 53, 54, 55, 56, 57, 97, 98, 99, 100, 101, 102]
/-- A byte, quoted. -/
def escQ (c : UInt8) : List UInt8 :=
  if c = 34 ∨ c = 92 then [92, c] else if c = 32 then [92, 115] else if 32 < c.toNat ∧ c.toNat < 127 then [c] else [92, 120, digs.getD (c.toNat / 16) 0, digs.getD (c.toNat % 16) 0]
theorem escQ_len (c : UInt8) : (escQ c).length ≤ 4 := by
  unfold escQ
  split
  · simp
  split
  · simp
  split <;> simp
def quoB (s : List UInt8) : List UInt8 := s.flatMap escQ
theorem quoB_len (s : List UInt8) : (quoB s).length ≤ 4 * s.length := by
  induction s with
  | nil => simp [quoB]
  | cons c s ih =>
    have := escQ_len c
    show (escQ c ++ quoB s).length ≤ _
    rw [List.length_append, List.length_cons]; omega
def quoS (s : List UInt8) : List UInt8 := 34 :: quoB s ++ [34]

theorem hi_all : ∀ k : Fin 256, (decide (0 ≤ ((k.val : Int)).fdiv (2 ^ 4)) && decide (((k.val : Int)).fdiv (2 ^ 4) < ((16 : Nat) : Int))) = true ∧ (((k.val : Int)).fdiv (2 ^ 4)).toNat = k.val / 16 := by decide +kernel
theorem lo_all : ∀ k : Fin 256, decide (IntKind.u8.wrap ((BitVec.ofInt 8 (k.val : Int) &&& BitVec.ofInt 8 15).toNat : Int) < ((16 : Nat) : Int)) = true ∧ (IntKind.u8.wrap ((BitVec.ofInt 8 (k.val : Int) &&& BitVec.ofInt 8 15).toNat : Int)).toNat = k.val % 16 := by decide +kernel
theorem rhi_all : ∀ k : Fin 256, (decide (0 ≤ IntKind.u8.wrap (((k.val : Int)).tdiv 16)) && decide (IntKind.u8.wrap (((k.val : Int)).tdiv 16) < ((16 : Nat) : Int))) = true ∧ (IntKind.u8.wrap (((k.val : Int)).tdiv 16)).toNat = k.val / 16 := by decide +kernel
theorem rlo_all : ∀ k : Fin 256, (decide (0 ≤ ((k.val : Int)).tmod 16) && decide (((k.val : Int)).tmod 16 < ((16 : Nat) : Int))) = true ∧ (((k.val : Int)).tmod 16).toNat = k.val % 16 := by decide +kernel

abbrev quoF (s : List UInt8) (a : List E) (i : Int) : Fr := (((List.replicate 57 AV.undef).set 0 (.e (.str s))).set 3 (.own 0 5 a)).set 4 (.e (.int .i64 i))
def quoX (a : List E) : Out := { ex := .exit 0, fr := [AV.undef, AV.undef, AV.undef, .own 0 5 a] ++ List.replicate 53 AV.undef, hp := [.vec 5 a.length], df := [] }

theorem u8n {c : UInt8} {n : Nat} (hn : n < 256) : (((c.toNat : Int)) == (n : Int)) = decide (c = UInt8.ofNat n) := by
  have : (c = UInt8.ofNat n) ↔ c.toNat = n := by
    constructor
    · rintro rfl; simp; omega
    · intro h; rw [← h]; simp
  by_cases h : c.toNat = n
  · rw [decide_eq_true (this.2 h)]; simp [h]
  · rw [decide_eq_false (fun e => h (this.1 e))]
    simp; omega

theorem quote_loop {s : List UInt8} (hs : s.length ≤ 100000) : ∀ (j i : Nat) (acc : List UInt8), i + j = s.length → acc.length + 4 * j ≤ 1000000 →
    LL 14 0 lc_14_3 (quoF s (bytesE acc) i) [.vec 5 (bytesE acc).length] = some (quoX (bytesE (acc ++ quoB (s.drop i)))) := by
  intro j
  induction j with
  | zero =>
    intro i acc h hl
    have : i = s.length := by omega
    subst this
    rw [List.drop_length]
    refine loop_of_body ((eq_QuoteL3 RR LL s (bytesE acc) s.length).trans (cond_not (end_nat _) ?_))
    show _ = some (quoX (bytesE (acc ++ [])))
    rw [List.append_nil]; rfl
  | succ j ih =>
    intro i acc h hl
    have hi : i < s.length := by omega
    have body := eq_QuoteL3 RR LL s (bytesE acc) i
    rw [at_nat, wrap_nat hi (by rw [maxLen_eq]; omega)] at body
    refine loop_of_body (body.trans (cond_run (lt_nat hi) (cond_run (in_nat hi) ?_)))
    rw [dropU hi]
    generalize s.getD i 0 = c
    have next : ∀ (x : List UInt8), escQ c = x → x.length ≤ 4 → (LL 14 0 lc_14_3 (quoF s (bytesE acc ++ bytesE x) ((i + 1 : Nat) : Int)) [.vec 5 (bytesE acc ++ bytesE x).length]).bind (fun o => some o) = some (quoX (bytesE (acc ++ quoB (c :: s.drop (i + 1))))) := by
      intro x hx hx4
      have e : bytesE acc ++ bytesE x = bytesE (acc ++ x) := by simp [bytesE]
      rw [e, ih (i + 1) (acc ++ x) (by omega) (by rw [List.length_append]; omega)]
      show some (quoX (bytesE (acc ++ x ++ quoB (s.drop (i + 1))))) = some (quoX (bytesE (acc ++ (escQ c ++ quoB (s.drop (i + 1))))))
      rw [hx, List.append_assoc]
    have size : ∀ n : Nat, n ≤ 4 → (decide ((bytesE acc).length = (bytesE acc).length) && decide (((bytesE acc).length + n) * 1 ≤ 140737488355328)) = true := by
      intro n hn
      rw [bytesE_len]; simp; omega
    have e34 := u8n (c := c) (n := 34) (by decide)
    have e92 := u8n (c := c) (n := 92) (by decide)
    have e32 := u8n (c := c) (n := 32) (by decide)
    change ((c.toNat : Int) == 34) = decide (c = 34) at e34
    change ((c.toNat : Int) == 92) = decide (c = 92) at e92
    change ((c.toNat : Int) == 32) = decide (c = 32) at e32
    rw [e34, e92, e32]
    by_cases h1 : c = 34 ∨ c = 92
    · have hx : escQ c = [92, c] := if_pos h1
      exact cond_run (by rcases h1 with rfl | rfl <;> rfl) (cond_run (size 2 (by decide)) (next [92, c] hx (by simp)))
    · rw [not_or] at h1
      refine cond_not (by rw [decide_eq_false h1.1, decide_eq_false h1.2]; rfl) ?_
      by_cases h2 : c = 32
      · have hx : escQ c = [92, 115] := by unfold escQ; rw [if_neg (by simp [h1]), if_pos h2]
        exact cond_run (decide_eq_true h2) (cond_run (size 2 (by decide)) (next [92, 115] hx (by decide)))
      refine cond_not (decide_eq_false h2) ?_
      by_cases h3 : 32 < c.toNat ∧ c.toNat < 127
      · have hx : escQ c = [c] := by unfold escQ; rw [if_neg (by simp [h1]), if_neg h2, if_pos h3]
        exact cond_run (by rw [dec_yes (by omega), dec_yes (by omega)]; rfl) (cond_run (size 1 (by decide)) (next [c] hx (by simp)))
      have hx : escQ c = [92, 120, digs.getD (c.toNat / 16) 0, digs.getD (c.toNat % 16) 0] := by unfold escQ; rw [if_neg (by simp [h1]), if_neg h2, if_neg h3]
      obtain ⟨p1, p2⟩ := hi_all ⟨c.toNat, c.toNat_lt⟩
      obtain ⟨p3, p4⟩ := lo_all ⟨c.toNat, c.toNat_lt⟩
      dsimp only at p1 p2 p3 p4
      refine cond_not ?_ (cond_run p1 (cond_run p3 ?_))
      · by_cases h4 : 32 < c.toNat
        · rw [dec_yes (by omega)]; exact dec_no (by omega)
        · rw [dec_no (by omega)]; rfl
      rw [p2, p4]
      exact cond_run (size 4 (by decide)) (next _ hx (by simp))

theorem Quote_run {s : List UInt8} (hs : s.length ≤ 100000) : RR none 14 [str s] [] = some (.ret (str (quoS s)), []) := by
  have e := quote_loop hs s.length 0 [34] (by omega) (by simp; omega)
  rw [List.drop_zero] at e
  have hl := quoB_len s
  refine run_of_body ((eq_Quote RR LL s).trans (bind_run e (cond_run rfl (cond_run (by kernel_rfl) (cond_run ?_ (cond_run ?_ ?_))))))
  · show (decide ((bytesE ([34] ++ quoB s)).length = (bytesE ([34] ++ quoB s)).length) && decide (((bytesE ([34] ++ quoB s)).length + 1) * 1 ≤ 140737488355328)) = true
    rw [bytesE_len]; simp; omega
  · show (bytesE ([34] ++ quoB s) ++ [E.int .u8 34]).all isByte = true
    rw [show bytesE ([34] ++ quoB s) ++ [E.int .u8 34] = bytesE ([34] ++ quoB s ++ [34]) from bytesE_snoc _ 34]
    exact isByte_bytesE _
  · show some (Res.ret (str (unbytes (bytesE ([34] ++ quoB s) ++ [E.int .u8 34]))), ([] : Heap)) = _
    rw [show bytesE ([34] ++ quoB s) ++ [E.int .u8 34] = bytesE ([34] ++ quoB s ++ [34]) from bytesE_snoc _ 34, unbytes_bytesE]
    rfl

end Go.Proofs.YtmocefjnplmibaaGreatDoor
