/- Unquote: the program's. -/
import Derived.Test.YtmocefjnplmibaaGreatDoorQb
namespace Go.Proofs.YtmocefjnplmibaaGreatDoor
open Go Go.Den
set_option maxRecDepth 100000

def hxI (c : UInt8) : Int := Lib.indexByte digs c
theorem hx_all : ∀ k : Fin 256, -1 ≤ hxI (UInt8.ofNat k.val) ∧ hxI (UInt8.ofNat k.val) < 16 := by decide +kernel
theorem hx_of (c : UInt8) : -1 ≤ hxI c ∧ hxI c < 16 := by
  have := hx_all ⟨c.toNat, c.toNat_lt⟩
  simpa using this
theorem u8_back (c : UInt8) : ((c.toNat : Int)).toNat.toUInt8 = c := by simp
theorem or64_all : ∀ a b : Fin 16, IntKind.u8.wrap (IntKind.i64.wrap ((BitVec.ofInt 64 (IntKind.i64.wrap ((a.val : Int) * 2 ^ 4)) ||| BitVec.ofInt 64 (b.val : Int)).toNat : Int)) = 16 * (a.val : Int) + (b.val : Int) := by decide +kernel

/-- What an escape at a text's head stands for, and its length. -/
def escI (l : List UInt8) : Int × Int :=
  if l.length < 2 then (0, 0)
  else if l.getD 1 0 = 34 ∨ l.getD 1 0 = 92 then (((l.getD 1 0).toNat : Int), 2)
  else if l.getD 1 0 = 115 then (32, 2)
  else if l.getD 1 0 = 120 then (if l.length < 4 then (0, 0) else if hxI (l.getD 2 0) < 0 ∨ hxI (l.getD 3 0) < 0 then (0, 0) else (16 * hxI (l.getD 2 0) + hxI (l.getD 3 0), 4))
  else (0, 0)
theorem escI_ok (l : List UInt8) : (escI l).2 = 0 ∨ (2 ≤ (escI l).2 ∧ (escI l).2 ≤ l.length ∧ 0 ≤ (escI l).1 ∧ (escI l).1 < 256) := by
  unfold escI
  split
  · exact .inl rfl
  split
  · have := (l.getD 1 0).toNat_lt
    refine .inr ⟨Int.le_refl 2, by show (2 : Int) ≤ _; omega, by show (0 : Int) ≤ ((l.getD 1 0).toNat : Int); omega, by show ((l.getD 1 0).toNat : Int) < 256; omega⟩
  split
  · exact .inr ⟨by decide, by show (2 : Int) ≤ _; omega, by decide, by decide⟩
  split
  · split
    · exact .inl rfl
    split
    · exact .inl rfl
    · have h2 := hx_of (l.getD 2 0)
      have h3 := hx_of (l.getD 3 0)
      rename_i h
      rw [not_or] at h
      exact .inr ⟨(by decide : (2 : Int) ≤ 4), by show (4 : Int) ≤ _; omega, by show (0 : Int) ≤ 16 * hxI (l.getD 2 0) + hxI (l.getD 3 0); omega, by show 16 * hxI (l.getD 2 0) + hxI (l.getD 3 0) < 256; omega⟩
  · exact .inl rfl

theorem escaped_run (l : List UInt8) : RR none 28 [str l] [] = some (.ret (.tup [.e (.int .u8 (escI l).1), num (escI l).2]), []) := by
  refine run_of_body ((eq_escaped RR LL l).trans ?_)
  unfold escI
  by_cases h2 : l.length < 2
  · rw [if_pos h2]
    exact cond_run (dec_yes (by omega)) rfl
  rw [if_neg h2]
  refine cond_not (dec_no (by omega)) (cond_run (dec_yes (by omega)) ?_)
  have b1 : decide ((1 : Int) < (l.length : Int)) = true := dec_yes (by omega)
  rw [b1]
  have e34 := u8n (c := l.getD 1 0) (n := 34) (by decide)
  have e92 := u8n (c := l.getD 1 0) (n := 92) (by decide)
  have e115 := u8n (c := l.getD 1 0) (n := 115) (by decide)
  have e120 := u8n (c := l.getD 1 0) (n := 120) (by decide)
  change (((l.getD 1 0).toNat : Int) == 34) = decide (l.getD 1 0 = 34) at e34
  change (((l.getD 1 0).toNat : Int) == 92) = decide (l.getD 1 0 = 92) at e92
  change (((l.getD 1 0).toNat : Int) == 115) = decide (l.getD 1 0 = 115) at e115
  change (((l.getD 1 0).toNat : Int) == 120) = decide (l.getD 1 0 = 120) at e120
  rw [e34, e92, e115, e120, u8_back, u8_back]
  by_cases h34 : l.getD 1 0 = 34
  · rw [if_pos (.inl h34)]
    exact cond_run (decide_eq_true h34) (cond_run (decide_eq_true h34) rfl)
  refine cond_not (decide_eq_false h34) ?_
  by_cases h92 : l.getD 1 0 = 92
  · rw [if_pos (.inr h92)]
    exact cond_run (decide_eq_true h92) rfl
  rw [if_neg (fun h => h.elim h34 h92)]
  refine cond_not (decide_eq_false h92) ?_
  by_cases h115 : l.getD 1 0 = 115
  · rw [if_pos h115]
    exact cond_run (decide_eq_true h115) rfl
  rw [if_neg h115]
  refine cond_not (decide_eq_false h115) ?_
  by_cases h120 : l.getD 1 0 = 120
  · rw [if_pos h120]
    refine cond_run (decide_eq_true h120) ?_
    by_cases h4 : l.length < 4
    · rw [if_pos h4]
      exact cond_run (dec_yes (by omega)) rfl
    rw [if_neg h4]
    refine cond_not (dec_no (by omega)) (cond_run (dec_yes (by omega)) (cond_run (dec_yes (by omega)) ?_))
    show (bif bif decide (hxI (l.getD 2 0) < 0) then true else decide (hxI (l.getD 3 0) < 0) then _ else some (Res.ret (AV.tup [AV.e (E.int IntKind.u8 (IntKind.u8.wrap (IntKind.i64.wrap ((BitVec.ofInt 64 (IntKind.i64.wrap (hxI (l.getD 2 0) * 2 ^ 4)) ||| BitVec.ofInt 64 (hxI (l.getD 3 0))).toNat : Int)))), num 4]), ([] : Heap))) = _
    have h2' := hx_of (l.getD 2 0)
    have h3' := hx_of (l.getD 3 0)
    generalize hxI (l.getD 2 0) = a at h2' ⊢
    generalize hxI (l.getD 3 0) = b at h3' ⊢
    by_cases hab : a < 0 ∨ b < 0
    · rw [if_pos hab]
      refine cond_run ?_ rfl
      rcases hab with h | h
      · rw [dec_yes h]; rfl
      · by_cases ha : a < 0
        · rw [dec_yes ha]; rfl
        · rw [dec_no ha, dec_yes h]; rfl
    · rw [if_neg hab]
      rw [not_or] at hab
      refine cond_not (by rw [dec_no hab.1, dec_no hab.2]; rfl) ?_
      obtain ⟨x, rfl⟩ : ∃ x : Nat, a = x := ⟨a.toNat, by omega⟩
      obtain ⟨y, rfl⟩ : ∃ y : Nat, b = y := ⟨b.toNat, by omega⟩
      have := or64_all ⟨x, by omega⟩ ⟨y, by omega⟩
      dsimp only at this
      rw [this]
  · rw [if_neg h120]
    exact cond_not (decide_eq_false h120) rfl

def unqL : Nat → List UInt8 → List UInt8 → Option (List UInt8)
  | 0, _, _ => none
  | n + 1, l, acc =>
    if l = [] then some acc
    else if l.getD 0 0 ≠ 92 then unqL n (l.drop 1) (acc ++ [l.getD 0 0])
    else if (escI l).2 = 0 then none
    else unqL n (l.drop (escI l).2.toNat) (acc ++ [UInt8.ofNat (escI l).1.toNat])

abbrev unqF (s t : List UInt8) (a : List E) (i : Int) : Fr := ((((List.replicate 70 AV.undef).set 0 (.e (.str s))).set 4 (.e (.str t))).set 5 (.own 0 5 a)).set 6 (.e (.int .i64 i))
def unqX (s : List UInt8) (a : List E) : Out := { ex := .exit 0, fr := [str s, AV.undef, AV.undef, AV.undef, AV.undef, .own 0 5 a] ++ List.replicate 64 AV.undef, hp := [.vec 5 a.length], df := [] }
def unqR : Out := { ex := .ret, fr := [AV.undef, AV.undef, str [], num 2] ++ List.replicate 66 AV.undef, hp := [], df := [] }
def unqO (s : List UInt8) : Option (List UInt8) → Out
  | some a => unqX s (bytesE a)
  | none => unqR

theorem ok55 (a b : Int) : okRes PP 55 (.ret (.tup [.e (.int .u8 a), num b])) = true := by kernel_rfl

theorem unquote_loop {s t : List UInt8} (ht : t.length ≤ 100000) : ∀ (n i : Nat) (acc : List UInt8), (t.drop i).length < n → i ≤ t.length → acc.length ≤ i →
    LL 12 0 lc_12_6 (unqF s t (bytesE acc) i) [.vec 5 (bytesE acc).length] = some (unqO s (unqL n (t.drop i) acc)) := by
  intro n
  induction n with
  | zero => intro i acc h; omega
  | succ n ih =>
    intro i acc hn hi ha
    have body := eq_UnquoteL6 RR LL s t (bytesE acc) i
    rw [at_nat] at body
    unfold unqL
    by_cases hl : i = t.length
    · subst hl
      rw [List.drop_length, if_pos rfl]
      exact loop_of_body (body.trans (cond_not (end_nat _) rfl))
    have hlt : i < t.length := by omega
    have hd := dropU hlt
    have hne : t.drop i ≠ [] := by rw [hd]; simp
    have hg : (t.drop i).getD 0 0 = t.getD i 0 := by rw [hd]; rfl
    have hdl : (t.drop i).length = t.length - i := List.length_drop
    rw [if_neg hne, hg]
    have e92 := u8n (c := t.getD i 0) (n := 92) (by decide)
    change (((t.getD i 0).toNat : Int) == 92) = decide (t.getD i 0 = 92) at e92
    rw [e92] at body
    refine loop_of_body (body.trans (cond_run (lt_nat hlt) (cond_run (in_nat hlt) ?_)))
    have size : (decide ((bytesE acc).length = (bytesE acc).length) && decide (((bytesE acc).length + 1) * 1 ≤ 140737488355328)) = true := by
      rw [bytesE_len]; simp; omega
    by_cases h92 : t.getD i 0 = 92
    · rw [if_neg (fun h => h h92)]
      refine cond_not (by rw [decide_eq_true h92]; rfl) (cond_run ?_ ?_)
      · simp; omega
      have et : List.drop i (List.take ((t.length : Int)).toNat t) = t.drop i := by rw [at_nat, List.take_length]
      rw [et]
      refine bind_run (escaped_run (t.drop i)) (cond_run rfl (cond_run (ok55 _ _) ?_))
      have hok := escI_ok (t.drop i)
      show (bif (escI (t.drop i)).2 == 0 then some unqR else bif decide ((bytesE acc).length = (bytesE acc).length) && decide (((bytesE acc).length + 1) * 1 ≤ 140737488355328) then
        (LL 12 0 lc_12_6 (unqF s t (bytesE acc ++ [E.int IntKind.u8 (escI (t.drop i)).1]) (IntKind.i64.wrap ((i : Int) + (escI (t.drop i)).2))) [.vec 5 (bytesE acc ++ [E.int IntKind.u8 (escI (t.drop i)).1]).length]).bind fun o => some o else none) = _
      by_cases h0 : (escI (t.drop i)).2 = 0
      · rw [if_pos h0, h0]; rfl
      rw [if_neg h0]
      obtain ⟨k1, k2, k3, k4⟩ := hok.resolve_left h0
      refine cond_not (beq_false_of_ne h0) (cond_run size ?_)
      generalize (escI (t.drop i)).2 = m at k1 k2 h0 ⊢
      generalize (escI (t.drop i)).1 = v at k3 k4 ⊢
      obtain ⟨x, rfl⟩ : ∃ x : Nat, v = x := ⟨v.toNat, by omega⟩
      obtain ⟨y, rfl⟩ : ∃ y : Nat, m = y := ⟨m.toNat, by omega⟩
      have ev : E.int IntKind.u8 (x : Int) = E.int IntKind.u8 ((UInt8.ofNat x).toNat : Int) := by
        have : (UInt8.ofNat x).toNat = x := by simp; omega
        rw [this]
      rw [wrap_in (by omega) (by omega), ev, bytesE_snoc, show (i : Int) + (y : Int) = ((i + y : Nat) : Int) by omega, at_nat, at_nat]
      have e := ih (i + y) (acc ++ [UInt8.ofNat x]) (by rw [List.length_drop]; omega) (by omega) (by simp; omega)
      rw [e, List.drop_drop]
      rfl
    · rw [if_pos h92]
      refine cond_run (by rw [decide_eq_false h92]; rfl) (cond_run (in_nat hlt) (cond_run size ?_))
      show ((LL 12 0 lc_12_6 (unqF s t (bytesE acc ++ [E.int .u8 ((t.getD i 0).toNat : Int)]) (IntKind.i64.wrap ((i : Int) + 1))) [.vec 5 (bytesE acc ++ [E.int .u8 ((t.getD i 0).toNat : Int)]).length]).bind fun o => some o) = _
      rw [bytesE_snoc, wrap_nat hlt (by rw [maxLen_eq]; omega)]
      have e := ih (i + 1) (acc ++ [t.getD i 0]) (by rw [List.length_drop]; omega) (by omega) (by simp; omega)
      rw [e, List.drop_drop]
      rfl

end Go.Proofs.YtmocefjnplmibaaGreatDoor
